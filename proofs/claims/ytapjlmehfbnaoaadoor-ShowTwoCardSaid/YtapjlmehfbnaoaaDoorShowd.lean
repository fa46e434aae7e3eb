/- Layer 22: places in memory, stores. Conditions: the table of powers of ten is laid. -/
import Derived.Test.YtapjlmehfbnaoaaDoorShowc
import Derived.Test.YtapjlmehfbnaoaaDoorPlan
namespace Go.Proofs.YtapjlmehfbnaoaaDoor
open Go Go.RowKit Go.Proofs
open Go.Lib (hid)

def WordsAt (w : World) (r : Nat) : Prop := w.heap[r]? = some (.map (wordsE wordsP 0).toArray 23)
theorem words_b (w : World) : Calls Tryd.prog 89 #[] w fun e w' => e = .returned (.map (some w.heap.size)) ∧ WordsAt w' w.heap.size ∧ Below w.heap.size w w' := by
  refine (words_c w).mono ?_
  rintro e w' ⟨rfl, rfl⟩
  exact ⟨rfl, heap_alloc_new _ _, below_alloc1 _ _⟩
theorem WordsAt.run {w : World} {r : Nat} (h : WordsAt w r) (op : Int) : (Instr.lookup 131 (.map (some r)) (.int .u8 op) false).run Tryd.prog w = .ok (.agg #[.string ⟨(wordP wordsP op).toArray⟩]) w := run_words w r 23 h op
theorem WordsAt.below {w w' : World} {r : Nat} (h : WordsAt w r) (hb : Below w.heap.size w w') : WordsAt w' r := by
  have hlt : r < w.heap.size := (Array.getElem?_eq_some_iff.1 h).1
  exact (hb.block r hlt).trans h

theorem wordP_len' (op : Int) (l : List (Int × List UInt8)) (h : ∀ p ∈ l, p.2.length ≤ 7) : (wordP l op).length ≤ 7 := by
  induction l with
  | nil => simp [wordP]
  | cons p l ih =>
    unfold wordP
    split
    · exact h p List.mem_cons_self
    · exact ih fun q hq => h q (List.mem_cons_of_mem _ hq)
theorem wordP_len (op : Int) : (wordP wordsP op).length ≤ 7 := wordP_len' op _ (by decide)
theorem immP_len (i : Ins) (hi : i.ok) : (immP i).length ≤ 23 := by
  have := Lib.itoa_length_le i.imm hi.imm.1 hi.imm.2
  unfold immP
  split <;> simp <;> omega
theorem run_field_word (s : ByteArray) (w : World) : (Instr.field 130 (.agg #[.string s]) 0).run Tryd.prog w = .ok (.string s) w := by kernel_rfl

theorem run_cat (a b : List UInt8) (h : a.length + b.length ≤ 8388608) (w : World) : (binOp .add 9 (.string ⟨a.toArray⟩) (.string ⟨b.toArray⟩)).run Tryd.prog w = .ok (.string ⟨(a ++ b).toArray⟩) w := by
  have h1 : (Op.stringOp .add ⟨a.toArray⟩ ⟨b.toArray⟩).run Tryd.prog w = .ok (.string (ByteArray.mk a.toArray ++ ByteArray.mk b.toArray)) w := run_string_add_sum w _ _ (by simp [ByteArray.size]; omega)
  rw [ByteArray.mk_append_mk] at h1
  simpa [binOp] using h1

def placeP (i : Ins) : List UInt8 := wordP wordsP i.op ++ [40] ++ (114 :: Lib.decDigits i.s.toNat) ++ [43] ++ immP i ++ [41]

set_option maxHeartbeats 8000000 in
set_option maxRecDepth 100000 in
theorem place_c (i : Ins) (hi : i.ok) (hs : i.s < 100) (w : World) (hp : Pow w) : Calls Tryd.prog 53 #[.agg #[.int .u8 i.op, .int .u8 i.d, .int .u8 i.s, .int .u8 i.t, .int .u8 i.n, .int .u8 i.pred, .int .u8 i.mode, .bool i.nw, .bool i.ext, .int .u16 i.count, .int .i64 i.imm]] w fun e w' => e = .returned (.string ⟨(placeP i).toArray⟩) ∧ Below w.heap.size w w' := by
  have HW := hid words_b
  have HR := hid (reg_c i.s hi.s.1 hs)
  have HI := hid (imm_s i hi)
  have HP := hid hp
  have hfd := fun (s : ByteArray) (w : World) => run_field_word s w
  have hl1 := wordP_len i.op
  have hl2 := dec_len i.s.toNat (by have := hi.s; omega)
  have hl3 := immP_len i hi
  have ha1 := run_cat (wordP wordsP i.op) [40] (by simp; omega)
  have ha2 := run_cat (wordP wordsP i.op ++ [40]) (114 :: Lib.decDigits i.s.toNat) (by simp; omega)
  have ha3 := run_cat (wordP wordsP i.op ++ [40] ++ 114 :: Lib.decDigits i.s.toNat) [43] (by simp; omega)
  have ha4 := run_cat (wordP wordsP i.op ++ [40] ++ 114 :: Lib.decDigits i.s.toNat ++ [43]) (immP i) (by simp; omega)
  have ha5 := run_cat (wordP wordsP i.op ++ [40] ++ 114 :: Lib.decDigits i.s.toNat ++ [43] ++ immP i) [41] (by simp; omega)
  clear hi hs hp
  go_enter Tryd.func53, Tryd.ntmps53
  go_wp2_with fail
  have hS0 : ∀ o, (w.alloc (.cells #[.int .u8 i.op, .int .u8 i.d, .int .u8 i.s, .int .u8 i.t, .int .u8 i.n, .int .u8 i.pred, .int .u8 i.mode, .bool i.nw, .bool i.ext, .int .u16 i.count, .int .i64 i.imm] 24)).drew.cell? ⟨w.heap.size, o, none⟩ = ([.int .u8 i.op, .int .u8 i.d, .int .u8 i.s, .int .u8 i.t, .int .u8 i.n, .int .u8 i.pred, .int .u8 i.mode, .bool i.nw, .bool i.ext, .int .u16 i.count, .int .i64 i.imm] : List Value)[o]? := (block_cells (l := [.int .u8 i.op, .int .u8 i.d, .int .u8 i.s, .int .u8 i.t, .int .u8 i.n, .int .u8 i.pred, .int .u8 i.mode, .bool i.nw, .bool i.ext, .int .u16 i.count, .int .i64 i.imm]) (heap_alloc_new w _)).1
  refine wp_region_plan rfl [(true, 1), (true, 2), (true, 6), (true, 7), (true, 11), (false, 0), (true, 3), (true, 4), (true, 5), (false, 8), (true, 9), (true, 10), (false, 12), (true, 13), (true, 14), (true, 15)] (by kernel_rfl) ?_ (fun W => ∀ o, W.cell? ⟨w.heap.size, o, none⟩ = ([.int .u8 i.op, .int .u8 i.d, .int .u8 i.s, .int .u8 i.t, .int .u8 i.n, .int .u8 i.pred, .int .u8 i.mode, .bool i.nw, .bool i.ext, .int .u16 i.count, .int .i64 i.imm] : List Value)[o]?) hS0 ?_
  · intro d v c a w h
    cases d <;> exact h
  repeat (refine plan_q rfl rfl (fun W hW => by go_simp; exact rfl) ?_)
  refine plan_l rfl rfl ?_
  go_simp
  refine (HW.out _).mono ?_
  rintro e w1 ⟨rfl, hm, hb1⟩
  have hS1 : ∀ o, w1.cell? ⟨w.heap.size, o, none⟩ = ([.int .u8 i.op, .int .u8 i.d, .int .u8 i.s, .int .u8 i.t, .int .u8 i.n, .int .u8 i.pred, .int .u8 i.mode, .bool i.nw, .bool i.ext, .int .u16 i.count, .int .i64 i.imm] : List Value)[o]? := fun o => ((bcell hb1).1 _ o (by simp)).trans (hS0 o)
  simp at hm
  refine ⟨fun W => (∀ o, W.cell? ⟨w.heap.size, o, none⟩ = ([.int .u8 i.op, .int .u8 i.d, .int .u8 i.s, .int .u8 i.t, .int .u8 i.n, .int .u8 i.pred, .int .u8 i.mode, .bool i.nw, .bool i.ext, .int .u16 i.count, .int .i64 i.imm] : List Value)[o]?) ∧ WordsAt W (w.heap.size + 1), ⟨hS1, hm⟩, fun W h => h.1, ?_⟩
  repeat (refine plan_q rfl rfl (fun W hW => by obtain ⟨h1, h2⟩ := hW; have h3 := fun (op : Int) => h2.run op; clear h2; go_simp; first | exact rfl | (rw [if_neg (by omega)]; done) | (rw [if_neg (by simp; omega)]; done)) ?_)
  refine plan_l rfl rfl ?_
  go_simp
  refine (HR.out _).mono ?_
  rintro e w2 ⟨rfl, rfl⟩
  refine ⟨_, ⟨hS1, hm⟩, fun W h => h, ?_⟩
  repeat (refine plan_q rfl rfl (fun W hW => by obtain ⟨h1, h2⟩ := hW; have h3 := fun (op : Int) => h2.run op; clear h2; go_simp; first | exact rfl | (rw [if_neg (by omega)]; done) | (rw [if_neg (by simp; omega)]; done)) ?_)
  refine plan_l rfl rfl ?_
  go_simp
  refine (HI.out _ ((HP.out.below ((below_alloc1 w _).drew)).below hb1)).mono ?_
  rintro e w3 ⟨rfl, hb3⟩
  have hlt : w.heap.size < w2.heap.size := by have := hb1.size; simp at this; omega
  refine ⟨_, ⟨fun o => ((bcell hb3).1 _ o hlt).trans (hS1 o), hm.below hb3⟩, fun W h => h, ?_⟩
  repeat (refine plan_q rfl rfl (fun W hW => by obtain ⟨h1, h2⟩ := hW; have h3 := fun (op : Int) => h2.run op; clear h2; go_simp; first | exact rfl | (rw [if_neg (by omega)]; done) | (rw [if_neg (by simp; omega)]; done)) ?_)
  unfold wpPlan
  go_wp2
  go_ret
  refine ⟨ret_str (bytes_eq ?_), ?_⟩
  · simp [placeP, data_app]
  · have k1 := ((below_alloc1 w _).drew).trans (hb1.mono (by simp))
    exact k1.trans (hb3.mono k1.size)
end Go.Proofs.YtapjlmehfbnaoaaDoor
