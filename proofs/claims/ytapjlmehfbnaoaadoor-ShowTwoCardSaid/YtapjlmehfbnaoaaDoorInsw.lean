/- Layer 4: Right. Conditions: the numbers are of their kinds. -/
import Derived.Test.YtapjlmehfbnaoaaDoorInsv
namespace Go.Proofs.YtapjlmehfbnaoaaDoor
open Go Go.RowKit Go.Proofs
open Go.Lib (hid)

instance (f : Fld) : Decidable f.fine := by unfold Fld.fine; infer_instance
theorem flds_fine (op : Int) : ∀ f ∈ (rowD op).flds, f.fine := by
  by_cases h : 1 ≤ op ∧ op ≤ 31
  · unfold rowD rowOf
    rw [if_pos h]
    have hlt : (op - 1).toNat < tableP.length := by rw [table_len]; omega
    rw [List.getElem?_eq_getElem hlt]
    have : ∀ r ∈ tableP, ∀ f ∈ r.flds, f.fine := by decide
    exact this _ (List.getElem_mem hlt)
  · rw [rowD_none op h]; intro f hf; cases hf

theorem heap_set {w : World} {b o : Nat} {arr : Array Value} {T : TypeId} {fr : Nat × Nat} (h : w.heap[b]? = some (.cells arr T fr)) (u : Value) : (w.setCell ⟨b, o, none⟩ u).heap[b]? = some (.cells (arr.setIfInBounds o u) T fr) := by
  simp [World.setCell, Array.getElem?_modify, h]
theorem block_cells {w : World} {b : Nat} {l : List Value} {T : TypeId} (h : w.heap[b]? = some (.cells l.toArray T (0, 0))) : (∀ o, w.cell? ⟨b, o, none⟩ = l[o]?) ∧ (∀ o, w.frozen? ⟨b, o, none⟩ = false) := by
  refine ⟨fun o => by simp [World.cell?, h], fun o => by simp [World.frozen?, h]⟩

theorem set_ins {W : World} {b : Nat} {T : TypeId} {a0 a1 a2 a3 a4 a5 a6 a7 a8 a9 a10 : Value} (h : W.heap[b]? = some (.cells #[a0, a1, a2, a3, a4, a5, a6, a7, a8, a9, a10] T (0, 0))) (c0 c1 c2 c3 c4 c5 c6 c7 c8 c9 c10 : Value) : (((((((((((W.setCell ⟨b, 0, none⟩ c0).setCell ⟨b, 1, none⟩ c1).setCell ⟨b, 2, none⟩ c2).setCell ⟨b, 3, none⟩ c3).setCell ⟨b, 4, none⟩ c4).setCell ⟨b, 5, none⟩ c5).setCell ⟨b, 6, none⟩ c6).setCell ⟨b, 7, none⟩ c7).setCell ⟨b, 8, none⟩ c8).setCell ⟨b, 9, none⟩ c9).setCell ⟨b, 10, none⟩ c10).heap[b]? = some (.cells #[c0, c1, c2, c3, c4, c5, c6, c7, c8, c9, c10] T (0, 0)) := by
  have k := (heap_set (o := 10) (heap_set (o := 9) (heap_set (o := 8) (heap_set (o := 7) (heap_set (o := 6) (heap_set (o := 5) (heap_set (o := 4) (heap_set (o := 3) (heap_set (o := 2) (heap_set (o := 1) (heap_set (o := 0) h c0) c1) c2) c3) c4) c5) c6) c7) c8) c9) c10)
  simpa using k
theorem alloc2_heap (w : World) (X Y : Obj) : ((w.alloc X).alloc Y).heap[w.heap.size + 1]? = some Y := by
  have h := heap_alloc_new (w.alloc X) Y
  rwa [heap_size_alloc] at h
theorem alloc_heap_lt (w : World) (X : Obj) {b : Nat} {o : Obj} (hb : b < w.heap.size) (h : w.heap[b]? = some o) : (w.alloc X).heap[b]? = some o := by
  rw [Below.heap_alloc w X b hb]; exact h

def zeroIns : Ins := ⟨0, 0, 0, 0, 0, 0, 0, false, false, 0, 0⟩
def leftP (i : Ins) : Ins := (rowD i.op).flds.foldl withoutP { i with op := 0 }
def rightP (i : Ins) : Bool := isRow i.op && (rowD i.op).flds.all (holdsP i) && decide (leftP i = zeroIns) && !(hasP i.op 1 && decide (i.mode = 0) && decide (i.pred ≠ 0))

set_option maxHeartbeats 8000000 in
theorem right_c (i : Ins) (hi : i.ok) (w : World) : Calls Tryd.prog 7 #[.agg #[.int .u8 i.op, .int .u8 i.d, .int .u8 i.s, .int .u8 i.t, .int .u8 i.n, .int .u8 i.pred, .int .u8 i.mode, .bool i.nw, .bool i.ext, .int .u16 i.count, .int .i64 i.imm]] w fun e w' => e = .returned (.bool (rightP i)) ∧ Below w.heap.size w w' := by
  unfold rightP leftP
  have HO := hid (of_c i.op hi.op.1 hi.op.2)
  have HC := hid (cond_i i hi.op.1 hi.op.2)
  have HT := hid (flds_fine i.op)
  have HI := hid hi
  have H5 := hid (rowD_flds i.op)
  generalize rowD i.op = r at HO HT H5 ⊢
  generalize isRow i.op = ok0 at HO ⊢
  generalize hasP i.op 1 = hc1 at HC ⊢
  clear hi
  go_enter Tryd.func7, Tryd.ntmps7
  go_wp2_with (go_at_call 18; refine (HO.out _).mono ?_; rintro e w1 ⟨A, c, rfl, hr, hb1⟩; obtain ⟨hc, hz⟩ := bcell hb1; have hs1 := hb1.size; simp only [heap_size_alloc] at hs1 hr; have hs3 : w.heap.size < w1.heap.size := (by omega); have HR := hid hr; clear hr)
  go_loopw [4, 19] (fun o ix wr => ∃ (k : Nat) (okb : Bool) (j : Ins), k ≤ r.flds.length ∧ ix = .int .i64 k ∧ o = .bool okb ∧ Hid (okb = (ok0 && (r.flds.take k).all (holdsP i))) ∧ Hid (j = (r.flds.take k).foldl withoutP { i with op := 0 }) ∧ Hid (wr.heap[w1.heap.size + 1]? = some (.cells ([.int .u8 j.op, .int .u8 j.d, .int .u8 j.s, .int .u8 j.t, .int .u8 j.n, .int .u8 j.pred, .int .u8 j.mode, .bool j.nw, .bool j.ext, .int .u16 j.count, .int .i64 j.imm] : List Value).toArray 24 (0, 0))) ∧ w1.heap.size + 1 < wr.heap.size ∧ Below w1.heap.size w1 wr) (fun _ ix _ => r.flds.length - (intOf ix).toNat)
  case atStart => exact ⟨0, ok0, { i with op := 0 }, by omega, rfl, rfl, by simp [Hid], rfl, alloc2_heap _ _ _, by simp, (below_alloc1 w1 _).alloc (by simp) _⟩
  case round =>
    obtain ⟨k, okb, j, hk, rfl, rfl, HK, HJ, HL, hs4, hbw⟩ := hrel
    obtain ⟨hc2, hz2⟩ := bcell hbw
    obtain ⟨hL, hLf⟩ := block_cells HL.out
    have hs5 : w.heap.size < wr.heap.size := by omega
    have hs6 : w1.heap.size < wr.heap.size := by omega
    have hl5 : r.flds.length ≤ 5 := H5.out
    by_cases hlt : k < r.flds.length
    · obtain ⟨b, off, rfl, hlo, hbs, hf⟩ := HR.out.fld (by omega)
      obtain ⟨f0, f1, f2, f3, f4⟩ := hf k hlt
      have hft := hid (HT.out _ (List.getElem_mem hlt))
      have hs7 : b < wr.heap.size := by omega
      have hs8 : ¬ (b = w.heap.size) := by omega
      have hs9 : ¬ (b = w1.heap.size + 1) := by omega
      generalize hfe : r.flds[k] = f at f0 f1 f2 f3 f4 hft
      have HFE := hid hfe
      clear hf hfe
      cases okb
      · go_wp2_with (go_at_call 19; refine (without_c j f _).mono ?_; rintro e w2 ⟨rfl, hb2⟩; obtain ⟨hc3, hz3⟩ := bcell hb2; have hs10 := hb2.size; simp only [heap_size_alloc] at hs10 hc3 hz3)
        go_roundw
        case rel =>
          have hL2 : w2.heap[w1.heap.size + 1]? = _ := (hb2.block _ (by rw [heap_size_alloc]; omega)).trans (alloc_heap_lt wr _ hs4 HL.out)
          refine ⟨k + 1, false, withoutP j f, by omega, by go_num, rfl, ?_, ?_, set_ins hL2 _ _ _ _ _ _ _ _ _ _ _, ?_, ?_⟩
          · rw [List.take_succ_eq_append_getElem hlt, List.all_append, ← Bool.and_assoc, ← (show false = _ from HK)]
            rfl
          · rw [List.take_succ_eq_append_getElem hlt, List.foldl_append, ← (show j = _ from HJ), HFE.out]
            rfl
          · simp; omega
          · have k1 := (hbw.alloc (Nat.le_of_lt hs6) (.cells #[.int .u8 f.kind, .int .i64 f.bits, .int .i64 f.shift, .bool f.sg, .bool f.ext] 54)).trans (hb2.mono (by rw [heap_size_alloc]; omega))
            exact (((((((((((k1.setCell (Nat.le_succ _) _).setCell (Nat.le_succ _) _).setCell (Nat.le_succ _) _).setCell (Nat.le_succ _) _).setCell (Nat.le_succ _) _).setCell (Nat.le_succ _) _).setCell (Nat.le_succ _) _).setCell (Nat.le_succ _) _).setCell (Nat.le_succ _) _).setCell (Nat.le_succ _) _).setCell (Nat.le_succ _) _)
        case measure => simp [intOf]; omega
      · go_wp2_with (first
          | (go_at_call 19; refine (without_c j f _).mono ?_; rintro e w2 ⟨rfl, hb2⟩; obtain ⟨hc3, hz3⟩ := bcell hb2; have hs10 := hb2.size; simp only [heap_size_alloc] at hs10 hc3 hz3)
          | (go_at_call 20; refine (holds_c i f HI.out hft.out _).mono ?_; rintro e w3 ⟨rfl, hb3⟩))
        go_roundw
        case rel =>
          have hL2 : w2.heap[w1.heap.size + 1]? = _ := (hb2.block _ (by rw [heap_size_alloc]; omega)).trans (alloc_heap_lt wr _ hs4 HL.out)
          have hs11 := hb3.size
          have hs12 : w1.heap.size + 1 < w2.heap.size := by omega
          refine ⟨k + 1, holdsP i f, withoutP j f, by omega, by go_num, rfl, ?_, ?_, (hb3.block _ (by simp; omega)).trans (set_ins hL2 _ _ _ _ _ _ _ _ _ _ _), ?_, ?_⟩
          · rw [List.take_succ_eq_append_getElem hlt, List.all_append, ← Bool.and_assoc, ← (show true = _ from HK), HFE.out]
            simp [Hid]
          · rw [List.take_succ_eq_append_getElem hlt, List.foldl_append, ← (show j = _ from HJ), HFE.out]
            rfl
          · simp at hs11; omega
          · have k1 := (hbw.alloc (Nat.le_of_lt hs6) (.cells #[.int .u8 f.kind, .int .i64 f.bits, .int .i64 f.shift, .bool f.sg, .bool f.ext] 54)).trans (hb2.mono (by rw [heap_size_alloc]; omega))
            refine Below.trans ?_ (hb3.mono (by simp; omega))
            exact (((((((((((k1.setCell (Nat.le_succ _) _).setCell (Nat.le_succ _) _).setCell (Nat.le_succ _) _).setCell (Nat.le_succ _) _).setCell (Nat.le_succ _) _).setCell (Nat.le_succ _) _).setCell (Nat.le_succ _) _).setCell (Nat.le_succ _) _).setCell (Nat.le_succ _) _).setCell (Nat.le_succ _) _).setCell (Nat.le_succ _) _)
        case measure => simp [intOf]; omega
    · obtain rfl : k = r.flds.length := by omega
      have hBW := ((below_alloc1 w _).trans (hb1.mono (by simp))).trans (hbw.mono (Nat.le_of_lt hs3))
      have HKL := hid (show okb = _ from HK)
      have HJL := hid (show j = _ from HJ)
      clear HK HJ
      cases okb
      · go_wp2
        go_ret
        refine ⟨ret_bool ?_, hBW⟩
        have := HKL.out
        rw [List.take_length] at this
        rw [← this]
        rfl
      · go_wp2_with (go_at_call 21; refine (HC.out _).mono ?_; rintro e w2 ⟨rfl, hb2⟩; obtain ⟨hc3, hz3⟩ := bcell hb2)
        all_goals
          have e1 := HKL.out
          have e2 := HJL.out
          rw [List.take_length] at e1 e2
          go_ret
          refine ⟨ret_bool ?_, ?_⟩
          · rw [← e1, ← e2]
            clear e1 e2 HKL HJL HL hL hLf
            obtain ⟨j1, j2, j3, j4, j5, j6, j7, j8, j9, j10, j11⟩ := j
            simp [zeroIns] at *
            first | done | (simp [*]; done) | (rw [Bool.eq_iff_iff]; simp [*]; done) | trace_state
          · first | exact hBW | exact hBW.trans (hb2.mono hBW.size)
end Go.Proofs.YtapjlmehfbnaoaaDoor
