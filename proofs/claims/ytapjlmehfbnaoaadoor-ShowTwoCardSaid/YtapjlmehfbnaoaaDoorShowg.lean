/- Layer 22: what stands to the right of =. Conditions: the table of powers of ten is laid; registers and predicates below 100. -/
import Derived.Test.YtapjlmehfbnaoaaDoorShowf
import Derived.Test.YtapjlmehfbnaoaaDoorSt
namespace Go.Proofs.YtapjlmehfbnaoaaDoor
open Go Go.RowKit Go.Proofs
open Go.Lib (hid)

def argsP (i : Ins) : List UInt8 :=
  let s := 114 :: Lib.decDigits i.s.toNat
  let t := 114 :: Lib.decDigits i.t.toNat
  if i.op = 7 ∨ i.op = 13 ∨ i.op = 15 ∨ i.op = 16 ∨ i.op = 17 then s ++ 44 :: immP i
  else if i.op = 14 then (112 :: Lib.decDigits i.pred.toNat) ++ [44] ++ s ++ [44] ++ t else s ++ 44 :: t
def rhsP (i : Ins) : List UInt8 := if i.op = 9 then 114 :: Lib.decDigits i.s.toNat else if i.op = 8 then immP i else wordP wordsP i.op ++ [40] ++ argsP i ++ [41]

/-- The table of words, as a new thing. -/
theorem words_st (w : World) : Calls Tryd.prog 89 #[] w fun e w' => ∃ r, e = .returned (.map (some r)) ∧ St [] w [mpb r (wordsE wordsP 0) 23] w' := by
  refine (words_b w).mono ?_
  rintro e w' ⟨rfl, h, hb⟩
  exact ⟨_, rfl, hb.os, hb.tape, hb.output, hb.size, fun k hk _ => hb.block k hk, fun _ hA => by rw [List.mem_singleton.1 hA]; exact h, fun _ hA k hk => by rw [List.mem_singleton.1 hA] at hk; exact .inl (Nat.le_of_eq hk.symm), List.pairwise_singleton _ _⟩

theorem argsP_len (i : Ins) (hi : i.ok) (hs : i.s < 100) (ht : i.t < 100) (hp : i.pred < 100) : (argsP i).length ≤ 40 := by
  have h1 := dec_len i.s.toNat (by have := hi.s; omega)
  have h2 := dec_len i.t.toNat (by have := hi.t; omega)
  have h3 := dec_len i.pred.toNat (by have := hi.pred; omega)
  have h4 := immP_len i hi
  unfold argsP
  dsimp only
  split
  · simp; omega
  · split <;> simp <;> omega


set_option maxHeartbeats 4000000 in
set_option maxRecDepth 100000 in
theorem right_n (i : Ins) (hi : i.ok) (hs : i.s < 100) (ht : i.t < 100) (hpr : i.pred < 100) (h14 : (i.op == 14) = false) (w : World) (hp : Pow w) : Calls Tryd.prog 54 #[.agg #[.int .u8 i.op, .int .u8 i.d, .int .u8 i.s, .int .u8 i.t, .int .u8 i.n, .int .u8 i.pred, .int .u8 i.mode, .bool i.nw, .bool i.ext, .int .u16 i.count, .int .i64 i.imm]] w fun e w' => e = .returned (.string ⟨(rhsP i).toArray⟩) ∧ Below w.heap.size w w' := by
  have HW := hid words_st
  have hfd := fun (s : ByteArray) (w : World) => run_field_word s w
  have HR := hid (reg_c i.s hi.s.1 hs)
  have HT := hid (reg_c i.t hi.t.1 ht)
  have HG := hid (pred_c i.pred hi.pred.1 hpr)
  have HI := hid (fun (W : World) (h : Below w.heap.size w W) => imm_s i hi W (hp.below h))
  have hl1 := wordP_len i.op
  have hl2 := dec_len i.s.toNat (by have := hi.s; omega)
  have hl3 := immP_len i hi
  have hl4 := dec_len i.t.toNat (by have := hi.t; omega)
  have hl5 := dec_len i.pred.toNat (by have := hi.pred; omega)
  have HST := hid ((St.start w).alloc [.int .u8 i.op, .int .u8 i.d, .int .u8 i.s, .int .u8 i.t, .int .u8 i.n, .int .u8 i.pred, .int .u8 i.mode, .bool i.nw, .bool i.ext, .int .u16 i.count, .int .i64 i.imm] 24)
  clear hi hs ht hpr hp
  go_enter Tryd.func54, Tryd.ntmps54
  go_wp2_with (first | (go_at_call 52; first | (refine (HR.out _).mono ?_; rintro e w1 ⟨rfl, rfl⟩) | (refine (HT.out _).mono ?_; rintro e w1 ⟨rfl, rfl⟩)) | (go_at_call 90; refine (HI.out _ (below_alloc1 w _)).mono ?_; rintro e W ⟨rfl, hb⟩; obtain ⟨hc, hf⟩ := bcell hb; have HST := hid (HST.out.pure hb)))
  · go_ret
    refine ⟨ret_str (bytes_eq ?_), HST.out.below⟩
    simp only [beq_iff_eq, beq_eq_false_iff_ne, ne_eq] at *
    simp [rhsP, *]
  · go_ret
    refine ⟨ret_str (bytes_eq ?_), HST.out.below⟩
    simp only [beq_iff_eq, beq_eq_false_iff_ne, ne_eq] at *
    simp [rhsP, *]
  all_goals
    refine wp_plan_st rfl [(true, 1), (true, 2), (true, 6), (false, 0), (true, 3), (true, 4), (true, 5), (true, 7), (true, 8), (true, 9)] HST.out (by kernel_rfl) (fun d v c a w h => by cases d <;> exact h) (fun hst => ?_)
    repeat (refine plan_q rfl rfl (fun W hW => by obtain ⟨hc, -, -⟩ := St.cells hW 0 rfl; clear hW; go_simp; first | (rw [if_neg (by simp; omega)]; done) | (rw [if_neg (by omega)]; done) | (with_reducible exact rfl)) ?_)
    refine plan_lst rfl rfl ?_
    go_simp
    refine (HW.out _).mono ?_
    rintro e W2 ⟨r, rfl, hm⟩
    have hst2 := hst.adds hm
    refine ⟨_, hst2, ?_⟩
    repeat (refine plan_q rfl rfl (fun W hW => by obtain ⟨hc, -, -⟩ := St.cells hW 1 rfl; have h3 := fun (op : Int) => run_words W _ 23 (hW.get 0 rfl) op; clear hW; go_simp; first | (rw [if_neg (by simp; omega)]; done) | (rw [if_neg (by omega)]; done) | (with_reducible exact rfl)) ?_)
    unfold wpPlan
    clear hm hst hfd
    have HST2 := hid hst2
    clear hst2
    go_simp
    go_wp2
    go_ret
    refine ⟨ret_str (bytes_eq ?_), HST2.out.below⟩
    simp only [beq_iff_eq, beq_eq_false_iff_ne, ne_eq] at *
    simp [rhsP, argsP, data_app, *]

set_option maxHeartbeats 4000000 in
set_option maxRecDepth 100000 in
theorem right_m (i : Ins) (hi : i.ok) (hs : i.s < 100) (ht : i.t < 100) (hpr : i.pred < 100) (h14 : (i.op == 14) = true) (w : World) (hp : Pow w) : Calls Tryd.prog 54 #[.agg #[.int .u8 i.op, .int .u8 i.d, .int .u8 i.s, .int .u8 i.t, .int .u8 i.n, .int .u8 i.pred, .int .u8 i.mode, .bool i.nw, .bool i.ext, .int .u16 i.count, .int .i64 i.imm]] w fun e w' => e = .returned (.string ⟨(rhsP i).toArray⟩) ∧ Below w.heap.size w w' := by
  have HW := hid words_st
  have hfd := fun (s : ByteArray) (w : World) => run_field_word s w
  have HR := hid (reg_c i.s hi.s.1 hs)
  have HT := hid (reg_c i.t hi.t.1 ht)
  have HG := hid (pred_c i.pred hi.pred.1 hpr)
  have HI := hid (fun (W : World) (h : Below w.heap.size w W) => imm_s i hi W (hp.below h))
  have hl1 := wordP_len i.op
  have hl2 := dec_len i.s.toNat (by have := hi.s; omega)
  have hl3 := immP_len i hi
  have hl4 := dec_len i.t.toNat (by have := hi.t; omega)
  have hl5 := dec_len i.pred.toNat (by have := hi.pred; omega)
  have HST := hid ((St.start w).alloc [.int .u8 i.op, .int .u8 i.d, .int .u8 i.s, .int .u8 i.t, .int .u8 i.n, .int .u8 i.pred, .int .u8 i.mode, .bool i.nw, .bool i.ext, .int .u16 i.count, .int .i64 i.imm] 24)
  have e := eq_of_beq h14
  have e9 : (i.op == 9) = false := by rw [e]; rfl
  have e8 : (i.op == 8) = false := by rw [e]; rfl
  have e7 : (i.op == 7) = false := by rw [e]; rfl
  have e13 : (i.op == 13) = false := by rw [e]; rfl
  have e15 : (i.op == 15) = false := by rw [e]; rfl
  have e16 : (i.op == 16) = false := by rw [e]; rfl
  have e17 : (i.op == 17) = false := by rw [e]; rfl
  clear e
  clear hi hs ht hpr hp
  go_enter Tryd.func54, Tryd.ntmps54
  go_wp2_with (first | (go_at_call 52; first | (refine (HR.out _).mono ?_; rintro e w1 ⟨rfl, rfl⟩) | (refine (HT.out _).mono ?_; rintro e w1 ⟨rfl, rfl⟩)) | (go_at_call 90; refine (HI.out _ (below_alloc1 w _)).mono ?_; rintro e W ⟨rfl, hb⟩; obtain ⟨hc, hf⟩ := bcell hb; have HST := hid (HST.out.pure hb)))
  refine wp_plan_st rfl [(true, 0), (true, 1), (true, 4), (true, 7), (true, 8), (false, 2), (true, 3), (true, 5), (true, 6), (false, 9), (true, 10), (true, 11)] HST.out (by kernel_rfl) (fun d v c a w h => by cases d <;> exact h) (fun hst => ?_)
  repeat (refine plan_q rfl rfl (fun W hW => by obtain ⟨hc, -, -⟩ := St.cells hW 0 rfl; clear hW; go_simp; first | (rw [if_neg (by simp; omega)]; done) | (rw [if_neg (by omega)]; done) | (with_reducible exact rfl)) ?_)
  refine plan_lst rfl rfl ?_
  go_simp
  refine (HG.out _).mono ?_
  rintro e w1 ⟨rfl, rfl⟩
  refine ⟨[], hst, ?_⟩
  repeat (refine plan_q rfl rfl (fun W hW => by obtain ⟨hc, -, -⟩ := St.cells hW 0 rfl; clear hW; go_simp; first | (rw [if_neg (by simp; omega)]; done) | (rw [if_neg (by omega)]; done) | (with_reducible exact rfl)) ?_)
  refine plan_lst rfl rfl ?_
  go_simp
  refine (HT.out _).mono ?_
  rintro e w1 ⟨rfl, rfl⟩
  refine ⟨[], hst, ?_⟩
  repeat (refine plan_q rfl rfl (fun W hW => by obtain ⟨hc, -, -⟩ := St.cells hW 0 rfl; clear hW; go_simp; first | (rw [if_neg (by simp; omega)]; done) | (rw [if_neg (by omega)]; done) | (with_reducible exact rfl)) ?_)
  unfold wpPlan
  have HST := hid hst
  clear hst
  go_simp
  go_wp2_with fail
  refine wp_plan_st rfl [(true, 1), (true, 2), (true, 6), (false, 0), (true, 3), (true, 4), (true, 5), (true, 7), (true, 8), (true, 9)] HST.out (by kernel_rfl) (fun d v c a w h => by cases d <;> exact h) (fun hst => ?_)
  repeat (refine plan_q rfl rfl (fun W hW => by obtain ⟨hc, -, -⟩ := St.cells hW 0 rfl; clear hW; go_simp; first | (rw [if_neg (by simp; omega)]; done) | (rw [if_neg (by omega)]; done) | (with_reducible exact rfl)) ?_)
  refine plan_lst rfl rfl ?_
  go_simp
  refine (HW.out _).mono ?_
  rintro e W2 ⟨r, rfl, hm⟩
  have hst2 := hst.adds hm
  refine ⟨_, hst2, ?_⟩
  repeat (refine plan_q rfl rfl (fun W hW => by obtain ⟨hc, -, -⟩ := St.cells hW 1 rfl; have h3 := fun (op : Int) => run_words W _ 23 (hW.get 0 rfl) op; clear hW; go_simp; first | (rw [if_neg (by simp; omega)]; done) | (rw [if_neg (by omega)]; done) | (with_reducible exact rfl)) ?_)
  unfold wpPlan
  clear hm hst hfd
  have HST2 := hid hst2
  clear hst2
  go_simp
  go_wp2
  go_ret
  refine ⟨ret_str (bytes_eq ?_), HST2.out.below⟩
  simp only [beq_iff_eq, beq_eq_false_iff_ne, ne_eq] at *
  simp [rhsP, argsP, data_app, *]

theorem showRight_c (i : Ins) (hi : i.ok) (hs : i.s < 100) (ht : i.t < 100) (hpr : i.pred < 100) (w : World) (hp : Pow w) : Calls Tryd.prog 54 #[.agg #[.int .u8 i.op, .int .u8 i.d, .int .u8 i.s, .int .u8 i.t, .int .u8 i.n, .int .u8 i.pred, .int .u8 i.mode, .bool i.nw, .bool i.ext, .int .u16 i.count, .int .i64 i.imm]] w fun e w' => e = .returned (.string ⟨(rhsP i).toArray⟩) ∧ Below w.heap.size w w' := by
  cases h : (i.op == 14)
  · exact right_n i hi hs ht hpr h w hp
  · exact right_m i hi hs ht hpr h w hp

end Go.Proofs.YtapjlmehfbnaoaaDoor
