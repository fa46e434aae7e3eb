/- Layer 22: branches, and an instruction without its condition. Conditions: the table of powers of ten is laid; the instruction is right; a target's name is short. -/
import Derived.Test.YtapjlmehfbnaoaaDoorShowg
namespace Go.Proofs.YtapjlmehfbnaoaaDoor
open Go Go.RowKit Go.Proofs
open Go.Lib (hid)

def loopP (i : Ins) (to : List UInt8) : List UInt8 := [108, 111, 111, 112] ++ Lib.decDigits i.n.toNat ++ [40] ++ to ++ [44]
def branchP (i : Ins) (to : List UInt8) : List UInt8 :=
  if i.op = 27 then [106, 117, 109, 112, 32] ++ to else if i.op = 28 then [106, 117, 109, 112, 114, 32] ++ (114 :: Lib.decDigits i.s.toNat)
  else if i.op = 29 then [99, 97, 108, 108, 32] ++ to else if i.op = 30 then loopP i to ++ (35 :: Lib.itoa i.count) ++ [41] else loopP i to ++ (114 :: Lib.decDigits i.s.toNat) ++ [41]

set_option maxHeartbeats 4000000 in
set_option maxRecDepth 100000 in
theorem branch_c (i : Ins) (hi : i.ok) (hs : i.s < 100) (hn : i.n < 100) (to : List UInt8) (hto : to.length ≤ 100) (w : World) (hp : Pow w) : Calls Tryd.prog 50 #[.agg #[.int .u8 i.op, .int .u8 i.d, .int .u8 i.s, .int .u8 i.t, .int .u8 i.n, .int .u8 i.pred, .int .u8 i.mode, .bool i.nw, .bool i.ext, .int .u16 i.count, .int .i64 i.imm], .string ⟨to.toArray⟩] w fun e w' => e = .returned (.string ⟨(branchP i to).toArray⟩) ∧ Below w.heap.size w w' := by
  have hnn : ((i.n.toNat : Nat) : Int) = i.n := by have := hi.n; omega
  have HN := number_c i.n.toNat (by have := hi.n; omega)
  rw [hnn] at HN
  have HN := hid HN
  have HR := hid (reg_c i.s hi.s.1 hs)
  have HC := hid (fun (W : World) (h : Below w.heap.size w W) => count_c i.count hi.count.1 hi.count.2 W (hp.below h))
  have HST := hid ((St.start w).alloc [.int .u8 i.op, .int .u8 i.d, .int .u8 i.s, .int .u8 i.t, .int .u8 i.n, .int .u8 i.pred, .int .u8 i.mode, .bool i.nw, .bool i.ext, .int .u16 i.count, .int .i64 i.imm] 24)
  have hl1 := dec_len i.n.toNat (by have := hi.n; omega)
  have hl2 := dec_len i.s.toNat (by have := hi.s; omega)
  have hl3 := Lib.itoa_length_le i.count (by have := hi.count; omega) (by have := hi.count; omega)
  have hb1 := hi.n
  clear hi hs hp hn hnn
  go_enter Tryd.func50, Tryd.ntmps50
  go_wp2_with (first
    | (go_at_call 87; refine (HN.out _).mono ?_; rintro e w1 ⟨rfl, rfl⟩)
    | (go_at_call 52; refine (HR.out _).mono ?_; rintro e w1 ⟨rfl, rfl⟩)
    | (go_at_call 88; refine (HC.out _ HST.out.below).mono ?_; rintro e W ⟨rfl, hb⟩; have HST := hid (HST.out.pure hb); obtain ⟨hc0, -, hlt0⟩ := HST.out.cells 0 rfl))
  all_goals
    go_ret
    refine ⟨ret_str (bytes_eq ?_), HST.out.below⟩
    simp only [beq_iff_eq, beq_eq_false_iff_ne, ne_eq] at *
    simp [branchP, loopP, data_app, *]

def bareG (op : Int) (d : Int) (c : Int) (p : Bool) (bt st pl rh : List UInt8) : List UInt8 :=
  if op = 1 then [110, 111, 112] else if c = 5 ∨ c = 6 then bt else if c = 4 then st
  else if c = 3 then (114 :: Lib.decDigits d.toNat) ++ [32, 61, 32] ++ pl
  else if p then (112 :: Lib.decDigits d.toNat) ++ [32, 61, 32] ++ rh else (114 :: Lib.decDigits d.toNat) ++ [32, 61, 32] ++ rh
def bareP (i : Ins) (to : List UInt8) : List UInt8 := bareG i.op i.d (rowD i.op).cls (writesPredP i) (branchP i to) (storeP i) (placeP i) (rhsP i)
theorem rhsP_len (i : Ins) (hi : i.ok) (hs : i.s < 100) (ht : i.t < 100) (hp : i.pred < 100) : (rhsP i).length ≤ 60 := by
  have h1 := wordP_len i.op
  have h2 := dec_len i.s.toNat (by have := hi.s; omega)
  have h3 := immP_len i hi
  have h4 := argsP_len i hi hs ht hp
  unfold rhsP
  split
  · simp; omega
  · split <;> simp <;> omega

set_option maxHeartbeats 4000000 in
set_option maxRecDepth 100000 in
theorem bare_c (i : Ins) (hi : i.ok) (hd : i.d < 100) (hs : i.s < 100) (ht : i.t < 100) (hn : i.n < 100) (hpr : i.pred < 100) (to : List UInt8) (hto : to.length ≤ 100) (w : World) (hp : Pow w) : Calls Tryd.prog 25 #[.agg #[.int .u8 i.op, .int .u8 i.d, .int .u8 i.s, .int .u8 i.t, .int .u8 i.n, .int .u8 i.pred, .int .u8 i.mode, .bool i.nw, .bool i.ext, .int .u16 i.count, .int .i64 i.imm], .string ⟨to.toArray⟩] w fun e w' => e = .returned (.string ⟨(bareP i to).toArray⟩) ∧ Below w.heap.size w w' := by
  have HW := hid (writesPred_c i hi)
  have HC := hid (class_c i hi)
  have HB := hid (fun (W : World) (h : Below w.heap.size w W) => branch_c i hi hs hn to hto W (hp.below h))
  have HS := hid (fun (W : World) (h : Below w.heap.size w W) => store_c i hi hs ht W (hp.below h))
  have HL := hid (fun (W : World) (h : Below w.heap.size w W) => place_c i hi hs W (hp.below h))
  have HG := hid (fun (W : World) (h : Below w.heap.size w W) => showRight_c i hi hs ht hpr W (hp.below h))
  have HD := hid (reg_c i.d hi.d.1 hd)
  have HE := hid (pred_c i.d hi.d.1 hd)
  have HST := hid ((St.start w).alloc [.int .u8 i.op, .int .u8 i.d, .int .u8 i.s, .int .u8 i.t, .int .u8 i.n, .int .u8 i.pred, .int .u8 i.mode, .bool i.nw, .bool i.ext, .int .u16 i.count, .int .i64 i.imm] 24)
  have hl1 := dec_len i.d.toNat (by have := hi.d; omega)
  have hl2 := placeP_len i hi hs
  have hl3 := rhsP_len i hi hs ht hpr
  unfold bareP
  generalize (rowD i.op).cls = c at HC ⊢
  generalize writesPredP i = p at HW ⊢
  generalize branchP i to = bt at HB ⊢
  generalize storeP i = st at HS ⊢
  generalize placeP i = pl at HL hl2 ⊢
  generalize rhsP i = rh at HG hl3 ⊢
  clear hi hs hp hn hd ht hpr hto
  cases p
  · go_enter Tryd.func25, Tryd.ntmps25
    go_wp2_with (first
      | (go_at_call 48; refine (HW.out _).mono ?_; rintro e W ⟨rfl, hb⟩; have HST := hid (HST.out.pure hb); obtain ⟨hc0, -, hlt0⟩ := HST.out.cells 0 rfl)
      | (go_at_call 49; refine (HC.out _).mono ?_; rintro e W ⟨rfl, hb⟩; have HST := hid (HST.out.pure hb); obtain ⟨hc0, -, hlt0⟩ := HST.out.cells 0 rfl)
      | (go_at_call 50; refine (HB.out _ HST.out.below).mono ?_; rintro e W ⟨rfl, hb⟩; have HST := hid (HST.out.pure hb); obtain ⟨hc0, -, hlt0⟩ := HST.out.cells 0 rfl)
      | (go_at_call 51; refine (HS.out _ HST.out.below).mono ?_; rintro e W ⟨rfl, hb⟩; have HST := hid (HST.out.pure hb); obtain ⟨hc0, -, hlt0⟩ := HST.out.cells 0 rfl))
    all_goals try (
      go_ret
      refine ⟨ret_str (bytes_eq ?_), HST.out.below⟩
      simp only [beq_iff_eq, beq_eq_false_iff_ne, ne_eq] at *
      first | (simp [bareG, data_app, *]; done) | (have h6 : c = 6 := (by omega); simp [bareG, *]))
    · refine wp_plan_st rfl [(true, 0), (true, 1), (true, 4), (false, 2), (true, 3), (false, 5), (true, 6), (true, 7)] HST.out (by kernel_rfl) (fun d v c a w h => by cases d <;> exact h) (fun hst => ?_)
      repeat (refine plan_q rfl rfl (fun W hW => by obtain ⟨hc0, -, -⟩ := St.cells hW 0 rfl; clear hW; go_simp; first | (rw [if_neg (by simp; omega)]; done) | (rw [if_neg (by omega)]; done) | (with_reducible exact rfl)) ?_)
      refine plan_lst rfl rfl ?_
      go_simp
      refine (HD.out _).mono ?_
      rintro e Wn ⟨rfl, rfl⟩
      refine ⟨[], hst, ?_⟩
      repeat (refine plan_q rfl rfl (fun W hW => by obtain ⟨hc0, -, -⟩ := St.cells hW 0 rfl; clear hW; go_simp; first | (rw [if_neg (by simp; omega)]; done) | (rw [if_neg (by omega)]; done) | (with_reducible exact rfl)) ?_)
      refine plan_lst rfl rfl ?_
      go_simp
      refine (HL.out _ hst.below).mono ?_
      rintro e Wn ⟨rfl, hb⟩
      have hst := hst.pure hb
      refine ⟨[], hst, ?_⟩
      repeat (refine plan_q rfl rfl (fun W hW => by obtain ⟨hc0, -, -⟩ := St.cells hW 0 rfl; clear hW; go_simp; first | (rw [if_neg (by simp; omega)]; done) | (rw [if_neg (by omega)]; done) | (with_reducible exact rfl)) ?_)
      unfold wpPlan
      have HST := hid hst
      clear hst
      go_simp
      go_wp2
      go_ret
      refine ⟨ret_str (bytes_eq ?_), HST.out.below⟩
      simp only [beq_iff_eq, beq_eq_false_iff_ne, ne_eq] at *
      first | (simp [bareG, data_app, *]; done) | (have h6 : c = 6 := (by omega); simp [bareG, *])
    · refine wp_plan_st rfl [(true, 0), (true, 1), (true, 4), (false, 2), (true, 3), (false, 5), (true, 6), (true, 7)] HST.out (by kernel_rfl) (fun d v c a w h => by cases d <;> exact h) (fun hst => ?_)
      repeat (refine plan_q rfl rfl (fun W hW => by obtain ⟨hc0, -, -⟩ := St.cells hW 0 rfl; clear hW; go_simp; first | (rw [if_neg (by simp; omega)]; done) | (rw [if_neg (by omega)]; done) | (with_reducible exact rfl)) ?_)
      refine plan_lst rfl rfl ?_
      go_simp
      refine (HD.out _).mono ?_
      rintro e Wn ⟨rfl, rfl⟩
      refine ⟨[], hst, ?_⟩
      repeat (refine plan_q rfl rfl (fun W hW => by obtain ⟨hc0, -, -⟩ := St.cells hW 0 rfl; clear hW; go_simp; first | (rw [if_neg (by simp; omega)]; done) | (rw [if_neg (by omega)]; done) | (with_reducible exact rfl)) ?_)
      refine plan_lst rfl rfl ?_
      go_simp
      refine (HG.out _ hst.below).mono ?_
      rintro e Wn ⟨rfl, hb⟩
      have hst := hst.pure hb
      refine ⟨[], hst, ?_⟩
      repeat (refine plan_q rfl rfl (fun W hW => by obtain ⟨hc0, -, -⟩ := St.cells hW 0 rfl; clear hW; go_simp; first | (rw [if_neg (by simp; omega)]; done) | (rw [if_neg (by omega)]; done) | (with_reducible exact rfl)) ?_)
      unfold wpPlan
      have HST := hid hst
      clear hst
      go_simp
      go_wp2
      go_ret
      refine ⟨ret_str (bytes_eq ?_), HST.out.below⟩
      simp only [beq_iff_eq, beq_eq_false_iff_ne, ne_eq] at *
      first | (simp [bareG, data_app, *]; done) | (have h6 : c = 6 := (by omega); simp [bareG, *])
  · go_enter Tryd.func25, Tryd.ntmps25
    go_wp2_with (first
      | (go_at_call 48; refine (HW.out _).mono ?_; rintro e W ⟨rfl, hb⟩; have HST := hid (HST.out.pure hb); obtain ⟨hc0, -, hlt0⟩ := HST.out.cells 0 rfl)
      | (go_at_call 49; refine (HC.out _).mono ?_; rintro e W ⟨rfl, hb⟩; have HST := hid (HST.out.pure hb); obtain ⟨hc0, -, hlt0⟩ := HST.out.cells 0 rfl)
      | (go_at_call 50; refine (HB.out _ HST.out.below).mono ?_; rintro e W ⟨rfl, hb⟩; have HST := hid (HST.out.pure hb); obtain ⟨hc0, -, hlt0⟩ := HST.out.cells 0 rfl)
      | (go_at_call 51; refine (HS.out _ HST.out.below).mono ?_; rintro e W ⟨rfl, hb⟩; have HST := hid (HST.out.pure hb); obtain ⟨hc0, -, hlt0⟩ := HST.out.cells 0 rfl))
    all_goals try (
      go_ret
      refine ⟨ret_str (bytes_eq ?_), HST.out.below⟩
      simp only [beq_iff_eq, beq_eq_false_iff_ne, ne_eq] at *
      first | (simp [bareG, data_app, *]; done) | (have h6 : c = 6 := (by omega); simp [bareG, *]))
    · refine wp_plan_st rfl [(true, 0), (true, 1), (true, 4), (false, 2), (true, 3), (false, 5), (true, 6), (true, 7)] HST.out (by kernel_rfl) (fun d v c a w h => by cases d <;> exact h) (fun hst => ?_)
      repeat (refine plan_q rfl rfl (fun W hW => by obtain ⟨hc0, -, -⟩ := St.cells hW 0 rfl; clear hW; go_simp; first | (rw [if_neg (by simp; omega)]; done) | (rw [if_neg (by omega)]; done) | (with_reducible exact rfl)) ?_)
      refine plan_lst rfl rfl ?_
      go_simp
      refine (HD.out _).mono ?_
      rintro e Wn ⟨rfl, rfl⟩
      refine ⟨[], hst, ?_⟩
      repeat (refine plan_q rfl rfl (fun W hW => by obtain ⟨hc0, -, -⟩ := St.cells hW 0 rfl; clear hW; go_simp; first | (rw [if_neg (by simp; omega)]; done) | (rw [if_neg (by omega)]; done) | (with_reducible exact rfl)) ?_)
      refine plan_lst rfl rfl ?_
      go_simp
      refine (HL.out _ hst.below).mono ?_
      rintro e Wn ⟨rfl, hb⟩
      have hst := hst.pure hb
      refine ⟨[], hst, ?_⟩
      repeat (refine plan_q rfl rfl (fun W hW => by obtain ⟨hc0, -, -⟩ := St.cells hW 0 rfl; clear hW; go_simp; first | (rw [if_neg (by simp; omega)]; done) | (rw [if_neg (by omega)]; done) | (with_reducible exact rfl)) ?_)
      unfold wpPlan
      have HST := hid hst
      clear hst
      go_simp
      go_wp2
      go_ret
      refine ⟨ret_str (bytes_eq ?_), HST.out.below⟩
      simp only [beq_iff_eq, beq_eq_false_iff_ne, ne_eq] at *
      first | (simp [bareG, data_app, *]; done) | (have h6 : c = 6 := (by omega); simp [bareG, *])
    · refine wp_plan_st rfl [(true, 0), (true, 1), (true, 4), (false, 2), (true, 3), (false, 5), (true, 6), (true, 7)] HST.out (by kernel_rfl) (fun d v c a w h => by cases d <;> exact h) (fun hst => ?_)
      repeat (refine plan_q rfl rfl (fun W hW => by obtain ⟨hc0, -, -⟩ := St.cells hW 0 rfl; clear hW; go_simp; first | (rw [if_neg (by simp; omega)]; done) | (rw [if_neg (by omega)]; done) | (with_reducible exact rfl)) ?_)
      refine plan_lst rfl rfl ?_
      go_simp
      refine (HE.out _).mono ?_
      rintro e Wn ⟨rfl, rfl⟩
      refine ⟨[], hst, ?_⟩
      repeat (refine plan_q rfl rfl (fun W hW => by obtain ⟨hc0, -, -⟩ := St.cells hW 0 rfl; clear hW; go_simp; first | (rw [if_neg (by simp; omega)]; done) | (rw [if_neg (by omega)]; done) | (with_reducible exact rfl)) ?_)
      refine plan_lst rfl rfl ?_
      go_simp
      refine (HG.out _ hst.below).mono ?_
      rintro e Wn ⟨rfl, hb⟩
      have hst := hst.pure hb
      refine ⟨[], hst, ?_⟩
      repeat (refine plan_q rfl rfl (fun W hW => by obtain ⟨hc0, -, -⟩ := St.cells hW 0 rfl; clear hW; go_simp; first | (rw [if_neg (by simp; omega)]; done) | (rw [if_neg (by omega)]; done) | (with_reducible exact rfl)) ?_)
      unfold wpPlan
      have HST := hid hst
      clear hst
      go_simp
      go_wp2
      go_ret
      refine ⟨ret_str (bytes_eq ?_), HST.out.below⟩
      simp only [beq_iff_eq, beq_eq_false_iff_ne, ne_eq] at *
      first | (simp [bareG, data_app, *]; done) | (have h6 : c = 6 := (by omega); simp [bareG, *])
end Go.Proofs.YtapjlmehfbnaoaaDoor
