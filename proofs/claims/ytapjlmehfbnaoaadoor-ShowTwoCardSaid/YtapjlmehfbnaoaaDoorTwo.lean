/- Law 22, ShowTwo: what it computes. Conditions: the library's tables are laid; the numbers are of their kinds. -/
import Derived.Test.YtapjlmehfbnaoaaDoorShowi
namespace Go.Proofs.YtapjlmehfbnaoaaDoor
open Go Go.RowKit Go.Proofs
open Go.Lib (hid)

def wakeA : Ins := ⟨2, 1, 2, 3, 0, 1, 4, false, false, 0, 0⟩
def wakeB : Ins := ⟨8, 1, 0, 0, 0, 0, 0, false, true, 0, -5⟩
theorem wakeA_ok : wakeA.ok := ⟨by decide, by decide, by decide, by decide, by decide, by decide, by decide, by decide, by decide⟩
theorem wakeB_ok : wakeB.ok := ⟨by decide, by decide, by decide, by decide, by decide, by decide, by decide, by decide, by decide⟩
theorem wakeA_p : showP wakeA [] = [105, 102, 32, 40, 33, 112, 49, 46, 110, 101, 119, 41, 32, 114, 49, 32, 61, 32, 97, 100, 100, 40, 114, 50, 44, 114, 51, 41] := by kernel_rfl
theorem wakeB_p : showP wakeB [] = [114, 49, 32, 61, 32, 35, 35, 45, 53] := by kernel_rfl

theorem awA (w : World) (hp : Pow w) (hb : Bru w) : Calls Tryd.prog 9 #[.agg #[.int .u8 2, .int .u8 1, .int .u8 2, .int .u8 3, .int .u8 0, .int .u8 1, .int .u8 4, .bool false, .bool false, .int .u16 0, .int .i64 0], .nilFunc] w fun e w' => e = .returned (.string ⟨#[105, 102, 32, 40, 33, 112, 49, 46, 110, 101, 119, 41, 32, 114, 49, 32, 61, 32, 97, 100, 100, 40, 114, 50, 44, 114, 51, 41]⟩) ∧ Below w.heap.size w w' := by
  have h := instNil_c wakeA wakeA_ok w hp hb
  rw [wakeA_p] at h
  exact h

theorem awB (w : World) (hp : Pow w) (hb : Bru w) : Calls Tryd.prog 9 #[.agg #[.int .u8 8, .int .u8 1, .int .u8 0, .int .u8 0, .int .u8 0, .int .u8 0, .int .u8 0, .bool false, .bool true, .int .u16 0, .int .i64 (-5)], .nilFunc] w fun e w' => e = .returned (.string ⟨#[114, 49, 32, 61, 32, 35, 35, 45, 53]⟩) ∧ Below w.heap.size w w' := by
  have h := instNil_c wakeB wakeB_ok w hp hb
  rw [wakeB_p] at h
  exact h

set_option maxHeartbeats 4000000 in
set_option maxRecDepth 100000 in
theorem awake_c (w : World) (hp : Pow w) (hb : Bru w) : Calls Tryd.prog 8 #[] w fun e w' => e = .returned (.bool true) ∧ Below w.heap.size w w' := by
  have HA := hid (fun (W : World) (h : Below w.heap.size w W) => awA W (hp.below h) (hb.below h))
  have HB := hid (fun (W : World) (h : Below w.heap.size w W) => awB W (hp.below h) (hb.below h))
  have HST := hid (St.start w)
  clear hp hb
  go_enter Tryd.func8, Tryd.ntmps8
  go_wp2_with fail
  refine ((HA.out _ HST.out.below)).mono ?_
  rintro e W ⟨rfl, hb⟩
  have HST := hid (HST.out.pure hb)
  go_wp2_with fail
  refine ((HB.out _ HST.out.below)).mono ?_
  rintro e W ⟨rfl, hb⟩
  have HST := hid (HST.out.pure hb)
  go_wp2_with fail
  go_ret
  exact ⟨rfl, HST.out.below⟩

set_option maxHeartbeats 4000000 in
set_option maxRecDepth 100000 in
theorem run_eq_ins (a b : Ins) (w : World) : (binOp .eql 24 (.agg #[.int .u8 a.op, .int .u8 a.d, .int .u8 a.s, .int .u8 a.t, .int .u8 a.n, .int .u8 a.pred, .int .u8 a.mode, .bool a.nw, .bool a.ext, .int .u16 a.count, .int .i64 a.imm]) (.agg #[.int .u8 b.op, .int .u8 b.d, .int .u8 b.s, .int .u8 b.t, .int .u8 b.n, .int .u8 b.pred, .int .u8 b.mode, .bool b.nw, .bool b.ext, .int .u16 b.count, .int .i64 b.imm])).run Tryd.prog w = .ok (.bool (decide (a = b))) w := by
  obtain ⟨xop, xd, xs, xt, xn, xpred, xmode, xnw, xext, xcount, ximm⟩ := a
  obtain ⟨yop, yd, ys, yt, yn, ypred, ymode, ynw, yext, ycount, yimm⟩ := b
  simp [go_sem]
  repeat' split
  all_goals simp [*]

def eqB (a b : Ins) : Bool := decide (a.op = b.op) && (decide (a.d = b.d) && (decide (a.s = b.s) && (decide (a.t = b.t) && (decide (a.n = b.n) && (decide (a.pred = b.pred) && (decide (a.mode = b.mode) && (decide (a.nw = b.nw) && (decide (a.ext = b.ext) && (decide (a.count = b.count) && (decide (a.imm = b.imm)))))))))))
theorem eqB_eq (a b : Ins) : eqB a b = decide (a = b) := by
  obtain ⟨xop, xd, xs, xt, xn, xpred, xmode, xnw, xext, xcount, ximm⟩ := a
  obtain ⟨yop, yd, ys, yt, yn, ypred, ymode, ynw, yext, ycount, yimm⟩ := b
  simp [eqB]

set_option maxHeartbeats 4000000 in
set_option maxRecDepth 100000 in
theorem two_no (a b : Ins) (ha : a.ok) (hb : b.ok) (hr : (rightP a && rightP b) = false) (w : World) (hp : Pow w) (hbr : Bru w) : Calls Tryd.prog 3 #[.agg #[.int .u8 a.op, .int .u8 a.d, .int .u8 a.s, .int .u8 a.t, .int .u8 a.n, .int .u8 a.pred, .int .u8 a.mode, .bool a.nw, .bool a.ext, .int .u16 a.count, .int .i64 a.imm], .agg #[.int .u8 b.op, .int .u8 b.d, .int .u8 b.s, .int .u8 b.t, .int .u8 b.n, .int .u8 b.pred, .int .u8 b.mode, .bool b.nw, .bool b.ext, .int .u16 b.count, .int .i64 b.imm]] w fun e w' => e = .returned (.bool true) ∧ Below w.heap.size w w' := by
  have HA := hid (right_c a ha)
  have HB := hid (right_c b hb)
  have HW := hid (fun (W : World) (h : Below w.heap.size w W) => awake_c W (hp.below h) (hbr.below h))
  have h0 := ((St.start w).alloc [.int .u8 a.op, .int .u8 a.d, .int .u8 a.s, .int .u8 a.t, .int .u8 a.n, .int .u8 a.pred, .int .u8 a.mode, .bool a.nw, .bool a.ext, .int .u16 a.count, .int .i64 a.imm] 24).alloc [.int .u8 b.op, .int .u8 b.d, .int .u8 b.s, .int .u8 b.t, .int .u8 b.n, .int .u8 b.pred, .int .u8 b.mode, .bool b.nw, .bool b.ext, .int .u16 b.count, .int .i64 b.imm] 24
  simp only [heap_size_alloc] at h0
  have HST := hid h0
  clear h0
  cases h1 : rightP a
  all_goals
    rw [h1] at HA hr
    simp only [Bool.true_and, Bool.false_and] at hr
    try rw [hr] at HB
    clear ha hb hr hp hbr h1
    go_enter Tryd.func3, Tryd.ntmps3
    go_wp2_with (first | (go_at_call 7; first | ((with_reducible refine (HA.out _).mono ?_); rintro e W ⟨rfl, hbn⟩; have HST := hid (HST.out.pure hbn); obtain ⟨hc0, -, hlt0⟩ := HST.out.cells 0 rfl; obtain ⟨hc1, -, hlt1⟩ := HST.out.cells 1 rfl) | ((with_reducible refine (HB.out _).mono ?_); rintro e W ⟨rfl, hbn⟩; have HST := hid (HST.out.pure hbn); obtain ⟨hc0, -, hlt0⟩ := HST.out.cells 0 rfl; obtain ⟨hc1, -, hlt1⟩ := HST.out.cells 1 rfl)) | (go_at_call 8; refine (HW.out _ HST.out.below).mono ?_; rintro e W ⟨rfl, hbn⟩; have HST := hid (HST.out.pure hbn)))
    go_ret
    exact ⟨rfl, HST.out.below⟩

set_option maxHeartbeats 4000000 in
set_option maxRecDepth 100000 in
theorem two_yes (a b : Ins) (ha : a.ok) (hb : b.ok) (h1 : rightP a = true) (h2 : rightP b = true) (hlaw : decide (showP a [] = showP b []) = decide (a = b)) (w : World) (hp : Pow w) (hbr : Bru w) : Calls Tryd.prog 3 #[.agg #[.int .u8 a.op, .int .u8 a.d, .int .u8 a.s, .int .u8 a.t, .int .u8 a.n, .int .u8 a.pred, .int .u8 a.mode, .bool a.nw, .bool a.ext, .int .u16 a.count, .int .i64 a.imm], .agg #[.int .u8 b.op, .int .u8 b.d, .int .u8 b.s, .int .u8 b.t, .int .u8 b.n, .int .u8 b.pred, .int .u8 b.mode, .bool b.nw, .bool b.ext, .int .u16 b.count, .int .i64 b.imm]] w fun e w' => e = .returned (.bool true) ∧ Below w.heap.size w w' := by
  have HA := hid (right_c a ha)
  have HB := hid (right_c b hb)
  have HW := hid (fun (W : World) (h : Below w.heap.size w W) => awake_c W (hp.below h) (hbr.below h))
  have h0 := ((St.start w).alloc [.int .u8 a.op, .int .u8 a.d, .int .u8 a.s, .int .u8 a.t, .int .u8 a.n, .int .u8 a.pred, .int .u8 a.mode, .bool a.nw, .bool a.ext, .int .u16 a.count, .int .i64 a.imm] 24).alloc [.int .u8 b.op, .int .u8 b.d, .int .u8 b.s, .int .u8 b.t, .int .u8 b.n, .int .u8 b.pred, .int .u8 b.mode, .bool b.nw, .bool b.ext, .int .u16 b.count, .int .i64 b.imm] 24
  simp only [heap_size_alloc] at h0
  have HST := hid h0
  clear h0
  rw [h1] at HA
  rw [h2] at HB
  have HX := hid (fun (W : World) (h : Below w.heap.size w W) => instNil_c a ha W (hp.below h) (hbr.below h))
  have HY := hid (fun (W : World) (h : Below w.heap.size w W) => instNil_c b hb W (hp.below h) (hbr.below h))
  have HL := hid hlaw
  rw [← eqB_eq] at HL
  have HE : ∀ (W : World), eqB a b = eqB a b := fun _ => rfl
  clear HE
  generalize showP a [] = sa at HX HL
  generalize showP b [] = sb at HY HL
  clear ha hb hp hbr h1 h2 hlaw
  go_enter Tryd.func3, Tryd.ntmps3
  go_wp2_with (first | (go_at_call 7; first | ((with_reducible refine (HA.out _).mono ?_); rintro e W ⟨rfl, hbn⟩; have HST := hid (HST.out.pure hbn); obtain ⟨hc0, -, hlt0⟩ := HST.out.cells 0 rfl; obtain ⟨hc1, -, hlt1⟩ := HST.out.cells 1 rfl) | ((with_reducible refine (HB.out _).mono ?_); rintro e W ⟨rfl, hbn⟩; have HST := hid (HST.out.pure hbn); obtain ⟨hc0, -, hlt0⟩ := HST.out.cells 0 rfl; obtain ⟨hc1, -, hlt1⟩ := HST.out.cells 1 rfl)) | (go_at_call 8; refine (HW.out _ HST.out.below).mono ?_; rintro e W ⟨rfl, hbn⟩; have HST := hid (HST.out.pure hbn)))
  refine wp_plan_st rfl [(true, 0), (true, 2), (true, 5), (true, 6), (true, 7), (false, 1), (false, 3), (true, 4), (true, 8), (true, 9), (false, 10), (true, 11), (true, 12)] HST.out (by kernel_rfl) (fun d v c a w h => by cases d <;> exact h) (fun hst => ?_)
  iterate 4 (refine plan_q rfl rfl (fun W hW => by obtain ⟨hc0, -, -⟩ := St.cells hW 0 rfl; obtain ⟨hc1, -, -⟩ := St.cells hW 1 rfl; clear hW; go_simp; first | (rw [if_neg (by simp; omega)]; done) | (rw [if_neg (by omega)]; done) | (with_reducible exact rfl)) ?_)
  refine plan_q (v := .bool (eqB a b)) rfl rfl (fun W hW => by
    clear hW
    go_simp
    unfold eqB
    repeat' split
    all_goals simp [*]) ?_
  refine plan_lst rfl rfl ?_
  go_simp
  refine (HX.out _ hst.below).mono ?_
  rintro e Wn ⟨rfl, hbn⟩
  have hst := hst.pure hbn
  refine ⟨[], hst, ?_⟩
  refine plan_lst rfl rfl ?_
  go_simp
  refine (HY.out _ hst.below).mono ?_
  rintro e Wn ⟨rfl, hbn⟩
  have hst := hst.pure hbn
  refine ⟨[], hst, ?_⟩
  refine plan_q (v := .bool (decide (sa = sb))) rfl rfl (fun W hW => by
    clear hW
    go_simp
    first | done | (rw [Bool.eq_iff_iff]; simp)) ?_
  refine plan_q (v := .bool true) rfl rfl (fun W hW => by
    clear hW
    have hl := HL.out
    go_simp
    first | done | (rw [Bool.eq_iff_iff]; simp [hl])) ?_
  refine plan_q rfl rfl (fun W hW => by clear hW; go_simp; first | (rw [if_neg (by simp; omega)]; done) | (rw [if_neg (by omega)]; done) | (with_reducible exact rfl)) ?_
  refine plan_lst rfl rfl ?_
  go_simp
  refine (HW.out _ hst.below).mono ?_
  rintro e Wn ⟨rfl, hbn⟩
  have hst := hst.pure hbn
  refine ⟨[], hst, ?_⟩
  iterate 2 (refine plan_q rfl rfl (fun W hW => by clear hW; go_simp; first | (rw [if_neg (by simp; omega)]; done) | (rw [if_neg (by omega)]; done) | (with_reducible exact rfl)) ?_)
  unfold wpPlan
  have HST := hid hst
  clear hst
  go_simp
  go_wp2
  go_ret
  exact ⟨rfl, HST.out.below⟩
end Go.Proofs.YtapjlmehfbnaoaaDoor
