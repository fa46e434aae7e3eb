/- Layer 4, plain: what a right instruction is, op by op. Conditions: none. -/
import Derived.Test.YtapjlmehfbnaoaaDoorInsx
namespace Go.Proofs.YtapjlmehfbnaoaaDoor
open Go Go.RowKit Go.Proofs

theorem right_row (i : Ins) (h : rightP i = true) : 1 ≤ i.op ∧ i.op ≤ 31 := by
  unfold rightP isRow at h
  simp only [Bool.and_eq_true, decide_eq_true_eq] at h
  exact h.1.1.1
theorem op_cases (op : Int) (h : 1 ≤ op ∧ op ≤ 31) : op = 1 ∨ op = 2 ∨ op = 3 ∨ op = 4 ∨ op = 5 ∨ op = 6 ∨ op = 7 ∨ op = 8 ∨ op = 9 ∨ op = 10 ∨ op = 11 ∨ op = 12 ∨ op = 13 ∨ op = 14 ∨ op = 15 ∨ op = 16 ∨ op = 17 ∨ op = 18 ∨ op = 19 ∨ op = 20 ∨ op = 21 ∨ op = 22 ∨ op = 23 ∨ op = 24 ∨ op = 25 ∨ op = 26 ∨ op = 27 ∨ op = 28 ∨ op = 29 ∨ op = 30 ∨ op = 31 := by omega

set_option maxHeartbeats 8000000 in
set_option maxRecDepth 100000 in
theorem right_bd (i : Ins) (h : rightP i = true) : i.d < 32 ∧ i.s < 32 ∧ i.t < 32 ∧ i.n < 2 ∧ i.pred < 4 ∧ i.mode ≤ 4 ∧ i.count < 2048 ∧ (targetP i = true → 0 ≤ i.imm ∧ i.imm < 4294967296 ∧ i.imm % 4 = 0) := by
  have hr := right_row i h
  obtain ⟨op, d, s, t, n, pred, mode, nw, ext, count, imm⟩ := i
  rcases op_cases op hr with rfl | rfl | rfl | rfl | rfl | rfl | rfl | rfl | rfl | rfl | rfl | rfl | rfl | rfl | rfl | rfl | rfl | rfl | rfl | rfl | rfl | rfl | rfl | rfl | rfl | rfl | rfl | rfl | rfl | rfl | rfl
  all_goals
    clear hr
    simp [rightP, isRow, leftP, rowD, rowOf, tableP, withoutP, holdsP, hasP, atP, atGo, zeroIns, targetP] at h ⊢
    omega
end Go.Proofs.YtapjlmehfbnaoaaDoor
