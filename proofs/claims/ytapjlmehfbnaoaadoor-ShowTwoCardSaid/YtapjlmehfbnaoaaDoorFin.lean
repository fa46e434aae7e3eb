/- Law 22, ShowTwo, plain: two right instructions are printed alike just if they are the same. Conditions: their numbers are of their kinds. -/
import Derived.Test.YtapjlmehfbnaoaaDoorInj
namespace Go.Proofs.YtapjlmehfbnaoaaDoor
open Go Go.RowKit Go.Proofs

set_option maxHeartbeats 16000000 in
set_option maxRecDepth 100000 in
theorem show_two (a b : Ins) (ha : a.ok) (hb : b.ok) (ra : rightP a = true) (rb : rightP b = true) (h : showP a [] = showP b []) : a = b := by
  have ht : tokP a = tokP b := prs_inj _ _ (tokP_ok a ra) (tokP_ok b rb) (by rw [tokP_pr a ha ra, tokP_pr b hb rb, h])
  have hr := right_row a ra
  have hr' := right_row b rb
  have hv : varP a = varP b := vars_inj _ (var_mem a ha ra) _ (var_mem b hb rb) (by rw [← sk_tok a ha.mode.1 hr, ← sk_tok b hb.mode.1 hr', ht])
  have hm : a.mode = 0 ∨ a.mode = 1 ∨ a.mode = 2 ∨ a.mode = 3 ∨ a.mode = 4 := by
    have := (right_bd a ra).2.2.2.2.2.1
    have := ha.mode
    omega
  unfold varP at hv
  simp only [Prod.mk.injEq] at hv
  obtain ⟨v1, v2, v3, v4, v5⟩ := hv
  have e1 : a.op = b.op := by omega
  have e2 : a.mode = b.mode := by have := ha.mode; have := hb.mode; omega
  obtain ⟨a1, a2, a3, a4, a5, a6, a7, a8, a9⟩ := ha
  obtain ⟨b1, b2, b3, b4, b5, b6, b7, b8, b9⟩ := hb
  obtain ⟨xop, xd, xs, xt, xn, xpred, xmode, xnw, xext, xcount, ximm⟩ := a
  obtain ⟨yop, yd, ys, yt, yn, ypred, ymode, ynw, yext, ycount, yimm⟩ := b
  simp only at e1 e2 v3 v5 v4 hm
  subst e1
  subst e2
  subst v3
  subst v5
  have hzy : ximm < 0 ↔ yimm < 0 := by simpa using v4
  clear v1 v2 v4 h hr'
  simp only at a1 a2 a3 a4 a5 a6 a7 a8 a9 b1 b2 b3 b4 b5 b6 b7 b8 b9
  rcases op_cases xop hr with rfl | rfl | rfl | rfl | rfl | rfl | rfl | rfl | rfl | rfl | rfl | rfl | rfl | rfl | rfl | rfl | rfl | rfl | rfl | rfl | rfl | rfl | rfl | rfl | rfl | rfl | rfl | rfl | rfl | rfl | rfl
  all_goals
    clear hr a1 b1
    simp [rightP, isRow, leftP, rowD, rowOf, tableP, withoutP, holdsP, hasP, atP, atGo, zeroIns] at ra rb
    rcases hm with rfl | rfl | rfl | rfl | rfl
    all_goals first
      | (exfalso; omega)
      | (by_cases hz : ximm < 0
         · have hy := hzy.1 hz
           cases xext <;> cases xnw
           all_goals
             simp [tokP, condT, patP, pats, putT, sharps, fars, itoaT, hz, hy] at ht
             rw [Ins.mk.injEq]
             refine ⟨rfl, ?_, ?_, ?_, ?_, ?_, rfl, rfl, rfl, ?_, ?_⟩ <;> omega
         · have hy : ¬ yimm < 0 := fun h => hz (hzy.2 h)
           cases xext <;> cases xnw
           all_goals
             simp [tokP, condT, patP, pats, putT, sharps, fars, itoaT, hz, hy] at ht
             rw [Ins.mk.injEq]
             refine ⟨rfl, ?_, ?_, ?_, ?_, ?_, rfl, rfl, rfl, ?_, ?_⟩ <;> omega)
end Go.Proofs.YtapjlmehfbnaoaaDoor
