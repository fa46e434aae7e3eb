/- A region that draws its order, walked in one planned order: what only looks is taken first, the loud operations in their forced row. Conditions: none. -/
import Derived.OrdersHeld
import Derived.WalkKit
namespace Go.Proofs.YtapjlmehfbnaoaaDoor
open Go Go.RowKit

section
variable {P : Program} {ops : Array Oper} {Q : Exit → Act → World → Prop} {md : Region.Mode}

theorem wpAnyH_mono {S S' : World → Prop} (hS : ∀ W, S' W → S W) : ∀ (fuel : Nat) (l : Array Bool) (a : Act) (w : World), wpAnyH P md ops Q S' fuel l a w → wpAnyH P md ops Q S fuel l a w
  | 0, _, _, _, h => h
  | fuel + 1, _, _, _, h => ⟨h.1, fun i hi => wpOp_mono (fun _ _ h' => ⟨hS _ h'.1, wpAnyH_mono hS fuel _ _ _ h'.2⟩) (h.2 i hi)⟩

def wpPlan (P : Program) (ops : Array Oper) (Q : Exit → Act → World → Prop) : List (Bool × Nat) → (World → Prop) → Act → World → Prop
  | [], _, a, w => Q .normal a w
  | (true, i) :: rest, S, a, w => ∃ oi v, ops[i]? = some oi ∧ YieldsIf P ops S oi v a ∧ wpPlan P ops Q rest S (a.put oi.dst v) w
  | (false, i) :: rest, S, a, w => wpOp P ops Q i (fun a' w' => ∃ S' : World → Prop, S' w' ∧ (∀ W, S' W → S W) ∧ wpPlan P ops Q rest S' a' w') a w

def planOk (md : Region.Mode) (ops : Array Oper) : List (Bool × Nat) → Array Bool → Bool
  | [], l => (Region.ready md ops l).isEmpty
  | (true, i) :: rest, l => Region.free md ops l i && (Region.ready md ops l).contains i && planOk md ops rest (l.setIfInBounds i true)
  | (false, i) :: rest, l => (Region.ready md ops l == [i]) && planOk md ops rest (l.setIfInBounds i true)

theorem plan_sound (hs : Region.noSelect ops = true) (hQ : ∀ d v c a w, Q (.panic c) (Act.put a d v) w → Q (.panic c) a w) :
    ∀ (plan : List (Bool × Nat)) (l : Array Bool) (S : World → Prop) (a : Act) (w : World), planOk md ops plan l = true → S w → wpPlan P ops Q plan S a w → wpAnyH P md ops Q S plan.length l a w
  | [], l, S, a, w, hok, _, h => wpAnyH_done (by simpa [planOk] using hok) h 0
  | (true, i) :: rest, l, S, a, w, hok, hS, h => by
    simp only [planOk, Bool.and_eq_true] at hok
    obtain ⟨⟨h1, h2⟩, h3⟩ := hok
    obtain ⟨oi, v, hi, hy, hrest⟩ := h
    exact wpAnyH_take hi hs h1 h2 (fun c a w => hQ _ _ c a w) hy hS (plan_sound hs hQ rest _ S _ _ h3 hS hrest)
  | (false, i) :: rest, l, S, a, w, hok, hS, h => by
    simp only [planOk, Bool.and_eq_true, beq_iff_eq] at hok
    obtain ⟨h1, h2⟩ := hok
    refine wpAnyH_all h1 (by simp) fun j hj => ?_
    obtain rfl : j = i := by simpa using hj
    refine wpOp_mono (fun a' w' hh => ?_) h
    obtain ⟨S', hS', hm, hr⟩ := hh
    exact ⟨hm _ hS', wpAnyH_mono hm _ _ _ _ (plan_sound hs hQ rest _ S' _ _ h2 hS' hr)⟩

theorem wp_region_plan {id : Nat} {a : Act} {w : World} (hm : P.follows .mixedOrders = true) (plan : List (Bool × Nat)) (hok : (Region.noSelect ops && planOk .any ops plan (Array.replicate ops.size false) && (plan.length == ops.size)) = true)
    (hQ : ∀ d v c a w, Q (.panic c) (Act.put a d v) w → Q (.panic c) a w) (S : World → Prop) (hS : S w.drew) (h : wpPlan P ops Q plan S a w.drew) : (Code.region id ops true).wp P Q a w := by
  simp only [Bool.and_eq_true, beq_iff_eq] at hok
  obtain ⟨⟨h1, h2⟩, h3⟩ := hok
  refine wp_region_held (S := S) hm ?_
  rw [← h3]
  rw [← h3] at h2
  exact plan_sound h1 hQ plan _ S a _ h2 hS h

theorem plan_q {i : Nat} {rest : List (Bool × Nat)} {S : World → Prop} {a : Act} {w : World} {oi : Oper} {v : Value} (hi : ops[i]? = some oi) (hg : Region.wanted oi (yielded ops a.tmps) = true)
    (hv : ∀ W, S W → (execOp a.eval oi).run P W = .ok (.value v) W) (h : wpPlan P ops Q rest S (a.put oi.dst v) w) : wpPlan P ops Q ((true, i) :: rest) S a w := ⟨oi, v, hi, .inl ⟨hg, hv⟩, h⟩
theorem plan_l {i : Nat} {rest : List (Bool × Nat)} {S : World → Prop} {a : Act} {w : World} {oi : Oper} (hi : ops[i]? = some oi) (hg : Region.wanted oi (yielded ops a.tmps) = true)
    (h : oi.wp P a w (fun a' w' => ∃ S' : World → Prop, S' w' ∧ (∀ W, S' W → S W) ∧ wpPlan P ops Q rest S' a' w') Q) : wpPlan P ops Q ((false, i) :: rest) S a w := by
  unfold wpPlan wpOp
  rw [hi]
  simp only [hg, if_true]
  exact .inl h
end
end Go.Proofs.YtapjlmehfbnaoaaDoor
