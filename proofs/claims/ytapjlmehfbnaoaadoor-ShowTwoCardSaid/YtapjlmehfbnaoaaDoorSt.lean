/- What is known of memory as a list of things, each with its own blocks; the world itself is never spelled out. Conditions: none. -/
import Derived.Test.YtapjlmehfbnaoaaDoorAid
import Derived.Test.YtapjlmehfbnaoaaDoorPlan
import Derived.Deep.Draws
namespace Go.Proofs.YtapjlmehfbnaoaaDoor
open Go Go.RowKit

/-- One thing known of memory: the blocks that are its own, and what it says. -/
structure Ast where
  own : Nat → Prop
  holds : World → Prop
  keep : ∀ W W' : World, (∀ k, own k → W'.heap[k]? = W.heap[k]?) → holds W → holds W'
  lt : ∀ W, holds W → ∀ k, own k → k < W.heap.size

/-- A block known whole. -/
def blk (b : Nat) (cs : List Value) (T : TypeId) : Ast where
  own k := k = b
  holds W := W.heap[b]? = some (.cells cs.toArray T (0, 0))
  keep _ _ h hh := (h b rfl).trans hh
  lt W hh k hk := by subst hk; exact (Array.getElem?_eq_some_iff.1 hh).1
/-- A map known whole. -/
def mpb (b : Nat) (es : List MapEntry) (c : Nat) : Ast where
  own k := k = b
  holds W := W.heap[b]? = some (.map es.toArray c)
  keep _ _ h hh := (h b rfl).trans hh
  lt W hh k hk := by subst hk; exact (Array.getElem?_eq_some_iff.1 hh).1

theorem own_kept {w w' : World} {base : Nat} {e : TypeId} {size n : Nat} {v : Value} {xs : List Value} (h : w.ownsRow base e size v n xs) (hk : ∀ k, v.ownBlock = some k → w'.heap[k]? = w.heap[k]?) : w'.ownsRow base e size v n xs := by
  refine ⟨h.1, ?_⟩
  rcases h.2 with hn | ⟨g, cap, cur, rfl, hb, hgg, rest⟩
  · exact .inl hn
  · exact .inr ⟨g, cap, cur, rfl, hb, (hk g rfl).trans hgg, rest⟩
/-- A slice that is nobody else's, with these cells. -/
def rw_ (v : Value) (e : TypeId) (sz n : Nat) (xs : List Value) : Ast where
  own k := v.ownBlock = some k
  holds W := W.ownsRow 0 e sz v n xs
  keep _ _ h hh := own_kept hh h
  lt _ hh k hk := (hh.lt k hk).2

structure St (M : List Nat) (w0 : World) (as : List Ast) (W : World) : Prop where
  os : W.os = w0.os
  tape : W.tape = w0.tape
  output : W.output = w0.output
  size : w0.heap.size ≤ W.heap.size
  block : ∀ k, k < w0.heap.size → k ∉ M → W.heap[k]? = w0.heap[k]?
  all : ∀ A ∈ as, A.holds W
  base : ∀ A ∈ as, ∀ k, A.own k → w0.heap.size ≤ k ∨ k ∈ M
  apart : as.Pairwise fun A A' => ∀ k, A.own k → ¬ A'.own k

theorem St.start (w : World) : St [] w [] w := ⟨rfl, rfl, rfl, Nat.le_refl _, fun _ _ _ => rfl, (fun _ h => by cases h), (fun _ h => by cases h), List.Pairwise.nil⟩
theorem St.startM {w : World} {b : Nat} {cs : List Value} {T : TypeId} (h : w.heap[b]? = some (.cells cs.toArray T (0, 0))) : St [b] w [blk b cs T] w :=
  ⟨rfl, rfl, rfl, Nat.le_refl _, fun _ _ _ => rfl, fun _ hA => by rw [List.mem_singleton.1 hA]; exact h, fun _ hA k hk => by rw [List.mem_singleton.1 hA] at hk; exact .inr (by rw [show k = b from hk]; exact List.mem_singleton_self b), List.pairwise_singleton _ _⟩
theorem St.below {w0 W : World} {as : List Ast} (h : St [] w0 as W) : Below w0.heap.size w0 W := ⟨h.os, h.tape, h.output, h.size, fun k hk => h.block k hk (by simp)⟩
theorem St.of_below {w0 W : World} (h : Below w0.heap.size w0 W) : St [] w0 [] W := ⟨h.os, h.tape, h.output, h.size, fun k hk _ => h.block k hk, (fun _ h => by cases h), (fun _ h => by cases h), List.Pairwise.nil⟩

section
variable {M : List Nat} {w0 W : World} {as : List Ast}

theorem St.mono {as' : List Ast} (h : St M w0 as W) (hs : as'.Sublist as) : St M w0 as' W :=
  ⟨h.os, h.tape, h.output, h.size, h.block, fun A hA => h.all A (hs.subset hA), fun A hA => h.base A (hs.subset hA), h.apart.sublist hs⟩
theorem St.perm {as' : List Ast} (h : St M w0 as W) (hp : as.Perm as') : St M w0 as' W :=
  ⟨h.os, h.tape, h.output, h.size, h.block, fun A hA => h.all A (hp.mem_iff.2 hA), fun A hA => h.base A (hp.mem_iff.2 hA), (hp.pairwise_iff (fun h k hk hk' => h k hk' hk)).1 h.apart⟩
theorem St.drew (h : St M w0 as W) : St M w0 as W.drew := ⟨h.os, h.tape, h.output, h.size, h.block, fun A hA => A.keep W W.drew (fun _ _ => rfl) (h.all A hA), h.base, h.apart⟩
theorem St.drewN (h : St M w0 as W) (n : Nat) : St M w0 as (W.drewN n) := ⟨h.os, h.tape, h.output, h.size, h.block, fun A hA => A.keep W (W.drewN n) (fun _ _ => rfl) (h.all A hA), h.base, h.apart⟩

/-- What a piece of work does that needs only a part of what is known: the rest stays known. -/
theorem St.call {M' : List Nat} {sub rest new : List Ast} {W' : World} (h : St M w0 as W) (hp : as.Perm (sub ++ rest)) (h' : St M' W new W') (hM : ∀ k ∈ M', ∃ A ∈ sub, A.own k) : St M w0 (new ++ rest) W' := by
  have h1 := h.perm hp
  have hap := List.pairwise_append.1 h1.apart
  have hk : ∀ A ∈ rest, ∀ k, A.own k → k < W.heap.size ∧ k ∉ M' := fun A hA k hk => ⟨A.lt W (h1.all A (List.mem_append_right _ hA)) k hk, fun hm => by
    obtain ⟨A', hA', hk'⟩ := hM k hm
    exact hap.2.2 A' hA' A hA k hk' hk⟩
  have hMb : ∀ k ∈ M', w0.heap.size ≤ k ∨ k ∈ M := fun k hm => by
    obtain ⟨A', hA', hk'⟩ := hM k hm
    exact h1.base A' (List.mem_append_left _ hA') k hk'
  refine ⟨h'.os.trans h.os, h'.tape.trans h.tape, h'.output.trans h.output, Nat.le_trans h.size h'.size, fun k hlt hn => ?_, fun A hA => ?_, fun A hA k hk' => ?_, ?_⟩
  · rw [h'.block k (Nat.lt_of_lt_of_le hlt h.size) (fun hm => (hMb k hm).elim (fun h => by omega) hn)]
    exact h.block k hlt hn
  · rcases List.mem_append.1 hA with hA | hA
    · exact h'.all A hA
    · exact A.keep W W' (fun k hk' => h'.block k (hk A hA k hk').1 (hk A hA k hk').2) (h1.all A (List.mem_append_right _ hA))
  · rcases List.mem_append.1 hA with hA | hA
    · rcases h'.base A hA k hk' with hb | hb
      · exact .inl (Nat.le_trans h.size hb)
      · exact hMb k hb
    · exact h1.base A (List.mem_append_right _ hA) k hk'
  · refine List.pairwise_append.2 ⟨h'.apart, hap.2.1, fun A hA A' hA' k hk1 hk2 => ?_⟩
    obtain ⟨hlt, hn⟩ := hk A' hA' k hk2
    rcases h'.base A hA k hk1 with hb | hb
    · omega
    · exact hn hb
/-- Work that needs nothing that is known here: it makes new things at most. -/
theorem St.adds {new : List Ast} {W' : World} (h : St M w0 as W) (h' : St [] W new W') : St M w0 (new ++ as) W' := h.call (sub := []) (.refl _) h' (fun _ hm => by cases hm)
theorem St.pure {W' : World} (h : St M w0 as W) (h' : Below W.heap.size W W') : St M w0 as W' := h.adds (St.of_below h')
theorem St.alloc (h : St M w0 as W) (cs : List Value) (T : TypeId) : St M w0 (blk W.heap.size cs T :: as) (W.alloc (.cells cs.toArray T)) :=
  h.adds (new := [blk W.heap.size cs T]) ⟨rfl, rfl, rfl, by simp, fun k hk _ => Below.heap_alloc W _ k hk, fun _ hA => by rw [List.mem_singleton.1 hA]; exact heap_alloc_new W _,
    fun _ hA k hk => by rw [List.mem_singleton.1 hA] at hk; exact .inl (Nat.le_of_eq hk.symm), List.pairwise_singleton _ _⟩
theorem perm_erase (as : List Ast) (i : Nat) (A : Ast) (hi : as[i]? = some A) : as.Perm ([A] ++ as.eraseIdx i) := by
  induction as generalizing i with
  | nil => simp at hi
  | cons a as ih =>
    cases i with
    | zero => obtain rfl : a = A := by simpa using hi
              exact .refl _
    | succ i => exact ((ih i (by simpa using hi)).cons a).trans (.swap _ _ _)
/-- Work on one known thing. -/
theorem St.on (i : Nat) {A : Ast} {M' : List Nat} {new : List Ast} {W' : World} (h : St M w0 as W) (hi : as[i]? = some A) (h' : St M' W new W') (hM : ∀ k ∈ M', A.own k) : St M w0 (new ++ as.eraseIdx i) W' :=
  h.call (sub := [A]) (perm_erase as i A hi) h' (fun k hk => ⟨A, List.mem_singleton_self A, hM k hk⟩)
theorem St.get (h : St M w0 as W) (i : Nat) {A : Ast} (hi : as[i]? = some A) : A.holds W := h.all A (List.mem_of_getElem? hi)

theorem St.setCell (i : Nat) {b : Nat} {cs : List Value} {T : TypeId} (h : St M w0 as W) (hi : as[i]? = some (blk b cs T)) (o : Nat) (u : Value) : St M w0 (blk b (cs.set o u) T :: as.eraseIdx i) (W.setCell ⟨b, o, none⟩ u) := by
  have hb : W.heap[b]? = some (.cells cs.toArray T (0, 0)) := h.get i hi
  refine h.on i hi (M' := [b]) (new := [blk b (cs.set o u) T]) ⟨rfl, rfl, rfl, by simp [World.setCell], fun k _ hk => Below.heap_setCell _ _ _ _ (by simpa using hk), fun _ hA => ?_, fun _ hA k hk => ?_, List.pairwise_singleton _ _⟩ (fun k hk => List.mem_singleton.1 hk)
  · rw [List.mem_singleton.1 hA]
    show (W.setCell _ u).heap[b]? = _
    simp [World.setCell, Array.getElem?_modify, hb]
  · rw [List.mem_singleton.1 hA] at hk
    exact .inr (by rw [show k = b from hk]; exact List.mem_singleton_self b)

/-- What the walk reads off a block known whole. -/
theorem St.cells (h : St M w0 as W) (i : Nat) {b : Nat} {cs : List Value} {T : TypeId} (hi : as[i]? = some (blk b cs T)) : (∀ o, W.cell? ⟨b, o, none⟩ = cs[o]?) ∧ (∀ o, W.frozen? ⟨b, o, none⟩ = false) ∧ b < W.heap.size := by
  have hb : W.heap[b]? = some (.cells cs.toArray T (0, 0)) := h.get i hi
  exact ⟨fun o => by simp [World.cell?, hb], fun o => by simp [World.frozen?, hb], (Array.getElem?_eq_some_iff.1 hb).1⟩
/-- What was there before, and is not to be written. -/
theorem St.old (h : St M w0 as W) {b : Nat} (hb : b < w0.heap.size) (hn : b ∉ M) : (∀ o, W.cell? ⟨b, o, none⟩ = w0.cell? ⟨b, o, none⟩) ∧ b < W.heap.size :=
  ⟨fun o => World.cell?_of_block (w := w0) (a := ⟨b, o, none⟩) (h.block b hb hn), Nat.lt_of_lt_of_le hb h.size⟩
theorem St.ne (h : St M w0 as W) (i j : Nat) (hij : i ≠ j) {A A' : Ast} (hi : as[i]? = some A) (hj : as[j]? = some A') {k k' : Nat} (hk : A.own k) (hk' : A'.own k') : k ≠ k' := by
  intro e
  subst e
  obtain ⟨h1, rfl⟩ := List.getElem?_eq_some_iff.1 hi
  obtain ⟨h2, rfl⟩ := List.getElem?_eq_some_iff.1 hj
  rcases Nat.lt_or_ge i j with hlt | hge
  · exact List.pairwise_iff_getElem.1 h.apart i j h1 h2 hlt k hk hk'
  · exact List.pairwise_iff_getElem.1 h.apart j i h2 h1 (by omega) k hk' hk
theorem St.fresh (h : St M w0 as W) (i : Nat) {A : Ast} (hi : as[i]? = some A) {k : Nat} (hk : A.own k) (hM : k ∉ M) : w0.heap.size ≤ k := (h.base A (List.mem_of_getElem? hi) k hk).resolve_right hM
end

/-- A region that draws its order, walked in one planned order over what is known of memory. -/
theorem wp_plan_st {P : Program} {ops : Array Oper} {Q : Exit → Act → World → Prop} {id : Nat} {a : Act} {w : World} {M : List Nat} {w0 : World} {as : List Ast} (hm : P.follows .mixedOrders = true) (plan : List (Bool × Nat)) (hst : St M w0 as w) (hok : (Region.noSelect ops && planOk .any ops plan (Array.replicate ops.size false) && (plan.length == ops.size)) = true)
    (hQ : ∀ d v c a w, Q (.panic c) (Act.put a d v) w → Q (.panic c) a w) (h : St M w0 as w.drew → wpPlan P ops Q plan (St M w0 as) a w.drew) : (Code.region id ops true).wp P Q a w :=
  wp_region_plan hm plan hok hQ (St M w0 as) hst.drew (h hst.drew)
/-- A loud step that leaves what is known, and adds to it. -/
theorem plan_lst {P : Program} {ops : Array Oper} {Q : Exit → Act → World → Prop} {i : Nat} {rest : List (Bool × Nat)} {a : Act} {w : World} {M : List Nat} {w0 : World} {as : List Ast} {oi : Oper} (hi : ops[i]? = some oi) (hg : Region.wanted oi (yielded ops a.tmps) = true)
    (h : oi.wp P a w (fun a' w' => ∃ new, St M w0 (new ++ as) w' ∧ wpPlan P ops Q rest (St M w0 (new ++ as)) a' w') Q) : wpPlan P ops Q ((false, i) :: rest) (St M w0 as) a w := by
  refine plan_l hi hg ?_
  have hmono : ∀ (a' : Act) (w' : World), (∃ new, St M w0 (new ++ as) w' ∧ wpPlan P ops Q rest (St M w0 (new ++ as)) a' w') → ∃ S' : World → Prop, S' w' ∧ (∀ W, S' W → St M w0 as W) ∧ wpPlan P ops Q rest S' a' w' :=
    fun a' w' ⟨new, h1, h2⟩ => ⟨_, h1, fun W hW => hW.mono (List.sublist_append_right _ _), h2⟩
  unfold Oper.wp at h ⊢
  revert h
  generalize (execOp a.eval oi).run P w = r
  intro h
  cases r with
  | ok n w' =>
    cases n <;> simp only [Oper.upon] at h ⊢
    case value u => exact hmono _ _ h
    case skip => exact hmono _ _ h
    case defer d => exact hmono _ _ h
    case enter f args =>
      refine Calls.mono h fun e w'' he => ?_
      cases e with
      | returned u => exact hmono _ _ he
      | panicked c => exact he
      | outgrown => exact he
    case row row args => exact Rows.mono h fun u w'' he => hmono _ _ he
  | halt x w' =>
    cases x <;> simp only [Oper.upon] at h ⊢
    case panic u => exact h
/-- An operation that is not asked for. -/
theorem plan_n {P : Program} {ops : Array Oper} {Q : Exit → Act → World → Prop} {i : Nat} {rest : List (Bool × Nat)} {S : World → Prop} {a : Act} {w : World} {oi : Oper} (hi : ops[i]? = some oi) (hg : Region.wanted oi (yielded ops a.tmps) = false)
    (h : wpPlan P ops Q rest S (a.put oi.dst undef) w) : wpPlan P ops Q ((true, i) :: rest) S a w := ⟨oi, undef, hi, .inr ⟨hg, rfl⟩, h⟩
end Go.Proofs.YtapjlmehfbnaoaaDoor
