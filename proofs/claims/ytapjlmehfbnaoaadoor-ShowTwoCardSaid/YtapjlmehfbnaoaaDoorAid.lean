/- Small words of this seat: what a slice of flat structs reads as, and lists of cells. Conditions: none. -/
import Derived.WalkKit
import Derived.Below
import Derived.Laws.OwnMore
import Derived.Maps.AppendAt
import Derived.Lib.Hide
import Derived.OwnWalk
namespace Go.Proofs.YtapjlmehfbnaoaaDoor
open Go Go.RowKit

/-- A slice value that reads as the list of these cells: n elements of sz cells each, in a block from lo on. -/
def Rd (w : World) (lo sz : Nat) (v : Value) (n : Nat) (cs : List Value) : Prop :=
  cs.length = n * sz ∧ ∃ a cap, v = .slice a n cap ∧ n ≤ cap ∧ cap ≤ maxLen ∧ (a = none → cap = 0) ∧
    (0 < n → ∃ b off, a = some ⟨b, off, none⟩ ∧ lo ≤ b ∧ b < w.heap.size ∧ ∀ j u, cs[j]? = some u → w.cell? ⟨b, off + j, none⟩ = some u)

theorem Rd.mono {w : World} {lo lo' sz n : Nat} {v : Value} {cs : List Value} (h : Rd w lo sz v n cs) (hlo : lo' ≤ lo) : Rd w lo' sz v n cs := by
  obtain ⟨hl, a, cap, hv, h1, h2, h4, h3⟩ := h
  refine ⟨hl, a, cap, hv, h1, h2, h4, fun hn => ?_⟩
  obtain ⟨b, off, ha, hb, hbs, hc⟩ := h3 hn
  exact ⟨b, off, ha, by omega, hbs, hc⟩
/-- Whoever leaves the blocks from lo on that there are as they are leaves it. -/
theorem Rd.kept {w w' : World} {lo sz n : Nat} {v : Value} {cs : List Value} (h : Rd w lo sz v n cs) (hs : w.heap.size ≤ w'.heap.size) (hb : ∀ k, lo ≤ k → k < w.heap.size → w'.heap[k]? = w.heap[k]?) : Rd w' lo sz v n cs := by
  obtain ⟨hl, a, cap, hv, h1, h2, h4, h3⟩ := h
  refine ⟨hl, a, cap, hv, h1, h2, h4, fun hn => ?_⟩
  obtain ⟨b, off, ha, hlo, hbs, hc⟩ := h3 hn
  exact ⟨b, off, ha, hlo, by omega, fun j u hj => by rw [World.cell?_of_block (w := w) (a := ⟨b, off + j, none⟩) (hb b hlo hbs)]; exact hc j u hj⟩
theorem Rd.below {w w' : World} {lo sz n : Nat} {v : Value} {cs : List Value} (h : Rd w lo sz v n cs) (hb : Below w.heap.size w w') : Rd w' lo sz v n cs := h.kept hb.size fun k _ hk => hb.block k hk
theorem Rd.setCell {w : World} {lo sz n : Nat} {v : Value} {cs : List Value} (h : Rd w lo sz v n cs) {a : Addr} (ha : a.block < lo) (u : Value) : Rd (w.setCell a u) lo sz v n cs :=
  h.kept (by simp [World.setCell]) fun k hk _ => Below.heap_setCell _ _ _ _ (by omega)

theorem Rd.of_own {w : World} {base e sz n : Nat} {v : Value} {cs : List Value} (h : w.ownsRow base e sz v n cs) : Rd w base sz v n cs := by
  have hc := fun (g : Nat) => h.cells (g := g)
  have hlt := h.lt
  obtain ⟨hl, h | ⟨g, cap, cur, rfl, h1, h2, h3, h4, h5, h6⟩⟩ := h
  · obtain ⟨rfl, rfl⟩ := h
    exact ⟨hl, none, 0, rfl, by omega, by simp [maxLen], fun _ => rfl, fun h => by omega⟩
  · refine ⟨hl, _, cap, rfl, h3, h4, (fun h => by cases h), fun _ => ⟨g, 0, rfl, (hlt g rfl).1, (hlt g rfl).2, fun j u hj => ?_⟩⟩
    have := hc g rfl j u hj
    have e : (⟨g, 0, none⟩ : Addr).add j = ⟨g, 0 + j, none⟩ := by unfold Addr.add; split <;> simp_all
    rwa [e] at this

theorem Rd.nil (w : World) (lo sz : Nat) : Rd w lo sz (.slice none 0 0) 0 [] :=
  ⟨by simp, none, 0, rfl, by omega, by simp [maxLen], fun _ => rfl, fun h => by omega⟩
theorem Rd.len {w : World} {lo sz n : Nat} {v : Value} {cs : List Value} (h : Rd w lo sz v n cs) : n ≤ maxLen := by
  obtain ⟨_, _, _, _, _, _, _⟩ := h
  omega

theorem bcell {W w1 : World} (hb : Below W.heap.size W w1) : (∀ b o, b < W.heap.size → w1.cell? ⟨b, o, none⟩ = W.cell? ⟨b, o, none⟩) ∧ (∀ b o, b < W.heap.size → w1.frozen? ⟨b, o, none⟩ = W.frozen? ⟨b, o, none⟩) :=
  ⟨fun b o h => hb.cell (p := ⟨b, o, none⟩) h, fun b o h => hb.frozen (p := ⟨b, o, none⟩) h⟩
theorem ret_int {k : IntKind} {a b : Int} (h : a = b) : Ending.returned (.int k a) = .returned (.int k b) := by rw [h]
theorem ret_bool {a b : Bool} (h : a = b) : Ending.returned (.bool a) = .returned (.bool b) := by rw [h]

theorem own_slice {w : World} {base e sz n : Nat} {v : Value} {xs : List Value} (h : w.ownsRow base e sz v n xs) : ∃ A c, v = .slice A n c := by
  rcases h.2 with ⟨rfl, rfl⟩ | ⟨g, cap, cur, rfl, _⟩
  · exact ⟨none, 0, rfl⟩
  · exact ⟨_, cap, rfl⟩
theorem own_setCell {w : World} {base e sz n : Nat} {v : Value} {xs : List Value} (h : w.ownsRow base e sz v n xs) {a : Addr} (hlt : a.block < base) (u : Value) : (w.setCell a u).ownsRow base e sz v n xs := by
  have hl := h.lt
  refine h.kept (row := some a.block) ⟨rfl, rfl, rfl, by simp [World.setCell], fun k _ hk => Below.heap_setCell _ _ _ _ (fun e => hk (by rw [e]))⟩ ?_
  cases hv : v.ownBlock with
  | none => exact .inl rfl
  | some k => refine .inr fun e => ?_; have := (hl k hv).1; simp at e; omega
theorem addr_add (b off j : Nat) : (⟨b, off, none⟩ : Addr).add j = ⟨b, off + j, none⟩ := by unfold Addr.add; split <;> simp_all

section
variable {P : Program} {ops : Array Oper} {rest : List Oper} {o : Oper} {a : Act} {Q : Exit → Act → World → Prop} {w : World}
/-- append(v, u...) where v is a row of the call's own and u any slice that reads. -/
theorem wpList_append_rd (hgd : o.guard = none) (s x : Operand) (t : TypeId)
    (ho : o.op = .call { callee := .builtin .append, args := #[s, x], argTypes := #[t, t] })
    (base : Nat) (e : TypeId) (z : Value) (size bytes : Nat) (ht : P.underlying t = some (.slice e)) (hinfo : (P.info? e).map (fun i => (i.zero, i.size, i.bytes)) = some (some z, size, bytes))
    (hzs : z.cells.size = size) (hsz : 0 < size)
    (v : Value) (n : Nat) (xs : List Value) (hs : a.eval s = v) (hown : w.ownsRow base e size v n xs)
    (u : Value) (m lo : Nat) (news : List Value) (hx : a.eval x = u) (hrd : Rd w lo size u m news) (h1 : ∀ c ∈ news, c.oneCell' = true)
    (h63 : n + m ≤ maxLen) (hbytes : (n + m) * bytes ≤ 140737488355328) (hbase : base ≤ w.heap.size)
    (h : ∀ v' w', w'.ownsRow base e size v' (n + m) (xs ++ news) → w.grownBy w' v.ownBlock → (v'.ownBlock = v.ownBlock ∨ v'.ownBlock = some w.heap.size) → wpList P ops Q rest (a.put o.dst v') w') :
    wpList P ops Q (o :: rest) a w := by
  obtain ⟨i, hi, hz0, hz1, hz2⟩ := info_parts hinfo
  obtain ⟨hl, ad, cap, rfl, hnc, hcm, hnone, hc⟩ := hrd
  cases ad with
  | some ad =>
    by_cases hm : 0 < m
    · obtain ⟨b, off, hab, _, hbs, hcell⟩ := hc hm
      cases hab
      exact wpList_append_own_at w hgd s x t ho base e i z size bytes ht hi hz0 hz1 hz2 hzs hsz v n xs hs hown _ m cap news hx hl (fun j u' hj => by rw [addr_add]; exact hcell j u' hj) h1 h63 hbytes hbase (fun v' w' h2 h3 _ h5 => h v' w' h2 h3 h5)
    · obtain rfl : m = 0 := by omega
      obtain rfl : news = [] := List.eq_nil_of_length_eq_zero (by simpa using hl)
      exact wpList_append_own_at w hgd s x t ho base e i z size bytes ht hi hz0 hz1 hz2 hzs hsz v n xs hs hown ad 0 cap [] hx hl (fun j u' hj => by simp at hj) h1 h63 hbytes hbase (fun v' w' h2 h3 _ h5 => h v' w' h2 h3 h5)
  | none =>
    obtain rfl : cap = 0 := hnone rfl
    obtain rfl : m = 0 := by omega
    obtain rfl : news = [] := List.eq_nil_of_length_eq_zero (by simpa using hl)
    refine wpList_plain hgd fun K hK => ?_
    have hr := run_append_owned_none (P := P) (w := w) base t o.type e i size ht hi v n xs hown
    unfold Oper.wp execOp
    simp only [ho, resolve, invoke, builtin, Sem.run_bind, Sem.run_pure, Result.andThen_ok, List.map_toArray, List.map_cons, List.map_nil, hs, hx, hr]
    exact hK _ _ (h v w (by simpa using hown) ⟨rfl, rfl, rfl, Nat.le_refl _, fun _ _ _ => rfl⟩ (.inl rfl))
end
end Go.Proofs.YtapjlmehfbnaoaaDoor
