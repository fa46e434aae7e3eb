/- slices.Grow, Clone and Concat at the program's fields. Conditions: the lists are short. -/
import Derived.Test.YtapjlmehfbnaoaaDoorIsa
import Derived.Lib.AppendZerosOnto
import Derived.Lib.Walk
import Derived.Lib.SliceRun
namespace Go.Proofs.YtapjlmehfbnaoaaDoor
open Go Go.RowKit Go.Proofs Go.Lib

set_option maxHeartbeats 1000000 in
theorem grow_zero (w : World) : Calls Tryd.prog 152 #[.slice none 0 0, .int .i64 0] w fun e w' => e = .returned (.slice none 0 0) ∧ w' = w := by
  go_enter Tryd.func152, Tryd.ntmps152
  go_wp2
  go_ret
  exact ⟨rfl, rfl⟩

set_option maxHeartbeats 1000000 in
theorem grow_some (n : Nat) (h0 : 0 < n) (hn : n ≤ 100000) (w : World) : Calls Tryd.prog 152 #[.slice none 0 0, .int .i64 n] w fun e w' => ∃ v, e = .returned v ∧ w'.ownsRow w.heap.size 54 5 v 0 [] ∧ Below w.heap.size w w' := by
  obtain ⟨i0, hi0, hz0, hs0, hb0⟩ := info_parts info_fld
  have hfit : Builtin.nextslicecap n 0 * i0.bytes ≤ 281474976710656 := by
    rw [hb0]
    exact growslice_fits (by omega) (by omega)
  obtain ⟨G, hg1, hg2, C, hCs, hrz0⟩ : ∃ G, n ≤ G ∧ G ≤ maxLen ∧ ∃ C : Array Value, C.size = G * 5 ∧ ∀ ty, (Builtin.append_ #[48, 3] ty #[.slice none 0 0, .int .i64 n]).run Tryd.prog w = .ok (.slice (some ⟨w.heap.size, 0, none⟩) n G) (w.drew.alloc (.cells C 54)) := by
    have hg1 := grownCap_ge w n 0 54
    refine ⟨grownCap w n 0 54, hg1, grownCap_le_maxLen w n 0 54 (by simp [maxLen]; omega), ([] : List Value).toArray ++ Builtin.zeroCells (Value.agg #[.int .u8 0, .int .i64 0, .int .i64 0, .bool false, .bool false]).cells n ++ Builtin.zeroCells (Value.agg #[.int .u8 0, .int .i64 0, .int .i64 0, .bool false, .bool false]).cells (grownCap w n 0 54 - n), ?_, fun ty => ?_⟩
    rotate_left
    · have h := Lib.run_append_grow_zeros w 48 3 ty 54 i0 _ .i64 .i64 Tryd.underlying48 Tryd.underlying3 hi0 hz0 none 0 0 [] (by simp [Builtin.firstCells]) n h0 (by omega) (by omega) (by omega) (by rw [hb0]; omega) (by rw [Nat.zero_add]; exact hfit)
      rw [Nat.zero_add] at h
      exact h
    · simp [Builtin.zeroCells, Value.cells]; omega
  have hG63 : G ≤ 9223372036854775807 := by simp only [maxLen] at hg2; omega
  clear hfit hi0 hz0 hs0 hb0
  go_enter Tryd.func152, Tryd.ntmps152
  go_wp2_with (at_builtin; refine Lib.wpList_append_run _ rfl _ _ _ _ rfl _ _ rfl rfl _ _ (hrz0 _) ?_)
  go_ret
  refine ⟨_, rfl, ⟨by simp, .inr ⟨w.heap.size, G, C, rfl, Nat.le_refl _, heap_alloc_new w _, by omega, hg2, hCs, by simp⟩⟩, ((Below.refl _ _).alloc (Nat.le_refl _) _).drew⟩

theorem grow_c (n : Nat) (hn : n ≤ 100000) (w : World) : Calls Tryd.prog 152 #[.slice none 0 0, .int .i64 n] w fun e w' => ∃ v, e = .returned v ∧ w'.ownsRow w.heap.size 54 5 v 0 [] ∧ Below w.heap.size w w' := by
  by_cases h0 : 0 < n
  · exact grow_some n h0 hn w
  · obtain rfl : n = 0 := by omega
    refine (grow_zero w).mono ?_
    rintro e w' ⟨rfl, rfl⟩
    exact ⟨_, rfl, World.ownsRow_nil _ _ _ _, Below.refl _ _⟩

set_option maxHeartbeats 1000000 in
/-- slices.Clone: a row of its own that reads as the one that came in. -/
theorem clone_c (v : Value) (l : List Fld) (hl : l.length ≤ 100000) (lo : Nat) (w : World) (hr : Rd w lo 5 v l.length (fcells l)) : Calls Tryd.prog 43 #[v] w fun e w' => FldsNew w w' l e := by
  have h := hr
  obtain ⟨hlen, a, cap, rfl, hnc, hcm, hnone, hc⟩ := h
  cases a with
  | none =>
    obtain rfl : cap = 0 := hnone rfl
    have h0 : l.length = 0 := by omega
    obtain rfl : l = [] := List.eq_nil_of_length_eq_zero h0
    clear hr hl hnc hcm hnone hc hlen h0
    have heq := fun (w : World) => Lib.run_eql_slice_nil (P := Tryd.prog) w 48 54 none 0 0 0 0 Tryd.underlying48
    go_enter Tryd.func43, Tryd.ntmps43
    go_wp2
    go_ret
    exact ⟨_, rfl, World.ownsRow_nil _ _ _ _, Below.refl _ _⟩
  | some ad =>
    have HR := Lib.hid hr
    have HL := Lib.hid hl
    have HM := Lib.hid hcm
    clear hr hc hnone hlen hl hcm hnc
    have heq := fun (w : World) => Lib.run_eql_slice_nil (P := Tryd.prog) w 48 54 (some ad) l.length cap 0 0 Tryd.underlying48
    go_enter Tryd.func43, Tryd.ntmps43
    go_wp2_with (at_builtin; refine wpList_append_rd rfl _ _ _ rfl w.heap.size _ _ 5 32 Tryd.underlying48 info_fld rfl (by omega) _ 0 [] rfl ?c1 _ l.length lo (fcells l) rfl ?c2 (fcells_one _) ?c3 ?c4 ?c5 ?_)
    case c1 => exact World.ownsRow_lit w #[] 0 (Nat.le_refl _) (by simp [maxLen]) rfl
    case c2 => exact HR.out.below ((Below.refl _ _).alloc (Nat.le_refl _) _)
    case c3 => have := HL.out; simp [maxLen]; omega
    case c4 => have := HL.out; omega
    case c5 => simp
    intro v3 w3 ho3 hg3 _
    go_wp2
    go_ret
    refine ⟨_, rfl, by simpa using ho3, ((Below.refl _ _).alloc (Nat.le_refl _) _).grown hg3 (by simp) ?_⟩
    intro k hk
    simp [Value.ownBlock] at hk
    omega
end Go.Proofs.YtapjlmehfbnaoaaDoor
