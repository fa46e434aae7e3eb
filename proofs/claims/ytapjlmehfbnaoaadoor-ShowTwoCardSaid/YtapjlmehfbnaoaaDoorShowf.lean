/- Layer 22: counts. Conditions: the table of powers of ten is laid. -/
import Derived.Test.YtapjlmehfbnaoaaDoorShowe
namespace Go.Proofs.YtapjlmehfbnaoaaDoor
open Go Go.RowKit Go.Proofs
open Go.Lib (hid)

set_option maxHeartbeats 1000000 in
theorem number_any (n : Int) (h0 : 0 ≤ n) (h1 : n ≤ 65535) (w : World) (hp : Pow w) : Calls Tryd.prog 87 #[.int .i64 n] w fun e w' => e = .returned (.string ⟨(Lib.itoa n).toArray⟩) ∧ Below w.heap.size w w' := by
  have HI := hid (Tryd.strconv_Itoa n (by omega) (by omega) w hp)
  clear hp
  go_enter Tryd.func87, Tryd.ntmps87
  go_wp2_with (go_at_call 83; refine (HI.out).mono ?_; rintro e w' ⟨rfl, k, os, rfl⟩)
  go_ret
  exact ⟨rfl, Lib.below_grow _ _ (Nat.le_refl _) _ _⟩

set_option maxHeartbeats 1000000 in
theorem count_c (n : Int) (h0 : 0 ≤ n) (h1 : n ≤ 65535) (w : World) (hp : Pow w) : Calls Tryd.prog 88 #[.int .u16 n] w fun e w' => e = .returned (.string ⟨(35 :: Lib.itoa n).toArray⟩) ∧ Below w.heap.size w w' := by
  have HI := hid (number_any n h0 h1 w hp)
  have hl := Lib.itoa_length_le n (by omega) (by omega)
  clear hp
  go_enter Tryd.func88, Tryd.ntmps88
  go_wp2_with (go_at_call 87; refine (HI.out).mono ?_; rintro e w1 ⟨rfl, hb1⟩)
  go_ret
  exact ⟨ret_str (ByteArray.mk_append_mk [35] _), hb1⟩
end Go.Proofs.YtapjlmehfbnaoaaDoor
