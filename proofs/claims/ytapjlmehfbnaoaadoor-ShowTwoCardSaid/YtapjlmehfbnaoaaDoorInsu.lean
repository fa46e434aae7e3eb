/- Layer 1's Fits and layer 4's holds. Conditions: the numbers are of their kinds. -/
import Derived.Test.YtapjlmehfbnaoaaDoorInst
import Derived.Laws.BitsLemmas
namespace Go.Proofs.YtapjlmehfbnaoaaDoor
open Go Go.RowKit Go.Proofs
open Go.Lib (hid)

theorem and_mask (v : Int) (k : Nat) (hk : k < 16) (m : Int) (hm : m = ((2 ^ k - 1 : Nat) : Int)) : bits .and .i64 v m = v % (2 ^ k : Nat) := by
  subst hm
  have hp : 2 ^ k ≤ 2 ^ 15 := Nat.pow_le_pow_right (by omega) (by omega)
  have h1 : (BitVec.ofInt 64 v &&& BitVec.ofInt 64 ((2 ^ k - 1 : Nat) : Int)).toNat = (v % (2 ^ k : Nat)).toNat := by
    rw [BitVec.toNat_and, BitVec.toNat_ofInt, BitVec.toNat_ofInt]
    have e : ((((2 ^ k - 1 : Nat) : Int)) % ((2 ^ 64 : Nat) : Int)).toNat = 2 ^ k - 1 := by
      rw [Int.emod_eq_of_lt (by omega) (by omega)]; omega
    rw [e, Nat.and_two_pow_sub_one_eq_mod]
    have h2 : ((v % ((2 ^ 64 : Nat) : Int)).toNat : Int) = v % ((2 ^ 64 : Nat) : Int) := Int.toNat_of_nonneg (Int.emod_nonneg _ (by omega))
    have h3 : v % ((2 ^ 64 : Nat) : Int) % ((2 ^ k : Nat) : Int) = v % ((2 ^ k : Nat) : Int) := Int.emod_emod_of_dvd v (by exact_mod_cast Nat.pow_dvd_pow 2 (by omega))
    have h4 : (((v % ((2 ^ 64 : Nat) : Int)).toNat % 2 ^ k : Nat) : Int) = v % ((2 ^ k : Nat) : Int) := by
      rw [Int.natCast_emod, h2, h3]
    omega
  change IntKind.i64.wrap (((BitVec.ofInt 64 v &&& BitVec.ofInt 64 ((2 ^ k - 1 : Nat) : Int)).toNat : Nat) : Int) = _
  rw [h1]
  have hpos : 0 < 2 ^ k := Nat.pos_of_ne_zero (by simp)
  have := Int.emod_nonneg v (b := ((2 ^ k : Nat) : Int)) (by omega)
  have := Int.emod_lt_of_pos v (b := ((2 ^ k : Nat) : Int)) (by omega)
  rw [IntKind.wrap_i64]
  omega
theorem and0 (v : Int) : bits .and .i64 v 0 = v % 1 := and_mask v 0 (by omega) 0 rfl
theorem and1 (v : Int) : bits .and .i64 v 1 = v % 2 := and_mask v 1 (by omega) 1 rfl
theorem and3 (v : Int) : bits .and .i64 v 3 = v % 4 := and_mask v 2 (by omega) 3 rfl

/-- Does a value fit n bits, scaled? For the widths and scales of the table. -/
def fitsP (v : Int) (n sh : Nat) (sg : Bool) : Bool :=
  decide (v % 2 ^ sh = 0) && (if sg then decide (-(2 ^ (n - 1)) ≤ v / 2 ^ sh ∧ v / 2 ^ sh < 2 ^ (n - 1)) else decide (0 ≤ v / 2 ^ sh ∧ v / 2 ^ sh < 2 ^ n))

set_option maxHeartbeats 4000000 in
theorem fits_c (v : Int) (n sh : Nat) (sg : Bool) (w : World) (hv : -9223372036854775808 ≤ v ∧ v ≤ 9223372036854775807) (hn : n = 5 ∨ n = 12 ∨ n = 14) (hs : sh ≤ 2) :
    Calls Tryd.prog 44 #[.int .i64 v, .int .i64 n, .int .i64 sh, .bool sg] w fun e w' => e = .returned (.bool (fitsP v n sh sg)) ∧ w' = w := by
  obtain ⟨hv1, hv2⟩ := hv
  rcases hn with rfl | rfl | rfl <;> (obtain rfl | rfl | rfl : sh = 0 ∨ sh = 1 ∨ sh = 2 := by omega) <;> cases sg
  all_goals
    have m0 := and0 v
    have m1 := and1 v
    have m3 := and3 v
    go_enter Tryd.func44, Tryd.ntmps44
    go_wp2
    all_goals
      clear m0 m1 m3
      go_ret
      refine ⟨ret_bool ?_, rfl⟩
      rw [Bool.eq_iff_iff]
      simp only [fitsP, Bool.and_eq_true, decide_eq_true_eq, bne_iff_ne, ne_eq, bne_eq_false_iff_eq, if_true, if_false, Bool.false_eq_true, wrap64] at *
      first | omega | (simp at *; omega) | trace_state
end Go.Proofs.YtapjlmehfbnaoaaDoor
