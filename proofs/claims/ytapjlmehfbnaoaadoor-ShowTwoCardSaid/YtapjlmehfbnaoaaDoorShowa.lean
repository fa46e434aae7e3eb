/- Layer 22: numbers and names of registers. Conditions: numbers below 100. -/
import Derived.Test.YtapjlmehfbnaoaaDoorInsx
import Derived.Test.YtapjlmehfbnaoaaDoorShelf
import Derived.Laws.Concat
namespace Go.Proofs.YtapjlmehfbnaoaaDoor
open Go Go.RowKit Go.Proofs
open Go.Lib (hid)

set_option maxHeartbeats 1000000 in
theorem number_c (n : Nat) (hn : n < 100) (w : World) : Calls Tryd.prog 87 #[.int .i64 n] w fun e w' => e = .returned (.string ⟨(Lib.decDigits n).toArray⟩) ∧ w' = w := by
  go_enter Tryd.func87, Tryd.ntmps87
  go_wp2_with (go_at_call 83; refine (Tryd.strconv_Itoa_small n hn _).mono ?_; rintro e w' ⟨rfl, rfl⟩)
  go_ret
  exact ⟨rfl, rfl⟩

theorem dec_len (k : Nat) (h : k < 100) : (Lib.decDigits k).length ≤ 2 := by
  by_cases h1 : k < 10
  · rw [Lib.decDigits_one h1]; simp
  · rw [Lib.decDigits_two h1 h]; simp
theorem data_app (a b : ByteArray) : (a ++ b).data.toList = a.data.toList ++ b.data.toList := by
  obtain ⟨⟨a⟩⟩ := a
  obtain ⟨⟨b⟩⟩ := b
  rw [show (⟨⟨a⟩⟩ : ByteArray) = ByteArray.mk a.toArray from rfl, show (⟨⟨b⟩⟩ : ByteArray) = ByteArray.mk b.toArray from rfl, ByteArray.mk_append_mk]
theorem bytes_eq {a : ByteArray} {l : List UInt8} (h : a.data.toList = l) : a = ⟨l.toArray⟩ := by
  subst h
  simp
theorem ret_str {a b : ByteArray} (h : a = b) : Ending.returned (.string a) = .returned (.string b) := by rw [h]

set_option maxHeartbeats 1000000 in
theorem reg_c (n : Int) (h0 : 0 ≤ n) (hn : n < 100) (w : World) : Calls Tryd.prog 52 #[.int .u8 n] w fun e w' => e = .returned (.string ⟨(114 :: Lib.decDigits n.toNat).toArray⟩) ∧ w' = w := by
  obtain ⟨k, rfl⟩ := Int.eq_ofNat_of_zero_le h0
  have hl := dec_len k (by omega)
  go_enter Tryd.func52, Tryd.ntmps52
  go_wp2_with (go_at_call 87; refine (number_c k (by omega) _).mono ?_; rintro e w' ⟨rfl, rfl⟩)
  go_ret
  exact ⟨ret_str (ByteArray.mk_append_mk [114] _), rfl⟩

set_option maxHeartbeats 1000000 in
theorem pred_c (n : Int) (h0 : 0 ≤ n) (hn : n < 100) (w : World) : Calls Tryd.prog 47 #[.int .u8 n] w fun e w' => e = .returned (.string ⟨(112 :: Lib.decDigits n.toNat).toArray⟩) ∧ w' = w := by
  obtain ⟨k, rfl⟩ := Int.eq_ofNat_of_zero_le h0
  have hl := dec_len k (by omega)
  go_enter Tryd.func47, Tryd.ntmps47
  go_wp2_with (go_at_call 87; refine (number_c k (by omega) _).mono ?_; rintro e w' ⟨rfl, rfl⟩)
  go_ret
  exact ⟨ret_str (ByteArray.mk_append_mk [112] _), rfl⟩

/-- What stands ahead of an instruction. -/
def condP (i : Ins) : List UInt8 :=
  if i.mode = 0 then [] else [105, 102, 32, 40] ++ (if i.mode = 2 ∨ i.mode = 4 then [33] else []) ++ (112 :: Lib.decDigits i.pred.toNat) ++ (if 3 ≤ i.mode then [46, 110, 101, 119] else []) ++ [41, 32]

set_option maxHeartbeats 4000000 in
theorem condition_c (i : Ins) (h0 : 0 ≤ i.pred) (hn : i.pred < 100) (w : World) : Calls Tryd.prog 24 #[.agg #[.int .u8 i.op, .int .u8 i.d, .int .u8 i.s, .int .u8 i.t, .int .u8 i.n, .int .u8 i.pred, .int .u8 i.mode, .bool i.nw, .bool i.ext, .int .u16 i.count, .int .i64 i.imm]] w fun e w' => e = .returned (.string ⟨(condP i).toArray⟩) ∧ Below w.heap.size w w' := by
  obtain ⟨op, d, s, t, n, pred, mode, nw, ext, count, imm⟩ := i
  dsimp only at h0 hn
  obtain ⟨k, rfl⟩ := Int.eq_ofNat_of_zero_le h0
  have hl := dec_len k (by omega)
  have HP := hid (pred_c k h0 hn)
  go_enter Tryd.func24, Tryd.ntmps24
  go_wp2_with (go_at_call 47; refine (HP.out _).mono ?_; rintro e w' ⟨rfl, rfl⟩)
  all_goals
    go_ret
    refine ⟨ret_str (bytes_eq ?_), ?_⟩
    · simp only [beq_iff_eq, beq_eq_false_iff_ne, ne_eq] at *
      simp [condP, data_app, *]
      try omega
    · exact below_alloc1 _ _
end Go.Proofs.YtapjlmehfbnaoaaDoor
