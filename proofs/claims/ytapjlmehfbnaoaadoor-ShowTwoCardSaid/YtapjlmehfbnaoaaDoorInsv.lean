/- Layer 4: has, Cond, holds. Conditions: the numbers are of their kinds; the field is one of the table's. -/
import Derived.Test.YtapjlmehfbnaoaaDoorInsu
import Derived.Test.YtapjlmehfbnaoaaDoorIsg
namespace Go.Proofs.YtapjlmehfbnaoaaDoor
open Go Go.RowKit Go.Proofs
open Go.Lib (hid)

def hasP (op kind : Int) : Bool := (atP op kind).isSome

set_option maxHeartbeats 4000000 in
theorem has_c (i : Ins) (kind : Int) (h0 : 0 ≤ i.op) (h1 : i.op ≤ 255) (w : World) : Calls Tryd.prog 45 #[.agg #[.int .u8 i.op, .int .u8 i.d, .int .u8 i.s, .int .u8 i.t, .int .u8 i.n, .int .u8 i.pred, .int .u8 i.mode, .bool i.nw, .bool i.ext, .int .u16 i.count, .int .i64 i.imm], .int .u8 kind] w fun e w' => e = .returned (.bool (hasP i.op kind)) ∧ Below w.heap.size w w' := by
  obtain ⟨op, d, s, t, n, pred, mode, nw, ext, count, imm⟩ := i
  have HA := hid (at_c op kind h0 h1)
  unfold hasP
  dsimp only at h0 h1 ⊢
  generalize atP op kind = r at HA
  go_enter Tryd.func45, Tryd.ntmps45
  go_wp2_with (go_at_call 85; refine (HA.out _).mono ?_; rintro e w1 ⟨rfl, hb1⟩)
  go_ret
  refine ⟨rfl, ?_⟩
  have k1 := (below_alloc1 w _).trans (hb1.mono (by simp))
  exact k1.alloc k1.size _

set_option maxHeartbeats 4000000 in
theorem cond_i (i : Ins) (h0 : 0 ≤ i.op) (h1 : i.op ≤ 255) (w : World) : Calls Tryd.prog 21 #[.agg #[.int .u8 i.op, .int .u8 i.d, .int .u8 i.s, .int .u8 i.t, .int .u8 i.n, .int .u8 i.pred, .int .u8 i.mode, .bool i.nw, .bool i.ext, .int .u16 i.count, .int .i64 i.imm]] w fun e w' => e = .returned (.bool (hasP i.op 1)) ∧ Below w.heap.size w w' := by
  have HA := hid (has_c i 1 h0 h1)
  generalize hasP i.op 1 = r at HA
  go_enter Tryd.func21, Tryd.ntmps21
  go_wp2_with (go_at_call 45; refine (HA.out _).mono ?_; rintro e w1 ⟨rfl, hb1⟩)
  go_ret
  exact ⟨rfl, (below_alloc1 w _).trans (hb1.mono (by simp))⟩

def holdsP (i : Ins) (f : Fld) : Bool :=
  if f.kind = 1 then decide (i.mode ≤ 4) else if f.kind = 2 then decide (i.pred < 4) else if f.kind = 3 then decide (i.d < 32) else if f.kind = 4 then decide (i.d < 4)
  else if f.kind = 5 then decide (i.s < 32) else if f.kind = 6 then decide (i.t < 32) else if f.kind = 7 then decide (i.n < 2)
  else if f.kind = 9 then (if i.ext then decide (-2147483648 ≤ i.imm ∧ i.imm ≤ 2147483647) else fitsP i.imm f.bits.toNat f.shift.toNat f.sg)
  else if f.kind = 10 then decide (0 ≤ i.imm ∧ i.imm < 4294967296 ∧ i.imm % 4 = 0) else if f.kind = 11 then decide (i.count < 2048) else true

/-- A field as the table has them. -/
def Fld.fine (f : Fld) : Prop := 0 ≤ f.bits ∧ 0 ≤ f.shift ∧ f.shift ≤ 2 ∧ (f.kind = 9 → f.bits = 5 ∨ f.bits = 12 ∨ f.bits = 14)

set_option maxHeartbeats 8000000 in
theorem holds_c (i : Ins) (f : Fld) (hi : i.ok) (hf : f.fine) (w : World) : Calls Tryd.prog 20 #[.agg #[.int .u8 i.op, .int .u8 i.d, .int .u8 i.s, .int .u8 i.t, .int .u8 i.n, .int .u8 i.pred, .int .u8 i.mode, .bool i.nw, .bool i.ext, .int .u16 i.count, .int .i64 i.imm], .agg #[.int .u8 f.kind, .int .i64 f.bits, .int .i64 f.shift, .bool f.sg, .bool f.ext]] w fun e w' => e = .returned (.bool (holdsP i f)) ∧ Below w.heap.size w w' := by
  obtain ⟨op, d, s, t, n, pred, mode, nw, ext, count, imm⟩ := i
  obtain ⟨kind, bits, shift, sg, ex⟩ := f
  obtain ⟨hf1, hf2, hf3, hf4⟩ := hf
  obtain ⟨_, _, _, _, _, _, _, _, hi1, hi2⟩ := hi
  dsimp only at hf1 hf2 hf3 hf4 hi1 hi2
  obtain ⟨bn, rfl⟩ := Int.eq_ofNat_of_zero_le hf1
  obtain ⟨sn, rfl⟩ := Int.eq_ofNat_of_zero_le hf2
  have HF := hid (fun (h : kind = 9) => fits_c imm bn sn sg (hv := ⟨hi1, hi2⟩) (hn := by have := hf4 h; omega) (hs := by omega))
  have HI := hid (And.intro hi1 hi2)
  clear hf1 hf2 hf3 hf4
  go_enter Tryd.func20, Tryd.ntmps20
  go_wp2_with (go_at_call 44; have hk9 : kind = 9 := (by simpa using ‹(kind == 9) = true›); refine (HF.out hk9 _).mono ?_; rintro e w1 ⟨rfl, rfl⟩; clear hk9)
  all_goals
    go_ret
    refine ⟨ret_bool ?_, (below_alloc1 w _).alloc (by simp) _⟩
    obtain ⟨hi1, hi2⟩ := HI.out
    clear HF HI
    simp only [beq_iff_eq, beq_eq_false_iff_ne, ne_eq] at *
    first
      | (simp [holdsP, *]; done)
      | (rw [Bool.eq_iff_iff]; simp [holdsP, *]; done)
      | (rw [Bool.eq_iff_iff]; simp [holdsP, *]; omega)
end Go.Proofs.YtapjlmehfbnaoaaDoor
