/- Layer 4: Class, WritesPred, Target. Conditions: the numbers are of their kinds. -/
import Derived.Test.YtapjlmehfbnaoaaDoorInsw
namespace Go.Proofs.YtapjlmehfbnaoaaDoor
open Go Go.RowKit Go.Proofs
open Go.Lib (hid)

set_option maxHeartbeats 4000000 in
theorem class_c (i : Ins) (hi : i.ok) (w : World) : Calls Tryd.prog 49 #[.agg #[.int .u8 i.op, .int .u8 i.d, .int .u8 i.s, .int .u8 i.t, .int .u8 i.n, .int .u8 i.pred, .int .u8 i.mode, .bool i.nw, .bool i.ext, .int .u16 i.count, .int .i64 i.imm]] w fun e w' => e = .returned (.int .u8 (rowD i.op).cls) ∧ Below w.heap.size w w' := by
  have HO := hid (of_c i.op hi.op.1 hi.op.2)
  generalize rowD i.op = r at HO ⊢
  clear hi
  go_enter Tryd.func49, Tryd.ntmps49
  go_wp2_with (go_at_call 18; refine (HO.out _).mono ?_; rintro e w1 ⟨A, c, rfl, hr, hb1⟩; have HR := hid hr; clear hr)
  go_ret
  have k1 := (below_alloc1 w _).trans (hb1.mono (by simp))
  exact ⟨rfl, k1.alloc k1.size _⟩

def writesPredP (i : Ins) : Bool := rightP i && hasP i.op 4

set_option maxHeartbeats 4000000 in
theorem writesPred_c (i : Ins) (hi : i.ok) (w : World) : Calls Tryd.prog 48 #[.agg #[.int .u8 i.op, .int .u8 i.d, .int .u8 i.s, .int .u8 i.t, .int .u8 i.n, .int .u8 i.pred, .int .u8 i.mode, .bool i.nw, .bool i.ext, .int .u16 i.count, .int .i64 i.imm]] w fun e w' => e = .returned (.tuple #[.int .u8 (if writesPredP i then i.d else 0), .bool (writesPredP i)]) ∧ Below w.heap.size w w' := by
  have HR := hid (right_c i hi)
  have HH := hid (has_c i 4 hi.op.1 hi.op.2)
  unfold writesPredP
  generalize rightP i = a at HR ⊢
  generalize hasP i.op 4 = b at HH ⊢
  clear hi
  cases a
  · go_enter Tryd.func48, Tryd.ntmps48
    go_wp2_with (go_at_call 7; refine (HR.out _).mono ?_; rintro e w1 ⟨rfl, hb1⟩; obtain ⟨hc, hz⟩ := bcell hb1; have hs1 := hb1.size; simp only [heap_size_alloc] at hs1; have hs3 : w.heap.size < w1.heap.size := (by omega))
    go_ret2
    exact ⟨rfl, (below_alloc1 w _).trans (hb1.mono (by simp))⟩
  · cases b
    all_goals
      go_enter Tryd.func48, Tryd.ntmps48
      go_wp2_with (first
        | (go_at_call 7; refine (HR.out _).mono ?_; rintro e w1 ⟨rfl, hb1⟩; obtain ⟨hc, hz⟩ := bcell hb1; have hs1 := hb1.size; simp only [heap_size_alloc] at hs1; have hs3 : w.heap.size < w1.heap.size := (by omega))
        | (go_at_call 45; refine (HH.out _).mono ?_; rintro e w2 ⟨rfl, hb2⟩; obtain ⟨hc2, hz2⟩ := bcell hb2; have hs2 := hb2.size))
      go_ret2
      have k1 := (below_alloc1 w _).trans (hb1.mono (by simp))
      exact ⟨rfl, k1.trans (hb2.mono k1.size)⟩

def targetP (i : Ins) : Bool := rightP i && hasP i.op 10

set_option maxHeartbeats 4000000 in
theorem target_c (i : Ins) (hi : i.ok) (w : World) : Calls Tryd.prog 22 #[.agg #[.int .u8 i.op, .int .u8 i.d, .int .u8 i.s, .int .u8 i.t, .int .u8 i.n, .int .u8 i.pred, .int .u8 i.mode, .bool i.nw, .bool i.ext, .int .u16 i.count, .int .i64 i.imm]] w fun e w' => e = .returned (.tuple #[.int .u32 (if targetP i then i.imm % 4294967296 else 0), .bool (targetP i)]) ∧ Below w.heap.size w w' := by
  have HR := hid (right_c i hi)
  have HH := hid (has_c i 10 hi.op.1 hi.op.2)
  unfold targetP
  generalize rightP i = a at HR ⊢
  generalize hasP i.op 10 = b at HH ⊢
  clear hi
  cases a
  · go_enter Tryd.func22, Tryd.ntmps22
    go_wp2_with (go_at_call 7; refine (HR.out _).mono ?_; rintro e w1 ⟨rfl, hb1⟩; obtain ⟨hc, hz⟩ := bcell hb1; have hs1 := hb1.size; simp only [heap_size_alloc] at hs1; have hs3 : w.heap.size < w1.heap.size := (by omega))
    go_ret2
    exact ⟨rfl, (below_alloc1 w _).trans (hb1.mono (by simp))⟩
  · cases b
    all_goals
      go_enter Tryd.func22, Tryd.ntmps22
      go_wp2_with (first
        | (go_at_call 7; refine (HR.out _).mono ?_; rintro e w1 ⟨rfl, hb1⟩; obtain ⟨hc, hz⟩ := bcell hb1; have hs1 := hb1.size; simp only [heap_size_alloc] at hs1; have hs3 : w.heap.size < w1.heap.size := (by omega))
        | (go_at_call 45; refine (HH.out _).mono ?_; rintro e w2 ⟨rfl, hb2⟩; obtain ⟨hc2, hz2⟩ := bcell hb2; have hs2 := hb2.size))
      go_ret2
      have k1 := (below_alloc1 w _).trans (hb1.mono (by simp))
      exact ⟨rfl, k1.trans (hb2.mono k1.size)⟩
end Go.Proofs.YtapjlmehfbnaoaaDoor
