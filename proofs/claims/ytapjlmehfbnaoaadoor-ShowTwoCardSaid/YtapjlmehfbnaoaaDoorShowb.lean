/- Layer 22: values and counts. Conditions: the table of powers of ten is laid; the numbers are of their kinds. -/
import Derived.Test.YtapjlmehfbnaoaaDoorShowa
import Derived.Lib.ItoaLen
import Derived.Lib.AppendIntMem
namespace Go.Proofs.YtapjlmehfbnaoaaDoor
open Go Go.RowKit Go.Proofs
open Go.Lib (hid)

/-- The table of powers of ten is laid. -/
def Pow (w : World) : Prop := Lib.TabIs Tryd.prog w "internal/strconv.uint64pow10" .u64 Lib.pow10Tab
theorem Pow.below {w w' : World} (h : Pow w) (hb : Below w.heap.size w w') : Pow w' := Lib.tabBelow_of_tabIs h w' hb

theorem dec_c (n : Int) (h0 : -9223372036854775808 ≤ n) (h1 : n ≤ 9223372036854775807) (w : World) (hp : Pow w) : Calls Tryd.prog 46 #[.int .i64 n, .int .i64 10] w fun e w' => e = .returned (.string ⟨(Lib.itoa n).toArray⟩) ∧ Below w.heap.size w w' := by
  refine (Tryd.strconv_FormatInt_10 n h0 h1 w hp).mono ?_
  rintro e w' ⟨rfl, k, os, rfl⟩
  exact ⟨rfl, Lib.below_grow _ _ (Nat.le_refl _) _ _⟩

def immP (i : Ins) : List UInt8 := (if i.ext then [35, 35] else [35]) ++ Lib.itoa i.imm

set_option maxHeartbeats 4000000 in
theorem imm_s (i : Ins) (hi : i.ok) (w : World) (hp : Pow w) : Calls Tryd.prog 90 #[.agg #[.int .u8 i.op, .int .u8 i.d, .int .u8 i.s, .int .u8 i.t, .int .u8 i.n, .int .u8 i.pred, .int .u8 i.mode, .bool i.nw, .bool i.ext, .int .u16 i.count, .int .i64 i.imm]] w fun e w' => e = .returned (.string ⟨(immP i).toArray⟩) ∧ Below w.heap.size w w' := by
  obtain ⟨op, d, s, t, n, pred, mode, nw, ext, count, imm⟩ := i
  have HD := hid (fun (w : World) (hp : Pow w) => dec_c imm hi.imm.1 hi.imm.2 w hp)
  have hl := Lib.itoa_length_le imm hi.imm.1 hi.imm.2
  have HP := hid (fun (X : Obj) => hp.below (below_alloc1 w X))
  clear hi hp
  cases ext
  all_goals
    go_enter Tryd.func90, Tryd.ntmps90
    go_wp2_with (go_at_call 46; refine (HD.out _ (HP.out _)).mono ?_; rintro e w1 ⟨rfl, hb1⟩; obtain ⟨hc, hz⟩ := bcell hb1)
    go_ret
    refine ⟨ret_str (bytes_eq ?_), (below_alloc1 w _).trans (hb1.mono (by simp))⟩
    simp [immP, data_app]
end Go.Proofs.YtapjlmehfbnaoaaDoor
