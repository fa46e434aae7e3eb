/- Layer 4: instructions as eleven numbers; without, holds. Conditions: none. -/
import Derived.Test.YtapjlmehfbnaoaaDoorIsa
import Derived.Lib.Hide
namespace Go.Proofs.YtapjlmehfbnaoaaDoor
open Go Go.RowKit Go.Proofs
open Go.Lib (hid)

/-- An instruction. -/
structure Ins where
  op : Int
  d : Int
  s : Int
  t : Int
  n : Int
  pred : Int
  mode : Int
  nw : Bool
  ext : Bool
  count : Int
  imm : Int
  deriving DecidableEq
def Ins.cells (i : Ins) : List Value := [.int .u8 i.op, .int .u8 i.d, .int .u8 i.s, .int .u8 i.t, .int .u8 i.n, .int .u8 i.pred, .int .u8 i.mode, .bool i.nw, .bool i.ext, .int .u16 i.count, .int .i64 i.imm]
/-- Its numbers are of their kinds. -/
structure Ins.ok (i : Ins) : Prop where
  op : 0 ≤ i.op ∧ i.op ≤ 255
  d : 0 ≤ i.d ∧ i.d ≤ 255
  s : 0 ≤ i.s ∧ i.s ≤ 255
  t : 0 ≤ i.t ∧ i.t ≤ 255
  n : 0 ≤ i.n ∧ i.n ≤ 255
  pred : 0 ≤ i.pred ∧ i.pred ≤ 255
  mode : 0 ≤ i.mode ∧ i.mode ≤ 255
  count : 0 ≤ i.count ∧ i.count ≤ 65535
  imm : -9223372036854775808 ≤ i.imm ∧ i.imm ≤ 9223372036854775807

/-- An instruction without what a field says. -/
def withoutP (i : Ins) (f : Fld) : Ins :=
  let j := if f.kind = 1 then { i with mode := 0 } else if f.kind = 2 then { i with pred := 0 } else if f.kind = 3 ∨ f.kind = 4 then { i with d := 0 } else if f.kind = 5 then { i with s := 0 }
    else if f.kind = 6 then { i with t := 0 } else if f.kind = 7 then { i with n := 0 } else if f.kind = 8 then { i with nw := false } else if f.kind = 9 ∨ f.kind = 10 then { i with imm := 0 }
    else if f.kind = 11 then { i with count := 0 } else i
  if f.ext then { j with ext := false } else j

set_option maxHeartbeats 4000000 in
theorem without_c (i : Ins) (f : Fld) (w : World) : Calls Tryd.prog 19 #[.agg #[.int .u8 i.op, .int .u8 i.d, .int .u8 i.s, .int .u8 i.t, .int .u8 i.n, .int .u8 i.pred, .int .u8 i.mode, .bool i.nw, .bool i.ext, .int .u16 i.count, .int .i64 i.imm], .agg #[.int .u8 f.kind, .int .i64 f.bits, .int .i64 f.shift, .bool f.sg, .bool f.ext]] w
    fun e w' => e = .returned (.agg #[.int .u8 (withoutP i f).op, .int .u8 (withoutP i f).d, .int .u8 (withoutP i f).s, .int .u8 (withoutP i f).t, .int .u8 (withoutP i f).n, .int .u8 (withoutP i f).pred, .int .u8 (withoutP i f).mode, .bool (withoutP i f).nw, .bool (withoutP i f).ext, .int .u16 (withoutP i f).count, .int .i64 (withoutP i f).imm]) ∧ Below w.heap.size w w' := by
  obtain ⟨op, d, s, t, n, pred, mode, nw, ext, count, imm⟩ := i
  obtain ⟨kind, bits, shift, sg, ex⟩ := f
  go_enter Tryd.func19, Tryd.ntmps19
  go_wp2
  all_goals
    simp only [beq_iff_eq, beq_eq_false_iff_ne, ne_eq] at *
    refine bodyPost_ret (v := .agg (withoutP ⟨op, d, s, t, n, pred, mode, nw, ext, count, imm⟩ ⟨kind, bits, shift, sg, ex⟩).cells.toArray) ?_ rfl ⟨rfl, ?_⟩
    · simp [results, Tryd.results19, go_sem, withoutP, Ins.cells, *]
    · repeat' first | exact Below.refl _ _ | refine Below.setCell ?_ (by simp <;> omega) _ | refine Below.alloc ?_ (by simp <;> omega) _
end Go.Proofs.YtapjlmehfbnaoaaDoor
