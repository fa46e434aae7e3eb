/- Rows: an instruction as an argument; the tables that a row lists. Conditions: none. -/
import Derived.Test.YtapjlmehfbnaoaaDoorInst
import Derived.Lib.SmallJoins
import Derived.ProofKit
import Derived.OpenShut
import Derived.Stop.Joined
import Derived.LaidSub
import Derived.MakeChecks
import Derived.Lib.LaidTab
namespace Go.Proofs.YtapjlmehfbnaoaaDoor
open Go.Joins Go.ChangeShapes Go.WideShapes Go.ChangeAt Go.RowKit Go.Deep

section
variable {H : Type} {enc : TypeId × Value → H} {P : Program} {w : World} {base : Nat} {spare : Nat → Bool} {held : Bool}
theorem open_agg11 {r : Reach} {b0 : Nat} {t : TypeId} {f0 f1 f2 f3 f4 f5 f6 f7 f8 f9 f10 : Field} {v : Value} {d : DataW H} {p : List MemPlace} (hs : P.underlying t = some (.struct #[f0, f1, f2, f3, f4, f5, f6, f7, f8, f9, f10])) (hone : oneCellFields P #[f0, f1, f2, f3, f4, f5, f6, f7, f8, f9, f10] = true) (hC : P.cellsOf t = 11)
    (hv : Value.okWide P w r b0 t v) (h : DataW.Trod enc P w base spare held t v d p) :
    ∃ (v0 v1 v2 v3 v4 v5 v6 v7 v8 v9 v10 : Value) (y0 y1 y2 y3 y4 y5 y6 y7 y8 y9 y10 : DataW H × List MemPlace) (n : Nat), v = .agg #[v0, v1, v2, v3, v4, v5, v6, v7, v8, v9, v10] ∧ d = .agg [y0.1, y1.1, y2.1, y3.1, y4.1, y5.1, y6.1, y7.1, y8.1, y9.1, y10.1] ∧ p = y0.2 ++ (y1.2 ++ (y2.2 ++ (y3.2 ++ (y4.2 ++ (y5.2 ++ (y6.2 ++ (y7.2 ++ (y8.2 ++ (y9.2 ++ (y10.2)))))))))) ∧
      DataW.trod enc P w base spare held n f0.type [v0] = some y0 ∧ DataW.trod enc P w base spare held n f1.type [v1] = some y1 ∧ DataW.trod enc P w base spare held n f2.type [v2] = some y2 ∧ DataW.trod enc P w base spare held n f3.type [v3] = some y3 ∧ DataW.trod enc P w base spare held n f4.type [v4] = some y4 ∧ DataW.trod enc P w base spare held n f5.type [v5] = some y5 ∧ DataW.trod enc P w base spare held n f6.type [v6] = some y6 ∧ DataW.trod enc P w base spare held n f7.type [v7] = some y7 ∧ DataW.trod enc P w base spare held n f8.type [v8] = some y8 ∧ DataW.trod enc P w base spare held n f9.type [v9] = some y9 ∧ DataW.trod enc P w base spare held n f10.type [v10] = some y10 := by
  obtain ⟨cs, rfl, hsz⟩ := okWide_struct hs hv
  obtain ⟨l⟩ := cs
  match l, hsz.trans hC with
  | [c0, c1, c2, c3, c4, c5, c6, c7, c8, c9, c10], _ =>
    obtain ⟨fuel, hf⟩ := h
    obtain ⟨xs, n, _, hx, _, hlen, hg⟩ := DataW.trod_struct hs hf
    obtain ⟨o0, k0⟩ := hone_of hone 0 f0 rfl
    obtain ⟨o1, k1⟩ := hone_of hone 1 f1 rfl
    obtain ⟨o2, k2⟩ := hone_of hone 2 f2 rfl
    obtain ⟨o3, k3⟩ := hone_of hone 3 f3 rfl
    obtain ⟨o4, k4⟩ := hone_of hone 4 f4 rfl
    obtain ⟨o5, k5⟩ := hone_of hone 5 f5 rfl
    obtain ⟨o6, k6⟩ := hone_of hone 6 f6 rfl
    obtain ⟨o7, k7⟩ := hone_of hone 7 f7 rfl
    obtain ⟨o8, k8⟩ := hone_of hone 8 f8 rfl
    obtain ⟨o9, k9⟩ := hone_of hone 9 f9 rfl
    obtain ⟨o10, k10⟩ := hone_of hone 10 f10 rfl
    match xs, hlen with
    | [y0, y1, y2, y3, y4, y5, y6, y7, y8, y9, y10], _ =>
      simp only [Prod.mk.injEq] at hx
      exact ⟨c0, c1, c2, c3, c4, c5, c6, c7, c8, c9, c10, y0, y1, y2, y3, y4, y5, y6, y7, y8, y9, y10, n, rfl, by simpa using hx.1, by simpa using hx.2, by simpa [Value.cells, o0, k0] using hg 0 f0 rfl, by simpa [Value.cells, o1, k1] using hg 1 f1 rfl, by simpa [Value.cells, o2, k2] using hg 2 f2 rfl, by simpa [Value.cells, o3, k3] using hg 3 f3 rfl, by simpa [Value.cells, o4, k4] using hg 4 f4 rfl, by simpa [Value.cells, o5, k5] using hg 5 f5 rfl, by simpa [Value.cells, o6, k6] using hg 6 f6 rfl, by simpa [Value.cells, o7, k7] using hg 7 f7 rfl, by simpa [Value.cells, o8, k8] using hg 8 f8 rfl, by simpa [Value.cells, o9, k9] using hg 9 f9 rfl, by simpa [Value.cells, o10, k10] using hg 10 f10 rfl⟩
end

section
variable {H : Type} {enc : TypeId × Value → H} {w : World} {base : Nat} {spare : Nat → Bool} {held : Bool}
theorem cells_ins : Tryd.prog.cellsOf 24 = 11 := by kernel_rfl
set_option maxRecDepth 100000 in
theorem open_ins {r : Reach} {b0 : Nat} {v : Value} {d : DataW H} {p : List MemPlace} (hv : Value.okWide Tryd.prog w r b0 24 v) (h : DataW.Trod enc Tryd.prog w base spare held 24 v d p) :
    ∃ i : Ins, i.ok ∧ v = .agg #[.int .u8 i.op, .int .u8 i.d, .int .u8 i.s, .int .u8 i.t, .int .u8 i.n, .int .u8 i.pred, .int .u8 i.mode, .bool i.nw, .bool i.ext, .int .u16 i.count, .int .i64 i.imm] ∧ d = .agg [.lit (.int .u8 i.op), .lit (.int .u8 i.d), .lit (.int .u8 i.s), .lit (.int .u8 i.t), .lit (.int .u8 i.n), .lit (.int .u8 i.pred), .lit (.int .u8 i.mode), .lit (.bool i.nw), .lit (.bool i.ext), .lit (.int .u16 i.count), .lit (.int .i64 i.imm)] ∧ p = [] := by
  obtain ⟨v0, v1, v2, v3, v4, v5, v6, v7, v8, v9, v10, y0, y1, y2, y3, y4, y5, y6, y7, y8, y9, y10, n, hv', hd, hp, t0, t1, t2, t3, t4, t5, t6, t7, t8, t9, t10⟩ := open_agg11 Tryd.underlying24 (by kernel_rfl) cells_ins hv h
  obtain ⟨b0, e0, z0, q0⟩ := DataW.trod_int Tryd.underlying5 t0
  obtain ⟨b1, e1, z1, q1⟩ := DataW.trod_int Tryd.underlying5 t1
  obtain ⟨b2, e2, z2, q2⟩ := DataW.trod_int Tryd.underlying5 t2
  obtain ⟨b3, e3, z3, q3⟩ := DataW.trod_int Tryd.underlying5 t3
  obtain ⟨b4, e4, z4, q4⟩ := DataW.trod_int Tryd.underlying5 t4
  obtain ⟨b5, e5, z5, q5⟩ := DataW.trod_int Tryd.underlying5 t5
  obtain ⟨b6, e6, z6, q6⟩ := DataW.trod_int Tryd.underlying5 t6
  obtain ⟨b7, e7, z7⟩ := DataW.trod_bool Tryd.underlying4 t7
  obtain ⟨b8, e8, z8⟩ := DataW.trod_bool Tryd.underlying4 t8
  obtain ⟨b9, e9, z9, q9⟩ := DataW.trod_int Tryd.underlying22 t9
  obtain ⟨b10, e10, z10, q10⟩ := DataW.trod_int Tryd.underlying2 t10
  simp only [List.cons.injEq, and_true] at e0 e1 e2 e3 e4 e5 e6 e7 e8 e9 e10
  subst e0
  subst z0
  subst e1
  subst z1
  subst e2
  subst z2
  subst e3
  subst z3
  subst e4
  subst z4
  subst e5
  subst z5
  subst e6
  subst z6
  subst e7
  subst z7
  subst e8
  subst z8
  subst e9
  subst z9
  subst e10
  subst z10
  simp only [Lit.wf, decide_eq_true_eq, Bool.and_eq_true, IntKind.has, IntKind.min, IntKind.max, IntKind.signed, IntKind.bits] at q0 q1 q2 q3 q4 q5 q6 q9 q10
  refine ⟨⟨b0, b1, b2, b3, b4, b5, b6, b7, b8, b9, b10⟩, ⟨?_, ?_, ?_, ?_, ?_, ?_, ?_, ?_, ?_⟩, hv', hd, by simpa using hp⟩
  all_goals simp only
  all_goals (constructor <;> simp at * <;> omega)
theorem shut_ins (i : Ins) (hi : i.ok) : DataW.Trod enc Tryd.prog w base spare held 24 (.agg #[.int .u8 i.op, .int .u8 i.d, .int .u8 i.s, .int .u8 i.t, .int .u8 i.n, .int .u8 i.pred, .int .u8 i.mode, .bool i.nw, .bool i.ext, .int .u16 i.count, .int .i64 i.imm]) (.agg [.lit (.int .u8 i.op), .lit (.int .u8 i.d), .lit (.int .u8 i.s), .lit (.int .u8 i.t), .lit (.int .u8 i.n), .lit (.int .u8 i.pred), .lit (.int .u8 i.mode), .lit (.bool i.nw), .lit (.bool i.ext), .lit (.int .u16 i.count), .lit (.int .i64 i.imm)]) [] := by
  obtain ⟨h0, h1, h2, h3, h4, h5, h6, h7, h8⟩ := hi
  refine ⟨2, ?_⟩
  have c5 : Tryd.prog.cellsOf 5 = 1 := by kernel_rfl
  have c4 : Tryd.prog.cellsOf 4 = 1 := by kernel_rfl
  have c22 : Tryd.prog.cellsOf 22 = 1 := by kernel_rfl
  have c2 : Tryd.prog.cellsOf 2 = 1 := by kernel_rfl
  have q : ∀ n : Int, 0 ≤ n ∧ n ≤ 255 → DataW.trod enc Tryd.prog w base spare held 1 5 [.int .u8 n] = some (.lit (.int .u8 n), []) := fun n h => trod_int_mk 0 Tryd.underlying5 (by simp [Lit.wf, IntKind.has, IntKind.min, IntKind.max, IntKind.signed, IntKind.bits]; omega)
  have q2 : ∀ n : Int, 0 ≤ n ∧ n ≤ 65535 → DataW.trod enc Tryd.prog w base spare held 1 22 [.int .u16 n] = some (.lit (.int .u16 n), []) := fun n h => trod_int_mk 0 Tryd.underlying22 (by simp [Lit.wf, IntKind.has, IntKind.min, IntKind.max, IntKind.signed, IntKind.bits]; omega)
  have q3 : ∀ n : Int, -9223372036854775808 ≤ n ∧ n ≤ 9223372036854775807 → DataW.trod enc Tryd.prog w base spare held 1 2 [.int .i64 n] = some (.lit (.int .i64 n), []) := fun n h => trod_int_mk 0 Tryd.underlying2 (by simp [Lit.wf, IntKind.has, IntKind.min, IntKind.max, IntKind.signed, IntKind.bits]; omega)
  have q4 : ∀ n : Bool, DataW.trod enc Tryd.prog w base spare held 1 4 [.bool n] = some (.lit (.bool n), []) := fun n => by simp [DataW.trod, Tryd.underlying4]
  have h := trod_struct_mk (enc := enc) (w := w) (base := base) (spare := spare) (held := held) (n := 1) (cs := [.int .u8 i.op, .int .u8 i.d, .int .u8 i.s, .int .u8 i.t, .int .u8 i.n, .int .u8 i.pred, .int .u8 i.mode, .bool i.nw, .bool i.ext, .int .u16 i.count, .int .i64 i.imm]) (xs := [(.lit (.int .u8 i.op), []), (.lit (.int .u8 i.d), []), (.lit (.int .u8 i.s), []), (.lit (.int .u8 i.t), []), (.lit (.int .u8 i.n), []), (.lit (.int .u8 i.pred), []), (.lit (.int .u8 i.mode), []), (.lit (.bool i.nw), []), (.lit (.bool i.ext), []), (.lit (.int .u16 i.count), []), (.lit (.int .i64 i.imm), [])]) Tryd.underlying24 cells_ins.symm (by simp [c5, c4, c22, c2, q _ h0, q _ h1, q _ h2, q _ h3, q _ h4, q _ h5, q _ h6, q2 _ h7, q3 _ h8, q4])
  simpa [Value.cells] using h
end
end Go.Proofs.YtapjlmehfbnaoaaDoor
