/- ShowTwo: any two instructions that are right are printed alike just if they are the same: the card's statement, its tables tied to the program's text. Conditions: none beyond the statement's own. -/
import Derived.Test.YtapjlmehfbnaoaaDoorTwo
import Derived.Test.YtapjlmehfbnaoaaDoorFin
import Derived.Test.YtapjlmehfbnaoaaDoorRowa
import Derived.Test.YtapjlmehfbnaoaaDoorRowb
import Derived.Test.YtapjlmehfbnaoaaDoorCards
import Derived.Test.YtapjlmehfbnaoaaDoorTie
import Derived.Deep.DeepHandedRow
import Derived.LaidMore
namespace Go.Proofs.YtapjlmehfbnaoaaDoor.ShowTwo
open Go.ChangeShapes Go.WideShapes Go.ChangeAt Go.RowKit

theorem own : ownKnob Tryd.prog.godebug = none := by kernel_rfl
set_option maxRecDepth 100000 in
theorem contract (H : Type) (enc : TypeId × Value → H) (W : World) (base : Nat) (args : Array Value) (ds gs : List (DataW H)) (before : List MemPlace)
    (hval : ∀ (j : Nat) t v, Tryd.f3.params[j]? = some t → args[j]? = some v → Value.okWide Tryd.prog W .any base t v)
    (hW : DataW.Whole enc Tryd.prog Tryd.f3.params.toList Rows.showTwoSpec.vars false W args.toList ds gs before) (hL : laidMetH Tryd.prog Rows.showTwoRow.laid W) :
    Calls Tryd.prog 3 args W fun e W' => ∃ v, e = .returned v ∧ Rows.showTwoSpec.post enc Tryd.prog Tryd.f3 false true false false W args v W' := by
  have hW' := hW
  obtain ⟨p, q, hA0, hV, rfl, hfz, hnd⟩ := hW
  have hA : DataW.TrodAll enc Tryd.prog W 0 (fun _ => true) true Tryd.f3.params.toList args.toList ds p := hA0
  rw [Tryd.params3] at hA hval
  obtain ⟨v0, v1, d0, d1, p0, p1, rfl, rfl, rfl, h0, h1⟩ := trodAll_two hA
  obtain ⟨rfl, rfl⟩ := trodVars_none hV
  obtain ⟨a, ha, rfl, rfl, rfl⟩ := open_ins (hval 0 24 v0 rfl rfl) h0
  obtain ⟨b, hb, rfl, rfl, rfl⟩ := open_ins (hval 1 24 v1 rfl rfl) h1
  clear hA0
  simp only [List.append_nil] at hW'
  have hP := powOf hL
  have hB := bruOf hL
  have walk : Calls Tryd.prog 3 #[.agg #[.int .u8 a.op, .int .u8 a.d, .int .u8 a.s, .int .u8 a.t, .int .u8 a.n, .int .u8 a.pred, .int .u8 a.mode, .bool a.nw, .bool a.ext, .int .u16 a.count, .int .i64 a.imm], .agg #[.int .u8 b.op, .int .u8 b.d, .int .u8 b.s, .int .u8 b.t, .int .u8 b.n, .int .u8 b.pred, .int .u8 b.mode, .bool b.nw, .bool b.ext, .int .u16 b.count, .int .i64 b.imm]] W fun e w' => e = .returned (.bool true) ∧ Below W.heap.size W w' := by
    cases hr : (rightP a && rightP b)
    · exact two_no a b ha hb hr W hP hB
    · simp only [Bool.and_eq_true] at hr
      refine two_yes a b ha hb hr.1 hr.2 ?_ W hP hB
      rw [decide_eq_decide]
      exact ⟨fun h => show_two a b ha hb hr.1 hr.2 h, fun h => by rw [h]⟩
  refine walk.mono fun e W' ⟨he, hg⟩ => ?_
  subst he
  exact ⟨_, rfl, post_of_below (pa := []) (pv := []) hW' (fun _ _ _ => trodAll_mk1 (shut_bool Tryd.underlying4 _)) (fun _ _ => trodAll_mk2 (shut_ins a ha) (shut_ins b hb)) (fun _ _ => rfl) rfl hg (ok_one (by kernel_rfl) rfl (okWide_bool_mk Tryd.underlying4 _))⟩

/-- A start that fits: two instructions of noughts, in the heap that the program's own run leaves. -/
def zeroArgs : Array Value := #[.agg #[.int .u8 0, .int .u8 0, .int .u8 0, .int .u8 0, .int .u8 0, .int .u8 0, .int .u8 0, .bool false, .bool false, .int .u16 0, .int .i64 0], .agg #[.int .u8 0, .int .u8 0, .int .u8 0, .int .u8 0, .int .u8 0, .int .u8 0, .int .u8 0, .bool false, .bool false, .int .u16 0, .int .i64 0]]
theorem laid_met (os : Os) : laidMet Tryd.prog Rows.showTwoRow.laid ((World.doorLaid Tryd.prog 400 os).forCall (fun _ _ => 0) ⟨#[], zeroArgs, []⟩).memory :=
  laidMet_of_run' 8 (by kernel_rfl) (by kernel_rfl)
theorem reads (os : Os) {H : Type} (enc : TypeId × Value → H) : ∃ places, DataW.whole enc Tryd.prog ((World.doorLaid Tryd.prog 400 os).forCall (fun _ _ => 0) ⟨#[], zeroArgs, []⟩).memory Tryd.f3.params.toList Rows.showTwoSpec.vars false zeroArgs.toList 8 = some ([.agg [.lit (.int .u8 0), .lit (.int .u8 0), .lit (.int .u8 0), .lit (.int .u8 0), .lit (.int .u8 0), .lit (.int .u8 0), .lit (.int .u8 0), .lit (.bool false), .lit (.bool false), .lit (.int .u16 0), .lit (.int .i64 0)], .agg [.lit (.int .u8 0), .lit (.int .u8 0), .lit (.int .u8 0), .lit (.int .u8 0), .lit (.int .u8 0), .lit (.int .u8 0), .lit (.int .u8 0), .lit (.bool false), .lit (.bool false), .lit (.int .u16 0), .lit (.int .i64 0)]], [], places) :=
  ⟨[], by kernel_rfl⟩
set_option maxRecDepth 100000 in
theorem lifted (os : Os) (started : os.Started) (H : Type) (enc : TypeId × Value → H) (F : Stop.Interp) :
    ReturnsInHanded {} Tryd.checked os 3 .any ((OpenSpec.ofChange Rows.showTwoSpec).preRow enc Tryd.prog Tryd.f3 Rows.showTwoRow.domain false Rows.showTwoRow.laid) (((OpenSpec.ofChange Rows.showTwoSpec).at F).post enc Tryd.prog Tryd.f3 false true false false) := by
  obtain ⟨places, hx⟩ := reads os enc
  refine returnsInHanded_of_row (C := Tryd.checked) (s := OpenSpec.ofChange Rows.showTwoSpec) own started (by kernel_rfl) Tryd.func3
    (witness_row_at (enc := enc) (C := Tryd.checked) false (World.doorLaid Tryd.prog 400 os) zeroArgs rfl (by kernel_rfl) (by kernel_rfl) (by kernel_rfl)
      (OpenSpec.preRow_of_cond 8 hx (by kernel_rfl) (fun k hk => by cases hk) (by kernel_rfl) (laid_met os))) ?_
  intro W base args ds gs before hval hW _ _ _ hL _ _
  exact contract H enc W base args ds gs before hval hW hL
theorem said : Rows.ShowTwoSaid :=
  OpenClaim.holds_of_cond 3 Tryd.f3 rfl rfl rfl rfl rfl rfl rfl ⟨rfl, rfl, rfl, rfl, rfl⟩ rfl rfl rfl rfl rfl (by kernel_rfl) Tryd.func3 (by kernel_rfl)
    (of_decide_eq_true (by kernel_rfl)) (by unfold Func.isWrapper; first | (rw [if_pos (by decide +kernel)]; kernel_rfl) | (rw [if_neg (by decide +kernel)]; exact ⟨rfl, rfl⟩))
    (fun os started H enc _ F => by rw [OpenClaim.pre_eq_preRow]; exact lifted os started H enc F)
theorem plain (f : FuncId) (fn : Func) (hf : Tryd.pinned.checked.prog.funcNamed "coxless/coxlesslaw22.ShowTwo" = some f) (hfn : Tryd.pinned.checked.prog.funcs[f]? = some fn) :
    true = Tryd.pinned.checked.prog.looks [] ∧ ∀ (j : Nat) t, fn.params[j]? = some t → Tryd.pinned.checked.prog.wantsStandIn t = false := by
  obtain rfl : f = 3 := Option.some.inj ((show Tryd.prog.funcNamed "coxless/coxlesslaw22.ShowTwo" = some 3 by kernel_rfl).symm.trans hf) |>.symm
  obtain rfl : fn = Tryd.f3 := (Option.some.inj (Tryd.func3.symm.trans hfn)).symm
  refine ⟨by kernel_rfl, fun j t ht => ?_⟩
  rw [Tryd.params3] at ht
  have hm : t ∈ [24, 24] := by simpa using Array.mem_of_getElem? ht
  have hall : ([24, 24].all fun u => !Tryd.prog.wantsStandIn u) = true := by kernel_rfl
  exact (show Tryd.prog.wantsStandIn t = false by simpa using List.all_eq_true.1 hall t hm)
theorem card : Rows.ShowTwoCardSaid :=
  Claim7.holds_tied_plain_at .later [] _ _ _ _ said (fun _ h => by cases h) (by kernel_rfl) (fun _ h => by cases h) showTwo_row_tie rfl ⟨rfl, rfl⟩ (by kernel_rfl) rfl plain (by kernel_rfl)
end Go.Proofs.YtapjlmehfbnaoaaDoor.ShowTwo
namespace Go.Proofs.YtapjlmehfbnaoaaDoor
/-- The statement. -/
theorem showTwo_holds : Rows.ShowTwoCardSaid := ShowTwo.card
end Go.Proofs.YtapjlmehfbnaoaaDoor
