/- Layer 3 of the program: what the field makers and the table give. Conditions: none. -/
import Derived.Test.YtapjlmehfbnaoaaDoorProg
import Derived.Test.YtapjlmehfbnaoaaDoorAid
import Derived.Outline
import Derived.WalkLawsBesides
import Derived.WalkSpells
namespace Go.Proofs.YtapjlmehfbnaoaaDoor
open Go Go.RowKit Go.Proofs

/-- A field's five cells. -/
structure Fld where
  kind : Int
  bits : Int
  shift : Int
  sg : Bool
  ext : Bool
  deriving DecidableEq
def Fld.cells (f : Fld) : List Value := [.int .u8 f.kind, .int .i64 f.bits, .int .i64 f.shift, .bool f.sg, .bool f.ext]
def fcells (l : List Fld) : List Value := l.flatMap Fld.cells

def FldsNew (w w' : World) (l : List Fld) (e : Ending) : Prop :=
  ∃ v, e = .returned v ∧ w'.ownsRow w.heap.size 54 5 v l.length (fcells l) ∧ Below w.heap.size w w'

theorem flds_one (w : World) (k b s : Int) (sg ex : Bool) : (w.alloc (.cells #[.int .u8 k, .int .i64 b, .int .i64 s, .bool sg, .bool ex] 54)).ownsRow w.heap.size 54 5 (.slice (some ⟨w.heap.size, 0, none⟩) 1 1) 1 (fcells [⟨k, b, s, sg, ex⟩]) :=
  World.ownsRow_lit w _ 1 (Nat.le_refl _) (by simp [maxLen]) rfl

set_option maxHeartbeats 400000 in
theorem plain_c (k b : Int) (w : World) : Calls Tryd.prog 121 #[.int .u8 k, .int .i64 b] w fun e w' => FldsNew w w' [⟨k, b, 0, false, false⟩] e := by
  go_enter Tryd.func121, Tryd.ntmps121
  go_wp2
  go_ret
  exact ⟨_, rfl, flds_one _ _ _ _ _ _, (Below.refl _ _).alloc (Nat.le_refl _) _⟩

set_option maxHeartbeats 400000 in
theorem imm_c (b s : Int) (w : World) : Calls Tryd.prog 119 #[.int .i64 b, .int .i64 s] w fun e w' => FldsNew w w' [⟨9, b, s, true, true⟩] e := by
  go_enter Tryd.func119, Tryd.ntmps119
  go_wp2
  go_ret
  exact ⟨_, rfl, flds_one _ _ _ _ _ _, (Below.refl _ _).alloc (Nat.le_refl _) _⟩

set_option maxHeartbeats 400000 in
theorem rel_c (b : Int) (w : World) : Calls Tryd.prog 122 #[.int .i64 b] w fun e w' => FldsNew w w' [⟨10, b, 2, true, true⟩] e := by
  go_enter Tryd.func122, Tryd.ntmps122
  go_wp2
  go_ret
  exact ⟨_, rfl, flds_one _ _ _ _ _ _, (Below.refl _ _).alloc (Nat.le_refl _) _⟩

set_option maxHeartbeats 400000 in
theorem d_c (w : World) : Calls Tryd.prog 116 #[] w fun e w' => FldsNew w w' [⟨3, 5, 0, false, false⟩] e := by
  go_enter Tryd.func116, Tryd.ntmps116
  go_wp2_with (go_at_call 121; refine (plain_c _ _ _).mono ?_; rintro e w' ⟨v, rfl, ho, hb⟩)
  go_ret
  exact ⟨_, rfl, ho, hb⟩

set_option maxHeartbeats 400000 in
theorem dp_c (w : World) : Calls Tryd.prog 120 #[] w fun e w' => FldsNew w w' [⟨4, 2, 0, false, false⟩] e := by
  go_enter Tryd.func120, Tryd.ntmps120
  go_wp2_with (go_at_call 121; refine (plain_c _ _ _).mono ?_; rintro e w' ⟨v, rfl, ho, hb⟩)
  go_ret
  exact ⟨_, rfl, ho, hb⟩

set_option maxHeartbeats 400000 in
theorem s_c (w : World) : Calls Tryd.prog 117 #[] w fun e w' => FldsNew w w' [⟨5, 5, 0, false, false⟩] e := by
  go_enter Tryd.func117, Tryd.ntmps117
  go_wp2_with (go_at_call 121; refine (plain_c _ _ _).mono ?_; rintro e w' ⟨v, rfl, ho, hb⟩)
  go_ret
  exact ⟨_, rfl, ho, hb⟩

set_option maxHeartbeats 400000 in
theorem t_c (w : World) : Calls Tryd.prog 118 #[] w fun e w' => FldsNew w w' [⟨6, 5, 0, false, false⟩] e := by
  go_enter Tryd.func118, Tryd.ntmps118
  go_wp2_with (go_at_call 121; refine (plain_c _ _ _).mono ?_; rintro e w' ⟨v, rfl, ho, hb⟩)
  go_ret
  exact ⟨_, rfl, ho, hb⟩

theorem info_fld : (Tryd.prog.info? 54).map (fun i => (i.zero, i.size, i.bytes)) = some (some (.agg #[.int .u8 0, .int .i64 0, .int .i64 0, .bool false, .bool false]), 5, 32) := by kernel_rfl
theorem fcells_one (l : List Fld) : ∀ c ∈ fcells l, c.oneCell' = true := by
  intro c hc
  simp only [fcells, List.mem_flatMap, Fld.cells, List.mem_cons, List.not_mem_nil, or_false] at hc
  obtain ⟨f, _, h⟩ := hc
  rcases h with rfl | rfl | rfl | rfl | rfl <;> rfl
theorem fcells_append (l m : List Fld) : fcells (l ++ m) = fcells l ++ fcells m := by simp [fcells]
theorem own_below {w w1 : World} {base e sz n : Nat} {v : Value} {xs : List Value} (h : w.ownsRow base e sz v n xs) (hb : Below w.heap.size w w1) : w1.ownsRow base e sz v n xs :=
  h.kept (row := none) ⟨hb.os, hb.tape, hb.output, hb.size, fun k hk _ => hb.block k hk⟩ (by cases v.ownBlock <;> simp)
theorem own_base {w : World} {base e sz n : Nat} {v : Value} {xs : List Value} (h : w.ownsRow base e sz v n xs) (k : Nat) (hk : v.ownBlock = some k) : base ≤ k := (h.lt k hk).1

set_option maxHeartbeats 400000 in
theorem cond_c (w : World) : Calls Tryd.prog 115 #[] w fun e w' => FldsNew w w' [⟨1, 3, 0, false, false⟩, ⟨2, 2, 0, false, false⟩] e := by
  go_enter Tryd.func115, Tryd.ntmps115
  go_wp2_with fail
  refine (plain_c _ _ _).mono ?_
  rintro e w1 ⟨v1, rfl, ho1, hb1⟩
  go_wp2_with fail
  refine (plain_c _ _ _).mono ?_
  rintro e w2 ⟨v2, rfl, ho2, hb2⟩
  have ho1' := own_below ho1 hb2
  have hs := hb1.size
  have hs2 := hb2.size
  go_wp2_with (at_builtin; refine wpList_append_rd rfl _ _ _ rfl w.heap.size _ _ 5 32 Tryd.underlying48 info_fld rfl (by omega) _ 1 _ rfl ho1' _ 1 _ _ rfl (Rd.of_own ho2) (fcells_one _) (by simp [maxLen]) (by omega) (by omega) ?_; intro v3 w3 ho3 hg3 _)
  go_ret
  exact ⟨_, rfl, ho3, (hb1.trans (hb2.mono hs)).grown hg3 (by omega) (own_base ho1')⟩
end Go.Proofs.YtapjlmehfbnaoaaDoor
