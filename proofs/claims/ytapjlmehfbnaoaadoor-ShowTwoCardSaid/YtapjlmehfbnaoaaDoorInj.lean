/- Law 22, ShowTwo, plain: two right instructions are printed alike just if they are the same. Conditions: none. -/
import Derived.Test.YtapjlmehfbnaoaaDoorPat
namespace Go.Proofs.YtapjlmehfbnaoaaDoor
open Go Go.RowKit Go.Proofs

def Tok.sk : Tok → UInt8
  | .ch c => c
  | .nu _ => 0
  | .hx _ => 1
/-- What of an instruction tells how it is printed, but for numbers: op, mode, Ext, a value below nought, New. -/
abbrev Var := Nat × Nat × Bool × Bool × Bool
def varP (i : Ins) : Var := (i.op.toNat, i.mode.toNat, i.ext, decide (i.imm < 0), i.nw)
def skPut (v : Var) (c : UInt8) : List UInt8 :=
  if c = 68 then [114, 0] else if c = 83 then [114, 0] else if c = 84 then [114, 0] else if c = 80 then [112, 0] else if c = 81 then [112, 0]
  else if c = 73 then (if v.2.2.1 then [35, 35] else [35]) ++ (if v.2.2.2.1 then [45, 0] else [0]) else if c = 71 then (if v.2.2.1 then [35, 35] else []) ++ [1]
  else if c = 67 then [35, 0] else if c = 78 then [0] else if c = 87 then (if v.2.2.2.2 then [46, 110, 101, 119] else []) else [c]
def skCond (m : Nat) : List UInt8 := if m = 0 then [] else [105, 102, 32, 40] ++ (if m = 2 ∨ m = 4 then [33] else []) ++ [112, 0] ++ (if 3 ≤ m then [46, 110, 101, 119] else []) ++ [41, 32]
def SKV (v : Var) : List UInt8 := skCond v.2.1 ++ (pats.getD (v.1 - 1) []).flatMap (skPut v)
theorem sk_put (i : Ins) (c : UInt8) : (putT i c).map Tok.sk = skPut (varP i) c := by
  unfold putT skPut
  by_cases kD : c = 68
  · rw [if_pos kD, if_pos kD]
    rfl
  rw [if_neg kD, if_neg kD]
  by_cases kS : c = 83
  · rw [if_pos kS, if_pos kS]
    rfl
  rw [if_neg kS, if_neg kS]
  by_cases kT : c = 84
  · rw [if_pos kT, if_pos kT]
    rfl
  rw [if_neg kT, if_neg kT]
  by_cases kP : c = 80
  · rw [if_pos kP, if_pos kP]
    rfl
  rw [if_neg kP, if_neg kP]
  by_cases kQ : c = 81
  · rw [if_pos kQ, if_pos kQ]
    rfl
  rw [if_neg kQ, if_neg kQ]
  by_cases kI : c = 73
  · rw [if_pos kI, if_pos kI]
    unfold sharps itoaT varP
    by_cases hz : i.imm < 0 <;> cases i.ext <;> simp [hz, Tok.sk]
  rw [if_neg kI, if_neg kI]
  by_cases kG : c = 71
  · rw [if_pos kG, if_pos kG]
    unfold fars varP
    cases i.ext <;> rfl
  rw [if_neg kG, if_neg kG]
  by_cases kC : c = 67
  · rw [if_pos kC, if_pos kC]
    rfl
  rw [if_neg kC, if_neg kC]
  by_cases kN : c = 78
  · rw [if_pos kN, if_pos kN]
    rfl
  rw [if_neg kN, if_neg kN]
  by_cases kW : c = 87
  · rw [if_pos kW, if_pos kW]
    unfold varP
    cases i.nw <;> rfl
  rw [if_neg kW, if_neg kW]
  rfl
theorem sk_cond (i : Ins) (hi : 0 ≤ i.mode) : (condT i).map Tok.sk = skCond (varP i).2.1 := by
  unfold condT skCond varP
  have h0 : i.mode = 0 ↔ i.mode.toNat = 0 := by omega
  have h1 : (i.mode = 2 ∨ i.mode = 4) ↔ (i.mode.toNat = 2 ∨ i.mode.toNat = 4) := by omega
  have h2 : 3 ≤ i.mode ↔ 3 ≤ i.mode.toNat := by omega
  simp only [h0, h1, h2]
  split
  · rfl
  · split <;> split <;> rfl
theorem sk_tok (i : Ins) (hi : 0 ≤ i.mode) (h : 1 ≤ i.op ∧ i.op ≤ 31) : (tokP i).map Tok.sk = SKV (varP i) := by
  have hf : ∀ l : List UInt8, (l.flatMap (putT i)).map Tok.sk = l.flatMap (skPut (varP i)) := by
    intro l
    induction l with
    | nil => rfl
    | cons c l ih => rw [List.flatMap_cons, List.flatMap_cons, List.map_append, ih, sk_put]
  unfold tokP SKV
  rw [List.map_append, sk_cond i hi, hf]
  unfold patP
  rw [if_pos h]
  rfl
def vars : List Var := [(1, 0, false, false, false), (2, 0, false, false, false), (2, 1, false, false, false), (2, 2, false, false, false), (2, 3, false, false, false), (2, 4, false, false, false), (3, 0, false, false, false), (3, 1, false, false, false), (3, 2, false, false, false), (3, 3, false, false, false), (3, 4, false, false, false), (4, 0, false, false, false),
  (4, 1, false, false, false), (4, 2, false, false, false), (4, 3, false, false, false), (4, 4, false, false, false), (5, 0, false, false, false), (5, 1, false, false, false), (5, 2, false, false, false), (5, 3, false, false, false), (5, 4, false, false, false), (6, 0, false, false, false), (6, 1, false, false, false), (6, 2, false, false, false),
  (6, 3, false, false, false), (6, 4, false, false, false), (7, 0, false, false, false), (7, 0, false, true, false), (7, 0, true, false, false), (7, 0, true, true, false), (8, 0, false, false, false), (8, 0, false, true, false), (8, 0, true, false, false), (8, 0, true, true, false), (8, 1, false, false, false), (8, 1, false, true, false),
  (8, 1, true, false, false), (8, 1, true, true, false), (8, 2, false, false, false), (8, 2, false, true, false), (8, 2, true, false, false), (8, 2, true, true, false), (8, 3, false, false, false), (8, 3, false, true, false), (8, 3, true, false, false), (8, 3, true, true, false), (8, 4, false, false, false), (8, 4, false, true, false),
  (8, 4, true, false, false), (8, 4, true, true, false), (9, 0, false, false, false), (9, 1, false, false, false), (9, 2, false, false, false), (9, 3, false, false, false), (9, 4, false, false, false), (10, 0, false, false, false), (11, 0, false, false, false), (12, 0, false, false, false), (13, 0, false, false, false), (13, 0, false, true, false),
  (13, 0, true, false, false), (13, 0, true, true, false), (14, 0, false, false, false), (15, 0, false, false, false), (16, 0, false, false, false), (17, 0, false, false, false), (18, 0, false, false, false), (19, 0, false, false, false), (20, 0, false, false, false), (21, 0, false, false, false), (21, 0, false, true, false), (21, 0, true, false, false),
  (21, 0, true, true, false), (22, 0, false, false, false), (22, 0, false, true, false), (22, 0, true, false, false), (22, 0, true, true, false), (23, 0, false, false, false), (23, 0, false, true, false), (23, 0, true, false, false), (23, 0, true, true, false), (24, 0, false, false, false), (24, 0, false, false, true), (24, 0, false, true, false),
  (24, 0, false, true, true), (24, 0, true, false, false), (24, 0, true, false, true), (24, 0, true, true, false), (24, 0, true, true, true), (25, 0, false, false, false), (25, 0, false, false, true), (25, 0, false, true, false), (25, 0, false, true, true), (25, 0, true, false, false), (25, 0, true, false, true), (25, 0, true, true, false),
  (25, 0, true, true, true), (26, 0, false, false, false), (26, 0, false, false, true), (26, 0, false, true, false), (26, 0, false, true, true), (26, 0, true, false, false), (26, 0, true, false, true), (26, 0, true, true, false), (26, 0, true, true, true), (27, 0, false, false, false), (27, 0, true, false, false), (27, 1, false, false, false),
  (27, 1, true, false, false), (27, 2, false, false, false), (27, 2, true, false, false), (27, 3, false, false, false), (27, 3, true, false, false), (27, 4, false, false, false), (27, 4, true, false, false), (28, 0, false, false, false), (28, 1, false, false, false), (28, 2, false, false, false), (28, 3, false, false, false), (28, 4, false, false, false),
  (29, 0, false, false, false), (29, 0, true, false, false), (30, 0, false, false, false), (30, 0, true, false, false), (31, 0, false, false, false), (31, 0, true, false, false)]
theorem vars_inj : ∀ v ∈ vars, ∀ w ∈ vars, SKV v = SKV w → v = w := by decide +kernel

set_option maxHeartbeats 8000000 in
set_option maxRecDepth 100000 in
theorem var_mem (i : Ins) (hi : i.ok) (h : rightP i = true) : varP i ∈ vars := by
  have hr := right_row i h
  have hm : i.mode = 0 ∨ i.mode = 1 ∨ i.mode = 2 ∨ i.mode = 3 ∨ i.mode = 4 := by
    have := (right_bd i h).2.2.2.2.2.1
    have := hi.mode
    omega
  clear hi
  obtain ⟨op, d, s, t, n, pred, mode, nw, ext, count, imm⟩ := i
  simp only at hm
  rcases op_cases op hr with rfl | rfl | rfl | rfl | rfl | rfl | rfl | rfl | rfl | rfl | rfl | rfl | rfl | rfl | rfl | rfl | rfl | rfl | rfl | rfl | rfl | rfl | rfl | rfl | rfl | rfl | rfl | rfl | rfl | rfl | rfl
  all_goals
    clear hr
    rcases hm with rfl | rfl | rfl | rfl | rfl
    all_goals
      cases ext <;> cases nw <;> by_cases hz : imm < 0
      all_goals first
        | (simp only [varP, hz, decide_true, decide_false]; decide)
        | (exfalso; simp [rightP, isRow, leftP, rowD, rowOf, tableP, withoutP, holdsP, hasP, atP, atGo, zeroIns, fitsP] at h; done)
        | (exfalso; simp [rightP, isRow, leftP, rowD, rowOf, tableP, withoutP, holdsP, hasP, atP, atGo, zeroIns, fitsP] at h; omega)
end Go.Proofs.YtapjlmehfbnaoaaDoor
