/- Layer 22, plain: what is printed, by patterns; two right instructions are printed alike just if they are the same. Conditions: none. -/
import Derived.Test.YtapjlmehfbnaoaaDoorShowi
import Derived.Test.YtapjlmehfbnaoaaDoorTok
namespace Go.Proofs.YtapjlmehfbnaoaaDoor
open Go Go.RowKit Go.Proofs

def pats : List (List UInt8) := [[110, 111, 112],
  [68, 32, 61, 32, 97, 100, 100, 40, 83, 44, 84, 41],
  [68, 32, 61, 32, 115, 117, 98, 40, 83, 44, 84, 41],
  [68, 32, 61, 32, 97, 110, 100, 40, 83, 44, 84, 41],
  [68, 32, 61, 32, 111, 114, 40, 83, 44, 84, 41],
  [68, 32, 61, 32, 120, 111, 114, 40, 83, 44, 84, 41],
  [68, 32, 61, 32, 97, 100, 100, 40, 83, 44, 73, 41],
  [68, 32, 61, 32, 73],
  [68, 32, 61, 32, 83],
  [81, 32, 61, 32, 99, 109, 112, 46, 101, 113, 40, 83, 44, 84, 41],
  [81, 32, 61, 32, 99, 109, 112, 46, 103, 116, 40, 83, 44, 84, 41],
  [81, 32, 61, 32, 99, 109, 112, 46, 103, 116, 117, 40, 83, 44, 84, 41],
  [81, 32, 61, 32, 99, 109, 112, 46, 101, 113, 40, 83, 44, 73, 41],
  [68, 32, 61, 32, 109, 117, 120, 40, 80, 44, 83, 44, 84, 41],
  [68, 32, 61, 32, 97, 115, 108, 40, 83, 44, 73, 41],
  [68, 32, 61, 32, 108, 115, 114, 40, 83, 44, 73, 41],
  [68, 32, 61, 32, 97, 115, 114, 40, 83, 44, 73, 41],
  [68, 32, 61, 32, 109, 112, 121, 40, 83, 44, 84, 41],
  [68, 32, 61, 32, 99, 109, 112, 121, 40, 83, 44, 84, 41],
  [68, 32, 61, 32, 99, 109, 112, 121, 99, 40, 83, 44, 84, 41],
  [68, 32, 61, 32, 109, 101, 109, 119, 40, 83, 43, 73, 41],
  [68, 32, 61, 32, 109, 101, 109, 104, 40, 83, 43, 73, 41],
  [68, 32, 61, 32, 109, 101, 109, 98, 40, 83, 43, 73, 41],
  [109, 101, 109, 119, 40, 83, 43, 73, 41, 32, 61, 32, 84, 87],
  [109, 101, 109, 104, 40, 83, 43, 73, 41, 32, 61, 32, 84, 87],
  [109, 101, 109, 98, 40, 83, 43, 73, 41, 32, 61, 32, 84, 87],
  [106, 117, 109, 112, 32, 71],
  [106, 117, 109, 112, 114, 32, 83],
  [99, 97, 108, 108, 32, 71],
  [108, 111, 111, 112, 78, 40, 71, 44, 67, 41],
  [108, 111, 111, 112, 78, 40, 71, 44, 83, 41]]
def patP (op : Int) : List UInt8 := if 1 ≤ op ∧ op ≤ 31 then pats.getD (op.toNat - 1) [] else []
/-- What stands for a letter of a pattern. -/
def putP (i : Ins) (nm : List UInt8) (c : UInt8) : List UInt8 :=
  if c = 68 then 114 :: Lib.decDigits i.d.toNat else if c = 83 then 114 :: Lib.decDigits i.s.toNat else if c = 84 then 114 :: Lib.decDigits i.t.toNat
  else if c = 80 then 112 :: Lib.decDigits i.pred.toNat else if c = 81 then 112 :: Lib.decDigits i.d.toNat else if c = 73 then immP i
  else if c = 71 then placeName i nm else if c = 67 then 35 :: Lib.itoa i.count else if c = 78 then Lib.decDigits i.n.toNat
  else if c = 87 then (if i.nw then [46, 110, 101, 119] else []) else [c]
def refBody (i : Ins) (nm : List UInt8) : List UInt8 := (patP i.op).flatMap (putP i nm)

set_option maxHeartbeats 8000000 in
set_option maxRecDepth 100000 in
theorem bare_ref (i : Ins) (h : rightP i = true) (nm : List UInt8) : bareP i (if targetP i then placeName i nm else []) = refBody i nm := by
  have hr := right_row i h
  have ht : targetP i = hasP i.op 10 := by unfold targetP; rw [h]; rfl
  have hw : writesPredP i = hasP i.op 4 := by unfold writesPredP; rw [h]; rfl
  unfold bareP
  rw [ht, hw]
  clear ht hw h
  obtain ⟨op, d, s, t, n, pred, mode, nw, ext, count, imm⟩ := i
  rcases op_cases op hr with rfl | rfl | rfl | rfl | rfl | rfl | rfl | rfl | rfl | rfl | rfl | rfl | rfl | rfl | rfl | rfl | rfl | rfl | rfl | rfl | rfl | rfl | rfl | rfl | rfl | rfl | rfl | rfl | rfl | rfl | rfl
  all_goals
    simp [bareG, branchP, loopP, storeP, placeP, rhsP, argsP, wordP, wordsP, rowD, rowOf, tableP, hasP, atP, atGo, refBody, patP, pats, putP]
theorem show_ref (i : Ins) (nm : List UInt8) : showP i nm = if rightP i then condP i ++ refBody i nm else [] := by
  unfold showP
  split
  · rw [bare_ref i ‹_› nm]
  · rfl

/-! ### In signs and numbers -/
def itoaT (n : Int) : List Tok := if n < 0 then [.ch 45, .nu n.natAbs] else [.nu n.toNat]
theorem itoaT_pr (n : Int) : prs (itoaT n) = Lib.itoa n := by
  unfold itoaT Lib.itoa
  split <;> simp [prs, Tok.pr]
def sharps (e : Bool) : List Tok := if e then [.ch 35, .ch 35] else [.ch 35]
def fars (e : Bool) : List Tok := if e then [.ch 35, .ch 35] else []
def putT (i : Ins) (c : UInt8) : List Tok :=
  if c = 68 then [.ch 114, .nu i.d.toNat] else if c = 83 then [.ch 114, .nu i.s.toNat] else if c = 84 then [.ch 114, .nu i.t.toNat]
  else if c = 80 then [.ch 112, .nu i.pred.toNat] else if c = 81 then [.ch 112, .nu i.d.toNat] else if c = 73 then sharps i.ext ++ itoaT i.imm
  else if c = 71 then fars i.ext ++ [.hx i.imm.toNat] else if c = 67 then [.ch 35, .nu i.count.toNat] else if c = 78 then [.nu i.n.toNat]
  else if c = 87 then (if i.nw then [.ch 46, .ch 110, .ch 101, .ch 119] else []) else [.ch c]
theorem pr_imm (i : Ins) : prs (sharps i.ext ++ itoaT i.imm) = immP i := by
  rw [prs_app, itoaT_pr]
  unfold immP sharps
  cases i.ext <;> rfl
theorem pr_place (i : Ins) : prs (fars i.ext ++ [.hx i.imm.toNat]) = placeName i [] := by
  rw [prs_app]
  unfold placeName nameP fars
  have h : prs [.hx i.imm.toNat] = 48 :: 120 :: hexL i.imm.toNat := by rw [prs_cons]; exact List.append_nil _
  rw [h]
  cases i.ext <;> rfl
theorem putT_pr (i : Ins) (hc : 0 ≤ i.count) (c : UInt8) : prs (putT i c) = putP i [] c := by
  have h2 : Lib.itoa i.count = Lib.decDigits i.count.toNat := by unfold Lib.itoa; rw [if_neg (by omega)]
  unfold putT putP
  by_cases kD : c = 68
  · rw [if_pos kD, if_pos kD]
    simp [prs, Tok.pr]
  rw [if_neg kD, if_neg kD]
  by_cases kS : c = 83
  · rw [if_pos kS, if_pos kS]
    simp [prs, Tok.pr]
  rw [if_neg kS, if_neg kS]
  by_cases kT : c = 84
  · rw [if_pos kT, if_pos kT]
    simp [prs, Tok.pr]
  rw [if_neg kT, if_neg kT]
  by_cases kP : c = 80
  · rw [if_pos kP, if_pos kP]
    simp [prs, Tok.pr]
  rw [if_neg kP, if_neg kP]
  by_cases kQ : c = 81
  · rw [if_pos kQ, if_pos kQ]
    simp [prs, Tok.pr]
  rw [if_neg kQ, if_neg kQ]
  by_cases kI : c = 73
  · rw [if_pos kI, if_pos kI]
    exact pr_imm i
  rw [if_neg kI, if_neg kI]
  by_cases kG : c = 71
  · rw [if_pos kG, if_pos kG]
    exact pr_place i
  rw [if_neg kG, if_neg kG]
  by_cases kC : c = 67
  · rw [if_pos kC, if_pos kC]
    rw [h2]; simp [prs, Tok.pr]
  rw [if_neg kC, if_neg kC]
  by_cases kN : c = 78
  · rw [if_pos kN, if_pos kN]
    simp [prs, Tok.pr]
  rw [if_neg kN, if_neg kN]
  by_cases kW : c = 87
  · rw [if_pos kW, if_pos kW]
    cases i.nw <;> rfl
  rw [if_neg kW, if_neg kW]
  rfl
def condT (i : Ins) : List Tok :=
  if i.mode = 0 then [] else [.ch 105, .ch 102, .ch 32, .ch 40] ++ (if i.mode = 2 ∨ i.mode = 4 then [.ch 33] else []) ++ [.ch 112, .nu i.pred.toNat] ++ (if 3 ≤ i.mode then [.ch 46, .ch 110, .ch 101, .ch 119] else []) ++ [.ch 41, .ch 32]
theorem condT_pr (i : Ins) : prs (condT i) = condP i := by
  unfold condT condP
  split
  · rfl
  · simp only [prs_app]
    split <;> split <;> simp [prs, Tok.pr]
def tokP (i : Ins) : List Tok := condT i ++ (patP i.op).flatMap (putT i)
theorem tokP_pr (i : Ins) (hi : i.ok) (h : rightP i = true) : prs (tokP i) = showP i [] := by
  have hf : ∀ l : List UInt8, prs (l.flatMap (putT i)) = l.flatMap (putP i []) := by
    intro l
    induction l with
    | nil => rfl
    | cons c l ih => rw [List.flatMap_cons, List.flatMap_cons, prs_app, ih, putT_pr i hi.count.1]
  rw [show_ref, if_pos h]
  unfold tokP refBody
  rw [prs_app, condT_pr, hf]

set_option maxHeartbeats 8000000 in
set_option maxRecDepth 100000 in
theorem tokP_ok (i : Ins) (h : rightP i = true) : okT (tokP i) = true := by
  have hr := right_row i h
  clear h
  obtain ⟨op, d, s, t, n, pred, mode, nw, ext, count, imm⟩ := i
  have hb : ∀ l : List Tok, okT l = true → okT (condT ⟨op, d, s, t, n, pred, mode, nw, ext, count, imm⟩ ++ l) = true := by
    intro l hl
    unfold condT
    split
    · exact hl
    · split <;> split <;> simpa [okT, endsN, isDig] using hl
  refine hb _ ?_
  clear hb
  rcases op_cases op hr with rfl | rfl | rfl | rfl | rfl | rfl | rfl | rfl | rfl | rfl | rfl | rfl | rfl | rfl | rfl | rfl | rfl | rfl | rfl | rfl | rfl | rfl | rfl | rfl | rfl | rfl | rfl | rfl | rfl | rfl | rfl
  all_goals
    clear hr
    cases ext <;> cases nw <;> by_cases hz : imm < 0
    all_goals simp [patP, pats, putT, sharps, fars, itoaT, okT, endsN, endsH, isDig, isHex, hz]
end Go.Proofs.YtapjlmehfbnaoaaDoor
