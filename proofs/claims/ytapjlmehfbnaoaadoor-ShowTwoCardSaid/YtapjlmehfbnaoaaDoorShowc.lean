/- Layer 22: the words of ops. Conditions: none. -/
import Derived.Test.YtapjlmehfbnaoaaDoorShowb
import Derived.Test.YtapjlmehfbnaoaaDoorMaps
namespace Go.Proofs.YtapjlmehfbnaoaaDoor
open Go Go.RowKit Go.Proofs
open Go.Lib (hid)

/-- How ops of some kinds are called. -/
def wordsP : List (Int × List UInt8) := [(2, [97, 100, 100]), (3, [115, 117, 98]), (4, [97, 110, 100]), (5, [111, 114]), (6, [120, 111, 114]), (7, [97, 100, 100]), (10, [99, 109, 112, 46, 101, 113]), (11, [99, 109, 112, 46, 103, 116]), (12, [99, 109, 112, 46, 103, 116, 117]), (13, [99, 109, 112, 46, 101, 113]), (14, [109, 117, 120]), (15, [97, 115, 108]), (16, [108, 115, 114]), (17, [97, 115, 114]), (18, [109, 112, 121]), (19, [99, 109, 112, 121]), (20, [99, 109, 112, 121, 99]), (21, [109, 101, 109, 119]), (22, [109, 101, 109, 104]), (23, [109, 101, 109, 98]), (24, [109, 101, 109, 119]), (25, [109, 101, 109, 104]), (26, [109, 101, 109, 98])]
def wordsE (l : List (Int × List UInt8)) (i : Nat) : List MapEntry := match l with
  | [] => []
  | p :: l => ⟨.int .u8 p.1, .agg #[.string ⟨p.2.toArray⟩], i⟩ :: wordsE l (i + 1)
def wordP (l : List (Int × List UInt8)) (op : Int) : List UInt8 := match l with
  | [] => []
  | p :: l => if op = p.1 then p.2 else wordP l op
def hasWord (l : List (Int × List UInt8)) (op : Int) : Bool := match l with
  | [] => false
  | p :: l => decide (op = p.1) || hasWord l op

theorem findNow_words (op : Int) (l : List (Int × List UInt8)) (i j : Nat) : ∃ n, Instr.findNow (.int .u8) (.int .u8 op) (wordsE l i) j = some (if hasWord l op then some (n, .agg #[.string ⟨(wordP l op).toArray⟩]) else none) ∧ (hasWord l op = false → wordP l op = []) := by
  induction l generalizing i j with
  | nil => exact ⟨0, rfl, fun _ => rfl⟩
  | cons p l ih =>
    obtain ⟨n, hn, hw⟩ := ih (i + 1) (j + 1)
    unfold wordsE hasWord wordP Instr.findNow Instr.sameNow
    by_cases h : op = p.1
    · exact ⟨j, by simp [h], by simp [h]⟩
    · refine ⟨n, ?_, ?_⟩
      · simp only [if_true, if_neg h, decide_eq_false h, Bool.false_or, show (op == p.1) = false from by simpa using h]
        exact hn
      · simpa [h] using hw

set_option maxHeartbeats 4000000 in
theorem words_c (w : World) : Calls Tryd.prog 89 #[] w fun e w' => e = .returned (.map (some w.heap.size)) ∧ w' = w.alloc (.map (wordsE wordsP 0).toArray 23) := by
  have hmm := @run_makeMap Tryd.prog
  go_enter Tryd.func89, Tryd.ntmps89
  go_wp2_with (refine wpList_insert_lit rfl _ 5 130 _ _ _ rfl _ Tryd.underlying131 Tryd.underlying5 rfl _ _ _ _ rfl rfl rfl rfl ?_)
  go_ret
  exact ⟨rfl, rfl⟩

theorem run_words (w : World) (r c : Nat) (hb : w.heap[r]? = some (.map (wordsE wordsP 0).toArray c)) (op : Int) :
    (Instr.lookup 131 (.map (some r)) (.int .u8 op) false).run Tryd.prog w = .ok (.agg #[.string ⟨(wordP wordsP op).toArray⟩]) w := by
  obtain ⟨n, hn, hw⟩ := findNow_words op wordsP 0 0
  rw [run_lookup_lit w _ 5 130 _ Tryd.underlying131 Tryd.underlying5 rfl r _ c hb _ _ Tryd.zeroValue130 _ (by simpa using hn)]
  cases h : hasWord wordsP op
  · rw [hw h]; rfl
  · rfl
end Go.Proofs.YtapjlmehfbnaoaaDoor
