/- isa.find for every byte, isa.Of. Conditions: the op is a byte. -/
import Derived.Test.YtapjlmehfbnaoaaDoorIse
namespace Go.Proofs.YtapjlmehfbnaoaaDoor
open Go Go.RowKit Go.Proofs
open Go.Lib (hid)

def isRow (op : Int) : Bool := decide (1 ≤ op ∧ op ≤ 31)
theorem rowD_none (op : Int) (h : ¬ (1 ≤ op ∧ op ≤ 31)) : rowD op = noRow := by unfold rowD rowOf; rw [if_neg h]; rfl
theorem rowD_flds (op : Int) : (rowD op).flds.length ≤ 5 := by
  by_cases h : 1 ≤ op ∧ op ≤ 31
  · unfold rowD rowOf
    rw [if_pos h]
    have hlt : (op - 1).toNat < tableP.length := by rw [table_len]; omega
    rw [List.getElem?_eq_getElem hlt]
    have : ∀ r ∈ tableP, r.flds.length ≤ 5 := by decide
    exact this _ (List.getElem_mem hlt)
  · rw [rowD_none op h]; decide

theorem find_c (op : Int) (h0 : 0 ≤ op) (h1 : op ≤ 255) (w : World) : Calls Tryd.prog 42 #[.int .u8 op] w fun e w' => ∃ A c, e = .returned (.tuple #[.agg #[.int .u8 (rowD op).op, .string ⟨(rowD op).name.toArray⟩, .int .u8 (rowD op).cls, .int .u8 (slotsP (rowD op).cls), .slice A (rowD op).flds.length c], .bool (isRow op)]) ∧ Rd w' w.heap.size 5 (.slice A (rowD op).flds.length c) (rowD op).flds.length (fcells (rowD op).flds) ∧ Below w.heap.size w w' := by
  by_cases h : 1 ≤ op ∧ op ≤ 31
  · rw [show isRow op = true from decide_eq_true h]
    exact find_some op h.1 h.2 w
  · rw [show isRow op = false from decide_eq_false h, rowD_none op h]
    refine (find_none op h0 h1 (by omega) w).mono ?_
    rintro e w' ⟨rfl, hb⟩
    exact ⟨none, 0, rfl, Rd.nil _ _ _, hb⟩

set_option maxHeartbeats 4000000 in
theorem of_c (op : Int) (h0 : 0 ≤ op) (h1 : op ≤ 255) (w : World) : Calls Tryd.prog 18 #[.int .u8 op] w fun e w' => ∃ A c, e = .returned (.tuple #[.agg #[.int .u8 (rowD op).op, .string ⟨(rowD op).name.toArray⟩, .int .u8 (rowD op).cls, .int .u8 (slotsP (rowD op).cls), .slice A (rowD op).flds.length c], .bool (isRow op)]) ∧ Rd w' w.heap.size 5 (.slice A (rowD op).flds.length c) (rowD op).flds.length (fcells (rowD op).flds) ∧ Below w.heap.size w w' := by
  have hl := rowD_flds op
  have F := find_c op h0 h1
  generalize rowD op = r at hl F
  generalize isRow op = ok at F
  have HF := hid F
  have HL := hid hl
  clear F hl
  go_enter Tryd.func18, Tryd.ntmps18
  go_wp2_with (first
    | (go_at_call 42; refine (HF.out _).mono ?_; rintro e w1 ⟨A, c, rfl, hr, hb1⟩; obtain ⟨hc, hz⟩ := bcell hb1; have hs1 := hb1.size; simp only [heap_size_alloc] at hs1; have hs3 : w.heap.size < w1.heap.size := (by omega); have hs4 : w.heap.size < w1.heap.size + 1 := (by omega); have hs5 : ¬ (w.heap.size = w1.heap.size) := (by omega); have hs6 : ¬ (w1.heap.size = w.heap.size) := (by omega); simp only [heap_size_alloc] at hr; have HR := hid hr; clear hr)
    | (go_at_call 43; refine (clone_c _ r.flds (by have := HL.out; omega) (w.heap.size + 1) _ ?_).mono ?_; rotate_left; rintro e w2 ⟨v2, rfl, ho2, hb2⟩; obtain ⟨A2, c2, rfl⟩ := own_slice ho2; obtain ⟨hc2, hz2⟩ := bcell hb2; have hs2 := hb2.size; simp only [heap_size_alloc] at hs2 hc2 hz2))
  · simp only [heap_size_alloc] at ho2
    refine bodyPost_ret (v := .tuple #[.agg #[.int .u8 r.op, .string ⟨r.name.toArray⟩, .int .u8 r.cls, .int .u8 (slotsP r.cls), .slice A2 r.flds.length c2], .bool ok]) (by simp [results, Tryd.results18, go_sem, hc2, hc, hs3, hs4]) rfl ⟨_, _, rfl, Rd.mono (lo := w1.heap.size + 1) ?_ (by omega), ?_⟩
    · refine Rd.of_own (e := 54) ?_
      exact own_setCell (own_setCell (own_setCell (own_setCell (own_setCell (own_setCell ho2 (Nat.lt_succ_self _) _) hs4 _) hs4 _) hs4 _) hs4 _) hs4 _
    · have k1 := (below_alloc1 w _).trans (hb1.mono (by simp))
      have k2 := k1.alloc (Nat.le_of_lt hs3) (.cells #[.int .u8 r.op, .string ⟨r.name.toArray⟩, .int .u8 r.cls, .int .u8 (slotsP r.cls), .slice A r.flds.length c] 50)
      have k3 := (k2.trans (hb2.mono (by simp; omega))).setCell (p := ⟨w1.heap.size, 4, none⟩) (Nat.le_of_lt hs3) (.slice A2 r.flds.length c2)
      exact ((((k3.setCell (Nat.le_refl _) _).setCell (Nat.le_refl _) _).setCell (Nat.le_refl _) _).setCell (Nat.le_refl _) _).setCell (Nat.le_refl _) _
  · refine (HR.out.below ?_)
    repeat' first | exact Below.refl _ _ | refine Below.setCell ?_ (by first | omega | (simp; done) | (simp; omega)) _ | refine Below.alloc ?_ (by first | omega | (simp; done) | (simp; omega)) _
end Go.Proofs.YtapjlmehfbnaoaaDoor
