/- isa.find, Of, At, by the table's list. Conditions: the op is a byte. -/
import Derived.Test.YtapjlmehfbnaoaaDoorIsd
namespace Go.Proofs.YtapjlmehfbnaoaaDoor
open Go Go.RowKit Go.Proofs
open Go.Lib (hid)

/-- The row of an op: none where there is no such. -/
def rowOf (op : Int) : Option RowP := if 1 ≤ op ∧ op ≤ 31 then tableP[(op - 1).toNat]? else none
def noRow : RowP := ⟨0, [], 0, []⟩
def rowD (op : Int) : RowP := (rowOf op).getD noRow

theorem table_len : tableP.length = 31 := rfl

set_option maxHeartbeats 2000000 in
theorem find_some (op : Int) (h1 : 1 ≤ op) (h2 : op ≤ 31) (w : World) : Calls Tryd.prog 42 #[.int .u8 op] w fun e w' => ∃ A c, e = .returned (.tuple #[.agg #[.int .u8 (rowD op).op, .string ⟨(rowD op).name.toArray⟩, .int .u8 (rowD op).cls, .int .u8 (slotsP (rowD op).cls), .slice A (rowD op).flds.length c], .bool true]) ∧ Rd w' w.heap.size 5 (.slice A (rowD op).flds.length c) (rowD op).flds.length (fcells (rowD op).flds) ∧ Below w.heap.size w w' := by
  have hlt : (op - 1).toNat < tableP.length := by rw [table_len]; omega
  have hrow : rowD op = tableP[(op - 1).toNat] := by
    unfold rowD rowOf
    rw [if_pos ⟨h1, h2⟩, List.getElem?_eq_getElem hlt]
    rfl
  rw [hrow]
  generalize hr : tableP[(op - 1).toNat] = r
  have HR : Hid (∀ h, tableP[(op - 1).toNat]'h = r) := fun _ => hr
  have HL := hid hlt
  clear hr hlt hrow
  go_enter Tryd.func42, Tryd.ntmps42
  go_wp2_with (go_at_call 84; refine (table_c _).mono ?_; rintro e w1 ⟨v1, rfl, ⟨b, rfl, hlo, hbl, ht⟩, hb1⟩; obtain ⟨u, hu, hcs⟩ := ht _ HL.out; rw [HR.out _] at hu hcs; obtain ⟨_, au, cu, rfl, _⟩ := id hu; have k0 := hcs 0 _ rfl; have k1 := hcs 1 _ rfl; have k2 := hcs 2 _ rfl; have k3 := hcs 3 _ rfl; have k4 := hcs 4 _ rfl; simp only [Nat.add_zero] at k0; rw [show (op - 1).toNat = op.toNat - 1 by omega] at k0 k1 k2 k3 k4; have hub := hid hu; have hsz := hb1.size; clear ht hcs hu; obtain ⟨hc, hz⟩ := bcell hb1)
  have hu := hub.out
  simp only [heap_size_alloc] at hu
  refine bodyPost_ret (v := .tuple #[.agg #[.int .u8 r.op, .string ⟨r.name.toArray⟩, .int .u8 r.cls, .int .u8 (slotsP r.cls), .slice au r.flds.length cu], .bool true]) (by simp [results, Tryd.results42, go_sem, hc]) rfl ⟨_, _, rfl, Rd.mono (lo := w.heap.size + 1) ?_ (by omega), ?_⟩
  · exact ((((hu.setCell (Nat.lt_succ_self _) _).setCell (Nat.lt_succ_self _) _).setCell (Nat.lt_succ_self _) _).setCell (Nat.lt_succ_self _) _).setCell (Nat.lt_succ_self _) _
  · exact (((((((below_alloc1 w _).trans (hb1.mono (by simp))).setCell (Nat.le_refl _) _).setCell (Nat.le_refl _) _).setCell (Nat.le_refl _) _).setCell (Nat.le_refl _) _).setCell (Nat.le_refl _) _)

set_option maxHeartbeats 2000000 in
theorem find_none (op : Int) (h0 : 0 ≤ op) (h255 : op ≤ 255) (h : op < 1 ∨ 31 < op) (w : World) : Calls Tryd.prog 42 #[.int .u8 op] w fun e w' => e = .returned (.tuple #[.agg #[.int .u8 0, .string ⟨#[]⟩, .int .u8 0, .int .u8 0, .slice none 0 0], .bool false]) ∧ Below w.heap.size w w' := by
  have h' : (decide (op < 1) = true) ∨ (decide (op < 1) = false ∧ decide (31 < op) = true) := by
    rcases h with h | h
    · exact .inl (decide_eq_true h)
    · exact .inr ⟨decide_eq_false (by omega), decide_eq_true h⟩
  clear h
  rcases h' with h | ⟨h, h2⟩
  all_goals
    go_enter Tryd.func42, Tryd.ntmps42
    go_wp2_with (go_at_call 84; refine (table_c _).mono ?_; rintro e w1 ⟨v1, rfl, ⟨b, rfl, hlo, hbl, ht⟩, hb1⟩; have hsz := hb1.size; clear ht; obtain ⟨hc, hz⟩ := bcell hb1)
    refine bodyPost_ret (v := .tuple #[.agg #[.int .u8 0, .string ⟨#[]⟩, .int .u8 0, .int .u8 0, .slice none 0 0], .bool false]) (by simp [results, Tryd.results42, go_sem, hc]) rfl ⟨rfl, ?_⟩
    exact (((((((below_alloc1 w _).trans (hb1.mono (by simp))).setCell (Nat.le_refl _) _).setCell (Nat.le_refl _) _).setCell (Nat.le_refl _) _).setCell (Nat.le_refl _) _).setCell (Nat.le_refl _) _)
end Go.Proofs.YtapjlmehfbnaoaaDoor
