/- The table of layer 3, as a list; isa.table gives it. Conditions: none. -/
import Derived.Test.YtapjlmehfbnaoaaDoorIsc
import Derived.Great.BuildSlice
namespace Go.Proofs.YtapjlmehfbnaoaaDoor
open Go Go.RowKit Go.Proofs
open Go.Lib (hid)

def tableP : List RowP := [
  ⟨1, [110, 111, 112], 1, []⟩,
  ⟨2, [97, 100, 100], 1, [⟨1, 3, 0, false, false⟩, ⟨2, 2, 0, false, false⟩, ⟨3, 5, 0, false, false⟩, ⟨5, 5, 0, false, false⟩, ⟨6, 5, 0, false, false⟩]⟩,
  ⟨3, [115, 117, 98], 1, [⟨1, 3, 0, false, false⟩, ⟨2, 2, 0, false, false⟩, ⟨3, 5, 0, false, false⟩, ⟨5, 5, 0, false, false⟩, ⟨6, 5, 0, false, false⟩]⟩,
  ⟨4, [97, 110, 100], 1, [⟨1, 3, 0, false, false⟩, ⟨2, 2, 0, false, false⟩, ⟨3, 5, 0, false, false⟩, ⟨5, 5, 0, false, false⟩, ⟨6, 5, 0, false, false⟩]⟩,
  ⟨5, [111, 114], 1, [⟨1, 3, 0, false, false⟩, ⟨2, 2, 0, false, false⟩, ⟨3, 5, 0, false, false⟩, ⟨5, 5, 0, false, false⟩, ⟨6, 5, 0, false, false⟩]⟩,
  ⟨6, [120, 111, 114], 1, [⟨1, 3, 0, false, false⟩, ⟨2, 2, 0, false, false⟩, ⟨3, 5, 0, false, false⟩, ⟨5, 5, 0, false, false⟩, ⟨6, 5, 0, false, false⟩]⟩,
  ⟨7, [97, 100, 100, 105], 1, [⟨3, 5, 0, false, false⟩, ⟨5, 5, 0, false, false⟩, ⟨9, 14, 0, true, true⟩]⟩,
  ⟨8, [109, 111, 118, 105], 1, [⟨1, 3, 0, false, false⟩, ⟨2, 2, 0, false, false⟩, ⟨3, 5, 0, false, false⟩, ⟨9, 14, 0, true, true⟩]⟩,
  ⟨9, [109, 111, 118], 1, [⟨1, 3, 0, false, false⟩, ⟨2, 2, 0, false, false⟩, ⟨3, 5, 0, false, false⟩, ⟨5, 5, 0, false, false⟩]⟩,
  ⟨10, [99, 109, 112, 101, 113], 1, [⟨4, 2, 0, false, false⟩, ⟨5, 5, 0, false, false⟩, ⟨6, 5, 0, false, false⟩]⟩,
  ⟨11, [99, 109, 112, 103, 116], 1, [⟨4, 2, 0, false, false⟩, ⟨5, 5, 0, false, false⟩, ⟨6, 5, 0, false, false⟩]⟩,
  ⟨12, [99, 109, 112, 103, 116, 117], 1, [⟨4, 2, 0, false, false⟩, ⟨5, 5, 0, false, false⟩, ⟨6, 5, 0, false, false⟩]⟩,
  ⟨13, [99, 109, 112, 101, 113, 105], 1, [⟨4, 2, 0, false, false⟩, ⟨5, 5, 0, false, false⟩, ⟨9, 14, 0, true, true⟩]⟩,
  ⟨14, [109, 117, 120], 1, [⟨3, 5, 0, false, false⟩, ⟨2, 2, 0, false, false⟩, ⟨5, 5, 0, false, false⟩, ⟨6, 5, 0, false, false⟩]⟩,
  ⟨15, [97, 115, 108], 2, [⟨3, 5, 0, false, false⟩, ⟨5, 5, 0, false, false⟩, ⟨9, 5, 0, false, false⟩]⟩,
  ⟨16, [108, 115, 114], 2, [⟨3, 5, 0, false, false⟩, ⟨5, 5, 0, false, false⟩, ⟨9, 5, 0, false, false⟩]⟩,
  ⟨17, [97, 115, 114], 2, [⟨3, 5, 0, false, false⟩, ⟨5, 5, 0, false, false⟩, ⟨9, 5, 0, false, false⟩]⟩,
  ⟨18, [109, 112, 121], 2, [⟨3, 5, 0, false, false⟩, ⟨5, 5, 0, false, false⟩, ⟨6, 5, 0, false, false⟩]⟩,
  ⟨19, [99, 109, 112, 121], 2, [⟨3, 5, 0, false, false⟩, ⟨5, 5, 0, false, false⟩, ⟨6, 5, 0, false, false⟩]⟩,
  ⟨20, [99, 109, 112, 121, 99], 2, [⟨3, 5, 0, false, false⟩, ⟨5, 5, 0, false, false⟩, ⟨6, 5, 0, false, false⟩]⟩,
  ⟨21, [108, 100, 119], 3, [⟨3, 5, 0, false, false⟩, ⟨5, 5, 0, false, false⟩, ⟨9, 12, 2, true, true⟩]⟩,
  ⟨22, [108, 100, 104], 3, [⟨3, 5, 0, false, false⟩, ⟨5, 5, 0, false, false⟩, ⟨9, 12, 1, true, true⟩]⟩,
  ⟨23, [108, 100, 98], 3, [⟨3, 5, 0, false, false⟩, ⟨5, 5, 0, false, false⟩, ⟨9, 12, 0, true, true⟩]⟩,
  ⟨24, [115, 116, 119], 4, [⟨5, 5, 0, false, false⟩, ⟨8, 1, 0, false, false⟩, ⟨6, 5, 0, false, false⟩, ⟨9, 12, 2, true, true⟩]⟩,
  ⟨25, [115, 116, 104], 4, [⟨5, 5, 0, false, false⟩, ⟨8, 1, 0, false, false⟩, ⟨6, 5, 0, false, false⟩, ⟨9, 12, 1, true, true⟩]⟩,
  ⟨26, [115, 116, 98], 4, [⟨5, 5, 0, false, false⟩, ⟨8, 1, 0, false, false⟩, ⟨6, 5, 0, false, false⟩, ⟨9, 12, 0, true, true⟩]⟩,
  ⟨27, [106, 117, 109, 112], 5, [⟨1, 3, 0, false, false⟩, ⟨2, 2, 0, false, false⟩, ⟨10, 19, 2, true, true⟩]⟩,
  ⟨28, [106, 117, 109, 112, 114], 5, [⟨1, 3, 0, false, false⟩, ⟨2, 2, 0, false, false⟩, ⟨5, 5, 0, false, false⟩]⟩,
  ⟨29, [99, 97, 108, 108], 5, [⟨10, 24, 2, true, true⟩]⟩,
  ⟨30, [108, 111, 111, 112, 105], 6, [⟨7, 1, 0, false, false⟩, ⟨10, 12, 2, true, true⟩, ⟨11, 11, 0, false, false⟩]⟩,
  ⟨31, [108, 111, 111, 112, 114], 6, [⟨7, 1, 0, false, false⟩, ⟨10, 12, 2, true, true⟩, ⟨5, 5, 0, false, false⟩]⟩]

def Pend (w : World) (lo : Nat) (L : List (Value × List Fld)) : Prop := ∀ p ∈ L, Rd w lo 5 p.1 p.2.length (fcells p.2)
theorem Pend.nil (w : World) (lo : Nat) : Pend w lo [] := fun p hp => by cases hp
theorem Pend.below {w w' : World} {lo : Nat} {L : List (Value × List Fld)} (h : Pend w lo L) (hb : Below w.heap.size w w') : Pend w' lo L := fun p hp => (h p hp).below hb
theorem Pend.push {w w' : World} {L : List (Value × List Fld)} {v : Value} {l : List Fld} {lo base : Nat} (h : Pend w lo L) (hb : Below w.heap.size w w') (ho : w'.ownsRow base 54 5 v l.length (fcells l)) (hlo : lo ≤ base) : Pend w' lo ((v, l) :: L) := by
  intro p hp
  rcases List.mem_cons.1 hp with rfl | hp
  · exact (Rd.of_own ho).mono hlo
  · exact (h p hp).below hb
theorem Pend.rows {w : World} {lo : Nat} {L : List (Value × List Fld)} (h : Pend w lo L) (T : TypeId) : Rows2 (w.alloc (.cells (L.reverse.map Prod.fst).toArray T)) lo (.slice (some ⟨w.heap.size, 0, none⟩) L.length L.length) (L.reverse.map Prod.snd) := by
  have h2 : ∀ p ∈ L.reverse, Rd (w.alloc (.cells (L.reverse.map Prod.fst).toArray T)) lo 5 p.1 p.2.length (fcells p.2) := fun p hp => (h p (by simpa using hp)).below (below_alloc1 _ _)
  have hl : L.length = L.reverse.length := by simp
  rw [hl]
  generalize L.reverse = M at h2
  refine ⟨_, M.length, by simp, by simp, fun _ => ⟨w.heap.size, 0, rfl, by simp, fun i hi => ?_⟩⟩
  have hi' : i < M.length := by simpa using hi
  refine ⟨M[i].1, ?_, ?_⟩
  · unfold World.cell?
    rw [heap_alloc_new]
    simp [hi']
  · have := h2 M[i] (List.getElem_mem hi')
    simpa using this

def rowCells (r : RowP) (v : Value) : List Value := [.int .u8 r.op, .string ⟨r.name.toArray⟩, .int .u8 r.cls, .int .u8 (slotsP r.cls), v]
def AllRows (w : World) (lo : Nat) (L : List (RowP × Value)) : Prop := ∀ p ∈ L, Rd w lo 5 p.2 p.1.flds.length (fcells p.1.flds)
theorem AllRows.nil (w : World) (lo : Nat) : AllRows w lo [] := fun p hp => by cases hp
theorem AllRows.below {w w' : World} {lo : Nat} {L : List (RowP × Value)} (h : AllRows w lo L) (hb : Below w.heap.size w w') : AllRows w' lo L := fun p hp => (h p hp).below hb
theorem AllRows.push {w w' : World} {L : List (RowP × Value)} {v : Value} {r : RowP} {lo base : Nat} (h : AllRows w lo L) (hb : Below w.heap.size w w') (hr : Rd w' base 5 v r.flds.length (fcells r.flds)) (hlo : lo ≤ base) : AllRows w' lo ((r, v) :: L) := by
  intro p hp
  rcases List.mem_cons.1 hp with rfl | hp
  · exact hr.mono hlo
  · exact (h p hp).below hb

/-- What isa.table gives: thirty-one rows in one block. -/
def Table (w : World) (lo : Nat) (v : Value) : Prop := ∃ b, v = .slice (some ⟨b, 0, none⟩) 31 31 ∧ lo ≤ b ∧ b < w.heap.size ∧
  ∀ i (h : i < tableP.length), ∃ u, Rd w lo 5 u tableP[i].flds.length (fcells tableP[i].flds) ∧ ∀ j c, (rowCells tableP[i] u)[j]? = some c → w.cell? ⟨b, i * 5 + j, none⟩ = some c

def rowV (p : RowP × Value) : Value := .agg (rowCells p.1 p.2).toArray
theorem rowCells_len (r : RowP) (v : Value) : (rowCells r v).length = 5 := rfl

theorem info_row : (Tryd.prog.info? 50).map (fun i => (i.zero, i.size, i.bytes)) = some (some (.agg #[.int .u8 0, .string ⟨#[]⟩, .int .u8 0, .int .u8 0, .slice none 0 0]), 5, 56) := by kernel_rfl

theorem Table.of {w : World} {lo : Nat} {L : List (RowP × Value)} (HA : AllRows (w.alloc (.cells ((L.reverse.map rowV).flatMap fun v => v.cells.toList).toArray 50)) lo L) (hw : lo ≤ w.heap.size) (hr : L.reverse.map Prod.fst = tableP) : Table (w.alloc (.cells ((L.reverse.map rowV).flatMap fun v => v.cells.toList).toArray 50)) lo (.slice (some ⟨w.heap.size, 0, none⟩) 31 31) := by
  refine ⟨w.heap.size, rfl, hw, by simp, fun i hi => ?_⟩
  have hi2 : i < L.reverse.length := by have := congrArg List.length hr; rw [List.length_map] at this; omega
  have hti : tableP[i] = L.reverse[i].1 := by simp only [← hr, List.getElem_map]
  refine ⟨L.reverse[i].2, ?_, fun j c hj => ?_⟩
  · rw [hti]
    exact HA _ (List.mem_reverse.1 (List.getElem_mem hi2))
  · rw [hti] at hj
    have hj5 : j < 5 := by
      have := (List.getElem?_eq_some_iff.1 hj).1
      rwa [rowCells_len] at this
    unfold World.cell?
    rw [heap_alloc_new]
    simp only [Option.isSome_none, Bool.false_eq_true, if_false, List.getElem?_toArray]
    rw [Great.flat_get (s := 5) (by omega) _ (fun v hv => by obtain ⟨p, _, rfl⟩ := List.mem_map.1 hv; rfl)]
    rw [show (i * 5 + j) / 5 = i by omega, show (i * 5 + j) % 5 = j by omega, List.getElem?_map, List.getElem?_eq_getElem hi2]
    simpa [rowV, Value.cells] using hj

theorem wpList_table {ops : Array Oper} {rest : List Oper} {o : Oper} {a : Act} {w : World} {Q : Exit → Act → World → Prop} {lo : Nat} {L : List (RowP × Value)} (hg : o.guard = none) (parts : Array (Nat × Operand)) (ho : o.op = .buildSlice 124 31 parts)
    (HA : AllRows w lo L) (hw : lo ≤ w.heap.size) (hL : L.length = 31) (hparts : parts.toList.map (fun p => (p.1, a.eval p.2)) = ((L.reverse.map rowV).zipIdx 0).map fun x => (x.2, x.1)) (hr : L.reverse.map Prod.fst = tableP)
    (h : ∀ C, Table (w.alloc (.cells C 50)) lo (.slice (some ⟨w.heap.size, 0, none⟩) 31 31) → wpList Tryd.prog ops Q rest (a.put o.dst (.slice (some ⟨w.heap.size, 0, none⟩) 31 31)) (w.alloc (.cells C 50))) : wpList Tryd.prog ops Q (o :: rest) a w := by
  obtain ⟨i, hi, hz0, hz1, hz2⟩ := info_parts info_row
  refine wpList_buildSlice hg _ 50 31 parts ho _ i _ Tryd.underlying124 hi hz0 (by rw [hz1]; omega) (by rw [hz1]; omega) ?_ (h _ (Table.of (HA.below (below_alloc1 _ _)) hw hr))
  rw [Array.toList_map, hparts, hz1]
  refine Great.fill_whole (by omega) _ _ ?_ (by simp [hL])
  intro v hv
  obtain ⟨p, _, rfl⟩ := List.mem_map.1 hv
  rfl

set_option maxRecDepth 100000 in
set_option maxHeartbeats 20000000 in
theorem table_c (w : World) : Calls Tryd.prog 84 #[] w fun e w' => ∃ v, e = .returned v ∧ Table w' w.heap.size v ∧ Below w.heap.size w w' := by
  have HP := Pend.nil w w.heap.size
  have HA := AllRows.nil w w.heap.size
  have HB := Below.refl w.heap.size w
  go_enter Tryd.func84, Tryd.ntmps84
  go_wp2_with fail
  refine (row_c 1 1 [110, 111, 112] (.slice none 0 0) [] [] rfl _ (by simp) (by simp [flen]) 0 ⟨none, 0, rfl, by simp, fun h => by simp at h⟩).mono ?_
  rintro e w' ⟨cs, rfl, ⟨u, rfl, hu⟩, hb⟩; replace HA := (HA.below hb).push (Below.refl _ _) hu HB.size; replace HB := HB.trans (hb.mono HB.size); replace HP := Pend.nil w' w.heap.size; clear hu hb
  go_wp2_with (first
    | (go_at_call 115; refine (cond_c _).mono ?_; rintro e w' ⟨v, rfl, ho, hb⟩; obtain ⟨A, c, rfl⟩ := own_slice ho; replace HP := HP.push hb ho HB.size; replace HA := HA.below hb; replace HB := HB.trans (hb.mono HB.size); clear ho hb)
    | (go_at_call 116; refine (d_c _).mono ?_; rintro e w' ⟨v, rfl, ho, hb⟩; obtain ⟨A, c, rfl⟩ := own_slice ho; replace HP := HP.push hb ho HB.size; replace HA := HA.below hb; replace HB := HB.trans (hb.mono HB.size); clear ho hb)
    | (go_at_call 117; refine (s_c _).mono ?_; rintro e w' ⟨v, rfl, ho, hb⟩; obtain ⟨A, c, rfl⟩ := own_slice ho; replace HP := HP.push hb ho HB.size; replace HA := HA.below hb; replace HB := HB.trans (hb.mono HB.size); clear ho hb)
    | (go_at_call 118; refine (t_c _).mono ?_; rintro e w' ⟨v, rfl, ho, hb⟩; obtain ⟨A, c, rfl⟩ := own_slice ho; replace HP := HP.push hb ho HB.size; replace HA := HA.below hb; replace HB := HB.trans (hb.mono HB.size); clear ho hb)
    | (go_at_call 120; refine (dp_c _).mono ?_; rintro e w' ⟨v, rfl, ho, hb⟩; obtain ⟨A, c, rfl⟩ := own_slice ho; replace HP := HP.push hb ho HB.size; replace HA := HA.below hb; replace HB := HB.trans (hb.mono HB.size); clear ho hb)
    | (go_at_call 121; refine (plain_c _ _ _).mono ?_; rintro e w' ⟨v, rfl, ho, hb⟩; obtain ⟨A, c, rfl⟩ := own_slice ho; replace HP := HP.push hb ho HB.size; replace HA := HA.below hb; replace HB := HB.trans (hb.mono HB.size); clear ho hb)
    | (go_at_call 119; refine (imm_c _ _ _).mono ?_; rintro e w' ⟨v, rfl, ho, hb⟩; obtain ⟨A, c, rfl⟩ := own_slice ho; replace HP := HP.push hb ho HB.size; replace HA := HA.below hb; replace HB := HB.trans (hb.mono HB.size); clear ho hb)
    | (go_at_call 122; refine (rel_c _ _).mono ?_; rintro e w' ⟨v, rfl, ho, hb⟩; obtain ⟨A, c, rfl⟩ := own_slice ho; replace HP := HP.push hb ho HB.size; replace HA := HA.below hb; replace HB := HB.trans (hb.mono HB.size); clear ho hb)
    | (go_at_call 114; refine (row_c _ _ _ _ _ _ rfl _ ?_ ?_ _ (HP.rows _)).mono ?_; rotate_left 2; rintro e w' ⟨cs, rfl, ⟨u, rfl, hu⟩, hb⟩; replace HA := (HA.below (below_alloc1 _ _)).push hb hu (by have := HB.size; simp; omega); replace HB := (HB.trans ((below_alloc1 _ _).mono HB.size)).trans (hb.mono (by have := HB.size; simp; omega)); replace HP := Pend.nil w' w.heap.size; clear hu hb)
    | (refine wpList_table rfl _ rfl HA HB.size rfl ?_ ?_ ?_; rotate_left 2; intro C HT))
  · go_ret
    exact ⟨_, rfl, HT, HB.alloc HB.size _⟩
  all_goals first | rfl | (simp [flen]; done) | ((repeat' apply And.intro) <;> rfl)

end Go.Proofs.YtapjlmehfbnaoaaDoor
