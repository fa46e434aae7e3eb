/- slices.Concat at the program's fields, a row of the table. Conditions: the lists are short. -/
import Derived.Test.YtapjlmehfbnaoaaDoorIsb
namespace Go.Proofs.YtapjlmehfbnaoaaDoor
open Go Go.RowKit Go.Proofs
open Go.Lib (hid)

/-- A slice of slices of fields. -/
def Rows2 (w : World) (lo : Nat) (v : Value) (ls : List (List Fld)) : Prop :=
  ∃ a cap, v = .slice a ls.length cap ∧ ls.length ≤ cap ∧ (0 < ls.length → ∃ b off, a = some ⟨b, off, none⟩ ∧ b < w.heap.size ∧
    ∀ i (h : i < ls.length), ∃ u, w.cell? ⟨b, off + i, none⟩ = some u ∧ Rd w lo 5 u ls[i].length (fcells ls[i]))

theorem Rows2.below {w w' : World} {lo : Nat} {v : Value} {ls : List (List Fld)} (h : Rows2 w lo v ls) (hb : Below w.heap.size w w') : Rows2 w' lo v ls := by
  obtain ⟨a, cap, hv, h1, h2⟩ := h
  refine ⟨a, cap, hv, h1, fun hn => ?_⟩
  obtain ⟨b, off, ha, hbs, hc⟩ := h2 hn
  refine ⟨b, off, ha, Nat.lt_of_lt_of_le hbs hb.size, fun i hi => ?_⟩
  obtain ⟨u, hu, hr⟩ := hc i hi
  exact ⟨u, by rw [hb.cell (p := ⟨b, off + i, none⟩) hbs]; exact hu, hr.below hb⟩
theorem below_alloc1 (w : World) (o : Obj) : Below w.heap.size w (w.alloc o) := (Below.refl _ _).alloc (Nat.le_refl _) o
theorem heap_size_alloc (w : World) (o : Obj) : (w.alloc o).heap.size = w.heap.size + 1 := by simp
def flen (ls : List (List Fld)) : Nat := ls.flatten.length
theorem flat_snoc (ls : List (List Fld)) (k : Nat) (h : k < ls.length) : (ls.take (k + 1)).flatten = (ls.take k).flatten ++ ls[k] := by
  rw [List.take_succ_eq_append_getElem h, List.flatten_append, List.flatten_singleton]
theorem flen_snoc (ls : List (List Fld)) (k : Nat) (h : k < ls.length) : flen (ls.take (k + 1)) = flen (ls.take k) + ls[k].length := by
  unfold flen
  rw [flat_snoc ls k h, List.length_append]
theorem flen_le (ls : List (List Fld)) (k : Nat) : flen (ls.take k) ≤ flen ls := by
  have h : ls.flatten = (ls.take k).flatten ++ (ls.drop k).flatten := by rw [← List.flatten_append, List.take_append_drop]
  unfold flen
  rw [h, List.length_append]
  omega

set_option maxHeartbeats 1000000 in
theorem concat_some (v : Value) (ls : List (List Fld)) (w : World) (h0 : 0 < ls.length) (hn : ls.length ≤ 1000) (hf : flen ls ≤ 1000) (lo : Nat) (hr : Rows2 w lo v ls) :
    Calls Tryd.prog 140 #[v] w fun e w' => FldsNew w w' ls.flatten e := by
  obtain ⟨a, cap, rfl, hcap, hc⟩ := hr
  obtain ⟨b, off, rfl, hb, hcell⟩ := hc h0
  have HC := hid hcell
  clear hc hcell hcap
  go_enter Tryd.func140, Tryd.ntmps140
  go_wp2
  go_loop [3, 11] (fun s i => ∃ k : Nat, k ≤ ls.length ∧ i = .int .i64 k ∧ s = .int .i64 (flen (ls.take k))) (fun _ i => ls.length - (intOf i).toNat)
  case atStart => exact ⟨0, by omega, rfl, by simp [flen]⟩
  case round =>
    obtain ⟨k, hk, rfl, rfl⟩ := hrel
    by_cases hlt : k < ls.length
    · obtain ⟨u, hu, hrd⟩ := HC.out k hlt
      have hfl := flen_le ls (k + 1)
      have hsn := flen_snoc ls k hlt
      rw [hsn] at hfl
      have HS := hid hsn
      clear hsn
      obtain ⟨_, au, cu, rfl, _, _, _, _⟩ := hrd
      go_wp2
      go_round
      case rel => exact ⟨k + 1, by omega, by go_num, by rw [HS.out]; go_num⟩
      case measure => simp [intOf]; omega
    · obtain rfl : k = ls.length := by omega
      rw [List.take_length]
      go_wp2_with (go_at_call 152; refine (grow_c _ (by omega) _).mono ?_; rintro e w1 ⟨v1, rfl, ho1, hb1⟩)
      have hs1 := hb1.size
      clear hk hlt
      go_loopw [6, 27] (fun v i wr => ∃ k : Nat, k ≤ ls.length ∧ i = .int .i64 k ∧ wr.ownsRow w.heap.size 54 5 v (flen (ls.take k)) (fcells (ls.take k).flatten) ∧ Below w.heap.size w wr) (fun _ i _ => ls.length - (intOf i).toNat)
      case atStart => exact ⟨0, by omega, rfl, by simpa [flen, fcells] using ho1, hb1⟩
      case round =>
        obtain ⟨k, hk, rfl, ho, hbw⟩ := hrel
        have hsw := hbw.size
        by_cases hlt : k < ls.length
        · obtain ⟨u, hu, hrd⟩ := HC.out k hlt
          have hrd2 := hrd.below hbw
          have hfl := flen_le ls (k + 1)
          have hsn := flen_snoc ls k hlt
          rw [hsn] at hfl
          have hu2 : wr.cell? ⟨b, off + k, none⟩ = some u := by rw [hbw.cell (p := ⟨b, off + k, none⟩) hb]; exact hu
          have HS := hid hsn
          have HF := hid hfl
          have HN := hid hf
          clear hsn hfl hf hu hrd
          have hrd3 := hrd2
          obtain ⟨_, au, cu, rfl, _, _, _, _⟩ := hrd3
          go_wp2_with (at_builtin; refine wpList_append_rd rfl _ _ _ rfl w.heap.size _ _ 5 32 Tryd.underlying48 info_fld rfl (by omega) _ _ _ rfl ho _ _ _ _ rfl hrd2 (fcells_one _) (by have := HF.out; have := HN.out; simp only [maxLen]; omega) (by have := HF.out; have := HN.out; omega) hsw ?_; intro v3 w3 ho3 hg3 _)
          go_roundw
          case rel => exact ⟨k + 1, by omega, by go_num, by rw [HS.out, flat_snoc ls k hlt, fcells_append]; exact ho3, hbw.grown hg3 hsw (own_base ho)⟩
          case measure => simp [intOf]; omega
        · obtain rfl : k = ls.length := by omega
          rw [List.take_length] at ho
          go_wp2
          go_ret
          exact ⟨_, rfl, ho, hbw⟩

set_option maxHeartbeats 1000000 in
theorem concat_nil (a : Option Addr) (cap : Nat) (w : World) :
    Calls Tryd.prog 140 #[.slice a 0 cap] w fun e w' => FldsNew w w' [] e := by
  go_enter Tryd.func140, Tryd.ntmps140
  go_wp2
  go_loop [3, 11] (fun s i => i = .int .i64 0 ∧ s = .int .i64 0) (fun _ i => 0)
  case atStart => exact ⟨rfl, rfl⟩
  case round =>
    obtain ⟨rfl, rfl⟩ := hrel
    go_wp2_with (go_at_call 152; refine (grow_c 0 (by omega) _).mono ?_; rintro e w1 ⟨v1, rfl, ho1, hb1⟩)
    go_loop [6, 27] (fun v i => i = .int .i64 0 ∧ v = v1) (fun _ i => 0)
    case atStart => exact ⟨rfl, rfl⟩
    case round =>
      obtain ⟨rfl, rfl⟩ := hrel
      go_wp2
      go_ret
      exact ⟨_, rfl, ho1, hb1⟩

theorem concat_c (v : Value) (ls : List (List Fld)) (fl : List Fld) (hfl : ls.flatten = fl) (w : World) (hn : ls.length ≤ 1000) (hf : flen ls ≤ 1000) (lo : Nat) (hr : Rows2 w lo v ls) :
    Calls Tryd.prog 140 #[v] w fun e w' => FldsNew w w' fl e := by
  subst hfl
  by_cases h0 : 0 < ls.length
  · exact concat_some v ls w h0 hn hf lo hr
  · obtain rfl : ls = [] := List.eq_nil_of_length_eq_zero (by omega)
    obtain ⟨a, cap, rfl, _⟩ := hr
    exact concat_nil a cap w

def slotsP (c : Int) : Int := if c = 1 then 15 else if c = 2 ∨ c = 5 then 12 else if c = 3 then 3 else if c = 4 then 1 else if c = 6 then 8 else 0
set_option maxHeartbeats 1000000 in
theorem slots_c (c : Int) (w : World) : Calls Tryd.prog 139 #[.int .u8 c] w fun e w' => e = .returned (.int .u8 (slotsP c)) ∧ w' = w := by
  go_enter Tryd.func139, Tryd.ntmps139
  go_wp2
  all_goals (go_ret; refine ⟨ret_int ?_, rfl⟩; simp only [beq_iff_eq, beq_eq_false_iff_ne, ne_eq] at *; unfold slotsP; (repeat' split) <;> omega)

structure RowP where
  op : Int
  name : List UInt8
  cls : Int
  flds : List Fld
def RowIs (w : World) (lo : Nat) (r : RowP) (cs : List Value) : Prop := ∃ v, cs = [.int .u8 r.op, .string ⟨r.name.toArray⟩, .int .u8 r.cls, .int .u8 (slotsP r.cls), v] ∧ Rd w lo 5 v r.flds.length (fcells r.flds)

set_option maxHeartbeats 1000000 in
theorem row_c (op c : Int) (nm : List UInt8) (v : Value) (ls : List (List Fld)) (fl : List Fld) (hfl : ls.flatten = fl) (w : World) (hn : ls.length ≤ 1000) (hf : flen ls ≤ 1000) (lo : Nat) (hr : Rows2 w lo v ls) :
    Calls Tryd.prog 114 #[.int .u8 op, .string ⟨nm.toArray⟩, .int .u8 c, v] w fun e w' => ∃ cs, e = .returned (.agg cs.toArray) ∧ RowIs w' w.heap.size ⟨op, nm, c, fl⟩ cs ∧ Below w.heap.size w w' := by
  have hR := hid (hr.below (below_alloc1 w (.cells #[.int .u8 0, .string ⟨#[]⟩, .int .u8 0, .int .u8 0, .slice none 0 0] 50)))
  have hF := hid hf
  have hN := hid hn
  have hL := hid hfl
  clear hr hf hn hfl
  go_enter Tryd.func114, Tryd.ntmps114
  go_wp2_with (first
    | (go_at_call 139; refine (slots_c _ _).mono ?_; rintro e w' ⟨rfl, rfl⟩)
    | (go_at_call 140; refine (concat_c _ ls fl hL.out _ hN.out hF.out lo hR.out).mono ?_; rintro e w1 ⟨v1, rfl, ho1, hb1⟩; obtain ⟨A1, c1, rfl⟩ := own_slice ho1; obtain ⟨hc, hz⟩ := bcell hb1; have hsz := hb1.size; simp only [World.size_alloc] at hsz))
  refine bodyPost_ret (v := .agg #[.int .u8 op, .string ⟨nm.toArray⟩, .int .u8 c, .int .u8 (slotsP c), .slice A1 fl.length c1]) (by simp [results, Tryd.results114, go_sem, hc]) rfl ⟨[_, _, _, _, _], rfl, ⟨_, rfl, ?_⟩, ?_⟩
  · simp only [heap_size_alloc] at ho1
    refine Rd.mono (lo := w.heap.size + 1) ?_ (by omega)
    exact Rd.of_own (own_setCell (own_setCell (own_setCell (own_setCell (own_setCell ho1 (Nat.lt_succ_self _) _) (Nat.lt_succ_self _) _) (Nat.lt_succ_self _) _) (Nat.lt_succ_self _) _) (Nat.lt_succ_self _) _)
  · exact (((((((below_alloc1 w _).trans (hb1.mono (by simp))).setCell (Nat.le_refl _) _).setCell (Nat.le_refl _) _).setCell (Nat.le_refl _) _).setCell (Nat.le_refl _) _).setCell (Nat.le_refl _) _)
end Go.Proofs.YtapjlmehfbnaoaaDoor
