/- isa.At: the first field of a kind, and where it lies. Conditions: op and kind are bytes. -/
import Derived.Test.YtapjlmehfbnaoaaDoorIsf
namespace Go.Proofs.YtapjlmehfbnaoaaDoor
open Go Go.RowKit Go.Proofs
open Go.Lib (hid)

/-- The first field of a kind, from a place down. -/
def atGo (kind : Int) : List Fld → Int → Option (Fld × Int)
  | [], _ => none
  | f :: l, p => if f.kind = kind then some (f, p - f.bits) else atGo kind l (p - f.bits)
def atP (op kind : Int) : Option (Fld × Int) := atGo kind (rowD op).flds 24
def noFld : Fld := ⟨0, 0, 0, false, false⟩

theorem flds_bits (op : Int) : ∀ f ∈ (rowD op).flds, 0 ≤ f.bits ∧ f.bits ≤ 32 := by
  by_cases h : 1 ≤ op ∧ op ≤ 31
  · unfold rowD rowOf
    rw [if_pos h]
    have hlt : (op - 1).toNat < tableP.length := by rw [table_len]; omega
    rw [List.getElem?_eq_getElem hlt]
    have : ∀ r ∈ tableP, ∀ f ∈ r.flds, 0 ≤ f.bits ∧ f.bits ≤ 32 := by decide
    exact this _ (List.getElem_mem hlt)
  · rw [rowD_none op h]; intro f hf; cases hf

theorem fcells_get (l : List Fld) (k : Nat) (hk : k < l.length) (j : Nat) (hj : j < 5) : (fcells l)[k * 5 + j]? = (l[k].cells)[j]? := by
  induction l generalizing k with
  | nil => simp at hk
  | cons f l ih =>
    have hf : fcells (f :: l) = f.cells ++ fcells l := by simp [fcells]
    rw [hf]
    have h5 : f.cells.length = 5 := rfl
    cases k with
    | zero => rw [Nat.zero_mul, Nat.zero_add, List.getElem?_append_left (by omega)]; rfl
    | succ k =>
      rw [List.getElem?_append_right (by omega), h5, show (k + 1) * 5 + j - 5 = k * 5 + j by omega, ih k (by simpa using hk)]
      rfl

theorem Rd.fld {w : World} {lo : Nat} {A : Option Addr} {c : Nat} {l : List Fld} (h : Rd w lo 5 (.slice A l.length c) l.length (fcells l)) (h0 : 0 < l.length) : ∃ b off, A = some ⟨b, off, none⟩ ∧ lo ≤ b ∧ b < w.heap.size ∧ ∀ k (hk : k < l.length),
    w.cell? ⟨b, off + k * 5, none⟩ = some (.int .u8 l[k].kind) ∧ w.cell? ⟨b, off + k * 5 + 1, none⟩ = some (.int .i64 l[k].bits) ∧ w.cell? ⟨b, off + k * 5 + 2, none⟩ = some (.int .i64 l[k].shift) ∧
    w.cell? ⟨b, off + k * 5 + 3, none⟩ = some (.bool l[k].sg) ∧ w.cell? ⟨b, off + k * 5 + 4, none⟩ = some (.bool l[k].ext) := by
  obtain ⟨_, a, cap, hv, _, _, _, hc⟩ := h
  obtain ⟨b, off, rfl, hlo, hbs, hcell⟩ := hc h0
  cases hv
  refine ⟨b, off, rfl, hlo, hbs, fun k hk => ?_⟩
  have g := fun j (hj : j < 5) u (hu : (l[k].cells)[j]? = some u) => hcell (k * 5 + j) u ((fcells_get l k hk j hj).trans hu)
  exact ⟨g 0 (by omega) _ rfl, g 1 (by omega) _ rfl, g 2 (by omega) _ rfl, g 3 (by omega) _ rfl, g 4 (by omega) _ rfl⟩

theorem atGo_drop (kind : Int) (l : List Fld) (k : Nat) (hk : k < l.length) (p : Int) : atGo kind (l.drop k) p = if l[k].kind = kind then some (l[k], p - l[k].bits) else atGo kind (l.drop (k + 1)) (p - l[k].bits) := by
  rw [List.drop_eq_getElem_cons hk]
  rfl

def atV (r : Option (Fld × Int)) : Fld := match r with | some (f, _) => f | none => noFld
def atN (r : Option (Fld × Int)) : Int := match r with | some (_, p) => p | none => 0

set_option maxHeartbeats 4000000 in
theorem at_c (op kind : Int) (h0 : 0 ≤ op) (h1 : op ≤ 255) (w : World) : Calls Tryd.prog 85 #[.int .u8 op, .int .u8 kind] w fun e w' => e = .returned (.tuple #[.agg #[.int .u8 (atV (atP op kind)).kind, .int .i64 (atV (atP op kind)).bits, .int .i64 (atV (atP op kind)).shift, .bool (atV (atP op kind)).sg, .bool (atV (atP op kind)).ext], .int .i64 (atN (atP op kind)), .bool (atP op kind).isSome]) ∧ Below w.heap.size w w' := by
  unfold atP
  have hl := rowD_flds op
  have hbt := flds_bits op
  have F := find_c op h0 h1
  generalize rowD op = r at hl hbt F
  have HF := hid F
  have HL := hid hl
  have HT := hid hbt
  clear F hl hbt
  go_enter Tryd.func85, Tryd.ntmps85
  go_wp2_with (go_at_call 42; refine (HF.out _).mono ?_; rintro e w1 ⟨A, c, rfl, hr, hb1⟩; obtain ⟨hc, hz⟩ := bcell hb1; have hs1 := hb1.size; simp only [heap_size_alloc] at hs1 hr; have hs3 : w.heap.size < w1.heap.size := (by omega); have HR := hid hr; clear hr)
  go_loopw [5, 19] (fun p i wr => ∃ (k : Nat) (q : Int), k ≤ r.flds.length ∧ i = .int .i64 k ∧ p = .int .i64 q ∧ 24 - 32 * (k : Int) ≤ q ∧ q ≤ 24 ∧ Hid (atGo kind r.flds 24 = atGo kind (r.flds.drop k) q) ∧ Below w1.heap.size w1 wr) (fun _ i _ => r.flds.length - (intOf i).toNat)
  case atStart => exact ⟨0, 24, by omega, rfl, rfl, by omega, by omega, rfl, below_alloc1 _ _⟩
  case round =>
    obtain ⟨k, q, hk, rfl, rfl, hq1, hq2, HG, hbw⟩ := hrel
    obtain ⟨hc2, hz2⟩ := bcell hbw
    have hs2 := hbw.size
    have hs4 : w.heap.size < wr.heap.size := by omega
    have hl5 := HL.out
    by_cases hlt : k < r.flds.length
    · obtain ⟨b, off, rfl, hlo, hbs, hf⟩ := HR.out.fld (by omega)
      obtain ⟨f0, f1, f2, f3, f4⟩ := hf k hlt
      have hbt := HT.out _ (List.getElem_mem hlt)
      have hgd := atGo_drop kind r.flds k hlt q
      rw [← show _ = _ from HG] at hgd
      have hs5 : b < wr.heap.size := by omega
      have hs6 : ¬ (b = w.heap.size) := by omega
      generalize hfe : r.flds[k] = f at f0 f1 f2 f3 f4 hbt hgd
      clear hf hfe
      have HD := hid hgd
      clear hgd
      obtain ⟨hb3, hb4⟩ := hbt
      by_cases hkk : f.kind = kind
      · have hkb : (f.kind == kind) = true := by simpa using hkk
        have HK := hid hkk
        clear hkk
        go_wp2
        rw [show atGo kind r.flds 24 = some (f, q - f.bits) from by have := HD.out; rw [if_pos HK.out] at this; exact this]
        refine bodyPost_ret (v := .tuple #[.agg #[.int .u8 f.kind, .int .i64 f.bits, .int .i64 f.shift, .bool f.sg, .bool f.ext], .int .i64 (q - f.bits), .bool true]) (by simp [results, Tryd.results85, go_sem, hc2, hc, hs3, hs4]) rfl ⟨rfl, ?_⟩
        have k1 := ((below_alloc1 w _).trans (hb1.mono (by simp))).trans (hbw.mono (Nat.le_of_lt hs3))
        have k2 := ((((k1.setCell (p := ⟨w.heap.size, 0, none⟩) (Nat.le_refl _) (.int .u8 f.kind)).setCell (p := ⟨w.heap.size, 1, none⟩) (Nat.le_refl _) (.int .i64 f.bits)).setCell (p := ⟨w.heap.size, 2, none⟩) (Nat.le_refl _) (.int .i64 f.shift)).setCell (p := ⟨w.heap.size, 3, none⟩) (Nat.le_refl _) (.bool f.sg)).setCell (p := ⟨w.heap.size, 4, none⟩) (Nat.le_refl _) (.bool f.ext)
        exact k2.alloc k2.size _
      · have hkb : (f.kind == kind) = false := by simpa using hkk
        have HK := hid hkk
        clear hkk
        go_wp2
        go_roundw
        case rel => exact ⟨k + 1, q - f.bits, by omega, by go_num, rfl, by omega, by omega, by have := HD.out; rw [if_neg HK.out] at this; exact this, hbw.alloc hs2 _⟩
        case measure => simp [intOf]; omega
    · obtain rfl : k = r.flds.length := by omega
      go_wp2
      have hg : atGo kind r.flds 24 = none := by
        have h : atGo kind r.flds 24 = atGo kind (r.flds.drop r.flds.length) q := HG
        rw [h, List.drop_length]
        rfl
      rw [hg]
      refine bodyPost_ret (v := .tuple #[.agg #[.int .u8 0, .int .i64 0, .int .i64 0, .bool false, .bool false], .int .i64 0, .bool false]) (by simp [results, Tryd.results85, go_sem, hc2, hc, hs3]) rfl ⟨rfl, ?_⟩
      have k1 := ((below_alloc1 w _).trans (hb1.mono (by simp))).trans (hbw.mono (Nat.le_of_lt hs3))
      exact ((((k1.setCell (Nat.le_refl _) _).setCell (Nat.le_refl _) _).setCell (Nat.le_refl _) _).setCell (Nat.le_refl _) _).setCell (Nat.le_refl _) _
end Go.Proofs.YtapjlmehfbnaoaaDoor
