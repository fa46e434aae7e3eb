/- Numbers by base 16: strconv.FormatInt(n, 16). Conditions: 0 ≤ n < 2^32; the library's table is laid. -/
import Derived.Test.YtapjlmehfbnaoaaDoorShowb
import Derived.Test.YtapjlmehfbnaoaaDoorSt
import Derived.Laws.IdiomStrings
import Derived.Outline
import Derived.Laws.BitsAllLaws
import Derived.LoopTactic
namespace Go.Proofs.YtapjlmehfbnaoaaDoor
open Go Go.RowKit Go.Proofs
open Go.Lib (hid)

/-- The library's table for counting noughts is laid. -/
def bruTab : List Int := [0, 1, 56, 2, 57, 49, 28, 3, 61, 58, 42, 50, 38, 29, 17, 4, 62, 47, 59, 36, 45, 43, 51, 22, 53, 39, 33, 30, 24, 18, 12, 5, 63, 55, 48, 27, 60, 41, 37, 16, 46, 35, 44, 21, 52, 32, 23, 11, 54, 26, 40, 15, 34, 20, 31, 10, 25, 14, 19, 9, 13, 8, 7, 6]
def Bru (w : World) : Prop := Lib.TabIs Tryd.prog w "math/bits.deBruijn64tab" .u8 bruTab
theorem Bru.below {w w' : World} (h : Bru w) (hb : Below w.heap.size w w') : Bru w' := Lib.tabBelow_of_tabIs h w' hb

def hexDigit (n : Nat) : UInt8 := if n < 10 then UInt8.ofNat (48 + n) else UInt8.ofNat (87 + n)
def hexL (n : Nat) : List UInt8 := if n < 16 then [hexDigit n] else hexL (n / 16) ++ [hexDigit (n % 16)]
  decreasing_by omega
theorem hexL_small (n : Nat) (h : n < 16) : hexL n = [hexDigit n] := by rw [hexL, if_pos h]
theorem hexL_step (n : Nat) (h : 16 ≤ n) : hexL n = hexL (n / 16) ++ [hexDigit (n % 16)] := by rw [hexL, if_neg (by omega)]
theorem hexL_pos (n : Nat) : 1 ≤ (hexL n).length := by
  rw [hexL]
  split
  · simp
  · simp
theorem hexL_len (k n : Nat) (h : n < 16 ^ (k + 1)) : (hexL n).length ≤ k + 1 := by
  induction k generalizing n with
  | zero => rw [hexL_small n (by simpa using h)]; simp
  | succ k ih =>
    by_cases h1 : n < 16
    · rw [hexL_small n h1]; simp
    · rw [hexL_step n (by omega)]
      have := ih (n / 16) (by rw [Nat.pow_succ] at h; omega)
      simp
      omega

set_option maxHeartbeats 1000000 in
theorem tz16_c (w : World) (hb : Bru w) : Calls Tryd.prog 154 #[.int .u64 16] w fun e w' => e = .returned (.int .i64 4) ∧ w' = w := by
  have hc := Lib.TabIs.cell hb (g := 5) (by kernel_rfl) 15 (by decide)
  simp only [bruTab, List.getD_cons_succ, List.getD_cons_zero] at hc
  have hw : IntKind.u64.wrap (bits BinOp.and IntKind.u64 16 (IntKind.u64.wrap (-16)) * 285870213051353865) = 4573923408821661840 := by kernel_rfl
  clear hb
  go_enter Tryd.func154, Tryd.ntmps154
  go_wp2
  go_ret
  exact ⟨rfl, rfl⟩

theorem and15 (m : Nat) (h : m < 4294967296) : bits BinOp.and IntKind.u64 m 15 = ((m % 16 : Nat) : Int) := by
  have h1 := u64_and_nat m 15 (by omega) (by decide)
  rw [show m &&& 15 = m % 16 from Nat.and_two_pow_sub_one_eq_mod m 4] at h1
  exact h1
def hexRow : ByteArray := ⟨#[48, 49, 50, 51, 52, 53, 54, 55, 56, 57, 97, 98, 99, 100, 101, 102, 103, 104, 105, 106, 107, 108, 109, 110, 111, 112, 113, 114, 115, 116, 117, 118, 119, 120, 121, 122]⟩
theorem hexRow_at (n : Nat) (h : n < 16) : hexRow.data[n]? = some (hexDigit n) := by
  have : ∀ m : Fin 16, hexRow.data[m.val]? = some (hexDigit m.val) := by decide
  exact this ⟨n, h⟩
theorem run_hex (n : Nat) (h : n < 16) (w : World) : (Instr.index 9 (.string hexRow) (.int .u64 n)).run Tryd.prog w = .ok (.int .u8 (hexDigit n).toNat) w := by
  have h1 : hexRow[n]? = some (hexDigit n) := hexRow_at n h
  simp [Instr.index, asIntOf, run_underlying Tryd.underlying9, h1, Sem.run_pure]
theorem drop_set_head (l : List Value) (i : Nat) (v : Value) (hi : i < l.length) : (l.set i v).drop i = v :: l.drop (i + 1) := by
  rw [List.drop_eq_getElem_cons (by simpa using hi), List.drop_set_of_lt (by omega)]
  simp

theorem tz16_w (w : World) (hb : Bru w) : Calls Tryd.prog 145 #[.int .u64 16] w fun e w' => e = .returned (.int .i64 4) ∧ w' = w := by
  have H := hid (tz16_c w hb)
  clear hb
  go_enter Tryd.func145, Tryd.ntmps145
  go_wp2_with (go_at_call 154; refine H.out.mono ?_; rintro e w' ⟨rfl, rfl⟩)
  go_ret
  exact ⟨rfl, rfl⟩
theorem pw16_c (w : World) : Calls Tryd.prog 144 #[.int .i64 16] w fun e w' => e = .returned (.bool true) ∧ w' = w := by
  have hand : bits BinOp.and IntKind.i64 16 15 = 0 := by kernel_rfl
  go_enter Tryd.func144, Tryd.ntmps144
  go_wp2
  go_ret
  exact ⟨rfl, rfl⟩

theorem run_sliceAt_low (w : World) (b i : Nat) (hi : i < 65) : (Instr.sliceAt 175 (.pointer (some ⟨b, 0, none⟩)) (some (.int .i64 i)) none none).run Tryd.prog w = .ok (.slice (some ⟨b, i, none⟩) (65 - i) (65 - i)) w := by
  have h3 : ¬ (65 < i) := by omega
  have h2 : ¬ (65 = i) := by omega
  simp [Instr.sliceAt, run_underlying Tryd.underlying175, Instr.sureAddr, Instr.sliceBounds, Instr.sliceBound, asIntOf, h3, h2, Sem.run_pure, go_sem]
theorem hexRow_get (n : Nat) (h : n < 16) (h' : n < hexRow.size) : hexRow[n] = hexDigit n := by
  have h2 := hexRow_at n h
  have h3 : hexRow.data[n]? = some hexRow[n] := Array.getElem?_eq_getElem h'
  exact Option.some.inj (h3.symm.trans h2)

set_option maxHeartbeats 4000000 in
set_option maxRecDepth 100000 in
theorem bits16_c (n : Nat) (hn : n < 4294967296) (w : World) (hb : Bru w) : Calls Tryd.prog 126 #[.slice none 0 0, .int .u64 n, .int .i64 16, .bool false, .bool false] w fun e w' => e = .returned (.tuple #[.slice none 0 0, .string ⟨(hexL n).toArray⟩]) ∧ Below w.heap.size w w' := by
  have HL := hid (hexL_len 7 n (by simpa using hn))
  have HB := hid hb
  have HB := fun (W : World) (h : Below w.heap.size w W) => tz16_w W (hb.below h)
  have HB := hid HB
  clear hb
  go_enter Tryd.func126, Tryd.ntmps126
  go_wp2_with (first | (go_at_call 144; refine (pw16_c _).mono ?_; rintro e w' ⟨rfl, rfl⟩) | (go_at_call 145; refine (HB.out _ (below_alloc1 w _)).mono ?_; rintro e w' ⟨rfl, rfl⟩))
  go_loopw [1, 13] (fun u i wr => ∃ (m k : Nat) (ds : List UInt8) (arr : List Value), u = .int .u64 m ∧ i = .int .i64 (65 - (k : Int)) ∧ ds.length = k ∧ Hid (hexL n = hexL m ++ ds) ∧ arr.length = 65 ∧ Hid (arr.drop (65 - k) = ds.map fun b => .int .u8 b.toNat) ∧ St [] w [blk w.heap.size arr 175] wr ∧ m < 4294967296) (fun _ i _ => (intOf i).toNat)
  case atStart => exact ⟨n, 0, [], List.replicate 65 (.int .u8 0), rfl, rfl, rfl, by simp [Hid], by simp, by simp [Hid], (St.start w).alloc _ _, hn⟩
  case round =>
    obtain ⟨m, k, ds, arr, rfl, rfl, hds, HM, hal, HD, hst, hm⟩ := hrel
    have hl1 : (hexL m).length + k ≤ 8 := by have h1 := HL.out; rw [show hexL n = _ from HM] at h1; simpa [hds] using h1
    have hl2 := hexL_pos m
    obtain ⟨hc, hf, hlt⟩ := hst.cells 0 rfl
    have HS := hid hst
    clear hst
    have hk7 : k ≤ 7 := by omega
    clear hl1 hl2
    have hds := hid hds
    have hi1 : 65 - (k : Int) - 1 = ((64 - k : Nat) : Int) := by omega
    have hi2 : ((64 - k : Nat) : Int) < 65 := by omega
    have hcell : arr[64 - k]? = some arr[64 - k] := List.getElem?_eq_getElem (by omega)
    by_cases h16 : 16 ≤ m
    · have hand := and15 m hm
      have hx := run_hex (m % 16) (by omega)
      unfold hexRow at hx
      go_wp2
      go_roundw
      case rel =>
        have hs := HS.out.setCell 0 rfl (64 - k) (.int .u8 (hexDigit (m % 16)).toNat)
        refine ⟨m / 16, k + 1, hexDigit (m % 16) :: ds, arr.set (64 - k) (.int .u8 (hexDigit (m % 16)).toNat), by simp, by congr 1; omega, by simp [hds.out], ?_, ?_, ?_, ?_, by omega⟩
        rotate_right
        · have e := hexRow_get (m % 16) (by omega) (show m % 16 < 36 by omega)
          have hs' : St [] w [blk w.heap.size (arr.set (64 - k) (.int .u8 (hexDigit (m % 16)).toNat)) 175] (wr.setCell ⟨w.heap.size, 64 - k, none⟩ (.int .u8 (hexRow[m % 16]'(show m % 16 < 36 by omega)).toNat)) := by rw [e]; exact hs
          exact hs'
        · show hexL n = _
          rw [show hexL n = _ from HM, hexL_step m h16]
          simp
        · simpa using hal
        · show List.drop (65 - (k + 1)) _ = _
          rw [show 65 - (k + 1) = 64 - k by omega, drop_set_head _ _ _ (by omega), show 64 - k + 1 = 65 - k by omega, show _ = _ from HD]
          rfl
      case measure => simp [intOf]; omega
    · have hx := run_hex m (by omega)
      unfold hexRow at hx
      have hsl := fun (W : World) => run_sliceAt_low W w.heap.size (64 - k) (by omega)
      have hs := HS.out.setCell 0 rfl (64 - k) (.int .u8 (hexDigit m).toNat)
      obtain ⟨hc2, _, _⟩ := hs.cells 0 rfl
      have HE : hexL n = hexDigit m :: ds := by rw [show hexL n = _ from HM, hexL_small m (by omega)]; rfl
      have hcv := run_convert_bytes_back (P := Tryd.prog) _ 100 9 5 ⟨w.heap.size, 64 - k, none⟩ (65 - (64 - k)) (hexL n) Tryd.underlying100 Tryd.underlying5 Tryd.underlying9 (fun j hj => (show _ = _ from by
        rw [addr_add, hc2]
        have hdr : ((arr.set (64 - k) (.int .u8 (hexDigit m).toNat)).drop (64 - k)) = (hexL n).map fun b => .int .u8 b.toNat := by
          rw [drop_set_head _ _ _ (by omega), show 64 - k + 1 = 65 - k by omega, show _ = _ from HD, HE]
          rfl
        rw [← List.getElem?_drop, hdr]
        simp [hj]))
      have hln : (hexL n).length = 65 - (64 - k) := by rw [HE]; simp [hds.out]; omega
      rw [hln] at hcv
      have HS2 := hid hs
      clear hs hc2 HE hln
      go_wp2
      go_ret2
      exact ⟨rfl, HS2.out.below⟩

theorem hex_i (n : Nat) (hn : n < 4294967296) (w : World) (hb : Bru w) : Calls Tryd.prog 86 #[.int .i64 n, .int .i64 16] w fun e w' => e = .returned (.string ⟨(hexL n).toArray⟩) ∧ Below w.heap.size w w' := by
  have H := hid (bits16_c n hn w hb)
  clear hb
  go_enter Tryd.func86, Tryd.ntmps86
  go_wp2_with (go_at_call 126; refine H.out.mono ?_; rintro e w' ⟨rfl, h⟩)
  go_ret
  exact ⟨rfl, h⟩
theorem hex_c (n : Nat) (hn : n < 4294967296) (w : World) (hb : Bru w) : Calls Tryd.prog 46 #[.int .i64 n, .int .i64 16] w fun e w' => e = .returned (.string ⟨(hexL n).toArray⟩) ∧ Below w.heap.size w w' := by
  have H := hid (hex_i n hn w hb)
  clear hb
  go_enter Tryd.func46, Tryd.ntmps46
  go_wp2_with (go_at_call 86; refine H.out.mono ?_; rintro e w' ⟨rfl, h⟩)
  go_ret
  exact ⟨rfl, h⟩
end Go.Proofs.YtapjlmehfbnaoaaDoor
