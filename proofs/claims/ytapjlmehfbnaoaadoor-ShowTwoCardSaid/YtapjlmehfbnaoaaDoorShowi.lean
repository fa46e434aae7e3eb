/- Layer 22: targets, instructions printed; without a function for names. Conditions: the library's tables are laid. -/
import Derived.Test.YtapjlmehfbnaoaaDoorShowh
import Derived.Test.YtapjlmehfbnaoaaDoorHex
import Derived.Test.YtapjlmehfbnaoaaDoorPuro
namespace Go.Proofs.YtapjlmehfbnaoaaDoor
open Go Go.RowKit Go.Proofs
open Go.Lib (hid)

theorem run_neq_nil (w : World) : (binOp .neq 33 .nilFunc .nilFunc).run Tryd.prog w = .ok (.bool false) w := by
  unfold binOp Op.equal Op.maxDepth
  unfold Op.equalIn
  simp [run_underlying Tryd.underlying33]
theorem run_neq_func (fn : Fn) (a b : Array Value) (w : World) : (binOp .neq 33 (.func fn a b) .nilFunc).run Tryd.prog w = .ok (.bool true) w := by
  unfold binOp Op.equal Op.maxDepth
  unfold Op.equalIn
  simp [run_underlying Tryd.underlying33]
def nameP (imm : Int) (nm : List UInt8) : List UInt8 := if nm = [] then [48, 120] ++ hexL imm.toNat else nm
def placeName (i : Ins) (nm : List UInt8) : List UInt8 := (if i.ext then [35, 35] else []) ++ nameP i.imm nm

set_option maxHeartbeats 4000000 in
set_option maxRecDepth 100000 in
theorem targetNil_c (i : Ins) (h0 : 0 ≤ i.imm) (h1 : i.imm < 4294967296) (w : World) (hb : Bru w) : Calls Tryd.prog 23 #[.agg #[.int .u8 i.op, .int .u8 i.d, .int .u8 i.s, .int .u8 i.t, .int .u8 i.n, .int .u8 i.pred, .int .u8 i.mode, .bool i.nw, .bool i.ext, .int .u16 i.count, .int .i64 i.imm], .nilFunc] w fun e w' => e = .returned (.string ⟨(placeName i []).toArray⟩) ∧ Below w.heap.size w w' := by
  have hnn : ((i.imm.toNat : Nat) : Int) = i.imm := by omega
  have HH := fun (W : World) (h : Below w.heap.size w W) => hex_c i.imm.toNat (by omega) W (hb.below h)
  rw [hnn] at HH
  have HH := hid HH
  have hl1 := hexL_len 7 i.imm.toNat (by simp; omega)
  have HST := hid ((St.start w).alloc [.int .u8 i.op, .int .u8 i.d, .int .u8 i.s, .int .u8 i.t, .int .u8 i.n, .int .u8 i.pred, .int .u8 i.mode, .bool i.nw, .bool i.ext, .int .u16 i.count, .int .i64 i.imm] 24)
  have hnq := run_neq_nil
  clear hb hnn
  go_enter Tryd.func23, Tryd.ntmps23
  go_wp2_with (first
    | (go_at_call 46; refine (HH.out _ HST.out.below).mono ?_; rintro e W ⟨rfl, hb⟩; have HST := hid (HST.out.pure hb); obtain ⟨hc0, -, hlt0⟩ := HST.out.cells 0 rfl))
  all_goals
    go_ret
    refine ⟨ret_str (bytes_eq ?_), HST.out.below⟩
    simp [placeName, nameP, *]

def showP (i : Ins) (nm : List UInt8) : List UInt8 := if rightP i then condP i ++ bareP i (if targetP i then placeName i nm else []) else []
theorem bareP_len (i : Ins) (hi : i.ok) (hd : i.d < 32) (hs : i.s < 32) (ht : i.t < 32) (hn : i.n < 2) (hp : i.pred < 4) (to : List UInt8) (h : to.length ≤ 100) : (bareP i to).length ≤ 300 := by
  have h1 := dec_len i.d.toNat (by have := hi.d; omega)
  have h2 := dec_len i.s.toNat (by have := hi.s; omega)
  have h3 := dec_len i.t.toNat (by have := hi.t; omega)
  have h4 := dec_len i.n.toNat (by have := hi.n; omega)
  have h5 := placeP_len i hi (by omega)
  have h6 := rhsP_len i hi (by omega) (by omega) (by omega)
  have h7 := Lib.itoa_length_le i.count (by have := hi.count; omega) (by have := hi.count; omega)
  unfold bareP bareG
  repeat' split
  all_goals (try unfold branchP loopP); (try unfold storeP)
  all_goals (repeat' split) <;> (try simp) <;> omega
theorem condP_len (i : Ins) (h : 0 ≤ i.pred) (hn : i.pred < 100) : (condP i).length ≤ 20 := by
  have := dec_len i.pred.toNat (by omega)
  unfold condP
  split
  · simp
  · split <;> split <;> simp <;> omega

set_option maxHeartbeats 4000000 in
set_option maxRecDepth 100000 in
theorem instNo_c (i : Ins) (hi : i.ok) (hr : rightP i = false) (fv : Value) (nm : List UInt8) (w : World) : Calls Tryd.prog 9 #[.agg #[.int .u8 i.op, .int .u8 i.d, .int .u8 i.s, .int .u8 i.t, .int .u8 i.n, .int .u8 i.pred, .int .u8 i.mode, .bool i.nw, .bool i.ext, .int .u16 i.count, .int .i64 i.imm], fv] w fun e w' => e = .returned (.string ⟨(showP i nm).toArray⟩) ∧ Below w.heap.size w w' := by
  have HR := hid (right_c i hi)
  have HT := hid (target_c i hi)
  have HST := hid ((St.start w).alloc [.int .u8 i.op, .int .u8 i.d, .int .u8 i.s, .int .u8 i.t, .int .u8 i.n, .int .u8 i.pred, .int .u8 i.mode, .bool i.nw, .bool i.ext, .int .u16 i.count, .int .i64 i.imm] 24)
  have hP : showP i nm = [] := by unfold showP; rw [hr]; rfl
  rw [hP]
  rw [hr] at HR
  clear hi hr hP HT
  go_enter Tryd.func9, Tryd.ntmps9
  go_wp2_with (first
    | (go_at_call 7; refine (HR.out _).mono ?_; rintro e W ⟨rfl, hb⟩; have HST := hid (HST.out.pure hb); obtain ⟨hc0, -, hlt0⟩ := HST.out.cells 0 rfl))
  go_ret
  exact ⟨rfl, HST.out.below⟩

set_option maxHeartbeats 4000000 in
set_option maxRecDepth 100000 in
theorem instNil_c (i : Ins) (hi : i.ok) (w : World) (hp : Pow w) (hbr : Bru w) : Calls Tryd.prog 9 #[.agg #[.int .u8 i.op, .int .u8 i.d, .int .u8 i.s, .int .u8 i.t, .int .u8 i.n, .int .u8 i.pred, .int .u8 i.mode, .bool i.nw, .bool i.ext, .int .u16 i.count, .int .i64 i.imm], .nilFunc] w fun e w' => e = .returned (.string ⟨(showP i []).toArray⟩) ∧ Below w.heap.size w w' := by
  cases hr : rightP i
  · exact instNo_c i hi hr .nilFunc [] w
  obtain ⟨b1, b2, b3, b4, b5, b6, b7, b8⟩ := right_bd i hr
  have HR := hid (right_c i hi)
  have HT := hid (target_c i hi)
  have HST := hid ((St.start w).alloc [.int .u8 i.op, .int .u8 i.d, .int .u8 i.s, .int .u8 i.t, .int .u8 i.n, .int .u8 i.pred, .int .u8 i.mode, .bool i.nw, .bool i.ext, .int .u16 i.count, .int .i64 i.imm] 24)
  rw [hr] at HR
  have HC := hid (condition_c i hi.pred.1 (by omega))
  have HX := hid (fun (h : targetP i = true) (W : World) (hb : Below w.heap.size w W) => targetNil_c i (b8 h).1 (b8 h).2.1 W (hbr.below hb))
  have HB := hid (fun (to : List UInt8) (hto : to.length ≤ 100) (W : World) (hb : Below w.heap.size w W) => bare_c i hi (by omega) (by omega) (by omega) (by omega) (by omega) to hto W (hp.below hb))
  have hl1 := condP_len i hi.pred.1 (by omega)
  have hP : showP i [] = condP i ++ bareP i (if targetP i then placeName i [] else []) := by unfold showP; rw [hr]; rfl
  have hl2 : targetP i = true → (placeName i []).length ≤ 100 := by
    intro h
    have := hexL_len 7 i.imm.toNat (by have := b8 h; simp; omega)
    unfold placeName nameP
    split <;> simp <;> omega
  rw [hP]
  have hl3 : ∀ to : List UInt8, to.length ≤ 100 → (bareP i to).length ≤ 300 := fun to h => bareP_len i hi b1 b2 b3 b4 b5 to h
  clear hi hr hP hp hbr b1 b2 b3 b4 b5 b6 b7 b8
  cases ht : targetP i
  · rw [ht] at HT
    have hl3 := hl3 [] (by simp)
    clear hl2
    go_enter Tryd.func9, Tryd.ntmps9
    go_wp2_with (first
      | (go_at_call 7; refine (HR.out _).mono ?_; rintro e W ⟨rfl, hb⟩; have HST := hid (HST.out.pure hb); obtain ⟨hc0, -, hlt0⟩ := HST.out.cells 0 rfl)
      | (go_at_call 22; refine (HT.out _).mono ?_; rintro e W ⟨rfl, hb⟩; have HST := hid (HST.out.pure hb); obtain ⟨hc0, -, hlt0⟩ := HST.out.cells 0 rfl))
    refine wp_plan_st rfl [(true, 0), (true, 2), (true, 3), (false, 1), (false, 4), (true, 5), (true, 6)] HST.out (by kernel_rfl) (fun d v c a w h => by cases d <;> exact h) (fun hst => ?_)
    repeat (refine plan_q rfl rfl (fun W hW => by obtain ⟨hc0, -, -⟩ := St.cells hW 0 rfl; clear hW; go_simp; first | (rw [if_neg (by simp; omega)]; done) | (rw [if_neg (by omega)]; done) | (with_reducible exact rfl)) ?_)
    refine plan_lst rfl rfl ?_
    go_simp
    refine (HC.out _).mono ?_
    rintro e Wn ⟨rfl, hb⟩
    have hst := hst.pure hb
    refine ⟨[], hst, ?_⟩
    repeat (refine plan_q rfl rfl (fun W hW => by obtain ⟨hc0, -, -⟩ := St.cells hW 0 rfl; clear hW; go_simp; first | (rw [if_neg (by simp; omega)]; done) | (rw [if_neg (by omega)]; done) | (with_reducible exact rfl)) ?_)
    refine plan_lst rfl rfl ?_
    go_simp
    refine (HB.out [] (by simp) _ hst.below).mono ?_
    rintro e Wn ⟨rfl, hb⟩
    have hst := hst.pure hb
    refine ⟨[], hst, ?_⟩
    repeat (refine plan_q rfl rfl (fun W hW => by obtain ⟨hc0, -, -⟩ := St.cells hW 0 rfl; clear hW; go_simp; first | (rw [if_neg (by simp; omega)]; done) | (rw [if_neg (by omega)]; done) | (with_reducible exact rfl)) ?_)
    unfold wpPlan
    have HST := hid hst
    clear hst
    go_simp
    go_wp2
    go_ret
    refine ⟨ret_str (bytes_eq ?_), HST.out.below⟩
    simp
  · rw [ht] at HT
    have hl2 := hl2 ht
    have hl3 := hl3 _ hl2
    have HX := hid (HX.out ht)
    have HL := hid hl2
    go_enter Tryd.func9, Tryd.ntmps9
    go_wp2_with (first
      | (go_at_call 7; refine (HR.out _).mono ?_; rintro e W ⟨rfl, hb⟩; have HST := hid (HST.out.pure hb); obtain ⟨hc0, -, hlt0⟩ := HST.out.cells 0 rfl)
      | (go_at_call 22; refine (HT.out _).mono ?_; rintro e W ⟨rfl, hb⟩; have HST := hid (HST.out.pure hb); obtain ⟨hc0, -, hlt0⟩ := HST.out.cells 0 rfl)
      | (go_at_call 23; refine (HX.out _ HST.out.below).mono ?_; rintro e W ⟨rfl, hb⟩; have HST := hid (HST.out.pure hb); obtain ⟨hc0, -, hlt0⟩ := HST.out.cells 0 rfl))
    refine wp_plan_st rfl [(true, 0), (true, 2), (true, 3), (false, 1), (false, 4), (true, 5), (true, 6)] HST.out (by kernel_rfl) (fun d v c a w h => by cases d <;> exact h) (fun hst => ?_)
    repeat (refine plan_q rfl rfl (fun W hW => by obtain ⟨hc0, -, -⟩ := St.cells hW 0 rfl; clear hW; go_simp; first | (rw [if_neg (by simp; omega)]; done) | (rw [if_neg (by omega)]; done) | (with_reducible exact rfl)) ?_)
    refine plan_lst rfl rfl ?_
    go_simp
    refine (HC.out _).mono ?_
    rintro e Wn ⟨rfl, hb⟩
    have hst := hst.pure hb
    refine ⟨[], hst, ?_⟩
    repeat (refine plan_q rfl rfl (fun W hW => by obtain ⟨hc0, -, -⟩ := St.cells hW 0 rfl; clear hW; go_simp; first | (rw [if_neg (by simp; omega)]; done) | (rw [if_neg (by omega)]; done) | (with_reducible exact rfl)) ?_)
    refine plan_lst rfl rfl ?_
    go_simp
    refine (HB.out _ HL.out _ hst.below).mono ?_
    rintro e Wn ⟨rfl, hb⟩
    have hst := hst.pure hb
    refine ⟨[], hst, ?_⟩
    repeat (refine plan_q rfl rfl (fun W hW => by obtain ⟨hc0, -, -⟩ := St.cells hW 0 rfl; clear hW; go_simp; first | (rw [if_neg (by simp; omega)]; done) | (rw [if_neg (by omega)]; done) | (with_reducible exact rfl)) ?_)
    unfold wpPlan
    have HST := hid hst
    clear hst
    go_simp
    go_wp2
    go_ret
    refine ⟨ret_str (bytes_eq ?_), HST.out.below⟩
    simp
end Go.Proofs.YtapjlmehfbnaoaaDoor
