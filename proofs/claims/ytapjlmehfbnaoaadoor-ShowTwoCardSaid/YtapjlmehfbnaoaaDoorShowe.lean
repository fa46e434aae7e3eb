/- Layer 22: stores. Conditions: the table of powers of ten is laid; registers below 100. -/
import Derived.Test.YtapjlmehfbnaoaaDoorShowd
namespace Go.Proofs.YtapjlmehfbnaoaaDoor
open Go Go.RowKit Go.Proofs
open Go.Lib (hid)

theorem placeP_len (i : Ins) (hi : i.ok) (hs : i.s < 100) : (placeP i).length ≤ 40 := by
  have h1 := wordP_len i.op
  have h2 := dec_len i.s.toNat (by have := hi.s; omega)
  have h3 := immP_len i hi
  simp [placeP]
  omega
def storeP (i : Ins) : List UInt8 := placeP i ++ [32, 61, 32] ++ (114 :: Lib.decDigits i.t.toNat) ++ (if i.nw then [46, 110, 101, 119] else [])

set_option maxHeartbeats 8000000 in
set_option maxRecDepth 100000 in
theorem store_c (i : Ins) (hi : i.ok) (hs : i.s < 100) (ht : i.t < 100) (w : World) (hp : Pow w) : Calls Tryd.prog 51 #[.agg #[.int .u8 i.op, .int .u8 i.d, .int .u8 i.s, .int .u8 i.t, .int .u8 i.n, .int .u8 i.pred, .int .u8 i.mode, .bool i.nw, .bool i.ext, .int .u16 i.count, .int .i64 i.imm]] w fun e w' => e = .returned (.string ⟨(storeP i).toArray⟩) ∧ Below w.heap.size w w' := by
  have HPl := hid (place_c i hi hs)
  have HR := hid (reg_c i.t hi.t.1 ht)
  have HP := hid hp
  have hl1 := placeP_len i hi hs
  have hl2 := dec_len i.t.toNat (by have := hi.t; omega)
  clear hi hs ht hp
  go_enter Tryd.func51, Tryd.ntmps51
  go_wp2_with fail
  have hS0 : ∀ o, (w.alloc (.cells #[.int .u8 i.op, .int .u8 i.d, .int .u8 i.s, .int .u8 i.t, .int .u8 i.n, .int .u8 i.pred, .int .u8 i.mode, .bool i.nw, .bool i.ext, .int .u16 i.count, .int .i64 i.imm] 24)).drew.cell? ⟨w.heap.size, o, none⟩ = ([.int .u8 i.op, .int .u8 i.d, .int .u8 i.s, .int .u8 i.t, .int .u8 i.n, .int .u8 i.pred, .int .u8 i.mode, .bool i.nw, .bool i.ext, .int .u16 i.count, .int .i64 i.imm] : List Value)[o]? := (block_cells (l := [.int .u8 i.op, .int .u8 i.d, .int .u8 i.s, .int .u8 i.t, .int .u8 i.n, .int .u8 i.pred, .int .u8 i.mode, .bool i.nw, .bool i.ext, .int .u16 i.count, .int .i64 i.imm]) (heap_alloc_new w _)).1
  refine wp_region_plan rfl [(true, 0), (true, 3), (true, 4), (false, 1), (true, 2), (false, 5), (true, 6), (true, 7)] (by kernel_rfl) ?_ (fun W => ∀ o, W.cell? ⟨w.heap.size, o, none⟩ = ([.int .u8 i.op, .int .u8 i.d, .int .u8 i.s, .int .u8 i.t, .int .u8 i.n, .int .u8 i.pred, .int .u8 i.mode, .bool i.nw, .bool i.ext, .int .u16 i.count, .int .i64 i.imm] : List Value)[o]?) hS0 ?_
  · intro d v c a w h
    cases d <;> exact h
  repeat (refine plan_q rfl rfl (fun W hW => by go_simp; first | exact rfl | (rw [if_neg (by omega)]; done) | (rw [if_neg (by simp; omega)]; done)) ?_)
  refine plan_l rfl rfl ?_
  go_simp
  refine (HPl.out _ (HP.out.below ((below_alloc1 w _).drew))).mono ?_
  rintro e w1 ⟨rfl, hb1⟩
  have hS1 : ∀ o, w1.cell? ⟨w.heap.size, o, none⟩ = ([.int .u8 i.op, .int .u8 i.d, .int .u8 i.s, .int .u8 i.t, .int .u8 i.n, .int .u8 i.pred, .int .u8 i.mode, .bool i.nw, .bool i.ext, .int .u16 i.count, .int .i64 i.imm] : List Value)[o]? := fun o => ((bcell hb1).1 _ o (by simp)).trans (hS0 o)
  refine ⟨_, hS1, fun W h => h, ?_⟩
  repeat (refine plan_q rfl rfl (fun W hW => by go_simp; first | exact rfl | (rw [if_neg (by omega)]; done) | (rw [if_neg (by simp; omega)]; done)) ?_)
  refine plan_l rfl rfl ?_
  go_simp
  refine (HR.out _).mono ?_
  rintro e w2 ⟨rfl, rfl⟩
  refine ⟨_, hS1, fun W h => h, ?_⟩
  repeat (refine plan_q rfl rfl (fun W hW => by go_simp; first | exact rfl | (rw [if_neg (by omega)]; done) | (rw [if_neg (by simp; omega)]; done)) ?_)
  unfold wpPlan
  go_wp2
  all_goals
    go_ret
    refine ⟨ret_str (bytes_eq ?_), ((below_alloc1 w _).drew).trans (hb1.mono (by simp))⟩
    simp [storeP, data_app, *]
end Go.Proofs.YtapjlmehfbnaoaaDoor
