/- Map literals and look-ups at keys of a whole kind or of strings. Conditions: none. -/
import Derived.Test.YtapjlmehfbnaoaaDoorAid
import Derived.MapKept
import Derived.Maps.Keyed
namespace Go.Proofs.YtapjlmehfbnaoaaDoor
open Go Go.RowKit

def plainKey : TypeDesc → Bool
  | .int _ | .string | .bool => true
  | _ => false
theorem run_checkKey_plain {P : Program} (b : Bool) (n : Nat) (K : TypeId) (kd : TypeDesc) (hK : P.underlying K = some kd) (hp : plainKey kd = true) (v : Value) (w : World) : (Instr.checkKey b (n + 1) K v).run P w = .ok () w := by
  unfold Instr.checkKey
  cases kd <;> simp [plainKey] at hp <;> simp [run_underlying hK]
theorem run_findKey_now {P : Program} (K : TypeId) (kd : TypeDesc) (hK : P.underlying K = some kd) (k : Value) (es : List MapEntry) (r : Option (Nat × Value)) (h : Instr.findNow kd k es 0 = some r) (w : World) : (Instr.findKey K k es).run P w = .ok r w := by
  simp [Instr.findKey, run_underlying hK, h]

theorem set_push (a : Array Obj) (x y : Obj) : (a.push x).setIfInBounds a.size y = a.push y := by
  apply Array.ext_getElem?
  intro i
  rw [Array.getElem?_setIfInBounds, Array.getElem?_push, Array.getElem?_push]
  by_cases h : a.size = i
  · subst h; simp
  · rw [if_neg h, if_neg (fun e => h e.symm), if_neg (fun e => h e.symm)]
theorem set_alloc (W : World) (X Y : Obj) : ({ W.alloc X with heap := (W.alloc X).heap.setIfInBounds W.heap.size Y } : World) = W.alloc Y :=
  congrArg (fun h => ({ W with heap := h } : World)) (set_push W.heap X Y)

theorem run_insert_lit {P : Program} (W : World) (t K E : TypeId) (kd : TypeDesc) (ht : P.underlying t = some (.map K E)) (hK : P.underlying K = some kd) (hp : plainKey kd = true) (es : Array MapEntry) (c : Nat) (k v : Value) (hf : Instr.findNow kd k es.toList 0 = some none) :
    (Instr.mapUpdate t (.map (some W.heap.size)) k v).run P (W.alloc (.map es c)) = .ok () (W.alloc (.map (es.push ⟨k, v, c⟩) (c + 1))) := by
  have hh : (W.alloc (.map es c)).heap[W.heap.size]? = some (.map es c) := heap_alloc_new W _
  simp [Instr.mapUpdate, run_underlying ht, MapKept.run_getObj_map hh, run_checkKey_plain false 9999 K kd hK hp, run_findKey_now K kd hK k _ _ hf, MapKept.run_setObj_map _ hh, Result.andThen]
  exact set_alloc W _ _

theorem run_lookup_lit {P : Program} (w : World) (t K E : TypeId) (kd : TypeDesc) (ht : P.underlying t = some (.map K E)) (hK : P.underlying K = some kd) (hp : plainKey kd = true) (r : Nat) (es : Array MapEntry) (c : Nat) (hb : w.heap[r]? = some (.map es c)) (k z : Value) (hz : ∀ w, (zeroValue E).run P w = .ok z w)
    (f : Option (Nat × Value)) (hf : Instr.findNow kd k es.toList 0 = some f) (commaOk : Bool) :
    (Instr.lookup t (.map (some r)) k commaOk).run P w = .ok (if commaOk then .tuple #[(f.map (·.2)).getD z, .bool f.isSome] else (f.map (·.2)).getD z) w := by
  cases f with
  | none => cases commaOk <;> simp [Instr.lookup, run_underlying ht, MapKept.run_getObj_map hb, run_checkKey_plain es.isEmpty 9999 K kd hK hp, run_findKey_now K kd hK k _ _ hf, hz, Result.andThen]
  | some p => obtain ⟨n, v⟩ := p; cases commaOk <;> simp [Instr.lookup, run_underlying ht, MapKept.run_getObj_map hb, run_checkKey_plain es.isEmpty 9999 K kd hK hp, run_findKey_now K kd hK k _ _ hf, hz, Result.andThen]

section
variable {P : Program} {ops : Array Oper} {rest : List Oper} {o : Oper} {a : Act} {Q : Exit → Act → World → Prop}
theorem wpList_insert_lit {W : World} (hg : o.guard = none) (t K E : TypeId) (m k v : Operand) (ho : o.op = .insert t m k v) (kd : TypeDesc) (ht : P.underlying t = some (.map K E)) (hK : P.underlying K = some kd) (hp : plainKey kd = true)
    (es : Array MapEntry) (c : Nat) (kv vv : Value) (hk : a.eval k = kv) (hv : a.eval v = vv) (hm : a.eval m = .map (some W.heap.size)) (hf : Instr.findNow kd kv es.toList 0 = some none)
    (h : wpList P ops Q rest (a.put o.dst undef) (W.alloc (.map (es.push ⟨kv, vv, c⟩) (c + 1)))) : wpList P ops Q (o :: rest) a (W.alloc (.map es c)) := by
  refine wpList_plain hg fun L hL => ?_
  have hr := run_insert_lit (P := P) W t K E kd ht hK hp es c kv vv hf
  unfold Oper.wp execOp
  simp only [ho, hm, hk, hv, Sem.run_bind, hr, Result.andThen_ok]
  exact hL _ _ h
end
end Go.Proofs.YtapjlmehfbnaoaaDoor
