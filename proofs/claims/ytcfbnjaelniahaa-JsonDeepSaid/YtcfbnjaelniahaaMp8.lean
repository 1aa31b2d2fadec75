/-
  Laws of my own: a map keyed by bytes that is laid entry by entry, and looked up.
-/
import Derived.Test.YtcfbnjaelniahaaBox
import Derived.Test.YtcfbnjaelniahaaProg
import Derived.MapKept
namespace Go.Proofs.Ytcfbnjaelniahaa
set_option linter.unusedSimpArgs false
set_option linter.unusedVariables false
open Go.RowKit

/-- block g is this map -/
def MapB (w : World) (g : Nat) (es : Array MapEntry) : Prop := w.heap[g]? = some (.map es es.size)
theorem MapB.lt {w : World} {g : Nat} {es : Array MapEntry} (h : MapB w g es) : g < w.heap.size := (Array.getElem?_eq_some_iff.1 h).1
theorem MapB.new (w : World) : MapB (w.alloc (.map #[] 0)) w.heap.size #[] := heap_alloc_new w _
section
variable {P : Program} {w : World} {ops : Array Oper} {rest : List Oper} {o : Oper} {a : Act} {Q : Exit → Act → World → Prop}
theorem run_insert8 {t k e : TypeId} {g : Nat} {es : Array MapEntry} {x : Int} {v : Value} (ht : P.underlying t = some (.map k e)) (hk : P.underlying k = some (.int .u8)) (hm : MapB w g es) (hf : Instr.findNow (.int .u8) (.int .u8 x) es.toList 0 = some none) :
    ∃ w', (Instr.mapUpdate t (.map (some g)) (.int .u8 x) v).run P w = .ok () w' ∧ MapB w' g (es.push ⟨.int .u8 x, v, es.size⟩) ∧ w.grownBy w' (some g) := by
  unfold MapB at hm
  have hlt : g < w.heap.size := (Array.getElem?_eq_some_iff.1 hm).1
  have hc : (Instr.checkKey false 10000 k (.int .u8 x)).run P w = .ok () w := MapKept.run_checkKey (k := .int .u8 x) hk (by simp [MapKept.IsKey]) false 9999
  refine ⟨{ w with heap := w.heap.setIfInBounds g (.map (es.push ⟨.int .u8 x, v, es.size⟩) (es.size + 1)) }, ?_, ?_, ?_⟩
  · simp [Instr.mapUpdate, run_underlying ht, MapKept.run_getObj_map hm, hc, MapKept.run_findKey hk hf, MapKept.run_setObj_map _ hm, Result.andThen]
  · unfold MapB
    simp [hlt]
  · refine ⟨rfl, rfl, rfl, by simp, fun i hi hne => ?_⟩
    have : g ≠ i := fun h => hne (by rw [h])
    simp [this]
theorem wpList_insert8 {t k e : TypeId} {g : Nat} {es : Array MapEntry} {x : Int} {v : Value} {om ok ov : Operand} (ht : P.underlying t = some (.map k e)) (hk : P.underlying k = some (.int .u8)) (hgd : o.guard = none) (ho : o.op = .insert t om ok ov)
    (hom : a.eval om = .map (some g)) (hok : a.eval ok = .int .u8 x) (hov : a.eval ov = v) (hm : MapB w g es) (hf : Instr.findNow (.int .u8) (.int .u8 x) es.toList 0 = some none)
    (h : ∀ w', MapB w' g (es.push ⟨.int .u8 x, v, es.size⟩) → w.grownBy w' (some g) → wpList P ops Q rest (a.put o.dst undef) w') : wpList P ops Q (o :: rest) a w := by
  refine wpList_plain hgd fun K hK => ?_
  obtain ⟨w', hr, h1, h2⟩ := run_insert8 (P := P) (v := v) ht hk hm hf
  unfold Oper.wp
  simp [execOp, ho, hom, hok, hov, hr, Result.andThen]
  exact hK _ _ (h w' h1 h2)
/-- what a look-up finds -/
def found8 (z : Value) : Option (Nat × Value) → Value × Bool
  | some (_, v) => (v, true)
  | none => (z, false)
theorem run_lookup8 {t k e : TypeId} {g : Nat} {es : Array MapEntry} {x : Int} {z : Value} {r : Option (Nat × Value)} (c : Bool) (ht : P.underlying t = some (.map k e)) (hk : P.underlying k = some (.int .u8)) (hm : MapB w g es) (hf : Instr.findNow (.int .u8) (.int .u8 x) es.toList 0 = some r)
    (hz : (zeroValue e).run P w = .ok z w) : (Instr.lookup t (.map (some g)) (.int .u8 x) c).run P w = .ok (if c then .tuple #[(found8 z r).1, .bool (found8 z r).2] else (found8 z r).1) w := by
  unfold MapB at hm
  have hc : (Instr.checkKey es.isEmpty 10000 k (.int .u8 x)).run P w = .ok () w := MapKept.run_checkKey (k := .int .u8 x) hk (by simp [MapKept.IsKey]) _ 9999
  cases r with
  | none => cases c <;> simp [Instr.lookup, run_underlying ht, MapKept.run_getObj_map hm, hc, MapKept.run_findKey hk hf, hz, Result.andThen, found8]
  | some p => cases c <;> simp [Instr.lookup, run_underlying ht, MapKept.run_getObj_map hm, hc, MapKept.run_findKey hk hf, Result.andThen, found8]
end
end Go.Proofs.Ytcfbnjaelniahaa
