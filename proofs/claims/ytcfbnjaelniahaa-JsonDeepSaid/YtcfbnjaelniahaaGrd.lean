/-
  Laws of my own: a whole struct is loaded from where it reads.
-/
import Derived.Test.YtcfbnjaelniahaaBox
import Derived.Laws.Rows
namespace Go.Proofs.Ytcfbnjaelniahaa
set_option linter.unusedSimpArgs false
set_option linter.unusedVariables false
open Go.RowKit
section
variable {P : Program} {w : World} {ops : Array Oper} {rest : List Oper} {o : Oper} {a : Act} {Q : Exit → Act → World → Prop}
/-- a struct that reads at an address -/
theorem run_loadVar_rd {ty : TypeId} {p : Addr} {r : List Value} {d : TypeDesc} (hr : ∀ j u, r[j]? = some u → w.cell? (p.add j) = some u)
    (hu : P.underlying ty = some d) (hd : (match d with | .struct _ | .array _ _ => true | _ => false) = true) (hi : (P.info? ty).map (·.size) = some r.length) :
    (loadVar ty p).run P w = .ok (.agg r.toArray) w := by
  have hl : (loadCells p r.length).run P w = .ok r.toArray w := run_loadCells_list (P := P) w p r hr
  cases hq : P.info? ty with
  | none => simp [hq] at hi
  | some i =>
    have hs : i.size = r.length := by simpa [hq] using hi
    have hagg : (isAgg ty).run P w = .ok true w := by
      unfold isAgg
      rw [Sem.run_bind, run_underlying hu w]
      cases d <;> simp_all
    simp [loadVar, Sem.run_bind, hagg, sizeOf, typeInfo, hq, hs, hl]
theorem wpList_get_rd {ty : TypeId} {x : Operand} {p : Addr} {r : List Value} {d : TypeDesc} (hr : ∀ j u, r[j]? = some u → w.cell? (p.add j) = some u)
    (hgd : o.guard = none) (ho : o.op = .load ty x) (hx : a.eval x = .pointer (some p))
    (hu : P.underlying ty = some d) (hd : (match d with | .struct _ | .array _ _ => true | _ => false) = true) (hi : (P.info? ty).map (·.size) = some r.length)
    (h : wpList P ops Q rest (a.put o.dst (.agg r.toArray)) w) : wpList P ops Q (o :: rest) a w := by
  refine wpList_plain hgd fun K hK => ?_
  have hl := run_loadVar_rd (P := P) (w := w) hr hu hd hi
  unfold Oper.wp execOp
  simp only [ho, hx, Instr.loadAt, Instr.sureAddr, Sem.run_bind, Sem.run_pure, Result.andThen_ok, hl]
  exact hK _ _ h
end
theorem box_low9 {u u' : World} {o : Obj} (hw : Wrote u.heap.size (u.alloc o) u') : Below u.heap.size u u' :=
  hw.below ((Below.refl _ u).alloc (Nat.le_refl _) o) (Nat.le_refl _) (by simp)
end Go.Proofs.Ytcfbnjaelniahaa
