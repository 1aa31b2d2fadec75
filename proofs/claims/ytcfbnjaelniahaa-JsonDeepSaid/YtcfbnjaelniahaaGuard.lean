/-
  A guarded operation whose guard holds.
-/
import Derived.Test.YtcfbnjaelniahaaBox
namespace Go.Proofs.Ytcfbnjaelniahaa
set_option linter.unusedSimpArgs false
set_option linter.unusedVariables false
open Go.RowKit
section
variable {P : Program}
theorem wpList_open {w : World} {ops : Array Oper} {rest : List Oper} {o : Oper} {a : Act} {Q : Exit → Act → World → Prop}
    (hw : Region.wanted o (yielded ops a.tmps) = true) (h : wpList P ops Q ({ o with guard := none } :: rest) a w) : wpList P ops Q (o :: rest) a w := by
  have hw' : ∀ (O : Array Oper) (t : Array Value), Region.wanted { o with guard := none } (yielded O t) = true := fun O t => by simp [Region.wanted]
  simp only [wpList, hw, hw', if_true] at h ⊢
  have ha : ∀ a w, Oper.asks P { o with guard := none } a w = Oper.asks P o a w := fun a w => rfl
  rw [ha] at h
  exact h
end
end Go.Proofs.Ytcfbnjaelniahaa
