/-
  The field's contracts once more; a struct's load behind a guard.
-/
import Derived.Test.YtbeokfpbhemcfaaSm
namespace Go.Proofs.Ytbeokfpbhemcfaa
set_option linter.unusedSimpArgs false
set_option linter.unusedVariables false
open Go.RowKit

theorem mul_c (x y : E5) (w : World) (hx : x.Ok) (hy : y.Ok) : Calls Try.prog 38 #[.agg (eV x), .agg (eV y)] w (ElemPost (mulE x y) w) := mul_any x y w hx hy
theorem add_c (x y : E5) (w : World) (hx : x.Ok) (hy : y.Ok) : Calls Try.prog 32 #[.agg (eV x), .agg (eV y)] w (ElemPost (addE x y) w) := add_any x y w (E5.Lt.mono hx (by decide)) (E5.Lt.mono hy (by decide))
theorem sub_c (x y : E5) (w : World) (hx : x.Ok) (hy : y.Ok) : Calls Try.prog 48 #[.agg (eV x), .agg (eV y)] w (ElemPost (subE x y) w) := sub_any x y w (E5.Lt.mono hx (by decide)) hy.big
def BoolPost (b : Bool) (w : World) (e : Ending) (w' : World) : Prop := e = .returned (.bool b) ∧ Below w.heap.size w w'
theorem equal_c (x y : E5) (w : World) (hx : x.Ok) (hy : y.Ok) : Calls Try.prog 47 #[.agg (eV x), .agg (eV y)] w (BoolPost (eqB x y) w) := equal_any x y w hx.big hy.big
theorem equal_t (x y : E5) (w : World) (hx : x.Ok) (hy : y.Ok) (h : eqB x y = true) : Calls Try.prog 47 #[.agg (eV x), .agg (eV y)] w (BoolPost true w) := by
  have h1 := equal_c x y w hx hy
  rw [h] at h1; exact h1
/-- a box that was laid, and what it leaves -/
theorem box_new {w0 u u' : World} {cs : Array Value} {o : Obj} (hbel : Below w0.heap.size w0 u) (hw : Wrote u.heap.size (u.alloc o) u') : Below w0.heap.size w0 u' :=
  hw.below (hbel.alloc hbel.size _) hbel.size (by simp; have := hbel.size; omega)
theorem box_keep {u u' : World} {g : Nat} {t : TypeId} {cs : Array Value} {o : Obj} (h : Blk u g t cs) (hw : Wrote u.heap.size (u.alloc o) u') : Blk u' g t cs :=
  hw.blk (h.alloc _) (Nat.ne_of_lt h.lt)
theorem rd_takeB {w : World} {B n : Nat} {A : Option Addr} {l : List UInt8} (h : Rd w B A (bytesV l)) : Rd w B A (bytesV (l.take n)) := fun i u hi => by
  refine h i u ?_
  rw [bytesV, List.getElem?_map, List.getElem?_take] at hi
  rw [bytesV, List.getElem?_map]
  split at hi
  · exact hi
  · simp at hi
section
variable {P : Program}
/-- 'x := *p', a whole struct, behind a guard that holds -/
theorem wpList_get_boxg {w : World} {ops : Array Oper} {rest : List Oper} {o : Oper} {a : Act} {Q : Exit → Act → World → Prop} {ty : TypeId} {x : Operand} {g : Nat} {cs : Array Value} {t : TypeId} {d : TypeDesc}
    (hg : Blk w g t cs) (hw : Region.wanted o (yielded ops a.tmps) = true) (ho : o.op = .load ty x) (hx : a.eval x = .pointer (some ⟨g, 0, none⟩))
    (hu : P.underlying ty = some d) (hd : (match d with | .struct _ | .array _ _ => true | _ => false) = true) (hi : (P.info? ty).map (·.size) = some cs.size)
    (h : wpList P ops Q rest (a.put o.dst (.agg cs)) w) : wpList P ops Q (o :: rest) a w := by
  refine wpList_step fun K hK => ?_
  rw [if_pos hw]
  exact wp_load_row ty x ho g hx t cs (0, 0) d hg hu hd hi (hK _ _ h)
end
theorem odd_c (x : E5) (hx : x.Ok) (u : World) : Calls Try.prog 40 #[.agg (eV x)] u (BoolPost (decide (x.val % PN % 2 = 1)) u) := by
  have h := odd_any x u hx.big
  have e : (leastE x).a % 2 = x.val % PN % 2 := by
    rw [← least_val hx.big]
    simp only [E5.val]
    omega
  rw [e] at h
  exact h
end Go.Proofs.Ytbeokfpbhemcfaa
