/-
  A struct stored into a part of a block; the sums of a product, row by row.
-/
import Derived.Test.YtbeokfpbhemcfaaFm
namespace Go.Proofs.Ytbeokfpbhemcfaa
set_option linter.unusedSimpArgs false
set_option linter.unusedVariables false
open Go.RowKit

section
variable {P : Program}
theorem run_store_part {w : World} {ty : TypeId} {g k n : Nat} {r cs new : Array Value} {t : TypeId} (hg : Blk w g t cs) (hi : (P.info? ty).map (·.size) = some n) (hn : r.size = n) (hfit : k + n ≤ cs.size) (h1 : ∀ v ∈ r.toList, v.oneCell' = true)
    (hnew : (cs.toList.take k ++ r.toList ++ cs.toList.drop (k + n)).toArray = new) :
    (storeVar ty ⟨g, k, none⟩ (.agg r)).run P w = .ok () (w.setRow g new) := by
  have hst := run_storeCells_at P g k t r.toList 0 cs w hg (by simp; omega) h1
  rw [Nat.add_zero, Array.length_toList, hn, hnew] at hst
  have hc : (Value.agg r).cells = r := rfl
  cases hq : P.info? ty with
  | none => simp [hq] at hi
  | some j =>
    have hj : j.size = n := by simpa [hq] using hi
    simp [storeVar, hc, sizeOf, typeInfo, hq, hj, hn, hst]
theorem wpList_put_part {w : World} {ops : Array Oper} {rest : List Oper} {o : Oper} {a : Act} {Q : Exit → Act → World → Prop} {ty : TypeId} {x y : Operand} {g k n : Nat} {r cs new : Array Value} {t : TypeId}
    (hg : Blk w g t cs) (hfit : k + n ≤ cs.size) (hnew : (cs.toList.take k ++ r.toList ++ cs.toList.drop (k + n)).toArray = new) (hn : r.size = n) (h1 : ∀ v ∈ r.toList, v.oneCell' = true)
    (hgd : o.guard = none) (ho : o.op = .store ty x y) (hx : a.eval x = .pointer (some ⟨g, k, none⟩)) (hy : a.eval y = .agg r) (hi : (P.info? ty).map (·.size) = some n)
    (h : ∀ w', Blk w' g t new → Wrote g w w' → wpList P ops Q rest (a.put o.dst undef) w') : wpList P ops Q (o :: rest) a w := by
  refine wpList_plain hgd fun K hK => ?_
  have hr := run_store_part (P := P) (ty := ty) hg hi hn hfit h1 hnew
  unfold Oper.wp execOp
  simp only [ho, hx, hy, Instr.storeAt, Instr.sureAddr, Sem.run_bind, Sem.run_pure, Result.andThen_ok, hr]
  exact hK _ _ (h _ (setRow_heap w g cs _ t (0, 0) hg) (wrote_setRow w g _))
end
def updN (f : Nat → Nat) (p v : Nat) : Nat → Nat := fun j => if j = p then v else f j
/-- five numbers of two words -/
def rV (f : Nat → Nat) : Array Value := (wdV (f 0)) ++ (wdV (f 1)) ++ (wdV (f 2)) ++ (wdV (f 3)) ++ (wdV (f 4))
theorem rV_part (f : Nat → Nat) (p : Nat) (h : p < 5) : (((rV f).toList.drop (p * 2)).take 2).toArray = wdV (f p) := by
  match p, h with
  | 0, _ => rfl
  | 1, _ => rfl
  | 2, _ => rfl
  | 3, _ => rfl
  | 4, _ => rfl
theorem rV_put (f : Nat → Nat) (p v : Nat) (h : p < 5) : ((rV f).toList.take (p * 2) ++ (wdV v).toList ++ (rV f).toList.drop (p * 2 + 2)).toArray = rV (updN f p v) := by
  match p, h with
  | 0, _ => rfl
  | 1, _ => rfl
  | 2, _ => rfl
  | 3, _ => rfl
  | 4, _ => rfl
theorem rV_lo (f : Nat → Nat) (p : Nat) (h : p < 5) : (rV f)[p * 2 + 1]? = some (.int .u64 ((f p % 18446744073709551616 : Nat) : Int)) := by
  match p, h with
  | 0, _ => rfl
  | 1, _ => rfl
  | 2, _ => rfl
  | 3, _ => rfl
  | 4, _ => rfl
theorem rV_size (f : Nat → Nat) : (rV f).size = 10 := rfl
def termN (x y : E5) (i k : Nat) : Nat := (if 5 ≤ i + k then (limbs x).getD i 0 * 19 else (limbs x).getD i 0) * (limbs y).getD k 0
def posN (i k : Nat) : Nat := if 5 ≤ i + k then i + k - 5 else i + k
def rowN (x y : E5) (i : Nat) (f : Nat → Nat) : Nat → Nat → Nat
  | 0 => f
  | k + 1 => updN (rowN x y i f k) (posN i k) (rowN x y i f k (posN i k) + termN x y i k)
def accN (x y : E5) : Nat → Nat → Nat
  | 0 => fun _ => 0
  | i + 1 => rowN x y i (accN x y i) 5
theorem acc_end (x y : E5) (j : Nat) (h : j < 5) : accN x y 5 j = (limbs (mulR x y)).getD j 0 := by
  match j, h with
  | 0, _ => simp [accN, rowN, updN, posN, termN, limbs, mulR]
  | 1, _ => simp [accN, rowN, updN, posN, termN, limbs, mulR]
  | 2, _ => simp [accN, rowN, updN, posN, termN, limbs, mulR]
  | 3, _ => simp [accN, rowN, updN, posN, termN, limbs, mulR]
  | 4, _ => simp [accN, rowN, updN, posN, termN, limbs, mulR]
theorem term_le {x y : E5} (hx : x.Ok) (hy : y.Ok) (i k : Nat) : termN x y i k ≤ 385365782469381566918211934355475 := by
  have h1 := limb_lt hx (by decide) i
  have h2 := limb_lt hy (by decide) k
  unfold termN
  split
  · have := mul_lt' (a := (limbs x).getD i 0 * 19) (b := (limbs y).getD k 0) (m := 85568392920039406) (n := 4503599627370496) (by omega) h2
    exact Nat.le_trans this (by decide)
  · have := mul_lt' (a := (limbs x).getD i 0) (b := (limbs y).getD k 0) (m := 4503599627370496) (n := 4503599627370496) h1 h2
    exact Nat.le_trans this (by decide)
theorem row_le {x y : E5} (hx : x.Ok) (hy : y.Ok) (i : Nat) {f : Nat → Nat} {B : Nat} (hf : ∀ j, f j ≤ B) : ∀ k j, rowN x y i f k j ≤ B + k * 385365782469381566918211934355475
  | 0, j => by simpa [rowN] using hf j
  | k + 1, j => by
    have h1 := row_le hx hy i hf k
    have h2 := term_le hx hy i k
    simp only [rowN, updN]
    split
    · have := h1 (posN i k); omega
    · exact Nat.le_trans (h1 j) (Nat.add_le_add_left (Nat.mul_le_mul_right _ (Nat.le_succ k)) _)
theorem acc_le {x y : E5} (hx : x.Ok) (hy : y.Ok) : ∀ i j, accN x y i j ≤ i * 1926828912346907834591059671777375
  | 0, j => by simp [accN]
  | i + 1, j => by
    have h1 := row_le hx hy i (acc_le hx hy i) 5 j
    simp only [accN]
    omega
end Go.Proofs.Ytbeokfpbhemcfaa
