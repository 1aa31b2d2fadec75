/-
  Rows of structs: cells one behind the other; rows of which the blocks' type is known.
-/
import Derived.Test.YtcfbnjaelniahaaBox
namespace Go.Proofs.Ytcfbnjaelniahaa
set_option linter.unusedSimpArgs false
set_option linter.unusedVariables false
open Go.RowKit

section
variable {α : Type}
def rowsV (f : α → Array Value) (l : List α) : List Value := l.flatMap fun x => (f x).toList
theorem rowsV_append (f : α → Array Value) (l r : List α) : rowsV f (l ++ r) = rowsV f l ++ rowsV f r := by simp [rowsV]
theorem rowsV_one (f : α → Array Value) (x : α) : rowsV f [x] = (f x).toList := by simp [rowsV]
theorem rowsV_len {f : α → Array Value} {m : Nat} (hf : ∀ x, (f x).size = m) : ∀ l : List α, (rowsV f l).length = l.length * m
  | [] => by simp [rowsV]
  | x :: r => by
    have := rowsV_len hf r
    rw [show rowsV f (x :: r) = (f x).toList ++ rowsV f r by simp [rowsV], List.length_append, this]
    simp [hf, Nat.add_mul, Nat.add_comm]
theorem rowsV_at {f : α → Array Value} {m : Nat} (hf : ∀ x, (f x).size = m) : ∀ (l : List α) (i : Nat) (h : i < l.length) (j : Nat) (u : Value), (f l[i])[j]? = some u → (rowsV f l)[i * m + j]? = some u
  | x :: r, 0, h, j, u, hu => by
    rw [show rowsV f (x :: r) = (f x).toList ++ rowsV f r by simp [rowsV]]
    have hu' : (f x)[j]? = some u := by simpa using hu
    have hj : j < (f x).size := (Array.getElem?_eq_some_iff.1 hu').1
    rw [Nat.zero_mul, Nat.zero_add, List.getElem?_append_left (by simpa using hj), Array.getElem?_toList]
    exact hu'
  | x :: r, i + 1, h, j, u, hu => by
    have hi : i < r.length := by simpa using h
    have := rowsV_at hf r i hi j u (by simpa using hu)
    have e : (i + 1) * m = m + i * m := by rw [Nat.add_mul]; omega
    rw [show rowsV f (x :: r) = (f x).toList ++ rowsV f r by simp [rowsV], List.getElem?_append_right (by simp [hf]; omega)]
    simp only [Array.length_toList, hf]
    rw [show (i + 1) * m + j - m = i * m + j by omega]
    exact this
theorem rowsV_take {f : α → Array Value} {m : Nat} (hf : ∀ x, (f x).size = m) : ∀ (l : List α) (k : Nat), rowsV f (l.take k) = (rowsV f l).take (k * m)
  | [], k => by simp [rowsV]
  | x :: r, 0 => by simp [rowsV]
  | x :: r, k + 1 => by
    have := rowsV_take hf r k
    rw [List.take_succ_cons, show rowsV f (x :: r.take k) = (f x).toList ++ rowsV f (r.take k) by simp [rowsV], show rowsV f (x :: r) = (f x).toList ++ rowsV f r by simp [rowsV], this, List.take_append]
    have e : (k + 1) * m = m + k * m := by rw [Nat.add_mul]; omega
    rw [e]
    have hl : (f x).toList.length = m := by simp [hf]
    rw [hl, List.take_of_length_le (l := (f x).toList) (by rw [hl]; omega), Nat.add_sub_cancel_left]
theorem rowsV_drop {f : α → Array Value} {m : Nat} (hf : ∀ x, (f x).size = m) : ∀ (l : List α) (k : Nat), rowsV f (l.drop k) = (rowsV f l).drop (k * m)
  | [], k => by simp [rowsV]
  | x :: r, 0 => by simp [rowsV]
  | x :: r, k + 1 => by
    have := rowsV_drop hf r k
    have e : (k + 1) * m = m + k * m := by rw [Nat.add_mul]; omega
    have hl : (f x).toList.length = m := by simp [hf]
    rw [List.drop_succ_cons, this, show rowsV f (x :: r) = (f x).toList ++ rowsV f r by simp [rowsV], List.drop_append, e, hl, List.drop_eq_nil_of_le (as := (f x).toList) (by rw [hl]; omega), Nat.add_sub_cancel_left, List.nil_append]
theorem rowsV_mem {f : α → Array Value} (h1 : ∀ x, (f x).all (·.oneCell') = true) (l : List α) : ∀ u ∈ rowsV f l, u.oneCell' = true := fun u hu => by
  obtain ⟨x, _, hx⟩ := List.mem_flatMap.1 hu
  have := h1 x
  rw [Array.all_eq_true_iff_forall_mem] at this
  exact this u (by simpa using hx)
theorem rd_rows {f : α → Array Value} {m : Nat} (hf : ∀ x, (f x).size = m) (hm : 0 < m) {w : World} {B : Nat} {A : Option Addr} {l : List α} (h : Rd w B A (rowsV f l)) {i : Nat} (hi : i < l.length) :
    ∃ ad, A = some ad ∧ ad.block < B ∧ ∀ j u, (f l[i])[j]? = some u → w.cell? ((ad.add (i * m)).add j) = some u := by
  have h0 := rowsV_at hf l i hi 0 _ (Array.getElem?_eq_getElem (by rw [hf]; exact hm))
  obtain ⟨ad, hA, hb, -⟩ := h _ _ h0
  refine ⟨ad, hA, hb, fun j u hu => ?_⟩
  obtain ⟨ad', hA', -, hc⟩ := h _ _ (rowsV_at hf l i hi j u hu)
  rw [hA] at hA'
  injection hA' with e
  subst e
  rw [← hc]
  congr 1
  generalize i * m = n
  unfold Addr.add
  by_cases h1 : n = 0 <;> by_cases h2 : j = 0 <;> simp [h1, h2, Nat.add_assoc]
end
/-- A row that reads, in a block of a type. -/
def Row (w : World) (B : Nat) (t : TypeId) (A : Option Addr) (xs : List Value) : Prop :=
  ∀ i u, xs[i]? = some u → ∃ ad cs fz, A = some ad ∧ ad.block < B ∧ w.cell? (ad.add i) = some u ∧ w.heap[ad.block]? = some (.cells cs t fz)
variable {w w' : World} {B : Nat} {t : TypeId} {A : Option Addr} {xs : List Value}
theorem Row.rd (h : Row w B t A xs) : Rd w B A xs := fun i u hu => by
  obtain ⟨ad, cs, fz, h1, h2, h3, _⟩ := h i u hu
  exact ⟨ad, h1, h2, h3⟩
theorem Row.nil (w : World) (B : Nat) (t : TypeId) (A : Option Addr) : Row w B t A [] := fun i u hu => by simp at hu
theorem Row.below (h : Row w B t A xs) (hb : Below B w w') : Row w' B t A xs := fun i u hu => by
  obtain ⟨ad, cs, fz, h1, h2, h3, h4⟩ := h i u hu
  exact ⟨ad, cs, fz, h1, h2, by rw [hb.cell (p := ad.add i) (by rw [block_of_add]; exact h2)]; exact h3, by rw [hb.block _ h2]; exact h4⟩
theorem Row.mono {B' : Nat} (h : Row w B t A xs) (hB : B ≤ B') : Row w B' t A xs := fun i u hu => by
  obtain ⟨ad, cs, fz, h1, h2, h3, h4⟩ := h i u hu
  exact ⟨ad, cs, fz, h1, Nat.lt_of_lt_of_le h2 hB, h3, h4⟩
theorem Row.grow (h : Row w w.heap.size t A xs) (hb : Below w.heap.size w w') : Row w' w'.heap.size t A xs := (h.below hb).mono hb.size
theorem Row.keep {e : TypeId} (h : Row w B t A xs) (hk : KeepBut e w w') (ht : t ≠ e) : Row w' B t A xs := fun i u hu => by
  obtain ⟨ad, cs, fz, h1, h2, h3, h4⟩ := h i u hu
  have h5 := heap_keep hk ht h4
  refine ⟨ad, cs, fz, h1, h2, ?_, h5⟩
  rw [← h3]
  exact World.cell?_of_block (w := w) (w' := w') (by rw [block_of_add, h5, h4])
theorem Row.of_own {base size n c : Nat} (h : OwnX w base t size (.slice A n c) n xs) : Row w w.heap.size t A xs := fun i u hu => by
  obtain ⟨ad, h1, h2, h3⟩ := Rd.of_own h (Nat.le_refl _) i u hu
  rcases h.2 with ⟨hn, _⟩ | ⟨g, cap, cur, fz, hv, hb, hgg, hrest⟩
  · simp at hn
    rw [hn.1] at h1
    simp at h1
  · simp at hv
    rw [hv.1] at h1
    injection h1 with h1
    subst h1
    exact ⟨_, _, _, hv.1, h2, h3, hgg⟩
theorem Row.take (h : Row w B t A xs) (k : Nat) : Row w B t A (xs.take k) := fun i u hu => by
  rw [List.getElem?_take] at hu
  split at hu
  · exact h i u hu
  · simp at hu
theorem Row.drop {ad : Addr} (h : Row w B t (some ad) xs) (k : Nat) : Row w B t (some (ad.add k)) (xs.drop k) := fun i u hu => by
  rw [List.getElem?_drop] at hu
  obtain ⟨ad', cs, fz, h1, h2, h3, h4⟩ := h _ u hu
  injection h1 with h1
  subst h1
  refine ⟨_, cs, fz, rfl, by rw [block_of_add]; exact h2, ?_, by rw [block_of_add]; exact h4⟩
  rw [← h3]
  congr 1
  unfold Addr.add
  by_cases e1 : k = 0 <;> by_cases e2 : i = 0 <;> simp [e1, e2, Nat.add_assoc]
end Go.Proofs.Ytcfbnjaelniahaa
