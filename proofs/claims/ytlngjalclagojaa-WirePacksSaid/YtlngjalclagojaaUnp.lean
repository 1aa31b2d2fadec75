/-
  What unpacking computes: a plain model of bytes that are read from the front.
-/
import Derived.Test.YtlngjalclagojaaLaws
import Derived.Test.YtlngjalclagojaaMsg
import Derived.Test.YtlngjalclagojaaBox
namespace Go.Proofs.Ytlngjalclagojaa
open Go.RowKit

/-- the bytes that are left; were there too few? -/
structure Rs where
  rest : List UInt8
  short : Bool
def takeS (n : Nat) (s : Rs) : List UInt8 × Rs := if s.rest.length < n then ([], ⟨[], true⟩) else (s.rest.take n, ⟨s.rest.drop n, s.short⟩)
theorem takeS_short {n : Nat} {s : Rs} (h : s.rest.length < n) : takeS n s = ([], ⟨[], true⟩) := if_pos h
theorem takeS_all {n : Nat} {s : Rs} (h : n ≤ s.rest.length) : takeS n s = (s.rest.take n, ⟨s.rest.drop n, s.short⟩) := if_neg (by omega)

/-- Blocks g and k were written, and nothing else. -/
structure Wrote2 (g k : Nat) (w w' : World) : Prop where
  os : w'.os = w.os
  tape : w'.tape = w.tape
  output : w'.output = w.output
  size : w'.heap.size = w.heap.size
  block : ∀ i, i ≠ g → i ≠ k → w'.heap[i]? = w.heap[i]?
section
variable {g k : Nat} {w w' w'' : World}
theorem Wrote2.refl (g k : Nat) (w : World) : Wrote2 g k w w := ⟨rfl, rfl, rfl, rfl, fun _ _ _ => rfl⟩
theorem Wrote2.trans (h : Wrote2 g k w w') (h2 : Wrote2 g k w' w'') : Wrote2 g k w w'' :=
  ⟨h2.os.trans h.os, h2.tape.trans h.tape, h2.output.trans h.output, h2.size.trans h.size, fun i a b => (h2.block i a b).trans (h.block i a b)⟩
theorem Wrote.block_ne (h : Wrote g w w') (i : Nat) (hi : i ≠ g) : w'.heap[i]? = w.heap[i]? := by
  by_cases hl : i < w.heap.size
  · exact h.grown.block i hl (by simpa using hi)
  · rw [Array.getElem?_eq_none (by have := h.size; omega), Array.getElem?_eq_none (by omega)]
theorem Wrote.left (h : Wrote g w w') (k : Nat) : Wrote2 g k w w' := ⟨h.grown.os, h.grown.tape, h.grown.output, h.size, fun i a _ => h.block_ne i a⟩
theorem Wrote.right (h : Wrote k w w') (g : Nat) : Wrote2 g k w w' := ⟨h.grown.os, h.grown.tape, h.grown.output, h.size, fun i _ b => h.block_ne i b⟩
theorem Wrote2.blk {i : Nat} {t : TypeId} {cs : Array Value} (h : Wrote2 g k w w') (hb : Blk w i t cs) (h1 : i ≠ g) (h2 : i ≠ k) : Blk w' i t cs := (h.block i h1 h2).trans hb
theorem Wrote2.below {B : Nat} {a : World} (h : Wrote2 g k w w') (hb : Below B a w) (h1 : B ≤ g) (h2 : B ≤ k) : Below B a w' :=
  hb.trans ⟨h.os, h.tape, h.output, by rw [h.size]; exact Nat.le_refl _, fun i hi => h.block i (by omega) (by omega)⟩
theorem Wrote2.rd {B : Nat} {A : Option Addr} {xs : List Value} (h : Wrote2 g k w w') (hr : Rd w B A xs) (h1 : B ≤ g) (h2 : B ≤ k) : Rd w' B A xs := hr.below (h.below (Below.refl _ _) h1 h2)
end
theorem Rd.take {w : World} {B : Nat} {A : Option Addr} {xs : List Value} (h : Rd w B A xs) (n : Nat) : Rd w B A (xs.take n) := fun i u hu => by
  rw [List.getElem?_take] at hu
  split at hu
  · exact h i u hu
  · simp at hu
theorem Rd.drop {w : World} {B : Nat} {ad : Addr} {xs : List Value} (h : Rd w B (some ad) xs) (n : Nat) : Rd w B (some (ad.add n)) (xs.drop n) := fun i u hu => by
  rw [List.getElem?_drop] at hu
  obtain ⟨ad', e, hb, hc⟩ := h _ u hu
  injection e with e
  subst e
  refine ⟨_, rfl, by rw [block_of_add]; exact hb, ?_⟩
  rw [show (ad.add n).add i = ad.add (n + i) from ?_]
  · exact hc
  · unfold Addr.add
    by_cases h1 : n = 0 <;> by_cases h2 : i = 0 <;> simp [h1, h2, Nat.add_assoc]
theorem Rd.drop' {w : World} {B : Nat} {A : Option Addr} {xs : List Value} (h : Rd w B A xs) (n : Nat) : Rd w B (A.map fun x => x.add n) (xs.drop n) := by
  cases A with
  | none =>
    intro i u hu
    rw [List.getElem?_drop] at hu
    obtain ⟨ad', e, _⟩ := h _ u hu
    simp at e
  | some ad => exact h.drop n
/-- A store into a block of one cell. -/
theorem blk_setCell {w : World} {g : Nat} {t : TypeId} {v : Value} (h : Blk w g t #[v]) (u : Value) : Blk (w.setCell ⟨g, 0, none⟩ u) g t #[u] := by
  unfold Blk at *
  simp only [World.setCell, Array.getElem?_modify, if_pos, h]
  rfl
theorem wrote_setCell (w : World) (g : Nat) (u : Value) : Wrote g w (w.setCell ⟨g, 0, none⟩ u) :=
  ⟨⟨rfl, rfl, rfl, by simp [World.setCell], fun k _ hk => Below.heap_setCell _ _ _ _ (by simpa using hk)⟩, by simp [World.setCell]⟩
/-- the captured variables of Unpack's closures. -/
structure Inp (w : World) (B gr gs : Nat) (s : Rs) : Prop where
  row : ∃ A c, Blk w gr 26 #[.slice A s.rest.length c] ∧ s.rest.length ≤ c ∧ Rd w B A (bytesV s.rest)
  flag : Blk w gs 4 #[.bool s.short]
  br : B ≤ gr
  bs : B ≤ gs
  ne : gr ≠ gs
  fit : s.rest.length ≤ 140737488355328
theorem Inp.drew {w : World} {B gr gs : Nat} {s : Rs} (h : Inp w B gr gs s) : Inp w.drew B gr gs s := by
  obtain ⟨⟨A, c, a, b, d⟩, e, f, g, i, j⟩ := h
  exact ⟨⟨A, c, a, b, d⟩, e, f, g, i, j⟩
end Go.Proofs.Ytlngjalclagojaa
