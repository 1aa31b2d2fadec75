/-
  Plain: the digests, as the program makes them.
-/
import Derived.Test.YtfpbcihpjcocmaaDoorWords
namespace Go.Proofs.YtfpbcihpjcocmaaDoor
set_option linter.unusedSimpArgs false
set_option linter.unusedVariables false
open Go.RowKit

/-- the number of bytes, the first the highest -/
def beN (l : List UInt8) : Nat := l.foldl (fun n c => n * 256 + c.toNat) 0
theorem beN_snoc (l : List UInt8) (c : UInt8) : beN (l ++ [c]) = beN l * 256 + c.toNat := by simp [beN]
theorem foldl_fromN (x : Nat) (c : List UInt8) : c.foldl (fun n c => n * 256 + c.toNat) x = x * 256 ^ c.length + beN c := by
  induction c generalizing x with
  | nil => simp [beN]
  | cons z c ih =>
    have e : beN (z :: c) = c.foldl (fun n c => n * 256 + c.toNat) z.toNat := by simp [beN]
    rw [List.foldl_cons, ih, e, ih, List.length_cons, Nat.pow_succ, Nat.add_mul, Nat.mul_assoc, Nat.mul_comm 256, Nat.add_assoc]
theorem beN_append (a c : List UInt8) : beN (a ++ c) = beN a * 256 ^ c.length + beN c := by
  rw [beN, List.foldl_append, foldl_fromN]; rfl
theorem beN_lt (l : List UInt8) : beN l < 256 ^ l.length := by
  induction l with
  | nil => simp [beN]
  | cons z l ih =>
    have e := beN_append [z] l
    have hz := z.toNat_lt
    have e1 : beN [z] = z.toNat := by simp [beN]
    rw [show z :: l = [z] ++ l from rfl, e, e1, List.length_append, List.length_singleton, Nat.pow_add, Nat.pow_one]
    have : z.toNat * 256 ^ l.length ≤ 255 * 256 ^ l.length := Nat.mul_le_mul_right _ (by omega)
    omega
/-- how a digest is made -/
structure ShaF where
  bits : Nat
  many : Nat
  s0 : Nat × Nat × Nat
  s1 : Nat × Nat × Nat
  t0 : Nat × Nat × Nat
  t1 : Nat × Nat × Nat
def F64 : ShaF := ⟨64, 80, (28, 34, 39), (14, 18, 41), (1, 8, 7), (19, 61, 6)⟩
def F32 : ShaF := ⟨32, 64, (2, 13, 22), (6, 11, 25), (7, 18, 3), (17, 19, 10)⟩
def allF (F : ShaF) (x : Nat) (p : Nat × Nat × Nat) (shift : Bool) : Nat := allN F.bits x p.1 p.2.1 p.2.2 shift
def pieceN (e : Nat) (blk : List UInt8) (t : Nat) : Nat := beN ((blk.drop (t * e)).take e)
def nextW (F : ShaF) (r : List Nat) (t : Nat) : Nat :=
  (r.getD (t - 16) 0 + r.getD (t - 7) 0 + (allF F (r.getD (t - 15) 0) F.t0 true + allF F (r.getD (t - 2) 0) F.t1 true)) % 2 ^ F.bits
/-- a block's words -/
def rowW (F : ShaF) (blk : List UInt8) : Nat → List Nat
  | 0 => []
  | t + 1 => rowW F blk t ++ [if t < 16 then pieceN (F.bits / 8) blk t else nextW F (rowW F blk t) t]
theorem rowW_length (F : ShaF) (blk : List UInt8) : ∀ t, (rowW F blk t).length = t
  | 0 => rfl
  | t + 1 => by simp [rowW, rowW_length F blk t]
theorem pieceN_lt (e : Nat) (blk : List UInt8) (t : Nat) : pieceN e blk t < 256 ^ e := by
  have h := beN_lt ((blk.drop (t * e)).take e)
  have h2 : ((blk.drop (t * e)).take e).length ≤ e := List.length_take_le _ _
  exact Nat.lt_of_lt_of_le h (Nat.pow_le_pow_right (by omega) h2)
theorem rowW_lt (F : ShaF) (hb : 256 ^ (F.bits / 8) = 2 ^ F.bits) (blk : List UInt8) : ∀ t, ∀ x ∈ rowW F blk t, x < 2 ^ F.bits
  | 0, x, hx => by simp [rowW] at hx
  | t + 1, x, hx => by
    simp only [rowW, List.mem_append, List.mem_singleton] at hx
    rcases hx with hx | rfl
    · exact rowW_lt F hb blk t x hx
    · split
      · rw [← hb]; exact pieceN_lt _ _ _
      · exact Nat.mod_lt _ (Nat.two_pow_pos _)
theorem getD_lt {l : List Nat} {b : Nat} (h : ∀ x ∈ l, x < b) (hb : 0 < b) (i : Nat) : l.getD i 0 < b := by
  by_cases hi : i < l.length
  · rw [List.getD_eq_getElem?_getD, List.getElem?_eq_getElem hi]; exact h _ (List.getElem_mem hi)
  · rw [List.getD_eq_getElem?_getD, List.getElem?_eq_none (by omega)]; exact hb

/-- words as values; a row of which some are made -/
def wordsV (K : IntKind) (l : List Nat) : List Value := l.map fun n : Nat => Value.int K (n : Int)
theorem wordsV_length (K : IntKind) (l : List Nat) : (wordsV K l).length = l.length := by simp [wordsV]
def rowC (K : IntKind) (l : List Nat) (m : Nat) : Array Value := (wordsV K l ++ List.replicate m (Value.int K 0)).toArray
def rowP (K : IntKind) (l : List Nat) (x m : Nat) : Array Value := (wordsV K l ++ (Value.int K (x : Int)) :: List.replicate m (Value.int K 0)).toArray
theorem rowC_start (K : IntKind) (l : List Nat) (m : Nat) : rowC K l (m + 1) = rowP K l 0 m := by simp [rowC, rowP, List.replicate_succ]
theorem rowP_end (K : IntKind) (l : List Nat) (x m : Nat) : rowP K l x m = rowC K (l ++ [x]) m := by simp [rowC, rowP, wordsV]
theorem rowC_size (K : IntKind) (l : List Nat) (m : Nat) : (rowC K l m).size = l.length + m := by simp [rowC, wordsV]
theorem rowP_size (K : IntKind) (l : List Nat) (x m : Nat) : (rowP K l x m).size = l.length + m + 1 := by simp [rowP, wordsV]; omega
theorem rowP_at (K : IntKind) (l : List Nat) (x m : Nat) : (rowP K l x m)[l.length]? = some (Value.int K (x : Int)) := by
  simp [rowP, wordsV]
theorem rowP_set (K : IntKind) (l : List Nat) (x y m : Nat) : (rowP K l x m).setIfInBounds l.length (Value.int K (y : Int)) = rowP K l y m := by
  apply Array.ext'
  simp [rowP, Array.toList_setIfInBounds, wordsV, List.set_append]
theorem rowC_get (K : IntKind) (l : List Nat) (m i : Nat) (h : i < l.length) : (rowC K l m)[i]? = some (Value.int K ((l.getD i 0 : Nat) : Int)) := by
  simp [rowC, wordsV, List.getElem?_append, h]
theorem rowP_get (K : IntKind) (l : List Nat) (x m i : Nat) (h : i < l.length) : (rowP K l x m)[i]? = some (Value.int K ((l.getD i 0 : Nat) : Int)) := by
  rw [rowP_end, rowC_get K _ _ i (by simp; omega)]
  simp [List.getElem?_append, h]
end Go.Proofs.YtfpbcihpjcocmaaDoor
