/-
  Plain: words as natural numbers, and how the walk spells what is done to them.
-/
import Derived.Test.YtbeokfpbhemcfaaBase
import Derived.Laws.Bits64
import Derived.Laws.BitsLemmas
namespace Go.Proofs.Ytbeokfpbhemcfaa
set_option linter.unusedSimpArgs false
set_option linter.unusedVariables false
open Go.RowKit

section
variable (a b : Nat)
theorem bv64 : (BitVec.ofInt 64 (a : Int)) = BitVec.ofNat 64 a := by simp
theorem or64 (ha : a < 18446744073709551616) (hb : b < 18446744073709551616) : bits .or .u64 (a : Int) (b : Int) = ((a ||| b : Nat) : Int) := by
  show IntKind.u64.wrap ((BitVec.ofInt 64 (a : Int) ||| BitVec.ofInt 64 (b : Int)).toNat : Int) = _
  have h := Nat.or_lt_two_pow (n := 64) (x := a) (y := b) ha hb
  rw [BitVec.toNat_or, BitVec.ofInt_natCast, BitVec.ofInt_natCast, BitVec.toNat_ofNat, BitVec.toNat_ofNat, Nat.mod_eq_of_lt ha, Nat.mod_eq_of_lt hb, IntKind.wrap_u64]
  omega
theorem xor64 (ha : a < 18446744073709551616) (hb : b < 18446744073709551616) : bits .xor .u64 (a : Int) (b : Int) = ((a ^^^ b : Nat) : Int) := by
  show IntKind.u64.wrap ((BitVec.ofInt 64 (a : Int) ^^^ BitVec.ofInt 64 (b : Int)).toNat : Int) = _
  have h := Nat.xor_lt_two_pow (n := 64) (x := a) (y := b) ha hb
  rw [BitVec.toNat_xor, BitVec.ofInt_natCast, BitVec.ofInt_natCast, BitVec.toNat_ofNat, BitVec.toNat_ofNat, Nat.mod_eq_of_lt ha, Nat.mod_eq_of_lt hb, IntKind.wrap_u64]
  omega
theorem and64 (ha : a < 18446744073709551616) (hb : b < 18446744073709551616) : bits .and .u64 (a : Int) (b : Int) = ((a &&& b : Nat) : Int) := by
  show IntKind.u64.wrap ((BitVec.ofInt 64 (a : Int) &&& BitVec.ofInt 64 (b : Int)).toNat : Int) = _
  have h : a &&& b ≤ a := Nat.and_le_left
  rw [BitVec.toNat_and, BitVec.ofInt_natCast, BitVec.ofInt_natCast, BitVec.toNat_ofNat, BitVec.toNat_ofNat, Nat.mod_eq_of_lt ha, Nat.mod_eq_of_lt hb, IntKind.wrap_u64]
  omega
theorem or32 (ha : a < 4294967296) (hb : b < 4294967296) : bits .or .u32 (a : Int) (b : Int) = ((a ||| b : Nat) : Int) := by
  show IntKind.u32.wrap ((BitVec.ofInt 32 (a : Int) ||| BitVec.ofInt 32 (b : Int)).toNat : Int) = _
  have h := Nat.or_lt_two_pow (n := 32) (x := a) (y := b) ha hb
  rw [BitVec.toNat_or, BitVec.ofInt_natCast, BitVec.ofInt_natCast, BitVec.toNat_ofNat, BitVec.toNat_ofNat, Nat.mod_eq_of_lt ha, Nat.mod_eq_of_lt hb, IntKind.wrap_u32]
  omega
theorem xor32 (ha : a < 4294967296) (hb : b < 4294967296) : bits .xor .u32 (a : Int) (b : Int) = ((a ^^^ b : Nat) : Int) := by
  show IntKind.u32.wrap ((BitVec.ofInt 32 (a : Int) ^^^ BitVec.ofInt 32 (b : Int)).toNat : Int) = _
  have h := Nat.xor_lt_two_pow (n := 32) (x := a) (y := b) ha hb
  rw [BitVec.toNat_xor, BitVec.ofInt_natCast, BitVec.ofInt_natCast, BitVec.toNat_ofNat, BitVec.toNat_ofNat, Nat.mod_eq_of_lt ha, Nat.mod_eq_of_lt hb, IntKind.wrap_u32]
  omega
theorem and32 (ha : a < 4294967296) (hb : b < 4294967296) : bits .and .u32 (a : Int) (b : Int) = ((a &&& b : Nat) : Int) := by
  show IntKind.u32.wrap ((BitVec.ofInt 32 (a : Int) &&& BitVec.ofInt 32 (b : Int)).toNat : Int) = _
  have h : a &&& b ≤ a := Nat.and_le_left
  rw [BitVec.toNat_and, BitVec.ofInt_natCast, BitVec.ofInt_natCast, BitVec.toNat_ofNat, BitVec.toNat_ofNat, Nat.mod_eq_of_lt ha, Nat.mod_eq_of_lt hb, IntKind.wrap_u32]
  omega
theorem or8 (ha : a < 256) (hb : b < 256) : bits .or .u8 (a : Int) (b : Int) = ((a ||| b : Nat) : Int) := by
  show IntKind.u8.wrap ((BitVec.ofInt 8 (a : Int) ||| BitVec.ofInt 8 (b : Int)).toNat : Int) = _
  have h := Nat.or_lt_two_pow (n := 8) (x := a) (y := b) ha hb
  rw [BitVec.toNat_or, BitVec.ofInt_natCast, BitVec.ofInt_natCast, BitVec.toNat_ofNat, BitVec.toNat_ofNat, Nat.mod_eq_of_lt ha, Nat.mod_eq_of_lt hb, IntKind.wrap_u8]
  omega
theorem xor8 (ha : a < 256) (hb : b < 256) : bits .xor .u8 (a : Int) (b : Int) = ((a ^^^ b : Nat) : Int) := by
  show IntKind.u8.wrap ((BitVec.ofInt 8 (a : Int) ^^^ BitVec.ofInt 8 (b : Int)).toNat : Int) = _
  have h := Nat.xor_lt_two_pow (n := 8) (x := a) (y := b) ha hb
  rw [BitVec.toNat_xor, BitVec.ofInt_natCast, BitVec.ofInt_natCast, BitVec.toNat_ofNat, BitVec.toNat_ofNat, Nat.mod_eq_of_lt ha, Nat.mod_eq_of_lt hb, IntKind.wrap_u8]
  omega
theorem wrap64n (a : Nat) : IntKind.u64.wrap (a : Int) = ((a % 18446744073709551616 : Nat) : Int) := by rw [IntKind.wrap_u64]; omega
theorem wrap32n (a : Nat) : IntKind.u32.wrap (a : Int) = ((a % 4294967296 : Nat) : Int) := by rw [IntKind.wrap_u32]; omega
theorem wrap8n (a : Nat) : IntKind.u8.wrap (a : Int) = ((a % 256 : Nat) : Int) := by rw [IntKind.wrap_u8]; omega
end
theorem ret_int' {k : IntKind} {a b : Int} (h : a = b) : Ending.returned (.int k a) = .returned (.int k b) := by rw [h]
theorem below_drewN' {B : Nat} {a w : World} (h : Below B a w) (n : Nat) : Below B a (w.drewN n) := ⟨h.os, h.tape, h.output, h.size, h.block⟩
theorem sum64w (x y : Nat) : IntKind.u64.wrap ((x : Int) + (y : Int)) = (((x + y) % 18446744073709551616 : Nat) : Int) := by rw [IntKind.wrap_u64]; omega
theorem sum32f (a b x y : Nat) : (((a : Int) + (b : Int)) % 4294967296 + ((x : Int) + (y : Int)) % 4294967296) % 4294967296 = (((a + b + (x + y)) % 2 ^ 32 : Nat) : Int) := by omega
theorem sum64f (a b x y : Nat) : IntKind.u64.wrap (IntKind.u64.wrap ((a : Int) + (b : Int)) + ((x : Int) + (y : Int)) % 18446744073709551616) = (((a + b + (x + y)) % 2 ^ 64 : Nat) : Int) := by
  rw [IntKind.wrap_u64, IntKind.wrap_u64]; omega
theorem add2_32 (a b : Nat) : ((a : Int) + (b : Int)) % 4294967296 = (((a + b) % 2 ^ 32 : Nat) : Int) := by omega
theorem add2_64 (a b : Nat) : IntKind.u64.wrap ((a : Int) + (b : Int)) = (((a + b) % 2 ^ 64 : Nat) : Int) := by rw [IntKind.wrap_u64]; omega
theorem mixsum32 (a b c d e : Nat) : ((((((a : Int) + (b : Int)) % 4294967296 + (c : Int)) % 4294967296 + (d : Int)) % 4294967296) + (e : Int)) % 4294967296 = (((a + b + c + d + e) % 2 ^ 32 : Nat) : Int) := by omega
theorem mixsum64 (a b c d e : Nat) : IntKind.u64.wrap (IntKind.u64.wrap (IntKind.u64.wrap (IntKind.u64.wrap ((a : Int) + (b : Int)) + (c : Int)) + (d : Int)) + (e : Int)) = (((a + b + c + d + e) % 2 ^ 64 : Nat) : Int) := by
  simp only [IntKind.wrap_u64]; omega
theorem and_lt {a b m : Nat} (h : a < m) : a &&& b < m := Nat.lt_of_le_of_lt Nat.and_le_left h
theorem or_shl8 (x z : Nat) (hz : z < 256) : x * 256 ||| z = x * 256 + z := by
  have := Nat.two_pow_add_eq_or_of_lt (i := 8) (b := z) hz x
  rw [show 2 ^ 8 * x = x * 256 by omega] at this
  exact this.symm
theorem or_byte32 (x z : Nat) (hx : x < 16777216) (hz : z < 256) : bits .or .u32 ((x : Int) * 256 % 4294967296) (z : Int) = ((x * 256 + z : Nat) : Int) := by
  rw [show (x : Int) * 256 % 4294967296 = ((x * 256 : Nat) : Int) by omega, or32 _ _ (by omega) (by omega), or_shl8 x z hz]
theorem or_byte64 (x z : Nat) (hx : x < 72057594037927936) (hz : z < 256) : bits .or .u64 (IntKind.u64.wrap ((x : Int) * 256)) (z : Int) = ((x * 256 + z : Nat) : Int) := by
  rw [show IntKind.u64.wrap ((x : Int) * 256) = ((x * 256 : Nat) : Int) by rw [IntKind.wrap_u64]; omega, or64 _ _ (by omega) (by omega), or_shl8 x z hz]
/-- A word of so many bits, turned to the right. -/
def rotN (b x n : Nat) : Nat := x / 2 ^ n ||| x * 2 ^ (b - n) % 2 ^ b
theorem rotN_lt {b x n : Nat} (hx : x < 2 ^ b) : rotN b x n < 2 ^ b :=
  Nat.or_lt_two_pow (Nat.lt_of_le_of_lt (Nat.div_le_self _ _) hx) (Nat.mod_lt _ (Nat.two_pow_pos _))
def turnedN (b x n : Nat) : Nat := if b = 32 then rotN 32 (x % 4294967296) n else rotN 64 x n
theorem turnedN_lt {b x n : Nat} (hx : x < 18446744073709551616) : turnedN b x n < 18446744073709551616 := by
  unfold turnedN
  split
  · have := rotN_lt (b := 32) (x := x % 4294967296) (n := n) (Nat.mod_lt _ (by decide))
    omega
  · exact rotN_lt (b := 64) hx
def lastN (b x c : Nat) (shift : Bool) : Nat := if shift then x / 2 ^ c else turnedN b x c
theorem lastN_lt {b x c : Nat} {shift : Bool} (hx : x < 18446744073709551616) : lastN b x c shift < 18446744073709551616 := by
  unfold lastN
  split
  · exact Nat.lt_of_le_of_lt (Nat.div_le_self _ _) hx
  · exact turnedN_lt hx
/-- Three turns of a word. -/
def allN (b x p q c : Nat) (shift : Bool) : Nat := turnedN b x p ^^^ turnedN b x q ^^^ lastN b x c shift
theorem xor_lt64 {a b : Nat} (ha : a < 18446744073709551616) (hb : b < 18446744073709551616) : a ^^^ b < 18446744073709551616 := Nat.xor_lt_two_pow (n := 64) ha hb
theorem allN_lt {b x p q c : Nat} {shift : Bool} (hx : x < 18446744073709551616) : allN b x p q c shift < 18446744073709551616 :=
  xor_lt64 (xor_lt64 (turnedN_lt hx) (turnedN_lt hx)) (lastN_lt hx)
theorem pow_int (n : Nat) : (2 : Int) ^ n = ((2 ^ n : Nat) : Int) := by simp
theorem shr_int (x n : Nat) : (x : Int) / 2 ^ n = ((x / 2 ^ n : Nat) : Int) := by rw [pow_int]; simp
theorem shl_int (x n : Nat) : (x : Int) * 2 ^ n = ((x * 2 ^ n : Nat) : Int) := by rw [pow_int]; simp
theorem rot_walk64 (x n : Nat) (hx : x < 18446744073709551616) : bits .or .u64 ((x : Int) / 2 ^ n) (IntKind.u64.wrap ((x : Int) * 2 ^ (64 - n))) = (rotN 64 x n : Int) := by
  rw [shr_int, shl_int, wrap64n, or64 _ _ (Nat.lt_of_le_of_lt (Nat.div_le_self _ _) hx) (Nat.mod_lt _ (by decide))]
  rfl
theorem rot_walk32 (x n : Nat) (hx : x < 4294967296) : bits .or .u32 ((x : Int) / 2 ^ n) (IntKind.u32.wrap ((x : Int) * 2 ^ (32 - n))) = (rotN 32 x n : Int) := by
  rw [shr_int, shl_int, wrap32n, or32 _ _ (Nat.lt_of_le_of_lt (Nat.div_le_self _ _) hx) (Nat.mod_lt _ (by decide))]
  rfl
theorem rot_walk32' (x n : Nat) : IntKind.u64.wrap (bits .or .u32 ((x : Int) % 4294967296 / 2 ^ n) ((x : Int) % 4294967296 * 2 ^ (32 - n) % 4294967296)) = (turnedN 32 x n : Int) := by
  have h := rot_walk32 (x % 4294967296) n (Nat.mod_lt _ (by decide))
  rw [IntKind.wrap_u32] at h
  rw [show (x : Int) % 4294967296 = ((x % 4294967296 : Nat) : Int) by omega, h, wrap64n]
  have h2 := rotN_lt (b := 32) (x := x % 4294967296) (n := n) (Nat.mod_lt _ (by decide))
  rw [Nat.mod_eq_of_lt (by omega)]
  rfl
end Go.Proofs.Ytbeokfpbhemcfaa
