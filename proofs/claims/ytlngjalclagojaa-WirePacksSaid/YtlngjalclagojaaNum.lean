/-
  The walk of Unpack's closure number.
-/
import Derived.Test.YtlngjalclagojaaTake
namespace Go.Proofs.Ytlngjalclagojaa
open Go.RowKit

/-- the number of bytes, the first the highest -/
def natOf (l : List UInt8) : Nat := l.foldl (fun n c => n * 256 + c.toNat) 0
theorem natOf_snoc (l : List UInt8) (c : UInt8) : natOf (l ++ [c]) = natOf l * 256 + c.toNat := by simp [natOf]
def numS (n : Nat) (s : Rs) : Int × Rs := (wrap64 (natOf (takeS n s).1 : Int), (takeS n s).2)
theorem or_byte (x : Int) (c : Nat) (hc : c < 256) : bits .or .i64 (wrap64 (x * 256)) (c : Int) = wrap64 (x * 256 + c) := by
  obtain ⟨q, hq⟩ : ∃ q : Nat, (BitVec.ofInt IntKind.i64.bits (wrap64 (x * 256))).toNat = 2 ^ 8 * q := by
    refine ⟨(BitVec.ofInt IntKind.i64.bits (wrap64 (x * 256))).toNat / 256, ?_⟩
    simp only [BitVec.toNat_ofInt, IntKind.bits, wrap64]
    omega
  have hb : (BitVec.ofInt IntKind.i64.bits (c : Int)).toNat = c := by
    simp only [BitVec.toNat_ofInt, IntKind.bits]
    omega
  have hq2 : ((2 ^ 8 * q : Nat) : Int) = (x * 256) % 18446744073709551616 := by
    rw [← hq]
    simp only [BitVec.toNat_ofInt, IntKind.bits, wrap64]
    omega
  show IntKind.i64.wrap ((BitVec.ofInt IntKind.i64.bits (wrap64 (x * 256)) ||| BitVec.ofInt IntKind.i64.bits (c : Int)).toNat : Int) = _
  rw [BitVec.toNat_or, hq, hb, ← Nat.two_pow_add_eq_or_of_lt hc q]
  rw [show IntKind.i64.wrap ((2 ^ 8 * q + c : Nat) : Int) = wrap64 ((2 ^ 8 * q + c : Nat) : Int) from ?_]
  · rw [Int.natCast_add, hq2]
    unfold wrap64
    omega
  · rw [IntKind.wrap_i64, wrap64]
theorem step_byte (l : List UInt8) (c : UInt8) : bits .or .i64 (wrap64 (wrap64 (natOf l : Int) * 256)) (wrap64 (c.toNat : Int)) = wrap64 (natOf (l ++ [c]) : Int) := by
  have hc : c.toNat < 256 := c.toNat_lt
  rw [show wrap64 (c.toNat : Int) = (c.toNat : Int) by unfold wrap64; omega, or_byte _ _ hc, natOf_snoc]
  unfold wrap64
  omega

set_option maxHeartbeats 2000000 in
theorem number_any (B gr gs gt n : Nat) (s : Rs) (w : World) (h : Inp w B gr gs s) (hn : n ≤ 8)
    (ht : Blk w gt 40 #[.func (.func 20) #[] #[.pointer (some ⟨gr, 0, none⟩), .pointer (some ⟨gs, 0, none⟩)]]) :
    Calls Try.prog 21 #[.int .i64 n, .pointer (some ⟨gt, 0, none⟩)] w fun e w' => e = .returned (.int .i64 (numS n s).1) ∧ Inp w' B gr gs (numS n s).2 ∧ Wrote2 gr gs w w' := by
  have c1 := ht.cell 0
  have f1 := ht.free 0
  have H := Lib.hid h
  clear h ht
  go_enter Try.func21, Try.ntmps21
  go_wp2_with fail
  refine calls_then (take_any B gr gs n s _ H.out (by omega)) ?_
  rintro e w1 ⟨A, c, rfl, hc, hr, hi, hw⟩
  clear H c1 f1
  have hl8 : (takeS n s).1.length ≤ 8 := by
    by_cases hlt : s.rest.length < n
    · rw [takeS_short hlt]; simp
    · rw [takeS_all (by omega)]; simp; omega
  have HN : Hid (numS n s = (wrap64 (natOf (takeS n s).1 : Int), (takeS n s).2)) := Lib.hid rfl
  have HI := Lib.hid hi
  have HW := Lib.hid hw
  clear hi hw
  generalize hl : (takeS n s).1 = l at *
  generalize hs : (takeS n s).2 = s' at *
  clear hl hs
  go_wp2_with fail
  go_loop [4, 11] (fun v i => ∃ k : Nat, k ≤ l.length ∧ i = .int .i64 k ∧ v = .int .i64 (wrap64 (natOf (l.take k) : Int))) (fun _ i => l.length - (intOf i).toNat)
  case atStart => exact ⟨0, Nat.zero_le _, rfl, by simp [natOf, wrap64]⟩
  case round =>
    obtain ⟨k, hk, rfl, rfl⟩ := hrel
    by_cases hlt : k < l.length
    · obtain ⟨ad, rfl, _, hcell⟩ := hr.at_ (k := k) (by rw [bytesV_length]; exact hlt)
      simp only [bytesV, List.getElem_map, byteV] at hcell
      go_wp2_with fail
      rw [step_byte]
      exact ⟨⟨k + 1, hlt, by simp, by rw [List.take_add_one]; simp [hlt]⟩, by simp [intOf]; omega⟩
    · go_wp2_with fail
      go_ret
      have hkl : k = l.length := by omega
      subst hkl
      rw [HN.out, List.take_length]
      exact ⟨rfl, HI.out, HW.out⟩
end Go.Proofs.Ytlngjalclagojaa
