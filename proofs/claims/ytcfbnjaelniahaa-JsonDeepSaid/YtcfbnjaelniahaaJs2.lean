/-
  Walks: json's reader: a sign, a word.
-/
import Derived.Test.YtcfbnjaelniahaaJs1
import Derived.Test.YtcfbnjaelniahaaGrd
namespace Go.Proofs.Ytcfbnjaelniahaa.Js
set_option linter.unusedSimpArgs false
set_option linter.unusedVariables false
open Go.RowKit

/-- where the reader is behind something -/
structure At (s : ByteArray) (a a' : Nat) (rest : Bs) : Prop where
  le : a ≤ a'
  top : a' ≤ a ∨ a' ≤ s.size
  rest : s.data.toList.drop a' = rest
theorem At.trans {s : ByteArray} {a b c : Nat} {x y : Bs} (h : At s a b x) (h' : At s b c y) : At s a c y :=
  ⟨Nat.le_trans h.le h'.le, by have := h.top; have := h'.top; have := h.le; have := h'.le; omega, h'.rest⟩
theorem At.big {s : ByteArray} {a a' : Nat} {x : Bs} (h : At s a a' x) (hs : (s.size : Int) ≤ 1000000) (ha : (a : Int) ≤ 1500000) : (a' : Int) ≤ 1500000 := by
  have := h.top
  omega
theorem lookE_skip {s : ByteArray} {a : Nat} {e : Int} {x : Bs} (h : s.data.toList.drop a = x) : lookE s a e = if e = 0 then look x else 0 := by rw [lookE, h]
theorem look_lt {s : ByteArray} {a : Nat} (h : look (s.data.toList.drop a) ≠ 0) : a < s.size := by
  refine Classical.byContradiction fun hn => h ?_
  exact look_off hn
theorem drop_tail (L : Bs) (a : Nat) : L.drop (a + 1) = (L.drop a).tail := by simp
/-- what sign answers -/
def signB (c : UInt8) (e : Int) (r : Bs) : Bool := decide (e = 0) && (signP c r).1
def signR (c : UInt8) (e : Int) (r : Bs) : Bs := if signB c e r then (signP c r).2 else skip r
set_option maxHeartbeats 2000000 in
theorem sign_any (c : UInt8) (hc0 : c ≠ 0) (s : ByteArray) (hs : (s.size : Int) ≤ 1000000) (r a : Nat) (d e : Int) (w : World) (h : RD w r s a d e) (ha : (a : Int) ≤ 1500000) :
    Calls Try.prog 60 #[.pointer (some ⟨r, 0, none⟩), byteV c] w fun x w' => x = .returned (.bool (signB c e (s.data.toList.drop a))) ∧ ∃ a', At s a a' (signR c e (s.data.toList.drop a)) ∧ RD w' r s a' d e ∧ RG r w w' := by
  have HA := Lib.hid ha
  have HS := Lib.hid hs
  have CB := Lib.hid (blanks_any s hs r a d e w h (by omega))
  obtain ⟨X, hX⟩ : ∃ X, X = s.data.toList.drop a := ⟨_, rfl⟩
  rw [← hX] at CB ⊢
  clear h ha hs hX
  unfold byteV
  go_enter Try.func60, Try.ntmps60
  go_wp2_with fail
  refine calls_then CB.out ?_
  rintro y w1 ⟨rfl, a1, h1, h2, h3, hrd, hrg⟩
  have HAT := Lib.hid (show At s a a1 (skip X) from ⟨h1, h2, h3⟩)
  have HRG := Lib.hid hrg
  have CL := Lib.hid (look_any s r a1 d e w1 hrd)
  clear h1 h2 h3 hrd hrg
  go_wp2_with fail
  refine calls_then CL.out ?_
  rintro y w2 ⟨rfl, hrd, hrg⟩
  have HRG2 := Lib.hid (HRG.out.trans hrg)
  have HRD2 := Lib.hid hrd
  have hlk : lookE s a1 e = if e = 0 then look (skip X) else 0 := lookE_skip HAT.out.rest
  by_cases hq : lookE s a1 e = c
  · have he : e = 0 := Classical.byContradiction fun hn => hc0 (by rw [← hq, hlk, if_neg hn])
    subst he
    rw [if_pos rfl] at hlk
    have hl : look (skip X) = c := by rw [← hlk, hq]
    have HB := Lib.hid (show signB c 0 X = true by simp [signB, signP, hl])
    have HR := Lib.hid (show signR c 0 X = skip (skip X).tail by rw [signR, if_pos HB.out, signP, if_pos hl])
    have HLT := Lib.hid (show a1 < s.size from look_lt (by rw [HAT.out.rest, hl]; exact hc0))
    have hbig : (a1 : Int) ≤ 1500000 := HAT.out.big HS.out HA.out
    have CB2 := Lib.hid (fun u (h : RD u r s (a1 + 1) d 0) => blanks_any s HS.out r (a1 + 1) d 0 u h (by omega))
    obtain ⟨c0, c1, -, -⟩ := HRD2.out.cells
    rw [hq]
    unfold byteV
    clear hq hl hlk hrd hrg
    go_wp2_with (refine wpList_put_cell (x := .tmp 17) (i := 1) HRD2.out rfl rfl rfl rfl (by kernel_rfl) (by simp [rdCells]) rfl ?_; intro w5 hb5 hw5)
    have HRD5 := Lib.hid (show RD w5 r s (a1 + 1) d 0 from hb5)
    have HRG5 := Lib.hid (HRG2.out.trans (.wrote hw5))
    clear hb5 hw5 c0 c1
    refine calls_then (CB2.out _ HRD5.out) ?_
    rintro y w6 ⟨rfl, a2, h1, h2, h3, hrd, hrg⟩
    have HRG6 := Lib.hid (HRG5.out.trans hrg)
    have HRD6 := Lib.hid hrd
    have HAT6 := Lib.hid (show At s a a2 (skip (skip X).tail) from by
      have k1 := HAT.out.le
      have k2 := HAT.out.top
      have k3 := HLT.out
      refine ⟨by omega, .inr (by omega), ?_⟩
      rw [h3, drop_tail, HAT.out.rest])
    clear h1 h2 h3 hrd hrg hbig
    go_wp2_with fail
    go_ret
    exact ⟨by rw [HB.out]; rfl, a2, by rw [HR.out]; exact HAT6.out, HRD6.out, HRG6.out⟩
  · have hne : (((lookE s a1 e).toNat : Nat) : Int) ≠ ((c.toNat : Nat) : Int) := fun h => hq (UInt8.toNat.inj (by omega))
    have hbn : ((((lookE s a1 e).toNat : Nat) : Int) == ((c.toNat : Nat) : Int)) = false := by simpa using hne
    have HB := Lib.hid (show signB c e X = false by
      unfold signB
      by_cases he : e = 0
      · rw [if_pos he] at hlk
        rw [hlk] at hq
        simp [he, signP, hq]
      · simp [he])
    have HR := Lib.hid (show signR c e X = skip X by rw [signR, HB.out]; rfl)
    unfold byteV
    generalize (((lookE s a1 e).toNat : Nat) : Int) = z1 at *
    generalize ((c.toNat : Nat) : Int) = z2 at *
    have hbn2 : (z1 != z2) = true := by simpa using hne
    clear hq hlk hrd hrg hne
    go_wp2_with fail
    go_ret
    exact ⟨by rw [HB.out]; rfl, a1, by rw [HR.out]; exact HAT.out, HRD2.out, HRG2.out⟩
/-- the error behind a sign that must stand -/
def mustE (c : UInt8) (e : Int) (r : Bs) : Int := if e = 0 then (if (signP c r).1 then 0 else 13) else e
theorem must_any (c : UInt8) (hc0 : c ≠ 0) (s : ByteArray) (hs : (s.size : Int) ≤ 1000000) (r a : Nat) (d e : Int) (w : World) (h : RD w r s a d e) (ha : (a : Int) ≤ 1500000) :
    Calls Try.prog 61 #[.pointer (some ⟨r, 0, none⟩), byteV c] w fun x w' => x = .returned (.tuple #[]) ∧ ∃ a', At s a a' (signR c e (s.data.toList.drop a)) ∧ RD w' r s a' d (mustE c e (s.data.toList.drop a)) ∧ RG r w w' := by
  have C := Lib.hid (sign_any c hc0 s hs r a d e w h ha)
  obtain ⟨X, hX⟩ : ∃ X, X = s.data.toList.drop a := ⟨_, rfl⟩
  rw [← hX] at C ⊢
  clear h ha hs hX hc0
  unfold byteV at C ⊢
  obtain ⟨b, hb⟩ : ∃ b, b = signB c e X := ⟨_, rfl⟩
  rw [← hb] at C
  have HB := Lib.hid hb
  clear hb
  go_enter Try.func61, Try.ntmps61
  go_wp2_with fail
  refine calls_then C.out ?_
  rintro y w1 ⟨rfl, a1, hat, hrd, hrg⟩
  have HAT := Lib.hid hat
  have HRD := Lib.hid hrd
  have HRG := Lib.hid hrg
  clear hat hrd hrg
  cases b with
  | true =>
    have HE := Lib.hid (show mustE c e X = e by
      have := HB.out
      unfold signB at this
      unfold mustE
      by_cases he : e = 0
      · simp [he] at this
        simp [he, ← this]
      · simp [he])
    go_wp2_with fail
    go_end0
    exact ⟨rfl, a1, HAT.out, by rw [HE.out]; exact HRD.out, HRG.out⟩
  | false =>
    have HE := Lib.hid (show mustE c e X = if e = 0 then 13 else e by
      have := HB.out
      unfold signB at this
      unfold mustE
      by_cases he : e = 0
      · simp [he] at this
        simp [he, ← this]
      · simp [he])
    have CF := Lib.hid (fail_any 13 s r a1 d e w1 HRD.out)
    go_wp2_with fail
    refine calls_then CF.out ?_
    rintro y w2 ⟨rfl, hrd, hrg⟩
    have HRD2 := Lib.hid hrd
    have HRG2 := Lib.hid (HRG.out.trans hrg)
    clear hrd hrg
    go_wp2_with fail
    go_end0
    exact ⟨rfl, a1, HAT.out, by rw [HE.out]; exact HRD2.out, HRG2.out⟩
end Go.Proofs.Ytcfbnjaelniahaa.Js
