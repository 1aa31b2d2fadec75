/-
  Plain: a point's four elements stand for a pair of numbers modulo p on the curve.
-/
import Derived.Test.YtbeokfpbhemcfaaNegW
import Derived.Test.YtbeokfpbhemcfaaEd
namespace Go.Proofs.Ytbeokfpbhemcfaa
set_option linter.unusedSimpArgs false
set_option linter.unusedVariables false
open Go.RowKit

section
variable {n : Nat} [NeZero n]
theorem gn_add (a b : Nat) : Fin.ofNat n (a + b) = Fin.ofNat n a + Fin.ofNat n b := by
  apply Fin.ext
  rw [Fin.val_add]
  simp only [Fin.ofNat]
  rw [← Nat.add_mod]
theorem gn_mul (a b : Nat) : Fin.ofNat n (a * b) = Fin.ofNat n a * Fin.ofNat n b := by
  apply Fin.ext
  rw [Fin.val_mul]
  simp only [Fin.ofNat]
  rw [← Nat.mul_mod]
theorem gn_eq {a b : Nat} : Fin.ofNat n a = Fin.ofNat n b ↔ a % n = b % n := by
  constructor
  · intro h
    have := congrArg Fin.val h
    simpa only [Fin.ofNat] using this
  · intro h
    apply Fin.ext
    simpa only [Fin.ofNat] using h
theorem gn_val (x : Fin n) : Fin.ofNat n x.val = x := Fin.ext (Nat.mod_eq_of_lt x.isLt)
theorem gn_mod (a : Nat) : Fin.ofNat n (a % n) = Fin.ofNat n a := gn_eq.2 (Nat.mod_mod _ _)
theorem gn_sub {a b c : Nat} (h : (a + b) % n = c % n) : Fin.ofNat n a = Fin.ofNat n c - Fin.ofNat n b := by
  have h1 : Fin.ofNat n a + Fin.ofNat n b = Fin.ofNat n c := by rw [← gn_add]; exact gn_eq.2 h
  rw [← h1]
  generalize Fin.ofNat n a = x
  generalize Fin.ofNat n b = y
  grind -lia
end
instance : NeZero PN := ⟨by decide⟩
abbrev FP := Fin PN
def fn (a : Nat) : FP := Fin.ofNat PN a
theorem fn_add (a b : Nat) : fn (a + b) = fn a + fn b := gn_add a b
theorem fn_mul (a b : Nat) : fn (a * b) = fn a * fn b := gn_mul a b
theorem fn_eq {a b : Nat} : fn a = fn b ↔ a % PN = b % PN := gn_eq
theorem fn_val (x : FP) : fn x.val = x := gn_val x
theorem fn_mod (a : Nat) : fn (a % PN) = fn a := gn_mod a
theorem val_fn (a : Nat) : (fn a).val = a % PN := rfl
theorem fn_one : fn 1 = 1 := rfl
theorem fn_zero : fn 0 = 0 := rfl
theorem fn_ne {a : Nat} : fn a ≠ 0 ↔ a % PN ≠ 0 := by
  rw [← fn_zero, Ne, fn_eq, Nat.zero_mod]
def dF : FP := fn dN
def ivF (a : FP) : FP := fn (a.val ^ (PN - 2))
theorem iv_one (a : FP) (h : a ≠ 0) : a * ivF a = 1 := by
  obtain ⟨e, he⟩ : ∃ e, e = PN - 2 := ⟨_, rfl⟩
  have he1 : PN - 1 = e + 1 := by rw [he]; decide
  have h1 : a.val % PN ≠ 0 := by rw [← fn_ne, fn_val]; exact h
  have h2 := fermatP a.val h1
  rw [he1, Nat.pow_succ] at h2
  rw [ivF, ← he]
  conv => lhs; lhs; rw [← fn_val a]
  rw [← fn_mul, ← fn_one, fn_eq, Nat.mul_comm, h2]
  decide
def rootN : Nat := 19681161376707505956807079304988542015446066515923890162744021073123829784752
def halfL : List Nat := (List.range 32).map fun j => (PN - 1) / 2 / 256 ^ j % 256
theorem half_val : leV halfL = (PN - 1) / 2 := by decide
theorem d_half : dN ^ ((PN - 1) / 2) % PN = PN - 1 := by
  rw [← half_val, ← pm_eq]
  decide
theorem d_none (w : FP) : w * w ≠ dF := by
  intro h
  obtain ⟨k, hk⟩ : ∃ k, k = (PN - 1) / 2 := ⟨_, rfl⟩
  have hk2 : PN - 1 = k + k := by rw [hk]; decide
  have hd := d_half
  rw [← hk] at hd
  have h1 : w.val * w.val % PN = dN % PN := by rw [← fn_eq, fn_mul, fn_val]; exact h
  by_cases hw : w.val % PN = 0
  · rw [Nat.mul_mod, hw] at h1
    exact absurd h1 (by decide)
  · have h2 := fermatP w.val hw
    rw [hk2, Nat.pow_add, ← Nat.mul_pow, Nat.pow_mod, h1, ← Nat.pow_mod, hd] at h2
    exact absurd h2 (by decide)
theorem FF : Ed.Fld PN dF ivF where
  iv1 := iv_one
  one := by decide
  two := by decide
  i := ⟨fn rootN, by decide⟩
  ns := d_none
abbrev PtF := Ed.Pn PN dF
def fv (x : E5) : FP := fn x.val
theorem fv_add (x y : E5) : fv (addE x y) = fv x + fv y := by rw [fv, fv, fv, ← fn_add]; exact fn_eq.2 (sm_add x y)
theorem fv_mul (x y : E5) : fv (mulE x y) = fv x * fv y := by rw [fv, fv, fv, ← fn_mul]; exact fn_eq.2 (sm_mul x y)
theorem fv_sub {x y : E5} (hy : y.Ok) : fv (subE x y) = fv x - fv y := gn_sub (sm_sub hy)
theorem fv_inv (x : E5) : fv (invE x) = ivF (fv x) := by
  rw [fv, fv, ivF]
  refine fn_eq.2 ?_
  rw [invE_val, val_fn]
  generalize PN - 2 = e
  rw [Nat.pow_mod]
theorem fv_int (n : Nat) : fv (intE (n : Int)) = fn n := by rw [fv, intE_nat, natE_val]
theorem fv_z : fv zE = 0 := rfl
structure Is (p : Pt4) (P : PtF) : Prop where
  z : fv p.z ≠ 0
  x : fv p.x = P.x * fv p.z
  y : fv p.y = P.y * fv p.z
  t : fv p.t = P.x * P.y * fv p.z
def plus (P Q : PtF) : PtF := Ed.add FF P Q
def times (P : PtF) (k : Nat) : PtF := Ed.mul FF P k
def zeroF : PtF := Ed.zero dF
theorem Is.sum {p q : Pt4} {P Q : PtF} {tw : E5} (hp : p.Ok) (hq : q.Ok) (hw : tw.Ok) (ht : fv tw = dF + dF) (h : Is p P) (k : Is q Q) : Is (sumP p q tw) (plus P Q) := by
  have okA := mul_ok (sub_ok hp.y hp.x) (sub_ok hq.y hq.x)
  have okC := mul_ok (mul_ok hp.t hw) hq.t
  obtain ⟨r1, r2, r3, r4⟩ := Ed.four FF P.on Q.on (Ed.add_sum FF P Q) h.z k.z h.x h.y h.t k.x k.y k.t ht rfl rfl rfl rfl rfl rfl rfl rfl
  rw [← fv_sub hp.x, ← fv_sub hq.x, ← fv_add, ← fv_add, ← fv_mul, ← fv_mul, ← fv_mul, ← fv_mul, ← fv_mul, ← fv_sub okA, ← fv_add, ← fv_add, ← fv_sub okC, ← fv_add] at *
  exact ⟨by rw [sumP, fv_mul]; exact r1, by rw [sumP, fv_mul, fv_mul]; exact r2, by rw [sumP, fv_mul, fv_mul]; exact r3, by rw [sumP, fv_mul, fv_mul]; exact r4⟩
theorem Is.neg {p : Pt4} {P : PtF} (hp : p.Ok) (h : Is p P) : Is (negP p) (Ed.neg P) := by
  refine ⟨h.z, ?_, h.y, ?_⟩
  · show fv (subE zE p.x) = -P.x * fv p.z
    rw [fv_sub hp.x, fv_z, h.x]
    grind -lia
  · show fv (subE zE p.t) = -P.x * P.y * fv p.z
    rw [fv_sub hp.t, fv_z, h.t]
    grind -lia
theorem is_of {x y : E5} {P : PtF} (hx : fv x = P.x) (hy : fv y = P.y) : Is (ofP x y) P := by
  have h1 : fv (intE 1) = 1 := fv_int 1
  refine ⟨?_, ?_, ?_, ?_⟩
  · show fv (intE 1) ≠ 0
    rw [h1]; exact FF.one
  · show fv x = P.x * fv (intE 1)
    rw [h1, hx]; grind -lia
  · show fv y = P.y * fv (intE 1)
    rw [h1, hy]; grind -lia
  · show fv (mulE x y) = P.x * P.y * fv (intE 1)
    rw [h1, fv_mul, hx, hy]; grind -lia
theorem is_zero : Is zeroP zeroF := is_of (fv_int 0) (fv_int 1)
theorem base_on : Ed.On dF (fn bxN) (fn byNN) := by unfold Ed.On; decide
def baseF : PtF := ⟨fn bxN, fn byNN, base_on⟩
theorem is_base : Is baseP baseF := by
  have h : ∀ x y, fn x.val = baseF.x → fn y.val = baseF.y → Is (ofP x y) baseF := fun x y hx hy => is_of hx hy
  exact h _ _ (by rw [bx_val]; rfl) (by rw [by_val]; rfl)
theorem fv_d : fv dE = dF := by rw [fv, dE_val, dF]
theorem fv_d2 : fv (addE dE dE) = dF + dF := by rw [fv_add, fv_d]
theorem Is.add {p q : Pt4} {P Q : PtF} (hp : p.Ok) (hq : q.Ok) (h : Is p P) (k : Is q Q) : Is (addP p q) (plus P Q) := Is.sum hp hq d2_ok fv_d2 h k
section
variable {p : Pt4} {P : PtF} {T : E5} (hT : T.Ok) (ht : fv T = dF + dF) (hp : p.Ok) (h : Is p P)
include hT ht hp h
theorem is_S {out : Pt4} {n bit : Nat} (ho : out.Ok) (k : Is out (times P n)) (hb : bit < 2) : Is (pmS T p out bit) (times P (2 * n + bit)) := by
  have h2 : Is (sumP out out T) (times P (2 * n)) := by
    have := Is.sum ho ho hT ht k k
    rwa [show plus (times P n) (times P n) = times P (2 * n) from (Ed.mul_two FF P n).symm] at this
  unfold pmS
  split
  · next e =>
    rw [e]
    exact Is.sum (sumP_ok ho ho hT) hp hT ht h2 h
  · next e =>
    obtain rfl : bit = 0 := by omega
    exact h2
theorem is_B {out : Pt4} {n : Nat} (ho : out.Ok) (k : Is out (times P n)) (b : Nat) : ∀ j, j ≤ 8 → Is (pmB T p out b j) (times P (n * 2 ^ j + b % 256 / 2 ^ (8 - j)))
  | 0, _ => by
    have e : b % 256 / 2 ^ (8 - 0) = 0 := Nat.div_eq_of_lt (Nat.mod_lt _ (by decide))
    rw [e, Nat.pow_zero, Nat.mul_one, Nat.add_zero]
    exact k
  | j + 1, hj => by
    have ih := is_B ho k b j (by omega)
    have e := is_S hT ht hp h (bit := b / 2 ^ (7 - j) % 2) (pmB_ok hT hp ho b j) ih (Nat.mod_lt _ (by decide))
    rw [pmB]
    have hp : 2 ^ (8 - j) = 2 ^ (7 - j) * 2 := by rw [← Nat.pow_succ]; congr 1; omega
    have h1 : b % 256 / 2 ^ (8 - j) = b % 256 / 2 ^ (7 - j) / 2 := by rw [hp, Nat.div_div_eq_div_mul]
    have h2 : b / 2 ^ (7 - j) % 2 = b % 256 / 2 ^ (7 - j) % 2 := by
      obtain ⟨d, hd⟩ : ∃ d, 8 = (7 - j) + (1 + d) := ⟨j, by omega⟩
      have h8 : 2 ^ (7 - j) * (2 * 2 ^ d) = 256 := by
        have h9 : 2 ^ ((7 - j) + (1 + d)) = 256 := by rw [← hd]
        rw [Nat.pow_add, Nat.pow_add, Nat.pow_one] at h9
        exact h9
      obtain ⟨c, hc⟩ : ∃ c, c = b / 256 := ⟨_, rfl⟩
      have e4 : 2 ^ (7 - j) * (2 * (2 ^ d * c)) = 256 * c := by rw [← h8]; simp only [Nat.mul_assoc]
      have e3 : b = b % 256 + 2 ^ (7 - j) * (2 * (2 ^ d * c)) := by rw [e4, hc]; exact (Nat.mod_add_div b 256).symm
      conv => lhs; rw [e3, Nat.add_mul_div_left _ _ (Nat.two_pow_pos _), Nat.add_mul_mod_self_left]
    have e6 : 2 * (n * 2 ^ j + b % 256 / 2 ^ (8 - j)) + b / 2 ^ (7 - j) % 2 = n * 2 ^ (j + 1) + b % 256 / 2 ^ (8 - (j + 1)) := by
      rw [h1, h2, show 8 - (j + 1) = 7 - j by omega, Nat.pow_succ]
      have e5 : 2 * (n * 2 ^ j + b % 256 / 2 ^ (7 - j) / 2) = n * (2 ^ j * 2) + 2 * (b % 256 / 2 ^ (7 - j) / 2) := by
        rw [Nat.mul_add, ← Nat.mul_assoc n, Nat.mul_comm 2 (n * 2 ^ j)]
      rw [e5]
      omega
    rwa [e6] at e
theorem is_L (l : List Nat) (hl : ∀ d ∈ l, d < 256) : ∀ j, j ≤ l.length → Is (pmL T p l j) (times P (leV (l.drop (l.length - j))))
  | 0, _ => by
    rw [Nat.sub_zero, List.drop_length, leV, pmL]
    exact is_zero
  | j + 1, hj => by
    have hlt : l.length - 1 - j < l.length := by omega
    have hd : l.getD (l.length - 1 - j) 0 = l[l.length - 1 - j] := by rw [List.getD_eq_getElem?_getD, List.getElem?_eq_getElem hlt]; rfl
    have hb : l[l.length - 1 - j] < 256 := hl _ (List.getElem_mem hlt)
    have e := is_B hT ht hp h (pmL_ok hT hp l j) (is_L l hl j (by omega)) l[l.length - 1 - j] 8 (Nat.le_refl _)
    rw [pmL, hd, show l.length - (j + 1) = l.length - 1 - j by omega, List.drop_eq_getElem_cons hlt, leV, show l.length - 1 - j + 1 = l.length - j by omega]
    rw [Nat.mod_eq_of_lt hb, show 8 - 8 = 0 from rfl, Nat.pow_zero, Nat.div_one, show (2 : Nat) ^ 8 = 256 from rfl, Nat.mul_comm, Nat.add_comm] at e
    exact e
end
/-- a point's multiple is that by the number of the first 32 bytes -/
theorem Is.mul {p : Pt4} {P : PtF} (hp : p.Ok) (h : Is p P) (l : List UInt8) : Is (mulP p l) (times P (leV (digs (l.take 32)))) := by
  have e := is_L d2_ok fv_d2 hp h (digs (l.take 32)) (digs_lt _) (min l.length 32) (by rw [digs, List.length_map, List.length_take, Nat.min_comm]; exact Nat.le_refl _)
  rw [show (digs (l.take 32)).length - min l.length 32 = 0 by rw [digs, List.length_map, List.length_take, Nat.min_comm, Nat.sub_self], List.drop_zero] at e
  exact e
/-- two are told the same just if they are -/
theorem eqP_is {p q : Pt4} {P Q : PtF} (hp : p.Ok) (hq : q.Ok) (h : Is p P) (k : Is q Q) : eqP p q = true ↔ P = Q := by
  have e1 : ∀ a b c d : E5, a.Ok → b.Ok → c.Ok → d.Ok → (eqB (mulE a b) (mulE c d) = true ↔ fv a * fv b = fv c * fv d) := fun a b c d ha hb hc hd => by
    rw [eqB, eqE (mul_ok ha hb).big (mul_ok hc hd).big, decide_eq_true_iff, ← fn_eq, ← fv_mul, ← fv_mul]
    exact Iff.rfl
  rw [eqP, Bool.and_eq_true, e1 _ _ _ _ hp.x hq.z hq.x hp.z, e1 _ _ _ _ hp.y hq.z hq.y hp.z, h.x, h.y, k.x, k.y]
  have hz := Ed.mul_ne FF h.z k.z
  constructor
  · rintro ⟨h1, h2⟩
    refine Ed.Pn.eq (Ed.cancel FF hz ?_) (Ed.cancel FF hz ?_)
    · clear h2 hz
      generalize fv p.z = a at *
      generalize fv q.z = b at *
      grind -lia
    · clear h1 hz
      generalize fv p.z = a at *
      generalize fv q.z = b at *
      grind -lia
  · rintro rfl
    generalize fv p.z = a
    generalize fv q.z = b
    constructor <;> grind -lia
end Go.Proofs.Ytbeokfpbhemcfaa
