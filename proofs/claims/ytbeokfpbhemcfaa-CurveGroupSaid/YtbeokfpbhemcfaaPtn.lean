/-
  Plain: points as four numbers modulo p.
-/
import Derived.Test.YtbeokfpbhemcfaaFew
import Derived.Test.YtbeokfpbhemcfaaPrime
namespace Go.Proofs.Ytbeokfpbhemcfaa
set_option linter.unusedSimpArgs false
set_option linter.unusedVariables false
open Go.RowKit

structure PtN where
  x : Nat
  y : Nat
  z : Nat
  t : Nat
deriving DecidableEq
def sN (a b : Nat) : Nat := (a + b) % PN
def uN (a b : Nat) : Nat := (a + (PN - b % PN)) % PN
def mN (a b : Nat) : Nat := a * b % PN
theorem uN_sm (a b : Nat) : Sm (uN a b + b) a := by
  unfold Sm uN
  simp only [PN]
  omega
def Rp (x : E5) (n : Nat) : Prop := Sm x.val n
theorem Rp.add {x y : E5} {a b : Nat} (h : Rp x a) (k : Rp y b) : Rp (addE x y) (sN a b) := (sm_add x y).trans (Sm.trans (Sm.add h k) (show Sm (a + b) (sN a b) from (Nat.mod_mod _ _).symm))
theorem Rp.mul {x y : E5} {a b : Nat} (h : Rp x a) (k : Rp y b) : Rp (mulE x y) (mN a b) := (sm_mul x y).trans (Sm.trans (Sm.mul h k) (show Sm (a * b) (mN a b) from (Nat.mod_mod _ _).symm))
theorem Rp.sub {x y : E5} {a b : Nat} (hy : y.Ok) (h : Rp x a) (k : Rp y b) : Rp (subE x y) (uN a b) := by
  refine Sm.back (c := b) ?_
  exact (((Sm.refl _).add k.symm).trans (sm_sub hy)).trans (h.trans (uN_sm a b).symm)
def sumN (p q : PtN) (w : Nat) : PtN :=
  let a := mN (uN p.y p.x) (uN q.y q.x)
  let b := mN (sN p.y p.x) (sN q.y q.x)
  let c := mN (mN p.t w) q.t
  let z := mN p.z q.z
  let e := uN b a
  let h := sN b a
  let f := uN (sN z z) c
  let g := sN (sN z z) c
  ⟨mN e f, mN g h, mN f g, mN e h⟩
structure Rep (p : Pt4) (n : PtN) : Prop where
  x : Rp p.x n.x
  y : Rp p.y n.y
  z : Rp p.z n.z
  t : Rp p.t n.t
theorem Rep.sum {p q : Pt4} {tw : E5} {m n : PtN} {w : Nat} (hp : p.Ok) (hq : q.Ok) (hw : tw.Ok) (h : Rep p m) (k : Rep q n) (l : Rp tw w) : Rep (sumP p q tw) (sumN m n w) := by
  have okA := mul_ok (sub_ok hp.y hp.x) (sub_ok hq.y hq.x)
  have okC := mul_ok (mul_ok hp.t hw) hq.t
  have a := (h.y.sub hp.x h.x).mul (k.y.sub hq.x k.x)
  have b := (h.y.add h.x).mul (k.y.add k.x)
  have c := (h.t.mul l).mul k.t
  have z := h.z.mul k.z
  have e := b.sub okA a
  have hh := b.add a
  have f := (z.add z).sub okC c
  have g := (z.add z).add c
  exact ⟨e.mul f, g.mul hh, f.mul g, e.mul hh⟩
def eqN (p q : PtN) : Bool := decide (mN p.x q.z = mN q.x p.z) && decide (mN p.y q.z = mN q.y p.z)
theorem eqB_rp {x y : E5} {a b : Nat} (hx : x.Ok) (hy : y.Ok) (h : Rp x a) (k : Rp y b) : eqB x y = decide (a % PN = b % PN) := by
  rw [eqB, eqE hx.big hy.big, show x.val % PN = a % PN from h, show y.val % PN = b % PN from k]
theorem eqB_mul {x y u v : E5} {a b c d : Nat} (hx : x.Ok) (hy : y.Ok) (hu : u.Ok) (hv : v.Ok) (h : Rp x a) (k : Rp y b) (l : Rp u c) (m : Rp v d) : eqB (mulE x y) (mulE u v) = decide (mN a b = mN c d) := by
  rw [eqB_rp (mul_ok hx hy) (mul_ok hu hv) (h.mul k) (l.mul m)]
  exact decide_eq_decide.mpr (by rw [mN, mN, Nat.mod_mod, Nat.mod_mod])
theorem eqP_rep {p q : Pt4} {m n : PtN} (hp : p.Ok) (hq : q.Ok) (h : Rep p m) (k : Rep q n) : eqP p q = eqN m n := by
  rw [eqP, eqN, eqB_mul hp.x hq.z hq.x hp.z h.x k.z k.x h.z, eqB_mul hp.y hq.z hq.y hp.z h.y k.z k.y h.z]
/-- the numbers of the curve's constants -/
def dN : Nat := 37095705934669439343138083508754565189542113879843219016388785533085940283555
def bxN : Nat := 15112221349535400772501151409588531511454012693041857206046113283949847762202
def byNN : Nat := 46316835694926478169428394003475163141307993866256225615783033603165251855960
theorem known_val {l : List Nat} {n : Nat} (h1 : mayR (toB (revS l 16)) = true) (h2 : leV (digs (toB (revS l 16))) = n) (h3 : n < 2 ^ 255) : (knownE l).val = n := by
  rw [knownE, readE, if_pos h1, ofN_val, h2, Nat.mod_eq_of_lt h3]
theorem dE_val : dE.val = dN := known_val (by decide) (by decide) (by decide)
theorem bx_val : (knownE bxL).val = bxN := known_val (by decide) (by decide) (by decide)
theorem by_val : (knownE byL).val = byNN := known_val (by decide) (by decide) (by decide)
def pmSN (T : Nat) (p out : PtN) (bit : Nat) : PtN := if bit = 1 then sumN (sumN out out T) p T else sumN out out T
def pmBN (T : Nat) (p out : PtN) (b : Nat) : Nat → PtN
  | 0 => out
  | j + 1 => pmSN T p (pmBN T p out b j) (b / 2 ^ (7 - j) % 2)
def zeroN : PtN := ⟨0, 1, 1, 0⟩
def pmLN (T : Nat) (p : PtN) (l : List Nat) : Nat → PtN
  | 0 => zeroN
  | j + 1 => pmBN T p (pmLN T p l j) (l.getD (l.length - 1 - j) 0) 8
theorem rp_nat (n : Nat) : Rp (natE n) n := by rw [Rp, natE_val]; exact Sm.refl n
theorem rp_int (n : Nat) : Rp (intE (n : Int)) n := by rw [intE_nat]; exact rp_nat n
theorem rep_of {x y : E5} {a b : Nat} (h : Rp x a) (k : Rp y b) : Rep (ofP x y) ⟨a, b, 1, mN a b⟩ := ⟨h, k, rp_int 1, h.mul k⟩
theorem rep_zero : Rep zeroP zeroN := rep_of (rp_int 0) (rp_int 1)
section
variable {T : E5} {w : Nat} {p out : Pt4} {m n : PtN} (hT : T.Ok) (hw : Rp T w) (hp : p.Ok) (h : Rep p m)
include hT hw hp h
theorem rep_S (ho : out.Ok) (k : Rep out n) (bit : Nat) : Rep (pmS T p out bit) (pmSN w m n bit) := by
  unfold pmS pmSN
  split
  · exact Rep.sum (sumP_ok ho ho hT) hp hT (Rep.sum ho ho hT k k hw) h hw
  · exact Rep.sum ho ho hT k k hw
theorem rep_B (ho : out.Ok) (k : Rep out n) (b : Nat) : ∀ j, Rep (pmB T p out b j) (pmBN w m n b j)
  | 0 => k
  | j + 1 => rep_S hT hw hp h (pmB_ok hT hp ho b j) (rep_B ho k b j) _
theorem rep_L (l : List Nat) : ∀ j, Rep (pmL T p l j) (pmLN w m l j)
  | 0 => rep_zero
  | j + 1 => rep_B hT hw hp h (pmL_ok hT hp l j) (rep_L l j) _ 8
end
def d2N : Nat := sN dN dN
theorem rp_d2 : Rp (addE dE dE) d2N := by
  have h : Rp dE dN := by rw [Rp, dE_val]; exact Sm.refl _
  exact h.add h
def baseN : PtN := ⟨bxN, byNN, 1, mN bxN byNN⟩
theorem rep_base : Rep baseP baseN := rep_of (by rw [Rp, bx_val]; exact Sm.refl _) (by rw [Rp, by_val]; exact Sm.refl _)
def mulN (p : PtN) (l : List UInt8) : PtN := pmLN d2N p (digs (l.take 32)) (min l.length 32)
theorem rep_mul {p : Pt4} {m : PtN} (hp : p.Ok) (h : Rep p m) (l : List UInt8) : Rep (mulP p l) (mulN m l) := rep_L d2_ok rp_d2 hp h _ _
theorem base_one : eqP (mulP baseP [1]) baseP = true := by
  rw [eqP_rep (mulP_ok baseP_ok _) baseP_ok (rep_mul baseP_ok rep_base _) rep_base]
  decide
theorem base_zero : eqP baseP zeroP = false := by
  rw [eqP_rep baseP_ok zeroP_ok rep_base rep_zero]
  decide
end Go.Proofs.Ytbeokfpbhemcfaa
