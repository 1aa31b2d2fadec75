/-
  Joined texts: Er Es Et Eb Ea Xc.
-/
import Derived.Test.YtbeokfpbhemcfaaJ7
import Derived.Test.YtbeokfpbhemcfaaJ10
import Derived.Test.YtbeokfpbhemcfaaJ9
import Derived.Test.YtbeokfpbhemcfaaJ1
/-
  Plain: roots modulo p; which numbers are a point's x.
-/
namespace Go.Proofs.Ytbeokfpbhemcfaa
set_option linter.unusedSimpArgs false
set_option linter.unusedVariables false
open Go.RowKit

section
variable {n : Nat} [NeZero n]
/-- a power -/
def pwG (x : Fin n) : Nat → Fin n
  | 0 => 1
  | k + 1 => pwG x k * x
theorem pwG_one (x : Fin n) : pwG x 1 = x := by show 1 * x = x; grind -lia
theorem pwG_add (x : Fin n) (a : Nat) : ∀ b, pwG x (a + b) = pwG x a * pwG x b
  | 0 => by show pwG x a = pwG x a * 1; grind -lia
  | b + 1 => by
    show pwG x (a + b) * x = pwG x a * (pwG x b * x)
    rw [pwG_add x a b]
    grind -lia
theorem pwG_mul (x y : Fin n) : ∀ b, pwG (x * y) b = pwG x b * pwG y b
  | 0 => by show (1 : Fin n) = 1 * 1; grind -lia
  | b + 1 => by
    show pwG (x * y) b * (x * y) = (pwG x b * x) * (pwG y b * y)
    rw [pwG_mul x y b]
    grind -lia
theorem pwG_pw (x : Fin n) (a : Nat) : ∀ b, pwG x (a * b) = pwG (pwG x a) b
  | 0 => rfl
  | b + 1 => by rw [Nat.mul_succ, pwG_add, pwG_pw x a b]; rfl
theorem pwG_zero : ∀ b, 0 < b → pwG (0 : Fin n) b = 0
  | b + 1, _ => by show pwG 0 b * 0 = 0; grind -lia
theorem gn_pow (a : Nat) : ∀ k, Fin.ofNat n (a ^ k) = pwG (Fin.ofNat n a) k
  | 0 => rfl
  | k + 1 => by rw [Nat.pow_succ, gn_mul, gn_pow a k]; rfl
end
def pw (x : FP) (k : Nat) : FP := pwG x k
theorem fn_pow (a k : Nat) : fn (a ^ k) = pw (fn a) k := gn_pow a k
theorem pw_pw (x : FP) (a b : Nat) : pw x (a * b) = pw (pw x a) b := pwG_pw x a b
theorem pw_add (x : FP) (a b : Nat) : pw x (a + b) = pw x a * pw x b := pwG_add x a b
theorem pw_mul (x y : FP) (k : Nat) : pw (x * y) k = pw x k * pw y k := pwG_mul x y k
theorem pw_one (x : FP) : pw x 1 = x := pwG_one x
theorem pw_zero {k : Nat} (h : 0 < k) : pw 0 k = 0 := pwG_zero k h
theorem pw_fermat {x : FP} (h : x ≠ 0) : pw x (PN - 1) = 1 := by
  have h1 : x.val % PN ≠ 0 := by rw [← fn_ne, fn_val]; exact h
  have h2 := fermatP x.val h1
  rw [← fn_val x, ← fn_pow, ← fn_one, fn_eq, h2]
  decide
section
variable {n : Nat} [NeZero n] {d : Fin n} {iv : Fin n → Fin n} (F : Ed.Fld n d iv)
include F
theorem g_zero {a b : Fin n} (h : a * b = 0) : a = 0 ∨ b = 0 := by
  by_cases hb : b = 0
  · exact .inr hb
  · exact .inl (Ed.fac F h hb)
theorem g_one {w : Fin n} (h : w * w = 1) : w = 1 ∨ w = -1 := by
  have h1 : (w - 1) * (w + 1) = 0 := by grind -lia
  rcases g_zero F h1 with h2 | h2
  · left; clear h1 h; grind -lia
  · right; clear h1 h; grind -lia
/-- two roots of the same -/
theorem g_two {v x y u : Fin n} (hv : v ≠ 0) (h : v * (x * x) = u) (k : v * (y * y) = u) : y = x ∨ y = -x := by
  have h1 : (y - x) * (y + x) * v = 0 := by grind -lia
  have h2 := Ed.fac F h1 hv
  rcases g_zero F h2 with h3 | h3
  · left; clear h1 h2 h k; grind -lia
  · right; clear h1 h2 h k; grind -lia
/-- d y y + 1 is not 0 -/
theorem g_den (y : Fin n) : y * y * d + 1 ≠ 0 := by
  intro h
  obtain ⟨i, hi⟩ := F.i
  by_cases hy : y = 0
  · apply F.one; subst hy; grind -lia
  · exact Ed.no_sq F (u := i) (v := y) hy (by grind -lia)
omit F
/-- a pair is a point just if x x is (y y - 1) / (d y y + 1) -/
theorem g_on (x y : Fin n) : Ed.On d x y ↔ (y * y * d + 1) * (x * x) = y * y - 1 := by
  unfold Ed.On
  constructor
  · intro h; grind -lia
  · intro h; grind -lia
theorem g_h1 {u v x t : Fin n} (ht : t * t = -1) (h : v * x * x = u) : v * (x * x) = u := by grind -lia
theorem g_h2 {u v x t : Fin n} (ht : t * t = -1) (h : v * x * x = 0 - u) : v * ((x * t) * (x * t)) = u := by grind -lia
/-- what curve's root reckons is u times a power of u v v v v v v v -/
theorem g_pow {u v p : Fin n} : v * (u * (v * v * v) * p) * (u * (v * v * v) * p) = u * (p * p * (u * (v * v * v) * (v * v * v) * v)) := by grind -lia
theorem g_sq {u v z : Fin n} (h : v * (z * z) = u) : u * (v * v * v) * (v * v * v) * v = (z * (v * v * v * v)) * (z * (v * v * v * v)) := by rw [← h]; grind -lia
theorem g_mul1 (x : Fin n) : x * 1 = x := by grind -lia
theorem g_mulm (x : Fin n) : x * -1 = 0 - x := by grind -lia
theorem g_neg2 {a q : Fin n} (hq : q * q = -1) {x : Fin n} (h : x * x = a * -1) : (x * q) * (x * q) = a := by grind -lia
theorem g_mz (x : Fin n) : x * 0 = 0 := by grind -lia
theorem g_zm (x : Fin n) : 0 * x = 0 := by grind -lia
theorem g_z0 (x : Fin n) : (0 : Fin n) - x = -x := by grind -lia
theorem g_onB (d x y : Fin n) : 1 + d * x * x * y * y = 1 + d * (x * x * (y * y)) := by grind -lia
theorem g_div {u v i a z : Fin n} (hi : v * i = 1) (ha : a = u * i) : v * (z * z) = u ↔ z * z = a := by
  constructor
  · intro h; grind -lia
  · intro h; grind -lia
end
theorem f_zero {a b : FP} (h : a * b = 0) : a = 0 ∨ b = 0 := g_zero FF h
theorem f_one {w : FP} (h : w * w = 1) : w = 1 ∨ w = -1 := g_one FF h
def kQ : Nat := (PN - 1) / 4
theorem kQ4 : kQ * 4 = PN - 1 := by decide
theorem pw_quarter {z : FP} (h : z ≠ 0) : pw z (kQ * 2) = 1 ∨ pw z (kQ * 2) = -1 := by
  refine f_one ?_
  rw [← pw_add, ← Nat.mul_add, kQ4]
  exact pw_fermat h
end Go.Proofs.Ytbeokfpbhemcfaa
/-
  Plain: what the two roots are.
-/
namespace Go.Proofs.Ytbeokfpbhemcfaa
set_option linter.unusedSimpArgs false
set_option linter.unusedVariables false
open Go.RowKit

theorem turn_val : turnE.val = rootN := known_val (by decide) (by decide) (by decide)
theorem root_sq : fn rootN * fn rootN = -1 := by decide
theorem fv_turn : fv turnE * fv turnE = -1 := by
  have h : fv turnE = fn rootN := by rw [fv, turn_val]
  rw [h]; exact root_sq
theorem fv_pwL (x : E5) {l : List Nat} (hd : Dg l) (hl : l.length = 32) : fv (pwL x l 32) = pw (fv x) (leV l) := by
  have h := pwL_val x l hd 32 (by rw [hl]; exact Nat.le_refl _)
  rw [hl, Nat.sub_self, List.drop_zero] at h
  rw [fv, fv, ← fn_pow]
  exact fn_eq.2 h
theorem eqB_fv {x y : E5} (hx : x.Ok) (hy : y.Ok) : eqB x y = true ↔ fv x = fv y := by
  rw [eqB, eqE hx.big hy.big, decide_eq_true_iff, fv, fv, fn_eq]
theorem k0_eq : leV e0L + leV e0L + 1 = kQ := by decide
theorem e0L_len : e0L.length = 32 := by decide
theorem fv_crV3 (v : E5) : fv (crV3 v) = fv v * fv v * fv v := by rw [crV3, fv_mul, fv_mul]
theorem fv_crX (u v : E5) : fv (crX u v) = fv u * (fv v * fv v * fv v) * pw (fv u * (fv v * fv v * fv v) * (fv v * fv v * fv v) * fv v) (leV e0L) := by
  rw [crX, fv_mul, fv_mul, fv_pwL _ e0L_dg e0L_len, fv_mul, fv_mul, fv_mul, fv_crV3]
theorem fv_crH (u v : E5) : fv (crH u v) = fv v * fv (crX u v) * fv (crX u v) := by rw [crH, fv_mul, fv_mul]
theorem crH_eq (u v : E5) : fv (crH u v) = fv u * pw (fv u * (fv v * fv v * fv v) * (fv v * fv v * fv v) * fv v) kQ := by
  rw [fv_crH, fv_crX, g_pow, ← k0_eq, pw_add, pw_add, pw_one]
theorem croot_yes {u v : E5} (hu : u.Ok) (hv : v.Ok) (h : rootB u v = true) : fv v * (fv (rootE u v) * fv (rootE u v)) = fv u := by
  have okX := crX_ok hu hv
  have okH : (crH u v).Ok := mul_ok (mul_ok hv okX) okX
  by_cases h1 : rootB1 u v = true
  · have e : rootE u v = crX u v := by rw [rootE, if_pos h1]
    rw [e]
    have h2 := (eqB_fv okH hu).1 h1
    rw [fv_crH] at h2
    exact g_h1 root_sq h2
  · have h2 : rootB2 u v = true := by rwa [rootB, if_neg h1] at h
    have e : rootE u v = mulE (crX u v) turnE := by rw [rootE, if_neg h1, if_pos h2]
    have h3 := (eqB_fv okH (sub_ok zE_ok hu)).1 h2
    rw [fv_crH, fv_sub hu, fv_z] at h3
    rw [e, fv_mul]
    exact g_h2 fv_turn h3
theorem v8_ne {z v : FP} (hz : z ≠ 0) (hv : v ≠ 0) : z * (v * v * v * v) ≠ 0 := Ed.mul_ne FF hz (Ed.mul_ne FF (Ed.mul_ne FF (Ed.mul_ne FF hv hv) hv) hv)
theorem croot_no {u v : E5} (hu : u.Ok) (hv : v.Ok) (h : rootB u v = false) (hv0 : fv v ≠ 0) (z : FP) : fv v * (z * z) ≠ fv u := by
  intro hz
  have okX := crX_ok hu hv
  have okH : (crH u v).Ok := mul_ok (mul_ok hv okX) okX
  have b1 : ¬ rootB1 u v = true := fun h1 => by rw [rootB, if_pos h1] at h; exact absurd h (by decide)
  have b2 : ¬ rootB2 u v = true := fun h2 => by rw [rootB, if_neg b1, h2] at h; exact absurd h (by decide)
  have e1 : fv (crH u v) ≠ fv u := fun e => b1 ((eqB_fv okH hu).2 e)
  have e2 : fv (crH u v) ≠ 0 - fv u := fun e => b2 ((eqB_fv okH (sub_ok zE_ok hu)).2 (by rw [fv_sub hu, fv_z]; exact e))
  rw [crH_eq, g_sq hz] at e1 e2
  by_cases h0 : z = 0
  · apply e1
    have hu0 : fv u = 0 := by rw [← hz, h0, g_mz, g_mz]
    rw [hu0, g_zm]
  · have hw := pw_quarter (v8_ne h0 hv0)
    rw [Nat.mul_comm, pw_pw, show (2 : Nat) = 1 + 1 from rfl, pw_add, pw_one] at hw
    rcases hw with hw | hw
    · rw [hw, g_mul1] at e1; exact e1 rfl
    · rw [hw, g_mulm] at e2; exact e2 rfl
theorem k1_eq : leV e1L * 2 = kQ + 1 := by decide
theorem k2_eq : leV e2L = kQ := by decide
theorem two_half : 2 ^ (kQ * 2) % PN = PN - 1 := by
  have h : kQ * 2 = leV halfL := by decide
  rw [h, ← pm_eq]
  decide
theorem neg_one : fn (PN - 1) = -1 := by decide
theorem q_sq {q : Nat} (hq : q = 2 ^ leV e2L % PN) : fn q * fn q = -1 := by
  have h := two_half
  rw [k2_eq] at hq
  generalize kQ = k at *
  rw [hq, fn_mod, fn_pow, ← pw_one (pw (fn 2) k), ← pw_add, ← pw_pw, ← fn_pow]
  rw [show k * (1 + 1) = k * 2 from rfl, ← fn_mod, h]
  exact neg_one
theorem fn_sq {a y : Nat} (ha : a < PN) : decide (y * y % PN = a) = true ↔ fn y * fn y = fn a := by
  rw [decide_eq_true_iff, ← fn_mul, fn_eq, Nat.mod_eq_of_lt ha]
theorem nroot_yes {a x q : Nat} (ha : a < PN) (h : rtB a x q = true) : fn (rtV a x q) * fn (rtV a x q) = fn a := by
  by_cases h1 : decide (x * x % PN = a) = true
  · rw [rtV, if_pos h1]
    exact (fn_sq ha).1 h1
  · rw [rtB, if_neg h1] at h
    rw [rtV, if_neg h1]
    exact (fn_sq ha).1 h
theorem x_sq {a x : Nat} (hx : x = a ^ leV e1L % PN) : fn x * fn x = fn a * pw (fn a) kQ := by
  have e : pw (fn a) (leV e1L * 2) = pw (fn a) (kQ + 1) := by rw [k1_eq]
  rw [pw_pw, pw_add, pw_one, show (2 : Nat) = 1 + 1 from rfl, pw_add, pw_one, ← fn_pow, ← fn_mod (a ^ leV e1L), ← hx] at e
  rw [e, Fin.mul_comm]
theorem nroot_no {a x q : Nat} (ha : a < PN) (hx : x = a ^ leV e1L % PN) (hq : q = 2 ^ leV e2L % PN) (h : rtB a x q = false) (z : FP) : z * z ≠ fn a := by
  intro hz
  have b1 : ¬ decide (x * x % PN = a) = true := fun h1 => by rw [rtB, if_pos h1] at h; exact absurd h (by decide)
  have b2 : ¬ decide (x * q % PN * (x * q % PN) % PN = a) = true := fun h2 => by rw [rtB, if_neg b1, h2] at h; exact absurd h (by decide)
  rw [fn_sq ha] at b1 b2
  rw [fn_mod, fn_mul] at b2
  have e := x_sq hx
  by_cases h0 : z = 0
  · apply b1
    have hu0 : fn a = 0 := by rw [← hz, h0, g_mz]
    rw [e, hu0, g_zm]
  · have hw := pw_quarter h0
    rw [Nat.mul_comm, pw_pw, show (2 : Nat) = 1 + 1 from rfl, pw_add, pw_one, hz] at hw
    rcases hw with hw | hw
    · rw [hw, g_mul1] at e; exact b1 e
    · rw [hw] at e; exact b2 (g_neg2 (q_sq hq) e)
end Go.Proofs.Ytbeokfpbhemcfaa
/-
  Plain: which point bytes are, as curve's Read and the reference's Of tell it.
-/
namespace Go.Proofs.Ytbeokfpbhemcfaa
set_option linter.unusedSimpArgs false
set_option linter.unusedVariables false
open Go.RowKit

theorem gen_neg {n : Nat} [NeZero n] (ho : n % 2 = 1) {x : Fin n} (h : x ≠ 0) : decide ((-x).val % 2 = 1) = !decide (x.val % 2 = 1) := by
  have h0 : x.val ≠ 0 := fun e => h (Fin.ext (by rw [e]; rfl))
  have hl := x.isLt
  have e : (-x).val = n - x.val := by
    rw [Fin.neg_def]
    exact Nat.mod_eq_of_lt (by omega)
  rw [e, ← decide_not]
  exact decide_eq_decide.mpr (by omega)
theorem par_neg {x : FP} (h : x ≠ 0) : decide ((-x).val % 2 = 1) = !decide (x.val % 2 = 1) := gen_neg (by decide) h
theorem neg_z : (-(0 : FP)) = 0 := by decide
/-- x is the x of the point with this y, so odd -/
def Good (y : FP) (odd : Bool) (x : FP) : Prop := Ed.On dF x y ∧ decide (x.val % 2 = 1) = odd
theorem good_pm {y x z : FP} (hx : Ed.On dF x y) (hz : Ed.On dF z y) : z = x ∨ z = -x :=
  g_two FF (g_den FF y) ((g_on x y).1 hx) ((g_on z y).1 hz)
theorem good_one {y x z : FP} {odd : Bool} (hx : Good y odd x) (hz : Good y odd z) : z = x := by
  rcases good_pm hx.1 hz.1 with h | h
  · exact h
  · by_cases h0 : x = 0
    · rw [h, h0, neg_z]
    · have h1 := par_neg h0
      rw [← h, hz.2, hx.2] at h1
      cases odd <;> exact absurd h1 (by decide)
theorem fv_ofN {Y : Nat} (h : Y < PN) : fv (ofN Y) = fn Y := by
  rw [fv, ofN_val, Nat.mod_eq_of_lt (Nat.lt_trans h (by decide))]
theorem fv_one : fv (intE 1) = 1 := fv_int 1
theorem oddE_fv (X : E5) : oddE X = decide ((fv X).val % 2 = 1) := rfl
theorem crdU_ok {E : E5} (h : E.Ok) : (crdU E).Ok := sub_ok (mul_ok h h) one_ok
theorem crdV_ok {E D : E5} (h : E.Ok) (k : D.Ok) : (crdV E D).Ok := add_ok (mul_ok (mul_ok h h) k) one_ok
theorem fv_crdU {Y : Nat} (h : Y < PN) : fv (crdU (ofN Y)) = fn Y * fn Y - 1 := by rw [crdU, fv_sub one_ok, fv_mul, fv_ofN h, fv_one]
theorem fv_crdV {Y : Nat} (h : Y < PN) : fv (crdV (ofN Y) dE) = fn Y * fn Y * dF + 1 := by rw [crdV, fv_add, fv_mul, fv_mul, fv_ofN h, fv_d, fv_one]
theorem bool_not {a b : Bool} (h : ¬ a = b) : (!a) = b := by cases a <;> cases b <;> simp_all
/-- curve's Read of a y gives the point, or there is none -/
theorem crd_good {Y : Nat} (hY : Y < PN) (odd : Bool) {r : Pt4 × Nat} (hr : crdR (ofN Y) dE odd = r) :
    (r.2 = 0 ∧ r.1.Ok ∧ ∃ x, ∃ h : Good (fn Y) odd x, Is r.1 ⟨x, fn Y, h.1⟩) ∨ (r.2 = 2 ∧ ∀ x, ¬ Good (fn Y) odd x) := by
  have okE := ofN_ok Y
  have okU := crdU_ok okE
  have okV := crdV_ok okE dE_ok
  have okX := rootE_ok okU okV
  have yes := croot_yes okU okV
  have no := croot_no okU okV
  rw [crdR] at hr
  rw [fv_crdU hY, fv_crdV hY] at yes no
  generalize crdU (ofN Y) = U at *
  generalize crdV (ofN Y) dE = V at *
  generalize rootE U V = X at *
  by_cases h1 : rootB U V = true
  · have hon := (g_on _ _).2 (yes h1)
    rw [if_pos h1] at hr
    by_cases h2 : oddE X = odd
    · rw [if_pos h2] at hr
      subst hr
      exact .inl ⟨rfl, ofP_ok okX okE, fv X, ⟨hon, h2⟩, is_of rfl (fv_ofN hY)⟩
    · rw [if_neg h2] at hr
      by_cases h3 : eqB X zE = true
      · rw [if_pos h3] at hr
        subst hr
        have hX := (eqB_fv okX zE_ok).1 h3
        rw [fv_z] at hX
        refine .inr ⟨rfl, fun z hz => ?_⟩
        have e : z = fv X := by
          rcases good_pm hon hz.1 with e | e
          · exact e
          · rw [e, hX, neg_z]
        have := hz.2
        rw [e] at this
        exact h2 this
      · rw [if_neg h3] at hr
        subst hr
        have hX : fv X ≠ 0 := fun e => h3 ((eqB_fv okX zE_ok).2 (by rw [e, fv_z]))
        have e : fv (subE zE X) = -fv X := by rw [fv_sub okX, fv_z, g_z0]
        refine .inl ⟨rfl, ofP_ok (sub_ok zE_ok okX) okE, -fv X, ⟨Ed.neg_on hon, ?_⟩, is_of e (fv_ofN hY)⟩
        rw [par_neg hX]
        exact bool_not h2
  · rw [if_neg h1] at hr
    subst hr
    refine .inr ⟨rfl, fun z hz => ?_⟩
    exact no (Bool.not_eq_true _ ▸ h1) (g_den FF _) z ((g_on _ _).1 hz.1)
theorem fn_sub {a b : Nat} (hb : b ≤ PN) : fn ((a + PN - b) % PN) = fn a - fn b := by
  refine gn_sub ?_
  rw [Nat.mod_add_mod, show a + PN - b + b = a + PN by omega, Nat.add_mod_right]
theorem fn_inv {v : Nat} (h : v < PN) : fn (v ^ (PN - 2) % PN) = ivF (fn v) := by
  rw [fn_mod, ivF, val_fn, Nat.mod_eq_of_lt h]
theorem fn_mulm (a b : Nat) : fn (a * b % PN) = fn a * fn b := by rw [fn_mod, fn_mul]
theorem fn_addm (a b : Nat) : fn ((a + b) % PN) = fn a + fn b := by rw [fn_mod, fn_add]
theorem rtV_lt {a x q : Nat} (hx : x < PN) : rtV a x q < PN := by
  rw [rtV]
  split
  · exact hx
  · exact mod_lt' _
theorem fn_val_lt {a : Nat} (h : a < PN) : (fn a).val = a := by rw [val_fn, Nat.mod_eq_of_lt h]
theorem fn_z {a : Nat} (h : a < PN) : fn a = 0 ↔ a = 0 := by
  constructor
  · intro e
    have := congrArg Fin.val e
    rw [fn_val_lt h] at this
    exact this
  · rintro rfl; rfl
def OfGood (Y : Nat) (odd : Bool) : Option Nat → Prop
  | some r => r < PN ∧ Good (fn Y) odd (fn r)
  | none => ∀ z, ¬ Good (fn Y) odd z
/-- the reference's Of gives the point's x, or there is none -/
theorem ofR_good {Y y2 u t v i a x q : Nat} (W : OfW Y y2 u t v i a x q) (odd : Bool) {o : Option Nat} (ho : ofR (rtV a x q) (rtB a x q) odd = o) :
    OfGood Y odd o := by
  obtain ⟨h1, h2, h3, h4, h5, h6, h7, h8⟩ := W
  have la : a < PN := by rw [h6]; exact mod_lt' _
  have lv : v < PN := by rw [h4]; exact mod_lt' _
  have lr : rtV a x q < PN := rtV_lt (by rw [h7]; exact mod_lt' _)
  have fu : fn u = fn Y * fn Y - 1 := by rw [h2, fn_sub (by decide), h1, fn_mulm, fn_one]
  have fvv : fn v = fn Y * fn Y * dF + 1 := by rw [h4, fn_addm, h3, fn_mulm, h1, fn_mulm, fn_one, ← dF, Fin.mul_comm]
  have fi : fn v * fn i = 1 := by
    rw [h5, fn_inv lv]
    exact iv_one _ (by rw [fvv]; exact g_den FF _)
  have fa : fn a = fn u * fn i := by rw [h6, fn_mulm]
  have yes := nroot_yes (x := x) (q := q) la
  have no := nroot_no la h7 h8
  rw [fu] at fa
  rw [fvv] at fi
  have key : ∀ z : FP, Ed.On dF z (fn Y) ↔ z * z = fn a := fun z => (g_on _ _).trans (g_div fi fa)
  generalize rtV a x q = r at *
  rw [ofR] at ho
  by_cases hb : rtB a x q = true
  · rw [if_pos hb] at ho
    have hon := (key _).2 (yes hb)
    have hpar : decide ((fn r).val % 2 = 1) = decide (r % 2 = 1) := by rw [fn_val_lt lr]
    by_cases h2 : decide (r % 2 = 1) = odd
    · rw [if_pos h2] at ho
      subst ho
      exact ⟨lr, hon, hpar.trans h2⟩
    · rw [if_neg h2] at ho
      by_cases h3 : r = 0
      · rw [if_pos h3] at ho
        subst ho
        intro z hz
        have e : z = fn r := by
          rcases good_pm hon hz.1 with e | e
          · exact e
          · rw [e, (fn_z lr).2 h3, neg_z]
        have := hz.2
        rw [e, hpar] at this
        exact h2 this
      · rw [if_neg h3] at ho
        subst ho
        have hX : fn r ≠ 0 := fun e => h3 ((fn_z lr).1 e)
        have e : fn ((0 + PN - r) % PN) = -fn r := by rw [fn_sub (Nat.le_of_lt lr), fn_zero, g_z0]
        refine ⟨mod_lt' _, ?_⟩
        rw [e]
        refine ⟨Ed.neg_on hon, ?_⟩
        rw [par_neg hX, hpar]
        exact bool_not h2
  · rw [if_neg hb] at ho
    subst ho
    intro z hz
    exact no (Bool.not_eq_true _ ▸ hb) z ((key z).1 hz.1)
end Go.Proofs.Ytbeokfpbhemcfaa
/-
  Plain: the bytes of points, and what is read of them.
-/
namespace Go.Proofs.Ytbeokfpbhemcfaa
set_option linter.unusedSimpArgs false
set_option linter.unusedVariables false
open Go.RowKit

theorem or_add : ∀ x, x < 128 → x ||| 128 = x + 128 := by decide
def byF (P : PtF) : List Nat := byP P.x.val P.y.val
theorem ax_is {p : Pt4} {P : PtF} (h : Is p P) : axN p = P.x.val := by
  have e : fv (mulE p.x (invE p.z)) = P.x := by
    rw [fv_mul, fv_inv, h.x]
    have := FF.iv1 _ h.z
    generalize ivF (fv p.z) = i at *
    generalize fv p.z = z at *
    rw [Fin.mul_assoc, this, g_mul1]
  rw [← e]; rfl
theorem ay_is {p : Pt4} {P : PtF} (hp : p.Ok) (h : Is p P) : ayN p = P.y.val := by
  have e : fv (mulE p.y (invE p.z)) = P.y := by
    rw [fv_mul, fv_inv, h.y]
    have := FF.iv1 _ h.z
    generalize ivF (fv p.z) = i at *
    generalize fv p.z = z at *
    rw [Fin.mul_assoc, this, g_mul1]
  rw [ayN, least_val (mul_ok hp.y (invE_ok hp.z)).big, ← e]; rfl
theorem bytP_is {p : Pt4} {P : PtF} (hp : p.Ok) (h : Is p P) : bytP p = byF P := by
  rw [bytP_ax, oddP_ax, ax_is h, ay_is hp h, byF, byP]
  have hx := byN_high P.y.isLt
  rw [or_add _ hx]
  by_cases ho : P.x.val % 2 = 1
  · rw [if_pos ho, if_pos (decide_eq_true ho)]
  · rw [if_neg ho, if_neg (by simpa using ho)]
theorem byP_len (x y : Nat) : (byP x y).length = 32 := by
  rw [byP]
  split
  · rw [List.length_set, byN_length]
  · exact byN_length _
theorem set_set_self {L : List Nat} {k a : Nat} (h : k < L.length) : (L.set k a).set k (L.getD k 0) = L := by rw [List.set_set, set_self h]
theorem getD_set {L : List Nat} {k a : Nat} (h : k < L.length) : (L.set k a).getD k 0 = a := by
  rw [List.getD_eq_getElem?_getD, List.getElem?_set_self h]; rfl
/-- what is read of a pair's bytes -/
theorem rd_byP {x y : Nat} (hy : y < PN) {b : List UInt8} (h : digs b = byP x y) : b.length = 32 ∧ yOf b = y ∧ oddOf b = decide (x % 2 = 1) ∧ rdL b = byN y := by
  have hl : b.length = 32 := by rw [← byP_len x y, ← h, digs, List.length_map]
  have hN := byN_high hy
  have hNl : 31 < (byN y).length := by rw [byN_length]; decide
  have e : rdL b = byN y ∧ oddOf b = decide (x % 2 = 1) := by
    rw [rdL, oddOf, h, byP]
    by_cases ho : x % 2 = 1
    · rw [if_pos ho, getD_set hNl]
      refine ⟨?_, decide_eq_decide.mpr ⟨fun _ => ho, fun _ => by omega⟩⟩
      rw [show ((byN y).getD 31 0 + 128) % 128 = (byN y).getD 31 0 by omega]
      exact set_set_self hNl
    · rw [if_neg ho]
      refine ⟨?_, decide_eq_decide.mpr ⟨fun h => by omega, fun h => absurd h ho⟩⟩
      rw [Nat.mod_eq_of_lt hN]
      exact set_self hNl
  refine ⟨hl, ?_, e.2, e.1⟩
  rw [yOf, e.1, leV_byN y (Nat.lt_trans hy pn_big)]
/-- bytes whose number is y and whose highest bit is odd are the bytes of x, y -/
theorem byP_rd {b : List UInt8} (hl : b.length = 32) {x : Nat} (hx : decide (x % 2 = 1) = oddOf b) : byP x (yOf b) = digs b := by
  have hdl : 31 < (digs b).length := by rw [digs, List.length_map, hl]; decide
  have e : byN (yOf b) = rdL b := byN_leV (rdL b) (rdL_dg b) (rdL_len hl)
  have hd256 : (digs b).getD 31 0 < 256 := dg_getD (digs_lt b) 31
  rw [byP, e]
  have g : (rdL b).getD 31 0 = (digs b).getD 31 0 % 128 := getD_set hdl
  rw [g]
  by_cases ho : x % 2 = 1
  · rw [if_pos ho]
    rw [decide_eq_true ho, oddOf] at hx
    have h128 := of_decide_eq_true hx.symm
    rw [show (digs b).getD 31 0 % 128 + 128 = (digs b).getD 31 0 by omega]
    exact set_set_self hdl
  · rw [if_neg ho]
    rw [decide_eq_false ho, oddOf] at hx
    have h128 := of_decide_eq_false hx.symm
    rw [rdL, Nat.mod_eq_of_lt (by omega)]
    exact set_self hdl
theorem byP_dg {x y : Nat} (hy : y < PN) : Dg (byP x y) := by
  rw [byP]
  split
  · exact dg_set (byN_lt _) _ _ (by have := byN_high hy; omega)
  · exact byN_lt _
/-- two points have the same bytes just if they are the same -/
theorem byF_inj {P Q : PtF} (h : byF P = byF Q) : P = Q := by
  obtain ⟨b, hb⟩ : ∃ b : List UInt8, digs b = byF P := ⟨toB (byF P), digs_ofNat _ (byP_dg P.y.isLt)⟩
  have h1 := rd_byP P.y.isLt (x := P.x.val) hb
  have h2 := rd_byP Q.y.isLt (x := Q.x.val) (hb.trans h)
  have ey : P.y = Q.y := Fin.ext (h1.2.1.symm.trans h2.2.1)
  have eo : decide (Q.x.val % 2 = 1) = decide (P.x.val % 2 = 1) := h2.2.2.1.symm.trans h1.2.2.1
  have g1 : Good P.y (decide (P.x.val % 2 = 1)) P.x := ⟨P.on, rfl⟩
  have g2 : Good P.y (decide (P.x.val % 2 = 1)) Q.x := ⟨by rw [ey]; exact Q.on, eo⟩
  exact Ed.Pn.eq (good_one g1 g2).symm ey
/-- what curve's Read makes of a point's bytes -/
theorem crd_is {P : PtF} {b : List UInt8} (hb : digs b = byF P) : (crd b).2 = 0 ∧ (crd b).1.Ok ∧ Is (crd b).1 P := by
  obtain ⟨hl, hy, ho, _⟩ := rd_byP P.y.isLt (x := P.x.val) hb
  have hlt : yOf b < PN := by rw [hy]; exact P.y.isLt
  have hg : Good (fn (yOf b)) (oddOf b) P.x := by rw [hy, fn_val, ho]; exact ⟨P.on, rfl⟩
  rw [crd, if_pos hl, if_pos hlt]
  rcases crd_good hlt (oddOf b) rfl with ⟨h1, h2, x, h3, h4⟩ | ⟨_, h2⟩
  · refine ⟨h1, h2, ?_⟩
    have e : (⟨x, fn (yOf b), h3.1⟩ : PtF) = P := Ed.Pn.eq (good_one hg h3) (show fn (yOf b) = P.y by rw [hy, fn_val])
    rw [e] at h4
    exact h4
  · exact absurd hg (h2 _)
/-- what the reference makes of bytes: the pair, or none -/
def rrd (b : List UInt8) (o : Option Nat) : Option (Nat × Nat) := if b.length = 32 then (if yOf b < PN then o.map fun z => (z, yOf b) else none) else none
theorem rrd_is {P : PtF} {b : List UInt8} (hb : digs b = byF P) {y2 u t v i a x q : Nat} (W : OfW (yOf b) y2 u t v i a x q) : rrd b (ofR (rtV a x q) (rtB a x q) (oddOf b)) = some (P.x.val, P.y.val) := by
  obtain ⟨hl, hy, ho, _⟩ := rd_byP P.y.isLt (x := P.x.val) hb
  have hlt : yOf b < PN := by rw [hy]; exact P.y.isLt
  have hg : Good (fn (yOf b)) (oddOf b) P.x := by rw [hy, fn_val, ho]; exact ⟨P.on, rfl⟩
  have h := ofR_good W (oddOf b) rfl
  rw [rrd, if_pos hl, if_pos hlt]
  generalize ofR (rtV a x q) (rtB a x q) (oddOf b) = o at *
  cases o with
  | none => exact absurd hg (h _)
  | some r =>
    have e := good_one hg h.2
    show some (r, yOf b) = _
    rw [hy, ← e, fn_val_lt h.1]
/-- any bytes: both tell the same -/
theorem both_read {b : List UInt8} {y2 u t v i a x q : Nat} (W : OfW (yOf b) y2 u t v i a x q) :
    (rrd b (ofR (rtV a x q) (rtB a x q) (oddOf b)) = none ∧ (crd b).2 = 2) ∨
    ∃ P : PtF, rrd b (ofR (rtV a x q) (rtB a x q) (oddOf b)) = some (P.x.val, P.y.val) ∧ (crd b).2 = 0 ∧ (crd b).1.Ok ∧ Is (crd b).1 P ∧ byF P = digs b := by
  by_cases hl : b.length = 32
  · by_cases hlt : yOf b < PN
    · rcases crd_good hlt (oddOf b) rfl with ⟨h1, h2, z, h3, h4⟩ | ⟨h1, h2⟩
      · right
        have hb : byF ⟨z, fn (yOf b), h3.1⟩ = digs b := by
          show byP z.val (fn (yOf b)).val = digs b
          rw [fn_val_lt hlt]
          exact byP_rd hl h3.2
        refine ⟨⟨z, fn (yOf b), h3.1⟩, rrd_is hb.symm W, ?_, ?_, ?_, hb⟩
        · rw [crd, if_pos hl, if_pos hlt]; exact h1
        · rw [crd, if_pos hl, if_pos hlt]; exact h2
        · rw [crd, if_pos hl, if_pos hlt]; exact h4
      · left
        have h := ofR_good W (oddOf b) rfl
        generalize ofR (rtV a x q) (rtB a x q) (oddOf b) = o at *
        refine ⟨?_, by rw [crd, if_pos hl, if_pos hlt]; exact h1⟩
        cases o with
        | none => rw [rrd, if_pos hl, if_pos hlt]; rfl
        | some r => exact absurd h.2 (h2 _)
    · left
      exact ⟨by rw [rrd, if_pos hl, if_neg hlt], by rw [crd, if_pos hl, if_neg hlt]⟩
  · left
    exact ⟨by rw [rrd, if_neg hl], by rw [crd, if_neg hl]⟩
/-- the pair that is read lies on the curve, as the reference tells it -/
theorem onB_is (P : PtF) : onB P.x.val P.y.val = true := by
  rw [onB, decide_eq_true_iff]
  have h := P.on
  have e : fn ((P.y.val * P.y.val % PN + PN - P.x.val * P.x.val % PN) % PN) = fn ((1 + dN * (P.x.val * P.x.val % PN * (P.y.val * P.y.val % PN) % PN) % PN) % PN) := by
    rw [fn_sub (Nat.le_of_lt (mod_lt' _)), fn_mulm, fn_mulm, fn_addm, fn_mulm, fn_mulm, fn_mulm, fn_mulm, fn_val, fn_val, fn_one, ← dF]
    unfold Ed.On at h
    exact h.trans (g_onB _ _ _)
  have h1 := congrArg Fin.val e
  rwa [fn_val_lt (mod_lt' _), fn_val_lt (mod_lt' _)] at h1
end Go.Proofs.Ytbeokfpbhemcfaa
/-
  Plain: the reference's sum of points is the sum.
-/
namespace Go.Proofs.Ytbeokfpbhemcfaa
set_option linter.unusedSimpArgs false
set_option linter.unusedVariables false
open Go.RowKit

section
variable {n : Nat} [NeZero n]
theorem g_k1 (d x1 y1 x2 y2 : Fin n) : 1 + d * (x1 * x2 * (y1 * y2)) = 1 + d * x1 * x2 * y1 * y2 := by grind -lia
theorem g_k2 (d x1 y1 x2 y2 : Fin n) : 1 - d * (x1 * x2 * (y1 * y2)) = 1 - d * x1 * x2 * y1 * y2 := by grind -lia
end
theorem addW_is {P Q : PtF} {a b c e m k s ka ia x t kb ib y : Nat} (W : AddW P.x.val P.y.val Q.x.val Q.y.val a b c e m k s ka ia x t kb ib y) : x = (plus P Q).x.val ∧ y = (plus P Q).y.val := by
  obtain ⟨h1, h2, h3, h4, h5, h6, h7, h8, h9, h10, h11, h12, h13, h14⟩ := W
  have lka : ka < PN := by rw [h8]; exact mod_lt' _
  have lkb : kb < PN := by rw [h12]; exact mod_lt' _
  have lk : k < PN := by rw [h6]; exact mod_lt' _
  have lx : x < PN := by rw [h10]; exact mod_lt' _
  have ly : y < PN := by rw [h14]; exact mod_lt' _
  have fk : fn k = dF * (P.x * Q.x * (P.y * Q.y)) := by rw [h6, fn_mulm, h5, fn_mulm, h4, fn_mulm, h3, fn_mulm, fn_val, fn_val, fn_val, fn_val, ← dF]
  have fx : fn x = (plus P Q).x := by
    show fn x = Ed.sumX dF ivF P.x P.y Q.x Q.y
    rw [Ed.sumX, h10, fn_mulm, h9, fn_inv lka, h8, fn_addm, fn_one, fk, g_k1, h7, fn_addm, h1, fn_mulm, h2, fn_mulm, fn_val, fn_val, fn_val, fn_val]
  have fy : fn y = (plus P Q).y := by
    show fn y = Ed.sumY dF ivF P.x P.y Q.x Q.y
    rw [Ed.sumY, h14, fn_mulm, h13, fn_inv lkb, h12, fn_sub (Nat.le_of_lt lk), fn_one, fk, g_k2, h11, fn_addm, h3, fn_mulm, h4, fn_mulm, fn_val, fn_val, fn_val, fn_val]
  rw [← fx, ← fy, fn_val_lt lx, fn_val_lt ly]
  exact ⟨rfl, rfl⟩
theorem addW_ex (x1 y1 x2 y2 : Nat) : ∃ a b c e m k s ka ia x t kb ib y, AddW x1 y1 x2 y2 a b c e m k s ka ia x t kb ib y := ⟨_, _, _, _, _, _, _, _, _, _, _, _, _, _, ⟨rfl, rfl, rfl, rfl, rfl, rfl, rfl, rfl, rfl, rfl, rfl, rfl, rfl, rfl⟩⟩
theorem ofW_ex (y : Nat) : ∃ y2 u t v i a x q, OfW y y2 u t v i a x q := ⟨_, _, _, _, _, _, _, _, ⟨rfl, rfl, rfl, rfl, rfl, rfl, rfl, rfl⟩⟩
end Go.Proofs.Ytbeokfpbhemcfaa
/-
  Walks: a point's bytes, as a slice that reads; their string.
-/
namespace Go.Proofs.Ytbeokfpbhemcfaa
set_option linter.unusedSimpArgs false
set_option linter.unusedVariables false
open Go.RowKit

def ByPost (M : List Nat) (w : World) (e : Ending) (w' : World) : Prop := ∃ A c, e = .returned (.slice A 32 c) ∧ 32 ≤ c ∧ Rd w' w'.heap.size A (bnV M) ∧ Below w.heap.size w w'
theorem pby_by (p : Pt4) (hp : p.Ok) (u : World) : Calls Try.prog 14 #[.agg (ptV p)] u (ByPost (bytP p) u) :=
  (pbytes_any p hp u).mono fun e w' h => by
    obtain ⟨o, h1, _, h3, h4⟩ := h
    exact ⟨_, 32, h1, Nat.le_refl _, Rd.of_blk h3 h3.lt, h4⟩
theorem bn_by {L : List Nat} {u : World} {args : Array Value} {f : FuncId} (h : Calls Try.prog f args u (BnPost L u)) : Calls Try.prog f args u (ByPost L u) := h
theorem conv_bn {u : World} {A : Option Addr} {L : List Nat} (hd : Dg L) (hl : L.length = 32) (hr : Rd u u.heap.size A (bnV L)) (c : Nat) : (convert 22 9 (.slice A 32 c)).run Try.prog u = .ok (.string ⟨(toB L).toArray⟩) u := by
  have h := run_str_of (P := Try.prog) (B := u.heap.size) Try.underlying22 Try.underlying5 Try.underlying9 (A := A) (l := toB L) (by rw [toB_v hd]; exact hr) c
  rw [show (toB L).length = 32 by rw [toB, List.length_map, hl]] at h
  exact h
end Go.Proofs.Ytbeokfpbhemcfaa
