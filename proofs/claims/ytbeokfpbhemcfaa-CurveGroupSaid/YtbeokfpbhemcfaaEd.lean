/-
  Plain: the points of a twisted curve go together under the sum, over any field of numbers modulo n.
-/
import Derived.Test.YtbeokfpbhemcfaaBase
namespace Go.Proofs.Ytbeokfpbhemcfaa.Ed
set_option linter.unusedSimpArgs false
set_option linter.unusedVariables false
variable {n : Nat} [NeZero n]
/-- a field of numbers modulo n, in which -1 is a square and d is none -/
structure Fld (n : Nat) [NeZero n] (d : Fin n) (iv : Fin n → Fin n) : Prop where
  iv1 : ∀ a : Fin n, a ≠ 0 → a * iv a = 1
  one : (1 : Fin n) ≠ 0
  two : (2 : Fin n) ≠ 0
  i : ∃ i : Fin n, i * i = -1
  ns : ∀ w : Fin n, w * w ≠ d
theorem Fld.inv {d : Fin n} {iv : Fin n → Fin n} (F : Fld n d iv) (a : Fin n) (h : a ≠ 0) : ∃ b, a * b = 1 := ⟨iv a, F.iv1 a h⟩
theorem mul_ne {d : Fin n} {iv : Fin n → Fin n} (F : Fld n d iv) {a b : Fin n} (ha : a ≠ 0) (hb : b ≠ 0) : a * b ≠ 0 := by
  intro h
  obtain ⟨a', h1⟩ := F.inv a ha
  obtain ⟨b', h2⟩ := F.inv b hb
  apply F.one
  grind
theorem cancel {d : Fin n} {iv : Fin n → Fin n} (F : Fld n d iv) {a b c : Fin n} (hc : c ≠ 0) (h : a * c = b * c) : a = b := by
  obtain ⟨c', h1⟩ := F.inv c hc
  grind
/-- a pair is a point -/
def On (d x y : Fin n) : Prop := y * y - x * x = 1 + d * x * x * y * y
theorem no_sq {d : Fin n} {iv : Fin n → Fin n} (F : Fld n d iv) {u v : Fin n} (hv : v ≠ 0) (h : u * u = d * (v * v)) : False := by
  obtain ⟨v', h1⟩ := F.inv v hv
  apply F.ns (u * v')
  grind
theorem complete {d : Fin n} {iv : Fin n → Fin n} (F : Fld n d iv) {x1 y1 x2 y2 e : Fin n} (h1 : On d x1 y1) (h2 : On d x2 y2) (he : e * e = 1) (hk : d * x1 * x2 * y1 * y2 = e) : False := by
  obtain ⟨i, hi⟩ := F.i
  unfold On at h1 h2
  have he0 : e ≠ 0 := by intro h; apply F.one; grind
  have hx1 : x1 ≠ 0 := by intro h; apply he0; grind
  have hy1 : y1 ≠ 0 := by intro h; apply he0; grind
  have hy2 : y2 ≠ 0 := by intro h; apply he0; grind
  have a1 : (i * x1 + e * y1) * (i * x1 + e * y1) = d * ((x1 * y1 * (i * x2 + y2)) * (x1 * y1 * (i * x2 + y2))) := by grind
  have a2 : (i * x1 - e * y1) * (i * x1 - e * y1) = d * ((x1 * y1 * (i * x2 - y2)) * (x1 * y1 * (i * x2 - y2))) := by grind
  by_cases z1 : i * x2 + y2 = 0
  · by_cases z2 : i * x2 - y2 = 0
    · apply mul_ne F F.two hy2; grind
    · exact no_sq F (mul_ne F (mul_ne F hx1 hy1) z2) a2
  · exact no_sq F (mul_ne F (mul_ne F hx1 hy1) z1) a1
theorem den_p {d : Fin n} {iv : Fin n → Fin n} (F : Fld n d iv) {x1 y1 x2 y2 : Fin n} (h1 : On d x1 y1) (h2 : On d x2 y2) : 1 + d * x1 * x2 * y1 * y2 ≠ 0 := by
  intro h
  exact complete F h1 h2 (e := -1) (by grind) (by grind)
theorem den_m {d : Fin n} {iv : Fin n → Fin n} (F : Fld n d iv) {x1 y1 x2 y2 : Fin n} (h1 : On d x1 y1) (h2 : On d x2 y2) : 1 - d * x1 * x2 * y1 * y2 ≠ 0 := by
  intro h
  exact complete F h1 h2 (e := 1) (by grind) (by grind)
/-- a third pair is the sum of two -/
structure Sum (d x1 y1 x2 y2 x y : Fin n) : Prop where
  x : x * (1 + d * x1 * x2 * y1 * y2) = x1 * y2 + y1 * x2
  y : y * (1 - d * x1 * x2 * y1 * y2) = y1 * y2 + x1 * x2
theorem sum_ex {d : Fin n} {iv : Fin n → Fin n} (F : Fld n d iv) {x1 y1 x2 y2 : Fin n} (h1 : On d x1 y1) (h2 : On d x2 y2) : ∃ x y, Sum d x1 y1 x2 y2 x y := by
  obtain ⟨a, ha⟩ := F.inv _ (den_p F h1 h2)
  obtain ⟨b, hb⟩ := F.inv _ (den_m F h1 h2)
  exact ⟨(x1 * y2 + y1 * x2) * a, (y1 * y2 + x1 * x2) * b, by grind, by grind⟩
theorem on_key {d x1 y1 x2 y2 : Fin n} (h1 : y1 * y1 - x1 * x1 = 1 + d * x1 * x1 * y1 * y1) (h2 : y2 * y2 - x2 * x2 = 1 + d * x2 * x2 * y2 * y2) :
  (y1 * y2 + x1 * x2) * (y1 * y2 + x1 * x2) * ((1 + d * x1 * x2 * y1 * y2) * (1 + d * x1 * x2 * y1 * y2)) - (x1 * y2 + y1 * x2) * (x1 * y2 + y1 * x2) * ((1 - d * x1 * x2 * y1 * y2) * (1 - d * x1 * x2 * y1 * y2)) = (1 + d * x1 * x2 * y1 * y2) * (1 + d * x1 * x2 * y1 * y2) * ((1 - d * x1 * x2 * y1 * y2) * (1 - d * x1 * x2 * y1 * y2)) + d * (x1 * y2 + y1 * x2) * (x1 * y2 + y1 * x2) * (y1 * y2 + x1 * x2) * (y1 * y2 + x1 * x2) := by grind -lia
theorem sum_on {d : Fin n} {iv : Fin n → Fin n} (F : Fld n d iv) {x1 y1 x2 y2 x y : Fin n} (h1 : On d x1 y1) (h2 : On d x2 y2) (s : Sum d x1 y1 x2 y2 x y) : On d x y := by
  have p := den_p F h1 h2
  have m := den_m F h1 h2
  obtain ⟨sx, sy⟩ := s
  have key := on_key h1 h2
  unfold On
  generalize hk : d * x1 * x2 * y1 * y2 = k at *
  generalize hX : x1 * y2 + y1 * x2 = X at *
  generalize hY : y1 * y2 + x1 * x2 = Y at *
  refine cancel F (c := (1 + k) * (1 + k) * ((1 - k) * (1 - k))) (mul_ne F (mul_ne F p p) (mul_ne F m m)) ?_
  clear h1 h2 hk hX hY p m
  grind -lia
theorem assoc_x {d x1 y1 x2 y2 x3 y3 : Fin n}
  (e1 : On d x1 y1) (e2 : On d x2 y2) (e3 : On d x3 y3) :
  ((x1*y2+y1*x2)*(1 - d*x1*x2*y1*y2)*y3 + (y1*y2+x1*x2)*(1 + d*x1*x2*y1*y2)*x3) * ((1 - d*x2*x3*y2*y3)*(1 + d*x2*x3*y2*y3) + d*x1*y1*(x2*y3+y2*x3)*(y2*y3+x2*x3))
  = (x1*(y2*y3+x2*x3)*(1 + d*x2*x3*y2*y3) + y1*(x2*y3+y2*x3)*(1 - d*x2*x3*y2*y3)) * ((1 - d*x1*x2*y1*y2)*(1 + d*x1*x2*y1*y2) + d*(x1*y2+y1*x2)*(y1*y2+x1*x2)*x3*y3) := by
  unfold On at *
  grind
theorem assoc_y {d x1 y1 x2 y2 x3 y3 : Fin n}
  (e1 : On d x1 y1) (e2 : On d x2 y2) (e3 : On d x3 y3) :
  ((y1*y2+x1*x2)*(1 + d*x1*x2*y1*y2)*y3 + (x1*y2+y1*x2)*(1 - d*x1*x2*y1*y2)*x3) * ((1 - d*x2*x3*y2*y3)*(1 + d*x2*x3*y2*y3) - d*x1*y1*(x2*y3+y2*x3)*(y2*y3+x2*x3))
  = (y1*(y2*y3+x2*x3)*(1 + d*x2*x3*y2*y3) + x1*(x2*y3+y2*x3)*(1 - d*x2*x3*y2*y3)) * ((1 - d*x1*x2*y1*y2)*(1 + d*x1*x2*y1*y2) - d*(x1*y2+y1*x2)*(y1*y2+x1*x2)*x3*y3) := by
  unfold On at *
  grind


theorem fac {d : Fin n} {iv : Fin n → Fin n} (F : Fld n d iv) {a b : Fin n} (h : a * b = 0) (hb : b ≠ 0) : a = 0 := cancel F hb (by grind)
/-- the sum is the same whichever two are added first -/
theorem sum_assoc {d : Fin n} {iv : Fin n → Fin n} (F : Fld n d iv) {x1 y1 x2 y2 x3 y3 xs ys xt yt x y x' y' : Fin n} (h1 : On d x1 y1) (h2 : On d x2 y2) (h3 : On d x3 y3)
    (s : Sum d x1 y1 x2 y2 xs ys) (l : Sum d xs ys x3 y3 x y) (t : Sum d x2 y2 x3 y3 xt yt) (r : Sum d x1 y1 xt yt x' y') : x = x' ∧ y = y' := by
  have ax := assoc_x h1 h2 h3
  have ay := assoc_y h1 h2 h3
  have hs := sum_on F h1 h2 s
  have ht := sum_on F h2 h3 t
  have p1 := den_p F h1 h2
  have m1 := den_m F h1 h2
  have p2 := den_p F h2 h3
  have m2 := den_m F h2 h3
  have pl := den_p F hs h3
  have ml := den_m F hs h3
  have pr := den_p F h1 ht
  have mr := den_m F h1 ht
  obtain ⟨sx, sy⟩ := s
  obtain ⟨lx, ly⟩ := l
  obtain ⟨tx, ty⟩ := t
  obtain ⟨rx, ry⟩ := r
  clear h1 h2 h3 hs ht
  have c1 := mul_ne F p1 m1
  have c2 := mul_ne F p2 m2
  have e1 : (1 + d * x1 * x2 * y1 * y2) * (1 - d * x1 * x2 * y1 * y2) * (1 + d * xs * x3 * ys * y3) = (1 - d*x1*x2*y1*y2)*(1 + d*x1*x2*y1*y2) + d*(x1*y2+y1*x2)*(y1*y2+x1*x2)*x3*y3 := by
    rw [← sx, ← sy]; grind -lia
  have e2 : (1 + d * x1 * x2 * y1 * y2) * (1 - d * x1 * x2 * y1 * y2) * (1 - d * xs * x3 * ys * y3) = (1 - d*x1*x2*y1*y2)*(1 + d*x1*x2*y1*y2) - d*(x1*y2+y1*x2)*(y1*y2+x1*x2)*x3*y3 := by
    rw [← sx, ← sy]; grind -lia
  have e3 : (1 + d * x2 * x3 * y2 * y3) * (1 - d * x2 * x3 * y2 * y3) * (1 + d * x1 * xt * y1 * yt) = (1 - d*x2*x3*y2*y3)*(1 + d*x2*x3*y2*y3) + d*x1*y1*(x2*y3+y2*x3)*(y2*y3+x2*x3) := by
    rw [← tx, ← ty]; grind -lia
  have e4 : (1 + d * x2 * x3 * y2 * y3) * (1 - d * x2 * x3 * y2 * y3) * (1 - d * x1 * xt * y1 * yt) = (1 - d*x2*x3*y2*y3)*(1 + d*x2*x3*y2*y3) - d*x1*y1*(x2*y3+y2*x3)*(y2*y3+x2*x3) := by
    rw [← tx, ← ty]; grind -lia
  rw [← e1, ← e3, ← sx, ← sy, ← tx, ← ty] at ax
  rw [← e2, ← e4, ← sx, ← sy, ← tx, ← ty] at ay
  clear e1 e2 e3 e4 sx sy tx ty
  generalize 1 + d * x1 * x2 * y1 * y2 = u1 at *
  generalize 1 - d * x1 * x2 * y1 * y2 = v1 at *
  generalize 1 + d * x2 * x3 * y2 * y3 = u2 at *
  generalize 1 - d * x2 * x3 * y2 * y3 = v2 at *
  generalize 1 + d * xs * x3 * ys * y3 = u3 at *
  generalize 1 - d * xs * x3 * ys * y3 = v3 at *
  generalize 1 + d * x1 * xt * y1 * yt = u4 at *
  generalize 1 - d * x1 * xt * y1 * yt = v4 at *
  have q1 : ((xs * y3 + ys * x3) * (u1 * v1)) * (u2 * v2 * u4) = ((x1 * yt + y1 * xt) * (u2 * v2)) * (u1 * v1 * u3) := by grind -lia
  have q2 : ((ys * y3 + xs * x3) * (u1 * v1)) * (u2 * v2 * v4) = ((y1 * yt + x1 * xt) * (u2 * v2)) * (u1 * v1 * v3) := by grind -lia
  rw [← lx, ← rx] at q1
  rw [← ly, ← ry] at q2
  constructor
  · refine cancel F (c := (u1 * v1) * (u2 * v2) * (u3 * u4)) (mul_ne F (mul_ne F c1 c2) (mul_ne F pl pr)) ?_
    clear ax ay q2 lx ly rx ry
    grind -lia
  · refine cancel F (c := (u1 * v1) * (u2 * v2) * (v3 * v4)) (mul_ne F (mul_ne F c1 c2) (mul_ne F ml mr)) ?_
    clear ax ay q1 lx ly rx ry
    grind -lia
theorem sum_one {d : Fin n} {iv : Fin n → Fin n} (F : Fld n d iv) {x1 y1 x2 y2 x y x' y' : Fin n} (h1 : On d x1 y1) (h2 : On d x2 y2) (s : Sum d x1 y1 x2 y2 x y) (t : Sum d x1 y1 x2 y2 x' y') : x = x' ∧ y = y' :=
  ⟨cancel F (den_p F h1 h2) (s.x.trans t.x.symm), cancel F (den_m F h1 h2) (s.y.trans t.y.symm)⟩
theorem sum_comm {d x1 y1 x2 y2 x y : Fin n} (s : Sum d x1 y1 x2 y2 x y) : Sum d x2 y2 x1 y1 x y := by
  obtain ⟨sx, sy⟩ := s
  constructor
  · grind -lia
  · grind -lia
theorem zero_on (d : Fin n) : On d 0 1 := by unfold On; grind -lia
theorem neg_on {d x y : Fin n} (h : On d x y) : On d (-x) y := by unfold On at *; grind -lia
theorem sum_zero (d x y : Fin n) : Sum d x y 0 1 x y := by constructor <;> grind -lia
theorem sum_neg {d x y : Fin n} (h : On d x y) : Sum d x y (-x) y 0 1 := by unfold On at h; constructor <;> grind -lia

/-- a point -/
structure Pn (n : Nat) [NeZero n] (d : Fin n) where
  x : Fin n
  y : Fin n
  on : On d x y
theorem Pn.eq {d : Fin n} {P Q : Pn n d} (h : P.x = Q.x) (k : P.y = Q.y) : P = Q := by
  cases P; cases Q; subst h; subst k; rfl
def sumX (d : Fin n) (iv : Fin n → Fin n) (x1 y1 x2 y2 : Fin n) : Fin n := (x1 * y2 + y1 * x2) * iv (1 + d * x1 * x2 * y1 * y2)
def sumY (d : Fin n) (iv : Fin n → Fin n) (x1 y1 x2 y2 : Fin n) : Fin n := (y1 * y2 + x1 * x2) * iv (1 - d * x1 * x2 * y1 * y2)
theorem sum_is {d : Fin n} {iv : Fin n → Fin n} (F : Fld n d iv) {x1 y1 x2 y2 : Fin n} (h1 : On d x1 y1) (h2 : On d x2 y2) : Sum d x1 y1 x2 y2 (sumX d iv x1 y1 x2 y2) (sumY d iv x1 y1 x2 y2) := by
  have ha := F.iv1 _ (den_p F h1 h2)
  have hb := F.iv1 _ (den_m F h1 h2)
  constructor
  · unfold sumX; generalize iv (1 + d * x1 * x2 * y1 * y2) = v at *; grind -lia
  · unfold sumY; generalize iv (1 - d * x1 * x2 * y1 * y2) = v at *; grind -lia
section
variable {d : Fin n} {iv : Fin n → Fin n} (F : Fld n d iv)
def add (P Q : Pn n d) : Pn n d := ⟨sumX d iv P.x P.y Q.x Q.y, sumY d iv P.x P.y Q.x Q.y, sum_on F P.on Q.on (sum_is F P.on Q.on)⟩
theorem add_sum (P Q : Pn n d) : Sum d P.x P.y Q.x Q.y (add F P Q).x (add F P Q).y := sum_is F P.on Q.on
theorem add_eq {P Q R : Pn n d} (h : Sum d P.x P.y Q.x Q.y R.x R.y) : add F P Q = R := Pn.eq (sum_one F P.on Q.on (add_sum F P Q) h).1 (sum_one F P.on Q.on (add_sum F P Q) h).2
def zero (d : Fin n) : Pn n d := ⟨0, 1, zero_on d⟩
def neg (P : Pn n d) : Pn n d := ⟨-P.x, P.y, neg_on P.on⟩
theorem add_assoc (P Q R : Pn n d) : add F (add F P Q) R = add F P (add F Q R) :=
  have h := sum_assoc F P.on Q.on R.on (add_sum F P Q) (add_sum F (add F P Q) R) (add_sum F Q R) (add_sum F P (add F Q R))
  Pn.eq h.1 h.2
theorem add_comm (P Q : Pn n d) : add F P Q = add F Q P := add_eq F (sum_comm (add_sum F Q P))
theorem add_zero (P : Pn n d) : add F P (zero d) = P := add_eq F (sum_zero d P.x P.y)
theorem zero_add (P : Pn n d) : add F (zero d) P = P := by rw [add_comm, add_zero]
theorem add_neg (P : Pn n d) : add F P (neg P) = zero d := add_eq F (sum_neg P.on)
theorem add_right {P Q R : Pn n d} (h : add F P R = add F Q R) : P = Q := by
  rw [← add_zero F P, ← add_zero F Q, ← add_neg F R, ← add_assoc, ← add_assoc, h]
theorem neg_eq {P Q : Pn n d} (h : add F P Q = zero d) : P = neg Q := add_right F (h.trans ((add_comm F _ _).trans (add_neg F Q)).symm)
include F in
theorem neg_neg (P : Pn n d) : neg (neg P) = P := (neg_eq F (add_neg F P)).symm
/-- so many of a point -/
def mul (P : Pn n d) : Nat → Pn n d
  | 0 => zero d
  | k + 1 => add F (mul P k) P
theorem mul_add (P : Pn n d) (a : Nat) : ∀ b, mul F P (a + b) = add F (mul F P a) (mul F P b)
  | 0 => (add_zero F _).symm
  | b + 1 => by
    show add F (mul F P (a + b)) P = add F (mul F P a) (add F (mul F P b) P)
    rw [mul_add P a b, add_assoc]
theorem mul_one (P : Pn n d) : mul F P 1 = P := zero_add F P
theorem mul_two (P : Pn n d) (k : Nat) : mul F P (2 * k) = add F (mul F P k) (mul F P k) := by rw [Nat.two_mul, mul_add]
theorem mul_mul (P : Pn n d) (a : Nat) : ∀ b, mul F P (a * b) = mul F (mul F P a) b
  | 0 => rfl
  | b + 1 => by rw [Nat.mul_succ, mul_add, mul_mul P a b]; rfl
theorem mul_zero : ∀ b : Nat, mul F (zero d) b = zero d
  | 0 => rfl
  | b + 1 => (add_zero F _).trans (mul_zero b)
end
/-- the four numbers of a sum, as the program reckons them -/
theorem four {d : Fin n} {iv : Fin n → Fin n} (F : Fld n d iv) {x1 y1 z1 x2 y2 z2 x y a b c z e f g h X1 Y1 T1 X2 Y2 T2 tw : Fin n} (h1 : On d x1 y1) (h2 : On d x2 y2) (s : Sum d x1 y1 x2 y2 x y)
    (hz1 : z1 ≠ 0) (hz2 : z2 ≠ 0) (hX1 : X1 = x1 * z1) (hY1 : Y1 = y1 * z1) (hT1 : T1 = x1 * y1 * z1) (hX2 : X2 = x2 * z2) (hY2 : Y2 = y2 * z2) (hT2 : T2 = x2 * y2 * z2) (htw : tw = d + d)
    (ha : a = (Y1 - X1) * (Y2 - X2)) (hb : b = (Y1 + X1) * (Y2 + X2)) (hc : c = T1 * tw * T2) (hz : z = z1 * z2) (he : e = b - a) (hh : h = b + a) (hf : f = z + z - c) (hg : g = z + z + c) :
    f * g ≠ 0 ∧ e * f = x * (f * g) ∧ g * h = y * (f * g) ∧ e * h = x * y * (f * g) := by
  have p := den_p F h1 h2
  have m := den_m F h1 h2
  have h2z := mul_ne F F.two (mul_ne F hz1 hz2)
  obtain ⟨sx, sy⟩ := s
  subst ha hb hc hz he hh hf hg hX1 hY1 hT1 hX2 hY2 hT2 htw
  have f1 : z1 * z2 + z1 * z2 - x1 * y1 * z1 * (d + d) * (x2 * y2 * z2) = 2 * (z1 * z2) * (1 - d * x1 * x2 * y1 * y2) := by clear sx sy p m h2z; grind -lia
  have g1 : z1 * z2 + z1 * z2 + x1 * y1 * z1 * (d + d) * (x2 * y2 * z2) = 2 * (z1 * z2) * (1 + d * x1 * x2 * y1 * y2) := by clear sx sy p m h2z; grind -lia
  have e1 : (y1 * z1 + x1 * z1) * (y2 * z2 + x2 * z2) - (y1 * z1 - x1 * z1) * (y2 * z2 - x2 * z2) = 2 * (z1 * z2) * (x * (1 + d * x1 * x2 * y1 * y2)) := by rw [sx]; clear sx sy p m h2z; grind -lia
  have i1 : (y1 * z1 + x1 * z1) * (y2 * z2 + x2 * z2) + (y1 * z1 - x1 * z1) * (y2 * z2 - x2 * z2) = 2 * (z1 * z2) * (y * (1 - d * x1 * x2 * y1 * y2)) := by rw [sy]; clear sx sy p m h2z; grind -lia
  rw [f1, g1, e1, i1]
  clear sx sy f1 g1 e1 i1 h1 h2
  generalize 1 + d * x1 * x2 * y1 * y2 = u at *
  generalize 1 - d * x1 * x2 * y1 * y2 = v at *
  refine ⟨mul_ne F (mul_ne F h2z m) (mul_ne F h2z p), ?_, ?_, ?_⟩ <;> clear F h2z m p hz1 hz2 <;> grind -lia
end Go.Proofs.Ytbeokfpbhemcfaa.Ed
