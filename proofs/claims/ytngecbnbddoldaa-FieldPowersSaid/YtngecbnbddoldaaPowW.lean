/-
  Walk: the law FieldPowers.
-/
import Derived.Test.YtngecbnbddoldaaRw
import Derived.Test.YtngecbnbddoldaaIntW
namespace Go.Proofs.Ytngecbnbddoldaa
set_option linter.unusedSimpArgs false
set_option linter.unusedVariables false
open Go.RowKit

/-- an element's power of bytes -/
def pwE (x : E5) (l : List UInt8) : E5 := pwL x (digs l) l.length
theorem pwE_ok {x : E5} (hx : x.Ok) (l : List UInt8) : (pwE x l).Ok := pwL_ok hx _ _
theorem pwE_val (x : E5) (l : List UInt8) : Sm (pwE x l).val (x.val ^ leV (digs l)) := by
  have h := pwL_val x (digs l) (digs_lt l) l.length (by rw [digs, List.length_map]; exact Nat.le_refl _)
  rw [show (digs l).length - l.length = 0 by rw [digs, List.length_map]; omega, List.drop_zero] at h
  exact h
theorem pow_c (x : E5) (hx : x.Ok) (l : List UInt8) (A : Option Addr) (c : Nat) (u : World) (hr : Rd u u.heap.size A (bytesV l)) (hc : l.length ≤ c) (hl : l.length ≤ 64) :
    Calls Try.prog 23 #[.agg (eV x), .slice A l.length c] u (ElemPost (pwE x l) u) := by
  have h := pow_any x hx l A c u hr hc (by omega)
  rw [List.take_of_length_le hl, Nat.min_eq_left hl] at h
  exact h
theorem box_below {u u' : World} {o : Obj} (hw : Wrote u.heap.size (u.alloc o) u') : Below u.heap.size u u' :=
  hw.below (below_new _ _) (Nat.le_refl _) (by simp)
theorem refB_val {l : List Nat} {n N : Nat} (h : l = digN n N) (hn : n ≤ 32) (hN : N < 256 ^ n) : leV (digs (refB l)) = N := by
  have e : digs (refB l) = digN 32 N := by
    have hb : refB l = byB N := by
      rw [refB, byB, byN_dig]
      apply List.ext_getElem?
      intro j
      by_cases hj : j < 32
      · rw [List.getElem?_map, List.getElem?_map, List.getElem?_range hj]
        have e2 : l.getD j 0 = N / 256 ^ j % 256 := by
          rw [← digN_val n N hN, leV_at _ (digN_dg n N), ← h]
        have e3 : (digN 32 N)[j]? = some (N / 256 ^ j % 256) := by simp [digN, hj]
        rw [e3]
        show some (UInt8.ofNat (l.getD j 0)) = some _
        rw [e2]
      · rw [List.getElem?_eq_none (by simp; omega), List.getElem?_eq_none (by simp [digN_length]; omega)]
    rw [hb, digs_byB, byN_dig]
  rw [e, digN_val 32 N (Nat.lt_of_lt_of_le hN (Nat.pow_le_pow_right (by decide) hn))]
theorem ofE_val (l : List UInt8) : (ofE l).val = numB l := by
  rw [ofE, ofN_val, Nat.mod_eq_of_lt (Nat.lt_trans (numB_lt l) (by decide))]
structure PW (w0 : World) (g h r : Nat) (x p q : E5) (A0 A5 : Option Addr) (D : List Nat) (S : List UInt8) (u : World) : Prop where
  bel : Below w0.heap.size w0 u
  x : Blk u g 26 (eV x)
  p : Blk u h 26 (eV p)
  q : Blk u r 26 (eV q)
  d : Rd u u.heap.size A0 (dV D)
  s : Rd u u.heap.size A5 (bytesV S)
theorem PW.next {w0 u u' : World} {g h r : Nat} {x p q : E5} {A0 A5 : Option Addr} {D : List Nat} {S : List UInt8} (k : PW w0 g h r x p q A0 A5 D S u) (hb : Below u.heap.size u u') : PW w0 g h r x p q A0 A5 D S u' :=
  ⟨k.bel.trans (hb.mono k.bel.size), k.x.below hb k.x.lt, k.p.below hb k.p.lt, k.q.below hb k.q.lt, (k.d.below hb).mono hb.size, (k.s.below hb).mono hb.size⟩
theorem PW.drew {w0 u : World} {g h r : Nat} {x p q : E5} {A0 A5 : Option Addr} {D : List Nat} {S : List UInt8} (k : PW w0 g h r x p q A0 A5 D S u) : PW w0 g h r x p q A0 A5 D S u.drew := ⟨k.bel.drew, k.x, k.p, k.q, k.d, k.s⟩
theorem nil_len {l : List UInt8} {A : Option Addr} {w : World} (hr : Rd w w.heap.size A (bytesV l)) : A = none → l.length = 0 := fun h => by
  by_cases h0 : 0 < l.length
  · obtain ⟨ad, h1, _⟩ := hr.at_ (k := 0) (by rw [bytesV_length]; exact h0)
    rw [h] at h1; cases h1
  · omega
set_option maxRecDepth 100000 in
set_option maxHeartbeats 8000000 in
theorem powers_any (l m k : List UInt8) (A B C : Option Addr) (c d f : Nat) (w : World) (hr : Rd w w.heap.size A (bytesV l)) (hs : Rd w w.heap.size B (bytesV m)) (ht : Rd w w.heap.size C (bytesV k)) (hc : l.length ≤ c) (hd : m.length ≤ d) (hf : k.length ≤ f) :
    Calls Try.prog 6 #[.slice A l.length c, .slice B m.length d, .slice C k.length f] w (BoolPost true w) := by
  have hu := Try.underlying26
  obtain ⟨n1, hn1⟩ : ∃ n, n = l.length := ⟨_, rfl⟩
  obtain ⟨n2, hn2⟩ : ∃ n, n = m.length := ⟨_, rfl⟩
  obtain ⟨n3, hn3⟩ : ∃ n, n = k.length := ⟨_, rfl⟩
  have c1 : ∀ u, Below w.heap.size w u → Calls Try.prog 19 #[.slice A n1 c] u (OfPost l u) := fun u hu => by
    rw [hn1]; exact of_any l A c u ((hr.below hu).mono hu.size) hc
  obtain ⟨M, hM⟩ : ∃ M, M = m.take 3 := ⟨_, rfl⟩
  obtain ⟨K, hK⟩ : ∃ K, K = k.take 3 := ⟨_, rfl⟩
  have hrM : Rd w w.heap.size B (bytesV M) := by rw [hM]; exact rd_takeB hs
  have hrK : Rd w w.heap.size C (bytesV K) := by rw [hK]; exact rd_takeB ht
  obtain ⟨p, hp⟩ : ∃ p, p = M.length := ⟨_, rfl⟩
  obtain ⟨q, hq⟩ : ∃ q, q = K.length := ⟨_, rfl⟩
  have hpm : p = min 3 n2 := by rw [hp, hM, List.length_take, hn2]
  have hqm : q = min 3 n3 := by rw [hq, hK, List.length_take, hn3]
  have hd63 : (n2 : Int) ≤ (d : Int) := by omega
  have hf63 : (n3 : Int) ≤ (f : Int) := by omega
  have nB := nil_len hs
  have nC := nil_len ht
  rw [← hn2] at nB
  rw [← hn3] at nC
  rw [← hn1, ← hn2, ← hn3]
  obtain ⟨X, hX⟩ : ∃ X, X = ofE l := ⟨_, rfl⟩
  have okX : X.Ok := by rw [hX]; exact ofE_ok l
  have hXv : X.val = leV (padD l) := by rw [hX, ofE_val, padD_val]
  obtain ⟨U, hU⟩ : ∃ U, U = pwE X M := ⟨_, rfl⟩
  obtain ⟨V, hV⟩ : ∃ V, V = pwE X K := ⟨_, rfl⟩
  have okU : U.Ok := by rw [hU]; exact pwE_ok okX M
  have okV : V.Ok := by rw [hV]; exact pwE_ok okX K
  have hUv : Sm U.val (X.val ^ leV (digs M)) := by rw [hU]; exact pwE_val X M
  have hVv : Sm V.val (X.val ^ leV (digs K)) := by rw [hV]; exact pwE_val X K
  have cU : ∀ u, Below w.heap.size w u → Calls Try.prog 23 #[.agg (eV X), .slice B p d] u (ElemPost U u) := fun u hu => by
    rw [hp, hU]; exact pow_c X okX M B d u ((hrM.below hu).mono hu.size) (by omega) (by omega)
  have cV : ∀ u, Below w.heap.size w u → Calls Try.prog 23 #[.agg (eV X), .slice C q f] u (ElemPost V u) := fun u hu => by
    rw [hq, hV]; exact pow_c X okX K C f u ((hrK.below hu).mono hu.size) (by omega) (by omega)
  have cM : ∀ u, Below w.heap.size w u → Calls Try.prog 16 #[.slice B p d] u (OwnPost 3 p (dV (digs M)) u) := fun u hu => by
    rw [hp]; exact digits_any M B d u ((hrM.below hu).mono hu.size) (by omega) (by omega)
  have cK : ∀ u, Below w.heap.size w u → Calls Try.prog 16 #[.slice C q f] u (OwnPost 3 q (dV (digs K)) u) := fun u hu => by
    rw [hq]; exact digits_any K C f u ((hrK.below hu).mono hu.size) (by omega) (by omega)
  have hlM : (digs M).length = p := by rw [digs, List.length_map, hp]
  have hlK : (digs K).length = q := by rw [digs, List.length_map, hq]
  obtain ⟨T, hT⟩ : ∃ T, T = digN (max p q + 1) (leV (digs M) + leV (digs K)) := ⟨_, rfl⟩
  have hTl : T.length = max p q + 1 := by rw [hT, digN_length]
  have hTd : Dg T := by rw [hT]; exact digN_dg _ _
  have cT : ∀ u A3 c3 A4 c4, Rd u u.heap.size A3 (dV (digs M)) → Rd u u.heap.size A4 (dV (digs K)) → Calls Try.prog 25 #[.slice A3 p c3, .slice A4 q c4] u (DigPost T u) := fun u A3 c3 A4 c4 h3 h4 => by
    have h := rplus_any (digs M) (digs K) (digs_lt M) (digs_lt K) A3 A4 c3 c4 u h3 h4 (by rw [hlM]; omega) (by rw [hlK]; omega)
    rw [hlM, hlK, ← hT] at h
    exact h
  obtain ⟨S, hS⟩ : ∃ S, S = refB T := ⟨_, rfl⟩
  have hSl : S.length = 32 := by rw [hS, refB_length]
  have hTv := plus_val (digs_lt M) (digs_lt K)
  rw [hlM, hlK] at hTv
  have hbig : leV (digs M) + leV (digs K) < 256 ^ (max p q + 1) := by
    have h := leV_lt (digN (max p q + 1) (leV (digs M) + leV (digs K))) (digN_dg _ _)
    rw [hTv, digN_length] at h
    exact h
  have hSv : leV (digs S) = leV (digs M) + leV (digs K) := by rw [hS]; exact refB_val hT (by omega) hbig
  have cS : ∀ u A3 c3, Rd u u.heap.size A3 (dV T) → T.length ≤ c3 → Calls Try.prog 24 #[.slice A3 T.length c3] u (OwnPost 5 32 (bytesV S) u) := fun u A3 c3 h3 hc3 => by
    rw [hS]; exact rbytes_any T hTd A3 c3 u h3 hc3 (by rw [hTl]; omega)
  obtain ⟨Z, hZ⟩ : ∃ Z, Z = pwE X S := ⟨_, rfl⟩
  have okZ : Z.Ok := by rw [hZ]; exact pwE_ok okX S
  have cZ : ∀ u A5 c5, Rd u u.heap.size A5 (bytesV S) → 32 ≤ c5 → Calls Try.prog 23 #[.agg (eV X), .slice A5 32 c5] u (ElemPost Z u) := fun u A5 c5 h5 hc5 => by
    have h := pow_c X okX S A5 c5 u h5 (by rw [hSl]; exact hc5) (by rw [hSl]; decide)
    rw [hSl, ← hZ] at h; exact h
  have heq : eqB (mulE U V) Z = true := by
    refine eqB_true (mul_ok okU okV) okZ ?_
    have h1 : Sm (mulE U V).val (X.val ^ leV (digs M) * X.val ^ leV (digs K)) := (sm_mul U V).trans (hUv.mul hVv)
    have h2 : Sm Z.val (X.val ^ leV (digs S)) := by rw [hZ]; exact pwE_val X S
    rw [hSv, Nat.pow_add] at h2
    exact h1.trans h2.symm
  have cR : ∀ u A3 c3 A4 c4, Rd u u.heap.size A3 (dV (padD l)) → Rd u u.heap.size A4 (dV (digs M)) → Calls Try.prog 26 #[.slice A3 32 c3, .slice A4 p c4] u (DigPost (digN 32 (X.val ^ leV (digs M) % PN)) u) := fun u A3 c3 A4 c4 h3 h4 => by
    have h := rpow_any (padD l) (digs M) (padD_dg l) (digs_lt M) A3 A4 c3 c4 u h3 h4 (by rw [padD_length]; decide) (by rw [hlM]; omega)
    rw [padD_length, hlM, ← hXv] at h
    exact h
  have cL : ∀ u A3 c3, Rd u u.heap.size A3 (dV (digN 32 (X.val ^ leV (digs M) % PN))) → 32 ≤ c3 → Calls Try.prog 9 #[.agg (eV U), .slice A3 32 c3] u (BoolPost true u) := fun u A3 c3 h3 hc3 => by
    have h := like_any U okU.big (digN 32 (X.val ^ leV (digs M) % PN)) (digN_dg _ _) A3 c3 u h3 (by rw [digN_length]; exact hc3) (by rw [digN_length]; decide)
    rw [like_yes okU hUv, digN_length] at h
    exact h
  have CUV : ∀ u, Calls Try.prog 22 #[.agg (eV U), .agg (eV V)] u (ElemPost (mulE U V) u) := fun u => mul_c U V u okU okV
  have CEQ : ∀ u, Calls Try.prog 12 #[.agg (eV (mulE U V)), .agg (eV Z)] u (BoolPost true u) := fun u => equal_t _ _ u (mul_ok okU okV) okZ heq
  have C1 := Lib.hid c1
  have EX := Lib.hid hX
  have CU := Lib.hid cU
  have CV := Lib.hid cV
  have CM := Lib.hid cM
  have CK := Lib.hid cK
  have CT := Lib.hid cT
  have CS := Lib.hid cS
  have CZ := Lib.hid cZ
  have CR := Lib.hid cR
  have CL := Lib.hid cL
  have HUV := Lib.hid CUV
  have HEQ := Lib.hid CEQ
  have HPM := Lib.hid hpm
  have HQM := Lib.hid hqm
  have hp3 : p ≤ 3 := by omega
  have hq3 : q ≤ 3 := by omega
  have NB := Lib.hid nB
  have NC := Lib.hid nC
  generalize digs M = DM at *
  generalize digs K = DK at *
  clear hr hs ht hc hd hf hn1 hn2 hn3 c1 hX okX hM hK hrM hrK hp hq nB nC hXv hU hV okU okV hUv hVv cU cV cM cK hlM hlK hT hTl hTd cT hS hSl hTv hbig hSv cS hZ okZ cZ heq cR cL CUV CEQ
  by_cases hg2 : 3 < n2 <;> by_cases hg3 : 3 < n3
  · obtain rfl : p = 3 := by have := HPM.out; omega
    obtain ⟨bd, rfl⟩ : ∃ ad, B = some ad := by
      cases B with
      | none => have := NB.out rfl; omega
      | some ad => exact ⟨ad, rfl⟩
    have hgi2 : (3 : Int) < (n2 : Int) := by omega
    obtain rfl : q = 3 := by have := HQM.out; omega
    obtain ⟨cd, rfl⟩ : ∃ ad, C = some ad := by
      cases C with
      | none => have := NC.out rfl; omega
      | some ad => exact ⟨ad, rfl⟩
    have hgi3 : (3 : Int) < (n3 : Int) := by omega
    clear hg2 hg3 HPM HQM NB NC hp3 hq3 hpm hqm
    go_enter Try.func6, Try.ntmps6
    go_wp2_with fail
    refine calls_then (C1.out _ (Below.refl _ _)) ?_
    rintro e w1 ⟨v1, rfl, ⟨A0, c0, rfl, hc0, hr0⟩, hb1⟩
    rw [← EX.out]
    have HB1 := Lib.hid hb1
    have HR1 := Lib.hid hr0
    clear hr0 hb1 hc0
    go_wp2_with (first
      | (refine wpList_put_box (x := .tmp 7) (cells := eV X) (Blk.new _ _ _) rfl rfl rfl rfl elem_size rfl (by simp [eV, wV, limbs, Value.oneCell']) ?_; intro w2 hb2 hw2; have hk2 := box_below hw2; have HX2 := Lib.hid hb2; have HB2 := Lib.hid (HB1.out.trans (hk2.mono HB1.out.size)); have HR2 := Lib.hid (rd_shape HR1.out hk2); clear hb2 hw2 hk2 HB1 HR1)
      | (refine wpList_get_box (x := .tmp 7) HX2.out rfl rfl rfl hu rfl elem_size ?_))
    refine calls_then (CU.out _ HB2.out) ?_
    rintro e w3 ⟨rfl, hb3⟩
    have HB3 := Lib.hid (HB2.out.trans (hb3.mono HB2.out.size))
    have HX3 := Lib.hid (HX2.out.below hb3 HX2.out.lt)
    have HR3 := Lib.hid (rd_shape HR2.out hb3)
    clear hb3 HB2 HX2 HR2
    generalize w1.heap.size = g at *
    go_wp2_with (first
      | (refine wpList_put_box (x := .tmp 9) (cells := eV U) (Blk.new _ _ _) rfl rfl rfl rfl elem_size rfl (by simp [eV, wV, limbs, Value.oneCell']) ?_; intro w4 hb4 hw4; have hk4 := box_below hw4; have HP4 := Lib.hid hb4; have HX4 := Lib.hid (HX3.out.below hk4 HX3.out.lt); have HB4 := Lib.hid (HB3.out.trans (hk4.mono HB3.out.size)); have HR4 := Lib.hid (rd_shape HR3.out hk4); clear hb4 hw4 hk4 HB3 HR3 HX3)
      | (refine wpList_get_box (x := .tmp 7) HX4.out rfl rfl rfl hu rfl elem_size ?_))
    refine calls_then (CV.out _ HB4.out) ?_
    rintro e w5 ⟨rfl, hb5⟩
    have HB5 := Lib.hid (HB4.out.trans (hb5.mono HB4.out.size))
    have HX5 := Lib.hid (HX4.out.below hb5 HX4.out.lt)
    have HP5 := Lib.hid (HP4.out.below hb5 HP4.out.lt)
    have HR5 := Lib.hid (rd_shape HR4.out hb5)
    clear hb5 HB4 HX4 HR4 HP4
    generalize w3.heap.size = h at *
    go_wp2_with (refine wpList_put_box (x := .tmp 10) (cells := eV V) (Blk.new _ _ _) rfl rfl rfl rfl elem_size rfl (by simp [eV, wV, limbs, Value.oneCell']) ?_; intro w6 hb6 hw6; have hk6 := box_below hw6; have HQ6 := Lib.hid hb6; have HX6 := Lib.hid (HX5.out.below hk6 HX5.out.lt); have HP6 := Lib.hid (HP5.out.below hk6 HP5.out.lt); have HB6 := Lib.hid (HB5.out.trans (hk6.mono HB5.out.size)); have HR6 := Lib.hid (rd_shape HR5.out hk6); clear hb6 hw6 hk6 HB5 HR5 HX5 HP5)
    refine calls_then (CM.out _ HB6.out) ?_
    rintro e w7 ⟨A7, c7, rfl, hown7, hb7⟩
    have HV7 := Lib.hid (Rd.of_own hown7 (Nat.le_refl _))
    have HB7 := Lib.hid (HB6.out.trans (hb7.mono HB6.out.size))
    have HX7 := Lib.hid (HX6.out.below hb7 HX6.out.lt)
    have HP7 := Lib.hid (HP6.out.below hb7 HP6.out.lt)
    have HQ7 := Lib.hid (HQ6.out.below hb7 HQ6.out.lt)
    have HR7 := Lib.hid (rd_shape HR6.out hb7)
    clear hown7 hb7 HB6 HX6 HR6 HP6 HQ6
    generalize w5.heap.size = r at *
    go_wp2_with fail
    refine calls_then (CK.out _ HB7.out) ?_
    rintro e w8 ⟨A8, c8, rfl, hown8, hb8⟩
    have HC8 := Lib.hid (CT.out w8 A7 c7 A8 c8 (rd_shape HV7.out hb8) (Rd.of_own hown8 (Nat.le_refl _)))
    have HB8 := Lib.hid (HB7.out.trans (hb8.mono HB7.out.size))
    have HX8 := Lib.hid (HX7.out.below hb8 HX7.out.lt)
    have HP8 := Lib.hid (HP7.out.below hb8 HP7.out.lt)
    have HQ8 := Lib.hid (HQ7.out.below hb8 HQ7.out.lt)
    have HR8 := Lib.hid (rd_shape HR7.out hb8)
    clear hown8 hb8 HB7 HX7 HR7 HP7 HQ7 HV7
    go_wp2_with fail
    refine calls_then HC8.out ?_
    rintro e w9 ⟨A9, c9, rfl, hc9, hr9, hb9⟩
    have HC9 := Lib.hid (CS.out w9 A9 c9 hr9 hc9)
    have HB9 := Lib.hid (HB8.out.trans (hb9.mono HB8.out.size))
    have HX9 := Lib.hid (HX8.out.below hb9 HX8.out.lt)
    have HP9 := Lib.hid (HP8.out.below hb9 HP8.out.lt)
    have HQ9 := Lib.hid (HQ8.out.below hb9 HQ8.out.lt)
    have HR9 := Lib.hid (rd_shape HR8.out hb9)
    clear hc9 hr9 hb9 HB8 HX8 HR8 HP8 HQ8 HC8
    go_wp2_with fail
    refine calls_then HC9.out ?_
    rintro e w10 ⟨A5, c5, rfl, hown5, hb10⟩
    have hle5 := hown5.le_cap
    have HST := Lib.hid (PW.mk (HB9.out.trans (hb10.mono HB9.out.size)) (HX9.out.below hb10 HX9.out.lt) (HP9.out.below hb10 HP9.out.lt) (HQ9.out.below hb10 HQ9.out.lt) (rd_shape HR9.out hb10) (Rd.of_own hown5 (Nat.le_refl _)))
    have HLE := Lib.hid hle5
    clear hown5 hb10 hle5 HB9 HX9 HP9 HQ9 HR9 HC9
    go_wp2_with fail
    have HC0 := HST.out.drew
    clear HST
    refine wp_region_list (fun u => PW w g h r X U V A0 A5 (padD l) S u) (fun | false => (fun _ => True) | true => (fun _ => True)) (fun | false, _ => false | true, _ => false)
      [fun z _ => z 0 = .agg (eV U),
       fun z _ => z 1 = .slice A0 32 c0,
       fun z _ => z 2 = .slice (some bd) 3 d,
       fun z u => (RdV 3 (dV DM)) (z 3) u,
       fun z u => (RdV 32 (dV (digN 32 (X.val ^ leV DM % PN)))) (z 4) u,
       fun z _ => z 5 = .bool true,
       fun z _ => z 6 = .bool true]
      [Eq, Eq, Eq, fun u u' => Below u.heap.size u u', fun u u' => Below u.heap.size u u', fun u u' => Below u.heap.size u u', Eq]
      (fun _ _ => false) [(0, some 40), (1, some 41), (2, some 42), (3, some 43), (4, some 44), (5, some 45), (6, some 12)] (by kernel_rfl) (by kernel_rfl) rfl (fun _ => rfl) ?_ ?_ ?_ ?_ ?_ ?_
    · exact HC0
    · intro m; cases m; exact trivial; exact trivial
    · intro m; cases m
      · exact ⟨.inr (fun _ _ h h0 => h ▸ h0), .inr (fun _ _ h h0 => h ▸ h0), .inr (fun _ _ h h0 => h ▸ h0), .inr (fun _ _ _ h => h), .inr (fun _ _ _ h => h), .inr (fun _ _ _ h => h), .inr (fun _ _ h h0 => h ▸ h0), trivial⟩
      · exact ⟨.inr (fun _ _ h h0 => h ▸ h0), .inr (fun _ _ h h0 => h ▸ h0), .inr (fun _ _ h h0 => h ▸ h0), .inr (fun _ _ _ h => h), .inr (fun _ _ _ h => h), .inr (fun _ _ _ h => h), .inr (fun _ _ h h0 => h ▸ h0), trivial⟩
    · exact ⟨⟨.inl rfl, .inr (.inr (.inr (fun _ _ _ _ _ h => h))), .inr (.inr (.inr (fun _ _ _ _ _ h => h))), .inr (.inr (.inr (fun _ _ _ _ h h0 => by cases h; exact h0))), .inr (.inr (.inr (fun _ _ _ _ h h0 => by cases h; exact h0))), .inr (.inr (.inl rfl)), .inr (.inr (.inl rfl)), trivial⟩,
        ⟨.inr (.inr (.inr (fun _ _ _ _ _ h => h))), .inl rfl, .inr (.inr (.inr (fun _ _ _ _ _ h => h))), .inr (.inr (.inr (fun _ _ _ _ h h0 => by cases h; exact h0))), .inr (.inr (.inl rfl)), .inr (.inr (.inl rfl)), .inr (.inr (.inl rfl)), trivial⟩,
        ⟨.inr (.inr (.inr (fun _ _ _ _ _ h => h))), .inr (.inr (.inr (fun _ _ _ _ _ h => h))), .inl rfl, .inr (.inr (.inl rfl)), .inr (.inr (.inl rfl)), .inr (.inr (.inl rfl)), .inr (.inr (.inl rfl)), trivial⟩,
        ⟨.inr (.inr (.inr (fun _ _ _ _ _ h => h))), .inr (.inr (.inr (fun _ _ _ _ _ h => h))), .inr (.inr (.inr (fun _ _ _ _ _ h => h))), .inl rfl, .inr (.inr (.inl rfl)), .inr (.inr (.inl rfl)), .inr (.inr (.inl rfl)), trivial⟩,
        ⟨.inr (.inr (.inr (fun _ _ _ _ _ h => h))), .inr (.inr (.inr (fun _ _ _ _ _ h => h))), .inr (.inr (.inr (fun _ _ _ _ _ h => h))), .inr (.inr (.inr (fun _ _ _ _ h h0 => h0.next h))), .inl rfl, .inr (.inr (.inl rfl)), .inr (.inr (.inl rfl)), trivial⟩,
        ⟨.inr (.inr (.inr (fun _ _ _ _ _ h => h))), .inr (.inr (.inr (fun _ _ _ _ _ h => h))), .inr (.inr (.inr (fun _ _ _ _ _ h => h))), .inr (.inr (.inr (fun _ _ _ _ h h0 => h0.next h))), .inr (.inr (.inr (fun _ _ _ _ h h0 => h0.next h))), .inl rfl, .inr (.inr (.inl rfl)), trivial⟩,
        ⟨.inr (.inr (.inr (fun _ _ _ _ _ h => h))), .inr (.inr (.inr (fun _ _ _ _ _ h => h))), .inr (.inr (.inr (fun _ _ _ _ _ h => h))), .inr (.inr (.inr (fun _ _ _ _ h h0 => by cases h; exact h0))), .inr (.inr (.inr (fun _ _ _ _ h h0 => by cases h; exact h0))), .inr (.inr (.inr (fun _ _ _ _ _ h => h))), .inl rfl, trivial⟩, trivial⟩
    · refine ⟨?_, ?_, ?_, ?_, ?_, ?_, ?_, trivial⟩
      · -- 0: Op.load 26 (Operand.tmp 9)
        refine step_plain [] (fun _ => rfl) rfl ?_
        intro w1 vals hC1 hi0 hf E hE
        clear hi0
        clear hf
        simp only [puts, act_put, act_put_none, List.setIfInBounds_toArray, List.set_cons_zero, List.set_cons_succ] at hE ⊢
        refine wpList_get_box hC1.p rfl rfl rfl hu rfl elem_size ?_
        go_wp2_with fail
        exact .mk (hE _ _ rfl hC1 rfl)
      · -- 1: Op.move (Operand.tmp 8)
        refine step_plain [] (fun _ => rfl) rfl ?_
        intro w1 vals hC1 hi0 hf E hE
        clear hi0
        clear hf
        simp only [puts, act_put, act_put_none, List.setIfInBounds_toArray, List.set_cons_zero, List.set_cons_succ] at hE ⊢
        go_wp2
        exact .mk (hE _ _ rfl hC1 rfl)
      · -- 2: Op.move (Operand.tmp 1)
        refine step_plain [] (fun _ => rfl) rfl ?_
        intro w1 vals hC1 hi0 hf E hE
        clear hi0
        clear hf
        simp only [puts, act_put, act_put_none, List.setIfInBounds_toArray, List.set_cons_zero, List.set_cons_succ] at hE ⊢
        go_wp2
        exact .mk (hE _ _ rfl hC1 rfl)
      · -- 3: Op.call { callee := Callee.value (Operand.func 16), args := #[Operand.tmp 42], argTypes := #[33] }
        refine step_plain [(2, some 42)] (fun _ => rfl) rfl ?_
        intro w1 vals hC1 hi0 hf E hE
        clear hi0
        have f2 : vals 2 = .slice (some bd) 3 d := hf 2 rfl
        try dsimp only at f2
        clear hf
        simp only [puts, act_put, act_put_none, List.setIfInBounds_toArray, List.set_cons_zero, List.set_cons_succ, f2] at hE ⊢
        clear f2
        go_wp2_with fail
        refine calls_then (CM.out _ hC1.bel) ?_
        rintro e u2 ⟨A2, c2, rfl, hown, hb2⟩
        have hrv := RdV.of_own hown
        go_wp2_with fail
        exact .mk (hE _ _ hrv (hC1.next hb2) hb2)
      · -- 4: Op.call { callee := Callee.value (Operand.func 26), args := #[Operand.tmp 41, Operand.tmp 43], argTypes := #[2
        refine step_plain [(1, some 41), (3, some 43), (3, some 43)] (fun _ => rfl) rfl ?_
        intro w1 vals hC1 hi0 hf E hE
        clear hi0
        have f1 : vals 1 = .slice A0 32 c0 := hf 1 rfl
        have f3 : (RdV 3 (dV DM)) (vals 3) w1 := hf 3 rfl
        try dsimp only at f1 f3
        clear hf
        obtain ⟨A2, c2, hx2, hc2, hr2⟩ := f3
        simp only [puts, act_put, act_put_none, List.setIfInBounds_toArray, List.set_cons_zero, List.set_cons_succ, f1, hx2] at hE ⊢
        clear f1
        clear hx2
        go_wp2_with fail
        refine calls_then (CR.out _ _ _ _ _ hC1.d hr2) ?_
        rintro e u2 ⟨A3, c3, rfl, hc3, hr3, hb2⟩
        rw [digN_length] at hc3
        rw [digN_length]
        go_wp2_with fail
        exact .mk (hE _ _ ⟨A3, c3, rfl, hc3, hr3⟩ (hC1.next hb2) hb2)
      · -- 5: Op.call { callee := Callee.value (Operand.func 9), args := #[Operand.tmp 40, Operand.tmp 44], argTypes := #[26
        refine step_plain [(0, some 40), (4, some 44), (4, some 44)] (fun _ => rfl) rfl ?_
        intro w1 vals hC1 hi0 hf E hE
        clear hi0
        have f0 : vals 0 = .agg (eV U) := hf 0 rfl
        have f4 : (RdV 32 (dV (digN 32 (X.val ^ leV DM % PN)))) (vals 4) w1 := hf 4 rfl
        try dsimp only at f0 f4
        clear hf
        obtain ⟨A2, c2, hx2, hc2, hr2⟩ := f4
        simp only [puts, act_put, act_put_none, List.setIfInBounds_toArray, List.set_cons_zero, List.set_cons_succ, f0, hx2] at hE ⊢
        clear f0
        clear hx2
        go_wp2_with fail
        refine calls_then (CL.out _ _ _ hr2 hc2) ?_
        rintro e u2 ⟨rfl, hb2⟩
        go_wp2_with fail
        exact .mk (hE _ _ rfl (hC1.next hb2) hb2)
      · -- 6: Op.assign (Operand.tmp 45)
        refine step_plain [(5, some 45), (5, some 45), (0, some 40), (1, some 41), (2, some 42), (3, some 43), (4, some 44), (5, some 45)] (fun _ => rfl) rfl ?_
        intro w1 vals hC1 hi0 hf E hE
        clear hi0
        have f0 : vals 0 = .agg (eV U) := hf 0 rfl
        have f1 : vals 1 = .slice A0 32 c0 := hf 1 rfl
        have f2 : vals 2 = .slice (some bd) 3 d := hf 2 rfl
        have f3 : (RdV 3 (dV DM)) (vals 3) w1 := hf 3 rfl
        have f4 : (RdV 32 (dV (digN 32 (X.val ^ leV DM % PN)))) (vals 4) w1 := hf 4 rfl
        have f5 : vals 5 = .bool true := hf 5 rfl
        try dsimp only at f0 f1 f2 f3 f4 f5
        clear hf
        simp only [puts, act_put, act_put_none, List.setIfInBounds_toArray, List.set_cons_zero, List.set_cons_succ, f0, f1, f2, f5] at hE ⊢
        clear f0 f1 f2 f5
        go_wp2
        exact .mk (hE _ _ rfl hC1 rfl)
    intro w1 vals hC1 hf
    have f0 : vals 0 = .agg (eV U) := hf 0 (by decide) rfl
    have f1 : vals 1 = .slice A0 32 c0 := hf 1 (by decide) rfl
    have f2 : vals 2 = .slice (some bd) 3 d := hf 2 (by decide) rfl
    have f3 : (RdV 3 (dV DM)) (vals 3) w1 := hf 3 (by decide) rfl
    have f4 : (RdV 32 (dV (digN 32 (X.val ^ leV DM % PN)))) (vals 4) w1 := hf 4 (by decide) rfl
    have f5 : vals 5 = .bool true := hf 5 (by decide) rfl
    have f6 : vals 6 = .bool true := hf 6 (by decide) rfl
    try dsimp only at f0 f1 f2 f3 f4 f5 f6
    clear hf
    simp only [puts, act_put, act_put_none, List.setIfInBounds_toArray, List.set_cons_zero, List.set_cons_succ, f0, f1, f2, f5, f6]
    clear f0 f1 f2 f5 f6
    generalize vals 3 = x3 at *
    generalize vals 4 = x4 at *
    clear HC0 f3 f4
    have HC0 := hC1.drew
    clear hC1
    go_wp2_with fail
    refine wp_region_det (fun u => PW w g h r X U V A0 A5 (padD l) S u) (fun u => PW w g h r X U V A0 A5 (padD l) S u) [(0, some 46), (1, some 47), (2, some 48), (3, some 49), (4, some 50), (5, some 51), (6, some 52), (7, some 53), (8, some 54), (9, some 55), (10, some 56), (11, some 57), (12, some 58), (13, some 6)] (by kernel_rfl) (by kernel_rfl) (by decide) (by kernel_rfl) (fun _ => rfl) HC0 ?_
    apply DetL.next
    · -- 0: Op.move (Operand.tmp 12)
      apply detStep_plain []
      exact fun _ => rfl
      rfl
      rintro vals - w1 hC1 E hE
      simp only [puts, act_put, act_put_none, List.setIfInBounds_toArray, List.set_cons_zero, List.set_cons_succ] at hE ⊢
      go_wp2
      exact .mk (hE _ hC1)
    apply DetL.next
    · -- 1: Op.move (Operand.tmp 46)
      apply detStep_plain [(0, some 46)]
      exact fun _ => rfl
      rfl
      rintro vals ⟨-, f0⟩ w1 hC1 E hE
      simp only [puts, act_put, act_put_none, List.setIfInBounds_toArray, List.set_cons_zero, List.set_cons_succ, f0] at hE ⊢
      clear f0
      go_wp2
      exact .mk (hE _ hC1)
    apply DetL.next
    · -- 2: Op.load 26 (Operand.tmp 9)
      apply detStep_yes [(1, some 47)] (g := 1) (t := 47) (want := true)
      exact fun _ => rfl
      rfl
      rfl
      · rintro vals ⟨⟨-, -⟩, f1⟩
        simp only [puts, act_put, act_put_none, List.setIfInBounds_toArray, List.set_cons_zero, List.set_cons_succ, f1]
        rfl
      rintro vals ⟨⟨-, -⟩, f1⟩ w1 hC1 E hE
      dsimp only at hE ⊢
      simp only [puts, act_put, act_put_none, List.setIfInBounds_toArray, List.set_cons_zero, List.set_cons_succ, f1] at hE ⊢
      clear f1
      refine wpList_get_box hC1.p rfl rfl rfl hu rfl elem_size ?_
      go_wp2_with fail
      exact .mk (hE _ hC1)
    apply DetL.next
    · -- 3: Op.load 26 (Operand.tmp 10)
      apply detStep_yes [(1, some 47)] (g := 1) (t := 47) (want := true)
      exact fun _ => rfl
      rfl
      rfl
      · rintro vals ⟨⟨⟨-, -⟩, f1⟩, -⟩
        simp only [puts, act_put, act_put_none, List.setIfInBounds_toArray, List.set_cons_zero, List.set_cons_succ, f1]
        rfl
      rintro vals ⟨⟨⟨-, -⟩, f1⟩, -⟩ w1 hC1 E hE
      dsimp only at hE ⊢
      simp only [puts, act_put, act_put_none, List.setIfInBounds_toArray, List.set_cons_zero, List.set_cons_succ, f1] at hE ⊢
      clear f1
      refine wpList_get_box hC1.q rfl rfl rfl hu rfl elem_size ?_
      go_wp2_with fail
      exact .mk (hE _ hC1)
    apply DetL.next
    · -- 4: Op.call { callee := Callee.value (Operand.func 22), args := #[Operand.tmp 48, Operand.tmp 49], argTypes := #[2
      apply detStep_yes [(2, some 48), (3, some 49), (1, some 47), (1, some 47)] (g := 1) (t := 47) (want := true)
      exact fun _ => rfl
      rfl
      rfl
      · rintro vals ⟨⟨⟨⟨-, -⟩, f1⟩, f2⟩, f3⟩
        simp only [puts, act_put, act_put_none, List.setIfInBounds_toArray, List.set_cons_zero, List.set_cons_succ, f1, f2, f3]
        rfl
      rintro vals ⟨⟨⟨⟨-, -⟩, f1⟩, f2⟩, f3⟩ w1 hC1 E hE
      dsimp only at hE ⊢
      simp only [puts, act_put, act_put_none, List.setIfInBounds_toArray, List.set_cons_zero, List.set_cons_succ, f1, f2, f3] at hE ⊢
      clear f1 f2 f3
      go_wp2_with fail
      refine calls_then (HUV.out _) ?_
      rintro e w2 ⟨rfl, hb2⟩
      go_wp2_with fail
      exact .mk (hE _ (hC1.next hb2))
    apply DetL.next
    · -- 5: Op.load 26 (Operand.tmp 7)
      apply detStep_yes [(1, some 47)] (g := 1) (t := 47) (want := true)
      exact fun _ => rfl
      rfl
      rfl
      · rintro vals ⟨⟨⟨⟨⟨-, -⟩, f1⟩, -⟩, -⟩, -⟩
        simp only [puts, act_put, act_put_none, List.setIfInBounds_toArray, List.set_cons_zero, List.set_cons_succ, f1]
        rfl
      rintro vals ⟨⟨⟨⟨⟨-, -⟩, f1⟩, -⟩, -⟩, -⟩ w1 hC1 E hE
      dsimp only at hE ⊢
      simp only [puts, act_put, act_put_none, List.setIfInBounds_toArray, List.set_cons_zero, List.set_cons_succ, f1] at hE ⊢
      clear f1
      refine wpList_get_box hC1.x rfl rfl rfl hu rfl elem_size ?_
      go_wp2_with fail
      exact .mk (hE _ hC1)
    apply DetL.next
    · -- 6: Op.move (Operand.tmp 11)
      apply detStep_yes [(1, some 47)] (g := 1) (t := 47) (want := true)
      exact fun _ => rfl
      rfl
      rfl
      · rintro vals ⟨⟨⟨⟨⟨⟨-, -⟩, f1⟩, -⟩, -⟩, -⟩, -⟩
        simp only [puts, act_put, act_put_none, List.setIfInBounds_toArray, List.set_cons_zero, List.set_cons_succ, f1]
        rfl
      rintro vals ⟨⟨⟨⟨⟨⟨-, -⟩, f1⟩, -⟩, -⟩, -⟩, -⟩ w1 hC1 E hE
      dsimp only at hE ⊢
      simp only [puts, act_put, act_put_none, List.setIfInBounds_toArray, List.set_cons_zero, List.set_cons_succ, f1] at hE ⊢
      clear f1
      go_wp2
      exact .mk (hE _ hC1)
    apply DetL.next
    · -- 7: Op.call { callee := Callee.value (Operand.func 23), args := #[Operand.tmp 51, Operand.tmp 52], argTypes := #[2
      apply detStep_yes [(5, some 51), (6, some 52), (4, some 50), (1, some 47)] (g := 1) (t := 47) (want := true)
      exact fun _ => rfl
      rfl
      rfl
      · rintro vals ⟨⟨⟨⟨⟨⟨⟨-, -⟩, f1⟩, -⟩, -⟩, f4⟩, f5⟩, f6⟩
        simp only [puts, act_put, act_put_none, List.setIfInBounds_toArray, List.set_cons_zero, List.set_cons_succ, f1, f4, f5, f6]
        rfl
      rintro vals ⟨⟨⟨⟨⟨⟨⟨-, -⟩, f1⟩, -⟩, -⟩, f4⟩, f5⟩, f6⟩ w1 hC1 E hE
      dsimp only at hE ⊢
      simp only [puts, act_put, act_put_none, List.setIfInBounds_toArray, List.set_cons_zero, List.set_cons_succ, f1, f4, f5, f6] at hE ⊢
      clear f1 f4 f5 f6
      go_wp2_with fail
      refine calls_then (CZ.out _ _ _ hC1.s HLE.out) ?_
      rintro e w2 ⟨rfl, hb2⟩
      go_wp2_with fail
      exact .mk (hE _ (hC1.next hb2))
    apply DetL.next
    · -- 8: Op.call { callee := Callee.value (Operand.func 12), args := #[Operand.tmp 50, Operand.tmp 53], argTypes := #[2
      apply detStep_yes [(4, some 50), (7, some 53), (7, some 53), (1, some 47)] (g := 1) (t := 47) (want := true)
      exact fun _ => rfl
      rfl
      rfl
      · rintro vals ⟨⟨⟨⟨⟨⟨⟨⟨-, -⟩, f1⟩, -⟩, -⟩, f4⟩, -⟩, -⟩, f7⟩
        simp only [puts, act_put, act_put_none, List.setIfInBounds_toArray, List.set_cons_zero, List.set_cons_succ, f1, f4, f7]
        rfl
      rintro vals ⟨⟨⟨⟨⟨⟨⟨⟨-, -⟩, f1⟩, -⟩, -⟩, f4⟩, -⟩, -⟩, f7⟩ w1 hC1 E hE
      dsimp only at hE ⊢
      simp only [puts, act_put, act_put_none, List.setIfInBounds_toArray, List.set_cons_zero, List.set_cons_succ, f1, f4, f7] at hE ⊢
      clear f1 f4 f7
      go_wp2_with fail
      refine calls_then (HEQ.out _) ?_
      rintro e w2 ⟨rfl, hb2⟩
      go_wp2_with fail
      exact .mk (hE _ (hC1.next hb2))
    apply DetL.next
    · -- 9: Op.pick (Operand.tmp 47) (Operand.tmp 54) (Operand.const (Value.bool false))
      apply detStep_plain [(1, some 47), (8, some 54)]
      exact fun _ => rfl
      rfl
      rintro vals ⟨⟨⟨⟨⟨⟨⟨⟨⟨-, -⟩, f1⟩, -⟩, -⟩, -⟩, -⟩, -⟩, -⟩, f8⟩ w1 hC1 E hE
      simp only [puts, act_put, act_put_none, List.setIfInBounds_toArray, List.set_cons_zero, List.set_cons_succ, f1, f8] at hE ⊢
      clear f1 f8
      go_wp2
      exact .mk (hE _ hC1)
    apply DetL.next
    · -- 10: Op.move (Operand.tmp 55)
      apply detStep_plain [(9, some 55), (8, some 54)]
      exact fun _ => rfl
      rfl
      rintro vals ⟨⟨⟨⟨⟨⟨⟨⟨⟨⟨-, -⟩, -⟩, -⟩, -⟩, -⟩, -⟩, -⟩, -⟩, f8⟩, f9⟩ w1 hC1 E hE
      simp only [puts, act_put, act_put_none, List.setIfInBounds_toArray, List.set_cons_zero, List.set_cons_succ, f8, f9] at hE ⊢
      clear f8 f9
      go_wp2
      exact .mk (hE _ hC1)
    apply DetL.next
    · -- 11: Op.call { callee := Callee.value (Operand.func 13), args := #[], argTypes := #[] }
      apply detStep_yes [(10, some 56), (10, some 56)] (g := 10) (t := 56) (want := true)
      exact fun _ => rfl
      rfl
      rfl
      · rintro vals ⟨⟨⟨⟨⟨⟨⟨⟨⟨⟨⟨-, -⟩, -⟩, -⟩, -⟩, -⟩, -⟩, -⟩, -⟩, -⟩, -⟩, f10⟩
        simp only [puts, act_put, act_put_none, List.setIfInBounds_toArray, List.set_cons_zero, List.set_cons_succ, f10]
        rfl
      rintro vals ⟨⟨⟨⟨⟨⟨⟨⟨⟨⟨⟨-, -⟩, -⟩, -⟩, -⟩, -⟩, -⟩, -⟩, -⟩, -⟩, -⟩, f10⟩ w1 hC1 E hE
      dsimp only at hE ⊢
      simp only [puts, act_put, act_put_none, List.setIfInBounds_toArray, List.set_cons_zero, List.set_cons_succ, f10] at hE ⊢
      clear f10
      go_wp2_with fail
      refine calls_then (lives_any _) ?_
      rintro e w2 ⟨rfl, hb2⟩
      go_wp2_with fail
      exact .mk (hE _ (hC1.next hb2))
    apply DetL.next
    · -- 12: Op.pick (Operand.tmp 56) (Operand.tmp 57) (Operand.const (Value.bool false))
      apply detStep_plain [(10, some 56), (11, some 57)]
      exact fun _ => rfl
      rfl
      rintro vals ⟨⟨⟨⟨⟨⟨⟨⟨⟨⟨⟨⟨-, -⟩, -⟩, -⟩, -⟩, -⟩, -⟩, -⟩, -⟩, -⟩, -⟩, f10⟩, f11⟩ w1 hC1 E hE
      simp only [puts, act_put, act_put_none, List.setIfInBounds_toArray, List.set_cons_zero, List.set_cons_succ, f10, f11] at hE ⊢
      clear f10 f11
      go_wp2
      exact .mk (hE _ hC1)
    apply DetL.last
    · -- 13: Op.assign (Operand.tmp 58)
      apply detStep_plain [(12, some 58), (11, some 57), (0, some 46), (1, some 47), (2, some 48), (3, some 49), (4, some 50), (5, some 51), (6, some 52), (7, some 53), (8, some 54), (9, some 55), (10, some 56), (11, some 57), (12, some 58)]
      exact fun _ => rfl
      rfl
      rintro vals ⟨⟨⟨⟨⟨⟨⟨⟨⟨⟨⟨⟨⟨-, f0⟩, f1⟩, f2⟩, f3⟩, f4⟩, f5⟩, f6⟩, f7⟩, f8⟩, f9⟩, f10⟩, f11⟩, f12⟩ w1 hC1 E hE
      simp only [puts, act_put, act_put_none, List.setIfInBounds_toArray, List.set_cons_zero, List.set_cons_succ, f0, f1, f2, f3, f4, f5, f6, f7, f8, f9, f10, f11, f12] at hE ⊢
      clear f0 f1 f2 f3 f4 f5 f6 f7 f8 f9 f10 f11 f12
      go_wp2
      exact .mk (hE _ hC1)
    rintro vals ⟨⟨⟨⟨⟨⟨⟨⟨⟨⟨⟨⟨⟨⟨-, f0⟩, f1⟩, f2⟩, f3⟩, f4⟩, f5⟩, f6⟩, f7⟩, f8⟩, f9⟩, f10⟩, f11⟩, f12⟩, f13⟩ w1 hC1
    simp only [puts, act_put, act_put_none, List.setIfInBounds_toArray, List.set_cons_zero, List.set_cons_succ, f0, f1, f2, f3, f4, f5, f6, f7, f8, f9, f10, f11, f12, f13]
    clear f0 f1 f2 f3 f4 f5 f6 f7 f8 f9 f10 f11 f12 f13
    have HST := Lib.hid hC1
    clear hC1 HC0
    go_wp2_with fail
    go_ret
    exact ⟨rfl, HST.out.bel⟩
  · obtain rfl : p = 3 := by have := HPM.out; omega
    obtain ⟨bd, rfl⟩ : ∃ ad, B = some ad := by
      cases B with
      | none => have := NB.out rfl; omega
      | some ad => exact ⟨ad, rfl⟩
    have hgi2 : (3 : Int) < (n2 : Int) := by omega
    obtain rfl : q = n3 := by have := HQM.out; omega
    have hgi3 : ¬ (3 : Int) < (q : Int) := by omega
    clear hg2 hg3 HPM HQM NB NC hp3 hq3 hpm hqm
    go_enter Try.func6, Try.ntmps6
    go_wp2_with fail
    refine calls_then (C1.out _ (Below.refl _ _)) ?_
    rintro e w1 ⟨v1, rfl, ⟨A0, c0, rfl, hc0, hr0⟩, hb1⟩
    rw [← EX.out]
    have HB1 := Lib.hid hb1
    have HR1 := Lib.hid hr0
    clear hr0 hb1 hc0
    go_wp2_with (first
      | (refine wpList_put_box (x := .tmp 7) (cells := eV X) (Blk.new _ _ _) rfl rfl rfl rfl elem_size rfl (by simp [eV, wV, limbs, Value.oneCell']) ?_; intro w2 hb2 hw2; have hk2 := box_below hw2; have HX2 := Lib.hid hb2; have HB2 := Lib.hid (HB1.out.trans (hk2.mono HB1.out.size)); have HR2 := Lib.hid (rd_shape HR1.out hk2); clear hb2 hw2 hk2 HB1 HR1)
      | (refine wpList_get_box (x := .tmp 7) HX2.out rfl rfl rfl hu rfl elem_size ?_))
    refine calls_then (CU.out _ HB2.out) ?_
    rintro e w3 ⟨rfl, hb3⟩
    have HB3 := Lib.hid (HB2.out.trans (hb3.mono HB2.out.size))
    have HX3 := Lib.hid (HX2.out.below hb3 HX2.out.lt)
    have HR3 := Lib.hid (rd_shape HR2.out hb3)
    clear hb3 HB2 HX2 HR2
    generalize w1.heap.size = g at *
    go_wp2_with (first
      | (refine wpList_put_box (x := .tmp 9) (cells := eV U) (Blk.new _ _ _) rfl rfl rfl rfl elem_size rfl (by simp [eV, wV, limbs, Value.oneCell']) ?_; intro w4 hb4 hw4; have hk4 := box_below hw4; have HP4 := Lib.hid hb4; have HX4 := Lib.hid (HX3.out.below hk4 HX3.out.lt); have HB4 := Lib.hid (HB3.out.trans (hk4.mono HB3.out.size)); have HR4 := Lib.hid (rd_shape HR3.out hk4); clear hb4 hw4 hk4 HB3 HR3 HX3)
      | (refine wpList_get_box (x := .tmp 7) HX4.out rfl rfl rfl hu rfl elem_size ?_))
    refine calls_then (CV.out _ HB4.out) ?_
    rintro e w5 ⟨rfl, hb5⟩
    have HB5 := Lib.hid (HB4.out.trans (hb5.mono HB4.out.size))
    have HX5 := Lib.hid (HX4.out.below hb5 HX4.out.lt)
    have HP5 := Lib.hid (HP4.out.below hb5 HP4.out.lt)
    have HR5 := Lib.hid (rd_shape HR4.out hb5)
    clear hb5 HB4 HX4 HR4 HP4
    generalize w3.heap.size = h at *
    go_wp2_with (refine wpList_put_box (x := .tmp 10) (cells := eV V) (Blk.new _ _ _) rfl rfl rfl rfl elem_size rfl (by simp [eV, wV, limbs, Value.oneCell']) ?_; intro w6 hb6 hw6; have hk6 := box_below hw6; have HQ6 := Lib.hid hb6; have HX6 := Lib.hid (HX5.out.below hk6 HX5.out.lt); have HP6 := Lib.hid (HP5.out.below hk6 HP5.out.lt); have HB6 := Lib.hid (HB5.out.trans (hk6.mono HB5.out.size)); have HR6 := Lib.hid (rd_shape HR5.out hk6); clear hb6 hw6 hk6 HB5 HR5 HX5 HP5)
    refine calls_then (CM.out _ HB6.out) ?_
    rintro e w7 ⟨A7, c7, rfl, hown7, hb7⟩
    have HV7 := Lib.hid (Rd.of_own hown7 (Nat.le_refl _))
    have HB7 := Lib.hid (HB6.out.trans (hb7.mono HB6.out.size))
    have HX7 := Lib.hid (HX6.out.below hb7 HX6.out.lt)
    have HP7 := Lib.hid (HP6.out.below hb7 HP6.out.lt)
    have HQ7 := Lib.hid (HQ6.out.below hb7 HQ6.out.lt)
    have HR7 := Lib.hid (rd_shape HR6.out hb7)
    clear hown7 hb7 HB6 HX6 HR6 HP6 HQ6
    generalize w5.heap.size = r at *
    go_wp2_with fail
    refine calls_then (CK.out _ HB7.out) ?_
    rintro e w8 ⟨A8, c8, rfl, hown8, hb8⟩
    have HC8 := Lib.hid (CT.out w8 A7 c7 A8 c8 (rd_shape HV7.out hb8) (Rd.of_own hown8 (Nat.le_refl _)))
    have HB8 := Lib.hid (HB7.out.trans (hb8.mono HB7.out.size))
    have HX8 := Lib.hid (HX7.out.below hb8 HX7.out.lt)
    have HP8 := Lib.hid (HP7.out.below hb8 HP7.out.lt)
    have HQ8 := Lib.hid (HQ7.out.below hb8 HQ7.out.lt)
    have HR8 := Lib.hid (rd_shape HR7.out hb8)
    clear hown8 hb8 HB7 HX7 HR7 HP7 HQ7 HV7
    go_wp2_with fail
    refine calls_then HC8.out ?_
    rintro e w9 ⟨A9, c9, rfl, hc9, hr9, hb9⟩
    have HC9 := Lib.hid (CS.out w9 A9 c9 hr9 hc9)
    have HB9 := Lib.hid (HB8.out.trans (hb9.mono HB8.out.size))
    have HX9 := Lib.hid (HX8.out.below hb9 HX8.out.lt)
    have HP9 := Lib.hid (HP8.out.below hb9 HP8.out.lt)
    have HQ9 := Lib.hid (HQ8.out.below hb9 HQ8.out.lt)
    have HR9 := Lib.hid (rd_shape HR8.out hb9)
    clear hc9 hr9 hb9 HB8 HX8 HR8 HP8 HQ8 HC8
    go_wp2_with fail
    refine calls_then HC9.out ?_
    rintro e w10 ⟨A5, c5, rfl, hown5, hb10⟩
    have hle5 := hown5.le_cap
    have HST := Lib.hid (PW.mk (HB9.out.trans (hb10.mono HB9.out.size)) (HX9.out.below hb10 HX9.out.lt) (HP9.out.below hb10 HP9.out.lt) (HQ9.out.below hb10 HQ9.out.lt) (rd_shape HR9.out hb10) (Rd.of_own hown5 (Nat.le_refl _)))
    have HLE := Lib.hid hle5
    clear hown5 hb10 hle5 HB9 HX9 HP9 HQ9 HR9 HC9
    go_wp2_with fail
    have HC0 := HST.out.drew
    clear HST
    refine wp_region_list (fun u => PW w g h r X U V A0 A5 (padD l) S u) (fun | false => (fun _ => True) | true => (fun _ => True)) (fun | false, _ => false | true, _ => false)
      [fun z _ => z 0 = .agg (eV U),
       fun z _ => z 1 = .slice A0 32 c0,
       fun z _ => z 2 = .slice (some bd) 3 d,
       fun z u => (RdV 3 (dV DM)) (z 3) u,
       fun z u => (RdV 32 (dV (digN 32 (X.val ^ leV DM % PN)))) (z 4) u,
       fun z _ => z 5 = .bool true,
       fun z _ => z 6 = .bool true]
      [Eq, Eq, Eq, fun u u' => Below u.heap.size u u', fun u u' => Below u.heap.size u u', fun u u' => Below u.heap.size u u', Eq]
      (fun _ _ => false) [(0, some 40), (1, some 41), (2, some 42), (3, some 43), (4, some 44), (5, some 45), (6, some 12)] (by kernel_rfl) (by kernel_rfl) rfl (fun _ => rfl) ?_ ?_ ?_ ?_ ?_ ?_
    · exact HC0
    · intro m; cases m; exact trivial; exact trivial
    · intro m; cases m
      · exact ⟨.inr (fun _ _ h h0 => h ▸ h0), .inr (fun _ _ h h0 => h ▸ h0), .inr (fun _ _ h h0 => h ▸ h0), .inr (fun _ _ _ h => h), .inr (fun _ _ _ h => h), .inr (fun _ _ _ h => h), .inr (fun _ _ h h0 => h ▸ h0), trivial⟩
      · exact ⟨.inr (fun _ _ h h0 => h ▸ h0), .inr (fun _ _ h h0 => h ▸ h0), .inr (fun _ _ h h0 => h ▸ h0), .inr (fun _ _ _ h => h), .inr (fun _ _ _ h => h), .inr (fun _ _ _ h => h), .inr (fun _ _ h h0 => h ▸ h0), trivial⟩
    · exact ⟨⟨.inl rfl, .inr (.inr (.inr (fun _ _ _ _ _ h => h))), .inr (.inr (.inr (fun _ _ _ _ _ h => h))), .inr (.inr (.inr (fun _ _ _ _ h h0 => by cases h; exact h0))), .inr (.inr (.inr (fun _ _ _ _ h h0 => by cases h; exact h0))), .inr (.inr (.inl rfl)), .inr (.inr (.inl rfl)), trivial⟩,
        ⟨.inr (.inr (.inr (fun _ _ _ _ _ h => h))), .inl rfl, .inr (.inr (.inr (fun _ _ _ _ _ h => h))), .inr (.inr (.inr (fun _ _ _ _ h h0 => by cases h; exact h0))), .inr (.inr (.inl rfl)), .inr (.inr (.inl rfl)), .inr (.inr (.inl rfl)), trivial⟩,
        ⟨.inr (.inr (.inr (fun _ _ _ _ _ h => h))), .inr (.inr (.inr (fun _ _ _ _ _ h => h))), .inl rfl, .inr (.inr (.inl rfl)), .inr (.inr (.inl rfl)), .inr (.inr (.inl rfl)), .inr (.inr (.inl rfl)), trivial⟩,
        ⟨.inr (.inr (.inr (fun _ _ _ _ _ h => h))), .inr (.inr (.inr (fun _ _ _ _ _ h => h))), .inr (.inr (.inr (fun _ _ _ _ _ h => h))), .inl rfl, .inr (.inr (.inl rfl)), .inr (.inr (.inl rfl)), .inr (.inr (.inl rfl)), trivial⟩,
        ⟨.inr (.inr (.inr (fun _ _ _ _ _ h => h))), .inr (.inr (.inr (fun _ _ _ _ _ h => h))), .inr (.inr (.inr (fun _ _ _ _ _ h => h))), .inr (.inr (.inr (fun _ _ _ _ h h0 => h0.next h))), .inl rfl, .inr (.inr (.inl rfl)), .inr (.inr (.inl rfl)), trivial⟩,
        ⟨.inr (.inr (.inr (fun _ _ _ _ _ h => h))), .inr (.inr (.inr (fun _ _ _ _ _ h => h))), .inr (.inr (.inr (fun _ _ _ _ _ h => h))), .inr (.inr (.inr (fun _ _ _ _ h h0 => h0.next h))), .inr (.inr (.inr (fun _ _ _ _ h h0 => h0.next h))), .inl rfl, .inr (.inr (.inl rfl)), trivial⟩,
        ⟨.inr (.inr (.inr (fun _ _ _ _ _ h => h))), .inr (.inr (.inr (fun _ _ _ _ _ h => h))), .inr (.inr (.inr (fun _ _ _ _ _ h => h))), .inr (.inr (.inr (fun _ _ _ _ h h0 => by cases h; exact h0))), .inr (.inr (.inr (fun _ _ _ _ h h0 => by cases h; exact h0))), .inr (.inr (.inr (fun _ _ _ _ _ h => h))), .inl rfl, trivial⟩, trivial⟩
    · refine ⟨?_, ?_, ?_, ?_, ?_, ?_, ?_, trivial⟩
      · -- 0: Op.load 26 (Operand.tmp 9)
        refine step_plain [] (fun _ => rfl) rfl ?_
        intro w1 vals hC1 hi0 hf E hE
        clear hi0
        clear hf
        simp only [puts, act_put, act_put_none, List.setIfInBounds_toArray, List.set_cons_zero, List.set_cons_succ] at hE ⊢
        refine wpList_get_box hC1.p rfl rfl rfl hu rfl elem_size ?_
        go_wp2_with fail
        exact .mk (hE _ _ rfl hC1 rfl)
      · -- 1: Op.move (Operand.tmp 8)
        refine step_plain [] (fun _ => rfl) rfl ?_
        intro w1 vals hC1 hi0 hf E hE
        clear hi0
        clear hf
        simp only [puts, act_put, act_put_none, List.setIfInBounds_toArray, List.set_cons_zero, List.set_cons_succ] at hE ⊢
        go_wp2
        exact .mk (hE _ _ rfl hC1 rfl)
      · -- 2: Op.move (Operand.tmp 1)
        refine step_plain [] (fun _ => rfl) rfl ?_
        intro w1 vals hC1 hi0 hf E hE
        clear hi0
        clear hf
        simp only [puts, act_put, act_put_none, List.setIfInBounds_toArray, List.set_cons_zero, List.set_cons_succ] at hE ⊢
        go_wp2
        exact .mk (hE _ _ rfl hC1 rfl)
      · -- 3: Op.call { callee := Callee.value (Operand.func 16), args := #[Operand.tmp 42], argTypes := #[33] }
        refine step_plain [(2, some 42)] (fun _ => rfl) rfl ?_
        intro w1 vals hC1 hi0 hf E hE
        clear hi0
        have f2 : vals 2 = .slice (some bd) 3 d := hf 2 rfl
        try dsimp only at f2
        clear hf
        simp only [puts, act_put, act_put_none, List.setIfInBounds_toArray, List.set_cons_zero, List.set_cons_succ, f2] at hE ⊢
        clear f2
        go_wp2_with fail
        refine calls_then (CM.out _ hC1.bel) ?_
        rintro e u2 ⟨A2, c2, rfl, hown, hb2⟩
        have hrv := RdV.of_own hown
        go_wp2_with fail
        exact .mk (hE _ _ hrv (hC1.next hb2) hb2)
      · -- 4: Op.call { callee := Callee.value (Operand.func 26), args := #[Operand.tmp 41, Operand.tmp 43], argTypes := #[2
        refine step_plain [(1, some 41), (3, some 43), (3, some 43)] (fun _ => rfl) rfl ?_
        intro w1 vals hC1 hi0 hf E hE
        clear hi0
        have f1 : vals 1 = .slice A0 32 c0 := hf 1 rfl
        have f3 : (RdV 3 (dV DM)) (vals 3) w1 := hf 3 rfl
        try dsimp only at f1 f3
        clear hf
        obtain ⟨A2, c2, hx2, hc2, hr2⟩ := f3
        simp only [puts, act_put, act_put_none, List.setIfInBounds_toArray, List.set_cons_zero, List.set_cons_succ, f1, hx2] at hE ⊢
        clear f1
        clear hx2
        go_wp2_with fail
        refine calls_then (CR.out _ _ _ _ _ hC1.d hr2) ?_
        rintro e u2 ⟨A3, c3, rfl, hc3, hr3, hb2⟩
        rw [digN_length] at hc3
        rw [digN_length]
        go_wp2_with fail
        exact .mk (hE _ _ ⟨A3, c3, rfl, hc3, hr3⟩ (hC1.next hb2) hb2)
      · -- 5: Op.call { callee := Callee.value (Operand.func 9), args := #[Operand.tmp 40, Operand.tmp 44], argTypes := #[26
        refine step_plain [(0, some 40), (4, some 44), (4, some 44)] (fun _ => rfl) rfl ?_
        intro w1 vals hC1 hi0 hf E hE
        clear hi0
        have f0 : vals 0 = .agg (eV U) := hf 0 rfl
        have f4 : (RdV 32 (dV (digN 32 (X.val ^ leV DM % PN)))) (vals 4) w1 := hf 4 rfl
        try dsimp only at f0 f4
        clear hf
        obtain ⟨A2, c2, hx2, hc2, hr2⟩ := f4
        simp only [puts, act_put, act_put_none, List.setIfInBounds_toArray, List.set_cons_zero, List.set_cons_succ, f0, hx2] at hE ⊢
        clear f0
        clear hx2
        go_wp2_with fail
        refine calls_then (CL.out _ _ _ hr2 hc2) ?_
        rintro e u2 ⟨rfl, hb2⟩
        go_wp2_with fail
        exact .mk (hE _ _ rfl (hC1.next hb2) hb2)
      · -- 6: Op.assign (Operand.tmp 45)
        refine step_plain [(5, some 45), (5, some 45), (0, some 40), (1, some 41), (2, some 42), (3, some 43), (4, some 44), (5, some 45)] (fun _ => rfl) rfl ?_
        intro w1 vals hC1 hi0 hf E hE
        clear hi0
        have f0 : vals 0 = .agg (eV U) := hf 0 rfl
        have f1 : vals 1 = .slice A0 32 c0 := hf 1 rfl
        have f2 : vals 2 = .slice (some bd) 3 d := hf 2 rfl
        have f3 : (RdV 3 (dV DM)) (vals 3) w1 := hf 3 rfl
        have f4 : (RdV 32 (dV (digN 32 (X.val ^ leV DM % PN)))) (vals 4) w1 := hf 4 rfl
        have f5 : vals 5 = .bool true := hf 5 rfl
        try dsimp only at f0 f1 f2 f3 f4 f5
        clear hf
        simp only [puts, act_put, act_put_none, List.setIfInBounds_toArray, List.set_cons_zero, List.set_cons_succ, f0, f1, f2, f5] at hE ⊢
        clear f0 f1 f2 f5
        go_wp2
        exact .mk (hE _ _ rfl hC1 rfl)
    intro w1 vals hC1 hf
    have f0 : vals 0 = .agg (eV U) := hf 0 (by decide) rfl
    have f1 : vals 1 = .slice A0 32 c0 := hf 1 (by decide) rfl
    have f2 : vals 2 = .slice (some bd) 3 d := hf 2 (by decide) rfl
    have f3 : (RdV 3 (dV DM)) (vals 3) w1 := hf 3 (by decide) rfl
    have f4 : (RdV 32 (dV (digN 32 (X.val ^ leV DM % PN)))) (vals 4) w1 := hf 4 (by decide) rfl
    have f5 : vals 5 = .bool true := hf 5 (by decide) rfl
    have f6 : vals 6 = .bool true := hf 6 (by decide) rfl
    try dsimp only at f0 f1 f2 f3 f4 f5 f6
    clear hf
    simp only [puts, act_put, act_put_none, List.setIfInBounds_toArray, List.set_cons_zero, List.set_cons_succ, f0, f1, f2, f5, f6]
    clear f0 f1 f2 f5 f6
    generalize vals 3 = x3 at *
    generalize vals 4 = x4 at *
    clear HC0 f3 f4
    have HC0 := hC1.drew
    clear hC1
    go_wp2_with fail
    refine wp_region_det (fun u => PW w g h r X U V A0 A5 (padD l) S u) (fun u => PW w g h r X U V A0 A5 (padD l) S u) [(0, some 46), (1, some 47), (2, some 48), (3, some 49), (4, some 50), (5, some 51), (6, some 52), (7, some 53), (8, some 54), (9, some 55), (10, some 56), (11, some 57), (12, some 58), (13, some 6)] (by kernel_rfl) (by kernel_rfl) (by decide) (by kernel_rfl) (fun _ => rfl) HC0 ?_
    apply DetL.next
    · -- 0: Op.move (Operand.tmp 12)
      apply detStep_plain []
      exact fun _ => rfl
      rfl
      rintro vals - w1 hC1 E hE
      simp only [puts, act_put, act_put_none, List.setIfInBounds_toArray, List.set_cons_zero, List.set_cons_succ] at hE ⊢
      go_wp2
      exact .mk (hE _ hC1)
    apply DetL.next
    · -- 1: Op.move (Operand.tmp 46)
      apply detStep_plain [(0, some 46)]
      exact fun _ => rfl
      rfl
      rintro vals ⟨-, f0⟩ w1 hC1 E hE
      simp only [puts, act_put, act_put_none, List.setIfInBounds_toArray, List.set_cons_zero, List.set_cons_succ, f0] at hE ⊢
      clear f0
      go_wp2
      exact .mk (hE _ hC1)
    apply DetL.next
    · -- 2: Op.load 26 (Operand.tmp 9)
      apply detStep_yes [(1, some 47)] (g := 1) (t := 47) (want := true)
      exact fun _ => rfl
      rfl
      rfl
      · rintro vals ⟨⟨-, -⟩, f1⟩
        simp only [puts, act_put, act_put_none, List.setIfInBounds_toArray, List.set_cons_zero, List.set_cons_succ, f1]
        rfl
      rintro vals ⟨⟨-, -⟩, f1⟩ w1 hC1 E hE
      dsimp only at hE ⊢
      simp only [puts, act_put, act_put_none, List.setIfInBounds_toArray, List.set_cons_zero, List.set_cons_succ, f1] at hE ⊢
      clear f1
      refine wpList_get_box hC1.p rfl rfl rfl hu rfl elem_size ?_
      go_wp2_with fail
      exact .mk (hE _ hC1)
    apply DetL.next
    · -- 3: Op.load 26 (Operand.tmp 10)
      apply detStep_yes [(1, some 47)] (g := 1) (t := 47) (want := true)
      exact fun _ => rfl
      rfl
      rfl
      · rintro vals ⟨⟨⟨-, -⟩, f1⟩, -⟩
        simp only [puts, act_put, act_put_none, List.setIfInBounds_toArray, List.set_cons_zero, List.set_cons_succ, f1]
        rfl
      rintro vals ⟨⟨⟨-, -⟩, f1⟩, -⟩ w1 hC1 E hE
      dsimp only at hE ⊢
      simp only [puts, act_put, act_put_none, List.setIfInBounds_toArray, List.set_cons_zero, List.set_cons_succ, f1] at hE ⊢
      clear f1
      refine wpList_get_box hC1.q rfl rfl rfl hu rfl elem_size ?_
      go_wp2_with fail
      exact .mk (hE _ hC1)
    apply DetL.next
    · -- 4: Op.call { callee := Callee.value (Operand.func 22), args := #[Operand.tmp 48, Operand.tmp 49], argTypes := #[2
      apply detStep_yes [(2, some 48), (3, some 49), (1, some 47), (1, some 47)] (g := 1) (t := 47) (want := true)
      exact fun _ => rfl
      rfl
      rfl
      · rintro vals ⟨⟨⟨⟨-, -⟩, f1⟩, f2⟩, f3⟩
        simp only [puts, act_put, act_put_none, List.setIfInBounds_toArray, List.set_cons_zero, List.set_cons_succ, f1, f2, f3]
        rfl
      rintro vals ⟨⟨⟨⟨-, -⟩, f1⟩, f2⟩, f3⟩ w1 hC1 E hE
      dsimp only at hE ⊢
      simp only [puts, act_put, act_put_none, List.setIfInBounds_toArray, List.set_cons_zero, List.set_cons_succ, f1, f2, f3] at hE ⊢
      clear f1 f2 f3
      go_wp2_with fail
      refine calls_then (HUV.out _) ?_
      rintro e w2 ⟨rfl, hb2⟩
      go_wp2_with fail
      exact .mk (hE _ (hC1.next hb2))
    apply DetL.next
    · -- 5: Op.load 26 (Operand.tmp 7)
      apply detStep_yes [(1, some 47)] (g := 1) (t := 47) (want := true)
      exact fun _ => rfl
      rfl
      rfl
      · rintro vals ⟨⟨⟨⟨⟨-, -⟩, f1⟩, -⟩, -⟩, -⟩
        simp only [puts, act_put, act_put_none, List.setIfInBounds_toArray, List.set_cons_zero, List.set_cons_succ, f1]
        rfl
      rintro vals ⟨⟨⟨⟨⟨-, -⟩, f1⟩, -⟩, -⟩, -⟩ w1 hC1 E hE
      dsimp only at hE ⊢
      simp only [puts, act_put, act_put_none, List.setIfInBounds_toArray, List.set_cons_zero, List.set_cons_succ, f1] at hE ⊢
      clear f1
      refine wpList_get_box hC1.x rfl rfl rfl hu rfl elem_size ?_
      go_wp2_with fail
      exact .mk (hE _ hC1)
    apply DetL.next
    · -- 6: Op.move (Operand.tmp 11)
      apply detStep_yes [(1, some 47)] (g := 1) (t := 47) (want := true)
      exact fun _ => rfl
      rfl
      rfl
      · rintro vals ⟨⟨⟨⟨⟨⟨-, -⟩, f1⟩, -⟩, -⟩, -⟩, -⟩
        simp only [puts, act_put, act_put_none, List.setIfInBounds_toArray, List.set_cons_zero, List.set_cons_succ, f1]
        rfl
      rintro vals ⟨⟨⟨⟨⟨⟨-, -⟩, f1⟩, -⟩, -⟩, -⟩, -⟩ w1 hC1 E hE
      dsimp only at hE ⊢
      simp only [puts, act_put, act_put_none, List.setIfInBounds_toArray, List.set_cons_zero, List.set_cons_succ, f1] at hE ⊢
      clear f1
      go_wp2
      exact .mk (hE _ hC1)
    apply DetL.next
    · -- 7: Op.call { callee := Callee.value (Operand.func 23), args := #[Operand.tmp 51, Operand.tmp 52], argTypes := #[2
      apply detStep_yes [(5, some 51), (6, some 52), (4, some 50), (1, some 47)] (g := 1) (t := 47) (want := true)
      exact fun _ => rfl
      rfl
      rfl
      · rintro vals ⟨⟨⟨⟨⟨⟨⟨-, -⟩, f1⟩, -⟩, -⟩, f4⟩, f5⟩, f6⟩
        simp only [puts, act_put, act_put_none, List.setIfInBounds_toArray, List.set_cons_zero, List.set_cons_succ, f1, f4, f5, f6]
        rfl
      rintro vals ⟨⟨⟨⟨⟨⟨⟨-, -⟩, f1⟩, -⟩, -⟩, f4⟩, f5⟩, f6⟩ w1 hC1 E hE
      dsimp only at hE ⊢
      simp only [puts, act_put, act_put_none, List.setIfInBounds_toArray, List.set_cons_zero, List.set_cons_succ, f1, f4, f5, f6] at hE ⊢
      clear f1 f4 f5 f6
      go_wp2_with fail
      refine calls_then (CZ.out _ _ _ hC1.s HLE.out) ?_
      rintro e w2 ⟨rfl, hb2⟩
      go_wp2_with fail
      exact .mk (hE _ (hC1.next hb2))
    apply DetL.next
    · -- 8: Op.call { callee := Callee.value (Operand.func 12), args := #[Operand.tmp 50, Operand.tmp 53], argTypes := #[2
      apply detStep_yes [(4, some 50), (7, some 53), (7, some 53), (1, some 47)] (g := 1) (t := 47) (want := true)
      exact fun _ => rfl
      rfl
      rfl
      · rintro vals ⟨⟨⟨⟨⟨⟨⟨⟨-, -⟩, f1⟩, -⟩, -⟩, f4⟩, -⟩, -⟩, f7⟩
        simp only [puts, act_put, act_put_none, List.setIfInBounds_toArray, List.set_cons_zero, List.set_cons_succ, f1, f4, f7]
        rfl
      rintro vals ⟨⟨⟨⟨⟨⟨⟨⟨-, -⟩, f1⟩, -⟩, -⟩, f4⟩, -⟩, -⟩, f7⟩ w1 hC1 E hE
      dsimp only at hE ⊢
      simp only [puts, act_put, act_put_none, List.setIfInBounds_toArray, List.set_cons_zero, List.set_cons_succ, f1, f4, f7] at hE ⊢
      clear f1 f4 f7
      go_wp2_with fail
      refine calls_then (HEQ.out _) ?_
      rintro e w2 ⟨rfl, hb2⟩
      go_wp2_with fail
      exact .mk (hE _ (hC1.next hb2))
    apply DetL.next
    · -- 9: Op.pick (Operand.tmp 47) (Operand.tmp 54) (Operand.const (Value.bool false))
      apply detStep_plain [(1, some 47), (8, some 54)]
      exact fun _ => rfl
      rfl
      rintro vals ⟨⟨⟨⟨⟨⟨⟨⟨⟨-, -⟩, f1⟩, -⟩, -⟩, -⟩, -⟩, -⟩, -⟩, f8⟩ w1 hC1 E hE
      simp only [puts, act_put, act_put_none, List.setIfInBounds_toArray, List.set_cons_zero, List.set_cons_succ, f1, f8] at hE ⊢
      clear f1 f8
      go_wp2
      exact .mk (hE _ hC1)
    apply DetL.next
    · -- 10: Op.move (Operand.tmp 55)
      apply detStep_plain [(9, some 55), (8, some 54)]
      exact fun _ => rfl
      rfl
      rintro vals ⟨⟨⟨⟨⟨⟨⟨⟨⟨⟨-, -⟩, -⟩, -⟩, -⟩, -⟩, -⟩, -⟩, -⟩, f8⟩, f9⟩ w1 hC1 E hE
      simp only [puts, act_put, act_put_none, List.setIfInBounds_toArray, List.set_cons_zero, List.set_cons_succ, f8, f9] at hE ⊢
      clear f8 f9
      go_wp2
      exact .mk (hE _ hC1)
    apply DetL.next
    · -- 11: Op.call { callee := Callee.value (Operand.func 13), args := #[], argTypes := #[] }
      apply detStep_yes [(10, some 56), (10, some 56)] (g := 10) (t := 56) (want := true)
      exact fun _ => rfl
      rfl
      rfl
      · rintro vals ⟨⟨⟨⟨⟨⟨⟨⟨⟨⟨⟨-, -⟩, -⟩, -⟩, -⟩, -⟩, -⟩, -⟩, -⟩, -⟩, -⟩, f10⟩
        simp only [puts, act_put, act_put_none, List.setIfInBounds_toArray, List.set_cons_zero, List.set_cons_succ, f10]
        rfl
      rintro vals ⟨⟨⟨⟨⟨⟨⟨⟨⟨⟨⟨-, -⟩, -⟩, -⟩, -⟩, -⟩, -⟩, -⟩, -⟩, -⟩, -⟩, f10⟩ w1 hC1 E hE
      dsimp only at hE ⊢
      simp only [puts, act_put, act_put_none, List.setIfInBounds_toArray, List.set_cons_zero, List.set_cons_succ, f10] at hE ⊢
      clear f10
      go_wp2_with fail
      refine calls_then (lives_any _) ?_
      rintro e w2 ⟨rfl, hb2⟩
      go_wp2_with fail
      exact .mk (hE _ (hC1.next hb2))
    apply DetL.next
    · -- 12: Op.pick (Operand.tmp 56) (Operand.tmp 57) (Operand.const (Value.bool false))
      apply detStep_plain [(10, some 56), (11, some 57)]
      exact fun _ => rfl
      rfl
      rintro vals ⟨⟨⟨⟨⟨⟨⟨⟨⟨⟨⟨⟨-, -⟩, -⟩, -⟩, -⟩, -⟩, -⟩, -⟩, -⟩, -⟩, -⟩, f10⟩, f11⟩ w1 hC1 E hE
      simp only [puts, act_put, act_put_none, List.setIfInBounds_toArray, List.set_cons_zero, List.set_cons_succ, f10, f11] at hE ⊢
      clear f10 f11
      go_wp2
      exact .mk (hE _ hC1)
    apply DetL.last
    · -- 13: Op.assign (Operand.tmp 58)
      apply detStep_plain [(12, some 58), (11, some 57), (0, some 46), (1, some 47), (2, some 48), (3, some 49), (4, some 50), (5, some 51), (6, some 52), (7, some 53), (8, some 54), (9, some 55), (10, some 56), (11, some 57), (12, some 58)]
      exact fun _ => rfl
      rfl
      rintro vals ⟨⟨⟨⟨⟨⟨⟨⟨⟨⟨⟨⟨⟨-, f0⟩, f1⟩, f2⟩, f3⟩, f4⟩, f5⟩, f6⟩, f7⟩, f8⟩, f9⟩, f10⟩, f11⟩, f12⟩ w1 hC1 E hE
      simp only [puts, act_put, act_put_none, List.setIfInBounds_toArray, List.set_cons_zero, List.set_cons_succ, f0, f1, f2, f3, f4, f5, f6, f7, f8, f9, f10, f11, f12] at hE ⊢
      clear f0 f1 f2 f3 f4 f5 f6 f7 f8 f9 f10 f11 f12
      go_wp2
      exact .mk (hE _ hC1)
    rintro vals ⟨⟨⟨⟨⟨⟨⟨⟨⟨⟨⟨⟨⟨⟨-, f0⟩, f1⟩, f2⟩, f3⟩, f4⟩, f5⟩, f6⟩, f7⟩, f8⟩, f9⟩, f10⟩, f11⟩, f12⟩, f13⟩ w1 hC1
    simp only [puts, act_put, act_put_none, List.setIfInBounds_toArray, List.set_cons_zero, List.set_cons_succ, f0, f1, f2, f3, f4, f5, f6, f7, f8, f9, f10, f11, f12, f13]
    clear f0 f1 f2 f3 f4 f5 f6 f7 f8 f9 f10 f11 f12 f13
    have HST := Lib.hid hC1
    clear hC1 HC0
    go_wp2_with fail
    go_ret
    exact ⟨rfl, HST.out.bel⟩
  · obtain rfl : p = n2 := by have := HPM.out; omega
    have hgi2 : ¬ (3 : Int) < (p : Int) := by omega
    obtain rfl : q = 3 := by have := HQM.out; omega
    obtain ⟨cd, rfl⟩ : ∃ ad, C = some ad := by
      cases C with
      | none => have := NC.out rfl; omega
      | some ad => exact ⟨ad, rfl⟩
    have hgi3 : (3 : Int) < (n3 : Int) := by omega
    clear hg2 hg3 HPM HQM NB NC hp3 hq3 hpm hqm
    go_enter Try.func6, Try.ntmps6
    go_wp2_with fail
    refine calls_then (C1.out _ (Below.refl _ _)) ?_
    rintro e w1 ⟨v1, rfl, ⟨A0, c0, rfl, hc0, hr0⟩, hb1⟩
    rw [← EX.out]
    have HB1 := Lib.hid hb1
    have HR1 := Lib.hid hr0
    clear hr0 hb1 hc0
    go_wp2_with (first
      | (refine wpList_put_box (x := .tmp 7) (cells := eV X) (Blk.new _ _ _) rfl rfl rfl rfl elem_size rfl (by simp [eV, wV, limbs, Value.oneCell']) ?_; intro w2 hb2 hw2; have hk2 := box_below hw2; have HX2 := Lib.hid hb2; have HB2 := Lib.hid (HB1.out.trans (hk2.mono HB1.out.size)); have HR2 := Lib.hid (rd_shape HR1.out hk2); clear hb2 hw2 hk2 HB1 HR1)
      | (refine wpList_get_box (x := .tmp 7) HX2.out rfl rfl rfl hu rfl elem_size ?_))
    refine calls_then (CU.out _ HB2.out) ?_
    rintro e w3 ⟨rfl, hb3⟩
    have HB3 := Lib.hid (HB2.out.trans (hb3.mono HB2.out.size))
    have HX3 := Lib.hid (HX2.out.below hb3 HX2.out.lt)
    have HR3 := Lib.hid (rd_shape HR2.out hb3)
    clear hb3 HB2 HX2 HR2
    generalize w1.heap.size = g at *
    go_wp2_with (first
      | (refine wpList_put_box (x := .tmp 9) (cells := eV U) (Blk.new _ _ _) rfl rfl rfl rfl elem_size rfl (by simp [eV, wV, limbs, Value.oneCell']) ?_; intro w4 hb4 hw4; have hk4 := box_below hw4; have HP4 := Lib.hid hb4; have HX4 := Lib.hid (HX3.out.below hk4 HX3.out.lt); have HB4 := Lib.hid (HB3.out.trans (hk4.mono HB3.out.size)); have HR4 := Lib.hid (rd_shape HR3.out hk4); clear hb4 hw4 hk4 HB3 HR3 HX3)
      | (refine wpList_get_box (x := .tmp 7) HX4.out rfl rfl rfl hu rfl elem_size ?_))
    refine calls_then (CV.out _ HB4.out) ?_
    rintro e w5 ⟨rfl, hb5⟩
    have HB5 := Lib.hid (HB4.out.trans (hb5.mono HB4.out.size))
    have HX5 := Lib.hid (HX4.out.below hb5 HX4.out.lt)
    have HP5 := Lib.hid (HP4.out.below hb5 HP4.out.lt)
    have HR5 := Lib.hid (rd_shape HR4.out hb5)
    clear hb5 HB4 HX4 HR4 HP4
    generalize w3.heap.size = h at *
    go_wp2_with (refine wpList_put_box (x := .tmp 10) (cells := eV V) (Blk.new _ _ _) rfl rfl rfl rfl elem_size rfl (by simp [eV, wV, limbs, Value.oneCell']) ?_; intro w6 hb6 hw6; have hk6 := box_below hw6; have HQ6 := Lib.hid hb6; have HX6 := Lib.hid (HX5.out.below hk6 HX5.out.lt); have HP6 := Lib.hid (HP5.out.below hk6 HP5.out.lt); have HB6 := Lib.hid (HB5.out.trans (hk6.mono HB5.out.size)); have HR6 := Lib.hid (rd_shape HR5.out hk6); clear hb6 hw6 hk6 HB5 HR5 HX5 HP5)
    refine calls_then (CM.out _ HB6.out) ?_
    rintro e w7 ⟨A7, c7, rfl, hown7, hb7⟩
    have HV7 := Lib.hid (Rd.of_own hown7 (Nat.le_refl _))
    have HB7 := Lib.hid (HB6.out.trans (hb7.mono HB6.out.size))
    have HX7 := Lib.hid (HX6.out.below hb7 HX6.out.lt)
    have HP7 := Lib.hid (HP6.out.below hb7 HP6.out.lt)
    have HQ7 := Lib.hid (HQ6.out.below hb7 HQ6.out.lt)
    have HR7 := Lib.hid (rd_shape HR6.out hb7)
    clear hown7 hb7 HB6 HX6 HR6 HP6 HQ6
    generalize w5.heap.size = r at *
    go_wp2_with fail
    refine calls_then (CK.out _ HB7.out) ?_
    rintro e w8 ⟨A8, c8, rfl, hown8, hb8⟩
    have HC8 := Lib.hid (CT.out w8 A7 c7 A8 c8 (rd_shape HV7.out hb8) (Rd.of_own hown8 (Nat.le_refl _)))
    have HB8 := Lib.hid (HB7.out.trans (hb8.mono HB7.out.size))
    have HX8 := Lib.hid (HX7.out.below hb8 HX7.out.lt)
    have HP8 := Lib.hid (HP7.out.below hb8 HP7.out.lt)
    have HQ8 := Lib.hid (HQ7.out.below hb8 HQ7.out.lt)
    have HR8 := Lib.hid (rd_shape HR7.out hb8)
    clear hown8 hb8 HB7 HX7 HR7 HP7 HQ7 HV7
    go_wp2_with fail
    refine calls_then HC8.out ?_
    rintro e w9 ⟨A9, c9, rfl, hc9, hr9, hb9⟩
    have HC9 := Lib.hid (CS.out w9 A9 c9 hr9 hc9)
    have HB9 := Lib.hid (HB8.out.trans (hb9.mono HB8.out.size))
    have HX9 := Lib.hid (HX8.out.below hb9 HX8.out.lt)
    have HP9 := Lib.hid (HP8.out.below hb9 HP8.out.lt)
    have HQ9 := Lib.hid (HQ8.out.below hb9 HQ8.out.lt)
    have HR9 := Lib.hid (rd_shape HR8.out hb9)
    clear hc9 hr9 hb9 HB8 HX8 HR8 HP8 HQ8 HC8
    go_wp2_with fail
    refine calls_then HC9.out ?_
    rintro e w10 ⟨A5, c5, rfl, hown5, hb10⟩
    have hle5 := hown5.le_cap
    have HST := Lib.hid (PW.mk (HB9.out.trans (hb10.mono HB9.out.size)) (HX9.out.below hb10 HX9.out.lt) (HP9.out.below hb10 HP9.out.lt) (HQ9.out.below hb10 HQ9.out.lt) (rd_shape HR9.out hb10) (Rd.of_own hown5 (Nat.le_refl _)))
    have HLE := Lib.hid hle5
    clear hown5 hb10 hle5 HB9 HX9 HP9 HQ9 HR9 HC9
    go_wp2_with fail
    have HC0 := HST.out.drew
    clear HST
    refine wp_region_list (fun u => PW w g h r X U V A0 A5 (padD l) S u) (fun | false => (fun _ => True) | true => (fun _ => True)) (fun | false, _ => false | true, _ => false)
      [fun z _ => z 0 = .agg (eV U),
       fun z _ => z 1 = .slice A0 32 c0,
       fun z _ => z 2 = .slice B p d,
       fun z u => (RdV p (dV DM)) (z 3) u,
       fun z u => (RdV 32 (dV (digN 32 (X.val ^ leV DM % PN)))) (z 4) u,
       fun z _ => z 5 = .bool true,
       fun z _ => z 6 = .bool true]
      [Eq, Eq, Eq, fun u u' => Below u.heap.size u u', fun u u' => Below u.heap.size u u', fun u u' => Below u.heap.size u u', Eq]
      (fun _ _ => false) [(0, some 40), (1, some 41), (2, some 42), (3, some 43), (4, some 44), (5, some 45), (6, some 12)] (by kernel_rfl) (by kernel_rfl) rfl (fun _ => rfl) ?_ ?_ ?_ ?_ ?_ ?_
    · exact HC0
    · intro m; cases m; exact trivial; exact trivial
    · intro m; cases m
      · exact ⟨.inr (fun _ _ h h0 => h ▸ h0), .inr (fun _ _ h h0 => h ▸ h0), .inr (fun _ _ h h0 => h ▸ h0), .inr (fun _ _ _ h => h), .inr (fun _ _ _ h => h), .inr (fun _ _ _ h => h), .inr (fun _ _ h h0 => h ▸ h0), trivial⟩
      · exact ⟨.inr (fun _ _ h h0 => h ▸ h0), .inr (fun _ _ h h0 => h ▸ h0), .inr (fun _ _ h h0 => h ▸ h0), .inr (fun _ _ _ h => h), .inr (fun _ _ _ h => h), .inr (fun _ _ _ h => h), .inr (fun _ _ h h0 => h ▸ h0), trivial⟩
    · exact ⟨⟨.inl rfl, .inr (.inr (.inr (fun _ _ _ _ _ h => h))), .inr (.inr (.inr (fun _ _ _ _ _ h => h))), .inr (.inr (.inr (fun _ _ _ _ h h0 => by cases h; exact h0))), .inr (.inr (.inr (fun _ _ _ _ h h0 => by cases h; exact h0))), .inr (.inr (.inl rfl)), .inr (.inr (.inl rfl)), trivial⟩,
        ⟨.inr (.inr (.inr (fun _ _ _ _ _ h => h))), .inl rfl, .inr (.inr (.inr (fun _ _ _ _ _ h => h))), .inr (.inr (.inr (fun _ _ _ _ h h0 => by cases h; exact h0))), .inr (.inr (.inl rfl)), .inr (.inr (.inl rfl)), .inr (.inr (.inl rfl)), trivial⟩,
        ⟨.inr (.inr (.inr (fun _ _ _ _ _ h => h))), .inr (.inr (.inr (fun _ _ _ _ _ h => h))), .inl rfl, .inr (.inr (.inl rfl)), .inr (.inr (.inl rfl)), .inr (.inr (.inl rfl)), .inr (.inr (.inl rfl)), trivial⟩,
        ⟨.inr (.inr (.inr (fun _ _ _ _ _ h => h))), .inr (.inr (.inr (fun _ _ _ _ _ h => h))), .inr (.inr (.inr (fun _ _ _ _ _ h => h))), .inl rfl, .inr (.inr (.inl rfl)), .inr (.inr (.inl rfl)), .inr (.inr (.inl rfl)), trivial⟩,
        ⟨.inr (.inr (.inr (fun _ _ _ _ _ h => h))), .inr (.inr (.inr (fun _ _ _ _ _ h => h))), .inr (.inr (.inr (fun _ _ _ _ _ h => h))), .inr (.inr (.inr (fun _ _ _ _ h h0 => h0.next h))), .inl rfl, .inr (.inr (.inl rfl)), .inr (.inr (.inl rfl)), trivial⟩,
        ⟨.inr (.inr (.inr (fun _ _ _ _ _ h => h))), .inr (.inr (.inr (fun _ _ _ _ _ h => h))), .inr (.inr (.inr (fun _ _ _ _ _ h => h))), .inr (.inr (.inr (fun _ _ _ _ h h0 => h0.next h))), .inr (.inr (.inr (fun _ _ _ _ h h0 => h0.next h))), .inl rfl, .inr (.inr (.inl rfl)), trivial⟩,
        ⟨.inr (.inr (.inr (fun _ _ _ _ _ h => h))), .inr (.inr (.inr (fun _ _ _ _ _ h => h))), .inr (.inr (.inr (fun _ _ _ _ _ h => h))), .inr (.inr (.inr (fun _ _ _ _ h h0 => by cases h; exact h0))), .inr (.inr (.inr (fun _ _ _ _ h h0 => by cases h; exact h0))), .inr (.inr (.inr (fun _ _ _ _ _ h => h))), .inl rfl, trivial⟩, trivial⟩
    · refine ⟨?_, ?_, ?_, ?_, ?_, ?_, ?_, trivial⟩
      · -- 0: Op.load 26 (Operand.tmp 9)
        refine step_plain [] (fun _ => rfl) rfl ?_
        intro w1 vals hC1 hi0 hf E hE
        clear hi0
        clear hf
        simp only [puts, act_put, act_put_none, List.setIfInBounds_toArray, List.set_cons_zero, List.set_cons_succ] at hE ⊢
        refine wpList_get_box hC1.p rfl rfl rfl hu rfl elem_size ?_
        go_wp2_with fail
        exact .mk (hE _ _ rfl hC1 rfl)
      · -- 1: Op.move (Operand.tmp 8)
        refine step_plain [] (fun _ => rfl) rfl ?_
        intro w1 vals hC1 hi0 hf E hE
        clear hi0
        clear hf
        simp only [puts, act_put, act_put_none, List.setIfInBounds_toArray, List.set_cons_zero, List.set_cons_succ] at hE ⊢
        go_wp2
        exact .mk (hE _ _ rfl hC1 rfl)
      · -- 2: Op.move (Operand.tmp 1)
        refine step_plain [] (fun _ => rfl) rfl ?_
        intro w1 vals hC1 hi0 hf E hE
        clear hi0
        clear hf
        simp only [puts, act_put, act_put_none, List.setIfInBounds_toArray, List.set_cons_zero, List.set_cons_succ] at hE ⊢
        go_wp2
        exact .mk (hE _ _ rfl hC1 rfl)
      · -- 3: Op.call { callee := Callee.value (Operand.func 16), args := #[Operand.tmp 42], argTypes := #[33] }
        refine step_plain [(2, some 42)] (fun _ => rfl) rfl ?_
        intro w1 vals hC1 hi0 hf E hE
        clear hi0
        have f2 : vals 2 = .slice B p d := hf 2 rfl
        try dsimp only at f2
        clear hf
        simp only [puts, act_put, act_put_none, List.setIfInBounds_toArray, List.set_cons_zero, List.set_cons_succ, f2] at hE ⊢
        clear f2
        go_wp2_with fail
        refine calls_then (CM.out _ hC1.bel) ?_
        rintro e u2 ⟨A2, c2, rfl, hown, hb2⟩
        have hrv := RdV.of_own hown
        go_wp2_with fail
        exact .mk (hE _ _ hrv (hC1.next hb2) hb2)
      · -- 4: Op.call { callee := Callee.value (Operand.func 26), args := #[Operand.tmp 41, Operand.tmp 43], argTypes := #[2
        refine step_plain [(1, some 41), (3, some 43), (3, some 43)] (fun _ => rfl) rfl ?_
        intro w1 vals hC1 hi0 hf E hE
        clear hi0
        have f1 : vals 1 = .slice A0 32 c0 := hf 1 rfl
        have f3 : (RdV p (dV DM)) (vals 3) w1 := hf 3 rfl
        try dsimp only at f1 f3
        clear hf
        obtain ⟨A2, c2, hx2, hc2, hr2⟩ := f3
        simp only [puts, act_put, act_put_none, List.setIfInBounds_toArray, List.set_cons_zero, List.set_cons_succ, f1, hx2] at hE ⊢
        clear f1
        clear hx2
        go_wp2_with fail
        refine calls_then (CR.out _ _ _ _ _ hC1.d hr2) ?_
        rintro e u2 ⟨A3, c3, rfl, hc3, hr3, hb2⟩
        rw [digN_length] at hc3
        rw [digN_length]
        go_wp2_with fail
        exact .mk (hE _ _ ⟨A3, c3, rfl, hc3, hr3⟩ (hC1.next hb2) hb2)
      · -- 5: Op.call { callee := Callee.value (Operand.func 9), args := #[Operand.tmp 40, Operand.tmp 44], argTypes := #[26
        refine step_plain [(0, some 40), (4, some 44), (4, some 44)] (fun _ => rfl) rfl ?_
        intro w1 vals hC1 hi0 hf E hE
        clear hi0
        have f0 : vals 0 = .agg (eV U) := hf 0 rfl
        have f4 : (RdV 32 (dV (digN 32 (X.val ^ leV DM % PN)))) (vals 4) w1 := hf 4 rfl
        try dsimp only at f0 f4
        clear hf
        obtain ⟨A2, c2, hx2, hc2, hr2⟩ := f4
        simp only [puts, act_put, act_put_none, List.setIfInBounds_toArray, List.set_cons_zero, List.set_cons_succ, f0, hx2] at hE ⊢
        clear f0
        clear hx2
        go_wp2_with fail
        refine calls_then (CL.out _ _ _ hr2 hc2) ?_
        rintro e u2 ⟨rfl, hb2⟩
        go_wp2_with fail
        exact .mk (hE _ _ rfl (hC1.next hb2) hb2)
      · -- 6: Op.assign (Operand.tmp 45)
        refine step_plain [(5, some 45), (5, some 45), (0, some 40), (1, some 41), (2, some 42), (3, some 43), (4, some 44), (5, some 45)] (fun _ => rfl) rfl ?_
        intro w1 vals hC1 hi0 hf E hE
        clear hi0
        have f0 : vals 0 = .agg (eV U) := hf 0 rfl
        have f1 : vals 1 = .slice A0 32 c0 := hf 1 rfl
        have f2 : vals 2 = .slice B p d := hf 2 rfl
        have f3 : (RdV p (dV DM)) (vals 3) w1 := hf 3 rfl
        have f4 : (RdV 32 (dV (digN 32 (X.val ^ leV DM % PN)))) (vals 4) w1 := hf 4 rfl
        have f5 : vals 5 = .bool true := hf 5 rfl
        try dsimp only at f0 f1 f2 f3 f4 f5
        clear hf
        simp only [puts, act_put, act_put_none, List.setIfInBounds_toArray, List.set_cons_zero, List.set_cons_succ, f0, f1, f2, f5] at hE ⊢
        clear f0 f1 f2 f5
        go_wp2
        exact .mk (hE _ _ rfl hC1 rfl)
    intro w1 vals hC1 hf
    have f0 : vals 0 = .agg (eV U) := hf 0 (by decide) rfl
    have f1 : vals 1 = .slice A0 32 c0 := hf 1 (by decide) rfl
    have f2 : vals 2 = .slice B p d := hf 2 (by decide) rfl
    have f3 : (RdV p (dV DM)) (vals 3) w1 := hf 3 (by decide) rfl
    have f4 : (RdV 32 (dV (digN 32 (X.val ^ leV DM % PN)))) (vals 4) w1 := hf 4 (by decide) rfl
    have f5 : vals 5 = .bool true := hf 5 (by decide) rfl
    have f6 : vals 6 = .bool true := hf 6 (by decide) rfl
    try dsimp only at f0 f1 f2 f3 f4 f5 f6
    clear hf
    simp only [puts, act_put, act_put_none, List.setIfInBounds_toArray, List.set_cons_zero, List.set_cons_succ, f0, f1, f2, f5, f6]
    clear f0 f1 f2 f5 f6
    generalize vals 3 = x3 at *
    generalize vals 4 = x4 at *
    clear HC0 f3 f4
    have HC0 := hC1.drew
    clear hC1
    go_wp2_with fail
    refine wp_region_det (fun u => PW w g h r X U V A0 A5 (padD l) S u) (fun u => PW w g h r X U V A0 A5 (padD l) S u) [(0, some 46), (1, some 47), (2, some 48), (3, some 49), (4, some 50), (5, some 51), (6, some 52), (7, some 53), (8, some 54), (9, some 55), (10, some 56), (11, some 57), (12, some 58), (13, some 6)] (by kernel_rfl) (by kernel_rfl) (by decide) (by kernel_rfl) (fun _ => rfl) HC0 ?_
    apply DetL.next
    · -- 0: Op.move (Operand.tmp 12)
      apply detStep_plain []
      exact fun _ => rfl
      rfl
      rintro vals - w1 hC1 E hE
      simp only [puts, act_put, act_put_none, List.setIfInBounds_toArray, List.set_cons_zero, List.set_cons_succ] at hE ⊢
      go_wp2
      exact .mk (hE _ hC1)
    apply DetL.next
    · -- 1: Op.move (Operand.tmp 46)
      apply detStep_plain [(0, some 46)]
      exact fun _ => rfl
      rfl
      rintro vals ⟨-, f0⟩ w1 hC1 E hE
      simp only [puts, act_put, act_put_none, List.setIfInBounds_toArray, List.set_cons_zero, List.set_cons_succ, f0] at hE ⊢
      clear f0
      go_wp2
      exact .mk (hE _ hC1)
    apply DetL.next
    · -- 2: Op.load 26 (Operand.tmp 9)
      apply detStep_yes [(1, some 47)] (g := 1) (t := 47) (want := true)
      exact fun _ => rfl
      rfl
      rfl
      · rintro vals ⟨⟨-, -⟩, f1⟩
        simp only [puts, act_put, act_put_none, List.setIfInBounds_toArray, List.set_cons_zero, List.set_cons_succ, f1]
        rfl
      rintro vals ⟨⟨-, -⟩, f1⟩ w1 hC1 E hE
      dsimp only at hE ⊢
      simp only [puts, act_put, act_put_none, List.setIfInBounds_toArray, List.set_cons_zero, List.set_cons_succ, f1] at hE ⊢
      clear f1
      refine wpList_get_box hC1.p rfl rfl rfl hu rfl elem_size ?_
      go_wp2_with fail
      exact .mk (hE _ hC1)
    apply DetL.next
    · -- 3: Op.load 26 (Operand.tmp 10)
      apply detStep_yes [(1, some 47)] (g := 1) (t := 47) (want := true)
      exact fun _ => rfl
      rfl
      rfl
      · rintro vals ⟨⟨⟨-, -⟩, f1⟩, -⟩
        simp only [puts, act_put, act_put_none, List.setIfInBounds_toArray, List.set_cons_zero, List.set_cons_succ, f1]
        rfl
      rintro vals ⟨⟨⟨-, -⟩, f1⟩, -⟩ w1 hC1 E hE
      dsimp only at hE ⊢
      simp only [puts, act_put, act_put_none, List.setIfInBounds_toArray, List.set_cons_zero, List.set_cons_succ, f1] at hE ⊢
      clear f1
      refine wpList_get_box hC1.q rfl rfl rfl hu rfl elem_size ?_
      go_wp2_with fail
      exact .mk (hE _ hC1)
    apply DetL.next
    · -- 4: Op.call { callee := Callee.value (Operand.func 22), args := #[Operand.tmp 48, Operand.tmp 49], argTypes := #[2
      apply detStep_yes [(2, some 48), (3, some 49), (1, some 47), (1, some 47)] (g := 1) (t := 47) (want := true)
      exact fun _ => rfl
      rfl
      rfl
      · rintro vals ⟨⟨⟨⟨-, -⟩, f1⟩, f2⟩, f3⟩
        simp only [puts, act_put, act_put_none, List.setIfInBounds_toArray, List.set_cons_zero, List.set_cons_succ, f1, f2, f3]
        rfl
      rintro vals ⟨⟨⟨⟨-, -⟩, f1⟩, f2⟩, f3⟩ w1 hC1 E hE
      dsimp only at hE ⊢
      simp only [puts, act_put, act_put_none, List.setIfInBounds_toArray, List.set_cons_zero, List.set_cons_succ, f1, f2, f3] at hE ⊢
      clear f1 f2 f3
      go_wp2_with fail
      refine calls_then (HUV.out _) ?_
      rintro e w2 ⟨rfl, hb2⟩
      go_wp2_with fail
      exact .mk (hE _ (hC1.next hb2))
    apply DetL.next
    · -- 5: Op.load 26 (Operand.tmp 7)
      apply detStep_yes [(1, some 47)] (g := 1) (t := 47) (want := true)
      exact fun _ => rfl
      rfl
      rfl
      · rintro vals ⟨⟨⟨⟨⟨-, -⟩, f1⟩, -⟩, -⟩, -⟩
        simp only [puts, act_put, act_put_none, List.setIfInBounds_toArray, List.set_cons_zero, List.set_cons_succ, f1]
        rfl
      rintro vals ⟨⟨⟨⟨⟨-, -⟩, f1⟩, -⟩, -⟩, -⟩ w1 hC1 E hE
      dsimp only at hE ⊢
      simp only [puts, act_put, act_put_none, List.setIfInBounds_toArray, List.set_cons_zero, List.set_cons_succ, f1] at hE ⊢
      clear f1
      refine wpList_get_box hC1.x rfl rfl rfl hu rfl elem_size ?_
      go_wp2_with fail
      exact .mk (hE _ hC1)
    apply DetL.next
    · -- 6: Op.move (Operand.tmp 11)
      apply detStep_yes [(1, some 47)] (g := 1) (t := 47) (want := true)
      exact fun _ => rfl
      rfl
      rfl
      · rintro vals ⟨⟨⟨⟨⟨⟨-, -⟩, f1⟩, -⟩, -⟩, -⟩, -⟩
        simp only [puts, act_put, act_put_none, List.setIfInBounds_toArray, List.set_cons_zero, List.set_cons_succ, f1]
        rfl
      rintro vals ⟨⟨⟨⟨⟨⟨-, -⟩, f1⟩, -⟩, -⟩, -⟩, -⟩ w1 hC1 E hE
      dsimp only at hE ⊢
      simp only [puts, act_put, act_put_none, List.setIfInBounds_toArray, List.set_cons_zero, List.set_cons_succ, f1] at hE ⊢
      clear f1
      go_wp2
      exact .mk (hE _ hC1)
    apply DetL.next
    · -- 7: Op.call { callee := Callee.value (Operand.func 23), args := #[Operand.tmp 51, Operand.tmp 52], argTypes := #[2
      apply detStep_yes [(5, some 51), (6, some 52), (4, some 50), (1, some 47)] (g := 1) (t := 47) (want := true)
      exact fun _ => rfl
      rfl
      rfl
      · rintro vals ⟨⟨⟨⟨⟨⟨⟨-, -⟩, f1⟩, -⟩, -⟩, f4⟩, f5⟩, f6⟩
        simp only [puts, act_put, act_put_none, List.setIfInBounds_toArray, List.set_cons_zero, List.set_cons_succ, f1, f4, f5, f6]
        rfl
      rintro vals ⟨⟨⟨⟨⟨⟨⟨-, -⟩, f1⟩, -⟩, -⟩, f4⟩, f5⟩, f6⟩ w1 hC1 E hE
      dsimp only at hE ⊢
      simp only [puts, act_put, act_put_none, List.setIfInBounds_toArray, List.set_cons_zero, List.set_cons_succ, f1, f4, f5, f6] at hE ⊢
      clear f1 f4 f5 f6
      go_wp2_with fail
      refine calls_then (CZ.out _ _ _ hC1.s HLE.out) ?_
      rintro e w2 ⟨rfl, hb2⟩
      go_wp2_with fail
      exact .mk (hE _ (hC1.next hb2))
    apply DetL.next
    · -- 8: Op.call { callee := Callee.value (Operand.func 12), args := #[Operand.tmp 50, Operand.tmp 53], argTypes := #[2
      apply detStep_yes [(4, some 50), (7, some 53), (7, some 53), (1, some 47)] (g := 1) (t := 47) (want := true)
      exact fun _ => rfl
      rfl
      rfl
      · rintro vals ⟨⟨⟨⟨⟨⟨⟨⟨-, -⟩, f1⟩, -⟩, -⟩, f4⟩, -⟩, -⟩, f7⟩
        simp only [puts, act_put, act_put_none, List.setIfInBounds_toArray, List.set_cons_zero, List.set_cons_succ, f1, f4, f7]
        rfl
      rintro vals ⟨⟨⟨⟨⟨⟨⟨⟨-, -⟩, f1⟩, -⟩, -⟩, f4⟩, -⟩, -⟩, f7⟩ w1 hC1 E hE
      dsimp only at hE ⊢
      simp only [puts, act_put, act_put_none, List.setIfInBounds_toArray, List.set_cons_zero, List.set_cons_succ, f1, f4, f7] at hE ⊢
      clear f1 f4 f7
      go_wp2_with fail
      refine calls_then (HEQ.out _) ?_
      rintro e w2 ⟨rfl, hb2⟩
      go_wp2_with fail
      exact .mk (hE _ (hC1.next hb2))
    apply DetL.next
    · -- 9: Op.pick (Operand.tmp 47) (Operand.tmp 54) (Operand.const (Value.bool false))
      apply detStep_plain [(1, some 47), (8, some 54)]
      exact fun _ => rfl
      rfl
      rintro vals ⟨⟨⟨⟨⟨⟨⟨⟨⟨-, -⟩, f1⟩, -⟩, -⟩, -⟩, -⟩, -⟩, -⟩, f8⟩ w1 hC1 E hE
      simp only [puts, act_put, act_put_none, List.setIfInBounds_toArray, List.set_cons_zero, List.set_cons_succ, f1, f8] at hE ⊢
      clear f1 f8
      go_wp2
      exact .mk (hE _ hC1)
    apply DetL.next
    · -- 10: Op.move (Operand.tmp 55)
      apply detStep_plain [(9, some 55), (8, some 54)]
      exact fun _ => rfl
      rfl
      rintro vals ⟨⟨⟨⟨⟨⟨⟨⟨⟨⟨-, -⟩, -⟩, -⟩, -⟩, -⟩, -⟩, -⟩, -⟩, f8⟩, f9⟩ w1 hC1 E hE
      simp only [puts, act_put, act_put_none, List.setIfInBounds_toArray, List.set_cons_zero, List.set_cons_succ, f8, f9] at hE ⊢
      clear f8 f9
      go_wp2
      exact .mk (hE _ hC1)
    apply DetL.next
    · -- 11: Op.call { callee := Callee.value (Operand.func 13), args := #[], argTypes := #[] }
      apply detStep_yes [(10, some 56), (10, some 56)] (g := 10) (t := 56) (want := true)
      exact fun _ => rfl
      rfl
      rfl
      · rintro vals ⟨⟨⟨⟨⟨⟨⟨⟨⟨⟨⟨-, -⟩, -⟩, -⟩, -⟩, -⟩, -⟩, -⟩, -⟩, -⟩, -⟩, f10⟩
        simp only [puts, act_put, act_put_none, List.setIfInBounds_toArray, List.set_cons_zero, List.set_cons_succ, f10]
        rfl
      rintro vals ⟨⟨⟨⟨⟨⟨⟨⟨⟨⟨⟨-, -⟩, -⟩, -⟩, -⟩, -⟩, -⟩, -⟩, -⟩, -⟩, -⟩, f10⟩ w1 hC1 E hE
      dsimp only at hE ⊢
      simp only [puts, act_put, act_put_none, List.setIfInBounds_toArray, List.set_cons_zero, List.set_cons_succ, f10] at hE ⊢
      clear f10
      go_wp2_with fail
      refine calls_then (lives_any _) ?_
      rintro e w2 ⟨rfl, hb2⟩
      go_wp2_with fail
      exact .mk (hE _ (hC1.next hb2))
    apply DetL.next
    · -- 12: Op.pick (Operand.tmp 56) (Operand.tmp 57) (Operand.const (Value.bool false))
      apply detStep_plain [(10, some 56), (11, some 57)]
      exact fun _ => rfl
      rfl
      rintro vals ⟨⟨⟨⟨⟨⟨⟨⟨⟨⟨⟨⟨-, -⟩, -⟩, -⟩, -⟩, -⟩, -⟩, -⟩, -⟩, -⟩, -⟩, f10⟩, f11⟩ w1 hC1 E hE
      simp only [puts, act_put, act_put_none, List.setIfInBounds_toArray, List.set_cons_zero, List.set_cons_succ, f10, f11] at hE ⊢
      clear f10 f11
      go_wp2
      exact .mk (hE _ hC1)
    apply DetL.last
    · -- 13: Op.assign (Operand.tmp 58)
      apply detStep_plain [(12, some 58), (11, some 57), (0, some 46), (1, some 47), (2, some 48), (3, some 49), (4, some 50), (5, some 51), (6, some 52), (7, some 53), (8, some 54), (9, some 55), (10, some 56), (11, some 57), (12, some 58)]
      exact fun _ => rfl
      rfl
      rintro vals ⟨⟨⟨⟨⟨⟨⟨⟨⟨⟨⟨⟨⟨-, f0⟩, f1⟩, f2⟩, f3⟩, f4⟩, f5⟩, f6⟩, f7⟩, f8⟩, f9⟩, f10⟩, f11⟩, f12⟩ w1 hC1 E hE
      simp only [puts, act_put, act_put_none, List.setIfInBounds_toArray, List.set_cons_zero, List.set_cons_succ, f0, f1, f2, f3, f4, f5, f6, f7, f8, f9, f10, f11, f12] at hE ⊢
      clear f0 f1 f2 f3 f4 f5 f6 f7 f8 f9 f10 f11 f12
      go_wp2
      exact .mk (hE _ hC1)
    rintro vals ⟨⟨⟨⟨⟨⟨⟨⟨⟨⟨⟨⟨⟨⟨-, f0⟩, f1⟩, f2⟩, f3⟩, f4⟩, f5⟩, f6⟩, f7⟩, f8⟩, f9⟩, f10⟩, f11⟩, f12⟩, f13⟩ w1 hC1
    simp only [puts, act_put, act_put_none, List.setIfInBounds_toArray, List.set_cons_zero, List.set_cons_succ, f0, f1, f2, f3, f4, f5, f6, f7, f8, f9, f10, f11, f12, f13]
    clear f0 f1 f2 f3 f4 f5 f6 f7 f8 f9 f10 f11 f12 f13
    have HST := Lib.hid hC1
    clear hC1 HC0
    go_wp2_with fail
    go_ret
    exact ⟨rfl, HST.out.bel⟩
  · obtain rfl : p = n2 := by have := HPM.out; omega
    have hgi2 : ¬ (3 : Int) < (p : Int) := by omega
    obtain rfl : q = n3 := by have := HQM.out; omega
    have hgi3 : ¬ (3 : Int) < (q : Int) := by omega
    clear hg2 hg3 HPM HQM NB NC hp3 hq3 hpm hqm
    go_enter Try.func6, Try.ntmps6
    go_wp2_with fail
    refine calls_then (C1.out _ (Below.refl _ _)) ?_
    rintro e w1 ⟨v1, rfl, ⟨A0, c0, rfl, hc0, hr0⟩, hb1⟩
    rw [← EX.out]
    have HB1 := Lib.hid hb1
    have HR1 := Lib.hid hr0
    clear hr0 hb1 hc0
    go_wp2_with (first
      | (refine wpList_put_box (x := .tmp 7) (cells := eV X) (Blk.new _ _ _) rfl rfl rfl rfl elem_size rfl (by simp [eV, wV, limbs, Value.oneCell']) ?_; intro w2 hb2 hw2; have hk2 := box_below hw2; have HX2 := Lib.hid hb2; have HB2 := Lib.hid (HB1.out.trans (hk2.mono HB1.out.size)); have HR2 := Lib.hid (rd_shape HR1.out hk2); clear hb2 hw2 hk2 HB1 HR1)
      | (refine wpList_get_box (x := .tmp 7) HX2.out rfl rfl rfl hu rfl elem_size ?_))
    refine calls_then (CU.out _ HB2.out) ?_
    rintro e w3 ⟨rfl, hb3⟩
    have HB3 := Lib.hid (HB2.out.trans (hb3.mono HB2.out.size))
    have HX3 := Lib.hid (HX2.out.below hb3 HX2.out.lt)
    have HR3 := Lib.hid (rd_shape HR2.out hb3)
    clear hb3 HB2 HX2 HR2
    generalize w1.heap.size = g at *
    go_wp2_with (first
      | (refine wpList_put_box (x := .tmp 9) (cells := eV U) (Blk.new _ _ _) rfl rfl rfl rfl elem_size rfl (by simp [eV, wV, limbs, Value.oneCell']) ?_; intro w4 hb4 hw4; have hk4 := box_below hw4; have HP4 := Lib.hid hb4; have HX4 := Lib.hid (HX3.out.below hk4 HX3.out.lt); have HB4 := Lib.hid (HB3.out.trans (hk4.mono HB3.out.size)); have HR4 := Lib.hid (rd_shape HR3.out hk4); clear hb4 hw4 hk4 HB3 HR3 HX3)
      | (refine wpList_get_box (x := .tmp 7) HX4.out rfl rfl rfl hu rfl elem_size ?_))
    refine calls_then (CV.out _ HB4.out) ?_
    rintro e w5 ⟨rfl, hb5⟩
    have HB5 := Lib.hid (HB4.out.trans (hb5.mono HB4.out.size))
    have HX5 := Lib.hid (HX4.out.below hb5 HX4.out.lt)
    have HP5 := Lib.hid (HP4.out.below hb5 HP4.out.lt)
    have HR5 := Lib.hid (rd_shape HR4.out hb5)
    clear hb5 HB4 HX4 HR4 HP4
    generalize w3.heap.size = h at *
    go_wp2_with (refine wpList_put_box (x := .tmp 10) (cells := eV V) (Blk.new _ _ _) rfl rfl rfl rfl elem_size rfl (by simp [eV, wV, limbs, Value.oneCell']) ?_; intro w6 hb6 hw6; have hk6 := box_below hw6; have HQ6 := Lib.hid hb6; have HX6 := Lib.hid (HX5.out.below hk6 HX5.out.lt); have HP6 := Lib.hid (HP5.out.below hk6 HP5.out.lt); have HB6 := Lib.hid (HB5.out.trans (hk6.mono HB5.out.size)); have HR6 := Lib.hid (rd_shape HR5.out hk6); clear hb6 hw6 hk6 HB5 HR5 HX5 HP5)
    refine calls_then (CM.out _ HB6.out) ?_
    rintro e w7 ⟨A7, c7, rfl, hown7, hb7⟩
    have HV7 := Lib.hid (Rd.of_own hown7 (Nat.le_refl _))
    have HB7 := Lib.hid (HB6.out.trans (hb7.mono HB6.out.size))
    have HX7 := Lib.hid (HX6.out.below hb7 HX6.out.lt)
    have HP7 := Lib.hid (HP6.out.below hb7 HP6.out.lt)
    have HQ7 := Lib.hid (HQ6.out.below hb7 HQ6.out.lt)
    have HR7 := Lib.hid (rd_shape HR6.out hb7)
    clear hown7 hb7 HB6 HX6 HR6 HP6 HQ6
    generalize w5.heap.size = r at *
    go_wp2_with fail
    refine calls_then (CK.out _ HB7.out) ?_
    rintro e w8 ⟨A8, c8, rfl, hown8, hb8⟩
    have HC8 := Lib.hid (CT.out w8 A7 c7 A8 c8 (rd_shape HV7.out hb8) (Rd.of_own hown8 (Nat.le_refl _)))
    have HB8 := Lib.hid (HB7.out.trans (hb8.mono HB7.out.size))
    have HX8 := Lib.hid (HX7.out.below hb8 HX7.out.lt)
    have HP8 := Lib.hid (HP7.out.below hb8 HP7.out.lt)
    have HQ8 := Lib.hid (HQ7.out.below hb8 HQ7.out.lt)
    have HR8 := Lib.hid (rd_shape HR7.out hb8)
    clear hown8 hb8 HB7 HX7 HR7 HP7 HQ7 HV7
    go_wp2_with fail
    refine calls_then HC8.out ?_
    rintro e w9 ⟨A9, c9, rfl, hc9, hr9, hb9⟩
    have HC9 := Lib.hid (CS.out w9 A9 c9 hr9 hc9)
    have HB9 := Lib.hid (HB8.out.trans (hb9.mono HB8.out.size))
    have HX9 := Lib.hid (HX8.out.below hb9 HX8.out.lt)
    have HP9 := Lib.hid (HP8.out.below hb9 HP8.out.lt)
    have HQ9 := Lib.hid (HQ8.out.below hb9 HQ8.out.lt)
    have HR9 := Lib.hid (rd_shape HR8.out hb9)
    clear hc9 hr9 hb9 HB8 HX8 HR8 HP8 HQ8 HC8
    go_wp2_with fail
    refine calls_then HC9.out ?_
    rintro e w10 ⟨A5, c5, rfl, hown5, hb10⟩
    have hle5 := hown5.le_cap
    have HST := Lib.hid (PW.mk (HB9.out.trans (hb10.mono HB9.out.size)) (HX9.out.below hb10 HX9.out.lt) (HP9.out.below hb10 HP9.out.lt) (HQ9.out.below hb10 HQ9.out.lt) (rd_shape HR9.out hb10) (Rd.of_own hown5 (Nat.le_refl _)))
    have HLE := Lib.hid hle5
    clear hown5 hb10 hle5 HB9 HX9 HP9 HQ9 HR9 HC9
    go_wp2_with fail
    have HC0 := HST.out.drew
    clear HST
    refine wp_region_list (fun u => PW w g h r X U V A0 A5 (padD l) S u) (fun | false => (fun _ => True) | true => (fun _ => True)) (fun | false, _ => false | true, _ => false)
      [fun z _ => z 0 = .agg (eV U),
       fun z _ => z 1 = .slice A0 32 c0,
       fun z _ => z 2 = .slice B p d,
       fun z u => (RdV p (dV DM)) (z 3) u,
       fun z u => (RdV 32 (dV (digN 32 (X.val ^ leV DM % PN)))) (z 4) u,
       fun z _ => z 5 = .bool true,
       fun z _ => z 6 = .bool true]
      [Eq, Eq, Eq, fun u u' => Below u.heap.size u u', fun u u' => Below u.heap.size u u', fun u u' => Below u.heap.size u u', Eq]
      (fun _ _ => false) [(0, some 40), (1, some 41), (2, some 42), (3, some 43), (4, some 44), (5, some 45), (6, some 12)] (by kernel_rfl) (by kernel_rfl) rfl (fun _ => rfl) ?_ ?_ ?_ ?_ ?_ ?_
    · exact HC0
    · intro m; cases m; exact trivial; exact trivial
    · intro m; cases m
      · exact ⟨.inr (fun _ _ h h0 => h ▸ h0), .inr (fun _ _ h h0 => h ▸ h0), .inr (fun _ _ h h0 => h ▸ h0), .inr (fun _ _ _ h => h), .inr (fun _ _ _ h => h), .inr (fun _ _ _ h => h), .inr (fun _ _ h h0 => h ▸ h0), trivial⟩
      · exact ⟨.inr (fun _ _ h h0 => h ▸ h0), .inr (fun _ _ h h0 => h ▸ h0), .inr (fun _ _ h h0 => h ▸ h0), .inr (fun _ _ _ h => h), .inr (fun _ _ _ h => h), .inr (fun _ _ _ h => h), .inr (fun _ _ h h0 => h ▸ h0), trivial⟩
    · exact ⟨⟨.inl rfl, .inr (.inr (.inr (fun _ _ _ _ _ h => h))), .inr (.inr (.inr (fun _ _ _ _ _ h => h))), .inr (.inr (.inr (fun _ _ _ _ h h0 => by cases h; exact h0))), .inr (.inr (.inr (fun _ _ _ _ h h0 => by cases h; exact h0))), .inr (.inr (.inl rfl)), .inr (.inr (.inl rfl)), trivial⟩,
        ⟨.inr (.inr (.inr (fun _ _ _ _ _ h => h))), .inl rfl, .inr (.inr (.inr (fun _ _ _ _ _ h => h))), .inr (.inr (.inr (fun _ _ _ _ h h0 => by cases h; exact h0))), .inr (.inr (.inl rfl)), .inr (.inr (.inl rfl)), .inr (.inr (.inl rfl)), trivial⟩,
        ⟨.inr (.inr (.inr (fun _ _ _ _ _ h => h))), .inr (.inr (.inr (fun _ _ _ _ _ h => h))), .inl rfl, .inr (.inr (.inl rfl)), .inr (.inr (.inl rfl)), .inr (.inr (.inl rfl)), .inr (.inr (.inl rfl)), trivial⟩,
        ⟨.inr (.inr (.inr (fun _ _ _ _ _ h => h))), .inr (.inr (.inr (fun _ _ _ _ _ h => h))), .inr (.inr (.inr (fun _ _ _ _ _ h => h))), .inl rfl, .inr (.inr (.inl rfl)), .inr (.inr (.inl rfl)), .inr (.inr (.inl rfl)), trivial⟩,
        ⟨.inr (.inr (.inr (fun _ _ _ _ _ h => h))), .inr (.inr (.inr (fun _ _ _ _ _ h => h))), .inr (.inr (.inr (fun _ _ _ _ _ h => h))), .inr (.inr (.inr (fun _ _ _ _ h h0 => h0.next h))), .inl rfl, .inr (.inr (.inl rfl)), .inr (.inr (.inl rfl)), trivial⟩,
        ⟨.inr (.inr (.inr (fun _ _ _ _ _ h => h))), .inr (.inr (.inr (fun _ _ _ _ _ h => h))), .inr (.inr (.inr (fun _ _ _ _ _ h => h))), .inr (.inr (.inr (fun _ _ _ _ h h0 => h0.next h))), .inr (.inr (.inr (fun _ _ _ _ h h0 => h0.next h))), .inl rfl, .inr (.inr (.inl rfl)), trivial⟩,
        ⟨.inr (.inr (.inr (fun _ _ _ _ _ h => h))), .inr (.inr (.inr (fun _ _ _ _ _ h => h))), .inr (.inr (.inr (fun _ _ _ _ _ h => h))), .inr (.inr (.inr (fun _ _ _ _ h h0 => by cases h; exact h0))), .inr (.inr (.inr (fun _ _ _ _ h h0 => by cases h; exact h0))), .inr (.inr (.inr (fun _ _ _ _ _ h => h))), .inl rfl, trivial⟩, trivial⟩
    · refine ⟨?_, ?_, ?_, ?_, ?_, ?_, ?_, trivial⟩
      · -- 0: Op.load 26 (Operand.tmp 9)
        refine step_plain [] (fun _ => rfl) rfl ?_
        intro w1 vals hC1 hi0 hf E hE
        clear hi0
        clear hf
        simp only [puts, act_put, act_put_none, List.setIfInBounds_toArray, List.set_cons_zero, List.set_cons_succ] at hE ⊢
        refine wpList_get_box hC1.p rfl rfl rfl hu rfl elem_size ?_
        go_wp2_with fail
        exact .mk (hE _ _ rfl hC1 rfl)
      · -- 1: Op.move (Operand.tmp 8)
        refine step_plain [] (fun _ => rfl) rfl ?_
        intro w1 vals hC1 hi0 hf E hE
        clear hi0
        clear hf
        simp only [puts, act_put, act_put_none, List.setIfInBounds_toArray, List.set_cons_zero, List.set_cons_succ] at hE ⊢
        go_wp2
        exact .mk (hE _ _ rfl hC1 rfl)
      · -- 2: Op.move (Operand.tmp 1)
        refine step_plain [] (fun _ => rfl) rfl ?_
        intro w1 vals hC1 hi0 hf E hE
        clear hi0
        clear hf
        simp only [puts, act_put, act_put_none, List.setIfInBounds_toArray, List.set_cons_zero, List.set_cons_succ] at hE ⊢
        go_wp2
        exact .mk (hE _ _ rfl hC1 rfl)
      · -- 3: Op.call { callee := Callee.value (Operand.func 16), args := #[Operand.tmp 42], argTypes := #[33] }
        refine step_plain [(2, some 42)] (fun _ => rfl) rfl ?_
        intro w1 vals hC1 hi0 hf E hE
        clear hi0
        have f2 : vals 2 = .slice B p d := hf 2 rfl
        try dsimp only at f2
        clear hf
        simp only [puts, act_put, act_put_none, List.setIfInBounds_toArray, List.set_cons_zero, List.set_cons_succ, f2] at hE ⊢
        clear f2
        go_wp2_with fail
        refine calls_then (CM.out _ hC1.bel) ?_
        rintro e u2 ⟨A2, c2, rfl, hown, hb2⟩
        have hrv := RdV.of_own hown
        go_wp2_with fail
        exact .mk (hE _ _ hrv (hC1.next hb2) hb2)
      · -- 4: Op.call { callee := Callee.value (Operand.func 26), args := #[Operand.tmp 41, Operand.tmp 43], argTypes := #[2
        refine step_plain [(1, some 41), (3, some 43), (3, some 43)] (fun _ => rfl) rfl ?_
        intro w1 vals hC1 hi0 hf E hE
        clear hi0
        have f1 : vals 1 = .slice A0 32 c0 := hf 1 rfl
        have f3 : (RdV p (dV DM)) (vals 3) w1 := hf 3 rfl
        try dsimp only at f1 f3
        clear hf
        obtain ⟨A2, c2, hx2, hc2, hr2⟩ := f3
        simp only [puts, act_put, act_put_none, List.setIfInBounds_toArray, List.set_cons_zero, List.set_cons_succ, f1, hx2] at hE ⊢
        clear f1
        clear hx2
        go_wp2_with fail
        refine calls_then (CR.out _ _ _ _ _ hC1.d hr2) ?_
        rintro e u2 ⟨A3, c3, rfl, hc3, hr3, hb2⟩
        rw [digN_length] at hc3
        rw [digN_length]
        go_wp2_with fail
        exact .mk (hE _ _ ⟨A3, c3, rfl, hc3, hr3⟩ (hC1.next hb2) hb2)
      · -- 5: Op.call { callee := Callee.value (Operand.func 9), args := #[Operand.tmp 40, Operand.tmp 44], argTypes := #[26
        refine step_plain [(0, some 40), (4, some 44), (4, some 44)] (fun _ => rfl) rfl ?_
        intro w1 vals hC1 hi0 hf E hE
        clear hi0
        have f0 : vals 0 = .agg (eV U) := hf 0 rfl
        have f4 : (RdV 32 (dV (digN 32 (X.val ^ leV DM % PN)))) (vals 4) w1 := hf 4 rfl
        try dsimp only at f0 f4
        clear hf
        obtain ⟨A2, c2, hx2, hc2, hr2⟩ := f4
        simp only [puts, act_put, act_put_none, List.setIfInBounds_toArray, List.set_cons_zero, List.set_cons_succ, f0, hx2] at hE ⊢
        clear f0
        clear hx2
        go_wp2_with fail
        refine calls_then (CL.out _ _ _ hr2 hc2) ?_
        rintro e u2 ⟨rfl, hb2⟩
        go_wp2_with fail
        exact .mk (hE _ _ rfl (hC1.next hb2) hb2)
      · -- 6: Op.assign (Operand.tmp 45)
        refine step_plain [(5, some 45), (5, some 45), (0, some 40), (1, some 41), (2, some 42), (3, some 43), (4, some 44), (5, some 45)] (fun _ => rfl) rfl ?_
        intro w1 vals hC1 hi0 hf E hE
        clear hi0
        have f0 : vals 0 = .agg (eV U) := hf 0 rfl
        have f1 : vals 1 = .slice A0 32 c0 := hf 1 rfl
        have f2 : vals 2 = .slice B p d := hf 2 rfl
        have f3 : (RdV p (dV DM)) (vals 3) w1 := hf 3 rfl
        have f4 : (RdV 32 (dV (digN 32 (X.val ^ leV DM % PN)))) (vals 4) w1 := hf 4 rfl
        have f5 : vals 5 = .bool true := hf 5 rfl
        try dsimp only at f0 f1 f2 f3 f4 f5
        clear hf
        simp only [puts, act_put, act_put_none, List.setIfInBounds_toArray, List.set_cons_zero, List.set_cons_succ, f0, f1, f2, f5] at hE ⊢
        clear f0 f1 f2 f5
        go_wp2
        exact .mk (hE _ _ rfl hC1 rfl)
    intro w1 vals hC1 hf
    have f0 : vals 0 = .agg (eV U) := hf 0 (by decide) rfl
    have f1 : vals 1 = .slice A0 32 c0 := hf 1 (by decide) rfl
    have f2 : vals 2 = .slice B p d := hf 2 (by decide) rfl
    have f3 : (RdV p (dV DM)) (vals 3) w1 := hf 3 (by decide) rfl
    have f4 : (RdV 32 (dV (digN 32 (X.val ^ leV DM % PN)))) (vals 4) w1 := hf 4 (by decide) rfl
    have f5 : vals 5 = .bool true := hf 5 (by decide) rfl
    have f6 : vals 6 = .bool true := hf 6 (by decide) rfl
    try dsimp only at f0 f1 f2 f3 f4 f5 f6
    clear hf
    simp only [puts, act_put, act_put_none, List.setIfInBounds_toArray, List.set_cons_zero, List.set_cons_succ, f0, f1, f2, f5, f6]
    clear f0 f1 f2 f5 f6
    generalize vals 3 = x3 at *
    generalize vals 4 = x4 at *
    clear HC0 f3 f4
    have HC0 := hC1.drew
    clear hC1
    go_wp2_with fail
    refine wp_region_det (fun u => PW w g h r X U V A0 A5 (padD l) S u) (fun u => PW w g h r X U V A0 A5 (padD l) S u) [(0, some 46), (1, some 47), (2, some 48), (3, some 49), (4, some 50), (5, some 51), (6, some 52), (7, some 53), (8, some 54), (9, some 55), (10, some 56), (11, some 57), (12, some 58), (13, some 6)] (by kernel_rfl) (by kernel_rfl) (by decide) (by kernel_rfl) (fun _ => rfl) HC0 ?_
    apply DetL.next
    · -- 0: Op.move (Operand.tmp 12)
      apply detStep_plain []
      exact fun _ => rfl
      rfl
      rintro vals - w1 hC1 E hE
      simp only [puts, act_put, act_put_none, List.setIfInBounds_toArray, List.set_cons_zero, List.set_cons_succ] at hE ⊢
      go_wp2
      exact .mk (hE _ hC1)
    apply DetL.next
    · -- 1: Op.move (Operand.tmp 46)
      apply detStep_plain [(0, some 46)]
      exact fun _ => rfl
      rfl
      rintro vals ⟨-, f0⟩ w1 hC1 E hE
      simp only [puts, act_put, act_put_none, List.setIfInBounds_toArray, List.set_cons_zero, List.set_cons_succ, f0] at hE ⊢
      clear f0
      go_wp2
      exact .mk (hE _ hC1)
    apply DetL.next
    · -- 2: Op.load 26 (Operand.tmp 9)
      apply detStep_yes [(1, some 47)] (g := 1) (t := 47) (want := true)
      exact fun _ => rfl
      rfl
      rfl
      · rintro vals ⟨⟨-, -⟩, f1⟩
        simp only [puts, act_put, act_put_none, List.setIfInBounds_toArray, List.set_cons_zero, List.set_cons_succ, f1]
        rfl
      rintro vals ⟨⟨-, -⟩, f1⟩ w1 hC1 E hE
      dsimp only at hE ⊢
      simp only [puts, act_put, act_put_none, List.setIfInBounds_toArray, List.set_cons_zero, List.set_cons_succ, f1] at hE ⊢
      clear f1
      refine wpList_get_box hC1.p rfl rfl rfl hu rfl elem_size ?_
      go_wp2_with fail
      exact .mk (hE _ hC1)
    apply DetL.next
    · -- 3: Op.load 26 (Operand.tmp 10)
      apply detStep_yes [(1, some 47)] (g := 1) (t := 47) (want := true)
      exact fun _ => rfl
      rfl
      rfl
      · rintro vals ⟨⟨⟨-, -⟩, f1⟩, -⟩
        simp only [puts, act_put, act_put_none, List.setIfInBounds_toArray, List.set_cons_zero, List.set_cons_succ, f1]
        rfl
      rintro vals ⟨⟨⟨-, -⟩, f1⟩, -⟩ w1 hC1 E hE
      dsimp only at hE ⊢
      simp only [puts, act_put, act_put_none, List.setIfInBounds_toArray, List.set_cons_zero, List.set_cons_succ, f1] at hE ⊢
      clear f1
      refine wpList_get_box hC1.q rfl rfl rfl hu rfl elem_size ?_
      go_wp2_with fail
      exact .mk (hE _ hC1)
    apply DetL.next
    · -- 4: Op.call { callee := Callee.value (Operand.func 22), args := #[Operand.tmp 48, Operand.tmp 49], argTypes := #[2
      apply detStep_yes [(2, some 48), (3, some 49), (1, some 47), (1, some 47)] (g := 1) (t := 47) (want := true)
      exact fun _ => rfl
      rfl
      rfl
      · rintro vals ⟨⟨⟨⟨-, -⟩, f1⟩, f2⟩, f3⟩
        simp only [puts, act_put, act_put_none, List.setIfInBounds_toArray, List.set_cons_zero, List.set_cons_succ, f1, f2, f3]
        rfl
      rintro vals ⟨⟨⟨⟨-, -⟩, f1⟩, f2⟩, f3⟩ w1 hC1 E hE
      dsimp only at hE ⊢
      simp only [puts, act_put, act_put_none, List.setIfInBounds_toArray, List.set_cons_zero, List.set_cons_succ, f1, f2, f3] at hE ⊢
      clear f1 f2 f3
      go_wp2_with fail
      refine calls_then (HUV.out _) ?_
      rintro e w2 ⟨rfl, hb2⟩
      go_wp2_with fail
      exact .mk (hE _ (hC1.next hb2))
    apply DetL.next
    · -- 5: Op.load 26 (Operand.tmp 7)
      apply detStep_yes [(1, some 47)] (g := 1) (t := 47) (want := true)
      exact fun _ => rfl
      rfl
      rfl
      · rintro vals ⟨⟨⟨⟨⟨-, -⟩, f1⟩, -⟩, -⟩, -⟩
        simp only [puts, act_put, act_put_none, List.setIfInBounds_toArray, List.set_cons_zero, List.set_cons_succ, f1]
        rfl
      rintro vals ⟨⟨⟨⟨⟨-, -⟩, f1⟩, -⟩, -⟩, -⟩ w1 hC1 E hE
      dsimp only at hE ⊢
      simp only [puts, act_put, act_put_none, List.setIfInBounds_toArray, List.set_cons_zero, List.set_cons_succ, f1] at hE ⊢
      clear f1
      refine wpList_get_box hC1.x rfl rfl rfl hu rfl elem_size ?_
      go_wp2_with fail
      exact .mk (hE _ hC1)
    apply DetL.next
    · -- 6: Op.move (Operand.tmp 11)
      apply detStep_yes [(1, some 47)] (g := 1) (t := 47) (want := true)
      exact fun _ => rfl
      rfl
      rfl
      · rintro vals ⟨⟨⟨⟨⟨⟨-, -⟩, f1⟩, -⟩, -⟩, -⟩, -⟩
        simp only [puts, act_put, act_put_none, List.setIfInBounds_toArray, List.set_cons_zero, List.set_cons_succ, f1]
        rfl
      rintro vals ⟨⟨⟨⟨⟨⟨-, -⟩, f1⟩, -⟩, -⟩, -⟩, -⟩ w1 hC1 E hE
      dsimp only at hE ⊢
      simp only [puts, act_put, act_put_none, List.setIfInBounds_toArray, List.set_cons_zero, List.set_cons_succ, f1] at hE ⊢
      clear f1
      go_wp2
      exact .mk (hE _ hC1)
    apply DetL.next
    · -- 7: Op.call { callee := Callee.value (Operand.func 23), args := #[Operand.tmp 51, Operand.tmp 52], argTypes := #[2
      apply detStep_yes [(5, some 51), (6, some 52), (4, some 50), (1, some 47)] (g := 1) (t := 47) (want := true)
      exact fun _ => rfl
      rfl
      rfl
      · rintro vals ⟨⟨⟨⟨⟨⟨⟨-, -⟩, f1⟩, -⟩, -⟩, f4⟩, f5⟩, f6⟩
        simp only [puts, act_put, act_put_none, List.setIfInBounds_toArray, List.set_cons_zero, List.set_cons_succ, f1, f4, f5, f6]
        rfl
      rintro vals ⟨⟨⟨⟨⟨⟨⟨-, -⟩, f1⟩, -⟩, -⟩, f4⟩, f5⟩, f6⟩ w1 hC1 E hE
      dsimp only at hE ⊢
      simp only [puts, act_put, act_put_none, List.setIfInBounds_toArray, List.set_cons_zero, List.set_cons_succ, f1, f4, f5, f6] at hE ⊢
      clear f1 f4 f5 f6
      go_wp2_with fail
      refine calls_then (CZ.out _ _ _ hC1.s HLE.out) ?_
      rintro e w2 ⟨rfl, hb2⟩
      go_wp2_with fail
      exact .mk (hE _ (hC1.next hb2))
    apply DetL.next
    · -- 8: Op.call { callee := Callee.value (Operand.func 12), args := #[Operand.tmp 50, Operand.tmp 53], argTypes := #[2
      apply detStep_yes [(4, some 50), (7, some 53), (7, some 53), (1, some 47)] (g := 1) (t := 47) (want := true)
      exact fun _ => rfl
      rfl
      rfl
      · rintro vals ⟨⟨⟨⟨⟨⟨⟨⟨-, -⟩, f1⟩, -⟩, -⟩, f4⟩, -⟩, -⟩, f7⟩
        simp only [puts, act_put, act_put_none, List.setIfInBounds_toArray, List.set_cons_zero, List.set_cons_succ, f1, f4, f7]
        rfl
      rintro vals ⟨⟨⟨⟨⟨⟨⟨⟨-, -⟩, f1⟩, -⟩, -⟩, f4⟩, -⟩, -⟩, f7⟩ w1 hC1 E hE
      dsimp only at hE ⊢
      simp only [puts, act_put, act_put_none, List.setIfInBounds_toArray, List.set_cons_zero, List.set_cons_succ, f1, f4, f7] at hE ⊢
      clear f1 f4 f7
      go_wp2_with fail
      refine calls_then (HEQ.out _) ?_
      rintro e w2 ⟨rfl, hb2⟩
      go_wp2_with fail
      exact .mk (hE _ (hC1.next hb2))
    apply DetL.next
    · -- 9: Op.pick (Operand.tmp 47) (Operand.tmp 54) (Operand.const (Value.bool false))
      apply detStep_plain [(1, some 47), (8, some 54)]
      exact fun _ => rfl
      rfl
      rintro vals ⟨⟨⟨⟨⟨⟨⟨⟨⟨-, -⟩, f1⟩, -⟩, -⟩, -⟩, -⟩, -⟩, -⟩, f8⟩ w1 hC1 E hE
      simp only [puts, act_put, act_put_none, List.setIfInBounds_toArray, List.set_cons_zero, List.set_cons_succ, f1, f8] at hE ⊢
      clear f1 f8
      go_wp2
      exact .mk (hE _ hC1)
    apply DetL.next
    · -- 10: Op.move (Operand.tmp 55)
      apply detStep_plain [(9, some 55), (8, some 54)]
      exact fun _ => rfl
      rfl
      rintro vals ⟨⟨⟨⟨⟨⟨⟨⟨⟨⟨-, -⟩, -⟩, -⟩, -⟩, -⟩, -⟩, -⟩, -⟩, f8⟩, f9⟩ w1 hC1 E hE
      simp only [puts, act_put, act_put_none, List.setIfInBounds_toArray, List.set_cons_zero, List.set_cons_succ, f8, f9] at hE ⊢
      clear f8 f9
      go_wp2
      exact .mk (hE _ hC1)
    apply DetL.next
    · -- 11: Op.call { callee := Callee.value (Operand.func 13), args := #[], argTypes := #[] }
      apply detStep_yes [(10, some 56), (10, some 56)] (g := 10) (t := 56) (want := true)
      exact fun _ => rfl
      rfl
      rfl
      · rintro vals ⟨⟨⟨⟨⟨⟨⟨⟨⟨⟨⟨-, -⟩, -⟩, -⟩, -⟩, -⟩, -⟩, -⟩, -⟩, -⟩, -⟩, f10⟩
        simp only [puts, act_put, act_put_none, List.setIfInBounds_toArray, List.set_cons_zero, List.set_cons_succ, f10]
        rfl
      rintro vals ⟨⟨⟨⟨⟨⟨⟨⟨⟨⟨⟨-, -⟩, -⟩, -⟩, -⟩, -⟩, -⟩, -⟩, -⟩, -⟩, -⟩, f10⟩ w1 hC1 E hE
      dsimp only at hE ⊢
      simp only [puts, act_put, act_put_none, List.setIfInBounds_toArray, List.set_cons_zero, List.set_cons_succ, f10] at hE ⊢
      clear f10
      go_wp2_with fail
      refine calls_then (lives_any _) ?_
      rintro e w2 ⟨rfl, hb2⟩
      go_wp2_with fail
      exact .mk (hE _ (hC1.next hb2))
    apply DetL.next
    · -- 12: Op.pick (Operand.tmp 56) (Operand.tmp 57) (Operand.const (Value.bool false))
      apply detStep_plain [(10, some 56), (11, some 57)]
      exact fun _ => rfl
      rfl
      rintro vals ⟨⟨⟨⟨⟨⟨⟨⟨⟨⟨⟨⟨-, -⟩, -⟩, -⟩, -⟩, -⟩, -⟩, -⟩, -⟩, -⟩, -⟩, f10⟩, f11⟩ w1 hC1 E hE
      simp only [puts, act_put, act_put_none, List.setIfInBounds_toArray, List.set_cons_zero, List.set_cons_succ, f10, f11] at hE ⊢
      clear f10 f11
      go_wp2
      exact .mk (hE _ hC1)
    apply DetL.last
    · -- 13: Op.assign (Operand.tmp 58)
      apply detStep_plain [(12, some 58), (11, some 57), (0, some 46), (1, some 47), (2, some 48), (3, some 49), (4, some 50), (5, some 51), (6, some 52), (7, some 53), (8, some 54), (9, some 55), (10, some 56), (11, some 57), (12, some 58)]
      exact fun _ => rfl
      rfl
      rintro vals ⟨⟨⟨⟨⟨⟨⟨⟨⟨⟨⟨⟨⟨-, f0⟩, f1⟩, f2⟩, f3⟩, f4⟩, f5⟩, f6⟩, f7⟩, f8⟩, f9⟩, f10⟩, f11⟩, f12⟩ w1 hC1 E hE
      simp only [puts, act_put, act_put_none, List.setIfInBounds_toArray, List.set_cons_zero, List.set_cons_succ, f0, f1, f2, f3, f4, f5, f6, f7, f8, f9, f10, f11, f12] at hE ⊢
      clear f0 f1 f2 f3 f4 f5 f6 f7 f8 f9 f10 f11 f12
      go_wp2
      exact .mk (hE _ hC1)
    rintro vals ⟨⟨⟨⟨⟨⟨⟨⟨⟨⟨⟨⟨⟨⟨-, f0⟩, f1⟩, f2⟩, f3⟩, f4⟩, f5⟩, f6⟩, f7⟩, f8⟩, f9⟩, f10⟩, f11⟩, f12⟩, f13⟩ w1 hC1
    simp only [puts, act_put, act_put_none, List.setIfInBounds_toArray, List.set_cons_zero, List.set_cons_succ, f0, f1, f2, f3, f4, f5, f6, f7, f8, f9, f10, f11, f12, f13]
    clear f0 f1 f2 f3 f4 f5 f6 f7 f8 f9 f10 f11 f12 f13
    have HST := Lib.hid hC1
    clear hC1 HC0
    go_wp2_with fail
    go_ret
    exact ⟨rfl, HST.out.bel⟩
end Go.Proofs.Ytngecbnbddoldaa
