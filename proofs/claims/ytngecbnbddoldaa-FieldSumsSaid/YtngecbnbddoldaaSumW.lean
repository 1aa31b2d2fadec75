/-
  Walk: the law FieldSums.
-/
import Derived.Test.YtngecbnbddoldaaSame
namespace Go.Proofs.Ytngecbnbddoldaa
set_option linter.unusedSimpArgs false
set_option linter.unusedVariables false
open Go.RowKit

theorem box_low {u u' : World} {o : Obj} (hw : Wrote u.heap.size (u.alloc o) u') : Below u.heap.size u u' :=
  hw.below (below_new _ _) (Nat.le_refl _) (by simp)
theorem rd_keep {l : List Nat} {w : World} {A : Option Addr} (h : Rd w w.heap.size A (dV l)) {w' : World} (hb : Below w.heap.size w w') : Rd w' w'.heap.size A (dV l) := (h.below hb).mono hb.size
theorem eV_u64 (x : E5) (o : Nat) {v : Value} (h : (eV x)[o]? = some v) : ∃ n : Int, v = .int .u64 n := by
  by_cases ho : o < 5
  · rw [eV_at x o ho] at h
    exact ⟨_, (Option.some.inj h).symm⟩
  · rw [Array.getElem?_eq_none (by rw [eV_size]; omega)] at h
    cases h
/-- digits do not lie in an element's box -/
theorem rd_ne {u : World} {g B : Nat} {x : E5} {A : Option Addr} {l : List Nat} (hb : Blk u g 26 (eV x)) (hr : Rd u B A (dV l)) (hl : 0 < l.length) : ∀ ad, A = some ad → ad.block ≠ g := fun ad hA he => by
  obtain ⟨ad2, h1, _, h3⟩ := hr.at_ (k := 0) (by rw [dV_length]; exact hl)
  rw [hA] at h1
  injection h1 with h1
  subst h1
  rw [dV_at hl, Addr.add_zero'] at h3
  have hs := World.cell?_spot h3
  obtain ⟨b, o, s⟩ := ad
  dsimp only at he hs
  subst he hs
  rw [hb.cell o] at h3
  obtain ⟨n, hn⟩ := eV_u64 x o h3
  cases hn
theorem rd_wrote {w w' : World} {g B : Nat} {A : Option Addr} {xs : List Value} (h : Rd w B A xs) (hw : Wrote g w w') (hne : ∀ ad, A = some ad → ad.block ≠ g) : Rd w' B A xs := fun i u hu => by
  obtain ⟨ad, ha, hlt, hc⟩ := h i u hu
  refine ⟨ad, ha, hlt, ?_⟩
  rw [World.cell?_of_block (w := w) (w' := w') (hw.grown.block _ (World.block_lt_of_cell? w _ hc) (by rw [block_of_add]; intro e; exact hne ad ha (Option.some.inj e)))]
  exact hc
structure SM (w0 : World) (g h : Nat) (x y : E5) (A0 A1 : Option Addr) (D E : List Nat) (u : World) : Prop where
  bel : Below w0.heap.size w0 u
  x : Blk u g 26 (eV x)
  y : Blk u h 26 (eV y)
  d : Rd u u.heap.size A0 (dV D)
  e : Rd u u.heap.size A1 (dV E)
  lg : w0.heap.size ≤ g
  lh : w0.heap.size ≤ h
  gh : g ≠ h
section
variable {w0 u u' : World} {g h : Nat} {x y x' : E5} {A0 A1 : Option Addr} {D E : List Nat}
theorem SM.next (k : SM w0 g h x y A0 A1 D E u) (hb : Below u.heap.size u u') : SM w0 g h x y A0 A1 D E u' :=
  ⟨k.bel.trans (hb.mono k.bel.size), k.x.below hb k.x.lt, k.y.below hb k.y.lt, rd_keep k.d hb, rd_keep k.e hb, k.lg, k.lh, k.gh⟩
theorem SM.putX (k : SM w0 g h x y A0 A1 D E u) (hd : 0 < D.length) (he : 0 < E.length) (hw : Wrote g u u') (hb : Blk u' g 26 (eV x')) : SM w0 g h x' y A0 A1 D E u' :=
  ⟨hw.below k.bel k.lg k.bel.size, hb, hw.blk k.y (Ne.symm k.gh), by have h := rd_wrote k.d hw (rd_ne k.x k.d hd); rw [← hw.size] at h; exact h, by have h := rd_wrote k.e hw (rd_ne k.x k.e he); rw [← hw.size] at h; exact h, k.lg, k.lh, k.gh⟩
theorem SM.putY (k : SM w0 g h x y A0 A1 D E u) (hd : 0 < D.length) (he : 0 < E.length) (hw : Wrote h u u') (hb : Blk u' h 26 (eV x')) : SM w0 g h x x' A0 A1 D E u' :=
  ⟨hw.below k.bel k.lh k.bel.size, hw.blk k.x k.gh, hb, by have h := rd_wrote k.d hw (rd_ne k.y k.d hd); rw [← hw.size] at h; exact h, by have h := rd_wrote k.e hw (rd_ne k.y k.e he); rw [← hw.size] at h; exact h, k.lg, k.lh, k.gh⟩
theorem SM.newD {A : Option Addr} {D' : List Nat} (k : SM w0 g h x y A0 A1 D E u) (hb : Below u.heap.size u u') (hr : Rd u' u'.heap.size A (dV D')) : SM w0 g h x y A A1 D' E u' :=
  ⟨k.bel.trans (hb.mono k.bel.size), k.x.below hb k.x.lt, k.y.below hb k.y.lt, hr, rd_keep k.e hb, k.lg, k.lh, k.gh⟩
theorem SM.newE {A : Option Addr} {D' : List Nat} (k : SM w0 g h x y A0 A1 D E u) (hb : Below u.heap.size u u') (hr : Rd u' u'.heap.size A (dV D')) : SM w0 g h x y A0 A D D' u' :=
  ⟨k.bel.trans (hb.mono k.bel.size), k.x.below hb k.x.lt, k.y.below hb k.y.lt, rd_keep k.d hb, hr, k.lg, k.lh, k.gh⟩
end
theorem dgE_pos (x : E5) : 0 < (dgE x).length := by rw [dgE_length]; decide
theorem rint_zero (w : World) : Calls Try.prog 11 #[.int .i64 0] w (DigPost (dgE zE) w) := rint_nat 0 (by decide) w
theorem sub_z (x : E5) (hx : x.Ok) (u : World) : Calls Try.prog 28 #[.agg #[.int .u64 0, .int .u64 0, .int .u64 0, .int .u64 0, .int .u64 0], .agg (eV x)] u (ElemPost (subE zE x) u) := sub_c zE x u zE_ok hx
set_option maxRecDepth 100000 in
set_option maxHeartbeats 8000000 in
theorem sums_any (l m : List UInt8) (n : Int) (A B : Option Addr) (c d : Nat) (w : World) (hr : Rd w w.heap.size A (bytesV l)) (hs : Rd w w.heap.size B (bytesV m)) (hc : l.length ≤ c) (hd : m.length ≤ d) (hwf : (Lit.int .i64 n).wf = true) :
    Calls Try.prog 8 #[.slice A l.length c, .slice B m.length d, .int .i64 n] w (BoolPost true w) := by
  have hu := Try.underlying26
  obtain ⟨hn1, hn2⟩ : -9223372036854775808 ≤ n ∧ n < 9223372036854775808 := by
    rw [Lit.wf, Bool.and_eq_true, decide_eq_true_iff, decide_eq_true_iff, show IntKind.i64.min = -9223372036854775808 by decide, show IntKind.i64.max = 9223372036854775807 by decide] at hwf
    omega
  obtain ⟨p, hp⟩ : ∃ p, p = l.length := ⟨_, rfl⟩
  obtain ⟨q, hq⟩ : ∃ q, q = m.length := ⟨_, rfl⟩
  have c1 : ∀ u, Below w.heap.size w u → Calls Try.prog 19 #[.slice A p c] u (OfPost l u) := fun u hu => by
    rw [hp]; exact of_any l A c u ((hr.below hu).mono hu.size) hc
  have c2 : ∀ u, Below w.heap.size w u → Calls Try.prog 19 #[.slice B q d] u (OfPost m u) := fun u hu => by
    rw [hq]; exact of_any m B d u ((hs.below hu).mono hu.size) hd
  rw [← hp, ← hq]
  obtain ⟨X, hX⟩ : ∃ X, X = ofE l := ⟨_, rfl⟩
  obtain ⟨Y, hY⟩ : ∃ X, X = ofE m := ⟨_, rfl⟩
  have hDX : padD l = dgE X := by rw [hX, ofE_dig]
  have hDY : padD m = dgE Y := by rw [hY, ofE_dig]
  have okX : X.Ok := by rw [hX]; exact ofE_ok l
  have okY : Y.Ok := by rw [hY]; exact ofE_ok m
  have C1 := Lib.hid c1
  have C2 := Lib.hid c2
  have EX := Lib.hid hX
  have EY := Lib.hid hY
  have DX := Lib.hid hDX
  have DY := Lib.hid hDY
  have KX := Lib.hid okX
  have KY := Lib.hid okY
  clear hr hs hc hd hp hq c1 c2 hX hY hDX hDY okX okY hwf
  by_cases ht2 : n.tmod 2 = 0 <;> by_cases ht3 : n.tmod 3 = 0
  · go_enter Try.func8, Try.ntmps8
    go_wp2_with fail
    refine calls_then (C1.out _ (Below.refl _ _)) ?_
    rintro e w1 ⟨v1, rfl, ⟨A0, c0, rfl, hc0, hr0⟩, hb1⟩
    rw [← EX.out]
    rw [DX.out] at hr0
    have HB1 := Lib.hid hb1
    have HR1 := Lib.hid hr0
    have HC0 := Lib.hid hc0
    clear hr0 hb1 hc0
    go_wp2_with (refine wpList_put_box (x := .tmp 7) (cells := eV X) (Blk.new _ _ _) rfl rfl rfl rfl elem_size rfl (by simp [eV, wV, limbs, Value.oneCell']) ?_; intro w2 hb2 hw2; have hk2 := box_low hw2; have HX2 := Lib.hid hb2; have HB2 := Lib.hid (HB1.out.trans (hk2.mono HB1.out.size)); have HR2 := Lib.hid (rd_keep HR1.out hk2); clear hb2 hw2 hk2 HR1)
    refine calls_then (C2.out _ HB2.out) ?_
    rintro e w3 ⟨v3, rfl, ⟨A1, c1, rfl, hc1, hr3⟩, hb3⟩
    rw [← EY.out]
    rw [DY.out] at hr3
    have HB3 := Lib.hid (HB2.out.trans (hb3.mono HB2.out.size))
    have HX3 := Lib.hid (HX2.out.below hb3 HX2.out.lt)
    have HR3 := Lib.hid (rd_keep HR2.out hb3)
    have HC1 := Lib.hid hc1
    have HE3 := Lib.hid hr3
    have HLG := Lib.hid HB1.out.size
    have HLH := Lib.hid HB3.out.size
    have HGH := Lib.hid (show w1.heap.size ≠ w3.heap.size from Nat.ne_of_lt HX3.out.lt)
    clear hb3 hc1 hr3 HB2 HX2 HR2 HB1
    go_wp2_with (first
      | (refine wpList_put_box (x := .tmp 9) (cells := eV Y) (Blk.new _ _ _) rfl rfl rfl rfl elem_size rfl (by simp [eV, wV, limbs, Value.oneCell']) ?_; intro w4 hb4 hw4; have hk4 := box_low hw4; have HST0 := Lib.hid (SM.mk (HB3.out.trans (hk4.mono HB3.out.size)) (HX3.out.below hk4 HX3.out.lt) hb4 (rd_keep HR3.out hk4) (rd_keep HE3.out hk4) HLG.out HLH.out HGH.out); clear hb4 hw4 hk4 HB3 HX3 HR3 HE3 HLG HLH HGH)
      | (refine wpList_get_box (x := .tmp 7) HST0.out.x rfl rfl rfl hu rfl elem_size ?_)
      | (refine wpList_get_box (x := .tmp 9) HST0.out.y rfl rfl rfl hu rfl elem_size ?_))
    refine calls_then (add_c X Y _ KX.out KY.out) ?_
    rintro e t1 ⟨rfl, hb⟩
    generalize w1.heap.size = g at *
    generalize w3.heap.size = h at *
    have HT1 := Lib.hid (HST0.out.next hb)
    have HCALL := Lib.hid (sum_add (c := c0) (d := c1) HT1.out.d HT1.out.e)
    clear hb HST0
    go_wp2_with fail
    refine calls_then HCALL.out ?_
    rintro e t2 ⟨As, cs, rfl, hcs, hrs, hb⟩
    rw [dgE_length] at hcs
    rw [dgE_length]
    have HT2 := Lib.hid (HT1.out.next hb)
    have HLK := Lib.hid (sum_like (add_ok KX.out KY.out) hrs hcs)
    clear hb hcs hrs HT1 HCALL
    go_wp2_with fail
    refine calls_then HLK.out ?_
    rintro e t3 ⟨rfl, hb⟩
    have HT3 := Lib.hid (HT2.out.next hb)
    clear hb HT2 HLK
    go_wp2_with (first
      | (refine wpList_get_box (x := .tmp 7) HT3.out.x rfl rfl rfl hu rfl elem_size ?_)
      | (refine wpList_get_box (x := .tmp 9) HT3.out.y rfl rfl rfl hu rfl elem_size ?_))
    refine calls_then (sub_c X Y _ KX.out KY.out) ?_
    rintro e t4 ⟨rfl, hb⟩
    have HT4 := Lib.hid (HT3.out.next hb)
    have HCALL := Lib.hid (sum_sub (c := c0) (d := c1) KY.out HT4.out.d HT4.out.e)
    clear hb HT3
    go_wp2_with fail
    refine calls_then HCALL.out ?_
    rintro e t5 ⟨As, cs, rfl, hcs, hrs, hb⟩
    rw [dgE_length] at hcs
    rw [dgE_length]
    have HT5 := Lib.hid (HT4.out.next hb)
    have HLK := Lib.hid (sum_like (sub_ok KX.out KY.out) hrs hcs)
    clear hb hcs hrs HT4 HCALL
    go_wp2_with fail
    refine calls_then HLK.out ?_
    rintro e t6 ⟨rfl, hb⟩
    have HT6 := Lib.hid (HT5.out.next hb)
    clear hb HT5 HLK
    go_wp2_with (first
      | (refine wpList_get_box (x := .tmp 7) HT6.out.x rfl rfl rfl hu rfl elem_size ?_)
      | (refine wpList_get_box (x := .tmp 9) HT6.out.y rfl rfl rfl hu rfl elem_size ?_))
    refine calls_then (mul_c X Y _ KX.out KY.out) ?_
    rintro e t7 ⟨rfl, hb⟩
    have HT7 := Lib.hid (HT6.out.next hb)
    have HCALL := Lib.hid (sum_mul (c := c0) (d := c1) HT7.out.d HT7.out.e)
    clear hb HT6
    go_wp2_with fail
    refine calls_then HCALL.out ?_
    rintro e t8 ⟨As, cs, rfl, hcs, hrs, hb⟩
    rw [dgE_length] at hcs
    rw [dgE_length]
    have HT8 := Lib.hid (HT7.out.next hb)
    have HLK := Lib.hid (sum_like (mul_ok KX.out KY.out) hrs hcs)
    clear hb hcs hrs HT7 HCALL
    go_wp2_with fail
    refine calls_then HLK.out ?_
    rintro e t9 ⟨rfl, hb⟩
    have HT9 := Lib.hid (HT8.out.next hb)
    clear hb HT8 HLK
    obtain ⟨ad, hA, hcell⟩ := dig_cell HT9.out.d (dgE_pos _)
    subst hA
    rw [Addr.add_zero'] at hcell
    have hpar := dgE_head X
    have hx0l := dg_getD (dgE_dg X) 0
    generalize (dgE X).getD 0 0 = x0 at *
    have hx0b : (x0 : Int) < 256 := by omega
    have HSAME := Lib.hid (sum_same (c := c0) (d := c1) KX.out KY.out HT9.out.d HT9.out.e HC0.out HC1.out)
    have HEQL := Lib.hid (fun u => equal_c X Y u KX.out KY.out)
    generalize eqB X Y = sb at *
    have hodd := fun u => odd_c X KX.out u
    rw [← hpar] at hodd
    clear hpar hx0l
    by_cases h1 : x0 % 2 = 1
    · have hpi : (x0 : Int) % 2 = 1 := by omega
      have hod2 : ∀ u, Calls Try.prog 33 #[.agg (eV X)] u (BoolPost true u) := fun u => by
        have h := hodd u
        rw [show decide (x0 % 2 = 1) = true from decide_eq_true h1] at h
        exact h
      have HODD := Lib.hid hod2
      clear hodd hod2 h1
      go_wp2_with fail
      refine calls_then HSAME.out ?_
      rintro e t10 ⟨rfl, hb⟩
      have HT10 := Lib.hid (HT9.out.next hb)
      clear hb HT9 HSAME
      go_wp2_with (first
        | (refine wpList_get_boxg (x := .tmp 7) HT10.out.x rfl rfl rfl hu rfl elem_size ?_)
        | (refine wpList_get_boxg (x := .tmp 9) HT10.out.y rfl rfl rfl hu rfl elem_size ?_))
      refine calls_then (HODD.out _) ?_
      rintro e t11 ⟨rfl, hb⟩
      have HT11 := Lib.hid (HT10.out.next hb)
      clear hb HT10
      go_wp2_with (first
        | (refine wpList_get_boxg (x := .tmp 7) HT11.out.x rfl rfl rfl hu rfl elem_size ?_)
        | (refine wpList_get_boxg (x := .tmp 9) HT11.out.y rfl rfl rfl hu rfl elem_size ?_))
      refine calls_then (HEQL.out _) ?_
      rintro e t12 ⟨rfl, hb⟩
      have HT12 := Lib.hid (HT11.out.next hb)
      clear hb HT11
      go_wp2_with fail
      refine calls_then (lives_any _) ?_
      rintro e t13 ⟨rfl, hb⟩
      have HT13 := Lib.hid (HT12.out.next hb)
      clear hb HT12
      go_wp2_with fail
      go_ret
      exact ⟨rfl, HT13.out.bel⟩
    · have hpi : (x0 : Int) % 2 = 0 := by omega
      have hod2 : ∀ u, Calls Try.prog 33 #[.agg (eV X)] u (BoolPost false u) := fun u => by
        have h := hodd u
        rw [show decide (x0 % 2 = 1) = false from decide_eq_false h1] at h
        exact h
      have HODD := Lib.hid hod2
      clear hodd hod2 h1
      go_wp2_with fail
      refine calls_then HSAME.out ?_
      rintro e t10 ⟨rfl, hb⟩
      have HT10 := Lib.hid (HT9.out.next hb)
      clear hb HT9 HSAME
      go_wp2_with (first
        | (refine wpList_get_boxg (x := .tmp 7) HT10.out.x rfl rfl rfl hu rfl elem_size ?_)
        | (refine wpList_get_boxg (x := .tmp 9) HT10.out.y rfl rfl rfl hu rfl elem_size ?_))
      refine calls_then (HODD.out _) ?_
      rintro e t11 ⟨rfl, hb⟩
      have HT11 := Lib.hid (HT10.out.next hb)
      clear hb HT10
      go_wp2_with (first
        | (refine wpList_get_boxg (x := .tmp 7) HT11.out.x rfl rfl rfl hu rfl elem_size ?_)
        | (refine wpList_get_boxg (x := .tmp 9) HT11.out.y rfl rfl rfl hu rfl elem_size ?_))
      refine calls_then (HEQL.out _) ?_
      rintro e t12 ⟨rfl, hb⟩
      have HT12 := Lib.hid (HT11.out.next hb)
      clear hb HT11
      go_wp2_with fail
      refine calls_then (lives_any _) ?_
      rintro e t13 ⟨rfl, hb⟩
      have HT13 := Lib.hid (HT12.out.next hb)
      clear hb HT12
      go_wp2_with fail
      go_ret
      exact ⟨rfl, HT13.out.bel⟩
  · go_enter Try.func8, Try.ntmps8
    go_wp2_with fail
    refine calls_then (C1.out _ (Below.refl _ _)) ?_
    rintro e w1 ⟨v1, rfl, ⟨A0, c0, rfl, hc0, hr0⟩, hb1⟩
    rw [← EX.out]
    rw [DX.out] at hr0
    have HB1 := Lib.hid hb1
    have HR1 := Lib.hid hr0
    have HC0 := Lib.hid hc0
    clear hr0 hb1 hc0
    go_wp2_with (refine wpList_put_box (x := .tmp 7) (cells := eV X) (Blk.new _ _ _) rfl rfl rfl rfl elem_size rfl (by simp [eV, wV, limbs, Value.oneCell']) ?_; intro w2 hb2 hw2; have hk2 := box_low hw2; have HX2 := Lib.hid hb2; have HB2 := Lib.hid (HB1.out.trans (hk2.mono HB1.out.size)); have HR2 := Lib.hid (rd_keep HR1.out hk2); clear hb2 hw2 hk2 HR1)
    refine calls_then (C2.out _ HB2.out) ?_
    rintro e w3 ⟨v3, rfl, ⟨A1, c1, rfl, hc1, hr3⟩, hb3⟩
    rw [← EY.out]
    rw [DY.out] at hr3
    have HB3 := Lib.hid (HB2.out.trans (hb3.mono HB2.out.size))
    have HX3 := Lib.hid (HX2.out.below hb3 HX2.out.lt)
    have HR3 := Lib.hid (rd_keep HR2.out hb3)
    have HC1 := Lib.hid hc1
    have HE3 := Lib.hid hr3
    have HLG := Lib.hid HB1.out.size
    have HLH := Lib.hid HB3.out.size
    have HGH := Lib.hid (show w1.heap.size ≠ w3.heap.size from Nat.ne_of_lt HX3.out.lt)
    clear hb3 hc1 hr3 HB2 HX2 HR2 HB1
    go_wp2_with (first
      | (refine wpList_put_box (x := .tmp 9) (cells := eV Y) (Blk.new _ _ _) rfl rfl rfl rfl elem_size rfl (by simp [eV, wV, limbs, Value.oneCell']) ?_; intro w4 hb4 hw4; have hk4 := box_low hw4; have HST0 := Lib.hid (SM.mk (HB3.out.trans (hk4.mono HB3.out.size)) (HX3.out.below hk4 HX3.out.lt) hb4 (rd_keep HR3.out hk4) (rd_keep HE3.out hk4) HLG.out HLH.out HGH.out); clear hb4 hw4 hk4 HB3 HX3 HR3 HE3 HLG HLH HGH)
      | (refine wpList_get_box (x := .tmp 7) HST0.out.x rfl rfl rfl hu rfl elem_size ?_)
      | (refine wpList_get_box (x := .tmp 9) HST0.out.y rfl rfl rfl hu rfl elem_size ?_))
    refine calls_then (sub_z Y KY.out _) ?_
    rintro e aY1 ⟨rfl, hb⟩
    generalize w1.heap.size = g at *
    generalize w3.heap.size = h at *
    have HSa := Lib.hid (HST0.out.next hb)
    clear hb HST0
    obtain ⟨Y2, hY2⟩ : ∃ Z, Z = subE zE Y := ⟨_, rfl⟩
    rw [← hY2]
    have KY2 := Lib.hid (show Y2.Ok by rw [hY2]; exact sub_ok zE_ok KY.out)
    have EY2 := Lib.hid hY2
    clear hY2
    go_wp2_with (refine wpList_put_box (x := .tmp 9) (cells := eV Y2) HSa.out.y rfl rfl rfl rfl elem_size rfl (by simp [eV, wV, limbs, Value.oneCell']) ?_; intro a2 hb2 hw2; have HSb := Lib.hid (HSa.out.putY (dgE_pos _) (dgE_pos _) hw2 hb2); clear hb2 hw2 HSa)
    refine calls_then (rint_zero _) ?_
    rintro e a3 ⟨Az, cz, rfl, hcz, hrz, hb⟩
    rw [dgE_length]
    have HSc := Lib.hid (HSb.out.next hb)
    have HCALL := Lib.hid (sum_sub (c := cz) (d := c1) KY.out hrz HSc.out.e)
    clear hb HSb hcz hrz
    go_wp2_with fail
    refine calls_then HCALL.out ?_
    rintro e a4 ⟨A3, c3, rfl, hcn, hrn, hb⟩
    rw [dgE_length] at hcn
    rw [← EY2.out] at hrn
    rw [dgE_length]
    have HST2 := Lib.hid (HSc.out.newE hb hrn)
    have HCY2 := Lib.hid hcn
    clear hb HSc HCALL hcn hrn
    go_wp2_with (first
      | (refine wpList_get_box (x := .tmp 7) HST2.out.x rfl rfl rfl hu rfl elem_size ?_)
      | (refine wpList_get_box (x := .tmp 9) HST2.out.y rfl rfl rfl hu rfl elem_size ?_))
    refine calls_then (add_c X Y2 _ KX.out KY2.out) ?_
    rintro e t1 ⟨rfl, hb⟩
    have HT1 := Lib.hid (HST2.out.next hb)
    have HCALL := Lib.hid (sum_add (c := c0) (d := c3) HT1.out.d HT1.out.e)
    clear hb HST2
    go_wp2_with fail
    refine calls_then HCALL.out ?_
    rintro e t2 ⟨As, cs, rfl, hcs, hrs, hb⟩
    rw [dgE_length] at hcs
    rw [dgE_length]
    have HT2 := Lib.hid (HT1.out.next hb)
    have HLK := Lib.hid (sum_like (add_ok KX.out KY2.out) hrs hcs)
    clear hb hcs hrs HT1 HCALL
    go_wp2_with fail
    refine calls_then HLK.out ?_
    rintro e t3 ⟨rfl, hb⟩
    have HT3 := Lib.hid (HT2.out.next hb)
    clear hb HT2 HLK
    go_wp2_with (first
      | (refine wpList_get_box (x := .tmp 7) HT3.out.x rfl rfl rfl hu rfl elem_size ?_)
      | (refine wpList_get_box (x := .tmp 9) HT3.out.y rfl rfl rfl hu rfl elem_size ?_))
    refine calls_then (sub_c X Y2 _ KX.out KY2.out) ?_
    rintro e t4 ⟨rfl, hb⟩
    have HT4 := Lib.hid (HT3.out.next hb)
    have HCALL := Lib.hid (sum_sub (c := c0) (d := c3) KY2.out HT4.out.d HT4.out.e)
    clear hb HT3
    go_wp2_with fail
    refine calls_then HCALL.out ?_
    rintro e t5 ⟨As, cs, rfl, hcs, hrs, hb⟩
    rw [dgE_length] at hcs
    rw [dgE_length]
    have HT5 := Lib.hid (HT4.out.next hb)
    have HLK := Lib.hid (sum_like (sub_ok KX.out KY2.out) hrs hcs)
    clear hb hcs hrs HT4 HCALL
    go_wp2_with fail
    refine calls_then HLK.out ?_
    rintro e t6 ⟨rfl, hb⟩
    have HT6 := Lib.hid (HT5.out.next hb)
    clear hb HT5 HLK
    go_wp2_with (first
      | (refine wpList_get_box (x := .tmp 7) HT6.out.x rfl rfl rfl hu rfl elem_size ?_)
      | (refine wpList_get_box (x := .tmp 9) HT6.out.y rfl rfl rfl hu rfl elem_size ?_))
    refine calls_then (mul_c X Y2 _ KX.out KY2.out) ?_
    rintro e t7 ⟨rfl, hb⟩
    have HT7 := Lib.hid (HT6.out.next hb)
    have HCALL := Lib.hid (sum_mul (c := c0) (d := c3) HT7.out.d HT7.out.e)
    clear hb HT6
    go_wp2_with fail
    refine calls_then HCALL.out ?_
    rintro e t8 ⟨As, cs, rfl, hcs, hrs, hb⟩
    rw [dgE_length] at hcs
    rw [dgE_length]
    have HT8 := Lib.hid (HT7.out.next hb)
    have HLK := Lib.hid (sum_like (mul_ok KX.out KY2.out) hrs hcs)
    clear hb hcs hrs HT7 HCALL
    go_wp2_with fail
    refine calls_then HLK.out ?_
    rintro e t9 ⟨rfl, hb⟩
    have HT9 := Lib.hid (HT8.out.next hb)
    clear hb HT8 HLK
    obtain ⟨ad, hA, hcell⟩ := dig_cell HT9.out.d (dgE_pos _)
    subst hA
    rw [Addr.add_zero'] at hcell
    have hpar := dgE_head X
    have hx0l := dg_getD (dgE_dg X) 0
    generalize (dgE X).getD 0 0 = x0 at *
    have hx0b : (x0 : Int) < 256 := by omega
    have HSAME := Lib.hid (sum_same (c := c0) (d := c3) KX.out KY2.out HT9.out.d HT9.out.e HC0.out HCY2.out)
    have HEQL := Lib.hid (fun u => equal_c X Y2 u KX.out KY2.out)
    generalize eqB X Y2 = sb at *
    have hodd := fun u => odd_c X KX.out u
    rw [← hpar] at hodd
    clear hpar hx0l
    by_cases h1 : x0 % 2 = 1
    · have hpi : (x0 : Int) % 2 = 1 := by omega
      have hod2 : ∀ u, Calls Try.prog 33 #[.agg (eV X)] u (BoolPost true u) := fun u => by
        have h := hodd u
        rw [show decide (x0 % 2 = 1) = true from decide_eq_true h1] at h
        exact h
      have HODD := Lib.hid hod2
      clear hodd hod2 h1
      go_wp2_with fail
      refine calls_then HSAME.out ?_
      rintro e t10 ⟨rfl, hb⟩
      have HT10 := Lib.hid (HT9.out.next hb)
      clear hb HT9 HSAME
      go_wp2_with (first
        | (refine wpList_get_boxg (x := .tmp 7) HT10.out.x rfl rfl rfl hu rfl elem_size ?_)
        | (refine wpList_get_boxg (x := .tmp 9) HT10.out.y rfl rfl rfl hu rfl elem_size ?_))
      refine calls_then (HODD.out _) ?_
      rintro e t11 ⟨rfl, hb⟩
      have HT11 := Lib.hid (HT10.out.next hb)
      clear hb HT10
      go_wp2_with (first
        | (refine wpList_get_boxg (x := .tmp 7) HT11.out.x rfl rfl rfl hu rfl elem_size ?_)
        | (refine wpList_get_boxg (x := .tmp 9) HT11.out.y rfl rfl rfl hu rfl elem_size ?_))
      refine calls_then (HEQL.out _) ?_
      rintro e t12 ⟨rfl, hb⟩
      have HT12 := Lib.hid (HT11.out.next hb)
      clear hb HT11
      go_wp2_with fail
      refine calls_then (lives_any _) ?_
      rintro e t13 ⟨rfl, hb⟩
      have HT13 := Lib.hid (HT12.out.next hb)
      clear hb HT12
      go_wp2_with fail
      go_ret
      exact ⟨rfl, HT13.out.bel⟩
    · have hpi : (x0 : Int) % 2 = 0 := by omega
      have hod2 : ∀ u, Calls Try.prog 33 #[.agg (eV X)] u (BoolPost false u) := fun u => by
        have h := hodd u
        rw [show decide (x0 % 2 = 1) = false from decide_eq_false h1] at h
        exact h
      have HODD := Lib.hid hod2
      clear hodd hod2 h1
      go_wp2_with fail
      refine calls_then HSAME.out ?_
      rintro e t10 ⟨rfl, hb⟩
      have HT10 := Lib.hid (HT9.out.next hb)
      clear hb HT9 HSAME
      go_wp2_with (first
        | (refine wpList_get_boxg (x := .tmp 7) HT10.out.x rfl rfl rfl hu rfl elem_size ?_)
        | (refine wpList_get_boxg (x := .tmp 9) HT10.out.y rfl rfl rfl hu rfl elem_size ?_))
      refine calls_then (HODD.out _) ?_
      rintro e t11 ⟨rfl, hb⟩
      have HT11 := Lib.hid (HT10.out.next hb)
      clear hb HT10
      go_wp2_with (first
        | (refine wpList_get_boxg (x := .tmp 7) HT11.out.x rfl rfl rfl hu rfl elem_size ?_)
        | (refine wpList_get_boxg (x := .tmp 9) HT11.out.y rfl rfl rfl hu rfl elem_size ?_))
      refine calls_then (HEQL.out _) ?_
      rintro e t12 ⟨rfl, hb⟩
      have HT12 := Lib.hid (HT11.out.next hb)
      clear hb HT11
      go_wp2_with fail
      refine calls_then (lives_any _) ?_
      rintro e t13 ⟨rfl, hb⟩
      have HT13 := Lib.hid (HT12.out.next hb)
      clear hb HT12
      go_wp2_with fail
      go_ret
      exact ⟨rfl, HT13.out.bel⟩
  · go_enter Try.func8, Try.ntmps8
    go_wp2_with fail
    refine calls_then (C1.out _ (Below.refl _ _)) ?_
    rintro e w1 ⟨v1, rfl, ⟨A0, c0, rfl, hc0, hr0⟩, hb1⟩
    rw [← EX.out]
    rw [DX.out] at hr0
    have HB1 := Lib.hid hb1
    have HR1 := Lib.hid hr0
    have HC0 := Lib.hid hc0
    clear hr0 hb1 hc0
    go_wp2_with (refine wpList_put_box (x := .tmp 7) (cells := eV X) (Blk.new _ _ _) rfl rfl rfl rfl elem_size rfl (by simp [eV, wV, limbs, Value.oneCell']) ?_; intro w2 hb2 hw2; have hk2 := box_low hw2; have HX2 := Lib.hid hb2; have HB2 := Lib.hid (HB1.out.trans (hk2.mono HB1.out.size)); have HR2 := Lib.hid (rd_keep HR1.out hk2); clear hb2 hw2 hk2 HR1)
    refine calls_then (C2.out _ HB2.out) ?_
    rintro e w3 ⟨v3, rfl, ⟨A1, c1, rfl, hc1, hr3⟩, hb3⟩
    rw [← EY.out]
    rw [DY.out] at hr3
    have HB3 := Lib.hid (HB2.out.trans (hb3.mono HB2.out.size))
    have HX3 := Lib.hid (HX2.out.below hb3 HX2.out.lt)
    have HR3 := Lib.hid (rd_keep HR2.out hb3)
    have HC1 := Lib.hid hc1
    have HE3 := Lib.hid hr3
    have HLG := Lib.hid HB1.out.size
    have HLH := Lib.hid HB3.out.size
    have HGH := Lib.hid (show w1.heap.size ≠ w3.heap.size from Nat.ne_of_lt HX3.out.lt)
    clear hb3 hc1 hr3 HB2 HX2 HR2 HB1
    go_wp2_with (first
      | (refine wpList_put_box (x := .tmp 9) (cells := eV Y) (Blk.new _ _ _) rfl rfl rfl rfl elem_size rfl (by simp [eV, wV, limbs, Value.oneCell']) ?_; intro w4 hb4 hw4; have hk4 := box_low hw4; have HST0 := Lib.hid (SM.mk (HB3.out.trans (hk4.mono HB3.out.size)) (HX3.out.below hk4 HX3.out.lt) hb4 (rd_keep HR3.out hk4) (rd_keep HE3.out hk4) HLG.out HLH.out HGH.out); clear hb4 hw4 hk4 HB3 HX3 HR3 HE3 HLG HLH HGH)
      | (refine wpList_get_box (x := .tmp 7) HST0.out.x rfl rfl rfl hu rfl elem_size ?_)
      | (refine wpList_get_box (x := .tmp 9) HST0.out.y rfl rfl rfl hu rfl elem_size ?_))
    refine calls_then (sub_z X KX.out _) ?_
    rintro e aX1 ⟨rfl, hb⟩
    generalize w1.heap.size = g at *
    generalize w3.heap.size = h at *
    have HSa := Lib.hid (HST0.out.next hb)
    clear hb HST0
    obtain ⟨X2, hX2⟩ : ∃ Z, Z = subE zE X := ⟨_, rfl⟩
    rw [← hX2]
    have KX2 := Lib.hid (show X2.Ok by rw [hX2]; exact sub_ok zE_ok KX.out)
    have EX2 := Lib.hid hX2
    clear hX2
    go_wp2_with (refine wpList_put_box (x := .tmp 7) (cells := eV X2) HSa.out.x rfl rfl rfl rfl elem_size rfl (by simp [eV, wV, limbs, Value.oneCell']) ?_; intro a2 hb2 hw2; have HSb := Lib.hid (HSa.out.putX (dgE_pos _) (dgE_pos _) hw2 hb2); clear hb2 hw2 HSa)
    refine calls_then (rint_zero _) ?_
    rintro e a3 ⟨Az, cz, rfl, hcz, hrz, hb⟩
    rw [dgE_length]
    have HSc := Lib.hid (HSb.out.next hb)
    have HCALL := Lib.hid (sum_sub (c := cz) (d := c0) KX.out hrz HSc.out.d)
    clear hb HSb hcz hrz
    go_wp2_with fail
    refine calls_then HCALL.out ?_
    rintro e a4 ⟨A2, c2, rfl, hcn, hrn, hb⟩
    rw [dgE_length] at hcn
    rw [← EX2.out] at hrn
    rw [dgE_length]
    have HST1 := Lib.hid (HSc.out.newD hb hrn)
    have HCX2 := Lib.hid hcn
    clear hb HSc HCALL hcn hrn
    go_wp2_with (first
      | (refine wpList_get_box (x := .tmp 7) HST1.out.x rfl rfl rfl hu rfl elem_size ?_)
      | (refine wpList_get_box (x := .tmp 9) HST1.out.y rfl rfl rfl hu rfl elem_size ?_))
    refine calls_then (add_c X2 Y _ KX2.out KY.out) ?_
    rintro e t1 ⟨rfl, hb⟩
    have HT1 := Lib.hid (HST1.out.next hb)
    have HCALL := Lib.hid (sum_add (c := c2) (d := c1) HT1.out.d HT1.out.e)
    clear hb HST1
    go_wp2_with fail
    refine calls_then HCALL.out ?_
    rintro e t2 ⟨As, cs, rfl, hcs, hrs, hb⟩
    rw [dgE_length] at hcs
    rw [dgE_length]
    have HT2 := Lib.hid (HT1.out.next hb)
    have HLK := Lib.hid (sum_like (add_ok KX2.out KY.out) hrs hcs)
    clear hb hcs hrs HT1 HCALL
    go_wp2_with fail
    refine calls_then HLK.out ?_
    rintro e t3 ⟨rfl, hb⟩
    have HT3 := Lib.hid (HT2.out.next hb)
    clear hb HT2 HLK
    go_wp2_with (first
      | (refine wpList_get_box (x := .tmp 7) HT3.out.x rfl rfl rfl hu rfl elem_size ?_)
      | (refine wpList_get_box (x := .tmp 9) HT3.out.y rfl rfl rfl hu rfl elem_size ?_))
    refine calls_then (sub_c X2 Y _ KX2.out KY.out) ?_
    rintro e t4 ⟨rfl, hb⟩
    have HT4 := Lib.hid (HT3.out.next hb)
    have HCALL := Lib.hid (sum_sub (c := c2) (d := c1) KY.out HT4.out.d HT4.out.e)
    clear hb HT3
    go_wp2_with fail
    refine calls_then HCALL.out ?_
    rintro e t5 ⟨As, cs, rfl, hcs, hrs, hb⟩
    rw [dgE_length] at hcs
    rw [dgE_length]
    have HT5 := Lib.hid (HT4.out.next hb)
    have HLK := Lib.hid (sum_like (sub_ok KX2.out KY.out) hrs hcs)
    clear hb hcs hrs HT4 HCALL
    go_wp2_with fail
    refine calls_then HLK.out ?_
    rintro e t6 ⟨rfl, hb⟩
    have HT6 := Lib.hid (HT5.out.next hb)
    clear hb HT5 HLK
    go_wp2_with (first
      | (refine wpList_get_box (x := .tmp 7) HT6.out.x rfl rfl rfl hu rfl elem_size ?_)
      | (refine wpList_get_box (x := .tmp 9) HT6.out.y rfl rfl rfl hu rfl elem_size ?_))
    refine calls_then (mul_c X2 Y _ KX2.out KY.out) ?_
    rintro e t7 ⟨rfl, hb⟩
    have HT7 := Lib.hid (HT6.out.next hb)
    have HCALL := Lib.hid (sum_mul (c := c2) (d := c1) HT7.out.d HT7.out.e)
    clear hb HT6
    go_wp2_with fail
    refine calls_then HCALL.out ?_
    rintro e t8 ⟨As, cs, rfl, hcs, hrs, hb⟩
    rw [dgE_length] at hcs
    rw [dgE_length]
    have HT8 := Lib.hid (HT7.out.next hb)
    have HLK := Lib.hid (sum_like (mul_ok KX2.out KY.out) hrs hcs)
    clear hb hcs hrs HT7 HCALL
    go_wp2_with fail
    refine calls_then HLK.out ?_
    rintro e t9 ⟨rfl, hb⟩
    have HT9 := Lib.hid (HT8.out.next hb)
    clear hb HT8 HLK
    obtain ⟨ad, hA, hcell⟩ := dig_cell HT9.out.d (dgE_pos _)
    subst hA
    rw [Addr.add_zero'] at hcell
    have hpar := dgE_head X2
    have hx0l := dg_getD (dgE_dg X2) 0
    generalize (dgE X2).getD 0 0 = x0 at *
    have hx0b : (x0 : Int) < 256 := by omega
    have HSAME := Lib.hid (sum_same (c := c2) (d := c1) KX2.out KY.out HT9.out.d HT9.out.e HCX2.out HC1.out)
    have HEQL := Lib.hid (fun u => equal_c X2 Y u KX2.out KY.out)
    generalize eqB X2 Y = sb at *
    have hodd := fun u => odd_c X2 KX2.out u
    rw [← hpar] at hodd
    clear hpar hx0l
    by_cases h1 : x0 % 2 = 1
    · have hpi : (x0 : Int) % 2 = 1 := by omega
      have hod2 : ∀ u, Calls Try.prog 33 #[.agg (eV X2)] u (BoolPost true u) := fun u => by
        have h := hodd u
        rw [show decide (x0 % 2 = 1) = true from decide_eq_true h1] at h
        exact h
      have HODD := Lib.hid hod2
      clear hodd hod2 h1
      go_wp2_with fail
      refine calls_then HSAME.out ?_
      rintro e t10 ⟨rfl, hb⟩
      have HT10 := Lib.hid (HT9.out.next hb)
      clear hb HT9 HSAME
      go_wp2_with (first
        | (refine wpList_get_boxg (x := .tmp 7) HT10.out.x rfl rfl rfl hu rfl elem_size ?_)
        | (refine wpList_get_boxg (x := .tmp 9) HT10.out.y rfl rfl rfl hu rfl elem_size ?_))
      refine calls_then (HODD.out _) ?_
      rintro e t11 ⟨rfl, hb⟩
      have HT11 := Lib.hid (HT10.out.next hb)
      clear hb HT10
      go_wp2_with (first
        | (refine wpList_get_boxg (x := .tmp 7) HT11.out.x rfl rfl rfl hu rfl elem_size ?_)
        | (refine wpList_get_boxg (x := .tmp 9) HT11.out.y rfl rfl rfl hu rfl elem_size ?_))
      refine calls_then (HEQL.out _) ?_
      rintro e t12 ⟨rfl, hb⟩
      have HT12 := Lib.hid (HT11.out.next hb)
      clear hb HT11
      go_wp2_with fail
      refine calls_then (lives_any _) ?_
      rintro e t13 ⟨rfl, hb⟩
      have HT13 := Lib.hid (HT12.out.next hb)
      clear hb HT12
      go_wp2_with fail
      go_ret
      exact ⟨rfl, HT13.out.bel⟩
    · have hpi : (x0 : Int) % 2 = 0 := by omega
      have hod2 : ∀ u, Calls Try.prog 33 #[.agg (eV X2)] u (BoolPost false u) := fun u => by
        have h := hodd u
        rw [show decide (x0 % 2 = 1) = false from decide_eq_false h1] at h
        exact h
      have HODD := Lib.hid hod2
      clear hodd hod2 h1
      go_wp2_with fail
      refine calls_then HSAME.out ?_
      rintro e t10 ⟨rfl, hb⟩
      have HT10 := Lib.hid (HT9.out.next hb)
      clear hb HT9 HSAME
      go_wp2_with (first
        | (refine wpList_get_boxg (x := .tmp 7) HT10.out.x rfl rfl rfl hu rfl elem_size ?_)
        | (refine wpList_get_boxg (x := .tmp 9) HT10.out.y rfl rfl rfl hu rfl elem_size ?_))
      refine calls_then (HODD.out _) ?_
      rintro e t11 ⟨rfl, hb⟩
      have HT11 := Lib.hid (HT10.out.next hb)
      clear hb HT10
      go_wp2_with (first
        | (refine wpList_get_boxg (x := .tmp 7) HT11.out.x rfl rfl rfl hu rfl elem_size ?_)
        | (refine wpList_get_boxg (x := .tmp 9) HT11.out.y rfl rfl rfl hu rfl elem_size ?_))
      refine calls_then (HEQL.out _) ?_
      rintro e t12 ⟨rfl, hb⟩
      have HT12 := Lib.hid (HT11.out.next hb)
      clear hb HT11
      go_wp2_with fail
      refine calls_then (lives_any _) ?_
      rintro e t13 ⟨rfl, hb⟩
      have HT13 := Lib.hid (HT12.out.next hb)
      clear hb HT12
      go_wp2_with fail
      go_ret
      exact ⟨rfl, HT13.out.bel⟩
  · go_enter Try.func8, Try.ntmps8
    go_wp2_with fail
    refine calls_then (C1.out _ (Below.refl _ _)) ?_
    rintro e w1 ⟨v1, rfl, ⟨A0, c0, rfl, hc0, hr0⟩, hb1⟩
    rw [← EX.out]
    rw [DX.out] at hr0
    have HB1 := Lib.hid hb1
    have HR1 := Lib.hid hr0
    have HC0 := Lib.hid hc0
    clear hr0 hb1 hc0
    go_wp2_with (refine wpList_put_box (x := .tmp 7) (cells := eV X) (Blk.new _ _ _) rfl rfl rfl rfl elem_size rfl (by simp [eV, wV, limbs, Value.oneCell']) ?_; intro w2 hb2 hw2; have hk2 := box_low hw2; have HX2 := Lib.hid hb2; have HB2 := Lib.hid (HB1.out.trans (hk2.mono HB1.out.size)); have HR2 := Lib.hid (rd_keep HR1.out hk2); clear hb2 hw2 hk2 HR1)
    refine calls_then (C2.out _ HB2.out) ?_
    rintro e w3 ⟨v3, rfl, ⟨A1, c1, rfl, hc1, hr3⟩, hb3⟩
    rw [← EY.out]
    rw [DY.out] at hr3
    have HB3 := Lib.hid (HB2.out.trans (hb3.mono HB2.out.size))
    have HX3 := Lib.hid (HX2.out.below hb3 HX2.out.lt)
    have HR3 := Lib.hid (rd_keep HR2.out hb3)
    have HC1 := Lib.hid hc1
    have HE3 := Lib.hid hr3
    have HLG := Lib.hid HB1.out.size
    have HLH := Lib.hid HB3.out.size
    have HGH := Lib.hid (show w1.heap.size ≠ w3.heap.size from Nat.ne_of_lt HX3.out.lt)
    clear hb3 hc1 hr3 HB2 HX2 HR2 HB1
    go_wp2_with (first
      | (refine wpList_put_box (x := .tmp 9) (cells := eV Y) (Blk.new _ _ _) rfl rfl rfl rfl elem_size rfl (by simp [eV, wV, limbs, Value.oneCell']) ?_; intro w4 hb4 hw4; have hk4 := box_low hw4; have HST0 := Lib.hid (SM.mk (HB3.out.trans (hk4.mono HB3.out.size)) (HX3.out.below hk4 HX3.out.lt) hb4 (rd_keep HR3.out hk4) (rd_keep HE3.out hk4) HLG.out HLH.out HGH.out); clear hb4 hw4 hk4 HB3 HX3 HR3 HE3 HLG HLH HGH)
      | (refine wpList_get_box (x := .tmp 7) HST0.out.x rfl rfl rfl hu rfl elem_size ?_)
      | (refine wpList_get_box (x := .tmp 9) HST0.out.y rfl rfl rfl hu rfl elem_size ?_))
    refine calls_then (sub_z X KX.out _) ?_
    rintro e aX1 ⟨rfl, hb⟩
    generalize w1.heap.size = g at *
    generalize w3.heap.size = h at *
    have HSa := Lib.hid (HST0.out.next hb)
    clear hb HST0
    obtain ⟨X2, hX2⟩ : ∃ Z, Z = subE zE X := ⟨_, rfl⟩
    rw [← hX2]
    have KX2 := Lib.hid (show X2.Ok by rw [hX2]; exact sub_ok zE_ok KX.out)
    have EX2 := Lib.hid hX2
    clear hX2
    go_wp2_with (refine wpList_put_box (x := .tmp 7) (cells := eV X2) HSa.out.x rfl rfl rfl rfl elem_size rfl (by simp [eV, wV, limbs, Value.oneCell']) ?_; intro a2 hb2 hw2; have HSb := Lib.hid (HSa.out.putX (dgE_pos _) (dgE_pos _) hw2 hb2); clear hb2 hw2 HSa)
    refine calls_then (rint_zero _) ?_
    rintro e a3 ⟨Az, cz, rfl, hcz, hrz, hb⟩
    rw [dgE_length]
    have HSc := Lib.hid (HSb.out.next hb)
    have HCALL := Lib.hid (sum_sub (c := cz) (d := c0) KX.out hrz HSc.out.d)
    clear hb HSb hcz hrz
    go_wp2_with fail
    refine calls_then HCALL.out ?_
    rintro e a4 ⟨A2, c2, rfl, hcn, hrn, hb⟩
    rw [dgE_length] at hcn
    rw [← EX2.out] at hrn
    rw [dgE_length]
    have HST1 := Lib.hid (HSc.out.newD hb hrn)
    have HCX2 := Lib.hid hcn
    clear hb HSc HCALL hcn hrn
    go_wp2_with (first
      | (refine wpList_get_box (x := .tmp 7) HST1.out.x rfl rfl rfl hu rfl elem_size ?_)
      | (refine wpList_get_box (x := .tmp 9) HST1.out.y rfl rfl rfl hu rfl elem_size ?_))
    refine calls_then (sub_z Y KY.out _) ?_
    rintro e aY1 ⟨rfl, hb⟩
    have HSa := Lib.hid (HST1.out.next hb)
    clear hb HST1
    obtain ⟨Y2, hY2⟩ : ∃ Z, Z = subE zE Y := ⟨_, rfl⟩
    rw [← hY2]
    have KY2 := Lib.hid (show Y2.Ok by rw [hY2]; exact sub_ok zE_ok KY.out)
    have EY2 := Lib.hid hY2
    clear hY2
    go_wp2_with (refine wpList_put_box (x := .tmp 9) (cells := eV Y2) HSa.out.y rfl rfl rfl rfl elem_size rfl (by simp [eV, wV, limbs, Value.oneCell']) ?_; intro a2 hb2 hw2; have HSb := Lib.hid (HSa.out.putY (dgE_pos _) (dgE_pos _) hw2 hb2); clear hb2 hw2 HSa)
    refine calls_then (rint_zero _) ?_
    rintro e a3 ⟨Az, cz, rfl, hcz, hrz, hb⟩
    rw [dgE_length]
    have HSc := Lib.hid (HSb.out.next hb)
    have HCALL := Lib.hid (sum_sub (c := cz) (d := c1) KY.out hrz HSc.out.e)
    clear hb HSb hcz hrz
    go_wp2_with fail
    refine calls_then HCALL.out ?_
    rintro e a4 ⟨A3, c3, rfl, hcn, hrn, hb⟩
    rw [dgE_length] at hcn
    rw [← EY2.out] at hrn
    rw [dgE_length]
    have HST2 := Lib.hid (HSc.out.newE hb hrn)
    have HCY2 := Lib.hid hcn
    clear hb HSc HCALL hcn hrn
    go_wp2_with (first
      | (refine wpList_get_box (x := .tmp 7) HST2.out.x rfl rfl rfl hu rfl elem_size ?_)
      | (refine wpList_get_box (x := .tmp 9) HST2.out.y rfl rfl rfl hu rfl elem_size ?_))
    refine calls_then (add_c X2 Y2 _ KX2.out KY2.out) ?_
    rintro e t1 ⟨rfl, hb⟩
    have HT1 := Lib.hid (HST2.out.next hb)
    have HCALL := Lib.hid (sum_add (c := c2) (d := c3) HT1.out.d HT1.out.e)
    clear hb HST2
    go_wp2_with fail
    refine calls_then HCALL.out ?_
    rintro e t2 ⟨As, cs, rfl, hcs, hrs, hb⟩
    rw [dgE_length] at hcs
    rw [dgE_length]
    have HT2 := Lib.hid (HT1.out.next hb)
    have HLK := Lib.hid (sum_like (add_ok KX2.out KY2.out) hrs hcs)
    clear hb hcs hrs HT1 HCALL
    go_wp2_with fail
    refine calls_then HLK.out ?_
    rintro e t3 ⟨rfl, hb⟩
    have HT3 := Lib.hid (HT2.out.next hb)
    clear hb HT2 HLK
    go_wp2_with (first
      | (refine wpList_get_box (x := .tmp 7) HT3.out.x rfl rfl rfl hu rfl elem_size ?_)
      | (refine wpList_get_box (x := .tmp 9) HT3.out.y rfl rfl rfl hu rfl elem_size ?_))
    refine calls_then (sub_c X2 Y2 _ KX2.out KY2.out) ?_
    rintro e t4 ⟨rfl, hb⟩
    have HT4 := Lib.hid (HT3.out.next hb)
    have HCALL := Lib.hid (sum_sub (c := c2) (d := c3) KY2.out HT4.out.d HT4.out.e)
    clear hb HT3
    go_wp2_with fail
    refine calls_then HCALL.out ?_
    rintro e t5 ⟨As, cs, rfl, hcs, hrs, hb⟩
    rw [dgE_length] at hcs
    rw [dgE_length]
    have HT5 := Lib.hid (HT4.out.next hb)
    have HLK := Lib.hid (sum_like (sub_ok KX2.out KY2.out) hrs hcs)
    clear hb hcs hrs HT4 HCALL
    go_wp2_with fail
    refine calls_then HLK.out ?_
    rintro e t6 ⟨rfl, hb⟩
    have HT6 := Lib.hid (HT5.out.next hb)
    clear hb HT5 HLK
    go_wp2_with (first
      | (refine wpList_get_box (x := .tmp 7) HT6.out.x rfl rfl rfl hu rfl elem_size ?_)
      | (refine wpList_get_box (x := .tmp 9) HT6.out.y rfl rfl rfl hu rfl elem_size ?_))
    refine calls_then (mul_c X2 Y2 _ KX2.out KY2.out) ?_
    rintro e t7 ⟨rfl, hb⟩
    have HT7 := Lib.hid (HT6.out.next hb)
    have HCALL := Lib.hid (sum_mul (c := c2) (d := c3) HT7.out.d HT7.out.e)
    clear hb HT6
    go_wp2_with fail
    refine calls_then HCALL.out ?_
    rintro e t8 ⟨As, cs, rfl, hcs, hrs, hb⟩
    rw [dgE_length] at hcs
    rw [dgE_length]
    have HT8 := Lib.hid (HT7.out.next hb)
    have HLK := Lib.hid (sum_like (mul_ok KX2.out KY2.out) hrs hcs)
    clear hb hcs hrs HT7 HCALL
    go_wp2_with fail
    refine calls_then HLK.out ?_
    rintro e t9 ⟨rfl, hb⟩
    have HT9 := Lib.hid (HT8.out.next hb)
    clear hb HT8 HLK
    obtain ⟨ad, hA, hcell⟩ := dig_cell HT9.out.d (dgE_pos _)
    subst hA
    rw [Addr.add_zero'] at hcell
    have hpar := dgE_head X2
    have hx0l := dg_getD (dgE_dg X2) 0
    generalize (dgE X2).getD 0 0 = x0 at *
    have hx0b : (x0 : Int) < 256 := by omega
    have HSAME := Lib.hid (sum_same (c := c2) (d := c3) KX2.out KY2.out HT9.out.d HT9.out.e HCX2.out HCY2.out)
    have HEQL := Lib.hid (fun u => equal_c X2 Y2 u KX2.out KY2.out)
    generalize eqB X2 Y2 = sb at *
    have hodd := fun u => odd_c X2 KX2.out u
    rw [← hpar] at hodd
    clear hpar hx0l
    by_cases h1 : x0 % 2 = 1
    · have hpi : (x0 : Int) % 2 = 1 := by omega
      have hod2 : ∀ u, Calls Try.prog 33 #[.agg (eV X2)] u (BoolPost true u) := fun u => by
        have h := hodd u
        rw [show decide (x0 % 2 = 1) = true from decide_eq_true h1] at h
        exact h
      have HODD := Lib.hid hod2
      clear hodd hod2 h1
      go_wp2_with fail
      refine calls_then HSAME.out ?_
      rintro e t10 ⟨rfl, hb⟩
      have HT10 := Lib.hid (HT9.out.next hb)
      clear hb HT9 HSAME
      go_wp2_with (first
        | (refine wpList_get_boxg (x := .tmp 7) HT10.out.x rfl rfl rfl hu rfl elem_size ?_)
        | (refine wpList_get_boxg (x := .tmp 9) HT10.out.y rfl rfl rfl hu rfl elem_size ?_))
      refine calls_then (HODD.out _) ?_
      rintro e t11 ⟨rfl, hb⟩
      have HT11 := Lib.hid (HT10.out.next hb)
      clear hb HT10
      go_wp2_with (first
        | (refine wpList_get_boxg (x := .tmp 7) HT11.out.x rfl rfl rfl hu rfl elem_size ?_)
        | (refine wpList_get_boxg (x := .tmp 9) HT11.out.y rfl rfl rfl hu rfl elem_size ?_))
      refine calls_then (HEQL.out _) ?_
      rintro e t12 ⟨rfl, hb⟩
      have HT12 := Lib.hid (HT11.out.next hb)
      clear hb HT11
      go_wp2_with fail
      refine calls_then (lives_any _) ?_
      rintro e t13 ⟨rfl, hb⟩
      have HT13 := Lib.hid (HT12.out.next hb)
      clear hb HT12
      go_wp2_with fail
      go_ret
      exact ⟨rfl, HT13.out.bel⟩
    · have hpi : (x0 : Int) % 2 = 0 := by omega
      have hod2 : ∀ u, Calls Try.prog 33 #[.agg (eV X2)] u (BoolPost false u) := fun u => by
        have h := hodd u
        rw [show decide (x0 % 2 = 1) = false from decide_eq_false h1] at h
        exact h
      have HODD := Lib.hid hod2
      clear hodd hod2 h1
      go_wp2_with fail
      refine calls_then HSAME.out ?_
      rintro e t10 ⟨rfl, hb⟩
      have HT10 := Lib.hid (HT9.out.next hb)
      clear hb HT9 HSAME
      go_wp2_with (first
        | (refine wpList_get_boxg (x := .tmp 7) HT10.out.x rfl rfl rfl hu rfl elem_size ?_)
        | (refine wpList_get_boxg (x := .tmp 9) HT10.out.y rfl rfl rfl hu rfl elem_size ?_))
      refine calls_then (HODD.out _) ?_
      rintro e t11 ⟨rfl, hb⟩
      have HT11 := Lib.hid (HT10.out.next hb)
      clear hb HT10
      go_wp2_with (first
        | (refine wpList_get_boxg (x := .tmp 7) HT11.out.x rfl rfl rfl hu rfl elem_size ?_)
        | (refine wpList_get_boxg (x := .tmp 9) HT11.out.y rfl rfl rfl hu rfl elem_size ?_))
      refine calls_then (HEQL.out _) ?_
      rintro e t12 ⟨rfl, hb⟩
      have HT12 := Lib.hid (HT11.out.next hb)
      clear hb HT11
      go_wp2_with fail
      refine calls_then (lives_any _) ?_
      rintro e t13 ⟨rfl, hb⟩
      have HT13 := Lib.hid (HT12.out.next hb)
      clear hb HT12
      go_wp2_with fail
      go_ret
      exact ⟨rfl, HT13.out.bel⟩
end Go.Proofs.Ytngecbnbddoldaa
