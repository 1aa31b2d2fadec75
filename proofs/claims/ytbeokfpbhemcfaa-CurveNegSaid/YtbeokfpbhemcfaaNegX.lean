/-
  Walk: the law CurveNeg.
-/
import Derived.Test.YtbeokfpbhemcfaaNegW
import Derived.Test.YtbeokfpbhemcfaaConv
namespace Go.Proofs.Ytbeokfpbhemcfaa
set_option linter.unusedSimpArgs false
set_option linter.unusedVariables false
open Go.RowKit

/-- the bytes of a slice, as a string -/
theorem conv_bytes {u : World} {A : Option Addr} {L : List Nat} (hd : Dg L) (hl : L.length = 32) (hr : Rd u u.heap.size A (bnV L)) (c : Nat) : (convert 22 9 (.slice A 32 c)).run Try.prog u = .ok (.string ⟨(toB L).toArray⟩) u := by
  have h := run_str_of (P := Try.prog) (B := u.heap.size) Try.underlying22 Try.underlying5 Try.underlying9 (A := A) (l := toB L) (by rw [toB_v hd]; exact hr) c
  rw [show (toB L).length = 32 by rw [toB, List.length_map, hl]] at h
  exact h
structure NM (w0 : World) (g a b : Nat) (p : Pt4) (x y : List Nat) (u : World) : Prop where
  bel : Below w0.heap.size w0 u
  p : Blk u g 28 (ptV p)
  a : Blk u a 5 (bnV x).toArray
  b : Blk u b 5 (bnV y).toArray
theorem NM.next {w0 u u' : World} {g a b : Nat} {p : Pt4} {x y : List Nat} (k : NM w0 g a b p x y u) (hb : Below u.heap.size u u') : NM w0 g a b p x y u' :=
  ⟨k.bel.trans (hb.mono k.bel.size), k.p.below hb k.p.lt, k.a.below hb k.a.lt, k.b.below hb k.b.lt⟩
theorem NM.drew {w0 u : World} {g a b : Nat} {p : Pt4} {x y : List Nat} (k : NM w0 g a b p x y u) : NM w0 g a b p x y u.drew := ⟨k.bel.drew, k.p, k.a, k.b⟩
set_option maxRecDepth 100000 in
set_option maxHeartbeats 2000000 in
theorem neg_any (l : List UInt8) (A : Option Addr) (c : Nat) (w : World) (hr : Rd w w.heap.size A (bytesV l)) (hc : l.length ≤ c) :
    Calls Try.prog 5 #[.slice A l.length c] w (BoolPost true w) := by
  have hp := Try.underlying28
  obtain ⟨B, hB⟩ : ∃ B, B = baseP := ⟨_, rfl⟩
  have okB : B.Ok := by rw [hB]; exact baseP_ok
  obtain ⟨L, hL⟩ : ∃ L, L = l.take 32 := ⟨_, rfl⟩
  obtain ⟨P, hP⟩ : ∃ P, P = mulP B L := ⟨_, rfl⟩
  have okP : P.Ok := by rw [hP]; exact mulP_ok okB _
  obtain ⟨Q, hQ⟩ : ∃ Q, Q = negP P := ⟨_, rfl⟩
  have okQ : Q.Ok := by rw [hQ]; exact negP_ok okP
  have hLl : L.length ≤ c := by rw [hL, List.length_take]; omega
  have hrL : Rd w w.heap.size A (bytesV L) := by rw [hL]; exact rd_takeB hr
  have CB := Lib.hid (show ∀ u, Calls Try.prog 10 #[] u (PtPost B u) from fun u => by rw [hB]; exact base_any u)
  have cf : ∀ u, Calls Try.prog 12 #[.slice A l.length c, .int .i64 32] u (fun e w' => e = .returned (.slice A L.length c) ∧ w' = u) := fun u => by
    rw [hL]; exact few_any l 32 (by decide) A c u (nil_len' hr) hc
  have CM := Lib.hid (show ∀ u, Below w.heap.size w u → Calls Try.prog 11 #[.agg (ptV B), .slice A L.length c] u (PtPost P u) from fun u hu => by rw [hP]; exact pmul_any B okB L A c u ((hrL.below hu).mono hu.size) hLl)
  have CP := Lib.hid (show ∀ u, Calls Try.prog 14 #[.agg (ptV P)] u (PbyPost P u) from fun u => pbytes_any P okP u)
  have CQ := Lib.hid (show ∀ u, Calls Try.prog 14 #[.agg (ptV Q)] u (PbyPost Q u) from fun u => pbytes_any Q okQ u)
  have CN := Lib.hid (show ∀ u, Calls Try.prog 23 #[.agg (ptV P)] u (PtPost Q u) from fun u => by rw [hQ]; exact pneg_any P u okP)
  obtain ⟨eb, heb⟩ : ∃ eb, eb = decide (axN P = 0) := ⟨_, rfl⟩
  have CE := Lib.hid (show ∀ u, Calls Try.prog 22 #[.agg (ptV P), .agg (ptV Q)] u (BoolPost eb u) from fun u => by
    have h := pequal_any P Q u okP okQ
    rw [hQ, eqP_neg okP, ← heb, ← hQ] at h
    exact h)
  obtain ⟨X, hX⟩ : ∃ X, X = bytP P := ⟨_, rfl⟩
  obtain ⟨Y, hY⟩ : ∃ Y, Y = bytP Q := ⟨_, rfl⟩
  have hXd : Dg X := by rw [hX]; exact bytP_dg P
  have hXl : X.length = 32 := by rw [hX]; exact bytP_length P
  have hYd : Dg Y := by rw [hY]; exact bytP_dg Q
  have hYl : Y.length = 32 := by rw [hY]; exact bytP_length Q
  have hsame : eb = true → Y = X := fun h => by
    rw [heb, decide_eq_true_iff] at h
    rw [hY, hX, hQ]; exact neg_same okP h
  have hflip : eb = false → X.set 31 (X.getD 31 0 ^^^ 128) = Y := fun h => by
    rw [heb, decide_eq_false_iff_not] at h
    rw [hY, hX, hQ]; exact neg_flip okP h
  have CF := Lib.hid cf
  have HX := Lib.hid hX
  have HY := Lib.hid hY
  have HXD := Lib.hid hXd
  have HXL := Lib.hid hXl
  have HYD := Lib.hid hYd
  have HYL := Lib.hid hYl
  have HSAME := Lib.hid hsame
  have HFLIP := Lib.hid hflip
  clear hB okB hL hP okP hQ okQ hLl hrL hr hc cf heb hX hY hXd hXl hYd hYl hsame hflip
  generalize l.length = n at *
  generalize L.length = m at *
  go_enter Try.func5, Try.ntmps5
  go_wp2_with fail
  refine calls_then (CB.out _) ?_
  rintro e w1 ⟨rfl, hb1⟩
  have HB1 := Lib.hid hb1
  clear hb1
  go_wp2_with fail
  refine calls_then (CF.out _) ?_
  rintro e w2 ⟨rfl, rfl⟩
  go_wp2_with fail
  refine calls_then (CM.out _ HB1.out) ?_
  rintro e w3 ⟨rfl, hb3⟩
  have HB3 := Lib.hid (HB1.out.trans (hb3.mono HB1.out.size))
  clear hb3 HB1
  go_wp2_with (first
    | (refine wpList_put_box (x := .tmp 3) (cells := ptV P) (Blk.new _ _ _) rfl rfl rfl rfl point_size rfl (by simp [ptV, wV, limbs, Value.oneCell']) ?_; intro w4 hb4 hw4; have hk4 := box_low hw4; have HP4 := Lib.hid hb4; have HB4 := Lib.hid (HB3.out.trans (hk4.mono HB3.out.size)); clear hb4 hw4 hk4 HB3)
    | (refine wpList_get_box (x := .tmp 3) HP4.out rfl rfl rfl hp rfl point_size ?_))
  refine calls_then (CP.out _) ?_
  rintro e w5 ⟨a, rfl, hla, hba, hb5⟩
  rw [← HX.out] at hba
  have HP5 := Lib.hid (HP4.out.below hb5 HP4.out.lt)
  have HB5 := Lib.hid (HB4.out.trans (hb5.mono HB4.out.size))
  have HLA := Lib.hid (Nat.le_trans HB4.out.size hla)
  have HGA := Lib.hid (show w3.heap.size < a from Nat.lt_of_lt_of_le HP4.out.lt hla)
  have HA5 := Lib.hid hba
  clear hb5 hla hba HP4 HB4
  generalize w3.heap.size = g at *
  go_wp2_with (refine wpList_get_box (x := .tmp 3) HP5.out rfl rfl rfl hp rfl point_size ?_)
  refine calls_then (CN.out _) ?_
  rintro e w6 ⟨rfl, hb6⟩
  have HP6 := Lib.hid (HP5.out.below hb6 HP5.out.lt)
  have HB6 := Lib.hid (HB5.out.trans (hb6.mono HB5.out.size))
  have HA6 := Lib.hid (HA5.out.below hb6 HA5.out.lt)
  clear hb6 HP5 HB5 HA5
  go_wp2_with fail
  refine calls_then (CQ.out _) ?_
  rintro e w7 ⟨b, rfl, hlb, hbb, hb7⟩
  rw [← HY.out] at hbb
  have HNE := Lib.hid (show b ≠ a from Nat.ne_of_gt (Nat.lt_of_lt_of_le HA6.out.lt hlb))
  have hst : NM w g a b P X Y w7 := ⟨HB6.out.trans (hb7.mono HB6.out.size), HP6.out.below hb7 HP6.out.lt, HA6.out.below hb7 HA6.out.lt, hbb⟩
  have HST := Lib.hid hst
  clear hb7 hlb hbb hst HP6 HB6 HA6
  go_wp2_with fail
  have HC0 := HST.out.drew
  clear HST
  refine wp_region_det (fun u => NM w g a b P X Y u) (fun u => NM w g a b P X Y u) [(0, some 23), (1, some 24), (2, some 25), (3, some 26)] (by kernel_rfl) (by kernel_rfl) (by decide) (by kernel_rfl) (fun _ => rfl) HC0 ?_
  apply DetL.next
  · -- 0: Op.load 28 (Operand.tmp 3)
    apply detStep_plain []
    exact fun _ => rfl
    rfl
    rintro vals - w1 hC1 E hE
    simp only [puts, act_put, act_put_none, List.setIfInBounds_toArray, List.set_cons_zero, List.set_cons_succ] at hE ⊢
    refine wpList_get_box hC1.p rfl rfl rfl hp rfl point_size ?_
    go_wp2_with fail
    exact .mk (hE _ hC1)
  apply DetL.next
  · -- 1: Op.load 28 (Operand.tmp 3)
    apply detStep_plain []
    exact fun _ => rfl
    rfl
    rintro vals ⟨-, -⟩ w1 hC1 E hE
    simp only [puts, act_put, act_put_none, List.setIfInBounds_toArray, List.set_cons_zero, List.set_cons_succ] at hE ⊢
    refine wpList_get_box hC1.p rfl rfl rfl hp rfl point_size ?_
    go_wp2_with fail
    exact .mk (hE _ hC1)
  apply DetL.next
  · -- 2: Op.call { callee := Callee.value (Operand.func 23), args := #[Operand.tmp 24], argTypes := #[28] }
    apply detStep_plain [(1, some 24)]
    exact fun _ => rfl
    rfl
    rintro vals ⟨⟨-, -⟩, f1⟩ w1 hC1 E hE
    simp only [puts, act_put, act_put_none, List.setIfInBounds_toArray, List.set_cons_zero, List.set_cons_succ, f1] at hE ⊢
    clear f1
    go_wp2_with fail
    refine calls_then (CN.out _) ?_
    rintro e w2 ⟨rfl, hb2⟩
    go_wp2_with fail
    exact .mk (hE _ (hC1.next hb2))
  apply DetL.last
  · -- 3: Op.call { callee := Callee.value (Operand.func 22), args := #[Operand.tmp 23, Operand.tmp 25], argTypes := #[2
    apply detStep_plain [(0, some 23), (2, some 25), (2, some 25)]
    exact fun _ => rfl
    rfl
    rintro vals ⟨⟨⟨-, f0⟩, -⟩, f2⟩ w1 hC1 E hE
    simp only [puts, act_put, act_put_none, List.setIfInBounds_toArray, List.set_cons_zero, List.set_cons_succ, f0, f2] at hE ⊢
    clear f0 f2
    go_wp2_with fail
    refine calls_then (CE.out _) ?_
    rintro e w2 ⟨rfl, hb2⟩
    go_wp2_with fail
    exact .mk (hE _ (hC1.next hb2))
  rintro vals ⟨⟨⟨⟨-, f0⟩, f1⟩, f2⟩, f3⟩ w1 hC1
  simp only [puts, act_put, act_put_none, List.setIfInBounds_toArray, List.set_cons_zero, List.set_cons_succ, f0, f1, f2, f3]
  clear f0 f1 f2 f3
  have HST := Lib.hid hC1
  clear hC1 HC0
  cases eb
  · have hfl := HFLIP.out rfl
    obtain ⟨x, hx⟩ : ∃ x, x = X.getD 31 0 := ⟨_, rfl⟩
    obtain ⟨y, hy⟩ : ∃ y, y = x ^^^ 128 := ⟨_, rfl⟩
    have hxl : x < 256 := by rw [hx]; exact dg_getD HXD.out 31
    have hxor := xor8 (a := x) (b := 128) hxl (by decide)
    rw [← hy] at hxor
    have hxor' : bits .xor .u8 (x : Int) 128 = (y : Int) := hxor
    have hcc := bnV_get (l := X) (k := 31) (by rw [HXL.out]; decide)
    rw [← hx] at hcc
    rw [← hx, ← hy] at hfl
    have d0 := HST.out.a.cell 31
    rw [hcc] at d0
    have q0 := HST.out.a.free 31
    have hx256 : (x : Int) < 256 := by omega
    obtain ⟨u9, hu9⟩ : ∃ u9, u9 = w1.setCell ⟨a, 31, none⟩ (.int .u8 (y : Int)) := ⟨_, rfl⟩
    have hw9 : Wrote a w1 u9 := by rw [hu9]; exact wrote_setCell_at _ _ _ _
    have ha9 : Blk u9 a 5 (bnV Y).toArray := by
      have h := blk_setCell_at (i := 31) HST.out.a (.int .u8 (y : Int))
      rw [bnV_set, hfl] at h
      rw [hu9]; exact h
    have hb9 : Blk u9 b 5 (bnV Y).toArray := hw9.blk HST.out.b HNE.out
    have cv1 := conv_bytes HYD.out HYL.out (Rd.of_blk ha9 ha9.lt) 32
    have cv2 := conv_bytes HYD.out HYL.out (Rd.of_blk hb9 hb9.lt) 32
    have HB9 := Lib.hid (hw9.below HST.out.bel HLA.out HST.out.bel.size)
    rw [hu9] at cv1 cv2 HB9
    clear hfl hx hy hxl hxor hcc hu9 hw9 ha9 hb9 HST
    go_wp2_with fail
    refine calls_then (clives_any _) ?_
    rintro e w9 ⟨rfl, hb9⟩
    have HB10 := Lib.hid (HB9.out.trans (hb9.mono HB9.out.size))
    clear hb9
    go_wp2_with fail
    go_ret
    exact ⟨rfl, HB10.out⟩
  · have hsm := HSAME.out rfl
    subst hsm
    have cv1 := conv_bytes HXD.out HXL.out (Rd.of_blk HST.out.a HST.out.a.lt) 32
    have cv2 := conv_bytes HXD.out HXL.out (Rd.of_blk HST.out.b HST.out.b.lt) 32
    go_wp2_with fail
    refine calls_then (clives_any _) ?_
    rintro e w9 ⟨rfl, hb9⟩
    have HB10 := Lib.hid (HST.out.bel.trans (hb9.mono HST.out.bel.size))
    clear hb9
    go_wp2_with fail
    go_ret
    exact ⟨rfl, HB10.out⟩
end Go.Proofs.Ytbeokfpbhemcfaa
