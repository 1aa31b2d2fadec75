/-
  PROVED: 'brevetlaw05.CurveAdds': at every input the law returns true; what came in reads as before.
-/
import Derived.Test.YtbeokfpbhemcfaaJ11
import Derived.Test.YtbeokfpbhemcfaaJ1
/-
  Walk: the law CurveAdds.
-/
namespace Go.Proofs.Ytbeokfpbhemcfaa
set_option linter.unusedSimpArgs false
set_option linter.unusedVariables false
open Go.RowKit

set_option maxRecDepth 100000 in
set_option maxHeartbeats 4000000 in
theorem adds_any (l m : List UInt8) (A B' : Option Addr) (c d : Nat) (w : World) (hr : Rd w w.heap.size A (bytesV l)) (hs : Rd w w.heap.size B' (bytesV m)) (hc : l.length ≤ c) (hd : m.length ≤ d) :
    Calls Try.prog 3 #[.slice A l.length c, .slice B' m.length d] w (BoolPost true w) := by
  have hp := Try.underlying28
  obtain ⟨B, hB⟩ : ∃ B, B = baseP := ⟨_, rfl⟩
  have okB : B.Ok := by rw [hB]; exact baseP_ok
  have isB : Is B baseF := by rw [hB]; exact is_base
  have CB := Lib.hid (show ∀ u, Calls Try.prog 10 #[] u (PtPost B u) from fun u => by rw [hB]; exact base_any u)
  clear hB
  obtain ⟨n1, hn1⟩ : ∃ x, x = l.length := ⟨_, rfl⟩
  obtain ⟨La, hLa⟩ : ∃ x, x = l.take 2 := ⟨_, rfl⟩
  have rLa : Rd w w.heap.size A (bytesV La) := by rw [hLa]; exact rd_takeB hr
  obtain ⟨p1, hp1⟩ : ∃ x, x = La.length := ⟨_, rfl⟩
  have lep1 : p1 ≤ c := by rw [hp1, hLa, List.length_take]; omega
  have FLa := Lib.hid (show ∀ u, Calls Try.prog 12 #[.slice A n1 c, .int .i64 2] u (fun e w' => e = .returned (.slice A p1 c) ∧ w' = u) from fun u => by
    rw [hp1, hLa, hn1]; exact few_any l 2 (by decide) A c u (nil_len' hr) hc)
  obtain ⟨P, hP⟩ : ∃ x, x = mulP B La := ⟨_, rfl⟩
  have okP : P.Ok := by rw [hP]; exact mulP_ok okB _
  have isP := Is.mul okB isB La
  rw [← hP] at isP
  have CP := Lib.hid (show ∀ u A c, p1 ≤ c → Rd u u.heap.size A (bytesV La) → Calls Try.prog 11 #[.agg (ptV B), .slice A p1 c] u (PtPost P u) from fun u A c hc hr => by rw [hP, hp1]; exact pmul_any B okB La A c u hr (by rw [← hp1]; exact hc))
  clear hP
  obtain ⟨PF, isP'⟩ : ∃ F, Is P F := ⟨_, isP⟩
  clear isP
  have isP := isP'
  clear isP'
  obtain ⟨n2, hn2⟩ : ∃ x, x = m.length := ⟨_, rfl⟩
  obtain ⟨Lb, hLb⟩ : ∃ x, x = m.take 2 := ⟨_, rfl⟩
  have rLb : Rd w w.heap.size B' (bytesV Lb) := by rw [hLb]; exact rd_takeB hs
  obtain ⟨p2, hp2⟩ : ∃ x, x = Lb.length := ⟨_, rfl⟩
  have lep2 : p2 ≤ d := by rw [hp2, hLb, List.length_take]; omega
  have FLb := Lib.hid (show ∀ u, Calls Try.prog 12 #[.slice B' n2 d, .int .i64 2] u (fun e w' => e = .returned (.slice B' p2 d) ∧ w' = u) from fun u => by
    rw [hp2, hLb, hn2]; exact few_any m 2 (by decide) B' d u (nil_len' hs) hd)
  obtain ⟨Q, hQ⟩ : ∃ x, x = mulP B Lb := ⟨_, rfl⟩
  have okQ : Q.Ok := by rw [hQ]; exact mulP_ok okB _
  have isQ := Is.mul okB isB Lb
  rw [← hQ] at isQ
  have CQ := Lib.hid (show ∀ u A c, p2 ≤ c → Rd u u.heap.size A (bytesV Lb) → Calls Try.prog 11 #[.agg (ptV B), .slice A p2 c] u (PtPost Q u) from fun u A c hc hr => by rw [hQ, hp2]; exact pmul_any B okB Lb A c u hr (by rw [← hp2]; exact hc))
  clear hQ
  obtain ⟨QF, isQ'⟩ : ∃ F, Is Q F := ⟨_, isQ⟩
  clear isQ
  have isQ := isQ'
  clear isQ'
  obtain ⟨S, hS⟩ : ∃ x, x = addP P Q := ⟨_, rfl⟩
  have okS : S.Ok := by rw [hS]; exact addP_ok okP okQ
  have isS := Is.add okP okQ isP isQ
  rw [← hS] at isS
  have CS := Lib.hid (show ∀ u, Calls Try.prog 16 #[.agg (ptV P), .agg (ptV Q)] u (PtPost S u) from fun u => by rw [hS]; exact padd_any P Q u okP okQ)
  clear hS
  obtain ⟨SF, hSF⟩ : ∃ F, F = plus PF QF := ⟨_, rfl⟩
  rw [← hSF] at isS
  obtain ⟨Mp, hMp⟩ : ∃ x, x = bytP P := ⟨_, rfl⟩
  have hFp : Mp = byF PF := by rw [hMp]; exact bytP_is okP isP
  have hdp : Dg Mp := by rw [hFp]; exact byP_dg PF.y.isLt
  have hlp : Mp.length = 32 := by rw [hFp]; exact byP_len _ _
  obtain ⟨Bp, hBp⟩ : ∃ b : List UInt8, digs b = Mp := ⟨toB Mp, digs_ofNat _ hdp⟩
  have hvp : bnV Mp = bytesV Bp := by rw [← hBp, bnV_digs]
  have lBp : Bp.length = 32 := by rw [← hlp, ← hBp, digs, List.length_map]
  have CYp := Lib.hid (show ∀ u, Calls Try.prog 14 #[.agg (ptV P)] u (ByPost Mp u) from fun u => by rw [hMp]; exact pby_by P okP u)
  have CSp := Lib.hid (show ∀ u A c, Rd u u.heap.size A (bnV Mp) → (convert 22 9 (.slice A 32 c)).run Try.prog u = .ok (.string ⟨(toB Mp).toArray⟩) u from fun u A c hr => conv_bn hdp hlp hr c)
  obtain ⟨Mq, hMq⟩ : ∃ x, x = bytP Q := ⟨_, rfl⟩
  have hFq : Mq = byF QF := by rw [hMq]; exact bytP_is okQ isQ
  have hdq : Dg Mq := by rw [hFq]; exact byP_dg QF.y.isLt
  have hlq : Mq.length = 32 := by rw [hFq]; exact byP_len _ _
  obtain ⟨Bq, hBq⟩ : ∃ b : List UInt8, digs b = Mq := ⟨toB Mq, digs_ofNat _ hdq⟩
  have hvq : bnV Mq = bytesV Bq := by rw [← hBq, bnV_digs]
  have lBq : Bq.length = 32 := by rw [← hlq, ← hBq, digs, List.length_map]
  have CYq := Lib.hid (show ∀ u, Calls Try.prog 14 #[.agg (ptV Q)] u (ByPost Mq u) from fun u => by rw [hMq]; exact pby_by Q okQ u)
  have CSq := Lib.hid (show ∀ u A c, Rd u u.heap.size A (bnV Mq) → (convert 22 9 (.slice A 32 c)).run Try.prog u = .ok (.string ⟨(toB Mq).toArray⟩) u from fun u A c hr => conv_bn hdq hlq hr c)
  obtain ⟨Ms, hMs⟩ : ∃ x, x = bytP S := ⟨_, rfl⟩
  have hFs : Ms = byF SF := by rw [hMs]; exact bytP_is okS isS
  have hds : Dg Ms := by rw [hFs]; exact byP_dg SF.y.isLt
  have hls : Ms.length = 32 := by rw [hFs]; exact byP_len _ _
  obtain ⟨Bs, hBs⟩ : ∃ b : List UInt8, digs b = Ms := ⟨toB Ms, digs_ofNat _ hds⟩
  have hvs : bnV Ms = bytesV Bs := by rw [← hBs, bnV_digs]
  have lBs : Bs.length = 32 := by rw [← hls, ← hBs, digs, List.length_map]
  have CYs := Lib.hid (show ∀ u, Calls Try.prog 14 #[.agg (ptV S)] u (ByPost Ms u) from fun u => by rw [hMs]; exact pby_by S okS u)
  have CSs := Lib.hid (show ∀ u A c, Rd u u.heap.size A (bnV Ms) → (convert 22 9 (.slice A 32 c)).run Try.prog u = .ok (.string ⟨(toB Ms).toArray⟩) u from fun u A c hr => conv_bn hds hls hr c)
  have CRp := Lib.hid (show ∀ u A c, 32 ≤ c → Rd u u.heap.size A (bnV Mp) → Calls Try.prog 13 #[.slice A 32 c] u (RReadPost (some (PF.x.val, PF.y.val)) u) from fun u A c hc hr => by
    obtain ⟨y2, u', t, v', i, a, x, q, W⟩ := ofW_ex (yOf Bp)
    have e := rrd_is (hBp.trans hFp) W
    have h := rread_any W (o := some (PF.x.val, PF.y.val)) (by rw [← e]; rfl) (A := A) (c := c) (w := u) (by rw [← hvp]; exact hr) (by rw [lBp]; exact hc) (by rw [lBp]; decide)
    rw [lBp] at h
    exact h)
  have CRq := Lib.hid (show ∀ u A c, 32 ≤ c → Rd u u.heap.size A (bnV Mq) → Calls Try.prog 13 #[.slice A 32 c] u (RReadPost (some (QF.x.val, QF.y.val)) u) from fun u A c hc hr => by
    obtain ⟨y2, u', t, v', i, a, x, q, W⟩ := ofW_ex (yOf Bq)
    have e := rrd_is (hBq.trans hFq) W
    have h := rread_any W (o := some (QF.x.val, QF.y.val)) (by rw [← e]; rfl) (A := A) (c := c) (w := u) (by rw [← hvq]; exact hr) (by rw [lBq]; exact hc) (by rw [lBq]; decide)
    rw [lBq] at h
    exact h)
  obtain ⟨ax, ay, hax, hay, CAD⟩ : ∃ ax ay, ax = SF.x.val ∧ ay = SF.y.val ∧ Hid (∀ u A1 c1 B1 d1 A2 c2 B2 d2, Rd u u.heap.size A1 (DN PF.x.val) → Rd u u.heap.size B1 (DN PF.y.val) → Rd u u.heap.size A2 (DN QF.x.val) → Rd u u.heap.size B2 (DN QF.y.val) →
      Calls Try.prog 15 #[.agg (pairV (.slice A1 32 c1) (.slice B1 32 d1)), .agg (pairV (.slice A2 32 c2) (.slice B2 32 d2))] u (PairPost ax ay u)) := by
    obtain ⟨a, b, c', e, m', k, s, ka, ia, x, t, kb, ib, y, W⟩ := addW_ex PF.x.val PF.y.val QF.x.val QF.y.val
    have h := addW_is W
    rw [← hSF] at h
    exact ⟨x, y, h.1, h.2, Lib.hid fun u A1 c1 B1 d1 A2 c2 B2 d2 h1 h2 h3 h4 => nadd_any W PF.x.isLt PF.y.isLt QF.x.isLt QF.y.isLt h1 h2 h3 h4⟩
  have CRB := Lib.hid (show ∀ u A1 c1 B1 d1, 32 ≤ d1 → Rd u u.heap.size A1 (DN ax) → Rd u u.heap.size B1 (DN ay) → Calls Try.prog 17 #[.agg (pairV (.slice A1 32 c1) (.slice B1 32 d1))] u (ByPost Ms u) from fun u A1 c1 B1 d1 hd h1 h2 => by
    have h := nbytes_any (by rw [hax]; exact SF.x.isLt) (by rw [hay]; exact SF.y.isLt) (cx := c1) hd h1 h2
    rw [show byP ax ay = Ms by rw [hFs, hax, hay]; rfl] at h
    exact bn_by h)
  generalize PF.x.val = px at *
  generalize PF.y.val = py at *
  generalize QF.x.val = qx at *
  generalize QF.y.val = qy at *
  obtain ⟨ST, hST⟩ : ∃ x : ByteArray, x = ⟨(toB Ms).toArray⟩ := ⟨_, rfl⟩
  rw [← hST] at CSs
  have hpt := Try.underlying34
  have HST0 := Lib.hid (show Cs [.rd A (bytesV La), .rd B' (bytesV Lb)] w w from ⟨⟨rLa, rLb, trivial⟩, Below.refl _ _⟩)
  rw [← hn1, ← hn2]
  have LE1 := Lib.hid lep1
  have LE2 := Lib.hid lep2
  clear hr hs hc hd rLa rLb lep1 lep2 hp1 hp2 hn1 hn2 hLa hLb hSF hax hay hST okB isB okP isP okQ isQ okS isS hMp hFp hdp hlp hBp hvp lBp hMq hFq hdq hlq hBq hvq lBq hMs hFs hds hls hBs hvs lBs
  go_enter Try.func3, Try.ntmps3
  go_wp2_with fail
  refine calls_then (CB.out _) ?_
  rintro e y1 ⟨rfl, hb⟩
  have HST1 := Lib.hid (HST0.out.next hb)
  clear hb HST0
  go_wp2_with fail
  refine calls_then (FLa.out _) ?_
  rintro e u1 ⟨rfl, hq⟩
  have hq' := hq.symm
  clear hq
  subst hq'
  go_wp2_with fail
  refine calls_then (CP.out _ _ _ LE1.out (HST1.out.1.1)) ?_
  rintro e y3 ⟨rfl, hb⟩
  have HST3 := Lib.hid (HST1.out.next hb)
  clear hb HST1
  go_wp2_with (refine wpList_put_box (x := .tmp 5) (cells := ptV P) (Blk.new _ _ _) rfl rfl rfl rfl point_size rfl (by simp [ptV, wV, limbs, Value.oneCell']) ?_; intro y4 hb hw; have hk := box_low hw; have HST4 := Lib.hid (show Cs [.box y3.heap.size 28 (ptV P), .rd A (bytesV La), .rd B' (bytesV Lb)] w y4 from ⟨⟨hb, (HST3.out.next hk).1⟩, (HST3.out.next hk).2⟩); clear hb hw hk HST3)
  generalize y3.heap.size = g1 at *
  refine calls_then (CB.out _) ?_
  rintro e y5 ⟨rfl, hb⟩
  have HST5 := Lib.hid (HST4.out.next hb)
  clear hb HST4
  go_wp2_with fail
  refine calls_then (FLb.out _) ?_
  rintro e u5 ⟨rfl, hq⟩
  have hq' := hq.symm
  clear hq
  subst hq'
  go_wp2_with fail
  refine calls_then (CQ.out _ _ _ LE2.out (HST5.out.1.2.2.1)) ?_
  rintro e y7 ⟨rfl, hb⟩
  have HST7 := Lib.hid (HST5.out.next hb)
  clear hb HST5
  go_wp2_with (first | (refine wpList_put_box (x := .tmp 6) (cells := ptV Q) (Blk.new _ _ _) rfl rfl rfl rfl point_size rfl (by simp [ptV, wV, limbs, Value.oneCell']) ?_; intro y8 hb hw; have hk := box_low hw; have HST8 := Lib.hid (show Cs [.box y7.heap.size 28 (ptV Q), .box g1 28 (ptV P), .rd A (bytesV La), .rd B' (bytesV Lb)] w y8 from ⟨⟨hb, (HST7.out.next hk).1⟩, (HST7.out.next hk).2⟩); clear hb hw hk HST7) | (refine wpList_get_box (x := .tmp 5) (HST8.out.1.2.1) rfl rfl rfl hp rfl point_size ?_))
  generalize y7.heap.size = g2 at *
  refine calls_then (CYp.out _) ?_
  rintro e y9 ⟨Ap, cp, rfl, hc, hr, hb⟩
  have HST9 := Lib.hid (show Cs [.rd Ap (bnV Mp), .box g2 28 (ptV Q), .box g1 28 (ptV P), .rd A (bytesV La), .rd B' (bytesV Lb)] w y9 from ⟨⟨hr, (HST8.out.next hb).1⟩, (HST8.out.next hb).2⟩)
  clear hb HST8
  have LEp := Lib.hid hc
  clear hc hr
  go_wp2_with fail
  refine calls_then (CRp.out _ _ _ LEp.out (HST9.out.1.1)) ?_
  rintro e y10 ⟨hb, Xp, cxp, Yp, cyp, rfl, hcx, hcy, hrx, hry⟩
  have HST10 := Lib.hid (show Cs [.rd Xp (DN px), .rd Yp (DN py), .rd Ap (bnV Mp), .box g2 28 (ptV Q), .box g1 28 (ptV P), .rd A (bytesV La), .rd B' (bytesV Lb)] w y10 from ⟨⟨hrx, hry, (HST9.out.next hb).1⟩, (HST9.out.next hb).2⟩)
  clear hb HST9
  have LXp := Lib.hid hcx
  have LYp := Lib.hid hcy
  clear hcx hcy hrx hry
  go_wp2_with (first | (refine wpList_put_box (x := .tmp 7) (cells := (pairV (.slice Xp 32 cxp) (.slice Yp 32 cyp))) (Blk.new _ _ _) rfl rfl rfl rfl pair_size rfl (by simp [pairV, Value.oneCell']) ?_; intro y11 hb hw; have hk := box_low hw; have HST11 := Lib.hid (show Cs [.box y10.heap.size 34 (pairV (.slice Xp 32 cxp) (.slice Yp 32 cyp)), .rd Xp (DN px), .rd Yp (DN py), .rd Ap (bnV Mp), .box g2 28 (ptV Q), .box g1 28 (ptV P), .rd A (bytesV La), .rd B' (bytesV Lb)] w y11 from ⟨⟨hb, (HST10.out.next hk).1⟩, (HST10.out.next hk).2⟩); clear hb hw hk HST10) | (refine wpList_get_box (x := .tmp 6) (HST11.out.1.2.2.2.2.1) rfl rfl rfl hp rfl point_size ?_))
  generalize y10.heap.size = g3 at *
  refine calls_then (CYq.out _) ?_
  rintro e y12 ⟨Aq, cq, rfl, hc, hr, hb⟩
  have HST12 := Lib.hid (show Cs [.rd Aq (bnV Mq), .box g3 34 (pairV (.slice Xp 32 cxp) (.slice Yp 32 cyp)), .rd Xp (DN px), .rd Yp (DN py), .rd Ap (bnV Mp), .box g2 28 (ptV Q), .box g1 28 (ptV P), .rd A (bytesV La), .rd B' (bytesV Lb)] w y12 from ⟨⟨hr, (HST11.out.next hb).1⟩, (HST11.out.next hb).2⟩)
  clear hb HST11
  have LEq := Lib.hid hc
  clear hc hr
  go_wp2_with fail
  refine calls_then (CRq.out _ _ _ LEq.out (HST12.out.1.1)) ?_
  rintro e y13 ⟨hb, Xq, cxq, Yq, cyq, rfl, hcx, hcy, hrx, hry⟩
  have HST13 := Lib.hid (show Cs [.rd Xq (DN qx), .rd Yq (DN qy), .rd Aq (bnV Mq), .box g3 34 (pairV (.slice Xp 32 cxp) (.slice Yp 32 cyp)), .rd Xp (DN px), .rd Yp (DN py), .rd Ap (bnV Mp), .box g2 28 (ptV Q), .box g1 28 (ptV P), .rd A (bytesV La), .rd B' (bytesV Lb)] w y13 from ⟨⟨hrx, hry, (HST12.out.next hb).1⟩, (HST12.out.next hb).2⟩)
  clear hb HST12
  have LXq := Lib.hid hcx
  have LYq := Lib.hid hcy
  clear hcx hcy hrx hry
  go_wp2_with (first | (refine wpList_put_box (x := .tmp 9) (cells := (pairV (.slice Xq 32 cxq) (.slice Yq 32 cyq))) (Blk.new _ _ _) rfl rfl rfl rfl pair_size rfl (by simp [pairV, Value.oneCell']) ?_; intro y14 hb hw; have hk := box_low hw; have HST14 := Lib.hid (show Cs [.box y13.heap.size 34 (pairV (.slice Xq 32 cxq) (.slice Yq 32 cyq)), .rd Xq (DN qx), .rd Yq (DN qy), .rd Aq (bnV Mq), .box g3 34 (pairV (.slice Xp 32 cxp) (.slice Yp 32 cyp)), .rd Xp (DN px), .rd Yp (DN py), .rd Ap (bnV Mp), .box g2 28 (ptV Q), .box g1 28 (ptV P), .rd A (bytesV La), .rd B' (bytesV Lb)] w y14 from ⟨⟨hb, (HST13.out.next hk).1⟩, (HST13.out.next hk).2⟩); clear hb hw hk HST13) | (refine wpList_get_box (x := .tmp 7) (HST14.out.1.2.2.2.2.1) rfl rfl rfl hpt rfl pair_size ?_) | (refine wpList_get_box (x := .tmp 9) (HST14.out.1.1) rfl rfl rfl hpt rfl pair_size ?_))
  generalize y13.heap.size = g4 at *
  refine calls_then (CAD.out _ _ _ _ _ _ _ _ _ (HST14.out.1.2.2.2.2.2.1) (HST14.out.1.2.2.2.2.2.2.1) (HST14.out.1.2.1) (HST14.out.1.2.2.1)) ?_
  rintro e y15 ⟨Xs, cxs, Ys, cys, rfl, hcx, hcy, hrx, hry, hb⟩
  have HST15 := Lib.hid (show Cs [.rd Xs (DN ax), .rd Ys (DN ay), .box g4 34 (pairV (.slice Xq 32 cxq) (.slice Yq 32 cyq)), .rd Xq (DN qx), .rd Yq (DN qy), .rd Aq (bnV Mq), .box g3 34 (pairV (.slice Xp 32 cxp) (.slice Yp 32 cyp)), .rd Xp (DN px), .rd Yp (DN py), .rd Ap (bnV Mp), .box g2 28 (ptV Q), .box g1 28 (ptV P), .rd A (bytesV La), .rd B' (bytesV Lb)] w y15 from ⟨⟨hrx, hry, (HST14.out.next hb).1⟩, (HST14.out.next hb).2⟩)
  clear hb HST14
  have LYs := Lib.hid hcy
  clear hcx hcy hrx hry
  go_wp2_with (refine wpList_put_box (x := .tmp 11) (cells := (pairV (.slice Xs 32 cxs) (.slice Ys 32 cys))) (Blk.new _ _ _) rfl rfl rfl rfl pair_size rfl (by simp [pairV, Value.oneCell']) ?_; intro y16 hb hw; have hk := box_low hw; have HST16 := Lib.hid (show Cs [.box y15.heap.size 34 (pairV (.slice Xs 32 cxs) (.slice Ys 32 cys)), .rd Xs (DN ax), .rd Ys (DN ay), .box g4 34 (pairV (.slice Xq 32 cxq) (.slice Yq 32 cyq)), .rd Xq (DN qx), .rd Yq (DN qy), .rd Aq (bnV Mq), .box g3 34 (pairV (.slice Xp 32 cxp) (.slice Yp 32 cyp)), .rd Xp (DN px), .rd Yp (DN py), .rd Ap (bnV Mp), .box g2 28 (ptV Q), .box g1 28 (ptV P), .rd A (bytesV La), .rd B' (bytesV Lb)] w y16 from ⟨⟨hb, (HST15.out.next hk).1⟩, (HST15.out.next hk).2⟩); clear hb hw hk HST15)
  generalize y15.heap.size = g5 at *
  have HC0 := HST16.out.drew
  clear HST16
  refine wp_region_list (fun u => Cs [.box g5 34 (pairV (.slice Xs 32 cxs) (.slice Ys 32 cys)), .rd Xs (DN ax), .rd Ys (DN ay), .box g4 34 (pairV (.slice Xq 32 cxq) (.slice Yq 32 cyq)), .rd Xq (DN qx), .rd Yq (DN qy), .rd Aq (bnV Mq), .box g3 34 (pairV (.slice Xp 32 cxp) (.slice Yp 32 cyp)), .rd Xp (DN px), .rd Yp (DN py), .rd Ap (bnV Mp), .box g2 28 (ptV Q), .box g1 28 (ptV P), .rd A (bytesV La), .rd B' (bytesV Lb)] w u) (fun | false => (fun _ => True) | true => (fun _ => True)) (fun | false, _ => false | true, _ => false)
    [fun z _ => z 0 = .agg (ptV P),
     fun z _ => z 1 = .agg (ptV Q),
     fun z _ => z 2 = .agg (ptV S),
     fun z u => (RdV 32 (bnV Ms)) (z 3) u,
     fun z _ => z 4 = .string ST,
     fun z _ => z 5 = .agg (pairV (.slice Xs 32 cxs) (.slice Ys 32 cys)),
     fun z u => (RdV 32 (bnV Ms)) (z 6) u,
     fun z _ => z 7 = .string ST,
     fun z _ => z 8 = .bool true,
     fun z _ => z 9 = .bool true,
     fun z _ => z 10 = .bool true,
     fun z _ => z 11 = .bool true,
     fun z _ => z 12 = .bool true]
    [Eq, Eq, fun u u' => Below u.heap.size u u', fun u u' => Below u.heap.size u u', Eq, Eq, fun u u' => Below u.heap.size u u', Eq, Eq, Eq, fun u u' => Below u.heap.size u u', Eq, Eq]
    (fun _ _ => false) [(0, some 41), (1, some 42), (2, some 43), (3, some 44), (4, some 45), (5, some 46), (6, some 47), (7, some 48), (8, some 49), (9, some 50), (10, some 51), (11, some 52), (12, some 4)] (by kernel_rfl) (by kernel_rfl) rfl (fun _ => rfl) ?_ ?_ ?_ ?_ ?_ ?_
  · exact HC0
  · intro m; cases m; exact trivial; exact trivial
  · intro m; cases m
    · exact ⟨.inr (fun _ _ h h0 => h ▸ h0), .inr (fun _ _ h h0 => h ▸ h0), .inr (fun _ _ _ h => h), .inr (fun _ _ _ h => h), .inr (fun _ _ h h0 => h ▸ h0), .inr (fun _ _ h h0 => h ▸ h0), .inr (fun _ _ _ h => h), .inr (fun _ _ h h0 => h ▸ h0), .inr (fun _ _ h h0 => h ▸ h0), .inr (fun _ _ h h0 => h ▸ h0), .inr (fun _ _ _ h => h), .inr (fun _ _ h h0 => h ▸ h0), .inr (fun _ _ h h0 => h ▸ h0), trivial⟩
    · exact ⟨.inr (fun _ _ h h0 => h ▸ h0), .inr (fun _ _ h h0 => h ▸ h0), .inr (fun _ _ _ h => h), .inr (fun _ _ _ h => h), .inr (fun _ _ h h0 => h ▸ h0), .inr (fun _ _ h h0 => h ▸ h0), .inr (fun _ _ _ h => h), .inr (fun _ _ h h0 => h ▸ h0), .inr (fun _ _ h h0 => h ▸ h0), .inr (fun _ _ h h0 => h ▸ h0), .inr (fun _ _ _ h => h), .inr (fun _ _ h h0 => h ▸ h0), .inr (fun _ _ h h0 => h ▸ h0), trivial⟩
  · exact ⟨⟨.inl rfl, .inr (.inr (.inr (fun _ _ _ _ _ h => h))), .inr (.inr (.inl rfl)), .inr (.inr (.inl rfl)), .inr (.inr (.inl rfl)), .inr (.inr (.inr (fun _ _ _ _ _ h => h))), .inr (.inr (.inl rfl)), .inr (.inr (.inr (fun _ _ _ _ _ h => h))), .inr (.inr (.inr (fun _ _ _ _ _ h => h))), .inr (.inr (.inr (fun _ _ _ _ _ h => h))), .inr (.inr (.inr (fun _ _ _ _ _ h => h))), .inr (.inr (.inr (fun _ _ _ _ _ h => h))), .inr (.inr (.inl rfl)), trivial⟩,
      ⟨.inr (.inr (.inr (fun _ _ _ _ _ h => h))), .inl rfl, .inr (.inr (.inl rfl)), .inr (.inr (.inl rfl)), .inr (.inr (.inl rfl)), .inr (.inr (.inr (fun _ _ _ _ _ h => h))), .inr (.inr (.inl rfl)), .inr (.inr (.inr (fun _ _ _ _ _ h => h))), .inr (.inr (.inr (fun _ _ _ _ _ h => h))), .inr (.inr (.inr (fun _ _ _ _ _ h => h))), .inr (.inr (.inr (fun _ _ _ _ _ h => h))), .inr (.inr (.inr (fun _ _ _ _ _ h => h))), .inr (.inr (.inl rfl)), trivial⟩,
      ⟨.inr (.inr (.inr (fun _ _ _ _ _ h => h))), .inr (.inr (.inr (fun _ _ _ _ _ h => h))), .inl rfl, .inr (.inr (.inl rfl)), .inr (.inr (.inl rfl)), .inr (.inr (.inr (fun _ _ _ _ _ h => h))), .inr (.inr (.inl rfl)), .inr (.inr (.inl rfl)), .inr (.inr (.inl rfl)), .inr (.inr (.inl rfl)), .inr (.inr (.inr (fun _ _ _ _ _ h => h))), .inr (.inr (.inr (fun _ _ _ _ _ h => h))), .inr (.inr (.inl rfl)), trivial⟩,
      ⟨.inr (.inr (.inr (fun _ _ _ _ _ h => h))), .inr (.inr (.inr (fun _ _ _ _ _ h => h))), .inr (.inr (.inr (fun _ _ _ _ _ h => h))), .inl rfl, .inr (.inr (.inl rfl)), .inr (.inr (.inr (fun _ _ _ _ _ h => h))), .inr (.inr (.inl rfl)), .inr (.inr (.inl rfl)), .inr (.inr (.inl rfl)), .inr (.inr (.inl rfl)), .inr (.inr (.inl rfl)), .inr (.inr (.inl rfl)), .inr (.inr (.inl rfl)), trivial⟩,
      ⟨.inr (.inr (.inr (fun _ _ _ _ _ h => h))), .inr (.inr (.inr (fun _ _ _ _ _ h => h))), .inr (.inr (.inr (fun _ _ _ _ _ h => h))), .inr (.inr (.inr (fun _ _ _ _ h h0 => by cases h; exact h0))), .inl rfl, .inr (.inr (.inr (fun _ _ _ _ _ h => h))), .inr (.inr (.inr (fun _ _ _ _ h h0 => by cases h; exact h0))), .inr (.inr (.inr (fun _ _ _ _ _ h => h))), .inr (.inr (.inl rfl)), .inr (.inr (.inl rfl)), .inr (.inr (.inl rfl)), .inr (.inr (.inl rfl)), .inr (.inr (.inl rfl)), trivial⟩,
      ⟨.inr (.inr (.inr (fun _ _ _ _ _ h => h))), .inr (.inr (.inr (fun _ _ _ _ _ h => h))), .inr (.inr (.inr (fun _ _ _ _ _ h => h))), .inr (.inr (.inr (fun _ _ _ _ h h0 => by cases h; exact h0))), .inr (.inr (.inr (fun _ _ _ _ _ h => h))), .inl rfl, .inr (.inr (.inl rfl)), .inr (.inr (.inl rfl)), .inr (.inr (.inl rfl)), .inr (.inr (.inl rfl)), .inr (.inr (.inl rfl)), .inr (.inr (.inl rfl)), .inr (.inr (.inl rfl)), trivial⟩,
      ⟨.inr (.inr (.inr (fun _ _ _ _ _ h => h))), .inr (.inr (.inr (fun _ _ _ _ _ h => h))), .inr (.inr (.inr (fun _ _ _ _ _ h => h))), .inr (.inr (.inr (fun _ _ _ _ h h0 => h0.next h))), .inr (.inr (.inr (fun _ _ _ _ _ h => h))), .inr (.inr (.inr (fun _ _ _ _ _ h => h))), .inl rfl, .inr (.inr (.inl rfl)), .inr (.inr (.inl rfl)), .inr (.inr (.inl rfl)), .inr (.inr (.inl rfl)), .inr (.inr (.inl rfl)), .inr (.inr (.inl rfl)), trivial⟩,
      ⟨.inr (.inr (.inr (fun _ _ _ _ _ h => h))), .inr (.inr (.inr (fun _ _ _ _ _ h => h))), .inr (.inr (.inr (fun _ _ _ _ _ h => h))), .inr (.inr (.inr (fun _ _ _ _ h h0 => by cases h; exact h0))), .inr (.inr (.inr (fun _ _ _ _ _ h => h))), .inr (.inr (.inr (fun _ _ _ _ _ h => h))), .inr (.inr (.inr (fun _ _ _ _ h h0 => by cases h; exact h0))), .inl rfl, .inr (.inr (.inl rfl)), .inr (.inr (.inl rfl)), .inr (.inr (.inl rfl)), .inr (.inr (.inl rfl)), .inr (.inr (.inl rfl)), trivial⟩,
      ⟨.inr (.inr (.inr (fun _ _ _ _ _ h => h))), .inr (.inr (.inr (fun _ _ _ _ _ h => h))), .inr (.inr (.inr (fun _ _ _ _ _ h => h))), .inr (.inr (.inr (fun _ _ _ _ h h0 => by cases h; exact h0))), .inr (.inr (.inr (fun _ _ _ _ _ h => h))), .inr (.inr (.inr (fun _ _ _ _ _ h => h))), .inr (.inr (.inr (fun _ _ _ _ h h0 => by cases h; exact h0))), .inr (.inr (.inr (fun _ _ _ _ _ h => h))), .inl rfl, .inr (.inr (.inl rfl)), .inr (.inr (.inl rfl)), .inr (.inr (.inl rfl)), .inr (.inr (.inl rfl)), trivial⟩,
      ⟨.inr (.inr (.inr (fun _ _ _ _ _ h => h))), .inr (.inr (.inr (fun _ _ _ _ _ h => h))), .inr (.inr (.inr (fun _ _ _ _ _ h => h))), .inr (.inr (.inr (fun _ _ _ _ h h0 => by cases h; exact h0))), .inr (.inr (.inr (fun _ _ _ _ _ h => h))), .inr (.inr (.inr (fun _ _ _ _ _ h => h))), .inr (.inr (.inr (fun _ _ _ _ h h0 => by cases h; exact h0))), .inr (.inr (.inr (fun _ _ _ _ _ h => h))), .inr (.inr (.inr (fun _ _ _ _ _ h => h))), .inl rfl, .inr (.inr (.inl rfl)), .inr (.inr (.inl rfl)), .inr (.inr (.inl rfl)), trivial⟩,
      ⟨.inr (.inr (.inr (fun _ _ _ _ _ h => h))), .inr (.inr (.inr (fun _ _ _ _ _ h => h))), .inr (.inr (.inr (fun _ _ _ _ _ h => h))), .inr (.inr (.inr (fun _ _ _ _ h h0 => h0.next h))), .inr (.inr (.inr (fun _ _ _ _ _ h => h))), .inr (.inr (.inr (fun _ _ _ _ _ h => h))), .inr (.inr (.inr (fun _ _ _ _ h h0 => h0.next h))), .inr (.inr (.inr (fun _ _ _ _ _ h => h))), .inr (.inr (.inr (fun _ _ _ _ _ h => h))), .inr (.inr (.inr (fun _ _ _ _ _ h => h))), .inl rfl, .inr (.inr (.inl rfl)), .inr (.inr (.inl rfl)), trivial⟩,
      ⟨.inr (.inr (.inr (fun _ _ _ _ _ h => h))), .inr (.inr (.inr (fun _ _ _ _ _ h => h))), .inr (.inr (.inr (fun _ _ _ _ _ h => h))), .inr (.inr (.inr (fun _ _ _ _ h h0 => by cases h; exact h0))), .inr (.inr (.inr (fun _ _ _ _ _ h => h))), .inr (.inr (.inr (fun _ _ _ _ _ h => h))), .inr (.inr (.inr (fun _ _ _ _ h h0 => by cases h; exact h0))), .inr (.inr (.inr (fun _ _ _ _ _ h => h))), .inr (.inr (.inr (fun _ _ _ _ _ h => h))), .inr (.inr (.inr (fun _ _ _ _ _ h => h))), .inr (.inr (.inr (fun _ _ _ _ _ h => h))), .inl rfl, .inr (.inr (.inl rfl)), trivial⟩,
      ⟨.inr (.inr (.inr (fun _ _ _ _ _ h => h))), .inr (.inr (.inr (fun _ _ _ _ _ h => h))), .inr (.inr (.inr (fun _ _ _ _ _ h => h))), .inr (.inr (.inr (fun _ _ _ _ h h0 => by cases h; exact h0))), .inr (.inr (.inr (fun _ _ _ _ _ h => h))), .inr (.inr (.inr (fun _ _ _ _ _ h => h))), .inr (.inr (.inr (fun _ _ _ _ h h0 => by cases h; exact h0))), .inr (.inr (.inr (fun _ _ _ _ _ h => h))), .inr (.inr (.inr (fun _ _ _ _ _ h => h))), .inr (.inr (.inr (fun _ _ _ _ _ h => h))), .inr (.inr (.inr (fun _ _ _ _ _ h => h))), .inr (.inr (.inr (fun _ _ _ _ _ h => h))), .inl rfl, trivial⟩, trivial⟩
  · refine ⟨?_, ?_, ?_, ?_, ?_, ?_, ?_, ?_, ?_, ?_, ?_, ?_, ?_, trivial⟩
    · -- 0: Op.load 28 (Operand.tmp 5)
      refine step_plain [] (fun _ => rfl) rfl ?_
      intro w1 vals hC1 hi0 hf E hE
      clear hi0
      clear hf
      simp only [puts, act_put, act_put_none, List.setIfInBounds_toArray, List.set_cons_zero, List.set_cons_succ] at hE ⊢
      refine wpList_get_box (hC1.1.2.2.2.2.2.2.2.2.2.2.2.2.1) rfl rfl rfl hp rfl point_size ?_
      go_wp2_with fail
      exact .mk (hE _ _ rfl hC1 rfl)
    · -- 1: Op.load 28 (Operand.tmp 6)
      refine step_plain [] (fun _ => rfl) rfl ?_
      intro w1 vals hC1 hi0 hf E hE
      clear hi0
      clear hf
      simp only [puts, act_put, act_put_none, List.setIfInBounds_toArray, List.set_cons_zero, List.set_cons_succ] at hE ⊢
      refine wpList_get_box (hC1.1.2.2.2.2.2.2.2.2.2.2.2.1) rfl rfl rfl hp rfl point_size ?_
      go_wp2_with fail
      exact .mk (hE _ _ rfl hC1 rfl)
    · -- 2: Op.call { callee := Callee.value (Operand.func 16), args := #[Operand.tmp 41, Operand.tmp 42], argTypes := #[2
      refine step_plain [(0, some 41), (1, some 42)] (fun _ => rfl) rfl ?_
      intro w1 vals hC1 hi0 hf E hE
      clear hi0
      have f0 : vals 0 = .agg (ptV P) := hf 0 rfl
      have f1 : vals 1 = .agg (ptV Q) := hf 1 rfl
      try dsimp only at f0 f1
      clear hf
      simp only [puts, act_put, act_put_none, List.setIfInBounds_toArray, List.set_cons_zero, List.set_cons_succ, f0, f1] at hE ⊢
      clear f0 f1
      go_wp2_with fail
      refine calls_then (CS.out _) ?_
      rintro e w2 ⟨rfl, hb2⟩
      go_wp2_with fail
      exact .mk (hE _ _ rfl (hC1.next hb2) hb2)
    · -- 3: Op.call { callee := Callee.value (Operand.func 14), args := #[Operand.tmp 43], argTypes := #[28] }
      refine step_plain [(2, some 43), (2, some 43)] (fun _ => rfl) rfl ?_
      intro w1 vals hC1 hi0 hf E hE
      clear hi0
      have f2 : vals 2 = .agg (ptV S) := hf 2 rfl
      try dsimp only at f2
      clear hf
      simp only [puts, act_put, act_put_none, List.setIfInBounds_toArray, List.set_cons_zero, List.set_cons_succ, f2] at hE ⊢
      clear f2
      go_wp2_with fail
      refine calls_then (CYs.out _) ?_
      rintro e w2 ⟨A2, c2, rfl, hc2, hr2, hb2⟩
      go_wp2_with fail
      exact .mk (hE _ _ ⟨A2, c2, rfl, hc2, hr2⟩ (hC1.next hb2) hb2)
    · -- 4: Op.convert 22 9 (Operand.tmp 44)
      refine step_plain [(3, some 44)] (fun _ => rfl) rfl ?_
      intro w1 vals hC1 hi0 hf E hE
      clear hi0
      have f3 : (RdV 32 (bnV Ms)) (vals 3) w1 := hf 3 rfl
      try dsimp only at f3
      clear hf
      obtain ⟨A2, c2, hx2, hc2, hr2⟩ := f3
      simp only [puts, act_put, act_put_none, List.setIfInBounds_toArray, List.set_cons_zero, List.set_cons_succ, hx2] at hE ⊢
      clear hx2
      have cv := CSs.out _ A2 c2 hr2
      go_wp2_with fail
      exact .mk (hE _ _ rfl hC1 rfl)
    · -- 5: Op.load 34 (Operand.tmp 11)
      refine step_plain [] (fun _ => rfl) rfl ?_
      intro w1 vals hC1 hi0 hf E hE
      clear hi0
      clear hf
      simp only [puts, act_put, act_put_none, List.setIfInBounds_toArray, List.set_cons_zero, List.set_cons_succ] at hE ⊢
      refine wpList_get_box (hC1.1.1) rfl rfl rfl hpt rfl pair_size ?_
      go_wp2_with fail
      exact .mk (hE _ _ rfl hC1 rfl)
    · -- 6: Op.call { callee := Callee.value (Operand.func 17), args := #[Operand.tmp 46], argTypes := #[34] }
      refine step_plain [(5, some 46), (3, some 44)] (fun _ => rfl) rfl ?_
      intro w1 vals hC1 hi0 hf E hE
      clear hi0
      have f3 : (RdV 32 (bnV Ms)) (vals 3) w1 := hf 3 rfl
      have f5 : vals 5 = .agg (pairV (.slice Xs 32 cxs) (.slice Ys 32 cys)) := hf 5 rfl
      try dsimp only at f3 f5
      clear hf
      simp only [puts, act_put, act_put_none, List.setIfInBounds_toArray, List.set_cons_zero, List.set_cons_succ, f5] at hE ⊢
      clear f5
      go_wp2_with fail
      refine calls_then (CRB.out _ _ _ _ _ LYs.out (hC1.1.2.1) (hC1.1.2.2.1)) ?_
      rintro e w2 ⟨A2, c2, rfl, hc2, hr2, hb2⟩
      go_wp2_with fail
      exact .mk (hE _ _ ⟨A2, c2, rfl, hc2, hr2⟩ (hC1.next hb2) hb2)
    · -- 7: Op.convert 22 9 (Operand.tmp 47)
      refine step_plain [(6, some 47)] (fun _ => rfl) rfl ?_
      intro w1 vals hC1 hi0 hf E hE
      clear hi0
      have f6 : (RdV 32 (bnV Ms)) (vals 6) w1 := hf 6 rfl
      try dsimp only at f6
      clear hf
      obtain ⟨A2, c2, hx2, hc2, hr2⟩ := f6
      simp only [puts, act_put, act_put_none, List.setIfInBounds_toArray, List.set_cons_zero, List.set_cons_succ, hx2] at hE ⊢
      clear hx2
      have cv := CSs.out _ A2 c2 hr2
      go_wp2_with fail
      exact .mk (hE _ _ rfl hC1 rfl)
    · -- 8: Op.binOp BinOp.eql 9 (Operand.tmp 45) (Operand.tmp 48) 9
      refine step_plain [(4, some 45), (7, some 48)] (fun _ => rfl) rfl ?_
      intro w1 vals hC1 hi0 hf E hE
      clear hi0
      have f4 : vals 4 = .string ST := hf 4 rfl
      have f7 : vals 7 = .string ST := hf 7 rfl
      try dsimp only at f4 f7
      clear hf
      simp only [puts, act_put, act_put_none, List.setIfInBounds_toArray, List.set_cons_zero, List.set_cons_succ, f4, f7] at hE ⊢
      clear f4 f7
      go_wp2
      exact .mk (hE _ _ rfl hC1 rfl)
    · -- 9: Op.move (Operand.tmp 49)
      refine step_plain [(8, some 49), (6, some 47)] (fun _ => rfl) rfl ?_
      intro w1 vals hC1 hi0 hf E hE
      clear hi0
      have f6 : (RdV 32 (bnV Ms)) (vals 6) w1 := hf 6 rfl
      have f8 : vals 8 = .bool true := hf 8 rfl
      try dsimp only at f6 f8
      clear hf
      simp only [puts, act_put, act_put_none, List.setIfInBounds_toArray, List.set_cons_zero, List.set_cons_succ, f8] at hE ⊢
      clear f8
      go_wp2
      exact .mk (hE _ _ rfl hC1 rfl)
    · -- 10: Op.call { callee := Callee.value (Operand.func 18), args := #[], argTypes := #[] }
      refine step_guard [(9, some 50), (9, some 50)] (fun _ => rfl) 9 50 true rfl rfl ?_ ?_
      · intro w1 vals hC1 hi0 hf hy E hE
        dsimp only at hE ⊢
        clear hi0
        have f9 : vals 9 = .bool true := hf 9 rfl
        try dsimp only at f9
        clear hf
        clear hy
        simp only [puts, act_put, act_put_none, List.setIfInBounds_toArray, List.set_cons_zero, List.set_cons_succ, f9] at hE ⊢
        clear f9
        go_wp2_with fail
        refine calls_then (clives_any _) ?_
        rintro e w2 ⟨rfl, hb2⟩
        go_wp2_with fail
        exact .mk (hE _ _ rfl (hC1.next hb2) hb2)
      · intro w1 vals hC1 hi0 hf hy
        clear hi0
        have f9 : vals 9 = .bool true := hf 9 rfl
        try dsimp only at f9
        clear hf
        exact absurd (by simp only [puts, act_put, act_put_none, List.setIfInBounds_toArray, List.set_cons_zero, List.set_cons_succ, f9]; rfl) hy
    · -- 11: Op.pick (Operand.tmp 50) (Operand.tmp 51) (Operand.const (Value.bool false))
      refine step_plain [(9, some 50), (10, some 51)] (fun _ => rfl) rfl ?_
      intro w1 vals hC1 hi0 hf E hE
      clear hi0
      have f9 : vals 9 = .bool true := hf 9 rfl
      have f10 : vals 10 = .bool true := hf 10 rfl
      try dsimp only at f9 f10
      clear hf
      simp only [puts, act_put, act_put_none, List.setIfInBounds_toArray, List.set_cons_zero, List.set_cons_succ, f9, f10] at hE ⊢
      clear f9 f10
      go_wp2
      exact .mk (hE _ _ rfl hC1 rfl)
    · -- 12: Op.assign (Operand.tmp 52)
      refine step_plain [(11, some 52), (10, some 51), (0, some 41), (1, some 42), (2, some 43), (3, some 44), (4, some 45), (5, some 46), (6, some 47), (7, some 48), (8, some 49), (9, some 50), (10, some 51), (11, some 52)] (fun _ => rfl) rfl ?_
      intro w1 vals hC1 hi0 hf E hE
      clear hi0
      have f0 : vals 0 = .agg (ptV P) := hf 0 rfl
      have f1 : vals 1 = .agg (ptV Q) := hf 1 rfl
      have f2 : vals 2 = .agg (ptV S) := hf 2 rfl
      have f3 : (RdV 32 (bnV Ms)) (vals 3) w1 := hf 3 rfl
      have f4 : vals 4 = .string ST := hf 4 rfl
      have f5 : vals 5 = .agg (pairV (.slice Xs 32 cxs) (.slice Ys 32 cys)) := hf 5 rfl
      have f6 : (RdV 32 (bnV Ms)) (vals 6) w1 := hf 6 rfl
      have f7 : vals 7 = .string ST := hf 7 rfl
      have f8 : vals 8 = .bool true := hf 8 rfl
      have f9 : vals 9 = .bool true := hf 9 rfl
      have f10 : vals 10 = .bool true := hf 10 rfl
      have f11 : vals 11 = .bool true := hf 11 rfl
      try dsimp only at f0 f1 f2 f3 f4 f5 f6 f7 f8 f9 f10 f11
      clear hf
      simp only [puts, act_put, act_put_none, List.setIfInBounds_toArray, List.set_cons_zero, List.set_cons_succ, f0, f1, f2, f4, f5, f7, f8, f9, f10, f11] at hE ⊢
      clear f0 f1 f2 f4 f5 f7 f8 f9 f10 f11
      go_wp2
      exact .mk (hE _ _ rfl hC1 rfl)
  intro w1 vals hC1 hf
  have f0 : vals 0 = .agg (ptV P) := hf 0 (by decide) rfl
  have f1 : vals 1 = .agg (ptV Q) := hf 1 (by decide) rfl
  have f2 : vals 2 = .agg (ptV S) := hf 2 (by decide) rfl
  have f3 : (RdV 32 (bnV Ms)) (vals 3) w1 := hf 3 (by decide) rfl
  have f4 : vals 4 = .string ST := hf 4 (by decide) rfl
  have f5 : vals 5 = .agg (pairV (.slice Xs 32 cxs) (.slice Ys 32 cys)) := hf 5 (by decide) rfl
  have f6 : (RdV 32 (bnV Ms)) (vals 6) w1 := hf 6 (by decide) rfl
  have f7 : vals 7 = .string ST := hf 7 (by decide) rfl
  have f8 : vals 8 = .bool true := hf 8 (by decide) rfl
  have f9 : vals 9 = .bool true := hf 9 (by decide) rfl
  have f10 : vals 10 = .bool true := hf 10 (by decide) rfl
  have f11 : vals 11 = .bool true := hf 11 (by decide) rfl
  have f12 : vals 12 = .bool true := hf 12 (by decide) rfl
  try dsimp only at f0 f1 f2 f3 f4 f5 f6 f7 f8 f9 f10 f11 f12
  clear hf
  simp only [puts, act_put, act_put_none, List.setIfInBounds_toArray, List.set_cons_zero, List.set_cons_succ, f0, f1, f2, f4, f5, f7, f8, f9, f10, f11, f12]
  clear f0 f1 f2 f4 f5 f7 f8 f9 f10 f11 f12
  generalize vals 3 = x3 at *
  generalize vals 6 = x6 at *
  have HSTz := Lib.hid hC1
  clear hC1 HC0
  go_wp2_with fail
  go_ret
  exact ⟨rfl, HSTz.out.2⟩
end Go.Proofs.Ytbeokfpbhemcfaa
namespace Go.Proofs.Ytbeokfpbhemcfaa.curveAdds
set_option linter.unusedSimpArgs false
set_option linter.unusedVariables false
open Go.ChangeShapes Go.WideShapes Go.ChangeAt Go.RowKit Go.Joins

set_option maxRecDepth 100000 in
theorem lifted (os : Os) (started : os.Started) (H : Type) (enc : TypeId × Value → H) :
    ReturnsInHanded {} Try.checked os 3 .any (Rows.curveAddsSpec.pre6 enc Try.prog Try.f3 Rows.curveAddsRow.domain false) (Rows.curveAddsSpec.post enc Try.prog Try.f3 false true false false) := by
  refine returnsInHanded_of_change (C := Try.checked) own started (by kernel_rfl) Try.func3
    (ChangeSpec.witness6 (enc := enc) (C := Try.checked) false ⟨#[], #[.slice none 0 0, .slice none 0 0], []⟩ 8 (by kernel_rfl) (by kernel_rfl) (by kernel_rfl) (by kernel_rfl)) ?_
  intro W base args ds gs before hval0 hW hcnd _
  have hval : ∀ (j : Nat) t v, Try.f3.params[j]? = some t → args[j]? = some v → Value.okWide Try.prog W .any base t v := hval0
  have hW' := hW
  obtain ⟨p, q, hA0, hV, rfl, hfz, hnd⟩ := hW
  have hA : DataW.TrodAll enc Try.prog W 0 (fun _ => true) true Try.f3.params.toList args.toList ds p := hA0
  rw [Try.params3] at hA hval
  obtain ⟨v0, v1, d0, d1, p0, p1, rfl, rfl, rfl, h0, h1⟩ := trodAll_two hA
  obtain ⟨rfl, rfl⟩ := trodVars_none hV
  have h0k := h0
  have h1k := h1
  obtain ⟨l0, A0, c0, rfl, r0, q0, o0⟩ := open_bytes_arg (hval 0 22 v0 rfl rfl) h0
  obtain ⟨l1, A1, c1, rfl, r1, q1, o1⟩ := open_bytes_arg (hval 1 22 v1 rfl rfl) h1
  clear hA0 hval0
  simp only [List.append_nil] at hW'
  refine (adds_any l0 l1 A0 A1 c0 c1 W r0 r1 q0 q1).mono fun e W' ⟨he, hb⟩ => ?_
  subst he
  have hlt : ∀ x ∈ p0 ++ p1, x.block < W.heap.size := fun x hx => hW'.lt x (by simpa using hx)
  exact ⟨_, rfl, post_of_below (pa := p0 ++ p1) (pv := []) hW' (fun _ _ _ => trodAll_mk1 (shut_bool Try.underlying4 _))
    (fun sp hsp => trodAll_mk2 (stays laidOut (by kernel_rfl) (of_decide_eq_true (by kernel_rfl)) h0k hb (fun x hx => hlt x (by simp [hx])) (fun x hx => hsp x (by simp [hx])))
      (stays laidOut (by kernel_rfl) (of_decide_eq_true (by kernel_rfl)) h1k hb (fun x hx => hlt x (by simp [hx])) (fun x hx => hsp x (by simp [hx]))))
    (fun _ _ => rfl) (by simp) hb (ok_one (by kernel_rfl) rfl (okWide_bool_mk Try.underlying4 _))⟩

theorem holds : Rows.CurveAddsSaid :=
  OpenClaim.holds_of_wide 3 Try.f3 rfl rfl rfl rfl rfl rfl rfl ⟨rfl, rfl, rfl, rfl, rfl⟩ rfl rfl rfl rfl rfl (by kernel_rfl) Try.func3 (by kernel_rfl)
    (of_decide_eq_true (by kernel_rfl)) (by unfold Func.isWrapper; first | (rw [if_pos (by decide +kernel)]; kernel_rfl) | (rw [if_neg (by decide +kernel)]; exact ⟨rfl, rfl⟩))
    (fun os started H enc _ => lifted os started H enc)

#print axioms holds
end Go.Proofs.Ytbeokfpbhemcfaa.curveAdds
