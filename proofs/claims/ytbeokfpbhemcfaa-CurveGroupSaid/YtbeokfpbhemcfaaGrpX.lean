/-
  Walk: the law CurveGroup.
-/
import Derived.Test.YtbeokfpbhemcfaaEx
namespace Go.Proofs.Ytbeokfpbhemcfaa
set_option linter.unusedSimpArgs false
set_option linter.unusedVariables false
open Go.RowKit

set_option maxRecDepth 100000 in
set_option maxHeartbeats 4000000 in
theorem group_any (l m k : List UInt8) (A B' C : Option Addr) (c d f : Nat) (w : World) (hr : Rd w w.heap.size A (bytesV l)) (hs : Rd w w.heap.size B' (bytesV m)) (ht : Rd w w.heap.size C (bytesV k)) (hc : l.length ≤ c) (hd : m.length ≤ d) (hf : k.length ≤ f) :
    Calls Try.prog 7 #[.slice A l.length c, .slice B' m.length d, .slice C k.length f] w (BoolPost true w) := by
  have hp := Try.underlying28
  obtain ⟨B, hB⟩ : ∃ B, B = baseP := ⟨_, rfl⟩
  have okB : B.Ok := by rw [hB]; exact baseP_ok
  have isB : Is B baseF := by rw [hB]; exact is_base
  have CB := Lib.hid (show ∀ u, Calls Try.prog 10 #[] u (PtPost B u) from fun u => by rw [hB]; exact base_any u)
  clear hB
  obtain ⟨Z, hZ⟩ : ∃ Z, Z = zeroP := ⟨_, rfl⟩
  have okZ : Z.Ok := by rw [hZ]; exact zeroP_ok
  have isZ : Is Z zeroF := by rw [hZ]; exact is_zero
  have CZ := Lib.hid (show ∀ u, Calls Try.prog 26 #[] u (PtPost Z u) from fun u => by rw [hZ]; exact zero_any u)
  clear hZ
  obtain ⟨n1, hn1⟩ : ∃ x, x = l.length := ⟨_, rfl⟩
  obtain ⟨La, hLa⟩ : ∃ x, x = l.take 32 := ⟨_, rfl⟩
  have rLa : Rd w w.heap.size A (bytesV La) := by rw [hLa]; exact rd_takeB hr
  obtain ⟨p1, hp1⟩ : ∃ x, x = La.length := ⟨_, rfl⟩
  have lep1 : p1 ≤ c := by rw [hp1, hLa, List.length_take]; omega
  have FLa := Lib.hid (show ∀ u, Calls Try.prog 12 #[.slice A n1 c, .int .i64 32] u (fun e w' => e = .returned (.slice A p1 c) ∧ w' = u) from fun u => by
    rw [hp1, hLa, hn1]; exact few_any l 32 (by decide) A c u (nil_len' hr) hc)
  obtain ⟨P, hP⟩ : ∃ x, x = mulP B La := ⟨_, rfl⟩
  have okP : P.Ok := by rw [hP]; exact mulP_ok okB _
  have isP := Is.mul okB isB La
  rw [← hP] at isP
  have CP := Lib.hid (show ∀ u A c, p1 ≤ c → Rd u u.heap.size A (bytesV La) → Calls Try.prog 11 #[.agg (ptV B), .slice A p1 c] u (PtPost P u) from fun u A c hc hr => by rw [hP, hp1]; exact pmul_any B okB La A c u hr (by rw [← hp1]; exact hc))
  clear hP
  obtain ⟨PF, isP'⟩ : ∃ F, Is P F := ⟨_, isP⟩
  clear isP
  have isP := isP'
  clear isP'
  obtain ⟨n2, hn2⟩ : ∃ x, x = m.length := ⟨_, rfl⟩
  obtain ⟨Lb, hLb⟩ : ∃ x, x = m.take 32 := ⟨_, rfl⟩
  have rLb : Rd w w.heap.size B' (bytesV Lb) := by rw [hLb]; exact rd_takeB hs
  obtain ⟨p2, hp2⟩ : ∃ x, x = Lb.length := ⟨_, rfl⟩
  have lep2 : p2 ≤ d := by rw [hp2, hLb, List.length_take]; omega
  have FLb := Lib.hid (show ∀ u, Calls Try.prog 12 #[.slice B' n2 d, .int .i64 32] u (fun e w' => e = .returned (.slice B' p2 d) ∧ w' = u) from fun u => by
    rw [hp2, hLb, hn2]; exact few_any m 32 (by decide) B' d u (nil_len' hs) hd)
  obtain ⟨Q, hQ⟩ : ∃ x, x = mulP B Lb := ⟨_, rfl⟩
  have okQ : Q.Ok := by rw [hQ]; exact mulP_ok okB _
  have isQ := Is.mul okB isB Lb
  rw [← hQ] at isQ
  have CQ := Lib.hid (show ∀ u A c, p2 ≤ c → Rd u u.heap.size A (bytesV Lb) → Calls Try.prog 11 #[.agg (ptV B), .slice A p2 c] u (PtPost Q u) from fun u A c hc hr => by rw [hQ, hp2]; exact pmul_any B okB Lb A c u hr (by rw [← hp2]; exact hc))
  clear hQ
  obtain ⟨QF, isQ'⟩ : ∃ F, Is Q F := ⟨_, isQ⟩
  clear isQ
  have isQ := isQ'
  clear isQ'
  obtain ⟨n3, hn3⟩ : ∃ x, x = k.length := ⟨_, rfl⟩
  obtain ⟨Lc, hLc⟩ : ∃ x, x = k.take 32 := ⟨_, rfl⟩
  have rLc : Rd w w.heap.size C (bytesV Lc) := by rw [hLc]; exact rd_takeB ht
  obtain ⟨p3, hp3⟩ : ∃ x, x = Lc.length := ⟨_, rfl⟩
  have lep3 : p3 ≤ f := by rw [hp3, hLc, List.length_take]; omega
  have FLc := Lib.hid (show ∀ u, Calls Try.prog 12 #[.slice C n3 f, .int .i64 32] u (fun e w' => e = .returned (.slice C p3 f) ∧ w' = u) from fun u => by
    rw [hp3, hLc, hn3]; exact few_any k 32 (by decide) C f u (nil_len' ht) hf)
  obtain ⟨R, hR⟩ : ∃ x, x = mulP B Lc := ⟨_, rfl⟩
  have okR : R.Ok := by rw [hR]; exact mulP_ok okB _
  have isR := Is.mul okB isB Lc
  rw [← hR] at isR
  have CR := Lib.hid (show ∀ u A c, p3 ≤ c → Rd u u.heap.size A (bytesV Lc) → Calls Try.prog 11 #[.agg (ptV B), .slice A p3 c] u (PtPost R u) from fun u A c hc hr => by rw [hR, hp3]; exact pmul_any B okB Lc A c u hr (by rw [← hp3]; exact hc))
  clear hR
  obtain ⟨RF, isR'⟩ : ∃ F, Is R F := ⟨_, isR⟩
  clear isR
  have isR := isR'
  clear isR'
  obtain ⟨PQ, hPQ⟩ : ∃ x, x = addP P Q := ⟨_, rfl⟩
  have okPQ : PQ.Ok := by rw [hPQ]; exact addP_ok okP okQ
  have isPQ := Is.add okP okQ isP isQ
  rw [← hPQ] at isPQ
  have CPQ := Lib.hid (show ∀ u, Calls Try.prog 16 #[.agg (ptV P), .agg (ptV Q)] u (PtPost PQ u) from fun u => by rw [hPQ]; exact padd_any P Q u okP okQ)
  clear hPQ
  obtain ⟨QP, hQP⟩ : ∃ x, x = addP Q P := ⟨_, rfl⟩
  have okQP : QP.Ok := by rw [hQP]; exact addP_ok okQ okP
  have isQP := Is.add okQ okP isQ isP
  rw [← hQP] at isQP
  have CQP := Lib.hid (show ∀ u, Calls Try.prog 16 #[.agg (ptV Q), .agg (ptV P)] u (PtPost QP u) from fun u => by rw [hQP]; exact padd_any Q P u okQ okP)
  clear hQP
  obtain ⟨PQR, hPQR⟩ : ∃ x, x = addP PQ R := ⟨_, rfl⟩
  have okPQR : PQR.Ok := by rw [hPQR]; exact addP_ok okPQ okR
  have isPQR := Is.add okPQ okR isPQ isR
  rw [← hPQR] at isPQR
  have CPQR := Lib.hid (show ∀ u, Calls Try.prog 16 #[.agg (ptV PQ), .agg (ptV R)] u (PtPost PQR u) from fun u => by rw [hPQR]; exact padd_any PQ R u okPQ okR)
  clear hPQR
  obtain ⟨QR, hQR⟩ : ∃ x, x = addP Q R := ⟨_, rfl⟩
  have okQR : QR.Ok := by rw [hQR]; exact addP_ok okQ okR
  have isQR := Is.add okQ okR isQ isR
  rw [← hQR] at isQR
  have CQR := Lib.hid (show ∀ u, Calls Try.prog 16 #[.agg (ptV Q), .agg (ptV R)] u (PtPost QR u) from fun u => by rw [hQR]; exact padd_any Q R u okQ okR)
  clear hQR
  obtain ⟨PQR2, hPQR2⟩ : ∃ x, x = addP P QR := ⟨_, rfl⟩
  have okPQR2 : PQR2.Ok := by rw [hPQR2]; exact addP_ok okP okQR
  have isPQR2 := Is.add okP okQR isP isQR
  rw [← hPQR2] at isPQR2
  have CPQR2 := Lib.hid (show ∀ u, Calls Try.prog 16 #[.agg (ptV P), .agg (ptV QR)] u (PtPost PQR2 u) from fun u => by rw [hPQR2]; exact padd_any P QR u okP okQR)
  clear hPQR2
  obtain ⟨PZ, hPZ⟩ : ∃ x, x = addP P Z := ⟨_, rfl⟩
  have okPZ : PZ.Ok := by rw [hPZ]; exact addP_ok okP okZ
  have isPZ := Is.add okP okZ isP isZ
  rw [← hPZ] at isPZ
  have CPZ := Lib.hid (show ∀ u, Calls Try.prog 16 #[.agg (ptV P), .agg (ptV Z)] u (PtPost PZ u) from fun u => by rw [hPZ]; exact padd_any P Z u okP okZ)
  clear hPZ
  obtain ⟨NP, hNP⟩ : ∃ x, x = negP P := ⟨_, rfl⟩
  have okNP : NP.Ok := by rw [hNP]; exact negP_ok okP
  have isNP := Is.neg okP isP
  rw [← hNP] at isNP
  have CNP := Lib.hid (show ∀ u, Calls Try.prog 23 #[.agg (ptV P)] u (PtPost NP u) from fun u => by rw [hNP]; exact pneg_any P u okP)
  clear hNP
  obtain ⟨PNP, hPNP⟩ : ∃ x, x = addP P NP := ⟨_, rfl⟩
  have okPNP : PNP.Ok := by rw [hPNP]; exact addP_ok okP okNP
  have isPNP := Is.add okP okNP isP isNP
  rw [← hPNP] at isPNP
  have CPNP := Lib.hid (show ∀ u, Calls Try.prog 16 #[.agg (ptV P), .agg (ptV NP)] u (PtPost PNP u) from fun u => by rw [hPNP]; exact padd_any P NP u okP okNP)
  clear hPNP
  obtain ⟨NNP, hNNP⟩ : ∃ x, x = negP NP := ⟨_, rfl⟩
  have okNNP : NNP.Ok := by rw [hNNP]; exact negP_ok okNP
  have isNNP := Is.neg okNP isNP
  rw [← hNNP] at isNNP
  have CNNP := Lib.hid (show ∀ u, Calls Try.prog 23 #[.agg (ptV NP)] u (PtPost NNP u) from fun u => by rw [hNNP]; exact pneg_any NP u okNP)
  clear hNNP
  have CE1 := Lib.hid (show ∀ u, Calls Try.prog 22 #[.agg (ptV PQ), .agg (ptV QP)] u (BoolPost true u) from fun u => by
    have h := pequal_any PQ QP u okPQ okQP
    rw [(eqP_is okPQ okQP isPQ isQP).2 (Ed.add_comm FF _ _)] at h
    exact h)
  have CE2 := Lib.hid (show ∀ u, Calls Try.prog 22 #[.agg (ptV PQR), .agg (ptV PQR2)] u (BoolPost true u) from fun u => by
    have h := pequal_any PQR PQR2 u okPQR okPQR2
    rw [(eqP_is okPQR okPQR2 isPQR isPQR2).2 (Ed.add_assoc FF _ _ _)] at h
    exact h)
  have CE3 := Lib.hid (show ∀ u, Calls Try.prog 22 #[.agg (ptV PZ), .agg (ptV P)] u (BoolPost true u) from fun u => by
    have h := pequal_any PZ P u okPZ okP
    rw [(eqP_is okPZ okP isPZ isP).2 (Ed.add_zero FF _)] at h
    exact h)
  have CE4 := Lib.hid (show ∀ u, Calls Try.prog 22 #[.agg (ptV PNP), .agg (ptV Z)] u (BoolPost true u) from fun u => by
    have h := pequal_any PNP Z u okPNP okZ
    rw [(eqP_is okPNP okZ isPNP isZ).2 (Ed.add_neg FF _)] at h
    exact h)
  have CE5 := Lib.hid (show ∀ u, Calls Try.prog 22 #[.agg (ptV NNP), .agg (ptV P)] u (BoolPost true u) from fun u => by
    have h := pequal_any NNP P u okNNP okP
    rw [(eqP_is okNNP okP isNNP isP).2 (Ed.neg_neg FF _)] at h
    exact h)
  have HST0 := Lib.hid (show Cs [.rd A (bytesV La), .rd B' (bytesV Lb), .rd C (bytesV Lc)] w w from ⟨⟨rLa, rLb, rLc, trivial⟩, Below.refl _ _⟩)
  rw [← hn1, ← hn2, ← hn3]
  have LE1 := Lib.hid lep1
  have LE2 := Lib.hid lep2
  have LE3 := Lib.hid lep3
  clear hr hs ht hc hd hf rLa rLb rLc lep1 lep2 lep3 hp1 hp2 hp3 hn1 hn2 hn3 hLa hLb hLc okB isB okZ isZ okP isP okQ isQ okR isR okPQ isPQ okQP isQP okPQR isPQR okQR isQR okPQR2 isPQR2 okPZ isPZ okNP isNP okPNP isPNP okNNP isNNP
  go_enter Try.func7, Try.ntmps7
  go_wp2_with fail
  refine calls_then (CB.out _) ?_
  rintro e w1 ⟨rfl, hb⟩
  have HST1 := Lib.hid (HST0.out.next hb)
  clear hb HST0
  go_wp2_with fail
  refine calls_then (FLa.out _) ?_
  rintro e u1 ⟨rfl, rfl⟩
  go_wp2_with fail
  refine calls_then (CP.out _ _ _ LE1.out (HST1.out.1.1)) ?_
  rintro e w3 ⟨rfl, hb⟩
  have HST3 := Lib.hid (HST1.out.next hb)
  clear hb HST1
  go_wp2_with (refine wpList_put_box (x := .tmp 7) (cells := ptV P) (Blk.new _ _ _) rfl rfl rfl rfl point_size rfl (by simp [ptV, wV, limbs, Value.oneCell']) ?_; intro w4 hb hw; have hk := box_low hw; have HST4 := Lib.hid (show Cs [.box w3.heap.size 28 (ptV P), .rd A (bytesV La), .rd B' (bytesV Lb), .rd C (bytesV Lc)] w w4 from ⟨⟨hb, (HST3.out.next hk).1⟩, (HST3.out.next hk).2⟩); clear hb hw hk HST3)
  generalize w3.heap.size = g1 at *
  refine calls_then (CB.out _) ?_
  rintro e w5 ⟨rfl, hb⟩
  have HST5 := Lib.hid (HST4.out.next hb)
  clear hb HST4
  go_wp2_with fail
  refine calls_then (FLb.out _) ?_
  rintro e u5 ⟨rfl, rfl⟩
  go_wp2_with fail
  refine calls_then (CQ.out _ _ _ LE2.out (HST5.out.1.2.2.1)) ?_
  rintro e w7 ⟨rfl, hb⟩
  have HST7 := Lib.hid (HST5.out.next hb)
  clear hb HST5
  go_wp2_with (refine wpList_put_box (x := .tmp 8) (cells := ptV Q) (Blk.new _ _ _) rfl rfl rfl rfl point_size rfl (by simp [ptV, wV, limbs, Value.oneCell']) ?_; intro w8 hb hw; have hk := box_low hw; have HST8 := Lib.hid (show Cs [.box w7.heap.size 28 (ptV Q), .box g1 28 (ptV P), .rd A (bytesV La), .rd B' (bytesV Lb), .rd C (bytesV Lc)] w w8 from ⟨⟨hb, (HST7.out.next hk).1⟩, (HST7.out.next hk).2⟩); clear hb hw hk HST7)
  generalize w7.heap.size = g2 at *
  refine calls_then (CB.out _) ?_
  rintro e w9 ⟨rfl, hb⟩
  have HST9 := Lib.hid (HST8.out.next hb)
  clear hb HST8
  go_wp2_with fail
  refine calls_then (FLc.out _) ?_
  rintro e u9 ⟨rfl, rfl⟩
  go_wp2_with fail
  refine calls_then (CR.out _ _ _ LE3.out (HST9.out.1.2.2.2.2.1)) ?_
  rintro e w11 ⟨rfl, hb⟩
  have HST11 := Lib.hid (HST9.out.next hb)
  clear hb HST9
  go_wp2_with (refine wpList_put_box (x := .tmp 9) (cells := ptV R) (Blk.new _ _ _) rfl rfl rfl rfl point_size rfl (by simp [ptV, wV, limbs, Value.oneCell']) ?_; intro w12 hb hw; have hk := box_low hw; have HST12 := Lib.hid (show Cs [.box w11.heap.size 28 (ptV R), .box g2 28 (ptV Q), .box g1 28 (ptV P), .rd A (bytesV La), .rd B' (bytesV Lb), .rd C (bytesV Lc)] w w12 from ⟨⟨hb, (HST11.out.next hk).1⟩, (HST11.out.next hk).2⟩); clear hb hw hk HST11)
  generalize w11.heap.size = g3 at *
  have HC0 := HST12.out.drew
  clear HST12
  refine wp_region_det (fun u => Cs [.box g3 28 (ptV R), .box g2 28 (ptV Q), .box g1 28 (ptV P), .rd A (bytesV La), .rd B' (bytesV Lb), .rd C (bytesV Lc)] w u) (fun u => Cs [.box g3 28 (ptV R), .box g2 28 (ptV Q), .box g1 28 (ptV P), .rd A (bytesV La), .rd B' (bytesV Lb), .rd C (bytesV Lc)] w u) [(0, some 24), (1, some 25), (2, some 26), (3, some 27), (4, some 28), (5, some 29), (6, some 30), (7, some 31), (8, some 32), (9, some 33), (10, some 34), (11, some 35), (12, some 36), (13, some 37), (14, some 38), (15, some 39), (16, some 40), (17, some 41), (18, some 42), (19, some 43), (20, some 10)] (by kernel_rfl) (by kernel_rfl) (by decide) (by kernel_rfl) (fun _ => rfl) HC0 ?_
  apply DetL.next
  · -- 0: Op.load 28 (Operand.tmp 7)
    apply detStep_plain []
    exact fun _ => rfl
    rfl
    rintro vals - w1 hC1 E hE
    simp only [puts, act_put, act_put_none, List.setIfInBounds_toArray, List.set_cons_zero, List.set_cons_succ] at hE ⊢
    refine wpList_get_box (hC1.1.2.2.1) rfl rfl rfl hp rfl point_size ?_
    go_wp2_with fail
    exact .mk (hE _ hC1)
  apply DetL.next
  · -- 1: Op.load 28 (Operand.tmp 8)
    apply detStep_plain []
    exact fun _ => rfl
    rfl
    rintro vals ⟨-, -⟩ w1 hC1 E hE
    simp only [puts, act_put, act_put_none, List.setIfInBounds_toArray, List.set_cons_zero, List.set_cons_succ] at hE ⊢
    refine wpList_get_box (hC1.1.2.1) rfl rfl rfl hp rfl point_size ?_
    go_wp2_with fail
    exact .mk (hE _ hC1)
  apply DetL.next
  · -- 2: Op.call { callee := Callee.value (Operand.func 16), args := #[Operand.tmp 24, Operand.tmp 25], argTypes := #[2
    apply detStep_plain [(0, some 24), (1, some 25)]
    exact fun _ => rfl
    rfl
    rintro vals ⟨⟨-, f0⟩, f1⟩ w1 hC1 E hE
    simp only [puts, act_put, act_put_none, List.setIfInBounds_toArray, List.set_cons_zero, List.set_cons_succ, f0, f1] at hE ⊢
    clear f0 f1
    go_wp2_with fail
    refine calls_then (CPQ.out _) ?_
    rintro e w2 ⟨rfl, hb2⟩
    go_wp2_with fail
    exact .mk (hE _ (hC1.next hb2))
  apply DetL.next
  · -- 3: Op.load 28 (Operand.tmp 8)
    apply detStep_plain []
    exact fun _ => rfl
    rfl
    rintro vals ⟨⟨⟨-, -⟩, -⟩, -⟩ w1 hC1 E hE
    simp only [puts, act_put, act_put_none, List.setIfInBounds_toArray, List.set_cons_zero, List.set_cons_succ] at hE ⊢
    refine wpList_get_box (hC1.1.2.1) rfl rfl rfl hp rfl point_size ?_
    go_wp2_with fail
    exact .mk (hE _ hC1)
  apply DetL.next
  · -- 4: Op.load 28 (Operand.tmp 7)
    apply detStep_plain []
    exact fun _ => rfl
    rfl
    rintro vals ⟨⟨⟨⟨-, -⟩, -⟩, -⟩, -⟩ w1 hC1 E hE
    simp only [puts, act_put, act_put_none, List.setIfInBounds_toArray, List.set_cons_zero, List.set_cons_succ] at hE ⊢
    refine wpList_get_box (hC1.1.2.2.1) rfl rfl rfl hp rfl point_size ?_
    go_wp2_with fail
    exact .mk (hE _ hC1)
  apply DetL.next
  · -- 5: Op.call { callee := Callee.value (Operand.func 16), args := #[Operand.tmp 27, Operand.tmp 28], argTypes := #[2
    apply detStep_plain [(3, some 27), (4, some 28), (2, some 26)]
    exact fun _ => rfl
    rfl
    rintro vals ⟨⟨⟨⟨⟨-, -⟩, -⟩, f2⟩, f3⟩, f4⟩ w1 hC1 E hE
    simp only [puts, act_put, act_put_none, List.setIfInBounds_toArray, List.set_cons_zero, List.set_cons_succ, f2, f3, f4] at hE ⊢
    clear f2 f3 f4
    go_wp2_with fail
    refine calls_then (CQP.out _) ?_
    rintro e w2 ⟨rfl, hb2⟩
    go_wp2_with fail
    exact .mk (hE _ (hC1.next hb2))
  apply DetL.next
  · -- 6: Op.call { callee := Callee.value (Operand.func 22), args := #[Operand.tmp 26, Operand.tmp 29], argTypes := #[2
    apply detStep_plain [(2, some 26), (5, some 29), (5, some 29)]
    exact fun _ => rfl
    rfl
    rintro vals ⟨⟨⟨⟨⟨⟨-, -⟩, -⟩, f2⟩, -⟩, -⟩, f5⟩ w1 hC1 E hE
    simp only [puts, act_put, act_put_none, List.setIfInBounds_toArray, List.set_cons_zero, List.set_cons_succ, f2, f5] at hE ⊢
    clear f2 f5
    go_wp2_with fail
    refine calls_then (CE1.out _) ?_
    rintro e w2 ⟨rfl, hb2⟩
    go_wp2_with fail
    exact .mk (hE _ (hC1.next hb2))
  apply DetL.next
  · -- 7: Op.move (Operand.tmp 30)
    apply detStep_plain [(6, some 30), (6, some 30)]
    exact fun _ => rfl
    rfl
    rintro vals ⟨⟨⟨⟨⟨⟨⟨-, -⟩, -⟩, -⟩, -⟩, -⟩, -⟩, f6⟩ w1 hC1 E hE
    simp only [puts, act_put, act_put_none, List.setIfInBounds_toArray, List.set_cons_zero, List.set_cons_succ, f6] at hE ⊢
    clear f6
    go_wp2
    exact .mk (hE _ hC1)
  apply DetL.next
  · -- 8: Op.load 28 (Operand.tmp 7)
    apply detStep_yes [(7, some 31)] (g := 7) (t := 31) (want := true)
    exact fun _ => rfl
    rfl
    rfl
    · rintro vals ⟨⟨⟨⟨⟨⟨⟨⟨-, -⟩, -⟩, -⟩, -⟩, -⟩, -⟩, -⟩, f7⟩
      simp only [puts, act_put, act_put_none, List.setIfInBounds_toArray, List.set_cons_zero, List.set_cons_succ, f7]
      rfl
    rintro vals ⟨⟨⟨⟨⟨⟨⟨⟨-, -⟩, -⟩, -⟩, -⟩, -⟩, -⟩, -⟩, f7⟩ w1 hC1 E hE
    dsimp only at hE ⊢
    simp only [puts, act_put, act_put_none, List.setIfInBounds_toArray, List.set_cons_zero, List.set_cons_succ, f7] at hE ⊢
    clear f7
    refine wpList_get_box (hC1.1.2.2.1) rfl rfl rfl hp rfl point_size ?_
    go_wp2_with fail
    exact .mk (hE _ hC1)
  apply DetL.next
  · -- 9: Op.load 28 (Operand.tmp 8)
    apply detStep_yes [(7, some 31)] (g := 7) (t := 31) (want := true)
    exact fun _ => rfl
    rfl
    rfl
    · rintro vals ⟨⟨⟨⟨⟨⟨⟨⟨⟨-, -⟩, -⟩, -⟩, -⟩, -⟩, -⟩, -⟩, f7⟩, -⟩
      simp only [puts, act_put, act_put_none, List.setIfInBounds_toArray, List.set_cons_zero, List.set_cons_succ, f7]
      rfl
    rintro vals ⟨⟨⟨⟨⟨⟨⟨⟨⟨-, -⟩, -⟩, -⟩, -⟩, -⟩, -⟩, -⟩, f7⟩, -⟩ w1 hC1 E hE
    dsimp only at hE ⊢
    simp only [puts, act_put, act_put_none, List.setIfInBounds_toArray, List.set_cons_zero, List.set_cons_succ, f7] at hE ⊢
    clear f7
    refine wpList_get_box (hC1.1.2.1) rfl rfl rfl hp rfl point_size ?_
    go_wp2_with fail
    exact .mk (hE _ hC1)
  apply DetL.next
  · -- 10: Op.call { callee := Callee.value (Operand.func 16), args := #[Operand.tmp 32, Operand.tmp 33], argTypes := #[2
    apply detStep_yes [(8, some 32), (9, some 33), (7, some 31), (7, some 31)] (g := 7) (t := 31) (want := true)
    exact fun _ => rfl
    rfl
    rfl
    · rintro vals ⟨⟨⟨⟨⟨⟨⟨⟨⟨⟨-, -⟩, -⟩, -⟩, -⟩, -⟩, -⟩, -⟩, f7⟩, f8⟩, f9⟩
      simp only [puts, act_put, act_put_none, List.setIfInBounds_toArray, List.set_cons_zero, List.set_cons_succ, f7, f8, f9]
      rfl
    rintro vals ⟨⟨⟨⟨⟨⟨⟨⟨⟨⟨-, -⟩, -⟩, -⟩, -⟩, -⟩, -⟩, -⟩, f7⟩, f8⟩, f9⟩ w1 hC1 E hE
    dsimp only at hE ⊢
    simp only [puts, act_put, act_put_none, List.setIfInBounds_toArray, List.set_cons_zero, List.set_cons_succ, f7, f8, f9] at hE ⊢
    clear f7 f8 f9
    go_wp2_with fail
    refine calls_then (CPQ.out _) ?_
    rintro e w2 ⟨rfl, hb2⟩
    go_wp2_with fail
    exact .mk (hE _ (hC1.next hb2))
  apply DetL.next
  · -- 11: Op.load 28 (Operand.tmp 9)
    apply detStep_yes [(7, some 31)] (g := 7) (t := 31) (want := true)
    exact fun _ => rfl
    rfl
    rfl
    · rintro vals ⟨⟨⟨⟨⟨⟨⟨⟨⟨⟨⟨-, -⟩, -⟩, -⟩, -⟩, -⟩, -⟩, -⟩, f7⟩, -⟩, -⟩, -⟩
      simp only [puts, act_put, act_put_none, List.setIfInBounds_toArray, List.set_cons_zero, List.set_cons_succ, f7]
      rfl
    rintro vals ⟨⟨⟨⟨⟨⟨⟨⟨⟨⟨⟨-, -⟩, -⟩, -⟩, -⟩, -⟩, -⟩, -⟩, f7⟩, -⟩, -⟩, -⟩ w1 hC1 E hE
    dsimp only at hE ⊢
    simp only [puts, act_put, act_put_none, List.setIfInBounds_toArray, List.set_cons_zero, List.set_cons_succ, f7] at hE ⊢
    clear f7
    refine wpList_get_box (hC1.1.1) rfl rfl rfl hp rfl point_size ?_
    go_wp2_with fail
    exact .mk (hE _ hC1)
  apply DetL.next
  · -- 12: Op.call { callee := Callee.value (Operand.func 16), args := #[Operand.tmp 34, Operand.tmp 35], argTypes := #[2
    apply detStep_yes [(10, some 34), (11, some 35), (10, some 34), (7, some 31)] (g := 7) (t := 31) (want := true)
    exact fun _ => rfl
    rfl
    rfl
    · rintro vals ⟨⟨⟨⟨⟨⟨⟨⟨⟨⟨⟨⟨-, -⟩, -⟩, -⟩, -⟩, -⟩, -⟩, -⟩, f7⟩, -⟩, -⟩, f10⟩, f11⟩
      simp only [puts, act_put, act_put_none, List.setIfInBounds_toArray, List.set_cons_zero, List.set_cons_succ, f7, f10, f11]
      rfl
    rintro vals ⟨⟨⟨⟨⟨⟨⟨⟨⟨⟨⟨⟨-, -⟩, -⟩, -⟩, -⟩, -⟩, -⟩, -⟩, f7⟩, -⟩, -⟩, f10⟩, f11⟩ w1 hC1 E hE
    dsimp only at hE ⊢
    simp only [puts, act_put, act_put_none, List.setIfInBounds_toArray, List.set_cons_zero, List.set_cons_succ, f7, f10, f11] at hE ⊢
    clear f7 f10 f11
    go_wp2_with fail
    refine calls_then (CPQR.out _) ?_
    rintro e w2 ⟨rfl, hb2⟩
    go_wp2_with fail
    exact .mk (hE _ (hC1.next hb2))
  apply DetL.next
  · -- 13: Op.load 28 (Operand.tmp 7)
    apply detStep_yes [(7, some 31)] (g := 7) (t := 31) (want := true)
    exact fun _ => rfl
    rfl
    rfl
    · rintro vals ⟨⟨⟨⟨⟨⟨⟨⟨⟨⟨⟨⟨⟨-, -⟩, -⟩, -⟩, -⟩, -⟩, -⟩, -⟩, f7⟩, -⟩, -⟩, -⟩, -⟩, -⟩
      simp only [puts, act_put, act_put_none, List.setIfInBounds_toArray, List.set_cons_zero, List.set_cons_succ, f7]
      rfl
    rintro vals ⟨⟨⟨⟨⟨⟨⟨⟨⟨⟨⟨⟨⟨-, -⟩, -⟩, -⟩, -⟩, -⟩, -⟩, -⟩, f7⟩, -⟩, -⟩, -⟩, -⟩, -⟩ w1 hC1 E hE
    dsimp only at hE ⊢
    simp only [puts, act_put, act_put_none, List.setIfInBounds_toArray, List.set_cons_zero, List.set_cons_succ, f7] at hE ⊢
    clear f7
    refine wpList_get_box (hC1.1.2.2.1) rfl rfl rfl hp rfl point_size ?_
    go_wp2_with fail
    exact .mk (hE _ hC1)
  apply DetL.next
  · -- 14: Op.load 28 (Operand.tmp 8)
    apply detStep_yes [(7, some 31)] (g := 7) (t := 31) (want := true)
    exact fun _ => rfl
    rfl
    rfl
    · rintro vals ⟨⟨⟨⟨⟨⟨⟨⟨⟨⟨⟨⟨⟨⟨-, -⟩, -⟩, -⟩, -⟩, -⟩, -⟩, -⟩, f7⟩, -⟩, -⟩, -⟩, -⟩, -⟩, -⟩
      simp only [puts, act_put, act_put_none, List.setIfInBounds_toArray, List.set_cons_zero, List.set_cons_succ, f7]
      rfl
    rintro vals ⟨⟨⟨⟨⟨⟨⟨⟨⟨⟨⟨⟨⟨⟨-, -⟩, -⟩, -⟩, -⟩, -⟩, -⟩, -⟩, f7⟩, -⟩, -⟩, -⟩, -⟩, -⟩, -⟩ w1 hC1 E hE
    dsimp only at hE ⊢
    simp only [puts, act_put, act_put_none, List.setIfInBounds_toArray, List.set_cons_zero, List.set_cons_succ, f7] at hE ⊢
    clear f7
    refine wpList_get_box (hC1.1.2.1) rfl rfl rfl hp rfl point_size ?_
    go_wp2_with fail
    exact .mk (hE _ hC1)
  apply DetL.next
  · -- 15: Op.load 28 (Operand.tmp 9)
    apply detStep_yes [(7, some 31)] (g := 7) (t := 31) (want := true)
    exact fun _ => rfl
    rfl
    rfl
    · rintro vals ⟨⟨⟨⟨⟨⟨⟨⟨⟨⟨⟨⟨⟨⟨⟨-, -⟩, -⟩, -⟩, -⟩, -⟩, -⟩, -⟩, f7⟩, -⟩, -⟩, -⟩, -⟩, -⟩, -⟩, -⟩
      simp only [puts, act_put, act_put_none, List.setIfInBounds_toArray, List.set_cons_zero, List.set_cons_succ, f7]
      rfl
    rintro vals ⟨⟨⟨⟨⟨⟨⟨⟨⟨⟨⟨⟨⟨⟨⟨-, -⟩, -⟩, -⟩, -⟩, -⟩, -⟩, -⟩, f7⟩, -⟩, -⟩, -⟩, -⟩, -⟩, -⟩, -⟩ w1 hC1 E hE
    dsimp only at hE ⊢
    simp only [puts, act_put, act_put_none, List.setIfInBounds_toArray, List.set_cons_zero, List.set_cons_succ, f7] at hE ⊢
    clear f7
    refine wpList_get_box (hC1.1.1) rfl rfl rfl hp rfl point_size ?_
    go_wp2_with fail
    exact .mk (hE _ hC1)
  apply DetL.next
  · -- 16: Op.call { callee := Callee.value (Operand.func 16), args := #[Operand.tmp 38, Operand.tmp 39], argTypes := #[2
    apply detStep_yes [(14, some 38), (15, some 39), (12, some 36), (7, some 31)] (g := 7) (t := 31) (want := true)
    exact fun _ => rfl
    rfl
    rfl
    · rintro vals ⟨⟨⟨⟨⟨⟨⟨⟨⟨⟨⟨⟨⟨⟨⟨⟨-, -⟩, -⟩, -⟩, -⟩, -⟩, -⟩, -⟩, f7⟩, -⟩, -⟩, -⟩, -⟩, f12⟩, -⟩, f14⟩, f15⟩
      simp only [puts, act_put, act_put_none, List.setIfInBounds_toArray, List.set_cons_zero, List.set_cons_succ, f7, f12, f14, f15]
      rfl
    rintro vals ⟨⟨⟨⟨⟨⟨⟨⟨⟨⟨⟨⟨⟨⟨⟨⟨-, -⟩, -⟩, -⟩, -⟩, -⟩, -⟩, -⟩, f7⟩, -⟩, -⟩, -⟩, -⟩, f12⟩, -⟩, f14⟩, f15⟩ w1 hC1 E hE
    dsimp only at hE ⊢
    simp only [puts, act_put, act_put_none, List.setIfInBounds_toArray, List.set_cons_zero, List.set_cons_succ, f7, f12, f14, f15] at hE ⊢
    clear f7 f12 f14 f15
    go_wp2_with fail
    refine calls_then (CQR.out _) ?_
    rintro e w2 ⟨rfl, hb2⟩
    go_wp2_with fail
    exact .mk (hE _ (hC1.next hb2))
  apply DetL.next
  · -- 17: Op.call { callee := Callee.value (Operand.func 16), args := #[Operand.tmp 37, Operand.tmp 40], argTypes := #[2
    apply detStep_yes [(13, some 37), (16, some 40), (16, some 40), (7, some 31)] (g := 7) (t := 31) (want := true)
    exact fun _ => rfl
    rfl
    rfl
    · rintro vals ⟨⟨⟨⟨⟨⟨⟨⟨⟨⟨⟨⟨⟨⟨⟨⟨⟨-, -⟩, -⟩, -⟩, -⟩, -⟩, -⟩, -⟩, f7⟩, -⟩, -⟩, -⟩, -⟩, -⟩, f13⟩, -⟩, -⟩, f16⟩
      simp only [puts, act_put, act_put_none, List.setIfInBounds_toArray, List.set_cons_zero, List.set_cons_succ, f7, f13, f16]
      rfl
    rintro vals ⟨⟨⟨⟨⟨⟨⟨⟨⟨⟨⟨⟨⟨⟨⟨⟨⟨-, -⟩, -⟩, -⟩, -⟩, -⟩, -⟩, -⟩, f7⟩, -⟩, -⟩, -⟩, -⟩, -⟩, f13⟩, -⟩, -⟩, f16⟩ w1 hC1 E hE
    dsimp only at hE ⊢
    simp only [puts, act_put, act_put_none, List.setIfInBounds_toArray, List.set_cons_zero, List.set_cons_succ, f7, f13, f16] at hE ⊢
    clear f7 f13 f16
    go_wp2_with fail
    refine calls_then (CPQR2.out _) ?_
    rintro e w2 ⟨rfl, hb2⟩
    go_wp2_with fail
    exact .mk (hE _ (hC1.next hb2))
  apply DetL.next
  · -- 18: Op.call { callee := Callee.value (Operand.func 22), args := #[Operand.tmp 36, Operand.tmp 41], argTypes := #[2
    apply detStep_yes [(12, some 36), (17, some 41), (17, some 41), (7, some 31)] (g := 7) (t := 31) (want := true)
    exact fun _ => rfl
    rfl
    rfl
    · rintro vals ⟨⟨⟨⟨⟨⟨⟨⟨⟨⟨⟨⟨⟨⟨⟨⟨⟨⟨-, -⟩, -⟩, -⟩, -⟩, -⟩, -⟩, -⟩, f7⟩, -⟩, -⟩, -⟩, -⟩, f12⟩, -⟩, -⟩, -⟩, -⟩, f17⟩
      simp only [puts, act_put, act_put_none, List.setIfInBounds_toArray, List.set_cons_zero, List.set_cons_succ, f7, f12, f17]
      rfl
    rintro vals ⟨⟨⟨⟨⟨⟨⟨⟨⟨⟨⟨⟨⟨⟨⟨⟨⟨⟨-, -⟩, -⟩, -⟩, -⟩, -⟩, -⟩, -⟩, f7⟩, -⟩, -⟩, -⟩, -⟩, f12⟩, -⟩, -⟩, -⟩, -⟩, f17⟩ w1 hC1 E hE
    dsimp only at hE ⊢
    simp only [puts, act_put, act_put_none, List.setIfInBounds_toArray, List.set_cons_zero, List.set_cons_succ, f7, f12, f17] at hE ⊢
    clear f7 f12 f17
    go_wp2_with fail
    refine calls_then (CE2.out _) ?_
    rintro e w2 ⟨rfl, hb2⟩
    go_wp2_with fail
    exact .mk (hE _ (hC1.next hb2))
  apply DetL.next
  · -- 19: Op.pick (Operand.tmp 31) (Operand.tmp 42) (Operand.const (Value.bool false))
    apply detStep_plain [(7, some 31), (18, some 42)]
    exact fun _ => rfl
    rfl
    rintro vals ⟨⟨⟨⟨⟨⟨⟨⟨⟨⟨⟨⟨⟨⟨⟨⟨⟨⟨⟨-, -⟩, -⟩, -⟩, -⟩, -⟩, -⟩, -⟩, f7⟩, -⟩, -⟩, -⟩, -⟩, -⟩, -⟩, -⟩, -⟩, -⟩, -⟩, f18⟩ w1 hC1 E hE
    simp only [puts, act_put, act_put_none, List.setIfInBounds_toArray, List.set_cons_zero, List.set_cons_succ, f7, f18] at hE ⊢
    clear f7 f18
    go_wp2
    exact .mk (hE _ hC1)
  apply DetL.last
  · -- 20: Op.assign (Operand.tmp 43)
    apply detStep_plain [(19, some 43), (18, some 42), (0, some 24), (1, some 25), (2, some 26), (3, some 27), (4, some 28), (5, some 29), (6, some 30), (7, some 31), (8, some 32), (9, some 33), (10, some 34), (11, some 35), (12, some 36), (13, some 37), (14, some 38), (15, some 39), (16, some 40), (17, some 41), (18, some 42), (19, some 43)]
    exact fun _ => rfl
    rfl
    rintro vals ⟨⟨⟨⟨⟨⟨⟨⟨⟨⟨⟨⟨⟨⟨⟨⟨⟨⟨⟨⟨-, f0⟩, f1⟩, f2⟩, f3⟩, f4⟩, f5⟩, f6⟩, f7⟩, f8⟩, f9⟩, f10⟩, f11⟩, f12⟩, f13⟩, f14⟩, f15⟩, f16⟩, f17⟩, f18⟩, f19⟩ w1 hC1 E hE
    simp only [puts, act_put, act_put_none, List.setIfInBounds_toArray, List.set_cons_zero, List.set_cons_succ, f0, f1, f2, f3, f4, f5, f6, f7, f8, f9, f10, f11, f12, f13, f14, f15, f16, f17, f18, f19] at hE ⊢
    clear f0 f1 f2 f3 f4 f5 f6 f7 f8 f9 f10 f11 f12 f13 f14 f15 f16 f17 f18 f19
    go_wp2
    exact .mk (hE _ hC1)
  rintro vals ⟨⟨⟨⟨⟨⟨⟨⟨⟨⟨⟨⟨⟨⟨⟨⟨⟨⟨⟨⟨⟨-, f0⟩, f1⟩, f2⟩, f3⟩, f4⟩, f5⟩, f6⟩, f7⟩, f8⟩, f9⟩, f10⟩, f11⟩, f12⟩, f13⟩, f14⟩, f15⟩, f16⟩, f17⟩, f18⟩, f19⟩, f20⟩ w1 hC1
  simp only [puts, act_put, act_put_none, List.setIfInBounds_toArray, List.set_cons_zero, List.set_cons_succ, f0, f1, f2, f3, f4, f5, f6, f7, f8, f9, f10, f11, f12, f13, f14, f15, f16, f17, f18, f19, f20]
  clear f0 f1 f2 f3 f4 f5 f6 f7 f8 f9 f10 f11 f12 f13 f14 f15 f16 f17 f18 f19 f20
  have HST13 := Lib.hid hC1
  clear hC1 HC0
  go_wp2_with fail
  have HC0 := HST13.out.drew
  clear HST13
  refine wp_region_det (fun u => Cs [.box g3 28 (ptV R), .box g2 28 (ptV Q), .box g1 28 (ptV P), .rd A (bytesV La), .rd B' (bytesV Lb), .rd C (bytesV Lc)] w u) (fun u => Cs [.box g3 28 (ptV R), .box g2 28 (ptV Q), .box g1 28 (ptV P), .rd A (bytesV La), .rd B' (bytesV Lb), .rd C (bytesV Lc)] w u) [(0, some 44), (1, some 45), (2, some 46), (3, some 47), (4, some 48), (5, some 49), (6, some 50), (7, some 51), (8, some 52), (9, some 53), (10, some 54), (11, some 55), (12, some 56), (13, some 57), (14, some 58), (15, some 59), (16, some 60), (17, some 61), (18, some 62), (19, some 63), (20, some 11)] (by kernel_rfl) (by kernel_rfl) (by decide) (by kernel_rfl) (fun _ => rfl) HC0 ?_
  apply DetL.next
  · -- 0: Op.load 28 (Operand.tmp 7)
    apply detStep_plain []
    exact fun _ => rfl
    rfl
    rintro vals - w1 hC1 E hE
    simp only [puts, act_put, act_put_none, List.setIfInBounds_toArray, List.set_cons_zero, List.set_cons_succ] at hE ⊢
    refine wpList_get_box (hC1.1.2.2.1) rfl rfl rfl hp rfl point_size ?_
    go_wp2_with fail
    exact .mk (hE _ hC1)
  apply DetL.next
  · -- 1: Op.call { callee := Callee.value (Operand.func 26), args := #[], argTypes := #[] }
    apply detStep_plain []
    exact fun _ => rfl
    rfl
    rintro vals ⟨-, -⟩ w1 hC1 E hE
    simp only [puts, act_put, act_put_none, List.setIfInBounds_toArray, List.set_cons_zero, List.set_cons_succ] at hE ⊢
    go_wp2_with fail
    refine calls_then (CZ.out _) ?_
    rintro e w2 ⟨rfl, hb2⟩
    go_wp2_with fail
    exact .mk (hE _ (hC1.next hb2))
  apply DetL.next
  · -- 2: Op.call { callee := Callee.value (Operand.func 16), args := #[Operand.tmp 44, Operand.tmp 45], argTypes := #[2
    apply detStep_plain [(0, some 44), (1, some 45), (1, some 45)]
    exact fun _ => rfl
    rfl
    rintro vals ⟨⟨-, f0⟩, f1⟩ w1 hC1 E hE
    simp only [puts, act_put, act_put_none, List.setIfInBounds_toArray, List.set_cons_zero, List.set_cons_succ, f0, f1] at hE ⊢
    clear f0 f1
    go_wp2_with fail
    refine calls_then (CPZ.out _) ?_
    rintro e w2 ⟨rfl, hb2⟩
    go_wp2_with fail
    exact .mk (hE _ (hC1.next hb2))
  apply DetL.next
  · -- 3: Op.load 28 (Operand.tmp 7)
    apply detStep_plain []
    exact fun _ => rfl
    rfl
    rintro vals ⟨⟨⟨-, -⟩, -⟩, -⟩ w1 hC1 E hE
    simp only [puts, act_put, act_put_none, List.setIfInBounds_toArray, List.set_cons_zero, List.set_cons_succ] at hE ⊢
    refine wpList_get_box (hC1.1.2.2.1) rfl rfl rfl hp rfl point_size ?_
    go_wp2_with fail
    exact .mk (hE _ hC1)
  apply DetL.next
  · -- 4: Op.call { callee := Callee.value (Operand.func 22), args := #[Operand.tmp 46, Operand.tmp 47], argTypes := #[2
    apply detStep_plain [(2, some 46), (3, some 47), (2, some 46)]
    exact fun _ => rfl
    rfl
    rintro vals ⟨⟨⟨⟨-, -⟩, -⟩, f2⟩, f3⟩ w1 hC1 E hE
    simp only [puts, act_put, act_put_none, List.setIfInBounds_toArray, List.set_cons_zero, List.set_cons_succ, f2, f3] at hE ⊢
    clear f2 f3
    go_wp2_with fail
    refine calls_then (CE3.out _) ?_
    rintro e w2 ⟨rfl, hb2⟩
    go_wp2_with fail
    exact .mk (hE _ (hC1.next hb2))
  apply DetL.next
  · -- 5: Op.move (Operand.tmp 48)
    apply detStep_plain [(4, some 48), (4, some 48)]
    exact fun _ => rfl
    rfl
    rintro vals ⟨⟨⟨⟨⟨-, -⟩, -⟩, -⟩, -⟩, f4⟩ w1 hC1 E hE
    simp only [puts, act_put, act_put_none, List.setIfInBounds_toArray, List.set_cons_zero, List.set_cons_succ, f4] at hE ⊢
    clear f4
    go_wp2
    exact .mk (hE _ hC1)
  apply DetL.next
  · -- 6: Op.load 28 (Operand.tmp 7)
    apply detStep_yes [(5, some 49)] (g := 5) (t := 49) (want := true)
    exact fun _ => rfl
    rfl
    rfl
    · rintro vals ⟨⟨⟨⟨⟨⟨-, -⟩, -⟩, -⟩, -⟩, -⟩, f5⟩
      simp only [puts, act_put, act_put_none, List.setIfInBounds_toArray, List.set_cons_zero, List.set_cons_succ, f5]
      rfl
    rintro vals ⟨⟨⟨⟨⟨⟨-, -⟩, -⟩, -⟩, -⟩, -⟩, f5⟩ w1 hC1 E hE
    dsimp only at hE ⊢
    simp only [puts, act_put, act_put_none, List.setIfInBounds_toArray, List.set_cons_zero, List.set_cons_succ, f5] at hE ⊢
    clear f5
    refine wpList_get_box (hC1.1.2.2.1) rfl rfl rfl hp rfl point_size ?_
    go_wp2_with fail
    exact .mk (hE _ hC1)
  apply DetL.next
  · -- 7: Op.load 28 (Operand.tmp 7)
    apply detStep_yes [(5, some 49)] (g := 5) (t := 49) (want := true)
    exact fun _ => rfl
    rfl
    rfl
    · rintro vals ⟨⟨⟨⟨⟨⟨⟨-, -⟩, -⟩, -⟩, -⟩, -⟩, f5⟩, -⟩
      simp only [puts, act_put, act_put_none, List.setIfInBounds_toArray, List.set_cons_zero, List.set_cons_succ, f5]
      rfl
    rintro vals ⟨⟨⟨⟨⟨⟨⟨-, -⟩, -⟩, -⟩, -⟩, -⟩, f5⟩, -⟩ w1 hC1 E hE
    dsimp only at hE ⊢
    simp only [puts, act_put, act_put_none, List.setIfInBounds_toArray, List.set_cons_zero, List.set_cons_succ, f5] at hE ⊢
    clear f5
    refine wpList_get_box (hC1.1.2.2.1) rfl rfl rfl hp rfl point_size ?_
    go_wp2_with fail
    exact .mk (hE _ hC1)
  apply DetL.next
  · -- 8: Op.call { callee := Callee.value (Operand.func 23), args := #[Operand.tmp 51], argTypes := #[28] }
    apply detStep_yes [(7, some 51), (5, some 49), (5, some 49)] (g := 5) (t := 49) (want := true)
    exact fun _ => rfl
    rfl
    rfl
    · rintro vals ⟨⟨⟨⟨⟨⟨⟨⟨-, -⟩, -⟩, -⟩, -⟩, -⟩, f5⟩, -⟩, f7⟩
      simp only [puts, act_put, act_put_none, List.setIfInBounds_toArray, List.set_cons_zero, List.set_cons_succ, f5, f7]
      rfl
    rintro vals ⟨⟨⟨⟨⟨⟨⟨⟨-, -⟩, -⟩, -⟩, -⟩, -⟩, f5⟩, -⟩, f7⟩ w1 hC1 E hE
    dsimp only at hE ⊢
    simp only [puts, act_put, act_put_none, List.setIfInBounds_toArray, List.set_cons_zero, List.set_cons_succ, f5, f7] at hE ⊢
    clear f5 f7
    go_wp2_with fail
    refine calls_then (CNP.out _) ?_
    rintro e w2 ⟨rfl, hb2⟩
    go_wp2_with fail
    exact .mk (hE _ (hC1.next hb2))
  apply DetL.next
  · -- 9: Op.call { callee := Callee.value (Operand.func 16), args := #[Operand.tmp 50, Operand.tmp 52], argTypes := #[2
    apply detStep_yes [(6, some 50), (8, some 52), (8, some 52), (5, some 49)] (g := 5) (t := 49) (want := true)
    exact fun _ => rfl
    rfl
    rfl
    · rintro vals ⟨⟨⟨⟨⟨⟨⟨⟨⟨-, -⟩, -⟩, -⟩, -⟩, -⟩, f5⟩, f6⟩, -⟩, f8⟩
      simp only [puts, act_put, act_put_none, List.setIfInBounds_toArray, List.set_cons_zero, List.set_cons_succ, f5, f6, f8]
      rfl
    rintro vals ⟨⟨⟨⟨⟨⟨⟨⟨⟨-, -⟩, -⟩, -⟩, -⟩, -⟩, f5⟩, f6⟩, -⟩, f8⟩ w1 hC1 E hE
    dsimp only at hE ⊢
    simp only [puts, act_put, act_put_none, List.setIfInBounds_toArray, List.set_cons_zero, List.set_cons_succ, f5, f6, f8] at hE ⊢
    clear f5 f6 f8
    go_wp2_with fail
    refine calls_then (CPNP.out _) ?_
    rintro e w2 ⟨rfl, hb2⟩
    go_wp2_with fail
    exact .mk (hE _ (hC1.next hb2))
  apply DetL.next
  · -- 10: Op.call { callee := Callee.value (Operand.func 26), args := #[], argTypes := #[] }
    apply detStep_yes [(9, some 53), (5, some 49)] (g := 5) (t := 49) (want := true)
    exact fun _ => rfl
    rfl
    rfl
    · rintro vals ⟨⟨⟨⟨⟨⟨⟨⟨⟨⟨-, -⟩, -⟩, -⟩, -⟩, -⟩, f5⟩, -⟩, -⟩, -⟩, f9⟩
      simp only [puts, act_put, act_put_none, List.setIfInBounds_toArray, List.set_cons_zero, List.set_cons_succ, f5, f9]
      rfl
    rintro vals ⟨⟨⟨⟨⟨⟨⟨⟨⟨⟨-, -⟩, -⟩, -⟩, -⟩, -⟩, f5⟩, -⟩, -⟩, -⟩, f9⟩ w1 hC1 E hE
    dsimp only at hE ⊢
    simp only [puts, act_put, act_put_none, List.setIfInBounds_toArray, List.set_cons_zero, List.set_cons_succ, f5, f9] at hE ⊢
    clear f5 f9
    go_wp2_with fail
    refine calls_then (CZ.out _) ?_
    rintro e w2 ⟨rfl, hb2⟩
    go_wp2_with fail
    exact .mk (hE _ (hC1.next hb2))
  apply DetL.next
  · -- 11: Op.call { callee := Callee.value (Operand.func 22), args := #[Operand.tmp 53, Operand.tmp 54], argTypes := #[2
    apply detStep_yes [(9, some 53), (10, some 54), (10, some 54), (5, some 49)] (g := 5) (t := 49) (want := true)
    exact fun _ => rfl
    rfl
    rfl
    · rintro vals ⟨⟨⟨⟨⟨⟨⟨⟨⟨⟨⟨-, -⟩, -⟩, -⟩, -⟩, -⟩, f5⟩, -⟩, -⟩, -⟩, f9⟩, f10⟩
      simp only [puts, act_put, act_put_none, List.setIfInBounds_toArray, List.set_cons_zero, List.set_cons_succ, f5, f9, f10]
      rfl
    rintro vals ⟨⟨⟨⟨⟨⟨⟨⟨⟨⟨⟨-, -⟩, -⟩, -⟩, -⟩, -⟩, f5⟩, -⟩, -⟩, -⟩, f9⟩, f10⟩ w1 hC1 E hE
    dsimp only at hE ⊢
    simp only [puts, act_put, act_put_none, List.setIfInBounds_toArray, List.set_cons_zero, List.set_cons_succ, f5, f9, f10] at hE ⊢
    clear f5 f9 f10
    go_wp2_with fail
    refine calls_then (CE4.out _) ?_
    rintro e w2 ⟨rfl, hb2⟩
    go_wp2_with fail
    exact .mk (hE _ (hC1.next hb2))
  apply DetL.next
  · -- 12: Op.pick (Operand.tmp 49) (Operand.tmp 55) (Operand.const (Value.bool false))
    apply detStep_plain [(5, some 49), (11, some 55)]
    exact fun _ => rfl
    rfl
    rintro vals ⟨⟨⟨⟨⟨⟨⟨⟨⟨⟨⟨⟨-, -⟩, -⟩, -⟩, -⟩, -⟩, f5⟩, -⟩, -⟩, -⟩, -⟩, -⟩, f11⟩ w1 hC1 E hE
    simp only [puts, act_put, act_put_none, List.setIfInBounds_toArray, List.set_cons_zero, List.set_cons_succ, f5, f11] at hE ⊢
    clear f5 f11
    go_wp2
    exact .mk (hE _ hC1)
  apply DetL.next
  · -- 13: Op.move (Operand.tmp 56)
    apply detStep_plain [(12, some 56), (11, some 55)]
    exact fun _ => rfl
    rfl
    rintro vals ⟨⟨⟨⟨⟨⟨⟨⟨⟨⟨⟨⟨⟨-, -⟩, -⟩, -⟩, -⟩, -⟩, -⟩, -⟩, -⟩, -⟩, -⟩, -⟩, f11⟩, f12⟩ w1 hC1 E hE
    simp only [puts, act_put, act_put_none, List.setIfInBounds_toArray, List.set_cons_zero, List.set_cons_succ, f11, f12] at hE ⊢
    clear f11 f12
    go_wp2
    exact .mk (hE _ hC1)
  apply DetL.next
  · -- 14: Op.load 28 (Operand.tmp 7)
    apply detStep_yes [(13, some 57)] (g := 13) (t := 57) (want := true)
    exact fun _ => rfl
    rfl
    rfl
    · rintro vals ⟨⟨⟨⟨⟨⟨⟨⟨⟨⟨⟨⟨⟨⟨-, -⟩, -⟩, -⟩, -⟩, -⟩, -⟩, -⟩, -⟩, -⟩, -⟩, -⟩, -⟩, -⟩, f13⟩
      simp only [puts, act_put, act_put_none, List.setIfInBounds_toArray, List.set_cons_zero, List.set_cons_succ, f13]
      rfl
    rintro vals ⟨⟨⟨⟨⟨⟨⟨⟨⟨⟨⟨⟨⟨⟨-, -⟩, -⟩, -⟩, -⟩, -⟩, -⟩, -⟩, -⟩, -⟩, -⟩, -⟩, -⟩, -⟩, f13⟩ w1 hC1 E hE
    dsimp only at hE ⊢
    simp only [puts, act_put, act_put_none, List.setIfInBounds_toArray, List.set_cons_zero, List.set_cons_succ, f13] at hE ⊢
    clear f13
    refine wpList_get_box (hC1.1.2.2.1) rfl rfl rfl hp rfl point_size ?_
    go_wp2_with fail
    exact .mk (hE _ hC1)
  apply DetL.next
  · -- 15: Op.call { callee := Callee.value (Operand.func 23), args := #[Operand.tmp 58], argTypes := #[28] }
    apply detStep_yes [(14, some 58), (13, some 57), (13, some 57)] (g := 13) (t := 57) (want := true)
    exact fun _ => rfl
    rfl
    rfl
    · rintro vals ⟨⟨⟨⟨⟨⟨⟨⟨⟨⟨⟨⟨⟨⟨⟨-, -⟩, -⟩, -⟩, -⟩, -⟩, -⟩, -⟩, -⟩, -⟩, -⟩, -⟩, -⟩, -⟩, f13⟩, f14⟩
      simp only [puts, act_put, act_put_none, List.setIfInBounds_toArray, List.set_cons_zero, List.set_cons_succ, f13, f14]
      rfl
    rintro vals ⟨⟨⟨⟨⟨⟨⟨⟨⟨⟨⟨⟨⟨⟨⟨-, -⟩, -⟩, -⟩, -⟩, -⟩, -⟩, -⟩, -⟩, -⟩, -⟩, -⟩, -⟩, -⟩, f13⟩, f14⟩ w1 hC1 E hE
    dsimp only at hE ⊢
    simp only [puts, act_put, act_put_none, List.setIfInBounds_toArray, List.set_cons_zero, List.set_cons_succ, f13, f14] at hE ⊢
    clear f13 f14
    go_wp2_with fail
    refine calls_then (CNP.out _) ?_
    rintro e w2 ⟨rfl, hb2⟩
    go_wp2_with fail
    exact .mk (hE _ (hC1.next hb2))
  apply DetL.next
  · -- 16: Op.call { callee := Callee.value (Operand.func 23), args := #[Operand.tmp 59], argTypes := #[28] }
    apply detStep_yes [(15, some 59), (15, some 59), (13, some 57)] (g := 13) (t := 57) (want := true)
    exact fun _ => rfl
    rfl
    rfl
    · rintro vals ⟨⟨⟨⟨⟨⟨⟨⟨⟨⟨⟨⟨⟨⟨⟨⟨-, -⟩, -⟩, -⟩, -⟩, -⟩, -⟩, -⟩, -⟩, -⟩, -⟩, -⟩, -⟩, -⟩, f13⟩, -⟩, f15⟩
      simp only [puts, act_put, act_put_none, List.setIfInBounds_toArray, List.set_cons_zero, List.set_cons_succ, f13, f15]
      rfl
    rintro vals ⟨⟨⟨⟨⟨⟨⟨⟨⟨⟨⟨⟨⟨⟨⟨⟨-, -⟩, -⟩, -⟩, -⟩, -⟩, -⟩, -⟩, -⟩, -⟩, -⟩, -⟩, -⟩, -⟩, f13⟩, -⟩, f15⟩ w1 hC1 E hE
    dsimp only at hE ⊢
    simp only [puts, act_put, act_put_none, List.setIfInBounds_toArray, List.set_cons_zero, List.set_cons_succ, f13, f15] at hE ⊢
    clear f13 f15
    go_wp2_with fail
    refine calls_then (CNNP.out _) ?_
    rintro e w2 ⟨rfl, hb2⟩
    go_wp2_with fail
    exact .mk (hE _ (hC1.next hb2))
  apply DetL.next
  · -- 17: Op.load 28 (Operand.tmp 7)
    apply detStep_yes [(13, some 57)] (g := 13) (t := 57) (want := true)
    exact fun _ => rfl
    rfl
    rfl
    · rintro vals ⟨⟨⟨⟨⟨⟨⟨⟨⟨⟨⟨⟨⟨⟨⟨⟨⟨-, -⟩, -⟩, -⟩, -⟩, -⟩, -⟩, -⟩, -⟩, -⟩, -⟩, -⟩, -⟩, -⟩, f13⟩, -⟩, -⟩, -⟩
      simp only [puts, act_put, act_put_none, List.setIfInBounds_toArray, List.set_cons_zero, List.set_cons_succ, f13]
      rfl
    rintro vals ⟨⟨⟨⟨⟨⟨⟨⟨⟨⟨⟨⟨⟨⟨⟨⟨⟨-, -⟩, -⟩, -⟩, -⟩, -⟩, -⟩, -⟩, -⟩, -⟩, -⟩, -⟩, -⟩, -⟩, f13⟩, -⟩, -⟩, -⟩ w1 hC1 E hE
    dsimp only at hE ⊢
    simp only [puts, act_put, act_put_none, List.setIfInBounds_toArray, List.set_cons_zero, List.set_cons_succ, f13] at hE ⊢
    clear f13
    refine wpList_get_box (hC1.1.2.2.1) rfl rfl rfl hp rfl point_size ?_
    go_wp2_with fail
    exact .mk (hE _ hC1)
  apply DetL.next
  · -- 18: Op.call { callee := Callee.value (Operand.func 22), args := #[Operand.tmp 60, Operand.tmp 61], argTypes := #[2
    apply detStep_yes [(16, some 60), (17, some 61), (16, some 60), (13, some 57)] (g := 13) (t := 57) (want := true)
    exact fun _ => rfl
    rfl
    rfl
    · rintro vals ⟨⟨⟨⟨⟨⟨⟨⟨⟨⟨⟨⟨⟨⟨⟨⟨⟨⟨-, -⟩, -⟩, -⟩, -⟩, -⟩, -⟩, -⟩, -⟩, -⟩, -⟩, -⟩, -⟩, -⟩, f13⟩, -⟩, -⟩, f16⟩, f17⟩
      simp only [puts, act_put, act_put_none, List.setIfInBounds_toArray, List.set_cons_zero, List.set_cons_succ, f13, f16, f17]
      rfl
    rintro vals ⟨⟨⟨⟨⟨⟨⟨⟨⟨⟨⟨⟨⟨⟨⟨⟨⟨⟨-, -⟩, -⟩, -⟩, -⟩, -⟩, -⟩, -⟩, -⟩, -⟩, -⟩, -⟩, -⟩, -⟩, f13⟩, -⟩, -⟩, f16⟩, f17⟩ w1 hC1 E hE
    dsimp only at hE ⊢
    simp only [puts, act_put, act_put_none, List.setIfInBounds_toArray, List.set_cons_zero, List.set_cons_succ, f13, f16, f17] at hE ⊢
    clear f13 f16 f17
    go_wp2_with fail
    refine calls_then (CE5.out _) ?_
    rintro e w2 ⟨rfl, hb2⟩
    go_wp2_with fail
    exact .mk (hE _ (hC1.next hb2))
  apply DetL.next
  · -- 19: Op.pick (Operand.tmp 57) (Operand.tmp 62) (Operand.const (Value.bool false))
    apply detStep_plain [(13, some 57), (18, some 62)]
    exact fun _ => rfl
    rfl
    rintro vals ⟨⟨⟨⟨⟨⟨⟨⟨⟨⟨⟨⟨⟨⟨⟨⟨⟨⟨⟨-, -⟩, -⟩, -⟩, -⟩, -⟩, -⟩, -⟩, -⟩, -⟩, -⟩, -⟩, -⟩, -⟩, f13⟩, -⟩, -⟩, -⟩, -⟩, f18⟩ w1 hC1 E hE
    simp only [puts, act_put, act_put_none, List.setIfInBounds_toArray, List.set_cons_zero, List.set_cons_succ, f13, f18] at hE ⊢
    clear f13 f18
    go_wp2
    exact .mk (hE _ hC1)
  apply DetL.last
  · -- 20: Op.assign (Operand.tmp 63)
    apply detStep_plain [(19, some 63), (18, some 62), (0, some 44), (1, some 45), (2, some 46), (3, some 47), (4, some 48), (5, some 49), (6, some 50), (7, some 51), (8, some 52), (9, some 53), (10, some 54), (11, some 55), (12, some 56), (13, some 57), (14, some 58), (15, some 59), (16, some 60), (17, some 61), (18, some 62), (19, some 63)]
    exact fun _ => rfl
    rfl
    rintro vals ⟨⟨⟨⟨⟨⟨⟨⟨⟨⟨⟨⟨⟨⟨⟨⟨⟨⟨⟨⟨-, f0⟩, f1⟩, f2⟩, f3⟩, f4⟩, f5⟩, f6⟩, f7⟩, f8⟩, f9⟩, f10⟩, f11⟩, f12⟩, f13⟩, f14⟩, f15⟩, f16⟩, f17⟩, f18⟩, f19⟩ w1 hC1 E hE
    simp only [puts, act_put, act_put_none, List.setIfInBounds_toArray, List.set_cons_zero, List.set_cons_succ, f0, f1, f2, f3, f4, f5, f6, f7, f8, f9, f10, f11, f12, f13, f14, f15, f16, f17, f18, f19] at hE ⊢
    clear f0 f1 f2 f3 f4 f5 f6 f7 f8 f9 f10 f11 f12 f13 f14 f15 f16 f17 f18 f19
    go_wp2
    exact .mk (hE _ hC1)
  rintro vals ⟨⟨⟨⟨⟨⟨⟨⟨⟨⟨⟨⟨⟨⟨⟨⟨⟨⟨⟨⟨⟨-, f0⟩, f1⟩, f2⟩, f3⟩, f4⟩, f5⟩, f6⟩, f7⟩, f8⟩, f9⟩, f10⟩, f11⟩, f12⟩, f13⟩, f14⟩, f15⟩, f16⟩, f17⟩, f18⟩, f19⟩, f20⟩ w1 hC1
  simp only [puts, act_put, act_put_none, List.setIfInBounds_toArray, List.set_cons_zero, List.set_cons_succ, f0, f1, f2, f3, f4, f5, f6, f7, f8, f9, f10, f11, f12, f13, f14, f15, f16, f17, f18, f19, f20]
  clear f0 f1 f2 f3 f4 f5 f6 f7 f8 f9 f10 f11 f12 f13 f14 f15 f16 f17 f18 f19 f20
  have HST14 := Lib.hid hC1
  clear hC1 HC0
  go_wp2_with fail
  refine calls_then (clives_any _) ?_
  rintro e w15 ⟨rfl, hb⟩
  have HST15 := Lib.hid (HST14.out.next hb)
  clear hb HST14
  go_wp2_with fail
  go_ret
  exact ⟨rfl, HST15.out.2⟩
end Go.Proofs.Ytbeokfpbhemcfaa
