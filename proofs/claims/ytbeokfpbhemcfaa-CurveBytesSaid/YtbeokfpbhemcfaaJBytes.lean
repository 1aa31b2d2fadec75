/-
  PROVED: 'brevetlaw05.CurveBytes': at every input the law returns true; what came in reads as before.
-/
import Derived.Test.YtbeokfpbhemcfaaJ11
import Derived.Test.YtbeokfpbhemcfaaJ1
/-
  Walk: the law CurveBytes.
-/
namespace Go.Proofs.Ytbeokfpbhemcfaa
set_option linter.unusedSimpArgs false
set_option linter.unusedVariables false
open Go.RowKit

set_option maxRecDepth 100000 in
set_option maxHeartbeats 4000000 in
theorem cbytes_any (l m : List UInt8) (A B' : Option Addr) (c d : Nat) (w : World) (hr : Rd w w.heap.size A (bytesV l)) (hs : Rd w w.heap.size B' (bytesV m)) (hc : l.length ≤ c) (hd : m.length ≤ d) :
    Calls Try.prog 9 #[.slice A l.length c, .slice B' m.length d] w (BoolPost true w) := by
  have hp := Try.underlying28
  obtain ⟨B, hB⟩ : ∃ B, B = baseP := ⟨_, rfl⟩
  have okB : B.Ok := by rw [hB]; exact baseP_ok
  have isB : Is B baseF := by rw [hB]; exact is_base
  have CB := Lib.hid (show ∀ u, Calls Try.prog 10 #[] u (PtPost B u) from fun u => by rw [hB]; exact base_any u)
  clear hB
  obtain ⟨n1, hn1⟩ : ∃ x, x = l.length := ⟨_, rfl⟩
  obtain ⟨La, hLa⟩ : ∃ x, x = l.take 32 := ⟨_, rfl⟩
  have rLa : Rd w w.heap.size A (bytesV La) := by rw [hLa]; exact rd_takeB hr
  obtain ⟨p1, hp1⟩ : ∃ x, x = La.length := ⟨_, rfl⟩
  have lep1 : p1 ≤ c := by rw [hp1, hLa, List.length_take]; omega
  have FLa := Lib.hid (show ∀ u, Calls Try.prog 12 #[.slice A n1 c, .int .i64 32] u (fun e w' => e = .returned (.slice A p1 c) ∧ w' = u) from fun u => by
    rw [hp1, hLa, hn1]; exact few_any l 32 (by decide) A c u (nil_len' hr) hc)
  obtain ⟨P, hP⟩ : ∃ x, x = mulP B La := ⟨_, rfl⟩
  have okP : P.Ok := by rw [hP]; exact mulP_ok okB _
  have isP := Is.mul okB isB La
  rw [← hP] at isP
  have CP := Lib.hid (show ∀ u A c, p1 ≤ c → Rd u u.heap.size A (bytesV La) → Calls Try.prog 11 #[.agg (ptV B), .slice A p1 c] u (PtPost P u) from fun u A c hc hr => by rw [hP, hp1]; exact pmul_any B okB La A c u hr (by rw [← hp1]; exact hc))
  clear hP
  obtain ⟨PF, isP'⟩ : ∃ F, Is P F := ⟨_, isP⟩
  clear isP
  have isP := isP'
  clear isP'
  obtain ⟨n2, hn2⟩ : ∃ x, x = m.length := ⟨_, rfl⟩
  obtain ⟨Lb, hLb⟩ : ∃ x, x = m.take 32 := ⟨_, rfl⟩
  have rLb : Rd w w.heap.size B' (bytesV Lb) := by rw [hLb]; exact rd_takeB hs
  obtain ⟨p2, hp2⟩ : ∃ x, x = Lb.length := ⟨_, rfl⟩
  have lep2 : p2 ≤ d := by rw [hp2, hLb, List.length_take]; omega
  have FLb := Lib.hid (show ∀ u, Calls Try.prog 12 #[.slice B' n2 d, .int .i64 32] u (fun e w' => e = .returned (.slice B' p2 d) ∧ w' = u) from fun u => by
    rw [hp2, hLb, hn2]; exact few_any m 32 (by decide) B' d u (nil_len' hs) hd)
  obtain ⟨Q, hQ⟩ : ∃ x, x = mulP B Lb := ⟨_, rfl⟩
  have okQ : Q.Ok := by rw [hQ]; exact mulP_ok okB _
  have isQ := Is.mul okB isB Lb
  rw [← hQ] at isQ
  have CQ := Lib.hid (show ∀ u A c, p2 ≤ c → Rd u u.heap.size A (bytesV Lb) → Calls Try.prog 11 #[.agg (ptV B), .slice A p2 c] u (PtPost Q u) from fun u A c hc hr => by rw [hQ, hp2]; exact pmul_any B okB Lb A c u hr (by rw [← hp2]; exact hc))
  clear hQ
  obtain ⟨QF, isQ'⟩ : ∃ F, Is Q F := ⟨_, isQ⟩
  clear isQ
  have isQ := isQ'
  clear isQ'
  obtain ⟨Mp, hMp⟩ : ∃ x, x = bytP P := ⟨_, rfl⟩
  have hFp : Mp = byF PF := by rw [hMp]; exact bytP_is okP isP
  have hdp : Dg Mp := by rw [hFp]; exact byP_dg PF.y.isLt
  have hlp : Mp.length = 32 := by rw [hFp]; exact byP_len _ _
  obtain ⟨Bp, hBp⟩ : ∃ b : List UInt8, digs b = Mp := ⟨toB Mp, digs_ofNat _ hdp⟩
  have hvp : bnV Mp = bytesV Bp := by rw [← hBp, bnV_digs]
  have lBp : Bp.length = 32 := by rw [← hlp, ← hBp, digs, List.length_map]
  have CYp := Lib.hid (show ∀ u, Calls Try.prog 14 #[.agg (ptV P)] u (ByPost Mp u) from fun u => by rw [hMp]; exact pby_by P okP u)
  have CSp := Lib.hid (show ∀ u A c, Rd u u.heap.size A (bnV Mp) → (convert 22 9 (.slice A 32 c)).run Try.prog u = .ok (.string ⟨(toB Mp).toArray⟩) u from fun u A c hr => conv_bn hdp hlp hr c)
  obtain ⟨Mq, hMq⟩ : ∃ x, x = bytP Q := ⟨_, rfl⟩
  have hFq : Mq = byF QF := by rw [hMq]; exact bytP_is okQ isQ
  have hdq : Dg Mq := by rw [hFq]; exact byP_dg QF.y.isLt
  have hlq : Mq.length = 32 := by rw [hFq]; exact byP_len _ _
  obtain ⟨Bq, hBq⟩ : ∃ b : List UInt8, digs b = Mq := ⟨toB Mq, digs_ofNat _ hdq⟩
  have hvq : bnV Mq = bytesV Bq := by rw [← hBq, bnV_digs]
  have lBq : Bq.length = 32 := by rw [← hlq, ← hBq, digs, List.length_map]
  have CYq := Lib.hid (show ∀ u, Calls Try.prog 14 #[.agg (ptV Q)] u (ByPost Mq u) from fun u => by rw [hMq]; exact pby_by Q okQ u)
  have CSq := Lib.hid (show ∀ u A c, Rd u u.heap.size A (bnV Mq) → (convert 22 9 (.slice A 32 c)).run Try.prog u = .ok (.string ⟨(toB Mq).toArray⟩) u from fun u A c hr => conv_bn hdq hlq hr c)
  obtain ⟨X, hX⟩ : ∃ x, x = (crd Bp).1 := ⟨_, rfl⟩
  have hcr := crd_is (P := PF) (hBp.trans hFp)
  have okX : X.Ok := by rw [hX]; exact hcr.2.1
  have isX : Is X PF := by rw [hX]; exact hcr.2.2
  have CRD := Lib.hid (show ∀ u A c, 32 ≤ c → Rd u u.heap.size A (bnV Mp) → Calls Try.prog 27 #[.slice A 32 c] u (fun e w' => e = .returned (.tuple #[.agg (ptV X), .int .i64 0]) ∧ Below u.heap.size u w') from fun u A c hc hr => by
    have h := cread_any Bp A c u (by rw [← hvp]; exact hr) (by rw [lBp]; exact hc) (by rw [lBp]; decide)
    rw [lBp] at h
    exact h.mono fun e w' q => ⟨by rw [q.1, hX, hcr.1]; rfl, q.2⟩)
  obtain ⟨eb, heb⟩ : ∃ b, b = eqP P Q := ⟨_, rfl⟩
  obtain ⟨SP, hSP⟩ : ∃ x : ByteArray, x = ⟨(toB Mp).toArray⟩ := ⟨_, rfl⟩
  obtain ⟨SQ, hSQ⟩ : ∃ x : ByteArray, x = ⟨(toB Mq).toArray⟩ := ⟨_, rfl⟩
  have hsame : (SP.toList == SQ.toList) = eb := by
    rw [heb, Bool.eq_iff_iff, beq_iff_eq, eqP_is okP okQ isP isQ, hSP, hSQ, toList_eq, toList_eq]
    show toB Mp = toB Mq ↔ _
    constructor
    · intro h1
      have h2 : digs (toB Mp) = digs (toB Mq) := by rw [h1]
      rw [toB, toB, digs_ofNat _ hdp, digs_ofNat _ hdq, hFp, hFq] at h2
      exact byF_inj h2
    · intro h
      rw [hFp, hFq, h]
  rw [← hSP] at CSp
  rw [← hSQ] at CSq
  have CE1 := Lib.hid (show ∀ u, Calls Try.prog 22 #[.agg (ptV X), .agg (ptV P)] u (BoolPost true u) from fun u => by
    have h := pequal_any X P u okX okP
    rw [(eqP_is okX okP isX isP).2 (rfl)] at h
    exact h)
  have CE2 := Lib.hid (show ∀ u, Calls Try.prog 22 #[.agg (ptV P), .agg (ptV Q)] u (BoolPost eb u) from fun u => by
    have h := pequal_any P Q u okP okQ
    rw [show eqP P Q = eb from heb.symm] at h
    exact h)
  have HST0 := Lib.hid (show Cs [.rd A (bytesV La), .rd B' (bytesV Lb)] w w from ⟨⟨rLa, rLb, trivial⟩, Below.refl _ _⟩)
  rw [← hn1, ← hn2]
  have LE1 := Lib.hid lep1
  have LE2 := Lib.hid lep2
  have HSM := Lib.hid hsame
  clear hr hs hc hd rLa rLb lep1 lep2 hp1 hp2 hn1 hn2 hLa hLb hX hcr heb hSP hSQ hsame okB isB okP isP okQ isQ okX isX hMp hFp hdp hlp hBp hvp lBp hMq hFq hdq hlq hBq hvq lBq
  go_enter Try.func9, Try.ntmps9
  go_wp2_with fail
  refine calls_then (CB.out _) ?_
  rintro e y1 ⟨rfl, hb⟩
  have HST1 := Lib.hid (HST0.out.next hb)
  clear hb HST0
  go_wp2_with fail
  refine calls_then (FLa.out _) ?_
  rintro e u1 ⟨rfl, hq⟩
  have hq' := hq.symm
  clear hq
  subst hq'
  go_wp2_with fail
  refine calls_then (CP.out _ _ _ LE1.out (HST1.out.1.1)) ?_
  rintro e y3 ⟨rfl, hb⟩
  have HST3 := Lib.hid (HST1.out.next hb)
  clear hb HST1
  go_wp2_with (refine wpList_put_box (x := .tmp 5) (cells := ptV P) (Blk.new _ _ _) rfl rfl rfl rfl point_size rfl (by simp [ptV, wV, limbs, Value.oneCell']) ?_; intro y4 hb hw; have hk := box_low hw; have HST4 := Lib.hid (show Cs [.box y3.heap.size 28 (ptV P), .rd A (bytesV La), .rd B' (bytesV Lb)] w y4 from ⟨⟨hb, (HST3.out.next hk).1⟩, (HST3.out.next hk).2⟩); clear hb hw hk HST3)
  generalize y3.heap.size = g1 at *
  refine calls_then (CB.out _) ?_
  rintro e y5 ⟨rfl, hb⟩
  have HST5 := Lib.hid (HST4.out.next hb)
  clear hb HST4
  go_wp2_with fail
  refine calls_then (FLb.out _) ?_
  rintro e u5 ⟨rfl, hq⟩
  have hq' := hq.symm
  clear hq
  subst hq'
  go_wp2_with fail
  refine calls_then (CQ.out _ _ _ LE2.out (HST5.out.1.2.2.1)) ?_
  rintro e y7 ⟨rfl, hb⟩
  have HST7 := Lib.hid (HST5.out.next hb)
  clear hb HST5
  go_wp2_with (first | (refine wpList_put_box (x := .tmp 6) (cells := ptV Q) (Blk.new _ _ _) rfl rfl rfl rfl point_size rfl (by simp [ptV, wV, limbs, Value.oneCell']) ?_; intro y8 hb hw; have hk := box_low hw; have HST8 := Lib.hid (show Cs [.box y7.heap.size 28 (ptV Q), .box g1 28 (ptV P), .rd A (bytesV La), .rd B' (bytesV Lb)] w y8 from ⟨⟨hb, (HST7.out.next hk).1⟩, (HST7.out.next hk).2⟩); clear hb hw hk HST7) | (refine wpList_get_box (x := .tmp 5) (HST8.out.1.2.1) rfl rfl rfl hp rfl point_size ?_))
  generalize y7.heap.size = g2 at *
  refine calls_then (CYp.out _) ?_
  rintro e y9 ⟨Ap, cp, rfl, hc, hr, hb⟩
  have HST9 := Lib.hid (show Cs [.rd Ap (bnV Mp), .box g2 28 (ptV Q), .box g1 28 (ptV P), .rd A (bytesV La), .rd B' (bytesV Lb)] w y9 from ⟨⟨hr, (HST8.out.next hb).1⟩, (HST8.out.next hb).2⟩)
  clear hb HST8
  have LEp := Lib.hid hc
  clear hc hr
  go_wp2_with fail
  refine calls_then (CRD.out _ _ _ LEp.out (HST9.out.1.1)) ?_
  rintro e y10 ⟨rfl, hb⟩
  have HST10 := Lib.hid (HST9.out.next hb)
  clear hb HST9
  go_wp2_with (refine wpList_put_box (x := .tmp 7) (cells := ptV X) (Blk.new _ _ _) rfl rfl rfl rfl point_size rfl (by simp [ptV, wV, limbs, Value.oneCell']) ?_; intro y11 hb hw; have hk := box_low hw; have HST11 := Lib.hid (show Cs [.box y10.heap.size 28 (ptV X), .rd Ap (bnV Mp), .box g2 28 (ptV Q), .box g1 28 (ptV P), .rd A (bytesV La), .rd B' (bytesV Lb)] w y11 from ⟨⟨hb, (HST10.out.next hk).1⟩, (HST10.out.next hk).2⟩); clear hb hw hk HST10)
  generalize y10.heap.size = g3 at *
  have HC0 := HST11.out.drew
  clear HST11
  refine wp_region_list (fun u => Cs [.box g3 28 (ptV X), .rd Ap (bnV Mp), .box g2 28 (ptV Q), .box g1 28 (ptV P), .rd A (bytesV La), .rd B' (bytesV Lb)] w u) (fun | false => (fun _ => True) | true => (fun _ => True)) (fun | false, _ => false | true, _ => false)
    [fun z _ => z 0 = .agg (ptV P),
     fun z u => (RdV 32 (bnV Mp)) (z 1) u,
     fun z _ => z 2 = .string SP,
     fun z _ => z 3 = .agg (ptV Q),
     fun z u => (RdV 32 (bnV Mq)) (z 4) u,
     fun z _ => z 5 = .string SQ,
     fun z _ => z 6 = .bool eb,
     fun z _ => z 7 = .bool eb]
    [Eq, fun u u' => Below u.heap.size u u', Eq, Eq, fun u u' => Below u.heap.size u u', Eq, Eq, Eq]
    (fun _ _ => false) [(0, some 24), (1, some 25), (2, some 26), (3, some 27), (4, some 28), (5, some 29), (6, some 30), (7, some 9)] (by kernel_rfl) (by kernel_rfl) rfl (fun _ => rfl) ?_ ?_ ?_ ?_ ?_ ?_
  · exact HC0
  · intro m; cases m; exact trivial; exact trivial
  · intro m; cases m
    · exact ⟨.inr (fun _ _ h h0 => h ▸ h0), .inr (fun _ _ _ h => h), .inr (fun _ _ h h0 => h ▸ h0), .inr (fun _ _ h h0 => h ▸ h0), .inr (fun _ _ _ h => h), .inr (fun _ _ h h0 => h ▸ h0), .inr (fun _ _ h h0 => h ▸ h0), .inr (fun _ _ h h0 => h ▸ h0), trivial⟩
    · exact ⟨.inr (fun _ _ h h0 => h ▸ h0), .inr (fun _ _ _ h => h), .inr (fun _ _ h h0 => h ▸ h0), .inr (fun _ _ h h0 => h ▸ h0), .inr (fun _ _ _ h => h), .inr (fun _ _ h h0 => h ▸ h0), .inr (fun _ _ h h0 => h ▸ h0), .inr (fun _ _ h h0 => h ▸ h0), trivial⟩
  · exact ⟨⟨.inl rfl, .inr (.inr (.inl rfl)), .inr (.inr (.inl rfl)), .inr (.inr (.inr (fun _ _ _ _ _ h => h))), .inr (.inr (.inl rfl)), .inr (.inr (.inl rfl)), .inr (.inr (.inl rfl)), .inr (.inr (.inl rfl)), trivial⟩,
      ⟨.inr (.inr (.inr (fun _ _ _ _ _ h => h))), .inl rfl, .inr (.inr (.inl rfl)), .inr (.inr (.inr (fun _ _ _ _ _ h => h))), .inr (.inr (.inl rfl)), .inr (.inr (.inl rfl)), .inr (.inr (.inl rfl)), .inr (.inr (.inl rfl)), trivial⟩,
      ⟨.inr (.inr (.inr (fun _ _ _ _ _ h => h))), .inr (.inr (.inr (fun _ _ _ _ h h0 => by cases h; exact h0))), .inl rfl, .inr (.inr (.inr (fun _ _ _ _ _ h => h))), .inr (.inr (.inr (fun _ _ _ _ h h0 => by cases h; exact h0))), .inr (.inr (.inr (fun _ _ _ _ _ h => h))), .inr (.inr (.inl rfl)), .inr (.inr (.inl rfl)), trivial⟩,
      ⟨.inr (.inr (.inr (fun _ _ _ _ _ h => h))), .inr (.inr (.inr (fun _ _ _ _ h h0 => by cases h; exact h0))), .inr (.inr (.inr (fun _ _ _ _ _ h => h))), .inl rfl, .inr (.inr (.inl rfl)), .inr (.inr (.inl rfl)), .inr (.inr (.inl rfl)), .inr (.inr (.inl rfl)), trivial⟩,
      ⟨.inr (.inr (.inr (fun _ _ _ _ _ h => h))), .inr (.inr (.inr (fun _ _ _ _ h h0 => h0.next h))), .inr (.inr (.inr (fun _ _ _ _ _ h => h))), .inr (.inr (.inr (fun _ _ _ _ _ h => h))), .inl rfl, .inr (.inr (.inl rfl)), .inr (.inr (.inl rfl)), .inr (.inr (.inl rfl)), trivial⟩,
      ⟨.inr (.inr (.inr (fun _ _ _ _ _ h => h))), .inr (.inr (.inr (fun _ _ _ _ h h0 => by cases h; exact h0))), .inr (.inr (.inr (fun _ _ _ _ _ h => h))), .inr (.inr (.inr (fun _ _ _ _ _ h => h))), .inr (.inr (.inr (fun _ _ _ _ h h0 => by cases h; exact h0))), .inl rfl, .inr (.inr (.inl rfl)), .inr (.inr (.inl rfl)), trivial⟩,
      ⟨.inr (.inr (.inr (fun _ _ _ _ _ h => h))), .inr (.inr (.inr (fun _ _ _ _ h h0 => by cases h; exact h0))), .inr (.inr (.inr (fun _ _ _ _ _ h => h))), .inr (.inr (.inr (fun _ _ _ _ _ h => h))), .inr (.inr (.inr (fun _ _ _ _ h h0 => by cases h; exact h0))), .inr (.inr (.inr (fun _ _ _ _ _ h => h))), .inl rfl, .inr (.inr (.inl rfl)), trivial⟩,
      ⟨.inr (.inr (.inr (fun _ _ _ _ _ h => h))), .inr (.inr (.inr (fun _ _ _ _ h h0 => by cases h; exact h0))), .inr (.inr (.inr (fun _ _ _ _ _ h => h))), .inr (.inr (.inr (fun _ _ _ _ _ h => h))), .inr (.inr (.inr (fun _ _ _ _ h h0 => by cases h; exact h0))), .inr (.inr (.inr (fun _ _ _ _ _ h => h))), .inr (.inr (.inr (fun _ _ _ _ _ h => h))), .inl rfl, trivial⟩, trivial⟩
  · refine ⟨?_, ?_, ?_, ?_, ?_, ?_, ?_, ?_, trivial⟩
    · -- 0: Op.load 28 (Operand.tmp 5)
      refine step_plain [] (fun _ => rfl) rfl ?_
      intro w1 vals hC1 hi0 hf E hE
      clear hi0
      clear hf
      simp only [puts, act_put, act_put_none, List.setIfInBounds_toArray, List.set_cons_zero, List.set_cons_succ] at hE ⊢
      refine wpList_get_box (hC1.1.2.2.2.1) rfl rfl rfl hp rfl point_size ?_
      go_wp2_with fail
      exact .mk (hE _ _ rfl hC1 rfl)
    · -- 1: Op.call { callee := Callee.value (Operand.func 14), args := #[Operand.tmp 24], argTypes := #[28] }
      refine step_plain [(0, some 24)] (fun _ => rfl) rfl ?_
      intro w1 vals hC1 hi0 hf E hE
      clear hi0
      have f0 : vals 0 = .agg (ptV P) := hf 0 rfl
      try dsimp only at f0
      clear hf
      simp only [puts, act_put, act_put_none, List.setIfInBounds_toArray, List.set_cons_zero, List.set_cons_succ, f0] at hE ⊢
      clear f0
      go_wp2_with fail
      refine calls_then (CYp.out _) ?_
      rintro e w2 ⟨A2, c2, rfl, hc2, hr2, hb2⟩
      go_wp2_with fail
      exact .mk (hE _ _ ⟨A2, c2, rfl, hc2, hr2⟩ (hC1.next hb2) hb2)
    · -- 2: Op.convert 22 9 (Operand.tmp 25)
      refine step_plain [(1, some 25)] (fun _ => rfl) rfl ?_
      intro w1 vals hC1 hi0 hf E hE
      clear hi0
      have f1 : (RdV 32 (bnV Mp)) (vals 1) w1 := hf 1 rfl
      try dsimp only at f1
      clear hf
      obtain ⟨A2, c2, hx2, hc2, hr2⟩ := f1
      simp only [puts, act_put, act_put_none, List.setIfInBounds_toArray, List.set_cons_zero, List.set_cons_succ, hx2] at hE ⊢
      clear hx2
      have cv := CSp.out _ A2 c2 hr2
      go_wp2_with fail
      exact .mk (hE _ _ rfl hC1 rfl)
    · -- 3: Op.load 28 (Operand.tmp 6)
      refine step_plain [] (fun _ => rfl) rfl ?_
      intro w1 vals hC1 hi0 hf E hE
      clear hi0
      clear hf
      simp only [puts, act_put, act_put_none, List.setIfInBounds_toArray, List.set_cons_zero, List.set_cons_succ] at hE ⊢
      refine wpList_get_box (hC1.1.2.2.1) rfl rfl rfl hp rfl point_size ?_
      go_wp2_with fail
      exact .mk (hE _ _ rfl hC1 rfl)
    · -- 4: Op.call { callee := Callee.value (Operand.func 14), args := #[Operand.tmp 27], argTypes := #[28] }
      refine step_plain [(3, some 27), (1, some 25)] (fun _ => rfl) rfl ?_
      intro w1 vals hC1 hi0 hf E hE
      clear hi0
      have f1 : (RdV 32 (bnV Mp)) (vals 1) w1 := hf 1 rfl
      have f3 : vals 3 = .agg (ptV Q) := hf 3 rfl
      try dsimp only at f1 f3
      clear hf
      simp only [puts, act_put, act_put_none, List.setIfInBounds_toArray, List.set_cons_zero, List.set_cons_succ, f3] at hE ⊢
      clear f3
      go_wp2_with fail
      refine calls_then (CYq.out _) ?_
      rintro e w2 ⟨A2, c2, rfl, hc2, hr2, hb2⟩
      go_wp2_with fail
      exact .mk (hE _ _ ⟨A2, c2, rfl, hc2, hr2⟩ (hC1.next hb2) hb2)
    · -- 5: Op.convert 22 9 (Operand.tmp 28)
      refine step_plain [(4, some 28)] (fun _ => rfl) rfl ?_
      intro w1 vals hC1 hi0 hf E hE
      clear hi0
      have f4 : (RdV 32 (bnV Mq)) (vals 4) w1 := hf 4 rfl
      try dsimp only at f4
      clear hf
      obtain ⟨A2, c2, hx2, hc2, hr2⟩ := f4
      simp only [puts, act_put, act_put_none, List.setIfInBounds_toArray, List.set_cons_zero, List.set_cons_succ, hx2] at hE ⊢
      clear hx2
      have cv := CSq.out _ A2 c2 hr2
      go_wp2_with fail
      exact .mk (hE _ _ rfl hC1 rfl)
    · -- 6: Op.binOp BinOp.eql 9 (Operand.tmp 26) (Operand.tmp 29) 9
      refine step_plain [(2, some 26), (5, some 29)] (fun _ => rfl) rfl ?_
      intro w1 vals hC1 hi0 hf E hE
      clear hi0
      have f2 : vals 2 = .string SP := hf 2 rfl
      have f5 : vals 5 = .string SQ := hf 5 rfl
      try dsimp only at f2 f5
      clear hf
      have hsm := HSM.out
      simp only [puts, act_put, act_put_none, List.setIfInBounds_toArray, List.set_cons_zero, List.set_cons_succ, f2, f5] at hE ⊢
      clear f2 f5
      go_wp2
      exact .mk (hE _ _ rfl hC1 rfl)
    · -- 7: Op.assign (Operand.tmp 30)
      refine step_plain [(6, some 30), (4, some 28), (0, some 24), (1, some 25), (2, some 26), (3, some 27), (4, some 28), (5, some 29), (6, some 30)] (fun _ => rfl) rfl ?_
      intro w1 vals hC1 hi0 hf E hE
      clear hi0
      have f0 : vals 0 = .agg (ptV P) := hf 0 rfl
      have f1 : (RdV 32 (bnV Mp)) (vals 1) w1 := hf 1 rfl
      have f2 : vals 2 = .string SP := hf 2 rfl
      have f3 : vals 3 = .agg (ptV Q) := hf 3 rfl
      have f4 : (RdV 32 (bnV Mq)) (vals 4) w1 := hf 4 rfl
      have f5 : vals 5 = .string SQ := hf 5 rfl
      have f6 : vals 6 = .bool eb := hf 6 rfl
      try dsimp only at f0 f1 f2 f3 f4 f5 f6
      clear hf
      simp only [puts, act_put, act_put_none, List.setIfInBounds_toArray, List.set_cons_zero, List.set_cons_succ, f0, f2, f3, f5, f6] at hE ⊢
      clear f0 f2 f3 f5 f6
      go_wp2
      exact .mk (hE _ _ rfl hC1 rfl)
  intro w1 vals hC1 hf
  have f0 : vals 0 = .agg (ptV P) := hf 0 (by decide) rfl
  have f1 : (RdV 32 (bnV Mp)) (vals 1) w1 := hf 1 (by decide) rfl
  have f2 : vals 2 = .string SP := hf 2 (by decide) rfl
  have f3 : vals 3 = .agg (ptV Q) := hf 3 (by decide) rfl
  have f4 : (RdV 32 (bnV Mq)) (vals 4) w1 := hf 4 (by decide) rfl
  have f5 : vals 5 = .string SQ := hf 5 (by decide) rfl
  have f6 : vals 6 = .bool eb := hf 6 (by decide) rfl
  have f7 : vals 7 = .bool eb := hf 7 (by decide) rfl
  try dsimp only at f0 f1 f2 f3 f4 f5 f6 f7
  clear hf
  simp only [puts, act_put, act_put_none, List.setIfInBounds_toArray, List.set_cons_zero, List.set_cons_succ, f0, f2, f3, f5, f6, f7]
  clear f0 f2 f3 f5 f6 f7
  generalize vals 1 = x1 at *
  generalize vals 4 = x4 at *
  have HST12 := Lib.hid hC1
  clear hC1 HC0
  go_wp2_with (first | (refine wpList_get_boxg (x := .tmp 7) (HST12.out.1.1) rfl rfl rfl hp rfl point_size ?_) | (refine wpList_get_boxg (x := .tmp 5) (HST12.out.1.2.2.2.1) rfl rfl rfl hp rfl point_size ?_))
  refine calls_then (CE1.out _) ?_
  rintro e z1 ⟨rfl, hb⟩
  have HSTa := Lib.hid (HST12.out.next hb)
  clear hb HST12
  go_wp2_with (first | (refine wpList_get_boxg (x := .tmp 5) (HSTa.out.1.2.2.2.1) rfl rfl rfl hp rfl point_size ?_) | (refine wpList_get_boxg (x := .tmp 6) (HSTa.out.1.2.2.1) rfl rfl rfl hp rfl point_size ?_))
  refine calls_then (CE2.out _) ?_
  rintro e z2 ⟨rfl, hb⟩
  have HSTb := Lib.hid (HSTa.out.next hb)
  clear hb HSTa
  go_wp2_with fail
  refine calls_then (clives_any _) ?_
  rintro e z3 ⟨rfl, hb⟩
  have HSTc := Lib.hid (HSTb.out.next hb)
  clear hb HSTb
  go_wp2_with fail
  go_ret
  exact ⟨rfl, HSTc.out.2⟩
end Go.Proofs.Ytbeokfpbhemcfaa
namespace Go.Proofs.Ytbeokfpbhemcfaa.curveBytes
set_option linter.unusedSimpArgs false
set_option linter.unusedVariables false
open Go.ChangeShapes Go.WideShapes Go.ChangeAt Go.RowKit Go.Joins

set_option maxRecDepth 100000 in
theorem lifted (os : Os) (started : os.Started) (H : Type) (enc : TypeId × Value → H) :
    ReturnsInHanded {} Try.checked os 9 .any (Rows.curveBytesSpec.pre6 enc Try.prog Try.f9 Rows.curveBytesRow.domain false) (Rows.curveBytesSpec.post enc Try.prog Try.f9 false true false false) := by
  refine returnsInHanded_of_change (C := Try.checked) own started (by kernel_rfl) Try.func9
    (ChangeSpec.witness6 (enc := enc) (C := Try.checked) false ⟨#[], #[.slice none 0 0, .slice none 0 0], []⟩ 8 (by kernel_rfl) (by kernel_rfl) (by kernel_rfl) (by kernel_rfl)) ?_
  intro W base args ds gs before hval0 hW hcnd _
  have hval : ∀ (j : Nat) t v, Try.f9.params[j]? = some t → args[j]? = some v → Value.okWide Try.prog W .any base t v := hval0
  have hW' := hW
  obtain ⟨p, q, hA0, hV, rfl, hfz, hnd⟩ := hW
  have hA : DataW.TrodAll enc Try.prog W 0 (fun _ => true) true Try.f9.params.toList args.toList ds p := hA0
  rw [Try.params9] at hA hval
  obtain ⟨v0, v1, d0, d1, p0, p1, rfl, rfl, rfl, h0, h1⟩ := trodAll_two hA
  obtain ⟨rfl, rfl⟩ := trodVars_none hV
  have h0k := h0
  have h1k := h1
  obtain ⟨l0, A0, c0, rfl, r0, q0, o0⟩ := open_bytes_arg (hval 0 22 v0 rfl rfl) h0
  obtain ⟨l1, A1, c1, rfl, r1, q1, o1⟩ := open_bytes_arg (hval 1 22 v1 rfl rfl) h1
  clear hA0 hval0
  simp only [List.append_nil] at hW'
  refine (cbytes_any l0 l1 A0 A1 c0 c1 W r0 r1 q0 q1).mono fun e W' ⟨he, hb⟩ => ?_
  subst he
  have hlt : ∀ x ∈ p0 ++ p1, x.block < W.heap.size := fun x hx => hW'.lt x (by simpa using hx)
  exact ⟨_, rfl, post_of_below (pa := p0 ++ p1) (pv := []) hW' (fun _ _ _ => trodAll_mk1 (shut_bool Try.underlying4 _))
    (fun sp hsp => trodAll_mk2 (stays laidOut (by kernel_rfl) (of_decide_eq_true (by kernel_rfl)) h0k hb (fun x hx => hlt x (by simp [hx])) (fun x hx => hsp x (by simp [hx])))
      (stays laidOut (by kernel_rfl) (of_decide_eq_true (by kernel_rfl)) h1k hb (fun x hx => hlt x (by simp [hx])) (fun x hx => hsp x (by simp [hx]))))
    (fun _ _ => rfl) (by simp) hb (ok_one (by kernel_rfl) rfl (okWide_bool_mk Try.underlying4 _))⟩

theorem holds : Rows.CurveBytesSaid :=
  OpenClaim.holds_of_wide 9 Try.f9 rfl rfl rfl rfl rfl rfl rfl ⟨rfl, rfl, rfl, rfl, rfl⟩ rfl rfl rfl rfl rfl (by kernel_rfl) Try.func9 (by kernel_rfl)
    (of_decide_eq_true (by kernel_rfl)) (by unfold Func.isWrapper; first | (rw [if_pos (by decide +kernel)]; kernel_rfl) | (rw [if_neg (by decide +kernel)]; exact ⟨rfl, rfl⟩))
    (fun os started H enc _ => lifted os started H enc)

#print axioms holds
end Go.Proofs.Ytbeokfpbhemcfaa.curveBytes
