/-
  PROVED: 'brevetlaw05.CurveBase': at every input the law returns true; what came in reads as before.
-/
import Derived.Test.YtbeokfpbhemcfaaJ11
import Derived.Test.YtbeokfpbhemcfaaJ12
import Derived.Test.YtbeokfpbhemcfaaJ1
/-
  Walk: the law CurveBase.
-/
namespace Go.Proofs.Ytbeokfpbhemcfaa
set_option linter.unusedSimpArgs false
set_option linter.unusedVariables false
open Go.RowKit

theorem Blk.apart {u : World} {g g' : Nat} {t t' : TypeId} {cs cs' : Array Value} (h : Blk u g t cs) (k : Blk u g' t' cs') (hne : t ≠ t') : g ≠ g' := by
  rintro rfl
  have e := Option.some.inj ((show _ = _ from h).symm.trans k)
  injection e with _ e2 _
  exact hne e2
/-- a pair that reads -/
def PrV (x y : Nat) (v : Value) (u : World) : Prop := ∃ A c B d, v = .agg (pairV (.slice A 32 c) (.slice B 32 d)) ∧ 32 ≤ d ∧ Rd u u.heap.size A (DN x) ∧ Rd u u.heap.size B (DN y)
theorem PrV.next {x y : Nat} {v : Value} {u u' : World} (h : PrV x y v u) (hb : Below u.heap.size u u') : PrV x y v u' := by
  obtain ⟨A, c, B, d, h1, h2, h3, h4⟩ := h
  exact ⟨A, c, B, d, h1, h2, rd_next h3 hb, rd_next h4 hb⟩
theorem base_by : bytP baseP = byP bxN byNN := by
  rw [bytP_is baseP_ok is_base, byF]
  show byP (fn bxN).val (fn byNN).val = _
  rw [fn_val_lt (by decide), fn_val_lt (by decide)]
theorem LB1 : (byN LN).set 0 236 = digs (byB (LN - 1)) := by rw [digs_byB]; decide
theorem LB0 : (byN LN)[0]? = some 237 := by decide
set_option maxRecDepth 100000 in
set_option maxHeartbeats 4000000 in
theorem cbase_any (n : Int) (w : World) (hwf : (Lit.int .u8 n).wf = true) : Calls Try.prog 6 #[.int .u8 n] w (BoolPost true w) := by
  have hp := Try.underlying28
  have hpt := Try.underlying34
  obtain ⟨hn0, hn1⟩ : 0 ≤ n ∧ n < 256 := by
    rw [Lit.wf, Bool.and_eq_true, decide_eq_true_iff, decide_eq_true_iff, show IntKind.u8.min = 0 by decide, show IntKind.u8.max = 255 by decide] at hwf
    omega
  obtain ⟨k, rfl⟩ : ∃ k : Nat, n = (k : Int) := ⟨n.toNat, by omega⟩
  have hk : k < 256 := by omega
  clear hwf
  obtain ⟨K, hK⟩ : ∃ K : List UInt8, K = [UInt8.ofNat k] := ⟨_, rfl⟩
  obtain ⟨L0, hL0⟩ : ∃ L, L = byN LN := ⟨_, rfl⟩
  obtain ⟨L1, hL1⟩ : ∃ L, L = byB (LN - 1) := ⟨_, rfl⟩
  obtain ⟨LL, hLL⟩ : ∃ L, L = LB := ⟨_, rfl⟩
  have hL0v : bnV L0 = bytesV LL := by rw [hL0, hLL, LB, ← bnV_digs, digs_byB]
  have hL1v : bnV (L0.set 0 236) = bytesV L1 := by rw [hL0, hL1, LB1, bnV_digs]
  have hKv : bytesV K = [.int .u8 (k : Int)] := by rw [hK]; simp [bytesV, byteV]; omega
  have nLL : 32 = LL.length := by rw [hLL, LB, byB_length]
  have nL1 : 32 = L1.length := by rw [hL1, byB_length]
  have nK : 1 = K.length := by rw [hK]; rfl
  obtain ⟨n32, e32⟩ : ∃ x, x = LL.length := ⟨_, rfl⟩
  obtain ⟨m32, f32⟩ : ∃ x, x = L1.length := ⟨_, rfl⟩
  obtain ⟨one, e1⟩ : ∃ x, x = K.length := ⟨_, rfl⟩
  obtain ⟨B, hB⟩ : ∃ B, B = baseP := ⟨_, rfl⟩
  have okB : B.Ok := by rw [hB]; exact baseP_ok
  have isB : Is B baseF := by rw [hB]; exact is_base
  have CB := Lib.hid (show ∀ u, Calls Try.prog 10 #[] u (PtPost B u) from fun u => by rw [hB]; exact base_any u)
  obtain ⟨Z, hZ⟩ : ∃ Z, Z = zeroP := ⟨_, rfl⟩
  have hZdef := hZ
  have okZ : Z.Ok := by rw [hZ]; exact zeroP_ok
  have isZ : Is Z zeroF := by rw [hZ]; exact is_zero
  have CZ := Lib.hid (show ∀ u, Calls Try.prog 26 #[] u (PtPost Z u) from fun u => by rw [hZ]; exact zero_any u)
  clear hZ
  have hn32 : n32 = LL.length := e32
  obtain ⟨ZR, hZR⟩ : ∃ x, x = mulP B LL := ⟨_, rfl⟩
  have okZR : ZR.Ok := by rw [hZR]; exact mulP_ok okB _
  have isZR := Is.mul okB isB LL
  rw [← hZR] at isZR
  have CZR := Lib.hid (show ∀ u A c, n32 ≤ c → Rd u u.heap.size A (bytesV LL) → Calls Try.prog 11 #[.agg (ptV B), .slice A n32 c] u (PtPost ZR u) from fun u A c hc hr => by rw [hZR, hn32]; exact pmul_any B okB LL A c u hr (by rw [← hn32]; exact hc))
  clear hZR
  have hm32 : m32 = L1.length := f32
  obtain ⟨BK, hBK⟩ : ∃ x, x = mulP B L1 := ⟨_, rfl⟩
  have okBK : BK.Ok := by rw [hBK]; exact mulP_ok okB _
  have isBK := Is.mul okB isB L1
  rw [← hBK] at isBK
  have CBK := Lib.hid (show ∀ u A c, m32 ≤ c → Rd u u.heap.size A (bytesV L1) → Calls Try.prog 11 #[.agg (ptV B), .slice A m32 c] u (PtPost BK u) from fun u A c hc hr => by rw [hBK, hm32]; exact pmul_any B okB L1 A c u hr (by rw [← hm32]; exact hc))
  clear hBK
  have hone : one = K.length := e1
  obtain ⟨M, hM⟩ : ∃ x, x = mulP B K := ⟨_, rfl⟩
  have hMdef := hM
  have okM : M.Ok := by rw [hM]; exact mulP_ok okB _
  have isM := Is.mul okB isB K
  rw [← hM] at isM
  have CM := Lib.hid (show ∀ u A c, one ≤ c → Rd u u.heap.size A (bytesV K) → Calls Try.prog 11 #[.agg (ptV B), .slice A one c] u (PtPost M u) from fun u A c hc hr => by rw [hM, hone]; exact pmul_any B okB K A c u hr (by rw [← hone]; exact hc))
  clear hM
  rw [hLL, LB_val, base_order] at isZR
  have hv1 : leV (digs (L1.take 32)) = LN - 1 := by
    rw [List.take_of_length_le (by rw [← nL1]; exact Nat.le_refl _), hL1, digs_byB, leV_byN _ (Nat.lt_of_le_of_lt (Nat.sub_le _ _) LN_lt)]
  rw [hv1, base_back] at isBK
  obtain ⟨MF, isM'⟩ : ∃ F, Is M F := ⟨_, isM⟩
  clear isM
  have isM := isM'
  clear isM'
  have hMz : eqP M Z = decide (k = 0) := by rw [hMdef, hB, hZdef, hK]; exact byte_zero hk
  obtain ⟨SM, hSM⟩ : ∃ x, x = addP ZR M := ⟨_, rfl⟩
  have okSM : SM.Ok := by rw [hSM]; exact addP_ok okZR okM
  have isSM := Is.add okZR okM isZR isM
  rw [← hSM] at isSM
  have CSM := Lib.hid (show ∀ u, Calls Try.prog 16 #[.agg (ptV ZR), .agg (ptV M)] u (PtPost SM u) from fun u => by rw [hSM]; exact padd_any ZR M u okZR okM)
  clear hSM
  obtain ⟨NB, hNB⟩ : ∃ x, x = negP B := ⟨_, rfl⟩
  have okNB : NB.Ok := by rw [hNB]; exact negP_ok okB
  have isNB := Is.neg okB isB
  rw [← hNB] at isNB
  have CNB := Lib.hid (show ∀ u, Calls Try.prog 23 #[.agg (ptV B)] u (PtPost NB u) from fun u => by rw [hNB]; exact pneg_any B u okB)
  clear hNB
  have CE1 := Lib.hid (show ∀ u, Calls Try.prog 22 #[.agg (ptV ZR), .agg (ptV Z)] u (BoolPost true u) from fun u => by
    have h := pequal_any ZR Z u okZR okZ
    rw [(eqP_is okZR okZ isZR isZ).2 (rfl)] at h
    exact h)
  have CE2 := Lib.hid (show ∀ u, Calls Try.prog 22 #[.agg (ptV BK), .agg (ptV NB)] u (BoolPost true u) from fun u => by
    have h := pequal_any BK NB u okBK okNB
    rw [(eqP_is okBK okNB isBK isNB).2 (rfl)] at h
    exact h)
  have CE3 := Lib.hid (show ∀ u, Calls Try.prog 22 #[.agg (ptV SM), .agg (ptV M)] u (BoolPost true u) from fun u => by
    have h := pequal_any SM M u okSM okM
    rw [(eqP_is okSM okM isSM isM).2 (Ed.zero_add FF _)] at h
    exact h)
  obtain ⟨kb, hkb⟩ : ∃ b, b = decide (k = 0) := ⟨_, rfl⟩
  have HKQ := Lib.hid (show ((k : Int) == 0) = kb by rw [hkb, Bool.eq_iff_iff, beq_iff_eq, decide_eq_true_iff]; omega)
  have CE4 := Lib.hid (show ∀ u, Calls Try.prog 22 #[.agg (ptV M), .agg (ptV Z)] u (BoolPost kb u) from fun u => by
    have h := pequal_any M Z u okM okZ
    rw [show eqP M Z = kb from hMz.trans hkb.symm] at h
    exact h)
  obtain ⟨MB, hMB⟩ : ∃ x, x = bytP B := ⟨_, rfl⟩
  have hMB2 : MB = byP bxN byNN := by rw [hMB, hB]; exact base_by
  have hdB : Dg MB := by rw [hMB2]; exact byP_dg (by decide)
  have hlB : MB.length = 32 := by rw [hMB2]; exact byP_len _ _
  have CYB := Lib.hid (show ∀ u, Calls Try.prog 14 #[.agg (ptV B)] u (ByPost MB u) from fun u => by rw [hMB]; exact pby_by B okB u)
  obtain ⟨SB, hSB⟩ : ∃ x : ByteArray, x = ⟨(toB MB).toArray⟩ := ⟨_, rfl⟩
  have CSB := Lib.hid (show ∀ u A c, Rd u u.heap.size A (bnV MB) → (convert 22 9 (.slice A 32 c)).run Try.prog u = .ok (.string SB) u from fun u A c hr => by rw [hSB]; exact conv_bn hdB hlB hr c)
  obtain ⟨bx, hbx⟩ : ∃ x, x = bxN := ⟨_, rfl⟩
  obtain ⟨by', hby⟩ : ∃ x, x = byNN := ⟨_, rfl⟩
  have CRB := Lib.hid (show ∀ u, Calls Try.prog 25 #[] u (PairPost bx by' u) from fun u => by rw [hbx, hby]; exact nbase_any u)
  have CRY := Lib.hid (show ∀ u A1 c1 B1 d1, 32 ≤ d1 → Rd u u.heap.size A1 (DN bx) → Rd u u.heap.size B1 (DN by') → Calls Try.prog 17 #[.agg (pairV (.slice A1 32 c1) (.slice B1 32 d1))] u (ByPost MB u) from fun u A1 c1 B1 d1 hd h1 h2 => by
    have h := nbytes_any (by rw [hbx]; decide) (by rw [hby]; decide) (cx := c1) hd h1 h2
    rw [show byP bx by' = MB by rw [hMB2, hbx, hby]] at h
    exact bn_by h)
  obtain ⟨DL, hDL⟩ : ∃ x, x = digN 32 LN := ⟨_, rfl⟩
  have CL := Lib.hid (show ∀ u, Calls Try.prog 24 #[] u (DigPost DL u) from fun u => by rw [hDL]; exact rl_any u)
  have CLB := Lib.hid (show ∀ u A c, 32 ≤ c → Rd u u.heap.size A (dV DL) → Calls Try.prog 19 #[.slice A 32 c] u (OwnPostZ 5 32 (bnV L0) u) from fun u A c hc hr => by
    rw [hDL] at hr
    have q := rbytesz_any (digN 32 LN) (digN_dg _ _) A c u hr (by rw [digN_length]; exact hc) (by rw [digN_length]; decide)
    rw [digN_length, refB_dig, ← bnV_byB, ← hL0] at q
    exact q)
  have lDL : DL.length = 32 := by rw [hDL, digN_length]
  have h0 := bnV_at (show L0[0]? = some 237 by rw [hL0]; exact LB0)
  have hL0l : L0.length = 32 := by rw [hL0, byN_length]
  rw [← nLL] at e32
  rw [← nL1] at f32
  rw [← nK] at e1
  have HL0V := Lib.hid hL0v
  have HL1V := Lib.hid hL1v
  have HKV := Lib.hid hKv
  have HDL := Lib.hid lDL
  have H0 := Lib.hid h0
  have HL0L := Lib.hid hL0l
  have hk256 : (k : Int) < 256 := by omega
  have HST0 := Lib.hid (show Cs [] w w from ⟨trivial, Below.refl _ _⟩)
  subst e32
  subst f32
  subst e1
  clear hkb hn0 hn1 hk hK hL0 hL1 hLL hL0v hL1v hKv nLL nL1 nK hn32 hm32 hone hB hZdef hMdef hv1 hMz hMB hMB2 hdB hlB hSB hbx hby hDL lDL h0 hL0l okB isB okZ isZ okZR isZR okBK isBK okM isM okSM isSM okNB isNB
  go_enter Try.func6, Try.ntmps6
  go_wp2_with fail
  refine calls_then (CL.out _) ?_
  rintro e y1 ⟨A1, c1, rfl, hc, hr, hb⟩
  rw [HDL.out]
  rw [HDL.out] at hc
  have HB1 := Lib.hid hb
  have HR1 := Lib.hid hr
  have HC1 := Lib.hid hc
  clear hc hr hb
  go_wp2_with fail
  refine calls_then (CLB.out _ _ _ HC1.out HR1.out) ?_
  rintro e y2 ⟨A2, c2, rfl, hown, hb⟩
  obtain ⟨g1, ys, rfl, hg1, hc2, hblk⟩ := hown.blk (by decide)
  have HG1 := Lib.hid (Nat.le_trans HB1.out.size hg1)
  have LE2 := Lib.hid hc2
  have HST2 := Lib.hid (show Cs [.box g1 5 (bnV L0 ++ ys).toArray] w y2 from ⟨⟨hblk, trivial⟩, HB1.out.trans (hb.mono HB1.out.size)⟩)
  clear hown hg1 hc2 hblk hb HB1 HR1 HC1 HST0
  go_wp2_with fail
  refine calls_then (CB.out _) ?_
  rintro e y3 ⟨rfl, hb⟩
  have HST3 := Lib.hid (HST2.out.next hb)
  clear hb HST2
  go_wp2_with (refine wpList_put_box (x := .tmp 4) (cells := ptV B) (Blk.new _ _ _) rfl rfl rfl rfl point_size rfl (by simp [ptV, wV, limbs, Value.oneCell']) ?_; intro y4 hb hw; have hk := box_low hw; have HST4 := Lib.hid (show Cs [.box y3.heap.size 28 (ptV B), .box g1 5 (bnV L0 ++ ys).toArray] w y4 from ⟨⟨hb, (HST3.out.next hk).1⟩, (HST3.out.next hk).2⟩); clear hb hw hk HST3)
  generalize y3.heap.size = gb at *
  have HC0 := HST4.out.drew
  clear HST4
  refine wp_region_list (fun u => Cs [.box gb 28 (ptV B), .box g1 5 (bnV L0 ++ ys).toArray] w u) (fun | false => (fun _ => True) | true => (fun _ => True)) (fun | false, _ => false | true, _ => false)
    [fun z _ => z 0 = .agg (ptV B),
     fun z u => (RdV 32 (bnV MB)) (z 1) u,
     fun z _ => z 2 = .string SB,
     fun z u => (PrV bx by') (z 3) u,
     fun z u => (RdV 32 (bnV MB)) (z 4) u,
     fun z _ => z 5 = .string SB,
     fun z _ => z 6 = .bool true,
     fun z _ => z 7 = .bool true]
    [Eq, fun u u' => Below u.heap.size u u', Eq, fun u u' => Below u.heap.size u u', fun u u' => Below u.heap.size u u', Eq, Eq, Eq]
    (fun _ _ => false) [(0, some 12), (1, some 13), (2, some 14), (3, some 15), (4, some 16), (5, some 17), (6, some 18), (7, some 5)] (by kernel_rfl) (by kernel_rfl) rfl (fun _ => rfl) ?_ ?_ ?_ ?_ ?_ ?_
  · exact HC0
  · intro m; cases m; exact trivial; exact trivial
  · intro m; cases m
    · exact ⟨.inr (fun _ _ h h0 => h ▸ h0), .inr (fun _ _ _ h => h), .inr (fun _ _ h h0 => h ▸ h0), .inr (fun _ _ _ h => h), .inr (fun _ _ _ h => h), .inr (fun _ _ h h0 => h ▸ h0), .inr (fun _ _ h h0 => h ▸ h0), .inr (fun _ _ h h0 => h ▸ h0), trivial⟩
    · exact ⟨.inr (fun _ _ h h0 => h ▸ h0), .inr (fun _ _ _ h => h), .inr (fun _ _ h h0 => h ▸ h0), .inr (fun _ _ _ h => h), .inr (fun _ _ _ h => h), .inr (fun _ _ h h0 => h ▸ h0), .inr (fun _ _ h h0 => h ▸ h0), .inr (fun _ _ h h0 => h ▸ h0), trivial⟩
  · exact ⟨⟨.inl rfl, .inr (.inr (.inl rfl)), .inr (.inr (.inl rfl)), .inr (.inr (.inl rfl)), .inr (.inr (.inl rfl)), .inr (.inr (.inr (fun _ _ _ _ _ h => h))), .inr (.inr (.inl rfl)), .inr (.inr (.inl rfl)), trivial⟩,
      ⟨.inr (.inr (.inr (fun _ _ _ _ _ h => h))), .inl rfl, .inr (.inr (.inl rfl)), .inr (.inr (.inl rfl)), .inr (.inr (.inl rfl)), .inr (.inr (.inl rfl)), .inr (.inr (.inl rfl)), .inr (.inr (.inl rfl)), trivial⟩,
      ⟨.inr (.inr (.inr (fun _ _ _ _ _ h => h))), .inr (.inr (.inr (fun _ _ _ _ h h0 => by cases h; exact h0))), .inl rfl, .inr (.inr (.inr (fun _ _ _ _ h h0 => by cases h; exact h0))), .inr (.inr (.inr (fun _ _ _ _ h h0 => by cases h; exact h0))), .inr (.inr (.inr (fun _ _ _ _ _ h => h))), .inr (.inr (.inl rfl)), .inr (.inr (.inl rfl)), trivial⟩,
      ⟨.inr (.inr (.inr (fun _ _ _ _ _ h => h))), .inr (.inr (.inr (fun _ _ _ _ h h0 => h0.next h))), .inr (.inr (.inr (fun _ _ _ _ _ h => h))), .inl rfl, .inr (.inr (.inl rfl)), .inr (.inr (.inl rfl)), .inr (.inr (.inl rfl)), .inr (.inr (.inl rfl)), trivial⟩,
      ⟨.inr (.inr (.inr (fun _ _ _ _ _ h => h))), .inr (.inr (.inr (fun _ _ _ _ h h0 => h0.next h))), .inr (.inr (.inr (fun _ _ _ _ _ h => h))), .inr (.inr (.inr (fun _ _ _ _ h h0 => h0.next h))), .inl rfl, .inr (.inr (.inl rfl)), .inr (.inr (.inl rfl)), .inr (.inr (.inl rfl)), trivial⟩,
      ⟨.inr (.inr (.inr (fun _ _ _ _ _ h => h))), .inr (.inr (.inr (fun _ _ _ _ h h0 => by cases h; exact h0))), .inr (.inr (.inr (fun _ _ _ _ _ h => h))), .inr (.inr (.inr (fun _ _ _ _ h h0 => by cases h; exact h0))), .inr (.inr (.inr (fun _ _ _ _ h h0 => by cases h; exact h0))), .inl rfl, .inr (.inr (.inl rfl)), .inr (.inr (.inl rfl)), trivial⟩,
      ⟨.inr (.inr (.inr (fun _ _ _ _ _ h => h))), .inr (.inr (.inr (fun _ _ _ _ h h0 => by cases h; exact h0))), .inr (.inr (.inr (fun _ _ _ _ _ h => h))), .inr (.inr (.inr (fun _ _ _ _ h h0 => by cases h; exact h0))), .inr (.inr (.inr (fun _ _ _ _ h h0 => by cases h; exact h0))), .inr (.inr (.inr (fun _ _ _ _ _ h => h))), .inl rfl, .inr (.inr (.inl rfl)), trivial⟩,
      ⟨.inr (.inr (.inr (fun _ _ _ _ _ h => h))), .inr (.inr (.inr (fun _ _ _ _ h h0 => by cases h; exact h0))), .inr (.inr (.inr (fun _ _ _ _ _ h => h))), .inr (.inr (.inr (fun _ _ _ _ h h0 => by cases h; exact h0))), .inr (.inr (.inr (fun _ _ _ _ h h0 => by cases h; exact h0))), .inr (.inr (.inr (fun _ _ _ _ _ h => h))), .inr (.inr (.inr (fun _ _ _ _ _ h => h))), .inl rfl, trivial⟩, trivial⟩
  · refine ⟨?_, ?_, ?_, ?_, ?_, ?_, ?_, ?_, trivial⟩
    · -- 0: Op.load 28 (Operand.tmp 4)
      refine step_plain [] (fun _ => rfl) rfl ?_
      intro w1 vals hC1 hi0 hf E hE
      clear hi0
      clear hf
      simp only [puts, act_put, act_put_none, List.setIfInBounds_toArray, List.set_cons_zero, List.set_cons_succ] at hE ⊢
      refine wpList_get_box (hC1.1.1) rfl rfl rfl hp rfl point_size ?_
      go_wp2_with fail
      exact .mk (hE _ _ rfl hC1 rfl)
    · -- 1: Op.call { callee := Callee.value (Operand.func 14), args := #[Operand.tmp 12], argTypes := #[28] }
      refine step_plain [(0, some 12)] (fun _ => rfl) rfl ?_
      intro w1 vals hC1 hi0 hf E hE
      clear hi0
      have f0 : vals 0 = .agg (ptV B) := hf 0 rfl
      try dsimp only at f0
      clear hf
      simp only [puts, act_put, act_put_none, List.setIfInBounds_toArray, List.set_cons_zero, List.set_cons_succ, f0] at hE ⊢
      clear f0
      go_wp2_with fail
      refine calls_then (CYB.out _) ?_
      rintro e w2 ⟨A2, c2, rfl, hc2, hr2, hb2⟩
      go_wp2_with fail
      exact .mk (hE _ _ ⟨A2, c2, rfl, hc2, hr2⟩ (hC1.next hb2) hb2)
    · -- 2: Op.convert 22 9 (Operand.tmp 13)
      refine step_plain [(1, some 13)] (fun _ => rfl) rfl ?_
      intro w1 vals hC1 hi0 hf E hE
      clear hi0
      have f1 : (RdV 32 (bnV MB)) (vals 1) w1 := hf 1 rfl
      try dsimp only at f1
      clear hf
      obtain ⟨A2, c2, hx2, hc2, hr2⟩ := f1
      simp only [puts, act_put, act_put_none, List.setIfInBounds_toArray, List.set_cons_zero, List.set_cons_succ, hx2] at hE ⊢
      clear hx2
      have cv := CSB.out _ A2 c2 hr2
      go_wp2_with fail
      exact .mk (hE _ _ rfl hC1 rfl)
    · -- 3: Op.call { callee := Callee.value (Operand.func 25), args := #[], argTypes := #[] }
      refine step_plain [(1, some 13)] (fun _ => rfl) rfl ?_
      intro w1 vals hC1 hi0 hf E hE
      clear hi0
      have f1 : (RdV 32 (bnV MB)) (vals 1) w1 := hf 1 rfl
      try dsimp only at f1
      clear hf
      simp only [puts, act_put, act_put_none, List.setIfInBounds_toArray, List.set_cons_zero, List.set_cons_succ] at hE ⊢
      go_wp2_with fail
      refine calls_then (CRB.out _) ?_
      rintro e w2 ⟨A3, c3, B3, d3, rfl, hc3, hd3, hr3, hr4, hb2⟩
      go_wp2_with fail
      exact .mk (hE _ _ ⟨A3, c3, B3, d3, rfl, hd3, hr3, hr4⟩ (hC1.next hb2) hb2)
    · -- 4: Op.call { callee := Callee.value (Operand.func 17), args := #[Operand.tmp 15], argTypes := #[34] }
      refine step_plain [(3, some 15), (3, some 15)] (fun _ => rfl) rfl ?_
      intro w1 vals hC1 hi0 hf E hE
      clear hi0
      have f3 : (PrV bx by') (vals 3) w1 := hf 3 rfl
      try dsimp only at f3
      clear hf
      obtain ⟨A3, c3, B3, d3, hx3, hd3, hr3, hr4⟩ := f3
      simp only [puts, act_put, act_put_none, List.setIfInBounds_toArray, List.set_cons_zero, List.set_cons_succ, hx3] at hE ⊢
      clear hx3
      go_wp2_with fail
      refine calls_then (CRY.out _ _ _ _ _ hd3 hr3 hr4) ?_
      rintro e w2 ⟨A2, c2, rfl, hc2, hr2, hb2⟩
      go_wp2_with fail
      exact .mk (hE _ _ ⟨A2, c2, rfl, hc2, hr2⟩ (hC1.next hb2) hb2)
    · -- 5: Op.convert 22 9 (Operand.tmp 16)
      refine step_plain [(4, some 16)] (fun _ => rfl) rfl ?_
      intro w1 vals hC1 hi0 hf E hE
      clear hi0
      have f4 : (RdV 32 (bnV MB)) (vals 4) w1 := hf 4 rfl
      try dsimp only at f4
      clear hf
      obtain ⟨A2, c2, hx2, hc2, hr2⟩ := f4
      simp only [puts, act_put, act_put_none, List.setIfInBounds_toArray, List.set_cons_zero, List.set_cons_succ, hx2] at hE ⊢
      clear hx2
      have cv := CSB.out _ A2 c2 hr2
      go_wp2_with fail
      exact .mk (hE _ _ rfl hC1 rfl)
    · -- 6: Op.binOp BinOp.eql 9 (Operand.tmp 14) (Operand.tmp 17) 9
      refine step_plain [(2, some 14), (5, some 17)] (fun _ => rfl) rfl ?_
      intro w1 vals hC1 hi0 hf E hE
      clear hi0
      have f2 : vals 2 = .string SB := hf 2 rfl
      have f5 : vals 5 = .string SB := hf 5 rfl
      try dsimp only at f2 f5
      clear hf
      simp only [puts, act_put, act_put_none, List.setIfInBounds_toArray, List.set_cons_zero, List.set_cons_succ, f2, f5] at hE ⊢
      clear f2 f5
      go_wp2
      exact .mk (hE _ _ rfl hC1 rfl)
    · -- 7: Op.assign (Operand.tmp 18)
      refine step_plain [(6, some 18), (4, some 16), (0, some 12), (1, some 13), (2, some 14), (3, some 15), (4, some 16), (5, some 17), (6, some 18)] (fun _ => rfl) rfl ?_
      intro w1 vals hC1 hi0 hf E hE
      clear hi0
      have f0 : vals 0 = .agg (ptV B) := hf 0 rfl
      have f1 : (RdV 32 (bnV MB)) (vals 1) w1 := hf 1 rfl
      have f2 : vals 2 = .string SB := hf 2 rfl
      have f3 : (PrV bx by') (vals 3) w1 := hf 3 rfl
      have f4 : (RdV 32 (bnV MB)) (vals 4) w1 := hf 4 rfl
      have f5 : vals 5 = .string SB := hf 5 rfl
      have f6 : vals 6 = .bool true := hf 6 rfl
      try dsimp only at f0 f1 f2 f3 f4 f5 f6
      clear hf
      simp only [puts, act_put, act_put_none, List.setIfInBounds_toArray, List.set_cons_zero, List.set_cons_succ, f0, f2, f5, f6] at hE ⊢
      clear f0 f2 f5 f6
      go_wp2
      exact .mk (hE _ _ rfl hC1 rfl)
  intro w1 vals hC1 hf
  have f0 : vals 0 = .agg (ptV B) := hf 0 (by decide) rfl
  have f1 : (RdV 32 (bnV MB)) (vals 1) w1 := hf 1 (by decide) rfl
  have f2 : vals 2 = .string SB := hf 2 (by decide) rfl
  have f3 : (PrV bx by') (vals 3) w1 := hf 3 (by decide) rfl
  have f4 : (RdV 32 (bnV MB)) (vals 4) w1 := hf 4 (by decide) rfl
  have f5 : vals 5 = .string SB := hf 5 (by decide) rfl
  have f6 : vals 6 = .bool true := hf 6 (by decide) rfl
  have f7 : vals 7 = .bool true := hf 7 (by decide) rfl
  try dsimp only at f0 f1 f2 f3 f4 f5 f6 f7
  clear hf
  simp only [puts, act_put, act_put_none, List.setIfInBounds_toArray, List.set_cons_zero, List.set_cons_succ, f0, f2, f5, f6, f7]
  clear f0 f2 f5 f6 f7
  generalize vals 1 = x1 at *
  generalize vals 3 = x3 at *
  generalize vals 4 = x4 at *
  have HST5 := Lib.hid hC1
  clear hC1 HC0
  obtain ⟨y5, rfl⟩ : ∃ x, x = w1 := ⟨_, rfl⟩
  go_wp2_with (refine wpList_get_box (x := .tmp 4) (HST5.out.1.1) rfl rfl rfl hp rfl point_size ?_)
  refine calls_then (CZR.out _ _ _ LE2.out (show Rd _ _ _ (bytesV LL) by rw [← HL0V.out]; exact (Rd.of_blk (HST5.out.1.2.1) (Blk.lt (HST5.out.1.2.1))).front)) ?_
  rintro e y6 ⟨rfl, hb⟩
  have HST6 := Lib.hid (HST5.out.next hb)
  clear hb HST5
  go_wp2_with (first | (refine wpList_put_box (x := .tmp 6) (cells := ptV ZR) (Blk.new _ _ _) rfl rfl rfl rfl point_size rfl (by simp [ptV, wV, limbs, Value.oneCell']) ?_; intro y7 hb hw; have hk := box_low hw; have HST7 := Lib.hid (show Cs [.box y6.heap.size 28 (ptV ZR), .box gb 28 (ptV B), .box g1 5 (bnV L0 ++ ys).toArray] w y7 from ⟨⟨hb, (HST6.out.next hk).1⟩, (HST6.out.next hk).2⟩); clear hb hw hk HST6; have hbl : Blk _ g1 5 (bnV L0 ++ ys).toArray := HST7.out.1.2.2.1; have d0 := hbl.cell 0; rw [show (bnV L0 ++ ys).toArray[0]? = some (.int .u8 ((237 : Nat) : Int)) by rw [List.getElem?_toArray, List.getElem?_append_left (by rw [bnVl, HL0L.out]; decide), ← List.getElem?_toArray]; exact H0.out] at d0; rw [show (((237 : Nat) : Int)) = 237 from rfl] at d0; have hfr := hbl.free 0; have HBL := Lib.hid hbl; clear hbl) | (refine wpList_put_cell (x := .tmp 27) (i := 0) (v := .int .u8 236) HBL.out rfl rfl rfl rfl u8_size (by rw [List.size_toArray, List.length_append, bnVl, HL0L.out]; omega) rfl ?_; intro y8 hb1 hw1; have HST8 := Lib.hid (show Cs [.box (y6.heap.size) 28 (ptV ZR), .box gb 28 (ptV B), .box g1 5 (bnV (L0.set 0 236) ++ ys).toArray] w y8 from ⟨⟨hw1.blk (HST7.out.1.1) (Blk.apart (HST7.out.1.1) HBL.out (by decide)), hw1.blk (HST7.out.1.2.1) (Blk.apart (HST7.out.1.2.1) HBL.out (by decide)), by rw [set_front (by rw [bnVl, HL0L.out]; decide), show (bnV L0).set 0 (.int .u8 236) = bnV (L0.set 0 236) by simp [bnV, List.map_set]] at hb1; exact hb1, trivial⟩, hw1.below HST7.out.2 HG1.out HST7.out.2.size⟩); clear hb1 hw1 d0 hfr HBL HST7) | (refine wpList_get_box (x := .tmp 4) (HST8.out.1.2.1) rfl rfl rfl hp rfl point_size ?_))
  generalize y6.heap.size = gz at *
  refine calls_then (CBK.out _ _ _ LE2.out (show Rd _ _ _ (bytesV L1) by rw [← HL1V.out]; exact (Rd.of_blk (HST8.out.1.2.2.1) (Blk.lt (HST8.out.1.2.2.1))).front)) ?_
  rintro e y9 ⟨rfl, hb⟩
  have HST9 := Lib.hid (HST8.out.next hb)
  clear hb HST8
  go_wp2_with (first | (refine wpList_put_box (x := .tmp 7) (cells := ptV BK) (Blk.new _ _ _) rfl rfl rfl rfl point_size rfl (by simp [ptV, wV, limbs, Value.oneCell']) ?_; intro y10 hb hw; have hk := box_low hw; have HST10 := Lib.hid (show Cs [.box y9.heap.size 28 (ptV BK), .box gz 28 (ptV ZR), .box gb 28 (ptV B), .box g1 5 (bnV (L0.set 0 236) ++ ys).toArray] w y10 from ⟨⟨hb, (HST9.out.next hk).1⟩, (HST9.out.next hk).2⟩); clear hb hw hk HST9) | (refine wpList_get_box (x := .tmp 4) (HST10.out.1.2.2.1) rfl rfl rfl hp rfl point_size ?_))
  generalize y9.heap.size = gk at *
  have hnew : Blk (y10.alloc (.cells #[.int .u8 (k : Int)] 5)) y10.heap.size 5 (bytesV K).toArray := by rw [HKV.out]; exact Blk.new _ _ _
  have HRK := Lib.hid (Rd.of_blk hnew hnew.lt)
  have HST11 := Lib.hid (HST10.out.next (below_new y10 (.cells #[.int .u8 (k : Int)] 5)))
  clear hnew HST10
  refine calls_then (CM.out _ _ _ (Nat.le_refl _) HRK.out) ?_
  rintro e y12 ⟨rfl, hb⟩
  have HST12 := Lib.hid (HST11.out.next hb)
  clear hb HST11 HRK
  go_wp2_with (refine wpList_put_box (x := .tmp 8) (cells := ptV M) (Blk.new _ _ _) rfl rfl rfl rfl point_size rfl (by simp [ptV, wV, limbs, Value.oneCell']) ?_; intro y13 hb hw; have hk := box_low hw; have HST13 := Lib.hid (show Cs [.box y12.heap.size 28 (ptV M), .box gk 28 (ptV BK), .box gz 28 (ptV ZR), .box gb 28 (ptV B), .box g1 5 (bnV (L0.set 0 236) ++ ys).toArray] w y13 from ⟨⟨hb, (HST12.out.next hk).1⟩, (HST12.out.next hk).2⟩); clear hb hw hk HST12)
  generalize y12.heap.size = gm at *
  have HC0 := HST13.out.drew
  clear HST13
  refine wp_region_det (fun u => Cs [.box gm 28 (ptV M), .box gk 28 (ptV BK), .box gz 28 (ptV ZR), .box gb 28 (ptV B), .box g1 5 (bnV (L0.set 0 236) ++ ys).toArray] w u) (fun u => Cs [.box gm 28 (ptV M), .box gk 28 (ptV BK), .box gz 28 (ptV ZR), .box gb 28 (ptV B), .box g1 5 (bnV (L0.set 0 236) ++ ys).toArray] w u) [(0, some 35), (1, some 36), (2, some 37), (3, some 38), (4, some 39), (5, some 40), (6, some 41), (7, some 42), (8, some 43), (9, some 44), (10, some 45), (11, some 46), (12, some 47), (13, some 48), (14, some 49), (15, some 50), (16, some 51), (17, some 52), (18, some 53), (19, some 54), (20, some 55), (21, some 56), (22, some 57), (23, some 58), (24, some 59), (25, some 60), (26, some 61), (27, some 62), (28, some 63), (29, some 64), (30, some 2)] (by kernel_rfl) (by kernel_rfl) (by decide) (by kernel_rfl) (fun _ => rfl) HC0 ?_
  apply DetL.next
  · -- 0: Op.move (Operand.tmp 5)
    apply detStep_plain []
    exact fun _ => rfl
    rfl
    rintro vals - w1 hC1 E hE
    simp only [puts, act_put, act_put_none, List.setIfInBounds_toArray, List.set_cons_zero, List.set_cons_succ] at hE ⊢
    go_wp2
    exact .mk (hE _ hC1)
  apply DetL.next
  · -- 1: Op.move (Operand.tmp 35)
    apply detStep_plain [(0, some 35)]
    exact fun _ => rfl
    rfl
    rintro vals ⟨-, f0⟩ w1 hC1 E hE
    simp only [puts, act_put, act_put_none, List.setIfInBounds_toArray, List.set_cons_zero, List.set_cons_succ, f0] at hE ⊢
    clear f0
    go_wp2
    exact .mk (hE _ hC1)
  apply DetL.next
  · -- 2: Op.load 28 (Operand.tmp 6)
    apply detStep_yes [(1, some 36)] (g := 1) (t := 36) (want := true)
    exact fun _ => rfl
    rfl
    rfl
    · rintro vals ⟨⟨-, -⟩, f1⟩
      simp only [puts, act_put, act_put_none, List.setIfInBounds_toArray, List.set_cons_zero, List.set_cons_succ, f1]
      rfl
    rintro vals ⟨⟨-, -⟩, f1⟩ w1 hC1 E hE
    dsimp only at hE ⊢
    simp only [puts, act_put, act_put_none, List.setIfInBounds_toArray, List.set_cons_zero, List.set_cons_succ, f1] at hE ⊢
    clear f1
    refine wpList_get_box (hC1.1.2.2.1) rfl rfl rfl hp rfl point_size ?_
    go_wp2_with fail
    exact .mk (hE _ hC1)
  apply DetL.next
  · -- 3: Op.call { callee := Callee.value (Operand.func 26), args := #[], argTypes := #[] }
    apply detStep_yes [(1, some 36), (1, some 36)] (g := 1) (t := 36) (want := true)
    exact fun _ => rfl
    rfl
    rfl
    · rintro vals ⟨⟨⟨-, -⟩, f1⟩, -⟩
      simp only [puts, act_put, act_put_none, List.setIfInBounds_toArray, List.set_cons_zero, List.set_cons_succ, f1]
      rfl
    rintro vals ⟨⟨⟨-, -⟩, f1⟩, -⟩ w1 hC1 E hE
    dsimp only at hE ⊢
    simp only [puts, act_put, act_put_none, List.setIfInBounds_toArray, List.set_cons_zero, List.set_cons_succ, f1] at hE ⊢
    clear f1
    go_wp2_with fail
    refine calls_then (CZ.out _) ?_
    rintro e w2 ⟨rfl, hb2⟩
    go_wp2_with fail
    exact .mk (hE _ (hC1.next hb2))
  apply DetL.next
  · -- 4: Op.call { callee := Callee.value (Operand.func 22), args := #[Operand.tmp 37, Operand.tmp 38], argTypes := #[2
    apply detStep_yes [(2, some 37), (3, some 38), (3, some 38), (1, some 36)] (g := 1) (t := 36) (want := true)
    exact fun _ => rfl
    rfl
    rfl
    · rintro vals ⟨⟨⟨⟨-, -⟩, f1⟩, f2⟩, f3⟩
      simp only [puts, act_put, act_put_none, List.setIfInBounds_toArray, List.set_cons_zero, List.set_cons_succ, f1, f2, f3]
      rfl
    rintro vals ⟨⟨⟨⟨-, -⟩, f1⟩, f2⟩, f3⟩ w1 hC1 E hE
    dsimp only at hE ⊢
    simp only [puts, act_put, act_put_none, List.setIfInBounds_toArray, List.set_cons_zero, List.set_cons_succ, f1, f2, f3] at hE ⊢
    clear f1 f2 f3
    go_wp2_with fail
    refine calls_then (CE1.out _) ?_
    rintro e w2 ⟨rfl, hb2⟩
    go_wp2_with fail
    exact .mk (hE _ (hC1.next hb2))
  apply DetL.next
  · -- 5: Op.pick (Operand.tmp 36) (Operand.tmp 39) (Operand.const (Value.bool false))
    apply detStep_plain [(1, some 36), (4, some 39)]
    exact fun _ => rfl
    rfl
    rintro vals ⟨⟨⟨⟨⟨-, -⟩, f1⟩, -⟩, -⟩, f4⟩ w1 hC1 E hE
    simp only [puts, act_put, act_put_none, List.setIfInBounds_toArray, List.set_cons_zero, List.set_cons_succ, f1, f4] at hE ⊢
    clear f1 f4
    go_wp2
    exact .mk (hE _ hC1)
  apply DetL.next
  · -- 6: Op.move (Operand.tmp 40)
    apply detStep_plain [(5, some 40), (4, some 39)]
    exact fun _ => rfl
    rfl
    rintro vals ⟨⟨⟨⟨⟨⟨-, -⟩, -⟩, -⟩, -⟩, f4⟩, f5⟩ w1 hC1 E hE
    simp only [puts, act_put, act_put_none, List.setIfInBounds_toArray, List.set_cons_zero, List.set_cons_succ, f4, f5] at hE ⊢
    clear f4 f5
    go_wp2
    exact .mk (hE _ hC1)
  apply DetL.next
  · -- 7: Op.load 28 (Operand.tmp 7)
    apply detStep_yes [(6, some 41)] (g := 6) (t := 41) (want := true)
    exact fun _ => rfl
    rfl
    rfl
    · rintro vals ⟨⟨⟨⟨⟨⟨⟨-, -⟩, -⟩, -⟩, -⟩, -⟩, -⟩, f6⟩
      simp only [puts, act_put, act_put_none, List.setIfInBounds_toArray, List.set_cons_zero, List.set_cons_succ, f6]
      rfl
    rintro vals ⟨⟨⟨⟨⟨⟨⟨-, -⟩, -⟩, -⟩, -⟩, -⟩, -⟩, f6⟩ w1 hC1 E hE
    dsimp only at hE ⊢
    simp only [puts, act_put, act_put_none, List.setIfInBounds_toArray, List.set_cons_zero, List.set_cons_succ, f6] at hE ⊢
    clear f6
    refine wpList_get_box (hC1.1.2.1) rfl rfl rfl hp rfl point_size ?_
    go_wp2_with fail
    exact .mk (hE _ hC1)
  apply DetL.next
  · -- 8: Op.load 28 (Operand.tmp 4)
    apply detStep_yes [(6, some 41)] (g := 6) (t := 41) (want := true)
    exact fun _ => rfl
    rfl
    rfl
    · rintro vals ⟨⟨⟨⟨⟨⟨⟨⟨-, -⟩, -⟩, -⟩, -⟩, -⟩, -⟩, f6⟩, -⟩
      simp only [puts, act_put, act_put_none, List.setIfInBounds_toArray, List.set_cons_zero, List.set_cons_succ, f6]
      rfl
    rintro vals ⟨⟨⟨⟨⟨⟨⟨⟨-, -⟩, -⟩, -⟩, -⟩, -⟩, -⟩, f6⟩, -⟩ w1 hC1 E hE
    dsimp only at hE ⊢
    simp only [puts, act_put, act_put_none, List.setIfInBounds_toArray, List.set_cons_zero, List.set_cons_succ, f6] at hE ⊢
    clear f6
    refine wpList_get_box (hC1.1.2.2.2.1) rfl rfl rfl hp rfl point_size ?_
    go_wp2_with fail
    exact .mk (hE _ hC1)
  apply DetL.next
  · -- 9: Op.call { callee := Callee.value (Operand.func 23), args := #[Operand.tmp 43], argTypes := #[28] }
    apply detStep_yes [(8, some 43), (6, some 41), (6, some 41)] (g := 6) (t := 41) (want := true)
    exact fun _ => rfl
    rfl
    rfl
    · rintro vals ⟨⟨⟨⟨⟨⟨⟨⟨⟨-, -⟩, -⟩, -⟩, -⟩, -⟩, -⟩, f6⟩, -⟩, f8⟩
      simp only [puts, act_put, act_put_none, List.setIfInBounds_toArray, List.set_cons_zero, List.set_cons_succ, f6, f8]
      rfl
    rintro vals ⟨⟨⟨⟨⟨⟨⟨⟨⟨-, -⟩, -⟩, -⟩, -⟩, -⟩, -⟩, f6⟩, -⟩, f8⟩ w1 hC1 E hE
    dsimp only at hE ⊢
    simp only [puts, act_put, act_put_none, List.setIfInBounds_toArray, List.set_cons_zero, List.set_cons_succ, f6, f8] at hE ⊢
    clear f6 f8
    go_wp2_with fail
    refine calls_then (CNB.out _) ?_
    rintro e w2 ⟨rfl, hb2⟩
    go_wp2_with fail
    exact .mk (hE _ (hC1.next hb2))
  apply DetL.next
  · -- 10: Op.call { callee := Callee.value (Operand.func 22), args := #[Operand.tmp 42, Operand.tmp 44], argTypes := #[2
    apply detStep_yes [(7, some 42), (9, some 44), (9, some 44), (6, some 41)] (g := 6) (t := 41) (want := true)
    exact fun _ => rfl
    rfl
    rfl
    · rintro vals ⟨⟨⟨⟨⟨⟨⟨⟨⟨⟨-, -⟩, -⟩, -⟩, -⟩, -⟩, -⟩, f6⟩, f7⟩, -⟩, f9⟩
      simp only [puts, act_put, act_put_none, List.setIfInBounds_toArray, List.set_cons_zero, List.set_cons_succ, f6, f7, f9]
      rfl
    rintro vals ⟨⟨⟨⟨⟨⟨⟨⟨⟨⟨-, -⟩, -⟩, -⟩, -⟩, -⟩, -⟩, f6⟩, f7⟩, -⟩, f9⟩ w1 hC1 E hE
    dsimp only at hE ⊢
    simp only [puts, act_put, act_put_none, List.setIfInBounds_toArray, List.set_cons_zero, List.set_cons_succ, f6, f7, f9] at hE ⊢
    clear f6 f7 f9
    go_wp2_with fail
    refine calls_then (CE2.out _) ?_
    rintro e w2 ⟨rfl, hb2⟩
    go_wp2_with fail
    exact .mk (hE _ (hC1.next hb2))
  apply DetL.next
  · -- 11: Op.pick (Operand.tmp 41) (Operand.tmp 45) (Operand.const (Value.bool false))
    apply detStep_plain [(6, some 41), (10, some 45)]
    exact fun _ => rfl
    rfl
    rintro vals ⟨⟨⟨⟨⟨⟨⟨⟨⟨⟨⟨-, -⟩, -⟩, -⟩, -⟩, -⟩, -⟩, f6⟩, -⟩, -⟩, -⟩, f10⟩ w1 hC1 E hE
    simp only [puts, act_put, act_put_none, List.setIfInBounds_toArray, List.set_cons_zero, List.set_cons_succ, f6, f10] at hE ⊢
    clear f6 f10
    go_wp2
    exact .mk (hE _ hC1)
  apply DetL.next
  · -- 12: Op.move (Operand.tmp 46)
    apply detStep_plain [(11, some 46), (10, some 45)]
    exact fun _ => rfl
    rfl
    rintro vals ⟨⟨⟨⟨⟨⟨⟨⟨⟨⟨⟨⟨-, -⟩, -⟩, -⟩, -⟩, -⟩, -⟩, -⟩, -⟩, -⟩, -⟩, f10⟩, f11⟩ w1 hC1 E hE
    simp only [puts, act_put, act_put_none, List.setIfInBounds_toArray, List.set_cons_zero, List.set_cons_succ, f10, f11] at hE ⊢
    clear f10 f11
    go_wp2
    exact .mk (hE _ hC1)
  apply DetL.next
  · -- 13: Op.load 28 (Operand.tmp 6)
    apply detStep_yes [(12, some 47)] (g := 12) (t := 47) (want := true)
    exact fun _ => rfl
    rfl
    rfl
    · rintro vals ⟨⟨⟨⟨⟨⟨⟨⟨⟨⟨⟨⟨⟨-, -⟩, -⟩, -⟩, -⟩, -⟩, -⟩, -⟩, -⟩, -⟩, -⟩, -⟩, -⟩, f12⟩
      simp only [puts, act_put, act_put_none, List.setIfInBounds_toArray, List.set_cons_zero, List.set_cons_succ, f12]
      rfl
    rintro vals ⟨⟨⟨⟨⟨⟨⟨⟨⟨⟨⟨⟨⟨-, -⟩, -⟩, -⟩, -⟩, -⟩, -⟩, -⟩, -⟩, -⟩, -⟩, -⟩, -⟩, f12⟩ w1 hC1 E hE
    dsimp only at hE ⊢
    simp only [puts, act_put, act_put_none, List.setIfInBounds_toArray, List.set_cons_zero, List.set_cons_succ, f12] at hE ⊢
    clear f12
    refine wpList_get_box (hC1.1.2.2.1) rfl rfl rfl hp rfl point_size ?_
    go_wp2_with fail
    exact .mk (hE _ hC1)
  apply DetL.next
  · -- 14: Op.load 28 (Operand.tmp 8)
    apply detStep_yes [(12, some 47)] (g := 12) (t := 47) (want := true)
    exact fun _ => rfl
    rfl
    rfl
    · rintro vals ⟨⟨⟨⟨⟨⟨⟨⟨⟨⟨⟨⟨⟨⟨-, -⟩, -⟩, -⟩, -⟩, -⟩, -⟩, -⟩, -⟩, -⟩, -⟩, -⟩, -⟩, f12⟩, -⟩
      simp only [puts, act_put, act_put_none, List.setIfInBounds_toArray, List.set_cons_zero, List.set_cons_succ, f12]
      rfl
    rintro vals ⟨⟨⟨⟨⟨⟨⟨⟨⟨⟨⟨⟨⟨⟨-, -⟩, -⟩, -⟩, -⟩, -⟩, -⟩, -⟩, -⟩, -⟩, -⟩, -⟩, -⟩, f12⟩, -⟩ w1 hC1 E hE
    dsimp only at hE ⊢
    simp only [puts, act_put, act_put_none, List.setIfInBounds_toArray, List.set_cons_zero, List.set_cons_succ, f12] at hE ⊢
    clear f12
    refine wpList_get_box (hC1.1.1) rfl rfl rfl hp rfl point_size ?_
    go_wp2_with fail
    exact .mk (hE _ hC1)
  apply DetL.next
  · -- 15: Op.call { callee := Callee.value (Operand.func 16), args := #[Operand.tmp 48, Operand.tmp 49], argTypes := #[2
    apply detStep_yes [(13, some 48), (14, some 49), (12, some 47), (12, some 47)] (g := 12) (t := 47) (want := true)
    exact fun _ => rfl
    rfl
    rfl
    · rintro vals ⟨⟨⟨⟨⟨⟨⟨⟨⟨⟨⟨⟨⟨⟨⟨-, -⟩, -⟩, -⟩, -⟩, -⟩, -⟩, -⟩, -⟩, -⟩, -⟩, -⟩, -⟩, f12⟩, f13⟩, f14⟩
      simp only [puts, act_put, act_put_none, List.setIfInBounds_toArray, List.set_cons_zero, List.set_cons_succ, f12, f13, f14]
      rfl
    rintro vals ⟨⟨⟨⟨⟨⟨⟨⟨⟨⟨⟨⟨⟨⟨⟨-, -⟩, -⟩, -⟩, -⟩, -⟩, -⟩, -⟩, -⟩, -⟩, -⟩, -⟩, -⟩, f12⟩, f13⟩, f14⟩ w1 hC1 E hE
    dsimp only at hE ⊢
    simp only [puts, act_put, act_put_none, List.setIfInBounds_toArray, List.set_cons_zero, List.set_cons_succ, f12, f13, f14] at hE ⊢
    clear f12 f13 f14
    go_wp2_with fail
    refine calls_then (CSM.out _) ?_
    rintro e w2 ⟨rfl, hb2⟩
    go_wp2_with fail
    exact .mk (hE _ (hC1.next hb2))
  apply DetL.next
  · -- 16: Op.load 28 (Operand.tmp 8)
    apply detStep_yes [(12, some 47)] (g := 12) (t := 47) (want := true)
    exact fun _ => rfl
    rfl
    rfl
    · rintro vals ⟨⟨⟨⟨⟨⟨⟨⟨⟨⟨⟨⟨⟨⟨⟨⟨-, -⟩, -⟩, -⟩, -⟩, -⟩, -⟩, -⟩, -⟩, -⟩, -⟩, -⟩, -⟩, f12⟩, -⟩, -⟩, -⟩
      simp only [puts, act_put, act_put_none, List.setIfInBounds_toArray, List.set_cons_zero, List.set_cons_succ, f12]
      rfl
    rintro vals ⟨⟨⟨⟨⟨⟨⟨⟨⟨⟨⟨⟨⟨⟨⟨⟨-, -⟩, -⟩, -⟩, -⟩, -⟩, -⟩, -⟩, -⟩, -⟩, -⟩, -⟩, -⟩, f12⟩, -⟩, -⟩, -⟩ w1 hC1 E hE
    dsimp only at hE ⊢
    simp only [puts, act_put, act_put_none, List.setIfInBounds_toArray, List.set_cons_zero, List.set_cons_succ, f12] at hE ⊢
    clear f12
    refine wpList_get_box (hC1.1.1) rfl rfl rfl hp rfl point_size ?_
    go_wp2_with fail
    exact .mk (hE _ hC1)
  apply DetL.next
  · -- 17: Op.call { callee := Callee.value (Operand.func 22), args := #[Operand.tmp 50, Operand.tmp 51], argTypes := #[2
    apply detStep_yes [(15, some 50), (16, some 51), (15, some 50), (12, some 47)] (g := 12) (t := 47) (want := true)
    exact fun _ => rfl
    rfl
    rfl
    · rintro vals ⟨⟨⟨⟨⟨⟨⟨⟨⟨⟨⟨⟨⟨⟨⟨⟨⟨-, -⟩, -⟩, -⟩, -⟩, -⟩, -⟩, -⟩, -⟩, -⟩, -⟩, -⟩, -⟩, f12⟩, -⟩, -⟩, f15⟩, f16⟩
      simp only [puts, act_put, act_put_none, List.setIfInBounds_toArray, List.set_cons_zero, List.set_cons_succ, f12, f15, f16]
      rfl
    rintro vals ⟨⟨⟨⟨⟨⟨⟨⟨⟨⟨⟨⟨⟨⟨⟨⟨⟨-, -⟩, -⟩, -⟩, -⟩, -⟩, -⟩, -⟩, -⟩, -⟩, -⟩, -⟩, -⟩, f12⟩, -⟩, -⟩, f15⟩, f16⟩ w1 hC1 E hE
    dsimp only at hE ⊢
    simp only [puts, act_put, act_put_none, List.setIfInBounds_toArray, List.set_cons_zero, List.set_cons_succ, f12, f15, f16] at hE ⊢
    clear f12 f15 f16
    go_wp2_with fail
    refine calls_then (CE3.out _) ?_
    rintro e w2 ⟨rfl, hb2⟩
    go_wp2_with fail
    exact .mk (hE _ (hC1.next hb2))
  apply DetL.next
  · -- 18: Op.pick (Operand.tmp 47) (Operand.tmp 52) (Operand.const (Value.bool false))
    apply detStep_plain [(12, some 47), (17, some 52)]
    exact fun _ => rfl
    rfl
    rintro vals ⟨⟨⟨⟨⟨⟨⟨⟨⟨⟨⟨⟨⟨⟨⟨⟨⟨⟨-, -⟩, -⟩, -⟩, -⟩, -⟩, -⟩, -⟩, -⟩, -⟩, -⟩, -⟩, -⟩, f12⟩, -⟩, -⟩, -⟩, -⟩, f17⟩ w1 hC1 E hE
    simp only [puts, act_put, act_put_none, List.setIfInBounds_toArray, List.set_cons_zero, List.set_cons_succ, f12, f17] at hE ⊢
    clear f12 f17
    go_wp2
    exact .mk (hE _ hC1)
  apply DetL.next
  · -- 19: Op.move (Operand.tmp 53)
    apply detStep_plain [(18, some 53), (17, some 52)]
    exact fun _ => rfl
    rfl
    rintro vals ⟨⟨⟨⟨⟨⟨⟨⟨⟨⟨⟨⟨⟨⟨⟨⟨⟨⟨⟨-, -⟩, -⟩, -⟩, -⟩, -⟩, -⟩, -⟩, -⟩, -⟩, -⟩, -⟩, -⟩, -⟩, -⟩, -⟩, -⟩, -⟩, f17⟩, f18⟩ w1 hC1 E hE
    simp only [puts, act_put, act_put_none, List.setIfInBounds_toArray, List.set_cons_zero, List.set_cons_succ, f17, f18] at hE ⊢
    clear f17 f18
    go_wp2
    exact .mk (hE _ hC1)
  apply DetL.next
  · -- 20: Op.move (Operand.tmp 0)
    apply detStep_yes [(19, some 54)] (g := 19) (t := 54) (want := true)
    exact fun _ => rfl
    rfl
    rfl
    · rintro vals ⟨⟨⟨⟨⟨⟨⟨⟨⟨⟨⟨⟨⟨⟨⟨⟨⟨⟨⟨⟨-, -⟩, -⟩, -⟩, -⟩, -⟩, -⟩, -⟩, -⟩, -⟩, -⟩, -⟩, -⟩, -⟩, -⟩, -⟩, -⟩, -⟩, -⟩, -⟩, f19⟩
      simp only [puts, act_put, act_put_none, List.setIfInBounds_toArray, List.set_cons_zero, List.set_cons_succ, f19]
      rfl
    rintro vals ⟨⟨⟨⟨⟨⟨⟨⟨⟨⟨⟨⟨⟨⟨⟨⟨⟨⟨⟨⟨-, -⟩, -⟩, -⟩, -⟩, -⟩, -⟩, -⟩, -⟩, -⟩, -⟩, -⟩, -⟩, -⟩, -⟩, -⟩, -⟩, -⟩, -⟩, -⟩, f19⟩ w1 hC1 E hE
    dsimp only at hE ⊢
    simp only [puts, act_put, act_put_none, List.setIfInBounds_toArray, List.set_cons_zero, List.set_cons_succ, f19] at hE ⊢
    clear f19
    go_wp2
    exact .mk (hE _ hC1)
  apply DetL.next
  · -- 21: Op.binOp BinOp.eql 5 (Operand.tmp 55) (Operand.const (Value.int IntKind.u8 0)) 5
    apply detStep_yes [(20, some 55), (19, some 54)] (g := 19) (t := 54) (want := true)
    exact fun _ => rfl
    rfl
    rfl
    · rintro vals ⟨⟨⟨⟨⟨⟨⟨⟨⟨⟨⟨⟨⟨⟨⟨⟨⟨⟨⟨⟨⟨-, -⟩, -⟩, -⟩, -⟩, -⟩, -⟩, -⟩, -⟩, -⟩, -⟩, -⟩, -⟩, -⟩, -⟩, -⟩, -⟩, -⟩, -⟩, -⟩, f19⟩, f20⟩
      simp only [puts, act_put, act_put_none, List.setIfInBounds_toArray, List.set_cons_zero, List.set_cons_succ, f19, f20]
      rfl
    rintro vals ⟨⟨⟨⟨⟨⟨⟨⟨⟨⟨⟨⟨⟨⟨⟨⟨⟨⟨⟨⟨⟨-, -⟩, -⟩, -⟩, -⟩, -⟩, -⟩, -⟩, -⟩, -⟩, -⟩, -⟩, -⟩, -⟩, -⟩, -⟩, -⟩, -⟩, -⟩, -⟩, f19⟩, f20⟩ w1 hC1 E hE
    dsimp only at hE ⊢
    simp only [puts, act_put, act_put_none, List.setIfInBounds_toArray, List.set_cons_zero, List.set_cons_succ, f19, f20] at hE ⊢
    clear f19 f20
    go_wp2
    rw [HKQ.out]
    exact .mk (hE _ hC1)
  apply DetL.next
  · -- 22: Op.load 28 (Operand.tmp 8)
    apply detStep_yes [(19, some 54)] (g := 19) (t := 54) (want := true)
    exact fun _ => rfl
    rfl
    rfl
    · rintro vals ⟨⟨⟨⟨⟨⟨⟨⟨⟨⟨⟨⟨⟨⟨⟨⟨⟨⟨⟨⟨⟨⟨-, -⟩, -⟩, -⟩, -⟩, -⟩, -⟩, -⟩, -⟩, -⟩, -⟩, -⟩, -⟩, -⟩, -⟩, -⟩, -⟩, -⟩, -⟩, -⟩, f19⟩, -⟩, -⟩
      simp only [puts, act_put, act_put_none, List.setIfInBounds_toArray, List.set_cons_zero, List.set_cons_succ, f19]
      rfl
    rintro vals ⟨⟨⟨⟨⟨⟨⟨⟨⟨⟨⟨⟨⟨⟨⟨⟨⟨⟨⟨⟨⟨⟨-, -⟩, -⟩, -⟩, -⟩, -⟩, -⟩, -⟩, -⟩, -⟩, -⟩, -⟩, -⟩, -⟩, -⟩, -⟩, -⟩, -⟩, -⟩, -⟩, f19⟩, -⟩, -⟩ w1 hC1 E hE
    dsimp only at hE ⊢
    simp only [puts, act_put, act_put_none, List.setIfInBounds_toArray, List.set_cons_zero, List.set_cons_succ, f19] at hE ⊢
    clear f19
    refine wpList_get_box (hC1.1.1) rfl rfl rfl hp rfl point_size ?_
    go_wp2_with fail
    exact .mk (hE _ hC1)
  apply DetL.next
  · -- 23: Op.call { callee := Callee.value (Operand.func 26), args := #[], argTypes := #[] }
    apply detStep_yes [(19, some 54), (19, some 54)] (g := 19) (t := 54) (want := true)
    exact fun _ => rfl
    rfl
    rfl
    · rintro vals ⟨⟨⟨⟨⟨⟨⟨⟨⟨⟨⟨⟨⟨⟨⟨⟨⟨⟨⟨⟨⟨⟨⟨-, -⟩, -⟩, -⟩, -⟩, -⟩, -⟩, -⟩, -⟩, -⟩, -⟩, -⟩, -⟩, -⟩, -⟩, -⟩, -⟩, -⟩, -⟩, -⟩, f19⟩, -⟩, -⟩, -⟩
      simp only [puts, act_put, act_put_none, List.setIfInBounds_toArray, List.set_cons_zero, List.set_cons_succ, f19]
      rfl
    rintro vals ⟨⟨⟨⟨⟨⟨⟨⟨⟨⟨⟨⟨⟨⟨⟨⟨⟨⟨⟨⟨⟨⟨⟨-, -⟩, -⟩, -⟩, -⟩, -⟩, -⟩, -⟩, -⟩, -⟩, -⟩, -⟩, -⟩, -⟩, -⟩, -⟩, -⟩, -⟩, -⟩, -⟩, f19⟩, -⟩, -⟩, -⟩ w1 hC1 E hE
    dsimp only at hE ⊢
    simp only [puts, act_put, act_put_none, List.setIfInBounds_toArray, List.set_cons_zero, List.set_cons_succ, f19] at hE ⊢
    clear f19
    go_wp2_with fail
    refine calls_then (CZ.out _) ?_
    rintro e w2 ⟨rfl, hb2⟩
    go_wp2_with fail
    exact .mk (hE _ (hC1.next hb2))
  apply DetL.next
  · -- 24: Op.call { callee := Callee.value (Operand.func 22), args := #[Operand.tmp 57, Operand.tmp 58], argTypes := #[2
    apply detStep_yes [(22, some 57), (23, some 58), (23, some 58), (19, some 54)] (g := 19) (t := 54) (want := true)
    exact fun _ => rfl
    rfl
    rfl
    · rintro vals ⟨⟨⟨⟨⟨⟨⟨⟨⟨⟨⟨⟨⟨⟨⟨⟨⟨⟨⟨⟨⟨⟨⟨⟨-, -⟩, -⟩, -⟩, -⟩, -⟩, -⟩, -⟩, -⟩, -⟩, -⟩, -⟩, -⟩, -⟩, -⟩, -⟩, -⟩, -⟩, -⟩, -⟩, f19⟩, -⟩, -⟩, f22⟩, f23⟩
      simp only [puts, act_put, act_put_none, List.setIfInBounds_toArray, List.set_cons_zero, List.set_cons_succ, f19, f22, f23]
      rfl
    rintro vals ⟨⟨⟨⟨⟨⟨⟨⟨⟨⟨⟨⟨⟨⟨⟨⟨⟨⟨⟨⟨⟨⟨⟨⟨-, -⟩, -⟩, -⟩, -⟩, -⟩, -⟩, -⟩, -⟩, -⟩, -⟩, -⟩, -⟩, -⟩, -⟩, -⟩, -⟩, -⟩, -⟩, -⟩, f19⟩, -⟩, -⟩, f22⟩, f23⟩ w1 hC1 E hE
    dsimp only at hE ⊢
    simp only [puts, act_put, act_put_none, List.setIfInBounds_toArray, List.set_cons_zero, List.set_cons_succ, f19, f22, f23] at hE ⊢
    clear f19 f22 f23
    go_wp2_with fail
    refine calls_then (CE4.out _) ?_
    rintro e w2 ⟨rfl, hb2⟩
    go_wp2_with fail
    exact .mk (hE _ (hC1.next hb2))
  apply DetL.next
  · -- 25: Op.binOp BinOp.eql 4 (Operand.tmp 56) (Operand.tmp 59) 4
    apply detStep_yes [(21, some 56), (24, some 59), (19, some 54)] (g := 19) (t := 54) (want := true)
    exact fun _ => rfl
    rfl
    rfl
    · rintro vals ⟨⟨⟨⟨⟨⟨⟨⟨⟨⟨⟨⟨⟨⟨⟨⟨⟨⟨⟨⟨⟨⟨⟨⟨⟨-, -⟩, -⟩, -⟩, -⟩, -⟩, -⟩, -⟩, -⟩, -⟩, -⟩, -⟩, -⟩, -⟩, -⟩, -⟩, -⟩, -⟩, -⟩, -⟩, f19⟩, -⟩, f21⟩, -⟩, -⟩, f24⟩
      simp only [puts, act_put, act_put_none, List.setIfInBounds_toArray, List.set_cons_zero, List.set_cons_succ, f19, f21, f24]
      rfl
    rintro vals ⟨⟨⟨⟨⟨⟨⟨⟨⟨⟨⟨⟨⟨⟨⟨⟨⟨⟨⟨⟨⟨⟨⟨⟨⟨-, -⟩, -⟩, -⟩, -⟩, -⟩, -⟩, -⟩, -⟩, -⟩, -⟩, -⟩, -⟩, -⟩, -⟩, -⟩, -⟩, -⟩, -⟩, -⟩, f19⟩, -⟩, f21⟩, -⟩, -⟩, f24⟩ w1 hC1 E hE
    dsimp only at hE ⊢
    simp only [puts, act_put, act_put_none, List.setIfInBounds_toArray, List.set_cons_zero, List.set_cons_succ, f19, f21, f24] at hE ⊢
    clear f19 f21 f24
    go_wp2
    exact .mk (hE _ hC1)
  apply DetL.next
  · -- 26: Op.pick (Operand.tmp 54) (Operand.tmp 60) (Operand.const (Value.bool false))
    apply detStep_plain [(19, some 54), (25, some 60)]
    exact fun _ => rfl
    rfl
    rintro vals ⟨⟨⟨⟨⟨⟨⟨⟨⟨⟨⟨⟨⟨⟨⟨⟨⟨⟨⟨⟨⟨⟨⟨⟨⟨⟨-, -⟩, -⟩, -⟩, -⟩, -⟩, -⟩, -⟩, -⟩, -⟩, -⟩, -⟩, -⟩, -⟩, -⟩, -⟩, -⟩, -⟩, -⟩, -⟩, f19⟩, -⟩, -⟩, -⟩, -⟩, -⟩, f25⟩ w1 hC1 E hE
    simp only [puts, act_put, act_put_none, List.setIfInBounds_toArray, List.set_cons_zero, List.set_cons_succ, f19, f25] at hE ⊢
    clear f19 f25
    go_wp2
    exact .mk (hE _ hC1)
  apply DetL.next
  · -- 27: Op.move (Operand.tmp 61)
    apply detStep_plain [(26, some 61), (24, some 59)]
    exact fun _ => rfl
    rfl
    rintro vals ⟨⟨⟨⟨⟨⟨⟨⟨⟨⟨⟨⟨⟨⟨⟨⟨⟨⟨⟨⟨⟨⟨⟨⟨⟨⟨⟨-, -⟩, -⟩, -⟩, -⟩, -⟩, -⟩, -⟩, -⟩, -⟩, -⟩, -⟩, -⟩, -⟩, -⟩, -⟩, -⟩, -⟩, -⟩, -⟩, -⟩, -⟩, -⟩, -⟩, -⟩, f24⟩, -⟩, f26⟩ w1 hC1 E hE
    simp only [puts, act_put, act_put_none, List.setIfInBounds_toArray, List.set_cons_zero, List.set_cons_succ, f24, f26] at hE ⊢
    clear f24 f26
    go_wp2
    exact .mk (hE _ hC1)
  apply DetL.next
  · -- 28: Op.call { callee := Callee.value (Operand.func 18), args := #[], argTypes := #[] }
    apply detStep_yes [(27, some 62), (27, some 62)] (g := 27) (t := 62) (want := true)
    exact fun _ => rfl
    rfl
    rfl
    · rintro vals ⟨⟨⟨⟨⟨⟨⟨⟨⟨⟨⟨⟨⟨⟨⟨⟨⟨⟨⟨⟨⟨⟨⟨⟨⟨⟨⟨⟨-, -⟩, -⟩, -⟩, -⟩, -⟩, -⟩, -⟩, -⟩, -⟩, -⟩, -⟩, -⟩, -⟩, -⟩, -⟩, -⟩, -⟩, -⟩, -⟩, -⟩, -⟩, -⟩, -⟩, -⟩, -⟩, -⟩, -⟩, f27⟩
      simp only [puts, act_put, act_put_none, List.setIfInBounds_toArray, List.set_cons_zero, List.set_cons_succ, f27]
      rfl
    rintro vals ⟨⟨⟨⟨⟨⟨⟨⟨⟨⟨⟨⟨⟨⟨⟨⟨⟨⟨⟨⟨⟨⟨⟨⟨⟨⟨⟨⟨-, -⟩, -⟩, -⟩, -⟩, -⟩, -⟩, -⟩, -⟩, -⟩, -⟩, -⟩, -⟩, -⟩, -⟩, -⟩, -⟩, -⟩, -⟩, -⟩, -⟩, -⟩, -⟩, -⟩, -⟩, -⟩, -⟩, -⟩, f27⟩ w1 hC1 E hE
    dsimp only at hE ⊢
    simp only [puts, act_put, act_put_none, List.setIfInBounds_toArray, List.set_cons_zero, List.set_cons_succ, f27] at hE ⊢
    clear f27
    go_wp2_with fail
    refine calls_then (clives_any _) ?_
    rintro e w2 ⟨rfl, hb2⟩
    go_wp2_with fail
    exact .mk (hE _ (hC1.next hb2))
  apply DetL.next
  · -- 29: Op.pick (Operand.tmp 62) (Operand.tmp 63) (Operand.const (Value.bool false))
    apply detStep_plain [(27, some 62), (28, some 63)]
    exact fun _ => rfl
    rfl
    rintro vals ⟨⟨⟨⟨⟨⟨⟨⟨⟨⟨⟨⟨⟨⟨⟨⟨⟨⟨⟨⟨⟨⟨⟨⟨⟨⟨⟨⟨⟨-, -⟩, -⟩, -⟩, -⟩, -⟩, -⟩, -⟩, -⟩, -⟩, -⟩, -⟩, -⟩, -⟩, -⟩, -⟩, -⟩, -⟩, -⟩, -⟩, -⟩, -⟩, -⟩, -⟩, -⟩, -⟩, -⟩, -⟩, f27⟩, f28⟩ w1 hC1 E hE
    simp only [puts, act_put, act_put_none, List.setIfInBounds_toArray, List.set_cons_zero, List.set_cons_succ, f27, f28] at hE ⊢
    clear f27 f28
    go_wp2
    exact .mk (hE _ hC1)
  apply DetL.last
  · -- 30: Op.assign (Operand.tmp 64)
    apply detStep_plain [(29, some 64), (28, some 63), (0, some 35), (1, some 36), (2, some 37), (3, some 38), (4, some 39), (5, some 40), (6, some 41), (7, some 42), (8, some 43), (9, some 44), (10, some 45), (11, some 46), (12, some 47), (13, some 48), (14, some 49), (15, some 50), (16, some 51), (17, some 52), (18, some 53), (19, some 54), (20, some 55), (21, some 56), (22, some 57), (23, some 58), (24, some 59), (25, some 60), (26, some 61), (27, some 62), (28, some 63), (29, some 64)]
    exact fun _ => rfl
    rfl
    rintro vals ⟨⟨⟨⟨⟨⟨⟨⟨⟨⟨⟨⟨⟨⟨⟨⟨⟨⟨⟨⟨⟨⟨⟨⟨⟨⟨⟨⟨⟨⟨-, f0⟩, f1⟩, f2⟩, f3⟩, f4⟩, f5⟩, f6⟩, f7⟩, f8⟩, f9⟩, f10⟩, f11⟩, f12⟩, f13⟩, f14⟩, f15⟩, f16⟩, f17⟩, f18⟩, f19⟩, f20⟩, f21⟩, f22⟩, f23⟩, f24⟩, f25⟩, f26⟩, f27⟩, f28⟩, f29⟩ w1 hC1 E hE
    simp only [puts, act_put, act_put_none, List.setIfInBounds_toArray, List.set_cons_zero, List.set_cons_succ, f0, f1, f2, f3, f4, f5, f6, f7, f8, f9, f10, f11, f12, f13, f14, f15, f16, f17, f18, f19, f20, f21, f22, f23, f24, f25, f26, f27, f28, f29] at hE ⊢
    clear f0 f1 f2 f3 f4 f5 f6 f7 f8 f9 f10 f11 f12 f13 f14 f15 f16 f17 f18 f19 f20 f21 f22 f23 f24 f25 f26 f27 f28 f29
    go_wp2
    exact .mk (hE _ hC1)
  rintro vals ⟨⟨⟨⟨⟨⟨⟨⟨⟨⟨⟨⟨⟨⟨⟨⟨⟨⟨⟨⟨⟨⟨⟨⟨⟨⟨⟨⟨⟨⟨⟨-, f0⟩, f1⟩, f2⟩, f3⟩, f4⟩, f5⟩, f6⟩, f7⟩, f8⟩, f9⟩, f10⟩, f11⟩, f12⟩, f13⟩, f14⟩, f15⟩, f16⟩, f17⟩, f18⟩, f19⟩, f20⟩, f21⟩, f22⟩, f23⟩, f24⟩, f25⟩, f26⟩, f27⟩, f28⟩, f29⟩, f30⟩ w1 hC1
  simp only [puts, act_put, act_put_none, List.setIfInBounds_toArray, List.set_cons_zero, List.set_cons_succ, f0, f1, f2, f3, f4, f5, f6, f7, f8, f9, f10, f11, f12, f13, f14, f15, f16, f17, f18, f19, f20, f21, f22, f23, f24, f25, f26, f27, f28, f29, f30]
  clear f0 f1 f2 f3 f4 f5 f6 f7 f8 f9 f10 f11 f12 f13 f14 f15 f16 f17 f18 f19 f20 f21 f22 f23 f24 f25 f26 f27 f28 f29 f30
  have HST14 := Lib.hid hC1
  clear hC1 HC0
  go_wp2_with fail
  go_ret
  exact ⟨rfl, HST14.out.2⟩
end Go.Proofs.Ytbeokfpbhemcfaa
namespace Go.Proofs.Ytbeokfpbhemcfaa.curveBase
set_option linter.unusedSimpArgs false
set_option linter.unusedVariables false
open Go.ChangeShapes Go.WideShapes Go.ChangeAt Go.RowKit Go.Joins

set_option maxRecDepth 100000 in
theorem lifted (os : Os) (started : os.Started) (H : Type) (enc : TypeId × Value → H) :
    ReturnsInHanded {} Try.checked os 6 .any (Rows.curveBaseSpec.pre6 enc Try.prog Try.f6 Rows.curveBaseRow.domain false) (Rows.curveBaseSpec.post enc Try.prog Try.f6 false true false false) := by
  refine returnsInHanded_of_change (C := Try.checked) own started (by kernel_rfl) Try.func6
    (ChangeSpec.witness6 (enc := enc) (C := Try.checked) false ⟨#[], #[.int .u8 0], []⟩ 8 (by kernel_rfl) (by kernel_rfl) (by kernel_rfl) (by kernel_rfl)) ?_
  intro W base args ds gs before hval0 hW hcnd _
  have hval : ∀ (j : Nat) t v, Try.f6.params[j]? = some t → args[j]? = some v → Value.okWide Try.prog W .any base t v := hval0
  have hW' := hW
  obtain ⟨p, q, hA0, hV, rfl, hfz, hnd⟩ := hW
  have hA : DataW.TrodAll enc Try.prog W 0 (fun _ => true) true Try.f6.params.toList args.toList ds p := hA0
  rw [Try.params6] at hA hval
  obtain ⟨v0, d0, rfl, rfl, h0⟩ := trodAll_one hA
  obtain ⟨rfl, rfl⟩ := trodVars_none hV
  have h0k := h0
  obtain ⟨n0, rfl, _, _, w0⟩ := open_int Try.underlying5 (hval 0 5 v0 rfl rfl) h0
  clear hA0 hval0
  simp only [List.append_nil] at hW'
  refine (cbase_any n0 W w0).mono fun e W' ⟨he, hb⟩ => ?_
  subst he
  have hlt : ∀ x ∈ p, x.block < W.heap.size := fun x hx => hW'.lt x (by simpa using hx)
  exact ⟨_, rfl, post_of_below (pa := p) (pv := []) hW' (fun _ _ _ => trodAll_mk1 (shut_bool Try.underlying4 _))
    (fun sp hsp => trodAll_mk1 (stays laidOut (by kernel_rfl) (of_decide_eq_true (by kernel_rfl)) h0k hb hlt hsp))
    (fun _ _ => rfl) (by simp) hb (ok_one (by kernel_rfl) rfl (okWide_bool_mk Try.underlying4 _))⟩

theorem holds : Rows.CurveBaseSaid :=
  OpenClaim.holds_of_wide 6 Try.f6 rfl rfl rfl rfl rfl rfl rfl ⟨rfl, rfl, rfl, rfl, rfl⟩ rfl rfl rfl rfl rfl (by kernel_rfl) Try.func6 (by kernel_rfl)
    (of_decide_eq_true (by kernel_rfl)) (by unfold Func.isWrapper; first | (rw [if_pos (by decide +kernel)]; kernel_rfl) | (rw [if_neg (by decide +kernel)]; exact ⟨rfl, rfl⟩))
    (fun os started H enc _ => lifted os started H enc)

#print axioms holds
end Go.Proofs.Ytbeokfpbhemcfaa.curveBase
