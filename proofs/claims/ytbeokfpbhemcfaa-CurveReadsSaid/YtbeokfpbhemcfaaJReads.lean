/-
  PROVED: 'brevetlaw05.CurveReads': at every input the law returns true; what came in reads as before.
-/
import Derived.Test.YtbeokfpbhemcfaaJ11
import Derived.Test.YtbeokfpbhemcfaaJ1
/-
  Walk: the law CurveReads.
-/
namespace Go.Proofs.Ytbeokfpbhemcfaa
set_option linter.unusedSimpArgs false
set_option linter.unusedVariables false
open Go.RowKit

set_option maxRecDepth 100000 in
set_option maxHeartbeats 4000000 in
theorem creads_any (l : List UInt8) (A : Option Addr) (c : Nat) (w : World) (hr : Rd w w.heap.size A (bytesV l)) (hc : l.length ≤ c) :
    Calls Try.prog 8 #[.slice A l.length c] w (BoolPost true w) := by
  have hp := Try.underlying28
  obtain ⟨n1, hn1⟩ : ∃ x, x = l.length := ⟨_, rfl⟩
  obtain ⟨La, hLa⟩ : ∃ x, x = l.take 36 := ⟨_, rfl⟩
  have rLa : Rd w w.heap.size A (bytesV La) := by rw [hLa]; exact rd_takeB hr
  obtain ⟨p1, hp1⟩ : ∃ x, x = La.length := ⟨_, rfl⟩
  have lep1 : p1 ≤ c := by rw [hp1, hLa, List.length_take]; omega
  have FLa := Lib.hid (show ∀ u, Calls Try.prog 12 #[.slice A n1 c, .int .i64 36] u (fun e w' => e = .returned (.slice A p1 c) ∧ w' = u) from fun u => by
    rw [hp1, hLa, hn1]; exact few_any l 36 (by decide) A c u (nil_len' hr) hc)
  have hpt := Try.underlying34
  obtain ⟨y2, u', t, v', i, a, x, q, WW⟩ := ofW_ex (yOf La)
  have hp36 : p1 ≤ 36 := by rw [hp1, hLa, List.length_take]; omega
  obtain ⟨RR, hRR⟩ : ∃ r, r = crd La := ⟨_, rfl⟩
  obtain ⟨o, ho⟩ : ∃ o, o = rrd La (ofR (rtV a x q) (rtB a x q) (oddOf La)) := ⟨_, rfl⟩
  have CRD := Lib.hid (show ∀ u, Rd u u.heap.size A (bytesV La) → Calls Try.prog 27 #[.slice A p1 c] u (CReadPost RR u) from fun u hr => by
    rw [hp1, hRR]; exact cread_any La A c u hr (by omega) (by omega))
  have CRR := Lib.hid (show ∀ u, Rd u u.heap.size A (bytesV La) → Calls Try.prog 13 #[.slice A p1 c] u (RReadPost o u) from fun u hr => by
    rw [hp1]; exact rread_any WW (o := o) (by rw [ho]; rfl) hr (by omega) (by omega))
  have hboth := both_read WW
  rw [← ho, ← hRR] at hboth
  rw [← hn1]
  have HST0 := Lib.hid (show Cs [.rd A (bytesV La)] w w from ⟨⟨rLa, trivial⟩, Below.refl _ _⟩)
  clear WW ho hRR hp36 rLa hr hc hn1 lep1
  rcases hboth with ⟨rfl, h2⟩ | ⟨PF, rfl, h2, okX, isX, hby⟩
  · obtain ⟨X, e⟩ := RR
    obtain rfl : e = 2 := h2
    clear hp1 hLa
    go_enter Try.func8, Try.ntmps8
    go_wp2_with fail
    refine calls_then (FLa.out _) ?_
    rintro e u0 ⟨rfl, hq⟩
    have hq' := hq.symm
    clear hq
    subst hq'
    go_wp2_with fail
    refine calls_then (CRD.out _ (HST0.out.1.1)) ?_
    rintro e y2 ⟨rfl, hb⟩
    have HST2 := Lib.hid (HST0.out.next hb)
    clear hb HST0
    go_wp2_with (refine wpList_put_box (x := .tmp 3) (cells := ptV X) (Blk.new _ _ _) rfl rfl rfl rfl point_size rfl (by simp [ptV, wV, limbs, Value.oneCell']) ?_; intro y3 hb hw; have hk := box_low hw; have HST3 := Lib.hid (show Cs [.box y2.heap.size 28 (ptV X), .rd A (bytesV La)] w y3 from ⟨⟨hb, (HST2.out.next hk).1⟩, (HST2.out.next hk).2⟩); clear hb hw hk HST2)
    generalize y2.heap.size = g1 at *
    refine calls_then (CRR.out _ (HST3.out.1.2.1)) ?_
    rintro e y4 ⟨hb, hm⟩
    obtain rfl := hm
    have HST4 := Lib.hid (HST3.out.next hb)
    clear hb HST3
    go_wp2_with (refine wpList_put_box (x := .tmp 5) (cells := pairV nilS nilS) (Blk.new _ _ _) rfl rfl rfl rfl pair_size rfl (by simp [pairV, nilS, Value.oneCell']) ?_; intro z1 hb hw; have HSTa := Lib.hid (HST4.out.next (box_low hw)); clear hb hw HST4)
    refine calls_then (clives_any _) ?_
    rintro e z3 ⟨rfl, hb⟩
    have HSTc := Lib.hid (HSTa.out.next hb)
    clear hb HSTa
    go_wp2_with fail
    go_ret
    exact ⟨rfl, HSTc.out.2⟩
  · obtain ⟨X, e⟩ := RR
    obtain rfl : e = 0 := h2
    obtain ⟨M, hM⟩ : ∃ M, M = digs La := ⟨_, rfl⟩
    have hMl : M.length = 32 := by rw [hM, ← hby]; exact byP_len _ _
    have hMd : Dg M := by rw [hM]; exact digs_lt La
    obtain rfl : p1 = 32 := by rw [hp1, ← hMl, hM, digs, List.length_map]
    have hbm : bytP X = M := by rw [hM, ← hby]; exact bytP_is okX isX
    have hvm : bytesV La = bnV M := by rw [hM, bnV_digs]
    have CY := Lib.hid (show ∀ u, Calls Try.prog 14 #[.agg (ptV X)] u (ByPost M u) from fun u => by rw [← hbm]; exact pby_by X okX u)
    obtain ⟨ST, hST⟩ : ∃ x : ByteArray, x = ⟨(toB M).toArray⟩ := ⟨_, rfl⟩
    have CSV := Lib.hid (show ∀ u A c, Rd u u.heap.size A (bnV M) → (convert 22 9 (.slice A 32 c)).run Try.prog u = .ok (.string ST) u from fun u A c hr => by rw [hST]; exact conv_bn hMd hMl hr c)
    obtain ⟨px, hpx⟩ : ∃ x, x = PF.x.val := ⟨_, rfl⟩
    obtain ⟨py, hpy⟩ : ∃ x, x = PF.y.val := ⟨_, rfl⟩
    have CON := Lib.hid (show ∀ u A1 c1 B1 d1, Rd u u.heap.size A1 (DN px) → Rd u u.heap.size B1 (DN py) → Calls Try.prog 28 #[.agg (pairV (.slice A1 32 c1) (.slice B1 32 d1))] u (BoolPost true u) from fun u A1 c1 B1 d1 h1 h2 => by
      have h := non_any (by rw [hpx]; exact PF.x.isLt) (by rw [hpy]; exact PF.y.isLt) (cx := c1) (cy := d1) h1 h2
      rw [show onB px py = true by rw [hpx, hpy]; exact onB_is PF] at h
      exact h)
    rw [← hpx, ← hpy] at CRR
    rw [hvm] at HST0 CRD CRR
    clear hp1 hLa hM hMl hMd hbm hvm hby okX isX hST hpx hpy
    go_enter Try.func8, Try.ntmps8
    go_wp2_with fail
    refine calls_then (FLa.out _) ?_
    rintro e u20 ⟨rfl, hq⟩
    have hq' := hq.symm
    clear hq
    subst hq'
    go_wp2_with fail
    refine calls_then (CRD.out _ (HST0.out.1.1)) ?_
    rintro e y22 ⟨rfl, hb⟩
    have HST22 := Lib.hid (HST0.out.next hb)
    clear hb HST0
    go_wp2_with (refine wpList_put_box (x := .tmp 3) (cells := ptV X) (Blk.new _ _ _) rfl rfl rfl rfl point_size rfl (by simp [ptV, wV, limbs, Value.oneCell']) ?_; intro y23 hb hw; have hk := box_low hw; have HST23 := Lib.hid (show Cs [.box y22.heap.size 28 (ptV X), .rd A (bnV M)] w y23 from ⟨⟨hb, (HST22.out.next hk).1⟩, (HST22.out.next hk).2⟩); clear hb hw hk HST22)
    generalize y22.heap.size = g1 at *
    refine calls_then (CRR.out _ (HST23.out.1.2.1)) ?_
    rintro e y24 ⟨hb, Xs, cxs, Ys, cys, rfl, hcx, hcy, hrx, hry⟩
    have HST24 := Lib.hid (show Cs [.rd Xs (DN px), .rd Ys (DN py), .box g1 28 (ptV X), .rd A (bnV M)] w y24 from ⟨⟨hrx, hry, (HST23.out.next hb).1⟩, (HST23.out.next hb).2⟩)
    clear hb HST23
    clear hcx hcy hrx hry
    go_wp2_with (refine wpList_put_box (x := .tmp 5) (cells := (pairV (.slice Xs 32 cxs) (.slice Ys 32 cys))) (Blk.new _ _ _) rfl rfl rfl rfl pair_size rfl (by simp [pairV, Value.oneCell']) ?_; intro y25 hb hw; have hk := box_low hw; have HST25 := Lib.hid (show Cs [.box y24.heap.size 34 (pairV (.slice Xs 32 cxs) (.slice Ys 32 cys)), .rd Xs (DN px), .rd Ys (DN py), .box g1 28 (ptV X), .rd A (bnV M)] w y25 from ⟨⟨hb, (HST24.out.next hk).1⟩, (HST24.out.next hk).2⟩); clear hb hw hk HST24)
    generalize y24.heap.size = g5 at *
    have HC0 := HST25.out.drew
    clear HST25
    refine wp_region_list (fun u => Cs [.box g5 34 (pairV (.slice Xs 32 cxs) (.slice Ys 32 cys)), .rd Xs (DN px), .rd Ys (DN py), .box g1 28 (ptV X), .rd A (bnV M)] w u) (fun | false => (fun _ => True) | true => (fun _ => True)) (fun | false, _ => false | true, _ => false)
      [fun z _ => z 0 = .int .i64 0,
       fun z _ => z 1 = .bool true,
       fun z _ => z 2 = .bool true,
       fun z _ => z 3 = .agg (ptV X),
       fun z u => (RdV 32 (bnV M)) (z 4) u,
       fun z _ => z 5 = .string ST,
       fun z _ => z 6 = .slice A 32 c,
       fun z _ => z 7 = .string ST,
       fun z _ => z 8 = .bool true,
       fun z _ => z 9 = .bool true,
       fun z _ => z 10 = .bool true,
       fun z _ => z 11 = .agg (pairV (.slice Xs 32 cxs) (.slice Ys 32 cys)),
       fun z _ => z 12 = .bool true,
       fun z _ => z 13 = .bool true,
       fun z _ => z 14 = .bool true,
       fun z _ => z 15 = .bool true,
       fun z _ => z 16 = .bool true,
       fun z _ => z 17 = .bool true]
      [Eq, Eq, Eq, Eq, fun u u' => Below u.heap.size u u', Eq, Eq, Eq, Eq, Eq, Eq, Eq, fun u u' => Below u.heap.size u u', Eq, Eq, fun u u' => Below u.heap.size u u', Eq, Eq]
      (fun _ _ => false) [(0, some 26), (1, some 27), (2, some 28), (3, some 29), (4, some 30), (5, some 31), (6, some 32), (7, some 33), (8, some 34), (9, some 35), (10, some 36), (11, some 37), (12, some 38), (13, some 39), (14, some 40), (15, some 41), (16, some 42), (17, some 2)] (by kernel_rfl) (by kernel_rfl) rfl (fun _ => rfl) ?_ ?_ ?_ ?_ ?_ ?_
    · exact HC0
    · intro m; cases m; exact trivial; exact trivial
    · intro m; cases m
      · exact ⟨.inr (fun _ _ h h0 => h ▸ h0), .inr (fun _ _ h h0 => h ▸ h0), .inr (fun _ _ h h0 => h ▸ h0), .inr (fun _ _ h h0 => h ▸ h0), .inr (fun _ _ _ h => h), .inr (fun _ _ h h0 => h ▸ h0), .inr (fun _ _ h h0 => h ▸ h0), .inr (fun _ _ h h0 => h ▸ h0), .inr (fun _ _ h h0 => h ▸ h0), .inr (fun _ _ h h0 => h ▸ h0), .inr (fun _ _ h h0 => h ▸ h0), .inr (fun _ _ h h0 => h ▸ h0), .inr (fun _ _ _ h => h), .inr (fun _ _ h h0 => h ▸ h0), .inr (fun _ _ h h0 => h ▸ h0), .inr (fun _ _ _ h => h), .inr (fun _ _ h h0 => h ▸ h0), .inr (fun _ _ h h0 => h ▸ h0), trivial⟩
      · exact ⟨.inr (fun _ _ h h0 => h ▸ h0), .inr (fun _ _ h h0 => h ▸ h0), .inr (fun _ _ h h0 => h ▸ h0), .inr (fun _ _ h h0 => h ▸ h0), .inr (fun _ _ _ h => h), .inr (fun _ _ h h0 => h ▸ h0), .inr (fun _ _ h h0 => h ▸ h0), .inr (fun _ _ h h0 => h ▸ h0), .inr (fun _ _ h h0 => h ▸ h0), .inr (fun _ _ h h0 => h ▸ h0), .inr (fun _ _ h h0 => h ▸ h0), .inr (fun _ _ h h0 => h ▸ h0), .inr (fun _ _ _ h => h), .inr (fun _ _ h h0 => h ▸ h0), .inr (fun _ _ h h0 => h ▸ h0), .inr (fun _ _ _ h => h), .inr (fun _ _ h h0 => h ▸ h0), .inr (fun _ _ h h0 => h ▸ h0), trivial⟩
    · exact ⟨⟨.inl rfl, .inr (.inr (.inl rfl)), .inr (.inr (.inl rfl)), .inr (.inr (.inl rfl)), .inr (.inr (.inl rfl)), .inr (.inr (.inl rfl)), .inr (.inr (.inl rfl)), .inr (.inr (.inl rfl)), .inr (.inr (.inl rfl)), .inr (.inr (.inl rfl)), .inr (.inr (.inr (fun _ _ _ _ _ h => h))), .inr (.inr (.inr (fun _ _ _ _ _ h => h))), .inr (.inr (.inr (fun _ _ _ _ _ h => h))), .inr (.inr (.inr (fun _ _ _ _ _ h => h))), .inr (.inr (.inr (fun _ _ _ _ _ h => h))), .inr (.inr (.inr (fun _ _ _ _ _ h => h))), .inr (.inr (.inr (fun _ _ _ _ _ h => h))), .inr (.inr (.inl rfl)), trivial⟩,
        ⟨.inr (.inr (.inr (fun _ _ _ _ _ h => h))), .inl rfl, .inr (.inr (.inl rfl)), .inr (.inr (.inl rfl)), .inr (.inr (.inl rfl)), .inr (.inr (.inl rfl)), .inr (.inr (.inl rfl)), .inr (.inr (.inl rfl)), .inr (.inr (.inl rfl)), .inr (.inr (.inl rfl)), .inr (.inr (.inl rfl)), .inr (.inr (.inr (fun _ _ _ _ _ h => h))), .inr (.inr (.inr (fun _ _ _ _ _ h => h))), .inr (.inr (.inr (fun _ _ _ _ _ h => h))), .inr (.inr (.inr (fun _ _ _ _ _ h => h))), .inr (.inr (.inr (fun _ _ _ _ _ h => h))), .inr (.inr (.inr (fun _ _ _ _ _ h => h))), .inr (.inr (.inl rfl)), trivial⟩,
        ⟨.inr (.inr (.inr (fun _ _ _ _ _ h => h))), .inr (.inr (.inr (fun _ _ _ _ _ h => h))), .inl rfl, .inr (.inr (.inl rfl)), .inr (.inr (.inl rfl)), .inr (.inr (.inl rfl)), .inr (.inr (.inl rfl)), .inr (.inr (.inl rfl)), .inr (.inr (.inl rfl)), .inr (.inr (.inl rfl)), .inr (.inr (.inl rfl)), .inr (.inr (.inl rfl)), .inr (.inr (.inl rfl)), .inr (.inr (.inl rfl)), .inr (.inr (.inr (fun _ _ _ _ _ h => h))), .inr (.inr (.inr (fun _ _ _ _ _ h => h))), .inr (.inr (.inr (fun _ _ _ _ _ h => h))), .inr (.inr (.inl rfl)), trivial⟩,
        ⟨.inr (.inr (.inr (fun _ _ _ _ _ h => h))), .inr (.inr (.inr (fun _ _ _ _ _ h => h))), .inr (.inr (.inr (fun _ _ _ _ _ h => h))), .inl rfl, .inr (.inr (.inl rfl)), .inr (.inr (.inl rfl)), .inr (.inr (.inr (fun _ _ _ _ _ h => h))), .inr (.inr (.inr (fun _ _ _ _ _ h => h))), .inr (.inr (.inl rfl)), .inr (.inr (.inr (fun _ _ _ _ _ h => h))), .inr (.inr (.inl rfl)), .inr (.inr (.inl rfl)), .inr (.inr (.inl rfl)), .inr (.inr (.inl rfl)), .inr (.inr (.inr (fun _ _ _ _ _ h => h))), .inr (.inr (.inr (fun _ _ _ _ _ h => h))), .inr (.inr (.inr (fun _ _ _ _ _ h => h))), .inr (.inr (.inl rfl)), trivial⟩,
        ⟨.inr (.inr (.inr (fun _ _ _ _ _ h => h))), .inr (.inr (.inr (fun _ _ _ _ _ h => h))), .inr (.inr (.inr (fun _ _ _ _ _ h => h))), .inr (.inr (.inr (fun _ _ _ _ _ h => h))), .inl rfl, .inr (.inr (.inl rfl)), .inr (.inr (.inr (fun _ _ _ _ _ h => h))), .inr (.inr (.inr (fun _ _ _ _ _ h => h))), .inr (.inr (.inl rfl)), .inr (.inr (.inl rfl)), .inr (.inr (.inl rfl)), .inr (.inr (.inl rfl)), .inr (.inr (.inl rfl)), .inr (.inr (.inl rfl)), .inr (.inr (.inl rfl)), .inr (.inr (.inr (fun _ _ _ _ _ h => h))), .inr (.inr (.inr (fun _ _ _ _ _ h => h))), .inr (.inr (.inl rfl)), trivial⟩,
        ⟨.inr (.inr (.inr (fun _ _ _ _ _ h => h))), .inr (.inr (.inr (fun _ _ _ _ _ h => h))), .inr (.inr (.inr (fun _ _ _ _ _ h => h))), .inr (.inr (.inr (fun _ _ _ _ _ h => h))), .inr (.inr (.inr (fun _ _ _ _ h h0 => by cases h; exact h0))), .inl rfl, .inr (.inr (.inr (fun _ _ _ _ _ h => h))), .inr (.inr (.inr (fun _ _ _ _ _ h => h))), .inr (.inr (.inl rfl)), .inr (.inr (.inl rfl)), .inr (.inr (.inl rfl)), .inr (.inr (.inr (fun _ _ _ _ _ h => h))), .inr (.inr (.inr (fun _ _ _ _ _ h => h))), .inr (.inr (.inr (fun _ _ _ _ _ h => h))), .inr (.inr (.inr (fun _ _ _ _ _ h => h))), .inr (.inr (.inr (fun _ _ _ _ _ h => h))), .inr (.inr (.inr (fun _ _ _ _ _ h => h))), .inr (.inr (.inl rfl)), trivial⟩,
        ⟨.inr (.inr (.inr (fun _ _ _ _ _ h => h))), .inr (.inr (.inr (fun _ _ _ _ _ h => h))), .inr (.inr (.inr (fun _ _ _ _ _ h => h))), .inr (.inr (.inr (fun _ _ _ _ _ h => h))), .inr (.inr (.inr (fun _ _ _ _ h h0 => by cases h; exact h0))), .inr (.inr (.inr (fun _ _ _ _ _ h => h))), .inl rfl, .inr (.inr (.inl rfl)), .inr (.inr (.inl rfl)), .inr (.inr (.inl rfl)), .inr (.inr (.inr (fun _ _ _ _ _ h => h))), .inr (.inr (.inr (fun _ _ _ _ _ h => h))), .inr (.inr (.inr (fun _ _ _ _ _ h => h))), .inr (.inr (.inr (fun _ _ _ _ _ h => h))), .inr (.inr (.inr (fun _ _ _ _ _ h => h))), .inr (.inr (.inr (fun _ _ _ _ _ h => h))), .inr (.inr (.inr (fun _ _ _ _ _ h => h))), .inr (.inr (.inl rfl)), trivial⟩,
        ⟨.inr (.inr (.inr (fun _ _ _ _ _ h => h))), .inr (.inr (.inr (fun _ _ _ _ _ h => h))), .inr (.inr (.inr (fun _ _ _ _ _ h => h))), .inr (.inr (.inr (fun _ _ _ _ _ h => h))), .inr (.inr (.inr (fun _ _ _ _ h h0 => by cases h; exact h0))), .inr (.inr (.inr (fun _ _ _ _ _ h => h))), .inr (.inr (.inr (fun _ _ _ _ _ h => h))), .inl rfl, .inr (.inr (.inl rfl)), .inr (.inr (.inl rfl)), .inr (.inr (.inl rfl)), .inr (.inr (.inr (fun _ _ _ _ _ h => h))), .inr (.inr (.inr (fun _ _ _ _ _ h => h))), .inr (.inr (.inr (fun _ _ _ _ _ h => h))), .inr (.inr (.inr (fun _ _ _ _ _ h => h))), .inr (.inr (.inr (fun _ _ _ _ _ h => h))), .inr (.inr (.inr (fun _ _ _ _ _ h => h))), .inr (.inr (.inl rfl)), trivial⟩,
        ⟨.inr (.inr (.inr (fun _ _ _ _ _ h => h))), .inr (.inr (.inr (fun _ _ _ _ _ h => h))), .inr (.inr (.inr (fun _ _ _ _ _ h => h))), .inr (.inr (.inr (fun _ _ _ _ _ h => h))), .inr (.inr (.inr (fun _ _ _ _ h h0 => by cases h; exact h0))), .inr (.inr (.inr (fun _ _ _ _ _ h => h))), .inr (.inr (.inr (fun _ _ _ _ _ h => h))), .inr (.inr (.inr (fun _ _ _ _ _ h => h))), .inl rfl, .inr (.inr (.inl rfl)), .inr (.inr (.inl rfl)), .inr (.inr (.inl rfl)), .inr (.inr (.inl rfl)), .inr (.inr (.inl rfl)), .inr (.inr (.inr (fun _ _ _ _ _ h => h))), .inr (.inr (.inr (fun _ _ _ _ _ h => h))), .inr (.inr (.inr (fun _ _ _ _ _ h => h))), .inr (.inr (.inl rfl)), trivial⟩,
        ⟨.inr (.inr (.inr (fun _ _ _ _ _ h => h))), .inr (.inr (.inr (fun _ _ _ _ _ h => h))), .inr (.inr (.inr (fun _ _ _ _ _ h => h))), .inr (.inr (.inr (fun _ _ _ _ _ h => h))), .inr (.inr (.inr (fun _ _ _ _ h h0 => by cases h; exact h0))), .inr (.inr (.inr (fun _ _ _ _ _ h => h))), .inr (.inr (.inr (fun _ _ _ _ _ h => h))), .inr (.inr (.inr (fun _ _ _ _ _ h => h))), .inr (.inr (.inr (fun _ _ _ _ _ h => h))), .inl rfl, .inr (.inr (.inl rfl)), .inr (.inr (.inl rfl)), .inr (.inr (.inl rfl)), .inr (.inr (.inl rfl)), .inr (.inr (.inl rfl)), .inr (.inr (.inr (fun _ _ _ _ _ h => h))), .inr (.inr (.inr (fun _ _ _ _ _ h => h))), .inr (.inr (.inl rfl)), trivial⟩,
        ⟨.inr (.inr (.inr (fun _ _ _ _ _ h => h))), .inr (.inr (.inr (fun _ _ _ _ _ h => h))), .inr (.inr (.inr (fun _ _ _ _ _ h => h))), .inr (.inr (.inr (fun _ _ _ _ _ h => h))), .inr (.inr (.inr (fun _ _ _ _ h h0 => by cases h; exact h0))), .inr (.inr (.inr (fun _ _ _ _ _ h => h))), .inr (.inr (.inr (fun _ _ _ _ _ h => h))), .inr (.inr (.inr (fun _ _ _ _ _ h => h))), .inr (.inr (.inr (fun _ _ _ _ _ h => h))), .inr (.inr (.inr (fun _ _ _ _ _ h => h))), .inl rfl, .inr (.inr (.inl rfl)), .inr (.inr (.inl rfl)), .inr (.inr (.inl rfl)), .inr (.inr (.inl rfl)), .inr (.inr (.inl rfl)), .inr (.inr (.inl rfl)), .inr (.inr (.inl rfl)), trivial⟩,
        ⟨.inr (.inr (.inr (fun _ _ _ _ _ h => h))), .inr (.inr (.inr (fun _ _ _ _ _ h => h))), .inr (.inr (.inr (fun _ _ _ _ _ h => h))), .inr (.inr (.inr (fun _ _ _ _ _ h => h))), .inr (.inr (.inr (fun _ _ _ _ h h0 => by cases h; exact h0))), .inr (.inr (.inr (fun _ _ _ _ _ h => h))), .inr (.inr (.inr (fun _ _ _ _ _ h => h))), .inr (.inr (.inr (fun _ _ _ _ _ h => h))), .inr (.inr (.inr (fun _ _ _ _ _ h => h))), .inr (.inr (.inr (fun _ _ _ _ _ h => h))), .inr (.inr (.inr (fun _ _ _ _ _ h => h))), .inl rfl, .inr (.inr (.inl rfl)), .inr (.inr (.inl rfl)), .inr (.inr (.inl rfl)), .inr (.inr (.inl rfl)), .inr (.inr (.inl rfl)), .inr (.inr (.inl rfl)), trivial⟩,
        ⟨.inr (.inr (.inr (fun _ _ _ _ _ h => h))), .inr (.inr (.inr (fun _ _ _ _ _ h => h))), .inr (.inr (.inr (fun _ _ _ _ _ h => h))), .inr (.inr (.inr (fun _ _ _ _ _ h => h))), .inr (.inr (.inr (fun _ _ _ _ h h0 => h0.next h))), .inr (.inr (.inr (fun _ _ _ _ _ h => h))), .inr (.inr (.inr (fun _ _ _ _ _ h => h))), .inr (.inr (.inr (fun _ _ _ _ _ h => h))), .inr (.inr (.inr (fun _ _ _ _ _ h => h))), .inr (.inr (.inr (fun _ _ _ _ _ h => h))), .inr (.inr (.inr (fun _ _ _ _ _ h => h))), .inr (.inr (.inr (fun _ _ _ _ _ h => h))), .inl rfl, .inr (.inr (.inl rfl)), .inr (.inr (.inl rfl)), .inr (.inr (.inl rfl)), .inr (.inr (.inl rfl)), .inr (.inr (.inl rfl)), trivial⟩,
        ⟨.inr (.inr (.inr (fun _ _ _ _ _ h => h))), .inr (.inr (.inr (fun _ _ _ _ _ h => h))), .inr (.inr (.inr (fun _ _ _ _ _ h => h))), .inr (.inr (.inr (fun _ _ _ _ _ h => h))), .inr (.inr (.inr (fun _ _ _ _ h h0 => by cases h; exact h0))), .inr (.inr (.inr (fun _ _ _ _ _ h => h))), .inr (.inr (.inr (fun _ _ _ _ _ h => h))), .inr (.inr (.inr (fun _ _ _ _ _ h => h))), .inr (.inr (.inr (fun _ _ _ _ _ h => h))), .inr (.inr (.inr (fun _ _ _ _ _ h => h))), .inr (.inr (.inr (fun _ _ _ _ _ h => h))), .inr (.inr (.inr (fun _ _ _ _ _ h => h))), .inr (.inr (.inr (fun _ _ _ _ _ h => h))), .inl rfl, .inr (.inr (.inl rfl)), .inr (.inr (.inl rfl)), .inr (.inr (.inl rfl)), .inr (.inr (.inl rfl)), trivial⟩,
        ⟨.inr (.inr (.inr (fun _ _ _ _ _ h => h))), .inr (.inr (.inr (fun _ _ _ _ _ h => h))), .inr (.inr (.inr (fun _ _ _ _ _ h => h))), .inr (.inr (.inr (fun _ _ _ _ _ h => h))), .inr (.inr (.inr (fun _ _ _ _ h h0 => by cases h; exact h0))), .inr (.inr (.inr (fun _ _ _ _ _ h => h))), .inr (.inr (.inr (fun _ _ _ _ _ h => h))), .inr (.inr (.inr (fun _ _ _ _ _ h => h))), .inr (.inr (.inr (fun _ _ _ _ _ h => h))), .inr (.inr (.inr (fun _ _ _ _ _ h => h))), .inr (.inr (.inr (fun _ _ _ _ _ h => h))), .inr (.inr (.inr (fun _ _ _ _ _ h => h))), .inr (.inr (.inr (fun _ _ _ _ _ h => h))), .inr (.inr (.inr (fun _ _ _ _ _ h => h))), .inl rfl, .inr (.inr (.inl rfl)), .inr (.inr (.inl rfl)), .inr (.inr (.inl rfl)), trivial⟩,
        ⟨.inr (.inr (.inr (fun _ _ _ _ _ h => h))), .inr (.inr (.inr (fun _ _ _ _ _ h => h))), .inr (.inr (.inr (fun _ _ _ _ _ h => h))), .inr (.inr (.inr (fun _ _ _ _ _ h => h))), .inr (.inr (.inr (fun _ _ _ _ h h0 => h0.next h))), .inr (.inr (.inr (fun _ _ _ _ _ h => h))), .inr (.inr (.inr (fun _ _ _ _ _ h => h))), .inr (.inr (.inr (fun _ _ _ _ _ h => h))), .inr (.inr (.inr (fun _ _ _ _ _ h => h))), .inr (.inr (.inr (fun _ _ _ _ _ h => h))), .inr (.inr (.inr (fun _ _ _ _ _ h => h))), .inr (.inr (.inr (fun _ _ _ _ _ h => h))), .inr (.inr (.inr (fun _ _ _ _ _ h => h))), .inr (.inr (.inr (fun _ _ _ _ _ h => h))), .inr (.inr (.inr (fun _ _ _ _ _ h => h))), .inl rfl, .inr (.inr (.inl rfl)), .inr (.inr (.inl rfl)), trivial⟩,
        ⟨.inr (.inr (.inr (fun _ _ _ _ _ h => h))), .inr (.inr (.inr (fun _ _ _ _ _ h => h))), .inr (.inr (.inr (fun _ _ _ _ _ h => h))), .inr (.inr (.inr (fun _ _ _ _ _ h => h))), .inr (.inr (.inr (fun _ _ _ _ h h0 => by cases h; exact h0))), .inr (.inr (.inr (fun _ _ _ _ _ h => h))), .inr (.inr (.inr (fun _ _ _ _ _ h => h))), .inr (.inr (.inr (fun _ _ _ _ _ h => h))), .inr (.inr (.inr (fun _ _ _ _ _ h => h))), .inr (.inr (.inr (fun _ _ _ _ _ h => h))), .inr (.inr (.inr (fun _ _ _ _ _ h => h))), .inr (.inr (.inr (fun _ _ _ _ _ h => h))), .inr (.inr (.inr (fun _ _ _ _ _ h => h))), .inr (.inr (.inr (fun _ _ _ _ _ h => h))), .inr (.inr (.inr (fun _ _ _ _ _ h => h))), .inr (.inr (.inr (fun _ _ _ _ _ h => h))), .inl rfl, .inr (.inr (.inl rfl)), trivial⟩,
        ⟨.inr (.inr (.inr (fun _ _ _ _ _ h => h))), .inr (.inr (.inr (fun _ _ _ _ _ h => h))), .inr (.inr (.inr (fun _ _ _ _ _ h => h))), .inr (.inr (.inr (fun _ _ _ _ _ h => h))), .inr (.inr (.inr (fun _ _ _ _ h h0 => by cases h; exact h0))), .inr (.inr (.inr (fun _ _ _ _ _ h => h))), .inr (.inr (.inr (fun _ _ _ _ _ h => h))), .inr (.inr (.inr (fun _ _ _ _ _ h => h))), .inr (.inr (.inr (fun _ _ _ _ _ h => h))), .inr (.inr (.inr (fun _ _ _ _ _ h => h))), .inr (.inr (.inr (fun _ _ _ _ _ h => h))), .inr (.inr (.inr (fun _ _ _ _ _ h => h))), .inr (.inr (.inr (fun _ _ _ _ _ h => h))), .inr (.inr (.inr (fun _ _ _ _ _ h => h))), .inr (.inr (.inr (fun _ _ _ _ _ h => h))), .inr (.inr (.inr (fun _ _ _ _ _ h => h))), .inr (.inr (.inr (fun _ _ _ _ _ h => h))), .inl rfl, trivial⟩, trivial⟩
    · refine ⟨?_, ?_, ?_, ?_, ?_, ?_, ?_, ?_, ?_, ?_, ?_, ?_, ?_, ?_, ?_, ?_, ?_, ?_, trivial⟩
      · -- 0: Op.move (Operand.tmp 4)
        refine step_plain [] (fun _ => rfl) rfl ?_
        intro w1 vals hC1 hi0 hf E hE
        clear hi0
        clear hf
        simp only [puts, act_put, act_put_none, List.setIfInBounds_toArray, List.set_cons_zero, List.set_cons_succ] at hE ⊢
        go_wp2
        exact .mk (hE _ _ rfl hC1 rfl)
      · -- 1: Op.binOp BinOp.eql 52 (Operand.tmp 26) (Operand.const (Value.int IntKind.i64 0)) 52
        refine step_plain [(0, some 26)] (fun _ => rfl) rfl ?_
        intro w1 vals hC1 hi0 hf E hE
        clear hi0
        have f0 : vals 0 = .int .i64 0 := hf 0 rfl
        try dsimp only at f0
        clear hf
        simp only [puts, act_put, act_put_none, List.setIfInBounds_toArray, List.set_cons_zero, List.set_cons_succ, f0] at hE ⊢
        clear f0
        go_wp2
        exact .mk (hE _ _ rfl hC1 rfl)
      · -- 2: Op.move (Operand.tmp 27)
        refine step_plain [(1, some 27)] (fun _ => rfl) rfl ?_
        intro w1 vals hC1 hi0 hf E hE
        clear hi0
        have f1 : vals 1 = .bool true := hf 1 rfl
        try dsimp only at f1
        clear hf
        simp only [puts, act_put, act_put_none, List.setIfInBounds_toArray, List.set_cons_zero, List.set_cons_succ, f1] at hE ⊢
        clear f1
        go_wp2
        exact .mk (hE _ _ rfl hC1 rfl)
      · -- 3: Op.load 28 (Operand.tmp 3)
        refine step_guard [(2, some 28)] (fun _ => rfl) 2 28 true rfl rfl ?_ ?_
        · intro w1 vals hC1 hi0 hf hy E hE
          dsimp only at hE ⊢
          clear hi0
          have f2 : vals 2 = .bool true := hf 2 rfl
          try dsimp only at f2
          clear hf
          clear hy
          simp only [puts, act_put, act_put_none, List.setIfInBounds_toArray, List.set_cons_zero, List.set_cons_succ, f2] at hE ⊢
          clear f2
          refine wpList_get_box (hC1.1.2.2.2.1) rfl rfl rfl hp rfl point_size ?_
          go_wp2_with fail
          exact .mk (hE _ _ rfl hC1 rfl)
        · intro w1 vals hC1 hi0 hf hy
          clear hi0
          have f2 : vals 2 = .bool true := hf 2 rfl
          try dsimp only at f2
          clear hf
          exact absurd (by simp only [puts, act_put, act_put_none, List.setIfInBounds_toArray, List.set_cons_zero, List.set_cons_succ, f2]; rfl) hy
      · -- 4: Op.call { callee := Callee.value (Operand.func 14), args := #[Operand.tmp 29], argTypes := #[28] }
        refine step_guard [(3, some 29), (2, some 28), (2, some 28)] (fun _ => rfl) 2 28 true rfl rfl ?_ ?_
        · intro w1 vals hC1 hi0 hf hy E hE
          dsimp only at hE ⊢
          clear hi0
          have f2 : vals 2 = .bool true := hf 2 rfl
          have f3 : vals 3 = .agg (ptV X) := hf 3 rfl
          try dsimp only at f2 f3
          clear hf
          clear hy
          simp only [puts, act_put, act_put_none, List.setIfInBounds_toArray, List.set_cons_zero, List.set_cons_succ, f2, f3] at hE ⊢
          clear f2 f3
          go_wp2_with fail
          refine calls_then (CY.out _) ?_
          rintro e w2 ⟨A2, c2, rfl, hc2, hr2, hb2⟩
          go_wp2_with fail
          exact .mk (hE _ _ ⟨A2, c2, rfl, hc2, hr2⟩ (hC1.next hb2) hb2)
        · intro w1 vals hC1 hi0 hf hy
          clear hi0
          have f2 : vals 2 = .bool true := hf 2 rfl
          have f3 : vals 3 = .agg (ptV X) := hf 3 rfl
          try dsimp only at f2 f3
          clear hf
          exact absurd (by simp only [puts, act_put, act_put_none, List.setIfInBounds_toArray, List.set_cons_zero, List.set_cons_succ, f2]; rfl) hy
      · -- 5: Op.convert 22 9 (Operand.tmp 30)
        refine step_guard [(4, some 30), (2, some 28)] (fun _ => rfl) 2 28 true rfl rfl ?_ ?_
        · intro w1 vals hC1 hi0 hf hy E hE
          dsimp only at hE ⊢
          clear hi0
          have f2 : vals 2 = .bool true := hf 2 rfl
          have f4 : (RdV 32 (bnV M)) (vals 4) w1 := hf 4 rfl
          try dsimp only at f2 f4
          clear hf
          clear hy
          obtain ⟨A2, c2, hx2, hc2, hr2⟩ := f4
          simp only [puts, act_put, act_put_none, List.setIfInBounds_toArray, List.set_cons_zero, List.set_cons_succ, f2, hx2] at hE ⊢
          clear f2
          clear hx2
          have cv := CSV.out _ A2 c2 hr2
          go_wp2_with fail
          exact .mk (hE _ _ rfl hC1 rfl)
        · intro w1 vals hC1 hi0 hf hy
          clear hi0
          have f2 : vals 2 = .bool true := hf 2 rfl
          have f4 : (RdV 32 (bnV M)) (vals 4) w1 := hf 4 rfl
          try dsimp only at f2 f4
          clear hf
          exact absurd (by simp only [puts, act_put, act_put_none, List.setIfInBounds_toArray, List.set_cons_zero, List.set_cons_succ, f2]; rfl) hy
      · -- 6: Op.move (Operand.tmp 0)
        refine step_guard [(2, some 28)] (fun _ => rfl) 2 28 true rfl rfl ?_ ?_
        · intro w1 vals hC1 hi0 hf hy E hE
          dsimp only at hE ⊢
          clear hi0
          have f2 : vals 2 = .bool true := hf 2 rfl
          try dsimp only at f2
          clear hf
          clear hy
          simp only [puts, act_put, act_put_none, List.setIfInBounds_toArray, List.set_cons_zero, List.set_cons_succ, f2] at hE ⊢
          clear f2
          go_wp2
          exact .mk (hE _ _ rfl hC1 rfl)
        · intro w1 vals hC1 hi0 hf hy
          clear hi0
          have f2 : vals 2 = .bool true := hf 2 rfl
          try dsimp only at f2
          clear hf
          exact absurd (by simp only [puts, act_put, act_put_none, List.setIfInBounds_toArray, List.set_cons_zero, List.set_cons_succ, f2]; rfl) hy
      · -- 7: Op.convert 22 9 (Operand.tmp 32)
        refine step_guard [(6, some 32), (2, some 28)] (fun _ => rfl) 2 28 true rfl rfl ?_ ?_
        · intro w1 vals hC1 hi0 hf hy E hE
          dsimp only at hE ⊢
          clear hi0
          have f2 : vals 2 = .bool true := hf 2 rfl
          have f6 : vals 6 = .slice A 32 c := hf 6 rfl
          try dsimp only at f2 f6
          clear hf
          clear hy
          simp only [puts, act_put, act_put_none, List.setIfInBounds_toArray, List.set_cons_zero, List.set_cons_succ, f2, f6] at hE ⊢
          clear f2 f6
          have cv := CSV.out _ A c (hC1.1.2.2.2.2.1)
          go_wp2_with fail
          exact .mk (hE _ _ rfl hC1 rfl)
        · intro w1 vals hC1 hi0 hf hy
          clear hi0
          have f2 : vals 2 = .bool true := hf 2 rfl
          have f6 : vals 6 = .slice A 32 c := hf 6 rfl
          try dsimp only at f2 f6
          clear hf
          exact absurd (by simp only [puts, act_put, act_put_none, List.setIfInBounds_toArray, List.set_cons_zero, List.set_cons_succ, f2]; rfl) hy
      · -- 8: Op.binOp BinOp.eql 9 (Operand.tmp 31) (Operand.tmp 33) 9
        refine step_guard [(5, some 31), (7, some 33), (2, some 28)] (fun _ => rfl) 2 28 true rfl rfl ?_ ?_
        · intro w1 vals hC1 hi0 hf hy E hE
          dsimp only at hE ⊢
          clear hi0
          have f2 : vals 2 = .bool true := hf 2 rfl
          have f5 : vals 5 = .string ST := hf 5 rfl
          have f7 : vals 7 = .string ST := hf 7 rfl
          try dsimp only at f2 f5 f7
          clear hf
          clear hy
          simp only [puts, act_put, act_put_none, List.setIfInBounds_toArray, List.set_cons_zero, List.set_cons_succ, f2, f5, f7] at hE ⊢
          clear f2 f5 f7
          go_wp2
          exact .mk (hE _ _ rfl hC1 rfl)
        · intro w1 vals hC1 hi0 hf hy
          clear hi0
          have f2 : vals 2 = .bool true := hf 2 rfl
          have f5 : vals 5 = .string ST := hf 5 rfl
          have f7 : vals 7 = .string ST := hf 7 rfl
          try dsimp only at f2 f5 f7
          clear hf
          exact absurd (by simp only [puts, act_put, act_put_none, List.setIfInBounds_toArray, List.set_cons_zero, List.set_cons_succ, f2]; rfl) hy
      · -- 9: Op.pick (Operand.tmp 28) (Operand.tmp 34) (Operand.const (Value.bool false))
        refine step_plain [(2, some 28), (8, some 34)] (fun _ => rfl) rfl ?_
        intro w1 vals hC1 hi0 hf E hE
        clear hi0
        have f2 : vals 2 = .bool true := hf 2 rfl
        have f8 : vals 8 = .bool true := hf 8 rfl
        try dsimp only at f2 f8
        clear hf
        simp only [puts, act_put, act_put_none, List.setIfInBounds_toArray, List.set_cons_zero, List.set_cons_succ, f2, f8] at hE ⊢
        clear f2 f8
        go_wp2
        exact .mk (hE _ _ rfl hC1 rfl)
      · -- 10: Op.move (Operand.tmp 35)
        refine step_plain [(9, some 35), (4, some 30)] (fun _ => rfl) rfl ?_
        intro w1 vals hC1 hi0 hf E hE
        clear hi0
        have f4 : (RdV 32 (bnV M)) (vals 4) w1 := hf 4 rfl
        have f9 : vals 9 = .bool true := hf 9 rfl
        try dsimp only at f4 f9
        clear hf
        simp only [puts, act_put, act_put_none, List.setIfInBounds_toArray, List.set_cons_zero, List.set_cons_succ, f9] at hE ⊢
        clear f9
        go_wp2
        exact .mk (hE _ _ rfl hC1 rfl)
      · -- 11: Op.load 34 (Operand.tmp 5)
        refine step_guard [(10, some 36)] (fun _ => rfl) 10 36 true rfl rfl ?_ ?_
        · intro w1 vals hC1 hi0 hf hy E hE
          dsimp only at hE ⊢
          clear hi0
          have f10 : vals 10 = .bool true := hf 10 rfl
          try dsimp only at f10
          clear hf
          clear hy
          simp only [puts, act_put, act_put_none, List.setIfInBounds_toArray, List.set_cons_zero, List.set_cons_succ, f10] at hE ⊢
          clear f10
          refine wpList_get_box (hC1.1.1) rfl rfl rfl hpt rfl pair_size ?_
          go_wp2_with fail
          exact .mk (hE _ _ rfl hC1 rfl)
        · intro w1 vals hC1 hi0 hf hy
          clear hi0
          have f10 : vals 10 = .bool true := hf 10 rfl
          try dsimp only at f10
          clear hf
          exact absurd (by simp only [puts, act_put, act_put_none, List.setIfInBounds_toArray, List.set_cons_zero, List.set_cons_succ, f10]; rfl) hy
      · -- 12: Op.call { callee := Callee.value (Operand.func 28), args := #[Operand.tmp 37], argTypes := #[34] }
        refine step_guard [(11, some 37), (10, some 36), (10, some 36)] (fun _ => rfl) 10 36 true rfl rfl ?_ ?_
        · intro w1 vals hC1 hi0 hf hy E hE
          dsimp only at hE ⊢
          clear hi0
          have f10 : vals 10 = .bool true := hf 10 rfl
          have f11 : vals 11 = .agg (pairV (.slice Xs 32 cxs) (.slice Ys 32 cys)) := hf 11 rfl
          try dsimp only at f10 f11
          clear hf
          clear hy
          simp only [puts, act_put, act_put_none, List.setIfInBounds_toArray, List.set_cons_zero, List.set_cons_succ, f10, f11] at hE ⊢
          clear f10 f11
          go_wp2_with fail
          refine calls_then (CON.out _ _ _ _ _ (hC1.1.2.1) (hC1.1.2.2.1)) ?_
          rintro e w2 ⟨rfl, hb2⟩
          go_wp2_with fail
          exact .mk (hE _ _ rfl (hC1.next hb2) hb2)
        · intro w1 vals hC1 hi0 hf hy
          clear hi0
          have f10 : vals 10 = .bool true := hf 10 rfl
          have f11 : vals 11 = .agg (pairV (.slice Xs 32 cxs) (.slice Ys 32 cys)) := hf 11 rfl
          try dsimp only at f10 f11
          clear hf
          exact absurd (by simp only [puts, act_put, act_put_none, List.setIfInBounds_toArray, List.set_cons_zero, List.set_cons_succ, f10]; rfl) hy
      · -- 13: Op.pick (Operand.tmp 36) (Operand.tmp 38) (Operand.const (Value.bool false))
        refine step_plain [(10, some 36), (12, some 38)] (fun _ => rfl) rfl ?_
        intro w1 vals hC1 hi0 hf E hE
        clear hi0
        have f10 : vals 10 = .bool true := hf 10 rfl
        have f12 : vals 12 = .bool true := hf 12 rfl
        try dsimp only at f10 f12
        clear hf
        simp only [puts, act_put, act_put_none, List.setIfInBounds_toArray, List.set_cons_zero, List.set_cons_succ, f10, f12] at hE ⊢
        clear f10 f12
        go_wp2
        exact .mk (hE _ _ rfl hC1 rfl)
      · -- 14: Op.move (Operand.tmp 39)
        refine step_plain [(13, some 39), (12, some 38)] (fun _ => rfl) rfl ?_
        intro w1 vals hC1 hi0 hf E hE
        clear hi0
        have f12 : vals 12 = .bool true := hf 12 rfl
        have f13 : vals 13 = .bool true := hf 13 rfl
        try dsimp only at f12 f13
        clear hf
        simp only [puts, act_put, act_put_none, List.setIfInBounds_toArray, List.set_cons_zero, List.set_cons_succ, f12, f13] at hE ⊢
        clear f12 f13
        go_wp2
        exact .mk (hE _ _ rfl hC1 rfl)
      · -- 15: Op.call { callee := Callee.value (Operand.func 18), args := #[], argTypes := #[] }
        refine step_guard [(14, some 40), (14, some 40)] (fun _ => rfl) 14 40 true rfl rfl ?_ ?_
        · intro w1 vals hC1 hi0 hf hy E hE
          dsimp only at hE ⊢
          clear hi0
          have f14 : vals 14 = .bool true := hf 14 rfl
          try dsimp only at f14
          clear hf
          clear hy
          simp only [puts, act_put, act_put_none, List.setIfInBounds_toArray, List.set_cons_zero, List.set_cons_succ, f14] at hE ⊢
          clear f14
          go_wp2_with fail
          refine calls_then (clives_any _) ?_
          rintro e w2 ⟨rfl, hb2⟩
          go_wp2_with fail
          exact .mk (hE _ _ rfl (hC1.next hb2) hb2)
        · intro w1 vals hC1 hi0 hf hy
          clear hi0
          have f14 : vals 14 = .bool true := hf 14 rfl
          try dsimp only at f14
          clear hf
          exact absurd (by simp only [puts, act_put, act_put_none, List.setIfInBounds_toArray, List.set_cons_zero, List.set_cons_succ, f14]; rfl) hy
      · -- 16: Op.pick (Operand.tmp 40) (Operand.tmp 41) (Operand.const (Value.bool false))
        refine step_plain [(14, some 40), (15, some 41)] (fun _ => rfl) rfl ?_
        intro w1 vals hC1 hi0 hf E hE
        clear hi0
        have f14 : vals 14 = .bool true := hf 14 rfl
        have f15 : vals 15 = .bool true := hf 15 rfl
        try dsimp only at f14 f15
        clear hf
        simp only [puts, act_put, act_put_none, List.setIfInBounds_toArray, List.set_cons_zero, List.set_cons_succ, f14, f15] at hE ⊢
        clear f14 f15
        go_wp2
        exact .mk (hE _ _ rfl hC1 rfl)
      · -- 17: Op.assign (Operand.tmp 42)
        refine step_plain [(16, some 42), (15, some 41), (0, some 26), (1, some 27), (2, some 28), (3, some 29), (4, some 30), (5, some 31), (6, some 32), (7, some 33), (8, some 34), (9, some 35), (10, some 36), (11, some 37), (12, some 38), (13, some 39), (14, some 40), (15, some 41), (16, some 42)] (fun _ => rfl) rfl ?_
        intro w1 vals hC1 hi0 hf E hE
        clear hi0
        have f0 : vals 0 = .int .i64 0 := hf 0 rfl
        have f1 : vals 1 = .bool true := hf 1 rfl
        have f2 : vals 2 = .bool true := hf 2 rfl
        have f3 : vals 3 = .agg (ptV X) := hf 3 rfl
        have f4 : (RdV 32 (bnV M)) (vals 4) w1 := hf 4 rfl
        have f5 : vals 5 = .string ST := hf 5 rfl
        have f6 : vals 6 = .slice A 32 c := hf 6 rfl
        have f7 : vals 7 = .string ST := hf 7 rfl
        have f8 : vals 8 = .bool true := hf 8 rfl
        have f9 : vals 9 = .bool true := hf 9 rfl
        have f10 : vals 10 = .bool true := hf 10 rfl
        have f11 : vals 11 = .agg (pairV (.slice Xs 32 cxs) (.slice Ys 32 cys)) := hf 11 rfl
        have f12 : vals 12 = .bool true := hf 12 rfl
        have f13 : vals 13 = .bool true := hf 13 rfl
        have f14 : vals 14 = .bool true := hf 14 rfl
        have f15 : vals 15 = .bool true := hf 15 rfl
        have f16 : vals 16 = .bool true := hf 16 rfl
        try dsimp only at f0 f1 f2 f3 f4 f5 f6 f7 f8 f9 f10 f11 f12 f13 f14 f15 f16
        clear hf
        simp only [puts, act_put, act_put_none, List.setIfInBounds_toArray, List.set_cons_zero, List.set_cons_succ, f0, f1, f2, f3, f5, f6, f7, f8, f9, f10, f11, f12, f13, f14, f15, f16] at hE ⊢
        clear f0 f1 f2 f3 f5 f6 f7 f8 f9 f10 f11 f12 f13 f14 f15 f16
        go_wp2
        exact .mk (hE _ _ rfl hC1 rfl)
    intro w1 vals hC1 hf
    have f0 : vals 0 = .int .i64 0 := hf 0 (by decide) rfl
    have f1 : vals 1 = .bool true := hf 1 (by decide) rfl
    have f2 : vals 2 = .bool true := hf 2 (by decide) rfl
    have f3 : vals 3 = .agg (ptV X) := hf 3 (by decide) rfl
    have f4 : (RdV 32 (bnV M)) (vals 4) w1 := hf 4 (by decide) rfl
    have f5 : vals 5 = .string ST := hf 5 (by decide) rfl
    have f6 : vals 6 = .slice A 32 c := hf 6 (by decide) rfl
    have f7 : vals 7 = .string ST := hf 7 (by decide) rfl
    have f8 : vals 8 = .bool true := hf 8 (by decide) rfl
    have f9 : vals 9 = .bool true := hf 9 (by decide) rfl
    have f10 : vals 10 = .bool true := hf 10 (by decide) rfl
    have f11 : vals 11 = .agg (pairV (.slice Xs 32 cxs) (.slice Ys 32 cys)) := hf 11 (by decide) rfl
    have f12 : vals 12 = .bool true := hf 12 (by decide) rfl
    have f13 : vals 13 = .bool true := hf 13 (by decide) rfl
    have f14 : vals 14 = .bool true := hf 14 (by decide) rfl
    have f15 : vals 15 = .bool true := hf 15 (by decide) rfl
    have f16 : vals 16 = .bool true := hf 16 (by decide) rfl
    have f17 : vals 17 = .bool true := hf 17 (by decide) rfl
    try dsimp only at f0 f1 f2 f3 f4 f5 f6 f7 f8 f9 f10 f11 f12 f13 f14 f15 f16 f17
    clear hf
    simp only [puts, act_put, act_put_none, List.setIfInBounds_toArray, List.set_cons_zero, List.set_cons_succ, f0, f1, f2, f3, f5, f6, f7, f8, f9, f10, f11, f12, f13, f14, f15, f16, f17]
    clear f0 f1 f2 f3 f5 f6 f7 f8 f9 f10 f11 f12 f13 f14 f15 f16 f17
    generalize vals 4 = x4 at *
    have HSTz := Lib.hid hC1
    clear hC1 HC0
    go_wp2_with fail
    go_ret
    exact ⟨rfl, HSTz.out.2⟩
end Go.Proofs.Ytbeokfpbhemcfaa
namespace Go.Proofs.Ytbeokfpbhemcfaa.curveReads
set_option linter.unusedSimpArgs false
set_option linter.unusedVariables false
open Go.ChangeShapes Go.WideShapes Go.ChangeAt Go.RowKit Go.Joins

set_option maxRecDepth 100000 in
theorem lifted (os : Os) (started : os.Started) (H : Type) (enc : TypeId × Value → H) :
    ReturnsInHanded {} Try.checked os 8 .any (Rows.curveReadsSpec.pre6 enc Try.prog Try.f8 Rows.curveReadsRow.domain false) (Rows.curveReadsSpec.post enc Try.prog Try.f8 false true false false) := by
  refine returnsInHanded_of_change (C := Try.checked) own started (by kernel_rfl) Try.func8
    (ChangeSpec.witness6 (enc := enc) (C := Try.checked) false ⟨#[], #[.slice none 0 0], []⟩ 8 (by kernel_rfl) (by kernel_rfl) (by kernel_rfl) (by kernel_rfl)) ?_
  intro W base args ds gs before hval0 hW hcnd _
  have hval : ∀ (j : Nat) t v, Try.f8.params[j]? = some t → args[j]? = some v → Value.okWide Try.prog W .any base t v := hval0
  have hW' := hW
  obtain ⟨p, q, hA0, hV, rfl, hfz, hnd⟩ := hW
  have hA : DataW.TrodAll enc Try.prog W 0 (fun _ => true) true Try.f8.params.toList args.toList ds p := hA0
  rw [Try.params8] at hA hval
  obtain ⟨v0, d0, rfl, rfl, h0⟩ := trodAll_one hA
  obtain ⟨rfl, rfl⟩ := trodVars_none hV
  have h0k := h0
  obtain ⟨l0, A0, c0, rfl, r0, q0, o0⟩ := open_bytes_arg (hval 0 22 v0 rfl rfl) h0
  clear hA0 hval0
  simp only [List.append_nil] at hW'
  refine (creads_any l0 A0 c0 W r0 q0).mono fun e W' ⟨he, hb⟩ => ?_
  subst he
  have hlt : ∀ x ∈ p, x.block < W.heap.size := fun x hx => hW'.lt x (by simpa using hx)
  exact ⟨_, rfl, post_of_below (pa := p) (pv := []) hW' (fun _ _ _ => trodAll_mk1 (shut_bool Try.underlying4 _))
    (fun sp hsp => trodAll_mk1 (stays laidOut (by kernel_rfl) (of_decide_eq_true (by kernel_rfl)) h0k hb hlt hsp))
    (fun _ _ => rfl) (by simp) hb (ok_one (by kernel_rfl) rfl (okWide_bool_mk Try.underlying4 _))⟩

theorem holds : Rows.CurveReadsSaid :=
  OpenClaim.holds_of_wide 8 Try.f8 rfl rfl rfl rfl rfl rfl rfl ⟨rfl, rfl, rfl, rfl, rfl⟩ rfl rfl rfl rfl rfl (by kernel_rfl) Try.func8 (by kernel_rfl)
    (of_decide_eq_true (by kernel_rfl)) (by unfold Func.isWrapper; first | (rw [if_pos (by decide +kernel)]; kernel_rfl) | (rw [if_neg (by decide +kernel)]; exact ⟨rfl, rfl⟩))
    (fun os started H enc _ => lifted os started H enc)

#print axioms holds
end Go.Proofs.Ytbeokfpbhemcfaa.curveReads
