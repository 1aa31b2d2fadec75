/-
  PROVED: 'brevetlaw05.CurveMuls': at every input the law returns true; what came in reads as before.
-/
import Derived.Test.YtbeokfpbhemcfaaJ7
import Derived.Test.YtbeokfpbhemcfaaJ8
import Derived.Test.YtbeokfpbhemcfaaJ1
/-
  Walk: the law CurveMuls.
-/
namespace Go.Proofs.Ytbeokfpbhemcfaa
set_option linter.unusedSimpArgs false
set_option linter.unusedVariables false
open Go.RowKit

set_option maxRecDepth 100000 in
set_option maxHeartbeats 4000000 in
theorem muls_any (l m k : List UInt8) (A B' C : Option Addr) (c d f : Nat) (w : World) (hr : Rd w w.heap.size A (bytesV l)) (hs : Rd w w.heap.size B' (bytesV m)) (ht : Rd w w.heap.size C (bytesV k)) (hc : l.length ≤ c) (hd : m.length ≤ d) (hf : k.length ≤ f) :
    Calls Try.prog 4 #[.slice A l.length c, .slice B' m.length d, .slice C k.length f] w (BoolPost true w) := by
  have hp := Try.underlying28
  obtain ⟨B, hB⟩ : ∃ B, B = baseP := ⟨_, rfl⟩
  have okB : B.Ok := by rw [hB]; exact baseP_ok
  have isB : Is B baseF := by rw [hB]; exact is_base
  have CB := Lib.hid (show ∀ u, Calls Try.prog 10 #[] u (PtPost B u) from fun u => by rw [hB]; exact base_any u)
  clear hB
  obtain ⟨n1, hn1⟩ : ∃ x, x = l.length := ⟨_, rfl⟩
  obtain ⟨La, hLa⟩ : ∃ x, x = l.take 31 := ⟨_, rfl⟩
  have rLa : Rd w w.heap.size A (bytesV La) := by rw [hLa]; exact rd_takeB hr
  obtain ⟨p1, hp1⟩ : ∃ x, x = La.length := ⟨_, rfl⟩
  have lep1 : p1 ≤ c := by rw [hp1, hLa, List.length_take]; omega
  have FLa := Lib.hid (show ∀ u, Calls Try.prog 12 #[.slice A n1 c, .int .i64 31] u (fun e w' => e = .returned (.slice A p1 c) ∧ w' = u) from fun u => by
    rw [hp1, hLa, hn1]; exact few_any l 31 (by decide) A c u (nil_len' hr) hc)
  obtain ⟨n2, hn2⟩ : ∃ x, x = m.length := ⟨_, rfl⟩
  obtain ⟨Lb, hLb⟩ : ∃ x, x = m.take 31 := ⟨_, rfl⟩
  have rLb : Rd w w.heap.size B' (bytesV Lb) := by rw [hLb]; exact rd_takeB hs
  obtain ⟨p2, hp2⟩ : ∃ x, x = Lb.length := ⟨_, rfl⟩
  have lep2 : p2 ≤ d := by rw [hp2, hLb, List.length_take]; omega
  have FLb := Lib.hid (show ∀ u, Calls Try.prog 12 #[.slice B' n2 d, .int .i64 31] u (fun e w' => e = .returned (.slice B' p2 d) ∧ w' = u) from fun u => by
    rw [hp2, hLb, hn2]; exact few_any m 31 (by decide) B' d u (nil_len' hs) hd)
  obtain ⟨n3, hn3⟩ : ∃ x, x = k.length := ⟨_, rfl⟩
  obtain ⟨Lc, hLc⟩ : ∃ x, x = k.take 32 := ⟨_, rfl⟩
  have rLc : Rd w w.heap.size C (bytesV Lc) := by rw [hLc]; exact rd_takeB ht
  obtain ⟨p3, hp3⟩ : ∃ x, x = Lc.length := ⟨_, rfl⟩
  have lep3 : p3 ≤ f := by rw [hp3, hLc, List.length_take]; omega
  have FLc := Lib.hid (show ∀ u, Calls Try.prog 12 #[.slice C n3 f, .int .i64 32] u (fun e w' => e = .returned (.slice C p3 f) ∧ w' = u) from fun u => by
    rw [hp3, hLc, hn3]; exact few_any k 32 (by decide) C f u (nil_len' ht) hf)
  obtain ⟨Le, hLe⟩ : ∃ x, x = Lb.take 8 := ⟨_, rfl⟩
  have rLe : Rd w w.heap.size B' (bytesV Le) := by rw [hLe]; exact rd_takeB rLb
  obtain ⟨p4, hp4⟩ : ∃ x, x = Le.length := ⟨_, rfl⟩
  have lep4 : p4 ≤ d := by rw [hp4, hLe, List.length_take]; omega
  have FLe := Lib.hid (show ∀ u, Calls Try.prog 12 #[.slice B' p2 d, .int .i64 8] u (fun e w' => e = .returned (.slice B' p4 d) ∧ w' = u) from fun u => by
    rw [hp4, hLe, hp2]; exact few_any Lb 8 (by decide) B' d u (nil_len' rLb) (by omega))
  obtain ⟨P, hP⟩ : ∃ x, x = mulP B Lc := ⟨_, rfl⟩
  have okP : P.Ok := by rw [hP]; exact mulP_ok okB _
  have isP := Is.mul okB isB Lc
  rw [← hP] at isP
  have CP := Lib.hid (show ∀ u A c, p3 ≤ c → Rd u u.heap.size A (bytesV Lc) → Calls Try.prog 11 #[.agg (ptV B), .slice A p3 c] u (PtPost P u) from fun u A c hc hr => by rw [hP, hp3]; exact pmul_any B okB Lc A c u hr (by rw [← hp3]; exact hc))
  clear hP
  obtain ⟨PF, isP'⟩ : ∃ F, Is P F := ⟨_, isP⟩
  clear isP
  have isP := isP'
  clear isP'
  have m1 : p1 ≤ 31 := by rw [hp1, hLa, List.length_take]; omega
  have m2 : p2 ≤ 31 := by rw [hp2, hLb, List.length_take]; omega
  have cM := Lib.hid (show ∀ u, Rd u u.heap.size A (bytesV La) → Calls Try.prog 21 #[.slice A p1 c] u (OwnPost 3 p1 (dV (digs La)) u) from fun u h => by
    rw [hp1]; exact digits_any La A c u h (by omega) (by omega))
  have cK := Lib.hid (show ∀ u, Rd u u.heap.size B' (bytesV Lb) → Calls Try.prog 21 #[.slice B' p2 d] u (OwnPost 3 p2 (dV (digs Lb)) u) from fun u h => by
    rw [hp2]; exact digits_any Lb B' d u h (by omega) (by omega))
  have hlM : (digs La).length = p1 := by rw [digs, List.length_map, hp1]
  have hlK : (digs Lb).length = p2 := by rw [digs, List.length_map, hp2]
  obtain ⟨T, hT⟩ : ∃ T, T = digN (max p1 p2 + 1) (leV (digs La) + leV (digs Lb)) := ⟨_, rfl⟩
  have hTl : T.length = max p1 p2 + 1 := by rw [hT, digN_length]
  have hTd : Dg T := by rw [hT]; exact digN_dg _ _
  have cT := Lib.hid (show ∀ u A3 c3 A4 c4, Rd u u.heap.size A3 (dV (digs La)) → Rd u u.heap.size A4 (dV (digs Lb)) → Calls Try.prog 20 #[.slice A3 p1 c3, .slice A4 p2 c4] u (DigPost T u) from fun u A3 c3 A4 c4 h3 h4 => by
    have h := rplus_any (digs La) (digs Lb) (digs_lt La) (digs_lt Lb) A3 A4 c3 c4 u h3 h4 (by rw [hlM]; omega) (by rw [hlK]; omega)
    rw [hlM, hlK, ← hT] at h
    exact h)
  obtain ⟨S, hS⟩ : ∃ S, S = refB T := ⟨_, rfl⟩
  have hSl : S.length = 32 := by rw [hS, refB_length]
  have hTv := plus_val (digs_lt La) (digs_lt Lb)
  rw [hlM, hlK] at hTv
  have hbig : leV (digs La) + leV (digs Lb) < 256 ^ (max p1 p2 + 1) := by
    have h := leV_lt (digN (max p1 p2 + 1) (leV (digs La) + leV (digs Lb))) (digN_dg _ _)
    rw [hTv, digN_length] at h
    exact h
  have hSv : leV (digs (S.take 32)) = leV (digs (La.take 32)) + leV (digs (Lb.take 32)) := by
    rw [List.take_of_length_le (by omega), List.take_of_length_le (by rw [← hp1]; omega), List.take_of_length_le (by rw [← hp2]; omega), hS]
    exact refB_val hT (by omega) hbig
  have cS := Lib.hid (show ∀ u A3 c3, Rd u u.heap.size A3 (dV T) → T.length ≤ c3 → Calls Try.prog 19 #[.slice A3 T.length c3] u (OwnPost 5 32 (bytesV S) u) from fun u A3 c3 h3 hc3 => by
    rw [hS]; exact rbytes_any T hTd A3 c3 u h3 hc3 (by rw [hTl]; omega))
  obtain ⟨p5, hp5⟩ : ∃ x, x = S.length := ⟨_, rfl⟩
  have e5 : p5 = 32 := by rw [hp5, hSl]
  obtain ⟨MS, hMS⟩ : ∃ x, x = mulP P S := ⟨_, rfl⟩
  have okMS : MS.Ok := by rw [hMS]; exact mulP_ok okP _
  have isMS := Is.mul okP isP S
  rw [← hMS] at isMS
  have CMS := Lib.hid (show ∀ u A c, p5 ≤ c → Rd u u.heap.size A (bytesV S) → Calls Try.prog 11 #[.agg (ptV P), .slice A p5 c] u (PtPost MS u) from fun u A c hc hr => by rw [hMS, hp5]; exact pmul_any P okP S A c u hr (by rw [← hp5]; exact hc))
  clear hMS
  rw [hSv] at isMS
  rw [e5] at CMS
  obtain ⟨X1, hX1⟩ : ∃ x, x = mulP P La := ⟨_, rfl⟩
  have okX1 : X1.Ok := by rw [hX1]; exact mulP_ok okP _
  have isX1 := Is.mul okP isP La
  rw [← hX1] at isX1
  have CX1 := Lib.hid (show ∀ u A c, p1 ≤ c → Rd u u.heap.size A (bytesV La) → Calls Try.prog 11 #[.agg (ptV P), .slice A p1 c] u (PtPost X1 u) from fun u A c hc hr => by rw [hX1, hp1]; exact pmul_any P okP La A c u hr (by rw [← hp1]; exact hc))
  clear hX1
  obtain ⟨X2, hX2⟩ : ∃ x, x = mulP P Lb := ⟨_, rfl⟩
  have okX2 : X2.Ok := by rw [hX2]; exact mulP_ok okP _
  have isX2 := Is.mul okP isP Lb
  rw [← hX2] at isX2
  have CX2 := Lib.hid (show ∀ u A c, p2 ≤ c → Rd u u.heap.size A (bytesV Lb) → Calls Try.prog 11 #[.agg (ptV P), .slice A p2 c] u (PtPost X2 u) from fun u A c hc hr => by rw [hX2, hp2]; exact pmul_any P okP Lb A c u hr (by rw [← hp2]; exact hc))
  clear hX2
  obtain ⟨X, hX⟩ : ∃ x, x = addP X1 X2 := ⟨_, rfl⟩
  have okX : X.Ok := by rw [hX]; exact addP_ok okX1 okX2
  have isX := Is.add okX1 okX2 isX1 isX2
  rw [← hX] at isX
  have CX := Lib.hid (show ∀ u, Calls Try.prog 16 #[.agg (ptV X1), .agg (ptV X2)] u (PtPost X u) from fun u => by rw [hX]; exact padd_any X1 X2 u okX1 okX2)
  clear hX
  obtain ⟨Y1, hY1⟩ : ∃ x, x = mulP X1 Le := ⟨_, rfl⟩
  have okY1 : Y1.Ok := by rw [hY1]; exact mulP_ok okX1 _
  have isY1 := Is.mul okX1 isX1 Le
  rw [← hY1] at isY1
  have CY1 := Lib.hid (show ∀ u A c, p4 ≤ c → Rd u u.heap.size A (bytesV Le) → Calls Try.prog 11 #[.agg (ptV X1), .slice A p4 c] u (PtPost Y1 u) from fun u A c hc hr => by rw [hY1, hp4]; exact pmul_any X1 okX1 Le A c u hr (by rw [← hp4]; exact hc))
  clear hY1
  obtain ⟨Y2, hY2⟩ : ∃ x, x = mulP P Le := ⟨_, rfl⟩
  have okY2 : Y2.Ok := by rw [hY2]; exact mulP_ok okP _
  have isY2 := Is.mul okP isP Le
  rw [← hY2] at isY2
  have CY2 := Lib.hid (show ∀ u A c, p4 ≤ c → Rd u u.heap.size A (bytesV Le) → Calls Try.prog 11 #[.agg (ptV P), .slice A p4 c] u (PtPost Y2 u) from fun u A c hc hr => by rw [hY2, hp4]; exact pmul_any P okP Le A c u hr (by rw [← hp4]; exact hc))
  clear hY2
  obtain ⟨Y3, hY3⟩ : ∃ x, x = mulP Y2 La := ⟨_, rfl⟩
  have okY3 : Y3.Ok := by rw [hY3]; exact mulP_ok okY2 _
  have isY3 := Is.mul okY2 isY2 La
  rw [← hY3] at isY3
  have CY3 := Lib.hid (show ∀ u A c, p1 ≤ c → Rd u u.heap.size A (bytesV La) → Calls Try.prog 11 #[.agg (ptV Y2), .slice A p1 c] u (PtPost Y3 u) from fun u A c hc hr => by rw [hY3, hp1]; exact pmul_any Y2 okY2 La A c u hr (by rw [← hp1]; exact hc))
  clear hY3
  have CE1 := Lib.hid (show ∀ u, Calls Try.prog 22 #[.agg (ptV MS), .agg (ptV X)] u (BoolPost true u) from fun u => by
    have h := pequal_any MS X u okMS okX
    rw [(eqP_is okMS okX isMS isX).2 (Ed.mul_add FF _ _ _)] at h
    exact h)
  have CE2 := Lib.hid (show ∀ u, Calls Try.prog 22 #[.agg (ptV Y1), .agg (ptV Y3)] u (BoolPost true u) from fun u => by
    have h := pequal_any Y1 Y3 u okY1 okY3
    rw [(eqP_is okY1 okY3 isY1 isY3).2 (by rw [times, times, times, times, ← Ed.mul_mul, ← Ed.mul_mul, Nat.mul_comm])] at h
    exact h)
  have HST0 := Lib.hid (show Cs [.rd A (bytesV La), .rd B' (bytesV Lb), .rd C (bytesV Lc), .rd B' (bytesV Le)] w w from ⟨⟨rLa, rLb, rLc, rLe, trivial⟩, Below.refl _ _⟩)
  rw [← hn1, ← hn2, ← hn3]
  have LE1 := Lib.hid lep1
  have LE2 := Lib.hid lep2
  have LE3 := Lib.hid lep3
  have LE4 := Lib.hid lep4
  clear hr hs ht hc hd hf rLa rLb rLc rLe lep1 lep2 lep3 lep4 hp1 hp2 hp3 hp4 hp5 e5 hn1 hn2 hn3 hLa hLb hLc hLe m1 m2 hlM hlK hT hTl hTd hS hSl hTv hbig hSv okB isB okP isP okMS isMS okX1 isX1 okX2 isX2 okX isX okY1 isY1 okY2 isY2 okY3 isY3
  go_enter Try.func4, Try.ntmps4
  go_wp2_with fail
  refine calls_then (FLa.out _) ?_
  rintro e u0 ⟨rfl, hq⟩
  have hq' := hq.symm
  clear hq
  subst hq'
  go_wp2_with fail
  refine calls_then (FLb.out _) ?_
  rintro e u1 ⟨rfl, hq⟩
  have hq' := hq.symm
  clear hq
  subst hq'
  go_wp2_with fail
  refine calls_then (CB.out _) ?_
  rintro e y3 ⟨rfl, hb⟩
  have HST3 := Lib.hid (HST0.out.next hb)
  clear hb HST0
  go_wp2_with fail
  refine calls_then (FLc.out _) ?_
  rintro e u3 ⟨rfl, hq⟩
  have hq' := hq.symm
  clear hq
  subst hq'
  go_wp2_with fail
  refine calls_then (CP.out _ _ _ LE3.out (HST3.out.1.2.2.1)) ?_
  rintro e y5 ⟨rfl, hb⟩
  have HST5 := Lib.hid (HST3.out.next hb)
  clear hb HST3
  go_wp2_with (refine wpList_put_box (x := .tmp 7) (cells := ptV P) (Blk.new _ _ _) rfl rfl rfl rfl point_size rfl (by simp [ptV, wV, limbs, Value.oneCell']) ?_; intro y6 hb hw; have hk := box_low hw; have HST6 := Lib.hid (show Cs [.box y5.heap.size 28 (ptV P), .rd A (bytesV La), .rd B' (bytesV Lb), .rd C (bytesV Lc), .rd B' (bytesV Le)] w y6 from ⟨⟨hb, (HST5.out.next hk).1⟩, (HST5.out.next hk).2⟩); clear hb hw hk HST5)
  generalize y5.heap.size = g1 at *
  refine calls_then (cM.out _ (HST6.out.1.2.1)) ?_
  rintro e y7 ⟨A7, c7, rfl, hown, hb⟩
  have HST7 := Lib.hid (show Cs [.rd A7 (dV (digs La)), .box g1 28 (ptV P), .rd A (bytesV La), .rd B' (bytesV Lb), .rd C (bytesV Lc), .rd B' (bytesV Le)] w y7 from ⟨⟨Rd.of_own hown (Nat.le_refl _), (HST6.out.next hb).1⟩, (HST6.out.next hb).2⟩)
  clear hb HST6
  clear hown
  go_wp2_with fail
  refine calls_then (cK.out _ (HST7.out.1.2.2.2.1)) ?_
  rintro e y8 ⟨A8, c8, rfl, hown, hb⟩
  have HST8 := Lib.hid (show Cs [.rd A8 (dV (digs Lb)), .rd A7 (dV (digs La)), .box g1 28 (ptV P), .rd A (bytesV La), .rd B' (bytesV Lb), .rd C (bytesV Lc), .rd B' (bytesV Le)] w y8 from ⟨⟨Rd.of_own hown (Nat.le_refl _), (HST7.out.next hb).1⟩, (HST7.out.next hb).2⟩)
  clear hb HST7
  clear hown
  go_wp2_with fail
  refine calls_then (cT.out _ _ _ _ _ (HST8.out.1.2.1) (HST8.out.1.1)) ?_
  rintro e y9 ⟨A9, c9, rfl, hc9, hr9, hb⟩
  have HST9 := Lib.hid (show Cs [.rd A9 (dV T), .rd A8 (dV (digs Lb)), .rd A7 (dV (digs La)), .box g1 28 (ptV P), .rd A (bytesV La), .rd B' (bytesV Lb), .rd C (bytesV Lc), .rd B' (bytesV Le)] w y9 from ⟨⟨hr9, (HST8.out.next hb).1⟩, (HST8.out.next hb).2⟩)
  clear hb HST8
  clear hr9
  have LE9 := Lib.hid hc9
  clear hc9
  go_wp2_with fail
  refine calls_then (cS.out _ _ _ (HST9.out.1.1) LE9.out) ?_
  rintro e y10 ⟨A5, c5, rfl, hown, hb⟩
  have HST10 := Lib.hid (show Cs [.rd A5 (bytesV S), .rd A9 (dV T), .rd A8 (dV (digs Lb)), .rd A7 (dV (digs La)), .box g1 28 (ptV P), .rd A (bytesV La), .rd B' (bytesV Lb), .rd C (bytesV Lc), .rd B' (bytesV Le)] w y10 from ⟨⟨Rd.of_own hown (Nat.le_refl _), (HST9.out.next hb).1⟩, (HST9.out.next hb).2⟩)
  clear hb HST9
  have LE5 := Lib.hid hown.le_cap
  clear hown
  go_wp2_with fail
  have HC0 : Below y10.heap.size y10 y10.drew := (Below.refl _ _).drew
  refine wp_region_list (fun u => Below y10.heap.size y10 u) (fun | false => (fun _ => True) | true => (fun _ => True)) (fun | false, _ => false | true, _ => false)
    [fun z _ => z 0 = .agg (ptV P),
     fun z _ => z 1 = .slice A p1 c,
     fun z _ => z 2 = .agg (ptV X1),
     fun z _ => z 3 = .agg (ptV P),
     fun z _ => z 4 = .slice B' p2 d,
     fun z _ => z 5 = .agg (ptV X2),
     fun z _ => z 6 = .agg (ptV X),
     fun z u => (NewBox y10.heap.size 28 (ptV zP)) (z 7) u,
     fun z u => NewBox y10.heap.size 28 (ptV X) (z 7) u]
    [Eq, Eq, fun u u' => Below u.heap.size u u', Eq, Eq, fun u u' => Below u.heap.size u u', fun u u' => Below u.heap.size u u', fun u u' => Below u.heap.size u u', fun _ _ => True]
    (fun i k => (i == 8 && k == 7)) [(0, some 24), (1, some 25), (2, some 26), (3, some 27), (4, some 28), (5, some 29), (6, some 30), (7, some 9), (8, none)] (by kernel_rfl) (by kernel_rfl) rfl (fun _ => rfl) ?_ ?_ ?_ ?_ ?_ ?_
  · exact HC0
  · intro m; cases m; exact trivial; exact trivial
  · intro m; cases m
    · exact ⟨.inr (fun _ _ h h0 => h ▸ h0), .inr (fun _ _ h h0 => h ▸ h0), .inr (fun _ _ _ h => h), .inr (fun _ _ h h0 => h ▸ h0), .inr (fun _ _ h h0 => h ▸ h0), .inr (fun _ _ _ h => h), .inr (fun _ _ _ h => h), .inr (fun _ _ _ h => h), .inr (fun _ _ _ h => h), trivial⟩
    · exact ⟨.inr (fun _ _ h h0 => h ▸ h0), .inr (fun _ _ h h0 => h ▸ h0), .inr (fun _ _ _ h => h), .inr (fun _ _ h h0 => h ▸ h0), .inr (fun _ _ h h0 => h ▸ h0), .inr (fun _ _ _ h => h), .inr (fun _ _ _ h => h), .inr (fun _ _ _ h => h), .inr (fun _ _ _ h => h), trivial⟩
  · exact ⟨⟨.inl rfl, .inr (.inr (.inr (fun _ _ _ _ _ h => h))), .inr (.inr (.inl rfl)), .inr (.inr (.inr (fun _ _ _ _ _ h => h))), .inr (.inr (.inr (fun _ _ _ _ _ h => h))), .inr (.inr (.inl rfl)), .inr (.inr (.inl rfl)), .inr (.inr (.inr (fun _ _ _ _ h h0 => by cases h; exact h0))), .inr (.inr (.inl rfl)), trivial⟩,
      ⟨.inr (.inr (.inr (fun _ _ _ _ _ h => h))), .inl rfl, .inr (.inr (.inl rfl)), .inr (.inr (.inr (fun _ _ _ _ _ h => h))), .inr (.inr (.inr (fun _ _ _ _ _ h => h))), .inr (.inr (.inl rfl)), .inr (.inr (.inl rfl)), .inr (.inr (.inr (fun _ _ _ _ h h0 => by cases h; exact h0))), .inr (.inr (.inl rfl)), trivial⟩,
      ⟨.inr (.inr (.inr (fun _ _ _ _ _ h => h))), .inr (.inr (.inr (fun _ _ _ _ _ h => h))), .inl rfl, .inr (.inr (.inr (fun _ _ _ _ _ h => h))), .inr (.inr (.inr (fun _ _ _ _ _ h => h))), .inr (.inr (.inl rfl)), .inr (.inr (.inl rfl)), .inr (.inr (.inr (fun _ _ _ _ h h0 => h0.next h))), .inr (.inr (.inl rfl)), trivial⟩,
      ⟨.inr (.inr (.inr (fun _ _ _ _ _ h => h))), .inr (.inr (.inr (fun _ _ _ _ _ h => h))), .inr (.inr (.inr (fun _ _ _ _ _ h => h))), .inl rfl, .inr (.inr (.inr (fun _ _ _ _ _ h => h))), .inr (.inr (.inl rfl)), .inr (.inr (.inl rfl)), .inr (.inr (.inr (fun _ _ _ _ h h0 => by cases h; exact h0))), .inr (.inr (.inl rfl)), trivial⟩,
      ⟨.inr (.inr (.inr (fun _ _ _ _ _ h => h))), .inr (.inr (.inr (fun _ _ _ _ _ h => h))), .inr (.inr (.inr (fun _ _ _ _ _ h => h))), .inr (.inr (.inr (fun _ _ _ _ _ h => h))), .inl rfl, .inr (.inr (.inl rfl)), .inr (.inr (.inl rfl)), .inr (.inr (.inr (fun _ _ _ _ h h0 => by cases h; exact h0))), .inr (.inr (.inl rfl)), trivial⟩,
      ⟨.inr (.inr (.inr (fun _ _ _ _ _ h => h))), .inr (.inr (.inr (fun _ _ _ _ _ h => h))), .inr (.inr (.inr (fun _ _ _ _ _ h => h))), .inr (.inr (.inr (fun _ _ _ _ _ h => h))), .inr (.inr (.inr (fun _ _ _ _ _ h => h))), .inl rfl, .inr (.inr (.inl rfl)), .inr (.inr (.inr (fun _ _ _ _ h h0 => h0.next h))), .inr (.inr (.inl rfl)), trivial⟩,
      ⟨.inr (.inr (.inr (fun _ _ _ _ _ h => h))), .inr (.inr (.inr (fun _ _ _ _ _ h => h))), .inr (.inr (.inr (fun _ _ _ _ _ h => h))), .inr (.inr (.inr (fun _ _ _ _ _ h => h))), .inr (.inr (.inr (fun _ _ _ _ _ h => h))), .inr (.inr (.inr (fun _ _ _ _ _ h => h))), .inl rfl, .inr (.inr (.inr (fun _ _ _ _ h h0 => h0.next h))), .inr (.inr (.inl rfl)), trivial⟩,
      ⟨.inr (.inr (.inr (fun _ _ _ _ _ h => h))), .inr (.inr (.inr (fun _ _ _ _ _ h => h))), .inr (.inr (.inr (fun _ _ _ _ _ h => h))), .inr (.inr (.inr (fun _ _ _ _ _ h => h))), .inr (.inr (.inr (fun _ _ _ _ _ h => h))), .inr (.inr (.inr (fun _ _ _ _ _ h => h))), .inr (.inr (.inr (fun _ _ _ _ _ h => h))), .inl rfl, .inr (.inr (.inl rfl)), trivial⟩,
      ⟨.inr (.inr (.inr (fun _ _ _ _ _ h => h))), .inr (.inr (.inr (fun _ _ _ _ _ h => h))), .inr (.inr (.inr (fun _ _ _ _ _ h => h))), .inr (.inr (.inr (fun _ _ _ _ _ h => h))), .inr (.inr (.inr (fun _ _ _ _ _ h => h))), .inr (.inr (.inr (fun _ _ _ _ _ h => h))), .inr (.inr (.inr (fun _ _ _ _ _ h => h))), .inr (.inl rfl), .inl rfl, trivial⟩, trivial⟩
  · refine ⟨?_, ?_, ?_, ?_, ?_, ?_, ?_, ?_, ?_, trivial⟩
    · -- 0: Op.load 28 (Operand.tmp 7)
      refine step_plain [] (fun _ => rfl) rfl ?_
      intro w1 vals hC1 hi0 hf E hE
      clear hi0
      clear hf
      have hs := HST10.out.next hC1
      simp only [puts, act_put, act_put_none, List.setIfInBounds_toArray, List.set_cons_zero, List.set_cons_succ] at hE ⊢
      refine wpList_get_box (hs.1.2.2.2.2.1) rfl rfl rfl hp rfl point_size ?_
      go_wp2_with fail
      exact .mk (hE _ _ rfl hC1 rfl)
    · -- 1: Op.move (Operand.tmp 0)
      refine step_plain [] (fun _ => rfl) rfl ?_
      intro w1 vals hC1 hi0 hf E hE
      clear hi0
      clear hf
      simp only [puts, act_put, act_put_none, List.setIfInBounds_toArray, List.set_cons_zero, List.set_cons_succ] at hE ⊢
      go_wp2
      exact .mk (hE _ _ rfl hC1 rfl)
    · -- 2: Op.call { callee := Callee.value (Operand.func 11), args := #[Operand.tmp 24, Operand.tmp 25], argTypes := #[2
      refine step_plain [(0, some 24), (1, some 25)] (fun _ => rfl) rfl ?_
      intro w1 vals hC1 hi0 hf E hE
      clear hi0
      have f0 : vals 0 = .agg (ptV P) := hf 0 rfl
      have f1 : vals 1 = .slice A p1 c := hf 1 rfl
      try dsimp only at f0 f1
      clear hf
      have hs := HST10.out.next hC1
      simp only [puts, act_put, act_put_none, List.setIfInBounds_toArray, List.set_cons_zero, List.set_cons_succ, f0, f1] at hE ⊢
      clear f0 f1
      go_wp2_with fail
      refine calls_then (CX1.out _ _ _ LE1.out (hs.1.2.2.2.2.2.1)) ?_
      rintro e w2 ⟨rfl, hb2⟩
      go_wp2_with fail
      exact .mk (hE _ _ rfl (hC1.trans (hb2.mono hC1.size)) hb2)
    · -- 3: Op.load 28 (Operand.tmp 7)
      refine step_plain [] (fun _ => rfl) rfl ?_
      intro w1 vals hC1 hi0 hf E hE
      clear hi0
      clear hf
      have hs := HST10.out.next hC1
      simp only [puts, act_put, act_put_none, List.setIfInBounds_toArray, List.set_cons_zero, List.set_cons_succ] at hE ⊢
      refine wpList_get_box (hs.1.2.2.2.2.1) rfl rfl rfl hp rfl point_size ?_
      go_wp2_with fail
      exact .mk (hE _ _ rfl hC1 rfl)
    · -- 4: Op.move (Operand.tmp 1)
      refine step_plain [] (fun _ => rfl) rfl ?_
      intro w1 vals hC1 hi0 hf E hE
      clear hi0
      clear hf
      simp only [puts, act_put, act_put_none, List.setIfInBounds_toArray, List.set_cons_zero, List.set_cons_succ] at hE ⊢
      go_wp2
      exact .mk (hE _ _ rfl hC1 rfl)
    · -- 5: Op.call { callee := Callee.value (Operand.func 11), args := #[Operand.tmp 27, Operand.tmp 28], argTypes := #[2
      refine step_plain [(3, some 27), (4, some 28), (2, some 26)] (fun _ => rfl) rfl ?_
      intro w1 vals hC1 hi0 hf E hE
      clear hi0
      have f2 : vals 2 = .agg (ptV X1) := hf 2 rfl
      have f3 : vals 3 = .agg (ptV P) := hf 3 rfl
      have f4 : vals 4 = .slice B' p2 d := hf 4 rfl
      try dsimp only at f2 f3 f4
      clear hf
      have hs := HST10.out.next hC1
      simp only [puts, act_put, act_put_none, List.setIfInBounds_toArray, List.set_cons_zero, List.set_cons_succ, f2, f3, f4] at hE ⊢
      clear f2 f3 f4
      go_wp2_with fail
      refine calls_then (CX2.out _ _ _ LE2.out (hs.1.2.2.2.2.2.2.1)) ?_
      rintro e w2 ⟨rfl, hb2⟩
      go_wp2_with fail
      exact .mk (hE _ _ rfl (hC1.trans (hb2.mono hC1.size)) hb2)
    · -- 6: Op.call { callee := Callee.value (Operand.func 16), args := #[Operand.tmp 26, Operand.tmp 29], argTypes := #[2
      refine step_plain [(2, some 26), (5, some 29), (5, some 29)] (fun _ => rfl) rfl ?_
      intro w1 vals hC1 hi0 hf E hE
      clear hi0
      have f2 : vals 2 = .agg (ptV X1) := hf 2 rfl
      have f5 : vals 5 = .agg (ptV X2) := hf 5 rfl
      try dsimp only at f2 f5
      clear hf
      have hs := HST10.out.next hC1
      simp only [puts, act_put, act_put_none, List.setIfInBounds_toArray, List.set_cons_zero, List.set_cons_succ, f2, f5] at hE ⊢
      clear f2 f5
      go_wp2_with fail
      refine calls_then (CX.out _) ?_
      rintro e w2 ⟨rfl, hb2⟩
      go_wp2_with fail
      exact .mk (hE _ _ rfl (hC1.trans (hb2.mono hC1.size)) hb2)
    · -- 7: Op.alloc 28
      refine step_plain [] (fun _ => rfl) rfl ?_
      intro w1 vals hC1 hi0 hf E hE
      clear hi0
      clear hf
      simp only [puts, act_put, act_put_none, List.setIfInBounds_toArray, List.set_cons_zero, List.set_cons_succ] at hE ⊢
      go_wp2
      exact .mk (hE _ _ (NewBox.of hC1.size) (hC1.alloc hC1.size _) (below_new _ _))
    · -- 8: Op.store 28 (Operand.tmp 9) (Operand.tmp 30)
      refine step_plain [(7, some 9), (6, some 30), (6, some 30), (0, some 24), (1, some 25), (2, some 26), (3, some 27), (4, some 28), (5, some 29), (6, some 30), (7, some 9)] (fun _ => rfl) rfl ?_
      intro w1 vals hC1 hi0 hf E hE
      clear hi0
      have f0 : vals 0 = .agg (ptV P) := hf 0 rfl
      have f1 : vals 1 = .slice A p1 c := hf 1 rfl
      have f2 : vals 2 = .agg (ptV X1) := hf 2 rfl
      have f3 : vals 3 = .agg (ptV P) := hf 3 rfl
      have f4 : vals 4 = .slice B' p2 d := hf 4 rfl
      have f5 : vals 5 = .agg (ptV X2) := hf 5 rfl
      have f6 : vals 6 = .agg (ptV X) := hf 6 rfl
      have f7 : (NewBox y10.heap.size 28 (ptV zP)) (vals 7) w1 := hf 7 rfl
      try dsimp only at f0 f1 f2 f3 f4 f5 f6 f7
      clear hf
      obtain ⟨o, hx, ho, hblk⟩ := f7
      have hx' := hx
      simp only [puts, act_put, act_put_none, List.setIfInBounds_toArray, List.set_cons_zero, List.set_cons_succ, f0, f1, f2, f3, f4, f5, f6, hx] at hE ⊢
      clear f0 f1 f2 f3 f4 f5 f6
      clear hx
      refine wpList_put_box (cells := ptV X) hblk rfl rfl rfl rfl point_size rfl (by simp [ptV, wV, limbs, Value.oneCell']) ?_
      intro w2 hb2 hw2
      go_wp2_with fail
      exact .mk (hE undef _ ⟨o, hx', ho, hb2⟩ (hw2.below hC1 ho hC1.size) trivial)
  intro w1 vals hC1 hf
  have f0 : vals 0 = .agg (ptV P) := hf 0 (by decide) rfl
  have f1 : vals 1 = .slice A p1 c := hf 1 (by decide) rfl
  have f2 : vals 2 = .agg (ptV X1) := hf 2 (by decide) rfl
  have f3 : vals 3 = .agg (ptV P) := hf 3 (by decide) rfl
  have f4 : vals 4 = .slice B' p2 d := hf 4 (by decide) rfl
  have f5 : vals 5 = .agg (ptV X2) := hf 5 (by decide) rfl
  have f6 : vals 6 = .agg (ptV X) := hf 6 (by decide) rfl
  have f8 : (fun z u => NewBox y10.heap.size 28 (ptV X) (z 7) u) vals w1 := hf 8 (by decide) rfl
  try dsimp only at f0 f1 f2 f3 f4 f5 f6 f8
  clear hf
  simp only [puts, act_put, act_put_none, List.setIfInBounds_toArray, List.set_cons_zero, List.set_cons_succ, f0, f1, f2, f3, f4, f5, f6]
  clear f0 f1 f2 f3 f4 f5 f6
  generalize vals 7 = x7 at *
  obtain ⟨g2, rfl, hlo, hblk⟩ := f8
  have HST11 := Lib.hid (show Cs [.box g2 28 (ptV X), .rd A5 (bytesV S), .rd A9 (dV T), .rd A8 (dV (digs Lb)), .rd A7 (dV (digs La)), .box g1 28 (ptV P), .rd A (bytesV La), .rd B' (bytesV Lb), .rd C (bytesV Lc), .rd B' (bytesV Le)] w w1 from ⟨⟨hblk, (HST10.out.next hC1).1⟩, (HST10.out.next hC1).2⟩)
  clear hC1 HC0 HST10 hblk hlo
  obtain ⟨y11, rfl⟩ : ∃ x, x = w1 := ⟨_, rfl⟩
  go_wp2_with fail
  have HC0 := HST11.out.drew
  clear HST11
  refine wp_region_det (fun u => Cs [.box g2 28 (ptV X), .rd A5 (bytesV S), .rd A9 (dV T), .rd A8 (dV (digs Lb)), .rd A7 (dV (digs La)), .box g1 28 (ptV P), .rd A (bytesV La), .rd B' (bytesV Lb), .rd C (bytesV Lc), .rd B' (bytesV Le)] w u) (fun u => Cs [.box g2 28 (ptV X), .rd A5 (bytesV S), .rd A9 (dV T), .rd A8 (dV (digs Lb)), .rd A7 (dV (digs La)), .box g1 28 (ptV P), .rd A (bytesV La), .rd B' (bytesV Lb), .rd C (bytesV Lc), .rd B' (bytesV Le)] w u) [(0, some 31), (1, some 32), (2, some 33), (3, some 34), (4, some 35), (5, some 36), (6, some 37), (7, some 38), (8, some 39), (9, some 40), (10, some 41), (11, some 42), (12, some 43), (13, some 44), (14, some 45), (15, some 46), (16, some 47), (17, some 48), (18, some 49), (19, some 50), (20, some 51), (21, some 52), (22, some 53), (23, some 6)] (by kernel_rfl) (by kernel_rfl) (by decide) (by kernel_rfl) (fun _ => rfl) HC0 ?_
  apply DetL.next
  · -- 0: Op.load 28 (Operand.tmp 7)
    apply detStep_plain []
    exact fun _ => rfl
    rfl
    rintro vals - w1 hC1 E hE
    simp only [puts, act_put, act_put_none, List.setIfInBounds_toArray, List.set_cons_zero, List.set_cons_succ] at hE ⊢
    refine wpList_get_box (hC1.1.2.2.2.2.2.1) rfl rfl rfl hp rfl point_size ?_
    go_wp2_with fail
    exact .mk (hE _ hC1)
  apply DetL.next
  · -- 1: Op.move (Operand.tmp 8)
    apply detStep_plain []
    exact fun _ => rfl
    rfl
    rintro vals ⟨-, -⟩ w1 hC1 E hE
    simp only [puts, act_put, act_put_none, List.setIfInBounds_toArray, List.set_cons_zero, List.set_cons_succ] at hE ⊢
    go_wp2
    exact .mk (hE _ hC1)
  apply DetL.next
  · -- 2: Op.call { callee := Callee.value (Operand.func 11), args := #[Operand.tmp 31, Operand.tmp 32], argTypes := #[2
    apply detStep_plain [(0, some 31), (1, some 32)]
    exact fun _ => rfl
    rfl
    rintro vals ⟨⟨-, f0⟩, f1⟩ w1 hC1 E hE
    simp only [puts, act_put, act_put_none, List.setIfInBounds_toArray, List.set_cons_zero, List.set_cons_succ, f0, f1] at hE ⊢
    clear f0 f1
    go_wp2_with fail
    refine calls_then (CMS.out _ _ _ LE5.out (hC1.1.2.1)) ?_
    rintro e w2 ⟨rfl, hb2⟩
    go_wp2_with fail
    exact .mk (hE _ (hC1.next hb2))
  apply DetL.next
  · -- 3: Op.load 28 (Operand.tmp 9)
    apply detStep_plain []
    exact fun _ => rfl
    rfl
    rintro vals ⟨⟨⟨-, -⟩, -⟩, -⟩ w1 hC1 E hE
    simp only [puts, act_put, act_put_none, List.setIfInBounds_toArray, List.set_cons_zero, List.set_cons_succ] at hE ⊢
    refine wpList_get_box (hC1.1.1) rfl rfl rfl hp rfl point_size ?_
    go_wp2_with fail
    exact .mk (hE _ hC1)
  apply DetL.next
  · -- 4: Op.call { callee := Callee.value (Operand.func 22), args := #[Operand.tmp 33, Operand.tmp 34], argTypes := #[2
    apply detStep_plain [(2, some 33), (3, some 34), (2, some 33)]
    exact fun _ => rfl
    rfl
    rintro vals ⟨⟨⟨⟨-, -⟩, -⟩, f2⟩, f3⟩ w1 hC1 E hE
    simp only [puts, act_put, act_put_none, List.setIfInBounds_toArray, List.set_cons_zero, List.set_cons_succ, f2, f3] at hE ⊢
    clear f2 f3
    go_wp2_with fail
    refine calls_then (CE1.out _) ?_
    rintro e w2 ⟨rfl, hb2⟩
    go_wp2_with fail
    exact .mk (hE _ (hC1.next hb2))
  apply DetL.next
  · -- 5: Op.move (Operand.tmp 35)
    apply detStep_plain [(4, some 35), (4, some 35)]
    exact fun _ => rfl
    rfl
    rintro vals ⟨⟨⟨⟨⟨-, -⟩, -⟩, -⟩, -⟩, f4⟩ w1 hC1 E hE
    simp only [puts, act_put, act_put_none, List.setIfInBounds_toArray, List.set_cons_zero, List.set_cons_succ, f4] at hE ⊢
    clear f4
    go_wp2
    exact .mk (hE _ hC1)
  apply DetL.next
  · -- 6: Op.load 28 (Operand.tmp 7)
    apply detStep_yes [(5, some 36)] (g := 5) (t := 36) (want := true)
    exact fun _ => rfl
    rfl
    rfl
    · rintro vals ⟨⟨⟨⟨⟨⟨-, -⟩, -⟩, -⟩, -⟩, -⟩, f5⟩
      simp only [puts, act_put, act_put_none, List.setIfInBounds_toArray, List.set_cons_zero, List.set_cons_succ, f5]
      rfl
    rintro vals ⟨⟨⟨⟨⟨⟨-, -⟩, -⟩, -⟩, -⟩, -⟩, f5⟩ w1 hC1 E hE
    dsimp only at hE ⊢
    simp only [puts, act_put, act_put_none, List.setIfInBounds_toArray, List.set_cons_zero, List.set_cons_succ, f5] at hE ⊢
    clear f5
    refine wpList_get_box (hC1.1.2.2.2.2.2.1) rfl rfl rfl hp rfl point_size ?_
    go_wp2_with fail
    exact .mk (hE _ hC1)
  apply DetL.next
  · -- 7: Op.move (Operand.tmp 0)
    apply detStep_yes [(5, some 36)] (g := 5) (t := 36) (want := true)
    exact fun _ => rfl
    rfl
    rfl
    · rintro vals ⟨⟨⟨⟨⟨⟨⟨-, -⟩, -⟩, -⟩, -⟩, -⟩, f5⟩, -⟩
      simp only [puts, act_put, act_put_none, List.setIfInBounds_toArray, List.set_cons_zero, List.set_cons_succ, f5]
      rfl
    rintro vals ⟨⟨⟨⟨⟨⟨⟨-, -⟩, -⟩, -⟩, -⟩, -⟩, f5⟩, -⟩ w1 hC1 E hE
    dsimp only at hE ⊢
    simp only [puts, act_put, act_put_none, List.setIfInBounds_toArray, List.set_cons_zero, List.set_cons_succ, f5] at hE ⊢
    clear f5
    go_wp2
    exact .mk (hE _ hC1)
  apply DetL.next
  · -- 8: Op.call { callee := Callee.value (Operand.func 11), args := #[Operand.tmp 37, Operand.tmp 38], argTypes := #[2
    apply detStep_yes [(6, some 37), (7, some 38), (5, some 36), (5, some 36)] (g := 5) (t := 36) (want := true)
    exact fun _ => rfl
    rfl
    rfl
    · rintro vals ⟨⟨⟨⟨⟨⟨⟨⟨-, -⟩, -⟩, -⟩, -⟩, -⟩, f5⟩, f6⟩, f7⟩
      simp only [puts, act_put, act_put_none, List.setIfInBounds_toArray, List.set_cons_zero, List.set_cons_succ, f5, f6, f7]
      rfl
    rintro vals ⟨⟨⟨⟨⟨⟨⟨⟨-, -⟩, -⟩, -⟩, -⟩, -⟩, f5⟩, f6⟩, f7⟩ w1 hC1 E hE
    dsimp only at hE ⊢
    simp only [puts, act_put, act_put_none, List.setIfInBounds_toArray, List.set_cons_zero, List.set_cons_succ, f5, f6, f7] at hE ⊢
    clear f5 f6 f7
    go_wp2_with fail
    refine calls_then (CX1.out _ _ _ LE1.out (hC1.1.2.2.2.2.2.2.1)) ?_
    rintro e w2 ⟨rfl, hb2⟩
    go_wp2_with fail
    exact .mk (hE _ (hC1.next hb2))
  apply DetL.next
  · -- 9: Op.move (Operand.tmp 1)
    apply detStep_yes [(5, some 36)] (g := 5) (t := 36) (want := true)
    exact fun _ => rfl
    rfl
    rfl
    · rintro vals ⟨⟨⟨⟨⟨⟨⟨⟨⟨-, -⟩, -⟩, -⟩, -⟩, -⟩, f5⟩, -⟩, -⟩, -⟩
      simp only [puts, act_put, act_put_none, List.setIfInBounds_toArray, List.set_cons_zero, List.set_cons_succ, f5]
      rfl
    rintro vals ⟨⟨⟨⟨⟨⟨⟨⟨⟨-, -⟩, -⟩, -⟩, -⟩, -⟩, f5⟩, -⟩, -⟩, -⟩ w1 hC1 E hE
    dsimp only at hE ⊢
    simp only [puts, act_put, act_put_none, List.setIfInBounds_toArray, List.set_cons_zero, List.set_cons_succ, f5] at hE ⊢
    clear f5
    go_wp2
    exact .mk (hE _ hC1)
  apply DetL.next
  · -- 10: Op.call { callee := Callee.value (Operand.func 12), args := #[Operand.tmp 40, Operand.const (Value.int IntKind
    apply detStep_yes [(9, some 40), (8, some 39), (5, some 36)] (g := 5) (t := 36) (want := true)
    exact fun _ => rfl
    rfl
    rfl
    · rintro vals ⟨⟨⟨⟨⟨⟨⟨⟨⟨⟨-, -⟩, -⟩, -⟩, -⟩, -⟩, f5⟩, -⟩, -⟩, f8⟩, f9⟩
      simp only [puts, act_put, act_put_none, List.setIfInBounds_toArray, List.set_cons_zero, List.set_cons_succ, f5, f8, f9]
      rfl
    rintro vals ⟨⟨⟨⟨⟨⟨⟨⟨⟨⟨-, -⟩, -⟩, -⟩, -⟩, -⟩, f5⟩, -⟩, -⟩, f8⟩, f9⟩ w1 hC1 E hE
    dsimp only at hE ⊢
    simp only [puts, act_put, act_put_none, List.setIfInBounds_toArray, List.set_cons_zero, List.set_cons_succ, f5, f8, f9] at hE ⊢
    clear f5 f8 f9
    go_wp2_with fail
    refine calls_then (FLe.out _) ?_
    rintro e w2 ⟨rfl, rfl⟩
    go_wp2_with fail
    exact .mk (hE _ hC1)
  apply DetL.next
  · -- 11: Op.call { callee := Callee.value (Operand.func 11), args := #[Operand.tmp 39, Operand.tmp 41], argTypes := #[2
    apply detStep_yes [(8, some 39), (10, some 41), (10, some 41), (5, some 36)] (g := 5) (t := 36) (want := true)
    exact fun _ => rfl
    rfl
    rfl
    · rintro vals ⟨⟨⟨⟨⟨⟨⟨⟨⟨⟨⟨-, -⟩, -⟩, -⟩, -⟩, -⟩, f5⟩, -⟩, -⟩, f8⟩, -⟩, f10⟩
      simp only [puts, act_put, act_put_none, List.setIfInBounds_toArray, List.set_cons_zero, List.set_cons_succ, f5, f8, f10]
      rfl
    rintro vals ⟨⟨⟨⟨⟨⟨⟨⟨⟨⟨⟨-, -⟩, -⟩, -⟩, -⟩, -⟩, f5⟩, -⟩, -⟩, f8⟩, -⟩, f10⟩ w1 hC1 E hE
    dsimp only at hE ⊢
    simp only [puts, act_put, act_put_none, List.setIfInBounds_toArray, List.set_cons_zero, List.set_cons_succ, f5, f8, f10] at hE ⊢
    clear f5 f8 f10
    go_wp2_with fail
    refine calls_then (CY1.out _ _ _ LE4.out (hC1.1.2.2.2.2.2.2.2.2.2.1)) ?_
    rintro e w2 ⟨rfl, hb2⟩
    go_wp2_with fail
    exact .mk (hE _ (hC1.next hb2))
  apply DetL.next
  · -- 12: Op.load 28 (Operand.tmp 7)
    apply detStep_yes [(5, some 36)] (g := 5) (t := 36) (want := true)
    exact fun _ => rfl
    rfl
    rfl
    · rintro vals ⟨⟨⟨⟨⟨⟨⟨⟨⟨⟨⟨⟨-, -⟩, -⟩, -⟩, -⟩, -⟩, f5⟩, -⟩, -⟩, -⟩, -⟩, -⟩, -⟩
      simp only [puts, act_put, act_put_none, List.setIfInBounds_toArray, List.set_cons_zero, List.set_cons_succ, f5]
      rfl
    rintro vals ⟨⟨⟨⟨⟨⟨⟨⟨⟨⟨⟨⟨-, -⟩, -⟩, -⟩, -⟩, -⟩, f5⟩, -⟩, -⟩, -⟩, -⟩, -⟩, -⟩ w1 hC1 E hE
    dsimp only at hE ⊢
    simp only [puts, act_put, act_put_none, List.setIfInBounds_toArray, List.set_cons_zero, List.set_cons_succ, f5] at hE ⊢
    clear f5
    refine wpList_get_box (hC1.1.2.2.2.2.2.1) rfl rfl rfl hp rfl point_size ?_
    go_wp2_with fail
    exact .mk (hE _ hC1)
  apply DetL.next
  · -- 13: Op.move (Operand.tmp 1)
    apply detStep_yes [(5, some 36)] (g := 5) (t := 36) (want := true)
    exact fun _ => rfl
    rfl
    rfl
    · rintro vals ⟨⟨⟨⟨⟨⟨⟨⟨⟨⟨⟨⟨⟨-, -⟩, -⟩, -⟩, -⟩, -⟩, f5⟩, -⟩, -⟩, -⟩, -⟩, -⟩, -⟩, -⟩
      simp only [puts, act_put, act_put_none, List.setIfInBounds_toArray, List.set_cons_zero, List.set_cons_succ, f5]
      rfl
    rintro vals ⟨⟨⟨⟨⟨⟨⟨⟨⟨⟨⟨⟨⟨-, -⟩, -⟩, -⟩, -⟩, -⟩, f5⟩, -⟩, -⟩, -⟩, -⟩, -⟩, -⟩, -⟩ w1 hC1 E hE
    dsimp only at hE ⊢
    simp only [puts, act_put, act_put_none, List.setIfInBounds_toArray, List.set_cons_zero, List.set_cons_succ, f5] at hE ⊢
    clear f5
    go_wp2
    exact .mk (hE _ hC1)
  apply DetL.next
  · -- 14: Op.call { callee := Callee.value (Operand.func 12), args := #[Operand.tmp 44, Operand.const (Value.int IntKind
    apply detStep_yes [(13, some 44), (11, some 42), (5, some 36)] (g := 5) (t := 36) (want := true)
    exact fun _ => rfl
    rfl
    rfl
    · rintro vals ⟨⟨⟨⟨⟨⟨⟨⟨⟨⟨⟨⟨⟨⟨-, -⟩, -⟩, -⟩, -⟩, -⟩, f5⟩, -⟩, -⟩, -⟩, -⟩, -⟩, f11⟩, -⟩, f13⟩
      simp only [puts, act_put, act_put_none, List.setIfInBounds_toArray, List.set_cons_zero, List.set_cons_succ, f5, f11, f13]
      rfl
    rintro vals ⟨⟨⟨⟨⟨⟨⟨⟨⟨⟨⟨⟨⟨⟨-, -⟩, -⟩, -⟩, -⟩, -⟩, f5⟩, -⟩, -⟩, -⟩, -⟩, -⟩, f11⟩, -⟩, f13⟩ w1 hC1 E hE
    dsimp only at hE ⊢
    simp only [puts, act_put, act_put_none, List.setIfInBounds_toArray, List.set_cons_zero, List.set_cons_succ, f5, f11, f13] at hE ⊢
    clear f5 f11 f13
    go_wp2_with fail
    refine calls_then (FLe.out _) ?_
    rintro e w2 ⟨rfl, rfl⟩
    go_wp2_with fail
    exact .mk (hE _ hC1)
  apply DetL.next
  · -- 15: Op.call { callee := Callee.value (Operand.func 11), args := #[Operand.tmp 43, Operand.tmp 45], argTypes := #[2
    apply detStep_yes [(12, some 43), (14, some 45), (14, some 45), (5, some 36)] (g := 5) (t := 36) (want := true)
    exact fun _ => rfl
    rfl
    rfl
    · rintro vals ⟨⟨⟨⟨⟨⟨⟨⟨⟨⟨⟨⟨⟨⟨⟨-, -⟩, -⟩, -⟩, -⟩, -⟩, f5⟩, -⟩, -⟩, -⟩, -⟩, -⟩, -⟩, f12⟩, -⟩, f14⟩
      simp only [puts, act_put, act_put_none, List.setIfInBounds_toArray, List.set_cons_zero, List.set_cons_succ, f5, f12, f14]
      rfl
    rintro vals ⟨⟨⟨⟨⟨⟨⟨⟨⟨⟨⟨⟨⟨⟨⟨-, -⟩, -⟩, -⟩, -⟩, -⟩, f5⟩, -⟩, -⟩, -⟩, -⟩, -⟩, -⟩, f12⟩, -⟩, f14⟩ w1 hC1 E hE
    dsimp only at hE ⊢
    simp only [puts, act_put, act_put_none, List.setIfInBounds_toArray, List.set_cons_zero, List.set_cons_succ, f5, f12, f14] at hE ⊢
    clear f5 f12 f14
    go_wp2_with fail
    refine calls_then (CY2.out _ _ _ LE4.out (hC1.1.2.2.2.2.2.2.2.2.2.1)) ?_
    rintro e w2 ⟨rfl, hb2⟩
    go_wp2_with fail
    exact .mk (hE _ (hC1.next hb2))
  apply DetL.next
  · -- 16: Op.move (Operand.tmp 0)
    apply detStep_yes [(5, some 36)] (g := 5) (t := 36) (want := true)
    exact fun _ => rfl
    rfl
    rfl
    · rintro vals ⟨⟨⟨⟨⟨⟨⟨⟨⟨⟨⟨⟨⟨⟨⟨⟨-, -⟩, -⟩, -⟩, -⟩, -⟩, f5⟩, -⟩, -⟩, -⟩, -⟩, -⟩, -⟩, -⟩, -⟩, -⟩, -⟩
      simp only [puts, act_put, act_put_none, List.setIfInBounds_toArray, List.set_cons_zero, List.set_cons_succ, f5]
      rfl
    rintro vals ⟨⟨⟨⟨⟨⟨⟨⟨⟨⟨⟨⟨⟨⟨⟨⟨-, -⟩, -⟩, -⟩, -⟩, -⟩, f5⟩, -⟩, -⟩, -⟩, -⟩, -⟩, -⟩, -⟩, -⟩, -⟩, -⟩ w1 hC1 E hE
    dsimp only at hE ⊢
    simp only [puts, act_put, act_put_none, List.setIfInBounds_toArray, List.set_cons_zero, List.set_cons_succ, f5] at hE ⊢
    clear f5
    go_wp2
    exact .mk (hE _ hC1)
  apply DetL.next
  · -- 17: Op.call { callee := Callee.value (Operand.func 11), args := #[Operand.tmp 46, Operand.tmp 47], argTypes := #[2
    apply detStep_yes [(15, some 46), (16, some 47), (15, some 46), (5, some 36)] (g := 5) (t := 36) (want := true)
    exact fun _ => rfl
    rfl
    rfl
    · rintro vals ⟨⟨⟨⟨⟨⟨⟨⟨⟨⟨⟨⟨⟨⟨⟨⟨⟨-, -⟩, -⟩, -⟩, -⟩, -⟩, f5⟩, -⟩, -⟩, -⟩, -⟩, -⟩, -⟩, -⟩, -⟩, -⟩, f15⟩, f16⟩
      simp only [puts, act_put, act_put_none, List.setIfInBounds_toArray, List.set_cons_zero, List.set_cons_succ, f5, f15, f16]
      rfl
    rintro vals ⟨⟨⟨⟨⟨⟨⟨⟨⟨⟨⟨⟨⟨⟨⟨⟨⟨-, -⟩, -⟩, -⟩, -⟩, -⟩, f5⟩, -⟩, -⟩, -⟩, -⟩, -⟩, -⟩, -⟩, -⟩, -⟩, f15⟩, f16⟩ w1 hC1 E hE
    dsimp only at hE ⊢
    simp only [puts, act_put, act_put_none, List.setIfInBounds_toArray, List.set_cons_zero, List.set_cons_succ, f5, f15, f16] at hE ⊢
    clear f5 f15 f16
    go_wp2_with fail
    refine calls_then (CY3.out _ _ _ LE1.out (hC1.1.2.2.2.2.2.2.1)) ?_
    rintro e w2 ⟨rfl, hb2⟩
    go_wp2_with fail
    exact .mk (hE _ (hC1.next hb2))
  apply DetL.next
  · -- 18: Op.call { callee := Callee.value (Operand.func 22), args := #[Operand.tmp 42, Operand.tmp 48], argTypes := #[2
    apply detStep_yes [(11, some 42), (17, some 48), (17, some 48), (5, some 36)] (g := 5) (t := 36) (want := true)
    exact fun _ => rfl
    rfl
    rfl
    · rintro vals ⟨⟨⟨⟨⟨⟨⟨⟨⟨⟨⟨⟨⟨⟨⟨⟨⟨⟨-, -⟩, -⟩, -⟩, -⟩, -⟩, f5⟩, -⟩, -⟩, -⟩, -⟩, -⟩, f11⟩, -⟩, -⟩, -⟩, -⟩, -⟩, f17⟩
      simp only [puts, act_put, act_put_none, List.setIfInBounds_toArray, List.set_cons_zero, List.set_cons_succ, f5, f11, f17]
      rfl
    rintro vals ⟨⟨⟨⟨⟨⟨⟨⟨⟨⟨⟨⟨⟨⟨⟨⟨⟨⟨-, -⟩, -⟩, -⟩, -⟩, -⟩, f5⟩, -⟩, -⟩, -⟩, -⟩, -⟩, f11⟩, -⟩, -⟩, -⟩, -⟩, -⟩, f17⟩ w1 hC1 E hE
    dsimp only at hE ⊢
    simp only [puts, act_put, act_put_none, List.setIfInBounds_toArray, List.set_cons_zero, List.set_cons_succ, f5, f11, f17] at hE ⊢
    clear f5 f11 f17
    go_wp2_with fail
    refine calls_then (CE2.out _) ?_
    rintro e w2 ⟨rfl, hb2⟩
    go_wp2_with fail
    exact .mk (hE _ (hC1.next hb2))
  apply DetL.next
  · -- 19: Op.pick (Operand.tmp 36) (Operand.tmp 49) (Operand.const (Value.bool false))
    apply detStep_plain [(5, some 36), (18, some 49)]
    exact fun _ => rfl
    rfl
    rintro vals ⟨⟨⟨⟨⟨⟨⟨⟨⟨⟨⟨⟨⟨⟨⟨⟨⟨⟨⟨-, -⟩, -⟩, -⟩, -⟩, -⟩, f5⟩, -⟩, -⟩, -⟩, -⟩, -⟩, -⟩, -⟩, -⟩, -⟩, -⟩, -⟩, -⟩, f18⟩ w1 hC1 E hE
    simp only [puts, act_put, act_put_none, List.setIfInBounds_toArray, List.set_cons_zero, List.set_cons_succ, f5, f18] at hE ⊢
    clear f5 f18
    go_wp2
    exact .mk (hE _ hC1)
  apply DetL.next
  · -- 20: Op.move (Operand.tmp 50)
    apply detStep_plain [(19, some 50), (18, some 49)]
    exact fun _ => rfl
    rfl
    rintro vals ⟨⟨⟨⟨⟨⟨⟨⟨⟨⟨⟨⟨⟨⟨⟨⟨⟨⟨⟨⟨-, -⟩, -⟩, -⟩, -⟩, -⟩, -⟩, -⟩, -⟩, -⟩, -⟩, -⟩, -⟩, -⟩, -⟩, -⟩, -⟩, -⟩, -⟩, f18⟩, f19⟩ w1 hC1 E hE
    simp only [puts, act_put, act_put_none, List.setIfInBounds_toArray, List.set_cons_zero, List.set_cons_succ, f18, f19] at hE ⊢
    clear f18 f19
    go_wp2
    exact .mk (hE _ hC1)
  apply DetL.next
  · -- 21: Op.call { callee := Callee.value (Operand.func 18), args := #[], argTypes := #[] }
    apply detStep_yes [(20, some 51), (20, some 51)] (g := 20) (t := 51) (want := true)
    exact fun _ => rfl
    rfl
    rfl
    · rintro vals ⟨⟨⟨⟨⟨⟨⟨⟨⟨⟨⟨⟨⟨⟨⟨⟨⟨⟨⟨⟨⟨-, -⟩, -⟩, -⟩, -⟩, -⟩, -⟩, -⟩, -⟩, -⟩, -⟩, -⟩, -⟩, -⟩, -⟩, -⟩, -⟩, -⟩, -⟩, -⟩, -⟩, f20⟩
      simp only [puts, act_put, act_put_none, List.setIfInBounds_toArray, List.set_cons_zero, List.set_cons_succ, f20]
      rfl
    rintro vals ⟨⟨⟨⟨⟨⟨⟨⟨⟨⟨⟨⟨⟨⟨⟨⟨⟨⟨⟨⟨⟨-, -⟩, -⟩, -⟩, -⟩, -⟩, -⟩, -⟩, -⟩, -⟩, -⟩, -⟩, -⟩, -⟩, -⟩, -⟩, -⟩, -⟩, -⟩, -⟩, -⟩, f20⟩ w1 hC1 E hE
    dsimp only at hE ⊢
    simp only [puts, act_put, act_put_none, List.setIfInBounds_toArray, List.set_cons_zero, List.set_cons_succ, f20] at hE ⊢
    clear f20
    go_wp2_with fail
    refine calls_then (clives_any _) ?_
    rintro e w2 ⟨rfl, hb2⟩
    go_wp2_with fail
    exact .mk (hE _ (hC1.next hb2))
  apply DetL.next
  · -- 22: Op.pick (Operand.tmp 51) (Operand.tmp 52) (Operand.const (Value.bool false))
    apply detStep_plain [(20, some 51), (21, some 52)]
    exact fun _ => rfl
    rfl
    rintro vals ⟨⟨⟨⟨⟨⟨⟨⟨⟨⟨⟨⟨⟨⟨⟨⟨⟨⟨⟨⟨⟨⟨-, -⟩, -⟩, -⟩, -⟩, -⟩, -⟩, -⟩, -⟩, -⟩, -⟩, -⟩, -⟩, -⟩, -⟩, -⟩, -⟩, -⟩, -⟩, -⟩, -⟩, f20⟩, f21⟩ w1 hC1 E hE
    simp only [puts, act_put, act_put_none, List.setIfInBounds_toArray, List.set_cons_zero, List.set_cons_succ, f20, f21] at hE ⊢
    clear f20 f21
    go_wp2
    exact .mk (hE _ hC1)
  apply DetL.last
  · -- 23: Op.assign (Operand.tmp 53)
    apply detStep_plain [(22, some 53), (21, some 52), (0, some 31), (1, some 32), (2, some 33), (3, some 34), (4, some 35), (5, some 36), (6, some 37), (7, some 38), (8, some 39), (9, some 40), (10, some 41), (11, some 42), (12, some 43), (13, some 44), (14, some 45), (15, some 46), (16, some 47), (17, some 48), (18, some 49), (19, some 50), (20, some 51), (21, some 52), (22, some 53)]
    exact fun _ => rfl
    rfl
    rintro vals ⟨⟨⟨⟨⟨⟨⟨⟨⟨⟨⟨⟨⟨⟨⟨⟨⟨⟨⟨⟨⟨⟨⟨-, f0⟩, f1⟩, f2⟩, f3⟩, f4⟩, f5⟩, f6⟩, f7⟩, f8⟩, f9⟩, f10⟩, f11⟩, f12⟩, f13⟩, f14⟩, f15⟩, f16⟩, f17⟩, f18⟩, f19⟩, f20⟩, f21⟩, f22⟩ w1 hC1 E hE
    simp only [puts, act_put, act_put_none, List.setIfInBounds_toArray, List.set_cons_zero, List.set_cons_succ, f0, f1, f2, f3, f4, f5, f6, f7, f8, f9, f10, f11, f12, f13, f14, f15, f16, f17, f18, f19, f20, f21, f22] at hE ⊢
    clear f0 f1 f2 f3 f4 f5 f6 f7 f8 f9 f10 f11 f12 f13 f14 f15 f16 f17 f18 f19 f20 f21 f22
    go_wp2
    exact .mk (hE _ hC1)
  rintro vals ⟨⟨⟨⟨⟨⟨⟨⟨⟨⟨⟨⟨⟨⟨⟨⟨⟨⟨⟨⟨⟨⟨⟨⟨-, f0⟩, f1⟩, f2⟩, f3⟩, f4⟩, f5⟩, f6⟩, f7⟩, f8⟩, f9⟩, f10⟩, f11⟩, f12⟩, f13⟩, f14⟩, f15⟩, f16⟩, f17⟩, f18⟩, f19⟩, f20⟩, f21⟩, f22⟩, f23⟩ w1 hC1
  simp only [puts, act_put, act_put_none, List.setIfInBounds_toArray, List.set_cons_zero, List.set_cons_succ, f0, f1, f2, f3, f4, f5, f6, f7, f8, f9, f10, f11, f12, f13, f14, f15, f16, f17, f18, f19, f20, f21, f22, f23]
  clear f0 f1 f2 f3 f4 f5 f6 f7 f8 f9 f10 f11 f12 f13 f14 f15 f16 f17 f18 f19 f20 f21 f22 f23
  have HST12 := Lib.hid hC1
  clear hC1 HC0
  go_wp2_with fail
  go_ret
  exact ⟨rfl, HST12.out.2⟩
end Go.Proofs.Ytbeokfpbhemcfaa
namespace Go.Proofs.Ytbeokfpbhemcfaa.curveMuls
set_option linter.unusedSimpArgs false
set_option linter.unusedVariables false
open Go.ChangeShapes Go.WideShapes Go.ChangeAt Go.RowKit Go.Joins

set_option maxRecDepth 100000 in
theorem lifted (os : Os) (started : os.Started) (H : Type) (enc : TypeId × Value → H) :
    ReturnsInHanded {} Try.checked os 4 .any (Rows.curveMulsSpec.pre6 enc Try.prog Try.f4 Rows.curveMulsRow.domain false) (Rows.curveMulsSpec.post enc Try.prog Try.f4 false true false false) := by
  refine returnsInHanded_of_change (C := Try.checked) own started (by kernel_rfl) Try.func4
    (ChangeSpec.witness6 (enc := enc) (C := Try.checked) false ⟨#[], #[.slice none 0 0, .slice none 0 0, .slice none 0 0], []⟩ 8 (by kernel_rfl) (by kernel_rfl) (by kernel_rfl) (by kernel_rfl)) ?_
  intro W base args ds gs before hval0 hW hcnd _
  have hval : ∀ (j : Nat) t v, Try.f4.params[j]? = some t → args[j]? = some v → Value.okWide Try.prog W .any base t v := hval0
  have hW' := hW
  obtain ⟨p, q, hA0, hV, rfl, hfz, hnd⟩ := hW
  have hA : DataW.TrodAll enc Try.prog W 0 (fun _ => true) true Try.f4.params.toList args.toList ds p := hA0
  rw [Try.params4] at hA hval
  obtain ⟨v0, v1, v2, d0, d1, d2, p0, p1, p2, rfl, rfl, rfl, h0, h1, h2⟩ := trodAll_three hA
  obtain ⟨rfl, rfl⟩ := trodVars_none hV
  have h0k := h0
  have h1k := h1
  have h2k := h2
  obtain ⟨l0, A0, c0, rfl, r0, q0, o0⟩ := open_bytes_arg (hval 0 22 v0 rfl rfl) h0
  obtain ⟨l1, A1, c1, rfl, r1, q1, o1⟩ := open_bytes_arg (hval 1 22 v1 rfl rfl) h1
  obtain ⟨l2, A2, c2, rfl, r2, q2, o2⟩ := open_bytes_arg (hval 2 22 v2 rfl rfl) h2
  clear hA0 hval0
  simp only [List.append_nil] at hW'
  refine (muls_any l0 l1 l2 A0 A1 A2 c0 c1 c2 W r0 r1 r2 q0 q1 q2).mono fun e W' ⟨he, hb⟩ => ?_
  subst he
  have hlt : ∀ x ∈ p0 ++ p1 ++ p2, x.block < W.heap.size := fun x hx => hW'.lt x (by simpa using hx)
  exact ⟨_, rfl, post_of_below (pa := p0 ++ (p1 ++ p2)) (pv := []) hW' (fun _ _ _ => trodAll_mk1 (shut_bool Try.underlying4 _))
    (fun sp hsp => trodAll_mk3 (stays laidOut (by kernel_rfl) (of_decide_eq_true (by kernel_rfl)) h0k hb (fun x hx => hlt x (by simp [hx])) (fun x hx => hsp x (by simp [hx])))
      (stays laidOut (by kernel_rfl) (of_decide_eq_true (by kernel_rfl)) h1k hb (fun x hx => hlt x (by simp [hx])) (fun x hx => hsp x (by simp [hx])))
      (stays laidOut (by kernel_rfl) (of_decide_eq_true (by kernel_rfl)) h2k hb (fun x hx => hlt x (by simp [hx])) (fun x hx => hsp x (by simp [hx]))))
    (fun _ _ => rfl) (by simp) hb (ok_one (by kernel_rfl) rfl (okWide_bool_mk Try.underlying4 _))⟩

theorem holds : Rows.CurveMulsSaid :=
  OpenClaim.holds_of_wide 4 Try.f4 rfl rfl rfl rfl rfl rfl rfl ⟨rfl, rfl, rfl, rfl, rfl⟩ rfl rfl rfl rfl rfl (by kernel_rfl) Try.func4 (by kernel_rfl)
    (of_decide_eq_true (by kernel_rfl)) (by unfold Func.isWrapper; first | (rw [if_pos (by decide +kernel)]; kernel_rfl) | (rw [if_neg (by decide +kernel)]; exact ⟨rfl, rfl⟩))
    (fun os started H enc _ => lifted os started H enc)

#print axioms holds
end Go.Proofs.Ytbeokfpbhemcfaa.curveMuls
