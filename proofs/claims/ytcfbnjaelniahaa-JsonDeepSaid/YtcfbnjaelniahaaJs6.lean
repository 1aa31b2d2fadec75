/-
  Walks: json's reader: behind a backslash.
-/
import Derived.Test.YtcfbnjaelniahaaJse
import Derived.Test.YtcfbnjaelniahaaJs5
namespace Go.Proofs.Ytcfbnjaelniahaa.Js
set_option linter.unusedSimpArgs false
set_option linter.unusedVariables false
open Go.RowKit

theorem min_runI (x y k : Int) (h : k = if x ≤ y then x else y) (ts : Array TypeId) (t : TypeId) (u : World) : (Builtin.min_ ts t #[.int .i64 x, .int .i64 y]).run Try.prog u = .ok (.int .i64 k) u := by
  by_cases h1 : x ≤ y
  · rw [if_pos h1] at h
    subst h
    have h3 : ¬ y < k := by omega
    simp [Builtin.min_, Builtin.min2, List.foldlM]
    try omega
  · rw [if_neg h1] at h
    subst h
    have h3 : k < x := by omega
    simp [Builtin.min_, Builtin.min2, List.foldlM]
    try omega
set_option maxRecDepth 100000 in
set_option maxHeartbeats 4000000 in
theorem escape_any (s : ByteArray) (hs : (s.size : Int) ≤ 1000000) (r a : Nat) (d : Int) (w : World) (h : RD w r s a d 0) (ha : a ≤ s.size) :
    Calls Try.prog 58 #[.pointer (some ⟨r, 0, none⟩)] w fun x w' => x = .returned (byteV (escV (escP (s.data.toList.drop a)))) ∧ ∃ a' : Nat, (a' : Int) ≤ (s.size : Int) + 5 ∧
      (∀ b r', escP (s.data.toList.drop a) = some (b, r') → At s a a' r') ∧
      RD w' r s a' d (escE (escP (s.data.toList.drop a))) ∧ RG r w w' := by
  obtain ⟨X, hX⟩ : ∃ X, X = s.data.toList.drop a := ⟨_, rfl⟩
  have HX := Lib.hid hX
  have HA := Lib.hid ha
  have ht := Try.underlying93
  have hk := Try.underlying5
  rw [← hX]
  have HRD0 := Lib.hid h
  have CK := Lib.hid (fun (u : World) (h : RD u r s a d 0) => look_any s r a d 0 u h)
  have CF := Lib.hid (fun (b : Nat) (u : World) (h : RD u r s b d 0) => fail_any 13 s r b d 0 u h)
  have CS := Lib.hid (fun (u : World) => signs_any u)
  have CL := Lib.hid (fun (c : UInt8) (u : World) => lower_any c u)
  have CI := Lib.hid (fun (c : Int) (u : World) => idxb_any ⟨#[48, 49, 50, 51, 52, 53, 54, 55, 56, 57, 97, 98, 99, 100, 101, 102]⟩ c u)
  have ha' : (a : Int) ≤ (s.size : Int) := by omega
  clear h hX ha
  go_enter Try.func58, Try.ntmps58
  go_wp2_with fail
  refine calls_then (CK.out _ HRD0.out) ?_
  rintro y w1 ⟨rfl, hrd, hrg⟩
  have HRD1 := Lib.hid hrd
  have HRG1 := Lib.hid hrg
  have HLK := Lib.hid (show lookE s a 0 = look X by rw [lookE, if_pos rfl, HX.out])
  obtain ⟨c0, c1, -, -⟩ := hrd.cells
  rw [HLK.out]
  clear hrd hrg
  obtain ⟨c, hc⟩ : ∃ c, c = look X := ⟨_, rfl⟩
  rw [← hc]
  have HC := Lib.hid hc
  obtain ⟨b, hb⟩ : ∃ b, b = a + 1 := ⟨_, rfl⟩
  have HB := Lib.hid hb
  have hbI : (a : Int) + 1 = (b : Int) := by omega
  have HBI := Lib.hid hbI
  clear hc hb hbI
  go_wp2_with (refine wpList_put_cell (x := .tmp 17) (i := 1) HRD1.out rfl rfl rfl rfl (by kernel_rfl) (by simp [rdCells]) rfl ?_; intro w2 hb2 hw2)
  have HRD2 := Lib.hid (show RD w2 r s b d 0 from by
    show Blk w2 r _ #[.string s, .int .i64 ((b : Nat) : Int), .int .i64 d, .int .i64 0]
    rw [← HBI.out]
    exact hb2)
  have HRG2 := Lib.hid (HRG1.out.trans (.wrote hw2))
  clear hb2 hw2 c0 c1 ha'
  refine calls_then (CS.out _) ?_
  rintro y w3 ⟨rfl, hm, hbl⟩
  have HRD3 := Lib.hid (HRD2.out.grow hbl)
  have HRG3 := Lib.hid (HRG2.out.trans (.below hbl))
  obtain ⟨res, hf1, hf2⟩ := signs_found c
  have hz : (zeroValue 5).run Try.prog w3 = .ok (.int .u8 0) w3 := by first | rfl | (simp; done) | kernel_rfl
  have hlk := run_lookup8 (P := Try.prog) (w := w3) true ht hk hm hf1 hz
  rw [if_pos rfl, hf2] at hlk
  clear hbl hm hf1 hf2 hz
  unfold byteV at hlk ⊢
  obtain ⟨z, hzz⟩ : ∃ z : Int, z = ((c.toNat : Nat) : Int) := ⟨_, rfl⟩
  rw [← hzz] at hlk ⊢
  have HZ := Lib.hid hzz
  clear hzz
  cases hesc : esc c with
  | some b1 =>
    have HE := Lib.hid (show escP X = some (b1, X.tail) from escP_esc (by rw [← HC.out]; exact hesc))
    have HLT := Lib.hid (show a < s.size from look_lt (by rw [← HX.out, ← HC.out]; exact esc_low hesc))
    rw [hesc] at hlk
    simp only [] at hlk
    clear hesc
    go_wp2_with fail
    go_ret
    rw [HE.out]
    refine ⟨rfl, b, by have := HLT.out; have := HB.out; omega, fun x r' h => ?_, HRD3.out, HRG3.out⟩
    injection h with h
    injection h with h1 h2
    subst h2
    exact ⟨by have := HB.out; omega, .inr (by have := HLT.out; have := HB.out; omega), by rw [HB.out, drop_tail, ← HX.out]⟩
  | none =>
    have HEN := Lib.hid (show esc (look X) = none by rw [← HC.out]; exact hesc)
    rw [hesc] at hlk
    simp only [] at hlk
    clear hesc
    go_upto_region 6 with (fail)
    clear hlk
    obtain ⟨c0, c1, -, -⟩ := HRD3.out.cells
    obtain ⟨lo, hlo⟩ : ∃ lo : Nat, lo = min b s.size := ⟨_, rfl⟩
    obtain ⟨hi, hhi⟩ : ∃ hi : Nat, hi = min (b + 4) s.size := ⟨_, rfl⟩
    have hb6 : (b : Int) ≤ 1000001 := by have := HB.out; have := HA.out; omega
    have hw4 : wrap64 ((b : Int) + 4) = (b : Int) + 4 := by unfold wrap64; omega
    have hm1 := min_runI (b : Int) (s.size : Int) (lo : Int) (by rw [hlo]; split <;> omega)
    have hm2 := min_runI ((b : Int) + 4) (s.size : Int) (hi : Int) (by rw [hhi]; split <;> omega)
    have hl1 : (lo : Int) ≤ (hi : Int) := by omega
    have hl2 : (hi : Int) ≤ (s.size : Int) := by omega
    have HLO := Lib.hid hlo
    have HHI := Lib.hid hhi
    clear hlo hhi hb6
    go_quiet (fail)
    have HTD := Lib.hid (show (s.extract lo hi).data.toList = X.tail.take 4 by
      rw [Lib.extract_data, HX.out, ← drop_tail, ← HB.out, HLO.out, HHI.out]
      have h5 : s.data.toList.length = s.size := rfl
      by_cases h : b ≤ s.size
      · rw [Nat.min_eq_left h]
        by_cases h4 : b + 4 ≤ s.size
        · rw [Nat.min_eq_left h4, show b + 4 - b = 4 by omega]
        · rw [Nat.min_eq_right (by omega), List.take_of_length_le (by simp <;> omega), List.take_of_length_le (by simp <;> omega)]
      · rw [Nat.min_eq_right (by omega), Nat.min_eq_right (by omega), show s.data.toList.drop b = [] from List.drop_eq_nil_of_le (by show s.size ≤ b; omega)]
        simp)
    have HRD4 := Lib.hid (show RD (w3.drewN nq) r s b d 0 from HRD3.out)
    have HRG4 := Lib.hid (HRG3.out.drewN nq)
    generalize s.extract lo hi = T at *
    generalize w3.drewN nq = w4 at *
    clear hm1 hm2 hl1 hl2 c0 c1
    obtain ⟨c0, c1, -, -⟩ := HRD4.out.cells
    obtain ⟨TT, hTT⟩ : ∃ TT, TT = T.data.toList := ⟨_, rfl⟩
    have HTT := Lib.hid hTT
    have HTX := Lib.hid (show TT = X.tail.take 4 by rw [hTT, HTD.out])
    have HTS := Lib.hid (show T.size = TT.length by rw [hTT]; rfl)
    clear hTT
    go_upto_region 8 with (refine wpList_put_cell (x := .tmp 58) (i := 1) HRD4.out rfl rfl rfl rfl (by kernel_rfl) (by simp [rdCells]) rfl ?_; intro w5 hb5 hw5)
    have HRD5 := Lib.hid (show RD w5 r s (b + 4) d 0 from by
      show Blk w5 r _ #[.string s, .int .i64 ((b + 4 : Nat) : Int), .int .i64 d, .int .i64 0]
      have e : ((b + 4 : Nat) : Int) = (b : Int) + 4 := by omega
      rw [e]
      simp only [hw4] at hb5
      exact hb5)
    have HRG5 := Lib.hid (HRG4.out.trans (.wrote hw5))
    clear hb5 hw5 c0 c1 hw4
    obtain ⟨bad, hbad⟩ : ∃ bad, bad = !(decide (look X = 117) && decide (TT.length = 4) && decide (TT.take 2 = [48, 48])) := ⟨_, rfl⟩
    have HBAD := Lib.hid hbad
    clear hbad
    dsimp only [Act.put]
    by_cases h1 : look X = 117
    case neg =>
      have HN := Lib.hid (show escP X = none from escP_un HTX.out HEN.out (fun h => h1 h.1))
      have hqz : (z == 117) = false := by
        rw [HZ.out, HC.out]
        simp only [beq_eq_false_iff_ne, ne_eq]
        intro h
        exact h1 (UInt8.toNat.inj (by show (look X).toNat = 117; omega))
      have hqz2 : (z != 117) = true := by rw [bne, hqz]; rfl
      clear h1
      go_wp2_with fail
      refine calls_then (CF.out _ _ HRD5.out) ?_
      rintro y w6 ⟨rfl, hrd, hrg⟩
      have HRD6 := Lib.hid (show RD w6 r s (b + 4) d 13 from hrd)
      have HRG6 := Lib.hid (HRG5.out.trans hrg)
      clear hrd hrg
      go_wp2_with fail
      go_ret
      rw [HN.out]
      refine ⟨rfl, b + 4, by have := HA.out; have := HB.out; omega, fun x r' h => ?_, HRD6.out, HRG6.out⟩
      cases h
    case pos =>
    have hz : z = 117 := by rw [HZ.out, HC.out, h1]; rfl
    subst hz
    have H1 := Lib.hid h1
    have hle4 : TT.length ≤ 4 := by rw [HTX.out, List.length_take]; exact Nat.min_le_left _ _
    clear h1
    by_cases h2 : TT.length = 4
    case neg =>
      have HN := Lib.hid (show escP X = none from escP_un HTX.out HEN.out (fun h => h2 h.2.1))
      have ht4 : (T.size : Int) < 4 := by rw [HTS.out]; omega
      clear h2 hle4
      go_wp2_with fail
      refine calls_then (CF.out _ _ HRD5.out) ?_
      rintro y w6 ⟨rfl, hrd, hrg⟩
      have HRD6 := Lib.hid (show RD w6 r s (b + 4) d 13 from hrd)
      have HRG6 := Lib.hid (HRG5.out.trans hrg)
      clear hrd hrg
      go_wp2_with fail
      go_ret
      rw [HN.out]
      refine ⟨rfl, b + 4, by have := HA.out; have := HB.out; omega, fun x r' h => ?_, HRD6.out, HRG6.out⟩
      cases h
    case pos =>
    have ht4 : (4 : Int) = (T.size : Int) := by rw [HTS.out]; omega
    have hts : ¬ (T.size : Int) < 4 := by omega
    have ht2 : (2 : Int) ≤ (T.size : Int) := by omega
    obtain ⟨q3, hq⟩ : ∃ q3, q3 = ((T.extract 0 2).toList == [48, 48]) := ⟨_, rfl⟩
    have HQ := Lib.hid (show q3 = decide (TT.take 2 = [48, 48]) by
      rw [hq, Lib.toList_data, Lib.extract_data, ← HTT.out, Bool.eq_iff_iff, beq_iff_eq, decide_eq_true_iff]
      simp)
    have H2 := Lib.hid h2
    replace hq := hq.symm
    clear h2 hle4 ht4
    cases q3 with
    | false =>
      have HN := Lib.hid (show escP X = none from escP_un HTX.out HEN.out (fun h => by
        have := HQ.out
        rw [h.2.2] at this
        simp at this))
      go_wp2_with fail
      refine calls_then (CF.out _ _ HRD5.out) ?_
      rintro y w6 ⟨rfl, hrd, hrg⟩
      have HRD6 := Lib.hid (show RD w6 r s (b + 4) d 13 from hrd)
      have HRG6 := Lib.hid (HRG5.out.trans hrg)
      clear hrd hrg
      go_wp2_with fail
      go_ret
      rw [HN.out]
      refine ⟨rfl, b + 4, by have := HA.out; have := HB.out; omega, fun x r' h => ?_, HRD6.out, HRG6.out⟩
      cases h
    | true =>
      obtain ⟨x, y, hxy⟩ : ∃ x y, TT = [48, 48, x, y] := by
        have h1 := HQ.out
        have h2 := H2.out
        rw [eq_comm, decide_eq_true_iff] at h1
        match TT, h2, h1 with
        | [a0, a1, a2, a3], _, h1 =>
          simp only [List.take_succ_cons, List.take_zero, List.cons.injEq, and_true] at h1
          obtain ⟨rfl, rfl⟩ := h1
          exact ⟨_, _, rfl⟩
      have hs4 : T.size = 4 := by rw [HTS.out, hxy]; rfl
      have HEU := Lib.hid (escP_u HTX.out HEN.out H1.out hxy)
      have h2s : 2 < T.size := by omega
      have h3s : 3 < T.size := by omega
      have hg2 : T[2]'h2s = x := by
        have h1 : T.data.toList[2]? = some x := by rw [← HTT.out, hxy]; rfl
        have h0 : 2 < T.data.toList.length := by show 2 < T.size; omega
        rw [List.getElem?_eq_getElem h0] at h1
        injection h1
      have hg3 : T[3]'h3s = y := by
        have h1 : T.data.toList[3]? = some y := by rw [← HTT.out, hxy]; rfl
        have h0 : 3 < T.data.toList.length := by show 3 < T.size; omega
        rw [List.getElem?_eq_getElem h0] at h1
        injection h1
      obtain ⟨zx, hzx⟩ : ∃ zx : Int, (((T[2]'h2s).toNat : Nat) : Int) = zx := ⟨_, rfl⟩
      obtain ⟨zy, hzy⟩ : ∃ zy : Int, (((T[3]'h3s).toNat : Nat) : Int) = zy := ⟨_, rfl⟩
      obtain ⟨lx, hlx⟩ : ∃ lx : Int, lx = (((low x).toNat : Nat) : Int) := ⟨_, rfl⟩
      obtain ⟨ly, hly⟩ : ∃ ly : Int, ly = (((low y).toNat : Nat) : Int) := ⟨_, rfl⟩
      obtain ⟨ix, hix⟩ : ∃ ix, ix = hexI x := ⟨_, rfl⟩
      obtain ⟨iy, hiy⟩ : ∃ iy, iy = hexI y := ⟨_, rfl⟩
      have KX := Lib.hid (fun (u : World) => show Calls Try.prog 66 #[.int .u8 zx] u fun e w' => e = .returned (.int .u8 lx) ∧ w' = u by
        have h := CL.out x u
        unfold byteV at h
        rw [← hzx, hg2, hlx]; exact h)
      have KY := Lib.hid (fun (u : World) => show Calls Try.prog 66 #[.int .u8 zy] u fun e w' => e = .returned (.int .u8 ly) ∧ w' = u by
        have h := CL.out y u
        unfold byteV at h
        rw [← hzy, hg3, hly]; exact h)
      have NX := Lib.hid (fun (u : World) => show Calls Try.prog 46 #[.string ⟨#[48, 49, 50, 51, 52, 53, 54, 55, 56, 57, 97, 98, 99, 100, 101, 102]⟩, .int .u8 lx] u fun e w' => e = .returned (.int .i64 ix) ∧ w' = u by
        have h := CI.out lx u
        have e : lx.toNat.toUInt8 = low x := by rw [hlx, Int.toNat_natCast]; simp
        rw [e] at h
        rw [hix]; exact h)
      have NY := Lib.hid (fun (u : World) => show Calls Try.prog 46 #[.string ⟨#[48, 49, 50, 51, 52, 53, 54, 55, 56, 57, 97, 98, 99, 100, 101, 102]⟩, .int .u8 ly] u fun e w' => e = .returned (.int .i64 iy) ∧ w' = u by
        have h := CI.out ly u
        have e : ly.toNat.toUInt8 = low y := by rw [hly, Int.toNat_natCast]; simp
        rw [e] at h
        rw [hiy]; exact h)
      have HXR := Lib.hid (show -1 ≤ ix ∧ ix ≤ 15 by rw [hix]; exact hexI_range x)
      have HYR := Lib.hid (show -1 ≤ iy ∧ iy ≤ 15 by rw [hiy]; exact hexI_range y)
      have HIX := Lib.hid hix
      have HIY := Lib.hid hiy
      have ht3 : (3 : Int) < (T.size : Int) := by omega
      have ht22 : (2 : Int) < (T.size : Int) := by omega
      clear hs4 hg2 hg3 hlx hly hix hiy hxy
      go_wp2_with fail
      refine calls_then (KX.out _) ?_
      rintro e w6 ⟨rfl, rfl⟩
      go_wp2_with fail
      refine calls_then (NX.out _) ?_
      rintro e w6 ⟨rfl, rfl⟩
      go_wp2_with fail
      refine calls_then (KY.out _) ?_
      rintro e w6 ⟨rfl, rfl⟩
      go_wp2_with fail
      refine calls_then (NY.out _) ?_
      rintro e w6 ⟨rfl, rfl⟩
      obtain ⟨hx1, hx2⟩ := HXR.out
      obtain ⟨hy1, hy2⟩ := HYR.out
      cases hbx : hexBad ix iy with
      | true =>
        have HN := Lib.hid (show escP X = none by rw [HEU.out, hexP_no x y (by rw [← HIX.out, ← HIY.out]; exact hbx)])
        have hor : ix < 0 ∨ (¬ ix < 0 ∧ iy < 0) ∨ (¬ ix < 0 ∧ ¬ iy < 0 ∧ 126 < 16 * ix + iy) := by
          simp only [hexBad, Bool.or_eq_true, decide_eq_true_eq] at hbx
          omega
        clear hbx
        rcases hor with h1 | ⟨h1, h2⟩ | ⟨h1, h2, h3⟩
        · skip
          go_wp2_with fail
          refine calls_then (CF.out _ _ HRD5.out) ?_
          rintro y w6 ⟨rfl, hrd, hrg⟩
          have HRD6 := Lib.hid (show RD w6 r s (b + 4) d 13 from hrd)
          have HRG6 := Lib.hid (HRG5.out.trans hrg)
          clear hrd hrg
          go_wp2_with fail
          go_ret
          rw [HN.out]
          refine ⟨rfl, b + 4, by have := HA.out; have := HB.out; omega, fun x r' h => ?_, HRD6.out, HRG6.out⟩
          cases h
        · skip
          go_wp2_with fail
          refine calls_then (CF.out _ _ HRD5.out) ?_
          rintro y w6 ⟨rfl, hrd, hrg⟩
          have HRD6 := Lib.hid (show RD w6 r s (b + 4) d 13 from hrd)
          have HRG6 := Lib.hid (HRG5.out.trans hrg)
          clear hrd hrg
          go_wp2_with fail
          go_ret
          rw [HN.out]
          refine ⟨rfl, b + 4, by have := HA.out; have := HB.out; omega, fun x r' h => ?_, HRD6.out, HRG6.out⟩
          cases h
        · skip
          go_wp2_with fail
          refine calls_then (CF.out _ _ HRD5.out) ?_
          rintro y w6 ⟨rfl, hrd, hrg⟩
          have HRD6 := Lib.hid (show RD w6 r s (b + 4) d 13 from hrd)
          have HRG6 := Lib.hid (HRG5.out.trans hrg)
          clear hrd hrg
          go_wp2_with fail
          go_ret
          rw [HN.out]
          refine ⟨rfl, b + 4, by have := HA.out; have := HB.out; omega, fun x r' h => ?_, HRD6.out, HRG6.out⟩
          cases h
      | false =>
        obtain ⟨hp1, hp2, hp3, hp4⟩ := hexP_yes x y (by rw [← HIX.out, ← HIY.out]; exact hbx)
        have HE := Lib.hid (show escP X = some (UInt8.ofNat (16 * ix + iy).toNat, X.drop 5) by rw [HEU.out, hp4, HIX.out, HIY.out])
        rw [← HIX.out] at hp1 hp3
        rw [← HIY.out] at hp2 hp3
        have h1 : ¬ ix < 0 := by omega
        have h2 : ¬ iy < 0 := by omega
        have h3 : ¬ 126 < 16 * ix + iy := by omega
        clear hbx hp4
        have hle : a + 5 ≤ s.size := by
          have h4 := H2.out
          rw [HTX.out, List.length_take, List.length_tail, HX.out, List.length_drop] at h4
          have h5 : s.data.toList.length = s.size := rfl
          omega
        have HLE := Lib.hid hle
        have hv : (16 * ix + iy) = (((UInt8.ofNat (16 * ix + iy).toNat).toNat : Nat) : Int) := by
          rw [UInt8.toNat_ofNat']
          omega
        have HV := Lib.hid hv
        clear hv hle
        go_wp2_with fail
        go_ret
        rw [HE.out]
        refine ⟨?_, b + 4, by have := HLE.out; have := HB.out; omega, fun c1 r' h => ?_, HRD5.out, HRG5.out⟩
        · show Ending.returned (Value.int IntKind.u8 (16 * ix + iy)) = .returned (.int .u8 (((UInt8.ofNat (16 * ix + iy).toNat).toNat : Nat) : Int))
          rw [← HV.out]
        · injection h with h
          injection h with h1 h2
          subst h2
          have hb5 : b + 4 = a + 5 := by have := HB.out; omega
          exact ⟨by omega, .inr (by have := HLE.out; omega), by rw [hb5, HX.out, List.drop_drop]⟩
end Go.Proofs.Ytcfbnjaelniahaa.Js
