/-
  Joined texts: Blk32.
-/
import Derived.Test.YtilhhigdegccgaaDoorJ16
import Derived.Test.YtilhhigdegccgaaDoorJ15
import Derived.Test.YtilhhigdegccgaaDoorJ9
import Derived.Test.YtilhhigdegccgaaDoorJ10
/-
  Walk: the reference's block, words of 32 bits.
-/
namespace Go.Proofs.YtilhhigdegccgaaDoor.Sh
set_option linter.unusedSimpArgs false
set_option linter.unusedVariables false
open Go.RowKit
set_option maxRecDepth 100000 in
set_option maxHeartbeats 4000000 in
theorem block32_any (p : HP) (S : S8) (blk : List UInt8) (bA sA : Option Addr) (bc sc B : Nat) (w : World) (hok : HOk F32 p w B) (hB : B ≤ w.heap.size) (hrb : Rd w B bA (bytesV blk)) (hrs : Rd w B sA (wordsV .u64 (s8L S)))
    (hbl : blk.length = 64) (hbc : blk.length ≤ bc) (hsc : 8 ≤ sc) (hS : S.Lt (2 ^ 32)) :
    Calls Tryd.prog 79 #[.agg (hv F32 p), .slice sA 8 sc, .slice bA blk.length bc] w (BlockPost F32 S blk w) := by
  obtain ⟨W0, hW0⟩ : ∃ W0, W0 = w.alloc (.cells (hv F32 p) 108) := ⟨_, rfl⟩
  have hst : BkSt w w.heap.size F32 p bA blk sA S W0 := by
    have hb := below_new w (.cells (hv F32 p) 108)
    rw [hW0]; exact ⟨hb, Blk.new _ _ _, (hok.mono hB).below hb, (hrb.mono hB).below hb, (hrs.mono hB).below hb⟩
  obtain ⟨sad, rfl, hz1, hz2⟩ := hrs.at_ (k := 0) (by simp [wordsV, s8L])
  obtain ⟨bad, rfl, hz3, hz4⟩ := hrb.at_ (k := 0) (by rw [bytesV_length, hbl]; decide)
  clear hz1 hz2 hz3 hz4
  have hst0 := hst
  rw [hW0] at hst0
  have HST := Lib.hid hst0
  have HBL := Lib.hid hbl
  have HS := Lib.hid hS
  have hbc2 : 64 ≤ bc := by omega
  rw [hbl]
  obtain ⟨hh, hhh⟩ : ∃ hh, hh = hv F32 p := ⟨_, rfl⟩
  obtain ⟨gf, hgf⟩ : ∃ gf, gf = w.heap.size := ⟨_, rfl⟩
  have c0 := hst.h.cell 0
  have c1 := hst.h.cell 1
  rw [hW0, ← hgf] at c0 c1
  simp only [hv, hC, List.getElem?_toArray, List.getElem?_cons_zero, List.getElem?_cons_succ] at c0 c1
  rw [← hgf] at hst0
  clear HST
  have HST := Lib.hid hst0
  have HH := Lib.hid hhh
  have HGF := Lib.hid hgf
  clear hst hst0 hbl hS hok hB hrb hrs hbc hW0 hhh hgf W0 c0 c1
  go_enter Tryd.func79, Tryd.ntmps79
  go_wp2
  rw [show w.heap.size = gf from HGF.out.symm]
  have hst0 := HST.out
  have hown0 : OwnX (w.alloc (.cells (hv F32 p) 108)) (gf + 1) 114 1 (.slice none 0 0) 0 (wordsV .u64 (rowW F32 blk 0)) := OwnX.nil _ _ _ _
  clear HST
  go_loopw [7, 8] (fun v i wr => ∃ (t : Nat) (A : Option Addr) (c : Nat), t ≤ 16 ∧ i = .int .i64 t ∧ v = .slice A t c ∧ BkSt w gf F32 p (some bad) blk (some sad) S wr ∧ OwnX wr (gf + 1) 114 1 (.slice A t c) t (wordsV .u64 (rowW F32 blk t))) (fun _ i _ => 16 - (intOf i).toNat)
  case atStart => exact ⟨0, none, 0, by omega, rfl, rfl, hst0, hown0⟩
  case round =>
    obtain ⟨t, A, c, ht, rfl, rfl, hst, hown⟩ := hrel
    clear hst0 hown0
    have c0 := hst.h.cell 0
    simp only [hv, hC, List.getElem?_toArray, List.getElem?_cons_zero, F32] at c0
    by_cases hlt : t < 16
    · have hlt' : (t : Int) < 16 := by omega
      obtain ⟨tE, htE⟩ : ∃ tE : Nat, tE = t * 4 := ⟨_, rfl⟩
      have hq : (t : Int) * 32 / 8 = (tE : Int) := by omega
      obtain ⟨pc, hpc⟩ : ∃ x, x = (blk.drop tE).take 4 := ⟨_, rfl⟩
      have hpl : pc.length = 4 := by rw [hpc]; simp; rw [HBL.out]; omega
      have hrp : ∀ u, BkSt w gf F32 p (some bad) blk (some sad) S u → ∀ j z, pc[j]? = some z → u.cell? (bad.add (tE + j)) = some (.int .u8 (z.toNat : Int)) := fun u hu j z hz => by
        refine hu.rb.val ?_
        rw [hpc, List.getElem?_take] at hz
        split at hz
        · rw [List.getElem?_drop] at hz
          rw [bytesV, List.getElem?_map, hz]; rfl
        · cases hz
      have HST := Lib.hid hst
      have HOWN := Lib.hid hown
      have HPC := Lib.hid hpc
      have HPL := Lib.hid hpl
      have HRP := Lib.hid hrp
      have HTE := Lib.hid htE
      have htE2 : tE ≤ 64 - 4 := by omega
      clear hst hown hpc hpl hrp htE
      go_wp2_with fail
      obtain ⟨wo, rfl⟩ : ∃ wo : World, wo = wr := ⟨_, rfl⟩
      go_loop [9, 10] (fun v i => ∃ j : Nat, j ≤ 4 ∧ i = .int .i64 j ∧ v = .int .u64 (beN (pc.take j) : Nat)) (fun _ i => 4 - (intOf i).toNat)
      case atStart => exact ⟨0, by omega, rfl, rfl⟩
      case round =>
        obtain ⟨j, hj, rfl, rfl⟩ := hrel
        obtain ⟨x, hx⟩ : ∃ x, x = beN (pc.take j) := ⟨_, rfl⟩
        rw [← hx]
        by_cases hjl : j < 4
        · have hjl' : (j : Int) < 4 := by omega
          have hpj : j < pc.length := by rw [HPL.out]; exact hjl
          obtain ⟨z, hz⟩ : ∃ z, z = pc[j] := ⟨_, rfl⟩
          have hcl := HRP.out _ HST.out j z (by rw [hz]; exact List.getElem?_eq_getElem hpj)
          have hzl := z.toNat_lt
          have hxl : x < 256 ^ (4 - 1) := by
            rw [hx]
            have h1 := beN_lt (pc.take j)
            have h2 : (pc.take j).length ≤ j := List.length_take_le _ _
            exact Nat.lt_of_lt_of_le h1 (Nat.pow_le_pow_right (by omega) (by omega))
          have hs2 : beN (pc.take (j + 1)) = x * 256 + z.toNat := by
            rw [List.take_succ_eq_append_getElem hpj, beN_snoc, hx, hz]
          have hb1 : (x : Int) * 256 + (z.toNat : Int) < 18446744073709551616 := by omega
          have hb2 : (x : Int) * 256 < 18446744073709551616 := by omega
          obtain ⟨ix, hix⟩ : ∃ ix, ix = tE + j := ⟨_, rfl⟩
          have hlx : tE + j < 64 := by omega
          have HS2 := Lib.hid hs2
          clear hx hz hs2 hpj hxl hix
          go_wp2_with fail
          exact ⟨⟨j + 1, by omega, by go_num, by rw [HS2.out]; go_num⟩, by simp [intOf]; omega⟩
        · have hge : ¬ (j : Int) < 4 := by omega
          obtain rfl : j = 4 := by omega
          have hpc2 : pieceN (F32.bits / 8) blk t = x := by rw [hx, List.take_of_length_le (by rw [HPL.out]; omega), HPC.out, HTE.out]; rfl
          have HX := Lib.hid hpc2
          clear hx hpc2
          go_wp2_with (refine wpList_append_one sl_u64 rfl rfl HOWN.out rfl rfl rfl rfl (by unfold maxLen; omega) (by omega) (by have := HST.out.h.lt; omega) ?_; intro A2 c2 w2 hown2 hg2 hn2; have HOWN2 := Lib.hid hown2; have HG2 := Lib.hid hg2; clear hown2 hg2 hn2)
          refine ⟨⟨t + 1, A2, c2, by omega, by go_num, rfl, HST.out.grow HOWN.out HG2.out, ?_⟩, by simp [intOf]; omega⟩
          rw [rowW, if_pos hlt, HX.out, wordsV_snoc]
          exact HOWN2.out
    · obtain rfl : t = 16 := by omega
      have hsw : BkW w gf F32 p (some bad) blk (some sad) S (.slice A 16 c) (rowW F32 blk 16) wr := ⟨hst, by rw [rowW_length]; exact hown⟩
      clear hst hown
      go_wp2_with fail
      rw [show ((16 : Nat) : Int) = 16 from rfl]
      obtain ⟨wo, rfl⟩ : ∃ wo : World, wo = wr := ⟨_, rfl⟩
      go_loopw [7, 11] (fun v i wr => ∃ (t : Nat) (A : Option Addr) (c : Nat), 16 ≤ t ∧ t ≤ 64 ∧ i = .int .i64 t ∧ v = .slice A t c ∧ BkW w gf F32 p (some bad) blk (some sad) S (.slice A t c) (rowW F32 blk t) wr) (fun _ i _ => 64 - (intOf i).toNat)
      case atStart => exact ⟨16, A, c, by omega, by omega, rfl, rfl, hsw⟩
      case round =>
        clear hsw
        clear c0
        obtain ⟨t, A, c, ht16, htM, rfl, rfl, hsw⟩ := hrel
        have c1 := hsw.st.h.cell 1
        simp only [hv, hC, List.getElem?_toArray, List.getElem?_cons_zero, List.getElem?_cons_succ, F32] at c1
        by_cases hlt : t < 64
        · have hlt' : (t : Int) < 64 := by omega
          obtain ⟨g, rfl, hgb, hgl⟩ := (show OwnX wr (gf + 1) 114 1 (.slice A t c) t (wordsV .u64 (rowW F32 blk t)) by have := hsw.own; rwa [rowW_length] at this).ptr (by omega)
          have hct : t ≤ c := by
            have ho : OwnX wr (gf + 1) 114 1 (.slice (some ⟨g, 0, none⟩) t c) t (wordsV .u64 (rowW F32 blk t)) := by have := hsw.own; rwa [rowW_length] at this
            exact ho.le_cap
          obtain ⟨l, hl⟩ : ∃ l, l = rowW F32 blk t := ⟨_, rfl⟩
          have hlen : l.length = t := by rw [hl]; exact rowW_length _ _ _
          have hlw : ∀ i, l.getD i 0 < 2 ^ 32 := by rw [hl]; exact getD_lt (rowW_lt F32 (by decide) blk t) (by decide)
          rw [← hl] at hsw
          obtain ⟨a16, h16⟩ : ∃ x, x = l.getD (t - 16) 0 := ⟨_, rfl⟩
          obtain ⟨a15, h15⟩ : ∃ x, x = l.getD (t - 15) 0 := ⟨_, rfl⟩
          obtain ⟨a7, h7⟩ : ∃ x, x = l.getD (t - 7) 0 := ⟨_, rfl⟩
          obtain ⟨a2, h2⟩ : ∃ x, x = l.getD (t - 2) 0 := ⟨_, rfl⟩
          obtain ⟨m1, hm1⟩ : ∃ x, x = allF F32 a15 F32.t0 true := ⟨_, rfl⟩
          obtain ⟨m2, hm2⟩ : ∃ x, x = allF F32 a2 F32.t1 true := ⟨_, rfl⟩
          obtain ⟨s1, hs1⟩ : ∃ x, x = (a16 + m1) % 2 ^ 64 := ⟨_, rfl⟩
          obtain ⟨s2, hs2⟩ : ∃ x, x = (s1 + a7) % 2 ^ 64 := ⟨_, rfl⟩
          obtain ⟨s3, hs3⟩ : ∃ x, x = (s2 + m2) % 2 ^ 64 := ⟨_, rfl⟩
          have W15 : Hid (a15 < 2 ^ 32) := Lib.hid (by rw [h15]; exact hlw _)
          have W2 : Hid (a2 < 2 ^ 32) := Lib.hid (by rw [h2]; exact hlw _)
          have hnw : nextW F32 l t = s3 % 2 ^ 32 := by rw [hs3, hs2, hs1, hm1, hm2, h16, h15, h7, h2]; exact next_32 _ _ _ _
          have hs3l : s3 < 18446744073709551616 := by rw [hs3]; exact Nat.mod_lt _ (by decide)
          have HL := Lib.hid hl
          have HLEN := Lib.hid hlen
          have H16 := Lib.hid h16
          have H15 := Lib.hid h15
          have H7 := Lib.hid h7
          have H2 := Lib.hid h2
          have HM1 := Lib.hid hm1
          have HM2 := Lib.hid hm2
          have HS1 := Lib.hid hs1
          have HS2 := Lib.hid hs2
          have HS3 := Lib.hid hs3
          have HNW := Lib.hid hnw
          have HS3L := Lib.hid hs3l
          clear hl hlen hlw h16 h15 h7 h2 hm1 hm2 hs1 hs2 hs3 hnw hs3l
          have hu := Tryd.underlying108
          have HC0 := hsw.drew
          have HSW := Lib.hid hsw
          clear hsw
          go_wp2_with fail
          refine wp_region_seq (fun u => BkW w gf F32 p (some bad) blk (some sad) S (.slice (some ⟨g, 0, none⟩) t c) l u) (by kernel_rfl) (by kernel_rfl) HC0 ?_
          iterate 4
            ((first | (apply SeqL.next; rfl; rfl)); (simp only [act_put, act_put_none, List.setIfInBounds_toArray, List.set_cons_zero, List.set_cons_succ]; rfl); (intro w1 hC1 E hE; go_wp2; exact .mk (hE _ hC1)))
          apply SeqL.next
          · rfl
          · rfl
          · simp only [act_put, act_put_none, List.setIfInBounds_toArray, List.set_cons_zero, List.set_cons_succ]
            rfl
          · intro w1 hC1 E hE
            have d0 := hC1.at_ (i := t - 16) HLEN.out (by omega)
            rw [← H16.out] at d0
            go_wp2
            exact .mk (hE _ hC1)
          apply SeqL.next
          · rfl
          · rfl
          · simp only [act_put, act_put_none, List.setIfInBounds_toArray, List.set_cons_zero, List.set_cons_succ]
            rfl
          · intro w1 hC1 E hE
            refine wpList_get_box hC1.st.h rfl rfl rfl hu rfl h_size ?_
            go_wp2_with fail
            exact .mk (hE _ hC1)
          iterate 4
            ((first | (apply SeqL.next; rfl; rfl)); (simp only [act_put, act_put_none, List.setIfInBounds_toArray, List.set_cons_zero, List.set_cons_succ]; rfl); (intro w1 hC1 E hE; go_wp2; exact .mk (hE _ hC1)))
          apply SeqL.next
          · rfl
          · rfl
          · simp only [act_put, act_put_none, List.setIfInBounds_toArray, List.set_cons_zero, List.set_cons_succ]
            rfl
          · intro w1 hC1 E hE
            have d0 := hC1.at_ (i := t - 15) HLEN.out (by omega)
            rw [← H15.out] at d0
            go_wp2
            exact .mk (hE _ hC1)
          iterate 1
            ((first | (apply SeqL.next; rfl; rfl)); (simp only [act_put, act_put_none, List.setIfInBounds_toArray, List.set_cons_zero, List.set_cons_succ]; rfl); (intro w1 hC1 E hE; go_wp2; exact .mk (hE _ hC1)))
          apply SeqL.next
          · rfl
          · rfl
          · simp only [act_put, act_put_none, List.setIfInBounds_toArray, List.set_cons_zero, List.set_cons_succ]
            rfl
          · intro w1 hC1 E hE
            have d0 := hC1.st.h.cell 4
            simp [hv, hC] at d0
            go_wp2
            exact .mk (hE _ hC1)
          apply SeqL.next
          · rfl
          · rfl
          · simp only [act_put, act_put_none, List.setIfInBounds_toArray, List.set_cons_zero, List.set_cons_succ]
            rfl
          · intro w1 hC1 E hE
            go_wp2_with fail
            refine calls_then (mixed_any 32 64 _ _ _ _ _ _ _ (.inl rfl) a15 _ _ _ true W15.out (by decide) (by decide) (by decide) _ _ gf hC1.st.ok.c (by have := hC1.st.h.lt; omega) hC1.st.ok.cc) ?_
            rintro e w2 ⟨rfl, hb2⟩
            rw [show allN 32 a15 _ _ _ true = m1 from HM1.out.symm]
            go_wp2_with fail
            exact .mk (hE _ (hC1.next hb2))
          apply SeqL.next
          · rfl
          · rfl
          · simp only [act_put, act_put_none, List.setIfInBounds_toArray, List.set_cons_zero, List.set_cons_succ]
            rfl
          · intro w1 hC1 E hE
            go_wp2
            rw [add2_64 a16 m1, ← HS1.out]
            exact .mk (hE _ hC1)
          iterate 4
            ((first | (apply SeqL.next; rfl; rfl)); (simp only [act_put, act_put_none, List.setIfInBounds_toArray, List.set_cons_zero, List.set_cons_succ]; rfl); (intro w1 hC1 E hE; go_wp2; exact .mk (hE _ hC1)))
          apply SeqL.next
          · rfl
          · rfl
          · simp only [act_put, act_put_none, List.setIfInBounds_toArray, List.set_cons_zero, List.set_cons_succ]
            rfl
          · intro w1 hC1 E hE
            have d0 := hC1.at_ (i := t - 7) HLEN.out (by omega)
            rw [← H7.out] at d0
            go_wp2
            exact .mk (hE _ hC1)
          apply SeqL.next
          · rfl
          · rfl
          · simp only [act_put, act_put_none, List.setIfInBounds_toArray, List.set_cons_zero, List.set_cons_succ]
            rfl
          · intro w1 hC1 E hE
            go_wp2
            rw [add2_64 s1 a7, ← HS2.out]
            exact .mk (hE _ hC1)
          apply SeqL.next
          · rfl
          · rfl
          · simp only [act_put, act_put_none, List.setIfInBounds_toArray, List.set_cons_zero, List.set_cons_succ]
            rfl
          · intro w1 hC1 E hE
            refine wpList_get_box hC1.st.h rfl rfl rfl hu rfl h_size ?_
            go_wp2_with fail
            exact .mk (hE _ hC1)
          iterate 4
            ((first | (apply SeqL.next; rfl; rfl)); (simp only [act_put, act_put_none, List.setIfInBounds_toArray, List.set_cons_zero, List.set_cons_succ]; rfl); (intro w1 hC1 E hE; go_wp2; exact .mk (hE _ hC1)))
          apply SeqL.next
          · rfl
          · rfl
          · simp only [act_put, act_put_none, List.setIfInBounds_toArray, List.set_cons_zero, List.set_cons_succ]
            rfl
          · intro w1 hC1 E hE
            have d0 := hC1.at_ (i := t - 2) HLEN.out (by omega)
            rw [← H2.out] at d0
            go_wp2
            exact .mk (hE _ hC1)
          iterate 1
            ((first | (apply SeqL.next; rfl; rfl)); (simp only [act_put, act_put_none, List.setIfInBounds_toArray, List.set_cons_zero, List.set_cons_succ]; rfl); (intro w1 hC1 E hE; go_wp2; exact .mk (hE _ hC1)))
          apply SeqL.next
          · rfl
          · rfl
          · simp only [act_put, act_put_none, List.setIfInBounds_toArray, List.set_cons_zero, List.set_cons_succ]
            rfl
          · intro w1 hC1 E hE
            have d0 := hC1.st.h.cell 5
            simp [hv, hC] at d0
            go_wp2
            exact .mk (hE _ hC1)
          apply SeqL.next
          · rfl
          · rfl
          · simp only [act_put, act_put_none, List.setIfInBounds_toArray, List.set_cons_zero, List.set_cons_succ]
            rfl
          · intro w1 hC1 E hE
            go_wp2_with fail
            refine calls_then (mixed_any 32 64 _ _ _ _ _ _ _ (.inl rfl) a2 _ _ _ true W2.out (by decide) (by decide) (by decide) _ _ gf hC1.st.ok.d (by have := hC1.st.h.lt; omega) hC1.st.ok.cd) ?_
            rintro e w2 ⟨rfl, hb2⟩
            rw [show allN 32 a2 _ _ _ true = m2 from HM2.out.symm]
            go_wp2_with fail
            exact .mk (hE _ (hC1.next hb2))
          apply SeqL.next
          · rfl
          · rfl
          · simp only [act_put, act_put_none, List.setIfInBounds_toArray, List.set_cons_zero, List.set_cons_succ]
            rfl
          · intro w1 hC1 E hE
            go_wp2
            rw [add2_64 s2 m2, ← HS3.out]
            exact .mk (hE _ hC1)
          iterate 1
            ((first | (apply SeqL.next; rfl; rfl)); (simp only [act_put, act_put_none, List.setIfInBounds_toArray, List.set_cons_zero, List.set_cons_succ]; rfl); (intro w1 hC1 E hE; go_wp2; exact .mk (hE _ hC1)))
          refine SeqL.nil ?_
          intro w1 hC1
          clear HC0
          have HC1 := Lib.hid hC1
          clear hC1 HSW
          go_wp2_with (refine wpList_get_box (x := .tmp 3) HC1.out.st.h rfl rfl rfl hu rfl h_size ?_)
          obtain ⟨nv, hnv⟩ : ∃ x, x = s3 % 2 ^ 32 := ⟨_, rfl⟩
          refine calls_then (low_any 32 64 _ _ _ _ _ _ _ (.inl rfl) s3 HS3L.out) ?_
          rintro e w2 ⟨rfl, hb2⟩
          rw [← hnv]
          have hw2 := HC1.out.next hb2
          have HO2 : Hid (OwnX w2 (gf + 1) 114 1 (.slice (some ⟨g, 0, none⟩) t c) t (wordsV .u64 l)) := Lib.hid (by have := hw2.own; rwa [HLEN.out] at this)
          have HW2 := Lib.hid hw2
          have HNV := Lib.hid hnv
          clear hw2 hb2 hnv HC1
          go_wp2_with (refine wpList_append_one sl_u64 rfl rfl HO2.out rfl rfl rfl rfl (by unfold maxLen; omega) (by omega) (by have := HW2.out.st.h.lt; omega) ?_; intro A3 c3 w3 hown3 hg3 hn3; have HOWN3 := Lib.hid hown3; have HG3 := Lib.hid hg3; clear hown3 hg3 hn3)
          refine ⟨⟨t + 1, A3, c3, by omega, by omega, by go_num, rfl, ?_⟩, by simp [intOf]; omega⟩
          have h := HW2.out.app (v' := .slice A3 (t + 1) c3) (x := nv) (by rw [HLEN.out]; exact HOWN3.out) HG3.out
          rw [rowW, if_neg (show ¬ t < 16 by omega), ← HL.out, HNW.out, ← HNV.out]
          exact h
        · obtain rfl : t = 64 := by omega
          obtain ⟨g, rfl, hgb, hgl⟩ := (show OwnX wr (gf + 1) 114 1 (.slice A 64 c) 64 (wordsV .u64 (rowW F32 blk 64)) by have := hsw.own; rwa [rowW_length] at this).ptr (by omega)
          have hct : 64 ≤ c := by
            have ho : OwnX wr (gf + 1) 114 1 (.slice (some ⟨g, 0, none⟩) 64 c) 64 (wordsV .u64 (rowW F32 blk 64)) := by have := hsw.own; rwa [rowW_length] at this
            exact ho.le_cap
          obtain ⟨RW, hRW⟩ : ∃ x, x = rowW F32 blk 64 := ⟨_, rfl⟩
          have hlen : RW.length = 64 := by rw [hRW]; exact rowW_length _ _ _
          have hlw : ∀ i, RW.getD i 0 < 2 ^ 32 := by rw [hRW]; exact getD_lt (rowW_lt F32 (by decide) blk 64) (by decide)
          rw [← hRW] at hsw
          have hwx : (wordsV .u64 (s8L S)).length = 8 := rfl
          have HSW := Lib.hid hsw
          have HLEN := Lib.hid hlen
          have HRW := Lib.hid hRW
          have HLW := Lib.hid hlw
          clear hsw hlen hRW hlw
          go_wp2_with (refine wpList_append_rd (base := gf + 1) (n := 0) (v := .slice none 0 0) (xs := []) (news := wordsV .u64 (s8L S)) sl_u64 rfl rfl (OwnX.nil _ _ _ _) rfl rfl rfl HSW.out.st.rs (by intro u hu; simp [wordsV] at hu; obtain ⟨_, _, rfl⟩ := hu; rfl) (by unfold maxLen; omega) (by omega) (by have := HSW.out.st.h.lt; omega) ?_; intro A4 c4 w4 hown4 hg4 hn4; have HOWN4 := Lib.hid hown4; have HG4 := Lib.hid hg4; clear hown4 hg4 hn4)
          obtain ⟨g2, rfl, hgb2, hgl2⟩ := (show OwnX w4 (gf + 1) 114 1 (.slice A4 8 c4) 8 (wordsV .u64 (s8L S)) by simpa using HOWN4.out).ptr (by omega)
          have hsr : BkR w gf F32 p (some bad) blk (some sad) S (.slice (some ⟨g, 0, none⟩) 64 c) RW g2 c4 (mixTo F32 RW S 0) w4 := by
            have hnx := HSW.out.own
            have hg5 := HG4.out
            refine ⟨⟨HSW.out.st.keep (below_of_grown hg5 (by have := HSW.out.st.h.lt; omega) (by intro k hk; simp [Value.ownBlock] at hk)), hnx.kept hg5 (.inr (by simp [Value.ownBlock]))⟩, ?_⟩
            show OwnX w4 (gf + 1) 114 1 (.slice (some ⟨g2, 0, none⟩) 8 c4) 8 (wordsV .u64 (s8L S))
            simpa using HOWN4.out
          have HSR := Lib.hid hsr
          clear hsr HOWN4 HG4 HSW c1 hgb hgl hgb2 hgl2
          obtain ⟨wo2, rfl⟩ : ∃ wo2 : World, wo2 = w4 := ⟨_, rfl⟩
          go_wp2_with fail
          go_loopw [13, 14] (fun v i wr => ∃ t g2 c2 : Nat, t ≤ 64 ∧ i = .int .i64 t ∧ v = .slice (some ⟨g2, 0, none⟩) 8 c2 ∧ BkR w gf F32 p (some bad) blk (some sad) S (.slice (some ⟨g, 0, none⟩) 64 c) RW g2 c2 (mixTo F32 RW S t) wr) (fun _ i _ => 64 - (intOf i).toNat)
          case atStart => exact ⟨0, g2, c4, by omega, rfl, rfl, HSR.out⟩
          case round =>
            obtain ⟨t, g2, c2, ht, rfl, rfl, hsr⟩ := hrel
            have c1 := hsr.w.st.h.cell 1
            simp only [hv, hC, List.getElem?_toArray, List.getElem?_cons_zero, List.getElem?_cons_succ, F32] at c1
            have hc8 := hsr.le
            by_cases hlt : t < 64
            · have hlt' : (t : Int) < 64 := by omega
              obtain ⟨vv, hvv⟩ : ∃ x, x = mixTo F32 RW S t := ⟨_, rfl⟩
              have hvl : vv.Lt (2 ^ 32) := by rw [hvv]; exact mixTo_lt HS.out t
              rw [← hvv] at hsr
              have HVV := Lib.hid hvv
              obtain ⟨va, vb, vc, vd, ve, vf, vg, vh⟩ := vv
              have HL8 := Lib.hid hvl
              obtain ⟨wk, hwk⟩ : ∃ x, x = RW.getD t 0 := ⟨_, rfl⟩
              obtain ⟨kk, hkk⟩ : ∃ x, x = kN F32 t := ⟨_, rfl⟩
              obtain ⟨big, hbig⟩ : ∃ x : Nat, x = 18446744073709551615 := ⟨_, rfl⟩
              obtain ⟨on, hon⟩ : ∃ x, x = big % 2 ^ 32 := ⟨_, rfl⟩
              obtain ⟨XA, hXA⟩ : ∃ x, x = allF F32 ve F32.s1 false := ⟨_, rfl⟩
              obtain ⟨p1, hp1⟩ : ∃ x, x = (vh + XA) % 2 ^ 64 := ⟨_, rfl⟩
              obtain ⟨af, haf⟩ : ∃ x, x = ve &&& vf := ⟨_, rfl⟩
              obtain ⟨ne, hne⟩ : ∃ x, x = on ^^^ ve := ⟨_, rfl⟩
              obtain ⟨ng, hng⟩ : ∃ x, x = ne &&& vg := ⟨_, rfl⟩
              obtain ⟨ch, hch⟩ : ∃ x, x = af ^^^ ng := ⟨_, rfl⟩
              obtain ⟨p2, hp2⟩ : ∃ x, x = (p1 + ch) % 2 ^ 64 := ⟨_, rfl⟩
              obtain ⟨p3, hp3⟩ : ∃ x, x = (p2 + kk) % 2 ^ 64 := ⟨_, rfl⟩
              obtain ⟨p4, hp4⟩ : ∃ x, x = (p3 + wk) % 2 ^ 64 := ⟨_, rfl⟩
              obtain ⟨xx, hxx⟩ : ∃ x, x = p4 % 2 ^ 32 := ⟨_, rfl⟩
              obtain ⟨YA, hYA⟩ : ∃ x, x = allF F32 va F32.s0 false := ⟨_, rfl⟩
              obtain ⟨ab, hab⟩ : ∃ x, x = va &&& vb := ⟨_, rfl⟩
              obtain ⟨ac, hac⟩ : ∃ x, x = va &&& vc := ⟨_, rfl⟩
              obtain ⟨bc2, hbc2'⟩ : ∃ x, x = vb &&& vc := ⟨_, rfl⟩
              obtain ⟨x1, hx1⟩ : ∃ x, x = ab ^^^ ac := ⟨_, rfl⟩
              obtain ⟨mj, hmj⟩ : ∃ x, x = x1 ^^^ bc2 := ⟨_, rfl⟩
              obtain ⟨q1, hq1⟩ : ∃ x, x = (YA + mj) % 2 ^ 64 := ⟨_, rfl⟩
              obtain ⟨yy, hyy⟩ : ∃ x, x = q1 % 2 ^ 32 := ⟨_, rfl⟩
              obtain ⟨z1, hz1⟩ : ∃ x, x = (xx + yy) % 2 ^ 64 := ⟨_, rfl⟩
              obtain ⟨za, hza⟩ : ∃ x, x = z1 % 2 ^ 32 := ⟨_, rfl⟩
              obtain ⟨z2, hz2⟩ : ∃ x, x = (vd + xx) % 2 ^ 64 := ⟨_, rfl⟩
              obtain ⟨ze, hze⟩ : ∃ x, x = z2 % 2 ^ 32 := ⟨_, rfl⟩
              have lon : on < 2 ^ 64 := by rw [hon, hbig]; decide
              have l64 : ∀ z, z < 2 ^ 32 → z < 2 ^ 64 := fun z hz => Nat.lt_of_lt_of_le hz (by decide)
              have laf : af < 2 ^ 64 := by rw [haf]; exact and_lt (l64 _ hvl.e)
              have lne : ne < 2 ^ 64 := by rw [hne]; exact Nat.xor_lt_two_pow lon (l64 _ hvl.e)
              have lng : ng < 2 ^ 64 := by rw [hng]; exact and_lt lne
              have lab : ab < 2 ^ 64 := by rw [hab]; exact and_lt (l64 _ hvl.a)
              have lac : ac < 2 ^ 64 := by rw [hac]; exact and_lt (l64 _ hvl.a)
              have lbc : bc2 < 2 ^ 64 := by rw [hbc2']; exact and_lt (l64 _ hvl.b)
              have lx1 : x1 < 2 ^ 64 := by rw [hx1]; exact Nat.xor_lt_two_pow lab lac
              have hmx : mixX F32 ⟨va, vb, vc, vd, ve, vf, vg, vh⟩ kk wk = xx := by
                rw [hxx, hp4, hp3, hp2, hp1, hch, hng, hne, hon, hbig, haf, hXA]
                rw [show 18446744073709551615 % 2 ^ 32 = 2 ^ 32 - 1 by decide, ones_xor 32 ve hvl.e]
                exact mixX_r32 _ _ _ _ _
              have hmy : mixY F32 ⟨va, vb, vc, vd, ve, vf, vg, vh⟩ = yy := by
                rw [hyy, hq1, hmj, hx1, hab, hac, hbc2', hYA]
                exact mod_r32 _ _
              have hstp : stepS F32 ⟨va, vb, vc, vd, ve, vf, vg, vh⟩ kk wk = ⟨za, va, vb, vc, ze, ve, vf, vg⟩ := by
                have e1 : (xx + yy) % 2 ^ 32 = za := by rw [hza, hz1]; exact mod_r32 _ _
                have e2 : (vd + xx) % 2 ^ 32 = ze := by rw [hze, hz2]; exact mod_r32 _ _
                rw [stepS, hmx, hmy]
                show S8.mk ((xx + yy) % 2 ^ 32) va vb vc ((vd + xx) % 2 ^ 32) ve vf vg = _
                rw [e1, e2]
              have hm1 : mixTo F32 RW S (t + 1) = ⟨za, va, vb, vc, ze, ve, vf, vg⟩ := by rw [mixTo, ← HVV.out, ← hkk, ← hwk]; exact hstp
              have HM1 := Lib.hid hm1
              have LP4 : Hid (p4 < 18446744073709551616) := Lib.hid (by rw [hp4]; exact Nat.mod_lt _ (by decide))
              have LQ1 : Hid (q1 < 18446744073709551616) := Lib.hid (by rw [hq1]; exact Nat.mod_lt _ (by decide))
              have LZ1 : Hid (z1 < 18446744073709551616) := Lib.hid (by rw [hz1]; exact Nat.mod_lt _ (by decide))
              have LZ2 : Hid (z2 < 18446744073709551616) := Lib.hid (by rw [hz2]; exact Nat.mod_lt _ (by decide))
              have LON := Lib.hid lon
              have L64 := Lib.hid l64
              have LAF := Lib.hid laf
              have LNE := Lib.hid lne
              have LNG := Lib.hid lng
              have LAB := Lib.hid lab
              have LAC := Lib.hid lac
              have LBC := Lib.hid lbc
              have LX1 := Lib.hid lx1
              have HWK := Lib.hid hwk
              have HKK := Lib.hid hkk
              have HON := Lib.hid hon
              have HBIG := Lib.hid hbig
              have HXA := Lib.hid hXA
              have HP1 := Lib.hid hp1
              have HAF := Lib.hid haf
              have HNE := Lib.hid hne
              have HNG := Lib.hid hng
              have HCH := Lib.hid hch
              have HP2 := Lib.hid hp2
              have HP3 := Lib.hid hp3
              have HP4 := Lib.hid hp4
              have HXX := Lib.hid hxx
              have HYA := Lib.hid hYA
              have HAB := Lib.hid hab
              have HAC := Lib.hid hac
              have HBC := Lib.hid hbc2'
              have HX1 := Lib.hid hx1
              have HMJ := Lib.hid hmj
              have HQ1 := Lib.hid hq1
              have HYY := Lib.hid hyy
              have HZ1 := Lib.hid hz1
              have HZA := Lib.hid hza
              have HZ2 := Lib.hid hz2
              have HZE := Lib.hid hze
              have hu := Tryd.underlying108
              have d4 := hsr.r.atN (i := 4) (v := .int .u64 (ve : Int)) rfl
              have d0 := hsr.r.atN (i := 0) (v := .int .u64 (va : Int)) rfl
              have HSR2 := Lib.hid hsr
              clear hvv hvl hwk hkk hon hbig hXA hp1 haf hne hng hch hp2 hp3 hp4 hxx hYA hab hac hbc2' hx1 hmj hq1 hyy hz1 hza hz2 hze lon l64 laf lne lng lab lac lbc lx1 hmx hmy hstp hm1 hsr HSR
              go_wp2_with (refine wpList_get_box (x := .tmp 3) HSR2.out.w.st.h rfl rfl rfl hu rfl h_size ?_)
              have hlo := low_any 32 64 (.slice (some p.a) 3 p.ca) (.slice (some p.b) 3 p.cb) (.slice (some p.c) 3 p.cc) (.slice (some p.d) 3 p.cd) (.slice (some p.k) 64 p.ck) (.slice (some p.f) 8 p.cf) wr (.inl rfl) big (by rw [HBIG.out]; decide)
              rw [← HON.out, show (big : Int) = 18446744073709551615 by rw [HBIG.out]; rfl] at hlo
              refine calls_then hlo ?_
              rintro e w2 ⟨rfl, hb2⟩
              have hsr2 := HSR2.out.next hb2
              clear hlo hb2 HSR2 d4 d0
              go_wp2_with fail
              have HC0 := hsr2.drew
              clear hsr2
              refine wp_region_seq (fun u => BkR w gf F32 p (some bad) blk (some sad) S (.slice (some ⟨g, 0, none⟩) 64 c) RW g2 c2 ⟨va, vb, vc, vd, ve, vf, vg, vh⟩ u) (by kernel_rfl) (by kernel_rfl) HC0 ?_
              apply SeqL.next
              · rfl
              · rfl
              · simp only [act_put, act_put_none, List.setIfInBounds_toArray, List.set_cons_zero, List.set_cons_succ]
                rfl
              · intro w1 hC1 E hE
                refine wpList_get_box hC1.w.st.h rfl rfl rfl hu rfl h_size ?_
                go_wp2_with fail
                exact .mk (hE _ hC1)
              iterate 2
                ((first | (apply SeqL.next; rfl; rfl)); (simp only [act_put, act_put_none, List.setIfInBounds_toArray, List.set_cons_zero, List.set_cons_succ]; rfl); (intro w1 hC1 E hE; go_wp2; exact .mk (hE _ hC1)))
              apply SeqL.next
              · rfl
              · rfl
              · simp only [act_put, act_put_none, List.setIfInBounds_toArray, List.set_cons_zero, List.set_cons_succ]
                rfl
              · intro w1 hC1 E hE
                have d0 := hC1.r.atN (i := 7) (v := .int .u64 (vh : Int)) rfl
                go_wp2
                exact .mk (hE _ hC1)
              apply SeqL.next
              · rfl
              · rfl
              · simp only [act_put, act_put_none, List.setIfInBounds_toArray, List.set_cons_zero, List.set_cons_succ]
                rfl
              · intro w1 hC1 E hE
                refine wpList_get_box hC1.w.st.h rfl rfl rfl hu rfl h_size ?_
                go_wp2_with fail
                exact .mk (hE _ hC1)
              iterate 2
                ((first | (apply SeqL.next; rfl; rfl)); (simp only [act_put, act_put_none, List.setIfInBounds_toArray, List.set_cons_zero, List.set_cons_succ]; rfl); (intro w1 hC1 E hE; go_wp2; exact .mk (hE _ hC1)))
              apply SeqL.next
              · rfl
              · rfl
              · simp only [act_put, act_put_none, List.setIfInBounds_toArray, List.set_cons_zero, List.set_cons_succ]
                rfl
              · intro w1 hC1 E hE
                have d0 := hC1.w.st.h.cell 3
                simp [hv, hC] at d0
                go_wp2
                exact .mk (hE _ hC1)
              apply SeqL.next
              · rfl
              · rfl
              · simp only [act_put, act_put_none, List.setIfInBounds_toArray, List.set_cons_zero, List.set_cons_succ]
                rfl
              · intro w1 hC1 E hE
                go_wp2_with fail
                refine calls_then (mixed_any 32 64 _ _ _ _ _ _ _ (.inl rfl) ve _ _ _ false HL8.out.e (by decide) (by decide) (by decide) _ _ gf hC1.w.st.ok.b (by have := hC1.w.st.h.lt; omega) hC1.w.st.ok.cb) ?_
                rintro e w2 ⟨rfl, hb2⟩
                rw [show allN 32 ve _ _ _ false = XA from HXA.out.symm]
                go_wp2_with fail
                exact .mk (hE _ (hC1.next hb2))
              apply SeqL.next
              · rfl
              · rfl
              · simp only [act_put, act_put_none, List.setIfInBounds_toArray, List.set_cons_zero, List.set_cons_succ]
                rfl
              · intro w1 hC1 E hE
                go_wp2
                rw [add2_64 vh XA, ← HP1.out]
                exact .mk (hE _ hC1)
              iterate 3
                ((first | (apply SeqL.next; rfl; rfl)); (simp only [act_put, act_put_none, List.setIfInBounds_toArray, List.set_cons_zero, List.set_cons_succ]; rfl); (intro w1 hC1 E hE; go_wp2; exact .mk (hE _ hC1)))
              apply SeqL.next
              · rfl
              · rfl
              · simp only [act_put, act_put_none, List.setIfInBounds_toArray, List.set_cons_zero, List.set_cons_succ]
                rfl
              · intro w1 hC1 E hE
                have d0 := hC1.r.atN (i := 5) (v := .int .u64 (vf : Int)) rfl
                go_wp2
                exact .mk (hE _ hC1)
              apply SeqL.next
              · rfl
              · rfl
              · simp only [act_put, act_put_none, List.setIfInBounds_toArray, List.set_cons_zero, List.set_cons_succ]
                rfl
              · intro w1 hC1 E hE
                go_wp2
                rw [and64 ve vf (L64.out _ HL8.out.e) (L64.out _ HL8.out.f), ← HAF.out]
                exact .mk (hE _ hC1)
              iterate 2
                ((first | (apply SeqL.next; rfl; rfl)); (simp only [act_put, act_put_none, List.setIfInBounds_toArray, List.set_cons_zero, List.set_cons_succ]; rfl); (intro w1 hC1 E hE; go_wp2; exact .mk (hE _ hC1)))
              apply SeqL.next
              · rfl
              · rfl
              · simp only [act_put, act_put_none, List.setIfInBounds_toArray, List.set_cons_zero, List.set_cons_succ]
                rfl
              · intro w1 hC1 E hE
                go_wp2
                rw [xor64 on ve LON.out (L64.out _ HL8.out.e), ← HNE.out]
                exact .mk (hE _ hC1)
              iterate 2
                ((first | (apply SeqL.next; rfl; rfl)); (simp only [act_put, act_put_none, List.setIfInBounds_toArray, List.set_cons_zero, List.set_cons_succ]; rfl); (intro w1 hC1 E hE; go_wp2; exact .mk (hE _ hC1)))
              apply SeqL.next
              · rfl
              · rfl
              · simp only [act_put, act_put_none, List.setIfInBounds_toArray, List.set_cons_zero, List.set_cons_succ]
                rfl
              · intro w1 hC1 E hE
                have d0 := hC1.r.atN (i := 6) (v := .int .u64 (vg : Int)) rfl
                go_wp2
                exact .mk (hE _ hC1)
              apply SeqL.next
              · rfl
              · rfl
              · simp only [act_put, act_put_none, List.setIfInBounds_toArray, List.set_cons_zero, List.set_cons_succ]
                rfl
              · intro w1 hC1 E hE
                go_wp2
                rw [and64 ne vg LNE.out (L64.out _ HL8.out.g), ← HNG.out]
                exact .mk (hE _ hC1)
              apply SeqL.next
              · rfl
              · rfl
              · simp only [act_put, act_put_none, List.setIfInBounds_toArray, List.set_cons_zero, List.set_cons_succ]
                rfl
              · intro w1 hC1 E hE
                go_wp2
                rw [xor64 af ng LAF.out LNG.out, ← HCH.out]
                exact .mk (hE _ hC1)
              apply SeqL.next
              · rfl
              · rfl
              · simp only [act_put, act_put_none, List.setIfInBounds_toArray, List.set_cons_zero, List.set_cons_succ]
                rfl
              · intro w1 hC1 E hE
                go_wp2
                rw [add2_64 p1 ch, ← HP2.out]
                exact .mk (hE _ hC1)
              iterate 1
                ((first | (apply SeqL.next; rfl; rfl)); (simp only [act_put, act_put_none, List.setIfInBounds_toArray, List.set_cons_zero, List.set_cons_succ]; rfl); (intro w1 hC1 E hE; go_wp2; exact .mk (hE _ hC1)))
              apply SeqL.next
              · rfl
              · rfl
              · simp only [act_put, act_put_none, List.setIfInBounds_toArray, List.set_cons_zero, List.set_cons_succ]
                rfl
              · intro w1 hC1 E hE
                have d0 := hC1.w.st.h.cell 6
                simp [hv, hC] at d0
                go_wp2
                exact .mk (hE _ hC1)
              iterate 1
                ((first | (apply SeqL.next; rfl; rfl)); (simp only [act_put, act_put_none, List.setIfInBounds_toArray, List.set_cons_zero, List.set_cons_succ]; rfl); (intro w1 hC1 E hE; go_wp2; exact .mk (hE _ hC1)))
              apply SeqL.next
              · rfl
              · rfl
              · simp only [act_put, act_put_none, List.setIfInBounds_toArray, List.set_cons_zero, List.set_cons_succ]
                rfl
              · intro w1 hC1 E hE
                have hck := hC1.w.st.ok.ck
                dsimp only [F32] at hck
                go_wp2
                exact .mk (hE _ hC1)
              apply SeqL.next
              · rfl
              · rfl
              · simp only [act_put, act_put_none, List.setIfInBounds_toArray, List.set_cons_zero, List.set_cons_succ]
                rfl
              · intro w1 hC1 E hE
                have d0 := hC1.w.st.ok.k.val (k := t) (v := .int .u64 (kk : Int)) (by rw [HKK.out, wordsV, List.getElem?_map, kL_get _ _ hlt]; rfl)
                go_wp2
                exact .mk (hE _ hC1)
              apply SeqL.next
              · rfl
              · rfl
              · simp only [act_put, act_put_none, List.setIfInBounds_toArray, List.set_cons_zero, List.set_cons_succ]
                rfl
              · intro w1 hC1 E hE
                go_wp2
                rw [add2_64 p2 kk, ← HP3.out]
                exact .mk (hE _ hC1)
              iterate 3
                ((first | (apply SeqL.next; rfl; rfl)); (simp only [act_put, act_put_none, List.setIfInBounds_toArray, List.set_cons_zero, List.set_cons_succ]; rfl); (intro w1 hC1 E hE; go_wp2; exact .mk (hE _ hC1)))
              apply SeqL.next
              · rfl
              · rfl
              · simp only [act_put, act_put_none, List.setIfInBounds_toArray, List.set_cons_zero, List.set_cons_succ]
                rfl
              · intro w1 hC1 E hE
                have d0 := hC1.w.at_ (i := t) HLEN.out hlt
                rw [← HWK.out] at d0
                go_wp2
                exact .mk (hE _ hC1)
              apply SeqL.next
              · rfl
              · rfl
              · simp only [act_put, act_put_none, List.setIfInBounds_toArray, List.set_cons_zero, List.set_cons_succ]
                rfl
              · intro w1 hC1 E hE
                go_wp2
                rw [add2_64 p3 wk, ← HP4.out]
                exact .mk (hE _ hC1)
              apply SeqL.next
              · rfl
              · rfl
              · simp only [act_put, act_put_none, List.setIfInBounds_toArray, List.set_cons_zero, List.set_cons_succ]
                rfl
              · intro w1 hC1 E hE
                go_wp2_with fail
                refine calls_then (low_any 32 64 _ _ _ _ _ _ _ (.inl rfl) p4 LP4.out) ?_
                rintro e w2 ⟨rfl, hb2⟩
                rw [← HXX.out]
                go_wp2_with fail
                exact .mk (hE _ (hC1.next hb2))
              iterate 1
                ((first | (apply SeqL.next; rfl; rfl)); (simp only [act_put, act_put_none, List.setIfInBounds_toArray, List.set_cons_zero, List.set_cons_succ]; rfl); (intro w1 hC1 E hE; go_wp2; exact .mk (hE _ hC1)))
              refine SeqL.nil ?_
              intro w1 hC1
              clear HC0
              go_wp2_with fail
              have HC0 := hC1.drew
              clear hC1
              refine wp_region_seq (fun u => BkR w gf F32 p (some bad) blk (some sad) S (.slice (some ⟨g, 0, none⟩) 64 c) RW g2 c2 ⟨va, vb, vc, vd, ve, vf, vg, vh⟩ u) (by kernel_rfl) (by kernel_rfl) HC0 ?_
              apply SeqL.next
              · rfl
              · rfl
              · simp only [act_put, act_put_none, List.setIfInBounds_toArray, List.set_cons_zero, List.set_cons_succ]
                rfl
              · intro w1 hC1 E hE
                refine wpList_get_box hC1.w.st.h rfl rfl rfl hu rfl h_size ?_
                go_wp2_with fail
                exact .mk (hE _ hC1)
              apply SeqL.next
              · rfl
              · rfl
              · simp only [act_put, act_put_none, List.setIfInBounds_toArray, List.set_cons_zero, List.set_cons_succ]
                rfl
              · intro w1 hC1 E hE
                refine wpList_get_box hC1.w.st.h rfl rfl rfl hu rfl h_size ?_
                go_wp2_with fail
                exact .mk (hE _ hC1)
              iterate 2
                ((first | (apply SeqL.next; rfl; rfl)); (simp only [act_put, act_put_none, List.setIfInBounds_toArray, List.set_cons_zero, List.set_cons_succ]; rfl); (intro w1 hC1 E hE; go_wp2; exact .mk (hE _ hC1)))
              apply SeqL.next
              · rfl
              · rfl
              · simp only [act_put, act_put_none, List.setIfInBounds_toArray, List.set_cons_zero, List.set_cons_succ]
                rfl
              · intro w1 hC1 E hE
                have d0 := hC1.w.st.h.cell 2
                simp [hv, hC] at d0
                go_wp2
                exact .mk (hE _ hC1)
              apply SeqL.next
              · rfl
              · rfl
              · simp only [act_put, act_put_none, List.setIfInBounds_toArray, List.set_cons_zero, List.set_cons_succ]
                rfl
              · intro w1 hC1 E hE
                go_wp2_with fail
                refine calls_then (mixed_any 32 64 _ _ _ _ _ _ _ (.inl rfl) va _ _ _ false HL8.out.a (by decide) (by decide) (by decide) _ _ gf hC1.w.st.ok.a (by have := hC1.w.st.h.lt; omega) hC1.w.st.ok.ca) ?_
                rintro e w2 ⟨rfl, hb2⟩
                rw [show allN 32 va _ _ _ false = YA from HYA.out.symm]
                go_wp2_with fail
                exact .mk (hE _ (hC1.next hb2))
              iterate 3
                ((first | (apply SeqL.next; rfl; rfl)); (simp only [act_put, act_put_none, List.setIfInBounds_toArray, List.set_cons_zero, List.set_cons_succ]; rfl); (intro w1 hC1 E hE; go_wp2; exact .mk (hE _ hC1)))
              apply SeqL.next
              · rfl
              · rfl
              · simp only [act_put, act_put_none, List.setIfInBounds_toArray, List.set_cons_zero, List.set_cons_succ]
                rfl
              · intro w1 hC1 E hE
                have d0 := hC1.r.atN (i := 1) (v := .int .u64 (vb : Int)) rfl
                go_wp2
                exact .mk (hE _ hC1)
              apply SeqL.next
              · rfl
              · rfl
              · simp only [act_put, act_put_none, List.setIfInBounds_toArray, List.set_cons_zero, List.set_cons_succ]
                rfl
              · intro w1 hC1 E hE
                go_wp2
                rw [and64 va vb (L64.out _ HL8.out.a) (L64.out _ HL8.out.b), ← HAB.out]
                exact .mk (hE _ hC1)
              iterate 3
                ((first | (apply SeqL.next; rfl; rfl)); (simp only [act_put, act_put_none, List.setIfInBounds_toArray, List.set_cons_zero, List.set_cons_succ]; rfl); (intro w1 hC1 E hE; go_wp2; exact .mk (hE _ hC1)))
              apply SeqL.next
              · rfl
              · rfl
              · simp only [act_put, act_put_none, List.setIfInBounds_toArray, List.set_cons_zero, List.set_cons_succ]
                rfl
              · intro w1 hC1 E hE
                have d0 := hC1.r.atN (i := 2) (v := .int .u64 (vc : Int)) rfl
                go_wp2
                exact .mk (hE _ hC1)
              apply SeqL.next
              · rfl
              · rfl
              · simp only [act_put, act_put_none, List.setIfInBounds_toArray, List.set_cons_zero, List.set_cons_succ]
                rfl
              · intro w1 hC1 E hE
                go_wp2
                rw [and64 va vc (L64.out _ HL8.out.a) (L64.out _ HL8.out.c), ← HAC.out]
                exact .mk (hE _ hC1)
              apply SeqL.next
              · rfl
              · rfl
              · simp only [act_put, act_put_none, List.setIfInBounds_toArray, List.set_cons_zero, List.set_cons_succ]
                rfl
              · intro w1 hC1 E hE
                go_wp2
                rw [xor64 ab ac LAB.out LAC.out, ← HX1.out]
                exact .mk (hE _ hC1)
              iterate 2
                ((first | (apply SeqL.next; rfl; rfl)); (simp only [act_put, act_put_none, List.setIfInBounds_toArray, List.set_cons_zero, List.set_cons_succ]; rfl); (intro w1 hC1 E hE; go_wp2; exact .mk (hE _ hC1)))
              apply SeqL.next
              · rfl
              · rfl
              · simp only [act_put, act_put_none, List.setIfInBounds_toArray, List.set_cons_zero, List.set_cons_succ]
                rfl
              · intro w1 hC1 E hE
                have d0 := hC1.r.atN (i := 1) (v := .int .u64 (vb : Int)) rfl
                go_wp2
                exact .mk (hE _ hC1)
              iterate 2
                ((first | (apply SeqL.next; rfl; rfl)); (simp only [act_put, act_put_none, List.setIfInBounds_toArray, List.set_cons_zero, List.set_cons_succ]; rfl); (intro w1 hC1 E hE; go_wp2; exact .mk (hE _ hC1)))
              apply SeqL.next
              · rfl
              · rfl
              · simp only [act_put, act_put_none, List.setIfInBounds_toArray, List.set_cons_zero, List.set_cons_succ]
                rfl
              · intro w1 hC1 E hE
                have d0 := hC1.r.atN (i := 2) (v := .int .u64 (vc : Int)) rfl
                go_wp2
                exact .mk (hE _ hC1)
              apply SeqL.next
              · rfl
              · rfl
              · simp only [act_put, act_put_none, List.setIfInBounds_toArray, List.set_cons_zero, List.set_cons_succ]
                rfl
              · intro w1 hC1 E hE
                go_wp2
                rw [and64 vb vc (L64.out _ HL8.out.b) (L64.out _ HL8.out.c), ← HBC.out]
                exact .mk (hE _ hC1)
              apply SeqL.next
              · rfl
              · rfl
              · simp only [act_put, act_put_none, List.setIfInBounds_toArray, List.set_cons_zero, List.set_cons_succ]
                rfl
              · intro w1 hC1 E hE
                go_wp2
                rw [xor64 x1 bc2 LX1.out LBC.out, ← HMJ.out]
                exact .mk (hE _ hC1)
              apply SeqL.next
              · rfl
              · rfl
              · simp only [act_put, act_put_none, List.setIfInBounds_toArray, List.set_cons_zero, List.set_cons_succ]
                rfl
              · intro w1 hC1 E hE
                go_wp2
                rw [add2_64 YA mj, ← HQ1.out]
                exact .mk (hE _ hC1)
              apply SeqL.next
              · rfl
              · rfl
              · simp only [act_put, act_put_none, List.setIfInBounds_toArray, List.set_cons_zero, List.set_cons_succ]
                rfl
              · intro w1 hC1 E hE
                go_wp2_with fail
                refine calls_then (low_any 32 64 _ _ _ _ _ _ _ (.inl rfl) q1 LQ1.out) ?_
                rintro e w2 ⟨rfl, hb2⟩
                rw [← HYY.out]
                go_wp2_with fail
                exact .mk (hE _ (hC1.next hb2))
              iterate 1
                ((first | (apply SeqL.next; rfl; rfl)); (simp only [act_put, act_put_none, List.setIfInBounds_toArray, List.set_cons_zero, List.set_cons_succ]; rfl); (intro w1 hC1 E hE; go_wp2; exact .mk (hE _ hC1)))
              refine SeqL.nil ?_
              intro w1 hC1
              clear HC0
              go_wp2_with fail
              have HC0 := hC1.drew
              clear hC1
              refine wp_region_seqt (fun u => BkR w gf F32 p (some bad) blk (some sad) S (.slice (some ⟨g, 0, none⟩) 64 c) RW g2 c2 ⟨va, vb, vc, vd, ve, vf, vg, vh⟩ u) (fun _ => false) 26 (by kernel_rfl) (by kernel_rfl) (by decide) (by kernel_rfl) HC0 ?_
              simp only [List.take_succ_cons, List.take_zero, List.drop_succ_cons, List.drop_zero]
              apply SeqL.next
              · rfl
              · rfl
              · simp only [act_put, act_put_none, List.setIfInBounds_toArray, List.set_cons_zero, List.set_cons_succ]
                rfl
              · intro w1 hC1 E hE
                refine wpList_get_box hC1.w.st.h rfl rfl rfl hu rfl h_size ?_
                go_wp2_with fail
                exact .mk (hE _ hC1)
              iterate 2
                ((first | (apply SeqL.next; rfl; rfl)); (simp only [act_put, act_put_none, List.setIfInBounds_toArray, List.set_cons_zero, List.set_cons_succ]; rfl); (intro w1 hC1 E hE; go_wp2; exact .mk (hE _ hC1)))
              apply SeqL.next
              · rfl
              · rfl
              · simp only [act_put, act_put_none, List.setIfInBounds_toArray, List.set_cons_zero, List.set_cons_succ]
                rfl
              · intro w1 hC1 E hE
                go_wp2
                rw [add2_64 xx yy, ← HZ1.out]
                exact .mk (hE _ hC1)
              apply SeqL.next
              · rfl
              · rfl
              · simp only [act_put, act_put_none, List.setIfInBounds_toArray, List.set_cons_zero, List.set_cons_succ]
                rfl
              · intro w1 hC1 E hE
                go_wp2_with fail
                refine calls_then (low_any 32 64 _ _ _ _ _ _ _ (.inl rfl) z1 LZ1.out) ?_
                rintro e w2 ⟨rfl, hb2⟩
                rw [← HZA.out]
                go_wp2_with fail
                exact .mk (hE _ (hC1.next hb2))
              iterate 3
                ((first | (apply SeqL.next; rfl; rfl)); (simp only [act_put, act_put_none, List.setIfInBounds_toArray, List.set_cons_zero, List.set_cons_succ]; rfl); (intro w1 hC1 E hE; go_wp2; exact .mk (hE _ hC1)))
              apply SeqL.next
              · rfl
              · rfl
              · simp only [act_put, act_put_none, List.setIfInBounds_toArray, List.set_cons_zero, List.set_cons_succ]
                rfl
              · intro w1 hC1 E hE
                have d0 := hC1.r.atN (i := 1) (v := .int .u64 (vb : Int)) rfl
                go_wp2
                exact .mk (hE _ hC1)
              iterate 2
                ((first | (apply SeqL.next; rfl; rfl)); (simp only [act_put, act_put_none, List.setIfInBounds_toArray, List.set_cons_zero, List.set_cons_succ]; rfl); (intro w1 hC1 E hE; go_wp2; exact .mk (hE _ hC1)))
              apply SeqL.next
              · rfl
              · rfl
              · simp only [act_put, act_put_none, List.setIfInBounds_toArray, List.set_cons_zero, List.set_cons_succ]
                rfl
              · intro w1 hC1 E hE
                have d0 := hC1.r.atN (i := 2) (v := .int .u64 (vc : Int)) rfl
                go_wp2
                exact .mk (hE _ hC1)
              apply SeqL.next
              · rfl
              · rfl
              · simp only [act_put, act_put_none, List.setIfInBounds_toArray, List.set_cons_zero, List.set_cons_succ]
                rfl
              · intro w1 hC1 E hE
                refine wpList_get_box hC1.w.st.h rfl rfl rfl hu rfl h_size ?_
                go_wp2_with fail
                exact .mk (hE _ hC1)
              iterate 2
                ((first | (apply SeqL.next; rfl; rfl)); (simp only [act_put, act_put_none, List.setIfInBounds_toArray, List.set_cons_zero, List.set_cons_succ]; rfl); (intro w1 hC1 E hE; go_wp2; exact .mk (hE _ hC1)))
              apply SeqL.next
              · rfl
              · rfl
              · simp only [act_put, act_put_none, List.setIfInBounds_toArray, List.set_cons_zero, List.set_cons_succ]
                rfl
              · intro w1 hC1 E hE
                have d0 := hC1.r.atN (i := 3) (v := .int .u64 (vd : Int)) rfl
                go_wp2
                exact .mk (hE _ hC1)
              iterate 1
                ((first | (apply SeqL.next; rfl; rfl)); (simp only [act_put, act_put_none, List.setIfInBounds_toArray, List.set_cons_zero, List.set_cons_succ]; rfl); (intro w1 hC1 E hE; go_wp2; exact .mk (hE _ hC1)))
              apply SeqL.next
              · rfl
              · rfl
              · simp only [act_put, act_put_none, List.setIfInBounds_toArray, List.set_cons_zero, List.set_cons_succ]
                rfl
              · intro w1 hC1 E hE
                go_wp2
                rw [add2_64 vd xx, ← HZ2.out]
                exact .mk (hE _ hC1)
              apply SeqL.next
              · rfl
              · rfl
              · simp only [act_put, act_put_none, List.setIfInBounds_toArray, List.set_cons_zero, List.set_cons_succ]
                rfl
              · intro w1 hC1 E hE
                go_wp2_with fail
                refine calls_then (low_any 32 64 _ _ _ _ _ _ _ (.inl rfl) z2 LZ2.out) ?_
                rintro e w2 ⟨rfl, hb2⟩
                rw [← HZE.out]
                go_wp2_with fail
                exact .mk (hE _ (hC1.next hb2))
              iterate 3
                ((first | (apply SeqL.next; rfl; rfl)); (simp only [act_put, act_put_none, List.setIfInBounds_toArray, List.set_cons_zero, List.set_cons_succ]; rfl); (intro w1 hC1 E hE; go_wp2; exact .mk (hE _ hC1)))
              apply SeqL.next
              · rfl
              · rfl
              · simp only [act_put, act_put_none, List.setIfInBounds_toArray, List.set_cons_zero, List.set_cons_succ]
                rfl
              · intro w1 hC1 E hE
                have d0 := hC1.r.atN (i := 5) (v := .int .u64 (vf : Int)) rfl
                go_wp2
                exact .mk (hE _ hC1)
              iterate 2
                ((first | (apply SeqL.next; rfl; rfl)); (simp only [act_put, act_put_none, List.setIfInBounds_toArray, List.set_cons_zero, List.set_cons_succ]; rfl); (intro w1 hC1 E hE; go_wp2; exact .mk (hE _ hC1)))
              apply SeqL.next
              · rfl
              · rfl
              · simp only [act_put, act_put_none, List.setIfInBounds_toArray, List.set_cons_zero, List.set_cons_succ]
                rfl
              · intro w1 hC1 E hE
                have d0 := hC1.r.atN (i := 6) (v := .int .u64 (vg : Int)) rfl
                go_wp2
                exact .mk (hE _ hC1)
              refine SeqL.nil ?_
              intro w1 hC1
              refine SeqT.step rfl ?_
              intro E hE
              simp only [act_put, act_put_none, List.setIfInBounds_toArray, List.set_cons_zero, List.set_cons_succ] at hE
              go_wp2
              refine .mk (hE _ _ ?_)
              clear hE E
              refine SeqT.step rfl ?_
              intro E hE
              simp only [act_put, act_put_none, List.setIfInBounds_toArray, List.set_cons_zero, List.set_cons_succ] at hE
              go_wp2
              refine .mk (hE _ _ ?_)
              clear hE E
              refine SeqT.nil ?_
              clear HC0
              have hfin : BkR w gf F32 p (some bad) blk (some sad) S (.slice (some ⟨g, 0, none⟩) 64 c) RW w1.heap.size 8 (mixTo F32 RW S (t + 1)) _ := hC1.turn (V' := mixTo F32 RW S (t + 1)) (fz := (0, 0))
              rw [HM1.out] at hfin
              have HFIN := Lib.hid hfin
              clear hfin hC1
              go_wp2_with fail
              refine ⟨⟨t + 1, w1.heap.size, 8, by omega, by go_num, rfl, ?_⟩, by simp [intOf]; omega⟩
              rw [HM1.out]; exact HFIN.out
            · obtain rfl : t = 64 := by omega
              obtain ⟨R, hR⟩ : ∃ x, x = mixTo F32 RW S 64 := ⟨_, rfl⟩
              rw [← hR] at hsr
              have ho : BkO w gf F32 p (some bad) blk (some sad) S (.slice (some ⟨g, 0, none⟩) 64 c) RW g2 c2 R (.slice none 0 0) ((s8L (addS F32 S R)).take 0) wr := ⟨hsr, OwnX.nil _ _ _ _, .inl rfl⟩
              have HR := Lib.hid hR
              have HO := Lib.hid ho
              clear hR ho hsr HSR
              go_wp2_with fail
              obtain ⟨wo3, rfl⟩ : ∃ wo3 : World, wo3 = wr := ⟨_, rfl⟩
              go_loopw [20, 21] (fun v i wr => ∃ (k : Nat) (A5 : Option Addr) (c5 : Nat), k ≤ 8 ∧ i = .int .i64 k ∧ v = .slice A5 k c5 ∧ BkO w gf F32 p (some bad) blk (some sad) S (.slice (some ⟨g, 0, none⟩) 64 c) RW g2 c2 R (.slice A5 k c5) ((s8L (addS F32 S R)).take k) wr) (fun _ i _ => 8 - (intOf i).toNat)
              case atStart => exact ⟨0, none, 0, by omega, rfl, rfl, HO.out⟩
              case round =>
                obtain ⟨k, A5, c5, hk, rfl, rfl, hbo⟩ := hrel
                by_cases hk8 : k < 8
                · have hk8' : (k : Int) < 8 := by omega
                  obtain ⟨rj, hrj⟩ : ∃ x, x = (s8L R).getD k 0 := ⟨_, rfl⟩
                  obtain ⟨sj, hsj⟩ : ∃ x, x = (s8L S).getD k 0 := ⟨_, rfl⟩
                  obtain ⟨s1, hs1⟩ : ∃ x, x = (rj + sj) % 2 ^ 64 := ⟨_, rfl⟩
                  obtain ⟨aj, haj⟩ : ∃ x, x = s1 % 2 ^ 32 := ⟨_, rfl⟩
                  obtain ⟨XS, hXS⟩ : ∃ x, x = (s8L (addS F32 S R)).take k := ⟨_, rfl⟩
                  have hxl : XS.length = k := by rw [hXS]; exact s8_take_len _ _ hk
                  have hnx : (s8L (addS F32 S R)).take (k + 1) = XS ++ [aj] := by
                    rw [s8_take _ _ hk8, addS_get _ _ _ _ hk8, hXS, haj, hs1, hrj, hsj]
                    exact congrArg (fun z => (s8L (addS F32 S R)).take k ++ [z]) (mod_r32 _ _)
                  have ER : Hid ((wordsV .u64 (s8L R))[k]? = some (.int .u64 (rj : Int))) := Lib.hid (by rw [hrj]; exact wordsV_get _ _ _ (by show k < 8; exact hk8))
                  have ES : Hid ((wordsV .u64 (s8L S))[k]? = some (.int .u64 (sj : Int))) := Lib.hid (by rw [hsj]; exact wordsV_get _ _ _ (by show k < 8; exact hk8))
                  have LS1 : Hid (s1 < 18446744073709551616) := Lib.hid (by rw [hs1]; exact Nat.mod_lt _ (by decide))
                  rw [← hXS] at hbo
                  have HS1 := Lib.hid hs1
                  have HAJ := Lib.hid haj
                  have HXL := Lib.hid hxl
                  have HNX := Lib.hid hnx
                  have hu := Tryd.underlying108
                  have HC0 := hbo.drew
                  clear hrj hsj hs1 haj hXS hxl hnx hbo HO
                  go_wp2_with fail
                  refine wp_region_seqt (fun u => BkO w gf F32 p (some bad) blk (some sad) S (.slice (some ⟨g, 0, none⟩) 64 c) RW g2 c2 R (.slice A5 k c5) XS u) (fun i => i == 0) 12 (by kernel_rfl) (by kernel_rfl) (by decide) (by kernel_rfl) HC0 ?_
                  simp only [List.take_succ_cons, List.take_zero, List.drop_succ_cons, List.drop_zero]
                  iterate 1
                    (apply SeqL.pure; rfl; rfl; (simp only [act_put, act_put_none, List.setIfInBounds_toArray, List.set_cons_zero, List.set_cons_succ]; rfl); (intro w1 E hE; go_wp2; exact .mk hE))
                  apply SeqL.next
                  · rfl
                  · rfl
                  · simp only [act_put, act_put_none, List.setIfInBounds_toArray, List.set_cons_zero, List.set_cons_succ]
                    rfl
                  · intro w1 hC1 E hE
                    refine wpList_get_box hC1.r.w.st.h rfl rfl rfl hu rfl h_size ?_
                    go_wp2_with fail
                    exact .mk (hE _ hC1)
                  iterate 2
                    ((first | (apply SeqL.next; rfl; rfl)); (simp only [act_put, act_put_none, List.setIfInBounds_toArray, List.set_cons_zero, List.set_cons_succ]; rfl); (intro w1 hC1 E hE; go_wp2; exact .mk (hE _ hC1)))
                  apply SeqL.next
                  · rfl
                  · rfl
                  · simp only [act_put, act_put_none, List.setIfInBounds_toArray, List.set_cons_zero, List.set_cons_succ]
                    rfl
                  · intro w1 hC1 E hE
                    have hc8 := hC1.r.le
                    go_wp2
                    exact .mk (hE _ hC1)
                  apply SeqL.next
                  · rfl
                  · rfl
                  · simp only [act_put, act_put_none, List.setIfInBounds_toArray, List.set_cons_zero, List.set_cons_succ]
                    rfl
                  · intro w1 hC1 E hE
                    have d0 := hC1.r.r.atN ER.out
                    go_wp2
                    exact .mk (hE _ hC1)
                  iterate 3
                    ((first | (apply SeqL.next; rfl; rfl)); (simp only [act_put, act_put_none, List.setIfInBounds_toArray, List.set_cons_zero, List.set_cons_succ]; rfl); (intro w1 hC1 E hE; go_wp2; exact .mk (hE _ hC1)))
                  apply SeqL.next
                  · rfl
                  · rfl
                  · simp only [act_put, act_put_none, List.setIfInBounds_toArray, List.set_cons_zero, List.set_cons_succ]
                    rfl
                  · intro w1 hC1 E hE
                    have d0 := hC1.r.w.st.rs.val ES.out
                    go_wp2
                    exact .mk (hE _ hC1)
                  apply SeqL.next
                  · rfl
                  · rfl
                  · simp only [act_put, act_put_none, List.setIfInBounds_toArray, List.set_cons_zero, List.set_cons_succ]
                    rfl
                  · intro w1 hC1 E hE
                    go_wp2
                    rw [add2_64 rj sj, ← HS1.out]
                    exact .mk (hE _ hC1)
                  apply SeqL.next
                  · rfl
                  · rfl
                  · simp only [act_put, act_put_none, List.setIfInBounds_toArray, List.set_cons_zero, List.set_cons_succ]
                    rfl
                  · intro w1 hC1 E hE
                    go_wp2_with fail
                    refine calls_then (low_any 32 64 _ _ _ _ _ _ _ (.inl rfl) s1 LS1.out) ?_
                    rintro e w2 ⟨rfl, hb2⟩
                    rw [← HAJ.out]
                    go_wp2_with fail
                    exact .mk (hE _ (hC1.next hb2))
                  refine SeqL.nil ?_
                  intro w1 hC1
                  refine SeqT.step rfl ?_
                  intro E hE
                  simp only [act_put, act_put_none, List.setIfInBounds_toArray, List.set_cons_zero, List.set_cons_succ] at hE
                  go_wp2
                  refine .mk (hE _ _ ?_)
                  clear hE E
                  refine SeqT.step rfl ?_
                  intro E hE
                  simp only [act_put, act_put_none, List.setIfInBounds_toArray, List.set_cons_zero, List.set_cons_succ] at hE
                  refine wpList_append_one sl_u64 rfl rfl (show OwnX w1 (gf + 1) 114 1 (.slice A5 k c5) k (wordsV .u64 XS) by have := hC1.o; rwa [HXL.out] at this) rfl rfl rfl rfl (by unfold maxLen; omega) (by omega) (by have := hC1.r.w.st.h.lt; omega) ?_
                  intro A6 c6 w6 hown6 hg6 hn6
                  have HOWN6 := Lib.hid hown6
                  have HG6 := Lib.hid hg6
                  have HN6 := Lib.hid hn6
                  clear hown6 hg6 hn6
                  go_wp2_with fail
                  refine .mk (hE _ _ ?_)
                  clear hE E
                  refine SeqT.step rfl ?_
                  intro E hE
                  simp only [act_put, act_put_none, List.setIfInBounds_toArray, List.set_cons_zero, List.set_cons_succ] at hE
                  go_wp2
                  refine .mk (hE _ _ ?_)
                  clear hE E
                  refine SeqT.nil ?_
                  clear HC0
                  have hbo2 := hC1.app (o' := .slice A6 (k + 1) c6) (y := aj) (by rw [HXL.out]; exact HOWN6.out) HG6.out HN6.out
                  rw [← HNX.out] at hbo2
                  have HBO2 := Lib.hid hbo2
                  clear hbo2 hC1
                  go_wp2_with fail
                  exact ⟨⟨k + 1, A6, c6, by omega, by go_num, rfl, HBO2.out⟩, by simp [intOf]; omega⟩
                · obtain rfl : k = 8 := by omega
                  have HBO := Lib.hid hbo
                  clear hbo HO
                  go_wp2_with fail
                  go_ret
                  refine ⟨A5, c5, rfl, ?_, by rw [← HGF.out]; exact HBO.out.r.w.st.bel⟩
                  have h := HBO.out.o
                  rw [s8_take_len _ _ (by omega)] at h
                  have hd : addS F32 S R = mixS F32 S blk := by rw [mixS, HR.out, HRW.out]; rfl
                  rw [← hd, ← HGF.out]
                  exact h.mono (by omega)
end Go.Proofs.YtilhhigdegccgaaDoor.Sh
