/-
  Walk: the reference's block, words of 32 bits.
-/
import Derived.Test.YtfpbcihpjcocmaaDoorRefB8
import Derived.Test.YtfpbcihpjcocmaaDoorShaH
import Derived.Test.YtfpbcihpjcocmaaDoorTail
namespace Go.Proofs.YtfpbcihpjcocmaaDoor
set_option linter.unusedSimpArgs false
set_option linter.unusedVariables false
open Go.RowKit

set_option maxRecDepth 100000 in
set_option maxHeartbeats 4000000 in
theorem block32_any (p : HP) (S : S8) (blk : List UInt8) (bA sA : Option Addr) (bc sc B : Nat) (w : World) (hok : HOk F32 p w B) (hB : B ≤ w.heap.size) (hrb : Rd w B bA (bytesV blk)) (hrs : Rd w B sA (wordsV .u64 (s8L S)))
    (hbl : blk.length = 64) (hbc : blk.length ≤ bc) (hsc : 8 ≤ sc) (hS : S.Lt (2 ^ 32)) :
    Calls Tryd.prog 26 #[.agg (hv F32 p), .slice sA 8 sc, .slice bA blk.length bc] w (BlockPost F32 S blk w) := by
  obtain ⟨W0, hW0⟩ : ∃ W0, W0 = w.alloc (.cells (hv F32 p) 38) := ⟨_, rfl⟩
  have hst : BkSt w w.heap.size F32 p bA blk sA S W0 := by
    have hb := below_new w (.cells (hv F32 p) 38)
    rw [hW0]; exact ⟨hb, Blk.new _ _ _, (hok.mono hB).below hb, (hrb.mono hB).below hb, (hrs.mono hB).below hb⟩
  obtain ⟨sad, rfl, hz1, hz2⟩ := hrs.at_ (k := 0) (by simp [wordsV, s8L])
  obtain ⟨bad, rfl, hz3, hz4⟩ := hrb.at_ (k := 0) (by rw [bytesV_length, hbl]; decide)
  clear hz1 hz2 hz3 hz4
  have hst0 := hst
  rw [hW0] at hst0
  have HST := Lib.hid hst0
  have HBL := Lib.hid hbl
  have HS := Lib.hid hS
  have hbc2 : 64 ≤ bc := by omega
  rw [hbl]
  obtain ⟨hh, hhh⟩ : ∃ hh, hh = hv F32 p := ⟨_, rfl⟩
  obtain ⟨gf, hgf⟩ : ∃ gf, gf = w.heap.size := ⟨_, rfl⟩
  have c0 := hst.h.cell 0
  have c1 := hst.h.cell 1
  rw [hW0, ← hgf] at c0 c1
  simp only [hv, hC, List.getElem?_toArray, List.getElem?_cons_zero, List.getElem?_cons_succ] at c0 c1
  rw [← hgf] at hst0
  clear HST
  have HST := Lib.hid hst0
  have HH := Lib.hid hhh
  have HGF := Lib.hid hgf
  clear hst hst0 hbl hS hok hB hrb hrs hbc hW0 hhh hgf W0 c0 c1
  go_enter Tryd.func26, Tryd.ntmps26
  go_wp2
  rw [show w.heap.size = gf from HGF.out.symm]
  have hst0 := HST.out
  have hown0 : OwnX (w.alloc (.cells (hv F32 p) 38)) (gf + 1) 40 1 (.slice none 0 0) 0 (wordsV .u64 (rowW F32 blk 0)) := OwnX.nil _ _ _ _
  clear HST
  go_loopw [7, 8] (fun v i wr => ∃ (t : Nat) (A : Option Addr) (c : Nat), t ≤ 16 ∧ i = .int .i64 t ∧ v = .slice A t c ∧ BkSt w gf F32 p (some bad) blk (some sad) S wr ∧ OwnX wr (gf + 1) 40 1 (.slice A t c) t (wordsV .u64 (rowW F32 blk t))) (fun _ i _ => 16 - (intOf i).toNat)
  case atStart => exact ⟨0, none, 0, by omega, rfl, rfl, hst0, hown0⟩
  case round =>
    obtain ⟨t, A, c, ht, rfl, rfl, hst, hown⟩ := hrel
    clear hst0 hown0
    have c0 := hst.h.cell 0
    simp only [hv, hC, List.getElem?_toArray, List.getElem?_cons_zero, F32] at c0
    by_cases hlt : t < 16
    · have hlt' : (t : Int) < 16 := by omega
      obtain ⟨tE, htE⟩ : ∃ tE : Nat, tE = t * 4 := ⟨_, rfl⟩
      have hq : (t : Int) * 32 / 8 = (tE : Int) := by omega
      obtain ⟨pc, hpc⟩ : ∃ x, x = (blk.drop tE).take 4 := ⟨_, rfl⟩
      have hpl : pc.length = 4 := by rw [hpc]; simp; rw [HBL.out]; omega
      have hrp : ∀ u, BkSt w gf F32 p (some bad) blk (some sad) S u → ∀ j z, pc[j]? = some z → u.cell? (bad.add (tE + j)) = some (.int .u8 (z.toNat : Int)) := fun u hu j z hz => by
        refine hu.rb.val ?_
        rw [hpc, List.getElem?_take] at hz
        split at hz
        · rw [List.getElem?_drop] at hz
          rw [bytesV, List.getElem?_map, hz]; rfl
        · cases hz
      have HST := Lib.hid hst
      have HOWN := Lib.hid hown
      have HPC := Lib.hid hpc
      have HPL := Lib.hid hpl
      have HRP := Lib.hid hrp
      have HTE := Lib.hid htE
      have htE2 : tE ≤ 64 - 4 := by omega
      clear hst hown hpc hpl hrp htE
      go_wp2_with fail
      obtain ⟨wo, rfl⟩ : ∃ wo : World, wo = wr := ⟨_, rfl⟩
      go_loop [9, 10] (fun v i => ∃ j : Nat, j ≤ 4 ∧ i = .int .i64 j ∧ v = .int .u64 (beN (pc.take j) : Nat)) (fun _ i => 4 - (intOf i).toNat)
      case atStart => exact ⟨0, by omega, rfl, rfl⟩
      case round =>
        obtain ⟨j, hj, rfl, rfl⟩ := hrel
        obtain ⟨x, hx⟩ : ∃ x, x = beN (pc.take j) := ⟨_, rfl⟩
        rw [← hx]
        by_cases hjl : j < 4
        · have hjl' : (j : Int) < 4 := by omega
          have hpj : j < pc.length := by rw [HPL.out]; exact hjl
          obtain ⟨z, hz⟩ : ∃ z, z = pc[j] := ⟨_, rfl⟩
          have hcl := HRP.out _ HST.out j z (by rw [hz]; exact List.getElem?_eq_getElem hpj)
          have hzl := z.toNat_lt
          have hxl : x < 256 ^ (4 - 1) := by
            rw [hx]
            have h1 := beN_lt (pc.take j)
            have h2 : (pc.take j).length ≤ j := List.length_take_le _ _
            exact Nat.lt_of_lt_of_le h1 (Nat.pow_le_pow_right (by omega) (by omega))
          have hs2 : beN (pc.take (j + 1)) = x * 256 + z.toNat := by
            rw [List.take_succ_eq_append_getElem hpj, beN_snoc, hx, hz]
          have hb1 : (x : Int) * 256 + (z.toNat : Int) < 18446744073709551616 := by omega
          have hb2 : (x : Int) * 256 < 18446744073709551616 := by omega
          obtain ⟨ix, hix⟩ : ∃ ix, ix = tE + j := ⟨_, rfl⟩
          have hlx : tE + j < 64 := by omega
          have HS2 := Lib.hid hs2
          clear hx hz hs2 hpj hxl hix
          go_wp2_with fail
          exact ⟨⟨j + 1, by omega, by go_num, by rw [HS2.out]; go_num⟩, by simp [intOf]; omega⟩
        · have hge : ¬ (j : Int) < 4 := by omega
          obtain rfl : j = 4 := by omega
          have hpc2 : pieceN (F32.bits / 8) blk t = x := by rw [hx, List.take_of_length_le (by rw [HPL.out]; omega), HPC.out, HTE.out]; rfl
          have HX := Lib.hid hpc2
          clear hx hpc2
          go_wp2_with (refine wpList_append_one sl_u64 rfl rfl HOWN.out rfl rfl rfl rfl (by unfold maxLen; omega) (by omega) (by have := HST.out.h.lt; omega) ?_; intro A2 c2 w2 hown2 hg2 hn2; have HOWN2 := Lib.hid hown2; have HG2 := Lib.hid hg2; clear hown2 hg2 hn2)
          refine ⟨⟨t + 1, A2, c2, by omega, by go_num, rfl, HST.out.grow HOWN.out HG2.out, ?_⟩, by simp [intOf]; omega⟩
          rw [rowW, if_pos hlt, HX.out, wordsV_snoc]
          exact HOWN2.out
    · obtain rfl : t = 16 := by omega
      have hsw : BkW w gf F32 p (some bad) blk (some sad) S (.slice A 16 c) (rowW F32 blk 16) wr := ⟨hst, by rw [rowW_length]; exact hown⟩
      clear hst hown
      go_wp2_with fail
      rw [show ((16 : Nat) : Int) = 16 from rfl]
      obtain ⟨wo, rfl⟩ : ∃ wo : World, wo = wr := ⟨_, rfl⟩
      go_loopw [7, 11] (fun v i wr => ∃ (t : Nat) (A : Option Addr) (c : Nat), 16 ≤ t ∧ t ≤ 64 ∧ i = .int .i64 t ∧ v = .slice A t c ∧ BkW w gf F32 p (some bad) blk (some sad) S (.slice A t c) (rowW F32 blk t) wr) (fun _ i _ => 64 - (intOf i).toNat)
      case atStart => exact ⟨16, A, c, by omega, by omega, rfl, rfl, hsw⟩
      case round =>
        clear hsw
        clear c0
        obtain ⟨t, A, c, ht16, htM, rfl, rfl, hsw⟩ := hrel
        have c1 := hsw.st.h.cell 1
        simp only [hv, hC, List.getElem?_toArray, List.getElem?_cons_zero, List.getElem?_cons_succ, F32] at c1
        by_cases hlt : t < 64
        · have hlt' : (t : Int) < 64 := by omega
          obtain ⟨g, rfl, hgb, hgl⟩ := (show OwnX wr (gf + 1) 40 1 (.slice A t c) t (wordsV .u64 (rowW F32 blk t)) by have := hsw.own; rwa [rowW_length] at this).ptr (by omega)
          have hct : t ≤ c := by
            have ho : OwnX wr (gf + 1) 40 1 (.slice (some ⟨g, 0, none⟩) t c) t (wordsV .u64 (rowW F32 blk t)) := by have := hsw.own; rwa [rowW_length] at this
            exact ho.le_cap
          obtain ⟨l, hl⟩ : ∃ l, l = rowW F32 blk t := ⟨_, rfl⟩
          have hlen : l.length = t := by rw [hl]; exact rowW_length _ _ _
          have hlw : ∀ i, l.getD i 0 < 2 ^ 32 := by rw [hl]; exact getD_lt (rowW_lt F32 (by decide) blk t) (by decide)
          rw [← hl] at hsw
          obtain ⟨a16, h16⟩ : ∃ x, x = l.getD (t - 16) 0 := ⟨_, rfl⟩
          obtain ⟨a15, h15⟩ : ∃ x, x = l.getD (t - 15) 0 := ⟨_, rfl⟩
          obtain ⟨a7, h7⟩ : ∃ x, x = l.getD (t - 7) 0 := ⟨_, rfl⟩
          obtain ⟨a2, h2⟩ : ∃ x, x = l.getD (t - 2) 0 := ⟨_, rfl⟩
          obtain ⟨m1, hm1⟩ : ∃ x, x = allF F32 a15 F32.t0 true := ⟨_, rfl⟩
          obtain ⟨m2, hm2⟩ : ∃ x, x = allF F32 a2 F32.t1 true := ⟨_, rfl⟩
          obtain ⟨s1, hs1⟩ : ∃ x, x = (a16 + m1) % 2 ^ 64 := ⟨_, rfl⟩
          obtain ⟨s2, hs2⟩ : ∃ x, x = (s1 + a7) % 2 ^ 64 := ⟨_, rfl⟩
          obtain ⟨s3, hs3⟩ : ∃ x, x = (s2 + m2) % 2 ^ 64 := ⟨_, rfl⟩
          have W15 : Hid (a15 < 2 ^ 32) := Lib.hid (by rw [h15]; exact hlw _)
          have W2 : Hid (a2 < 2 ^ 32) := Lib.hid (by rw [h2]; exact hlw _)
          have hnw : nextW F32 l t = s3 % 2 ^ 32 := by rw [hs3, hs2, hs1, hm1, hm2, h16, h15, h7, h2]; exact next_32 _ _ _ _
          have hs3l : s3 < 18446744073709551616 := by rw [hs3]; exact Nat.mod_lt _ (by decide)
          have HL := Lib.hid hl
          have HLEN := Lib.hid hlen
          have H16 := Lib.hid h16
          have H15 := Lib.hid h15
          have H7 := Lib.hid h7
          have H2 := Lib.hid h2
          have HM1 := Lib.hid hm1
          have HM2 := Lib.hid hm2
          have HS1 := Lib.hid hs1
          have HS2 := Lib.hid hs2
          have HS3 := Lib.hid hs3
          have HNW := Lib.hid hnw
          have HS3L := Lib.hid hs3l
          clear hl hlen hlw h16 h15 h7 h2 hm1 hm2 hs1 hs2 hs3 hnw hs3l
          have hu := Tryd.underlying38
          have HC0 := hsw.drew
          have HSW := Lib.hid hsw
          clear hsw
          go_wp2_with fail
          refine wp_region_det (fun u => BkW w gf F32 p (some bad) blk (some sad) S (.slice (some ⟨g, 0, none⟩) t c) l u) (fun u => BkW w gf F32 p (some bad) blk (some sad) S (.slice (some ⟨g, 0, none⟩) t c) l u) [(0, some 57), (1, some 58), (2, some 59), (3, some 60), (4, some 61), (5, some 62), (6, some 63), (7, some 64), (8, some 65), (9, some 66), (10, some 67), (11, some 68), (12, some 69), (13, some 70), (14, some 71), (15, some 72), (16, some 73), (17, some 74), (18, some 75), (19, some 76), (20, some 77), (21, some 78), (22, some 79), (23, some 80), (24, some 81), (25, some 82), (26, some 83), (27, some 84), (28, some 85), (29, some 86), (30, some 87), (31, some 12)] (by kernel_rfl) (by kernel_rfl) (by decide) (by kernel_rfl) (fun _ => rfl) HC0 ?_
          apply DetL.next
          · -- 0: Op.move (Operand.tmp 7)
            apply detStep_plain []
            exact fun _ => rfl
            rfl
            rintro vals - w1 hC1 E hE
            simp only [puts, act_put, act_put_none, List.setIfInBounds_toArray, List.set_cons_zero, List.set_cons_succ] at hE ⊢
            go_wp2
            exact .mk (hE _ hC1)
          apply DetL.next
          · -- 1: Op.move (Operand.tmp 11)
            apply detStep_plain []
            exact fun _ => rfl
            rfl
            rintro vals ⟨-, -⟩ w1 hC1 E hE
            simp only [puts, act_put, act_put_none, List.setIfInBounds_toArray, List.set_cons_zero, List.set_cons_succ] at hE ⊢
            go_wp2
            exact .mk (hE _ hC1)
          apply DetL.next
          · -- 2: Op.binOp BinOp.sub 3 (Operand.tmp 58) (Operand.const (Value.int IntKind.i64 16)) 3
            apply detStep_plain [(1, some 58)]
            exact fun _ => rfl
            rfl
            rintro vals ⟨⟨-, -⟩, f1⟩ w1 hC1 E hE
            simp only [puts, act_put, act_put_none, List.setIfInBounds_toArray, List.set_cons_zero, List.set_cons_succ, f1] at hE ⊢
            clear f1
            go_wp2
            exact .mk (hE _ hC1)
          apply DetL.next
          · -- 3: Op.indexAddr 36 (Operand.tmp 57) (Operand.tmp 59)
            apply detStep_plain [(0, some 57), (2, some 59)]
            exact fun _ => rfl
            rfl
            rintro vals ⟨⟨⟨-, f0⟩, -⟩, f2⟩ w1 hC1 E hE
            simp only [puts, act_put, act_put_none, List.setIfInBounds_toArray, List.set_cons_zero, List.set_cons_succ, f0, f2] at hE ⊢
            clear f0 f2
            go_wp2
            exact .mk (hE _ hC1)
          apply DetL.next
          · -- 4: Op.load 40 (Operand.tmp 60)
            apply detStep_plain [(3, some 60)]
            exact fun _ => rfl
            rfl
            rintro vals ⟨⟨⟨⟨-, -⟩, -⟩, -⟩, f3⟩ w1 hC1 E hE
            have d0 := hC1.at_ (i := t - 16) HLEN.out (by omega)
            rw [← H16.out] at d0
            simp only [puts, act_put, act_put_none, List.setIfInBounds_toArray, List.set_cons_zero, List.set_cons_succ, f3] at hE ⊢
            clear f3
            go_wp2
            exact .mk (hE _ hC1)
          apply DetL.next
          · -- 5: Op.load 38 (Operand.tmp 3)
            apply detStep_plain []
            exact fun _ => rfl
            rfl
            rintro vals ⟨⟨⟨⟨⟨-, -⟩, -⟩, -⟩, -⟩, -⟩ w1 hC1 E hE
            simp only [puts, act_put, act_put_none, List.setIfInBounds_toArray, List.set_cons_zero, List.set_cons_succ] at hE ⊢
            refine wpList_get_box hC1.st.h rfl rfl rfl hu rfl h_size ?_
            go_wp2_with fail
            exact .mk (hE _ hC1)
          apply DetL.next
          · -- 6: Op.move (Operand.tmp 7)
            apply detStep_plain []
            exact fun _ => rfl
            rfl
            rintro vals ⟨⟨⟨⟨⟨⟨-, -⟩, -⟩, -⟩, -⟩, -⟩, -⟩ w1 hC1 E hE
            simp only [puts, act_put, act_put_none, List.setIfInBounds_toArray, List.set_cons_zero, List.set_cons_succ] at hE ⊢
            go_wp2
            exact .mk (hE _ hC1)
          apply DetL.next
          · -- 7: Op.move (Operand.tmp 11)
            apply detStep_plain []
            exact fun _ => rfl
            rfl
            rintro vals ⟨⟨⟨⟨⟨⟨⟨-, -⟩, -⟩, -⟩, -⟩, -⟩, -⟩, -⟩ w1 hC1 E hE
            simp only [puts, act_put, act_put_none, List.setIfInBounds_toArray, List.set_cons_zero, List.set_cons_succ] at hE ⊢
            go_wp2
            exact .mk (hE _ hC1)
          apply DetL.next
          · -- 8: Op.binOp BinOp.sub 3 (Operand.tmp 64) (Operand.const (Value.int IntKind.i64 15)) 3
            apply detStep_plain [(7, some 64)]
            exact fun _ => rfl
            rfl
            rintro vals ⟨⟨⟨⟨⟨⟨⟨⟨-, -⟩, -⟩, -⟩, -⟩, -⟩, -⟩, -⟩, f7⟩ w1 hC1 E hE
            simp only [puts, act_put, act_put_none, List.setIfInBounds_toArray, List.set_cons_zero, List.set_cons_succ, f7] at hE ⊢
            clear f7
            go_wp2
            exact .mk (hE _ hC1)
          apply DetL.next
          · -- 9: Op.indexAddr 36 (Operand.tmp 63) (Operand.tmp 65)
            apply detStep_plain [(6, some 63), (8, some 65)]
            exact fun _ => rfl
            rfl
            rintro vals ⟨⟨⟨⟨⟨⟨⟨⟨⟨-, -⟩, -⟩, -⟩, -⟩, -⟩, -⟩, f6⟩, -⟩, f8⟩ w1 hC1 E hE
            simp only [puts, act_put, act_put_none, List.setIfInBounds_toArray, List.set_cons_zero, List.set_cons_succ, f6, f8] at hE ⊢
            clear f6 f8
            go_wp2
            exact .mk (hE _ hC1)
          apply DetL.next
          · -- 10: Op.load 40 (Operand.tmp 66)
            apply detStep_plain [(9, some 66)]
            exact fun _ => rfl
            rfl
            rintro vals ⟨⟨⟨⟨⟨⟨⟨⟨⟨⟨-, -⟩, -⟩, -⟩, -⟩, -⟩, -⟩, -⟩, -⟩, -⟩, f9⟩ w1 hC1 E hE
            have d0 := hC1.at_ (i := t - 15) HLEN.out (by omega)
            rw [← H15.out] at d0
            simp only [puts, act_put, act_put_none, List.setIfInBounds_toArray, List.set_cons_zero, List.set_cons_succ, f9] at hE ⊢
            clear f9
            go_wp2
            exact .mk (hE _ hC1)
          apply DetL.next
          · -- 11: Op.fieldAddr 38 (Operand.tmp 3) 4
            apply detStep_plain []
            exact fun _ => rfl
            rfl
            rintro vals ⟨⟨⟨⟨⟨⟨⟨⟨⟨⟨⟨-, -⟩, -⟩, -⟩, -⟩, -⟩, -⟩, -⟩, -⟩, -⟩, -⟩, -⟩ w1 hC1 E hE
            simp only [puts, act_put, act_put_none, List.setIfInBounds_toArray, List.set_cons_zero, List.set_cons_succ] at hE ⊢
            go_wp2
            exact .mk (hE _ hC1)
          apply DetL.next
          · -- 12: Op.load 35 (Operand.tmp 68)
            apply detStep_plain [(11, some 68)]
            exact fun _ => rfl
            rfl
            rintro vals ⟨⟨⟨⟨⟨⟨⟨⟨⟨⟨⟨⟨-, -⟩, -⟩, -⟩, -⟩, -⟩, -⟩, -⟩, -⟩, -⟩, -⟩, -⟩, f11⟩ w1 hC1 E hE
            have d0 := hC1.st.h.cell 4
            simp [hv, hC] at d0
            simp only [puts, act_put, act_put_none, List.setIfInBounds_toArray, List.set_cons_zero, List.set_cons_succ, f11] at hE ⊢
            clear f11
            go_wp2
            exact .mk (hE _ hC1)
          apply DetL.next
          · -- 13: Op.call { callee := Callee.value (Operand.func 34), args := #[Operand.tmp 62, Operand.tmp 67, Operand.tmp 69, 
            apply detStep_plain [(5, some 62), (10, some 67), (12, some 69)]
            exact fun _ => rfl
            rfl
            rintro vals ⟨⟨⟨⟨⟨⟨⟨⟨⟨⟨⟨⟨⟨-, -⟩, -⟩, -⟩, -⟩, -⟩, f5⟩, -⟩, -⟩, -⟩, -⟩, f10⟩, -⟩, f12⟩ w1 hC1 E hE
            simp only [puts, act_put, act_put_none, List.setIfInBounds_toArray, List.set_cons_zero, List.set_cons_succ, f5, f10, f12] at hE ⊢
            clear f5 f10 f12
            go_wp2_with fail
            refine calls_then (mixed_any 32 64 _ _ _ _ _ _ _ (.inl rfl) a15 _ _ _ true W15.out (by decide) (by decide) (by decide) _ _ gf hC1.st.ok.c (by have := hC1.st.h.lt; omega) hC1.st.ok.cc) ?_
            rintro e w2 ⟨rfl, hb2⟩
            rw [show allN 32 a15 _ _ _ true = m1 from HM1.out.symm]
            go_wp2_with fail
            exact .mk (hE _ (hC1.next hb2))
          apply DetL.next
          · -- 14: Op.binOp BinOp.add 40 (Operand.tmp 61) (Operand.tmp 70) 40
            apply detStep_plain [(4, some 61), (13, some 70)]
            exact fun _ => rfl
            rfl
            rintro vals ⟨⟨⟨⟨⟨⟨⟨⟨⟨⟨⟨⟨⟨⟨-, -⟩, -⟩, -⟩, -⟩, f4⟩, -⟩, -⟩, -⟩, -⟩, -⟩, -⟩, -⟩, -⟩, f13⟩ w1 hC1 E hE
            simp only [puts, act_put, act_put_none, List.setIfInBounds_toArray, List.set_cons_zero, List.set_cons_succ, f4, f13] at hE ⊢
            clear f4 f13
            go_wp2
            rw [add2_64 a16 m1, ← HS1.out]
            exact .mk (hE _ hC1)
          apply DetL.next
          · -- 15: Op.move (Operand.tmp 7)
            apply detStep_plain []
            exact fun _ => rfl
            rfl
            rintro vals ⟨⟨⟨⟨⟨⟨⟨⟨⟨⟨⟨⟨⟨⟨⟨-, -⟩, -⟩, -⟩, -⟩, -⟩, -⟩, -⟩, -⟩, -⟩, -⟩, -⟩, -⟩, -⟩, -⟩, -⟩ w1 hC1 E hE
            simp only [puts, act_put, act_put_none, List.setIfInBounds_toArray, List.set_cons_zero, List.set_cons_succ] at hE ⊢
            go_wp2
            exact .mk (hE _ hC1)
          apply DetL.next
          · -- 16: Op.move (Operand.tmp 11)
            apply detStep_plain []
            exact fun _ => rfl
            rfl
            rintro vals ⟨⟨⟨⟨⟨⟨⟨⟨⟨⟨⟨⟨⟨⟨⟨⟨-, -⟩, -⟩, -⟩, -⟩, -⟩, -⟩, -⟩, -⟩, -⟩, -⟩, -⟩, -⟩, -⟩, -⟩, -⟩, -⟩ w1 hC1 E hE
            simp only [puts, act_put, act_put_none, List.setIfInBounds_toArray, List.set_cons_zero, List.set_cons_succ] at hE ⊢
            go_wp2
            exact .mk (hE _ hC1)
          apply DetL.next
          · -- 17: Op.binOp BinOp.sub 3 (Operand.tmp 73) (Operand.const (Value.int IntKind.i64 7)) 3
            apply detStep_plain [(16, some 73)]
            exact fun _ => rfl
            rfl
            rintro vals ⟨⟨⟨⟨⟨⟨⟨⟨⟨⟨⟨⟨⟨⟨⟨⟨⟨-, -⟩, -⟩, -⟩, -⟩, -⟩, -⟩, -⟩, -⟩, -⟩, -⟩, -⟩, -⟩, -⟩, -⟩, -⟩, -⟩, f16⟩ w1 hC1 E hE
            simp only [puts, act_put, act_put_none, List.setIfInBounds_toArray, List.set_cons_zero, List.set_cons_succ, f16] at hE ⊢
            clear f16
            go_wp2
            exact .mk (hE _ hC1)
          apply DetL.next
          · -- 18: Op.indexAddr 36 (Operand.tmp 72) (Operand.tmp 74)
            apply detStep_plain [(15, some 72), (17, some 74)]
            exact fun _ => rfl
            rfl
            rintro vals ⟨⟨⟨⟨⟨⟨⟨⟨⟨⟨⟨⟨⟨⟨⟨⟨⟨⟨-, -⟩, -⟩, -⟩, -⟩, -⟩, -⟩, -⟩, -⟩, -⟩, -⟩, -⟩, -⟩, -⟩, -⟩, -⟩, f15⟩, -⟩, f17⟩ w1 hC1 E hE
            simp only [puts, act_put, act_put_none, List.setIfInBounds_toArray, List.set_cons_zero, List.set_cons_succ, f15, f17] at hE ⊢
            clear f15 f17
            go_wp2
            exact .mk (hE _ hC1)
          apply DetL.next
          · -- 19: Op.load 40 (Operand.tmp 75)
            apply detStep_plain [(18, some 75)]
            exact fun _ => rfl
            rfl
            rintro vals ⟨⟨⟨⟨⟨⟨⟨⟨⟨⟨⟨⟨⟨⟨⟨⟨⟨⟨⟨-, -⟩, -⟩, -⟩, -⟩, -⟩, -⟩, -⟩, -⟩, -⟩, -⟩, -⟩, -⟩, -⟩, -⟩, -⟩, -⟩, -⟩, -⟩, f18⟩ w1 hC1 E hE
            have d0 := hC1.at_ (i := t - 7) HLEN.out (by omega)
            rw [← H7.out] at d0
            simp only [puts, act_put, act_put_none, List.setIfInBounds_toArray, List.set_cons_zero, List.set_cons_succ, f18] at hE ⊢
            clear f18
            go_wp2
            exact .mk (hE _ hC1)
          apply DetL.next
          · -- 20: Op.binOp BinOp.add 40 (Operand.tmp 71) (Operand.tmp 76) 40
            apply detStep_plain [(14, some 71), (19, some 76)]
            exact fun _ => rfl
            rfl
            rintro vals ⟨⟨⟨⟨⟨⟨⟨⟨⟨⟨⟨⟨⟨⟨⟨⟨⟨⟨⟨⟨-, -⟩, -⟩, -⟩, -⟩, -⟩, -⟩, -⟩, -⟩, -⟩, -⟩, -⟩, -⟩, -⟩, -⟩, f14⟩, -⟩, -⟩, -⟩, -⟩, f19⟩ w1 hC1 E hE
            simp only [puts, act_put, act_put_none, List.setIfInBounds_toArray, List.set_cons_zero, List.set_cons_succ, f14, f19] at hE ⊢
            clear f14 f19
            go_wp2
            rw [add2_64 s1 a7, ← HS2.out]
            exact .mk (hE _ hC1)
          apply DetL.next
          · -- 21: Op.load 38 (Operand.tmp 3)
            apply detStep_plain []
            exact fun _ => rfl
            rfl
            rintro vals ⟨⟨⟨⟨⟨⟨⟨⟨⟨⟨⟨⟨⟨⟨⟨⟨⟨⟨⟨⟨⟨-, -⟩, -⟩, -⟩, -⟩, -⟩, -⟩, -⟩, -⟩, -⟩, -⟩, -⟩, -⟩, -⟩, -⟩, -⟩, -⟩, -⟩, -⟩, -⟩, -⟩, -⟩ w1 hC1 E hE
            simp only [puts, act_put, act_put_none, List.setIfInBounds_toArray, List.set_cons_zero, List.set_cons_succ] at hE ⊢
            refine wpList_get_box hC1.st.h rfl rfl rfl hu rfl h_size ?_
            go_wp2_with fail
            exact .mk (hE _ hC1)
          apply DetL.next
          · -- 22: Op.move (Operand.tmp 7)
            apply detStep_plain []
            exact fun _ => rfl
            rfl
            rintro vals ⟨⟨⟨⟨⟨⟨⟨⟨⟨⟨⟨⟨⟨⟨⟨⟨⟨⟨⟨⟨⟨⟨-, -⟩, -⟩, -⟩, -⟩, -⟩, -⟩, -⟩, -⟩, -⟩, -⟩, -⟩, -⟩, -⟩, -⟩, -⟩, -⟩, -⟩, -⟩, -⟩, -⟩, -⟩, -⟩ w1 hC1 E hE
            simp only [puts, act_put, act_put_none, List.setIfInBounds_toArray, List.set_cons_zero, List.set_cons_succ] at hE ⊢
            go_wp2
            exact .mk (hE _ hC1)
          apply DetL.next
          · -- 23: Op.move (Operand.tmp 11)
            apply detStep_plain []
            exact fun _ => rfl
            rfl
            rintro vals ⟨⟨⟨⟨⟨⟨⟨⟨⟨⟨⟨⟨⟨⟨⟨⟨⟨⟨⟨⟨⟨⟨⟨-, -⟩, -⟩, -⟩, -⟩, -⟩, -⟩, -⟩, -⟩, -⟩, -⟩, -⟩, -⟩, -⟩, -⟩, -⟩, -⟩, -⟩, -⟩, -⟩, -⟩, -⟩, -⟩, -⟩ w1 hC1 E hE
            simp only [puts, act_put, act_put_none, List.setIfInBounds_toArray, List.set_cons_zero, List.set_cons_succ] at hE ⊢
            go_wp2
            exact .mk (hE _ hC1)
          apply DetL.next
          · -- 24: Op.binOp BinOp.sub 3 (Operand.tmp 80) (Operand.const (Value.int IntKind.i64 2)) 3
            apply detStep_plain [(23, some 80)]
            exact fun _ => rfl
            rfl
            rintro vals ⟨⟨⟨⟨⟨⟨⟨⟨⟨⟨⟨⟨⟨⟨⟨⟨⟨⟨⟨⟨⟨⟨⟨⟨-, -⟩, -⟩, -⟩, -⟩, -⟩, -⟩, -⟩, -⟩, -⟩, -⟩, -⟩, -⟩, -⟩, -⟩, -⟩, -⟩, -⟩, -⟩, -⟩, -⟩, -⟩, -⟩, -⟩, f23⟩ w1 hC1 E hE
            simp only [puts, act_put, act_put_none, List.setIfInBounds_toArray, List.set_cons_zero, List.set_cons_succ, f23] at hE ⊢
            clear f23
            go_wp2
            exact .mk (hE _ hC1)
          apply DetL.next
          · -- 25: Op.indexAddr 36 (Operand.tmp 79) (Operand.tmp 81)
            apply detStep_plain [(22, some 79), (24, some 81)]
            exact fun _ => rfl
            rfl
            rintro vals ⟨⟨⟨⟨⟨⟨⟨⟨⟨⟨⟨⟨⟨⟨⟨⟨⟨⟨⟨⟨⟨⟨⟨⟨⟨-, -⟩, -⟩, -⟩, -⟩, -⟩, -⟩, -⟩, -⟩, -⟩, -⟩, -⟩, -⟩, -⟩, -⟩, -⟩, -⟩, -⟩, -⟩, -⟩, -⟩, -⟩, -⟩, f22⟩, -⟩, f24⟩ w1 hC1 E hE
            simp only [puts, act_put, act_put_none, List.setIfInBounds_toArray, List.set_cons_zero, List.set_cons_succ, f22, f24] at hE ⊢
            clear f22 f24
            go_wp2
            exact .mk (hE _ hC1)
          apply DetL.next
          · -- 26: Op.load 40 (Operand.tmp 82)
            apply detStep_plain [(25, some 82)]
            exact fun _ => rfl
            rfl
            rintro vals ⟨⟨⟨⟨⟨⟨⟨⟨⟨⟨⟨⟨⟨⟨⟨⟨⟨⟨⟨⟨⟨⟨⟨⟨⟨⟨-, -⟩, -⟩, -⟩, -⟩, -⟩, -⟩, -⟩, -⟩, -⟩, -⟩, -⟩, -⟩, -⟩, -⟩, -⟩, -⟩, -⟩, -⟩, -⟩, -⟩, -⟩, -⟩, -⟩, -⟩, -⟩, f25⟩ w1 hC1 E hE
            have d0 := hC1.at_ (i := t - 2) HLEN.out (by omega)
            rw [← H2.out] at d0
            simp only [puts, act_put, act_put_none, List.setIfInBounds_toArray, List.set_cons_zero, List.set_cons_succ, f25] at hE ⊢
            clear f25
            go_wp2
            exact .mk (hE _ hC1)
          apply DetL.next
          · -- 27: Op.fieldAddr 38 (Operand.tmp 3) 5
            apply detStep_plain []
            exact fun _ => rfl
            rfl
            rintro vals ⟨⟨⟨⟨⟨⟨⟨⟨⟨⟨⟨⟨⟨⟨⟨⟨⟨⟨⟨⟨⟨⟨⟨⟨⟨⟨⟨-, -⟩, -⟩, -⟩, -⟩, -⟩, -⟩, -⟩, -⟩, -⟩, -⟩, -⟩, -⟩, -⟩, -⟩, -⟩, -⟩, -⟩, -⟩, -⟩, -⟩, -⟩, -⟩, -⟩, -⟩, -⟩, -⟩, -⟩ w1 hC1 E hE
            simp only [puts, act_put, act_put_none, List.setIfInBounds_toArray, List.set_cons_zero, List.set_cons_succ] at hE ⊢
            go_wp2
            exact .mk (hE _ hC1)
          apply DetL.next
          · -- 28: Op.load 35 (Operand.tmp 84)
            apply detStep_plain [(27, some 84)]
            exact fun _ => rfl
            rfl
            rintro vals ⟨⟨⟨⟨⟨⟨⟨⟨⟨⟨⟨⟨⟨⟨⟨⟨⟨⟨⟨⟨⟨⟨⟨⟨⟨⟨⟨⟨-, -⟩, -⟩, -⟩, -⟩, -⟩, -⟩, -⟩, -⟩, -⟩, -⟩, -⟩, -⟩, -⟩, -⟩, -⟩, -⟩, -⟩, -⟩, -⟩, -⟩, -⟩, -⟩, -⟩, -⟩, -⟩, -⟩, -⟩, f27⟩ w1 hC1 E hE
            have d0 := hC1.st.h.cell 5
            simp [hv, hC] at d0
            simp only [puts, act_put, act_put_none, List.setIfInBounds_toArray, List.set_cons_zero, List.set_cons_succ, f27] at hE ⊢
            clear f27
            go_wp2
            exact .mk (hE _ hC1)
          apply DetL.next
          · -- 29: Op.call { callee := Callee.value (Operand.func 34), args := #[Operand.tmp 78, Operand.tmp 83, Operand.tmp 85, 
            apply detStep_plain [(21, some 78), (26, some 83), (28, some 85), (13, some 70)]
            exact fun _ => rfl
            rfl
            rintro vals ⟨⟨⟨⟨⟨⟨⟨⟨⟨⟨⟨⟨⟨⟨⟨⟨⟨⟨⟨⟨⟨⟨⟨⟨⟨⟨⟨⟨⟨-, -⟩, -⟩, -⟩, -⟩, -⟩, -⟩, -⟩, -⟩, -⟩, -⟩, -⟩, -⟩, -⟩, f13⟩, -⟩, -⟩, -⟩, -⟩, -⟩, -⟩, -⟩, f21⟩, -⟩, -⟩, -⟩, -⟩, f26⟩, -⟩, f28⟩ w1 hC1 E hE
            simp only [puts, act_put, act_put_none, List.setIfInBounds_toArray, List.set_cons_zero, List.set_cons_succ, f13, f21, f26, f28] at hE ⊢
            clear f13 f21 f26 f28
            go_wp2_with fail
            refine calls_then (mixed_any 32 64 _ _ _ _ _ _ _ (.inl rfl) a2 _ _ _ true W2.out (by decide) (by decide) (by decide) _ _ gf hC1.st.ok.d (by have := hC1.st.h.lt; omega) hC1.st.ok.cd) ?_
            rintro e w2 ⟨rfl, hb2⟩
            rw [show allN 32 a2 _ _ _ true = m2 from HM2.out.symm]
            go_wp2_with fail
            exact .mk (hE _ (hC1.next hb2))
          apply DetL.next
          · -- 30: Op.binOp BinOp.add 40 (Operand.tmp 77) (Operand.tmp 86) 40
            apply detStep_plain [(20, some 77), (29, some 86)]
            exact fun _ => rfl
            rfl
            rintro vals ⟨⟨⟨⟨⟨⟨⟨⟨⟨⟨⟨⟨⟨⟨⟨⟨⟨⟨⟨⟨⟨⟨⟨⟨⟨⟨⟨⟨⟨⟨-, -⟩, -⟩, -⟩, -⟩, -⟩, -⟩, -⟩, -⟩, -⟩, -⟩, -⟩, -⟩, -⟩, -⟩, -⟩, -⟩, -⟩, -⟩, -⟩, -⟩, f20⟩, -⟩, -⟩, -⟩, -⟩, -⟩, -⟩, -⟩, -⟩, f29⟩ w1 hC1 E hE
            simp only [puts, act_put, act_put_none, List.setIfInBounds_toArray, List.set_cons_zero, List.set_cons_succ, f20, f29] at hE ⊢
            clear f20 f29
            go_wp2
            rw [add2_64 s2 m2, ← HS3.out]
            exact .mk (hE _ hC1)
          apply DetL.last
          · -- 31: Op.assign (Operand.tmp 87)
            apply detStep_plain [(30, some 87), (29, some 86), (0, some 57), (1, some 58), (2, some 59), (3, some 60), (4, some 61), (5, some 62), (6, some 63), (7, some 64), (8, some 65), (9, some 66), (10, some 67), (11, some 68), (12, some 69), (13, some 70), (14, some 71), (15, some 72), (16, some 73), (17, some 74), (18, some 75), (19, some 76), (20, some 77), (21, some 78), (22, some 79), (23, some 80), (24, some 81), (25, some 82), (26, some 83), (27, some 84), (28, some 85), (29, some 86), (30, some 87)]
            exact fun _ => rfl
            rfl
            rintro vals ⟨⟨⟨⟨⟨⟨⟨⟨⟨⟨⟨⟨⟨⟨⟨⟨⟨⟨⟨⟨⟨⟨⟨⟨⟨⟨⟨⟨⟨⟨⟨-, f0⟩, f1⟩, f2⟩, f3⟩, f4⟩, f5⟩, f6⟩, f7⟩, f8⟩, f9⟩, f10⟩, f11⟩, f12⟩, f13⟩, f14⟩, f15⟩, f16⟩, f17⟩, f18⟩, f19⟩, f20⟩, f21⟩, f22⟩, f23⟩, f24⟩, f25⟩, f26⟩, f27⟩, f28⟩, f29⟩, f30⟩ w1 hC1 E hE
            simp only [puts, act_put, act_put_none, List.setIfInBounds_toArray, List.set_cons_zero, List.set_cons_succ, f0, f1, f2, f3, f4, f5, f6, f7, f8, f9, f10, f11, f12, f13, f14, f15, f16, f17, f18, f19, f20, f21, f22, f23, f24, f25, f26, f27, f28, f29, f30] at hE ⊢
            clear f0 f1 f2 f3 f4 f5 f6 f7 f8 f9 f10 f11 f12 f13 f14 f15 f16 f17 f18 f19 f20 f21 f22 f23 f24 f25 f26 f27 f28 f29 f30
            go_wp2
            exact .mk (hE _ hC1)
          rintro vals ⟨⟨⟨⟨⟨⟨⟨⟨⟨⟨⟨⟨⟨⟨⟨⟨⟨⟨⟨⟨⟨⟨⟨⟨⟨⟨⟨⟨⟨⟨⟨⟨-, f0⟩, f1⟩, f2⟩, f3⟩, f4⟩, f5⟩, f6⟩, f7⟩, f8⟩, f9⟩, f10⟩, f11⟩, f12⟩, f13⟩, f14⟩, f15⟩, f16⟩, f17⟩, f18⟩, f19⟩, f20⟩, f21⟩, f22⟩, f23⟩, f24⟩, f25⟩, f26⟩, f27⟩, f28⟩, f29⟩, f30⟩, f31⟩ w1 hC1
          simp only [puts, act_put, act_put_none, List.setIfInBounds_toArray, List.set_cons_zero, List.set_cons_succ, f0, f1, f2, f3, f4, f5, f6, f7, f8, f9, f10, f11, f12, f13, f14, f15, f16, f17, f18, f19, f20, f21, f22, f23, f24, f25, f26, f27, f28, f29, f30, f31]
          clear f0 f1 f2 f3 f4 f5 f6 f7 f8 f9 f10 f11 f12 f13 f14 f15 f16 f17 f18 f19 f20 f21 f22 f23 f24 f25 f26 f27 f28 f29 f30 f31
          clear HC0
          have HC1 := Lib.hid hC1
          clear hC1 HSW
          go_wp2_with (refine wpList_get_box (x := .tmp 3) HC1.out.st.h rfl rfl rfl hu rfl h_size ?_)
          obtain ⟨nv, hnv⟩ : ∃ x, x = s3 % 2 ^ 32 := ⟨_, rfl⟩
          refine calls_then (low_any 32 64 _ _ _ _ _ _ _ (.inl rfl) s3 HS3L.out) ?_
          rintro e w2 ⟨rfl, hb2⟩
          rw [← hnv]
          have hw2 := HC1.out.next hb2
          have HO2 : Hid (OwnX w2 (gf + 1) 40 1 (.slice (some ⟨g, 0, none⟩) t c) t (wordsV .u64 l)) := Lib.hid (by have := hw2.own; rwa [HLEN.out] at this)
          have HW2 := Lib.hid hw2
          have HNV := Lib.hid hnv
          clear hw2 hb2 hnv HC1
          go_wp2_with (refine wpList_append_one sl_u64 rfl rfl HO2.out rfl rfl rfl rfl (by unfold maxLen; omega) (by omega) (by have := HW2.out.st.h.lt; omega) ?_; intro A3 c3 w3 hown3 hg3 hn3; have HOWN3 := Lib.hid hown3; have HG3 := Lib.hid hg3; clear hown3 hg3 hn3)
          refine ⟨⟨t + 1, A3, c3, by omega, by omega, by go_num, rfl, ?_⟩, by simp [intOf]; omega⟩
          have h := HW2.out.app (v' := .slice A3 (t + 1) c3) (x := nv) (by rw [HLEN.out]; exact HOWN3.out) HG3.out
          rw [rowW, if_neg (show ¬ t < 16 by omega), ← HL.out, HNW.out, ← HNV.out]
          exact h
        · obtain rfl : t = 64 := by omega
          obtain ⟨g, rfl, hgb, hgl⟩ := (show OwnX wr (gf + 1) 40 1 (.slice A 64 c) 64 (wordsV .u64 (rowW F32 blk 64)) by have := hsw.own; rwa [rowW_length] at this).ptr (by omega)
          have hct : 64 ≤ c := by
            have ho : OwnX wr (gf + 1) 40 1 (.slice (some ⟨g, 0, none⟩) 64 c) 64 (wordsV .u64 (rowW F32 blk 64)) := by have := hsw.own; rwa [rowW_length] at this
            exact ho.le_cap
          obtain ⟨RW, hRW⟩ : ∃ x, x = rowW F32 blk 64 := ⟨_, rfl⟩
          have hlen : RW.length = 64 := by rw [hRW]; exact rowW_length _ _ _
          have hlw : ∀ i, RW.getD i 0 < 2 ^ 32 := by rw [hRW]; exact getD_lt (rowW_lt F32 (by decide) blk 64) (by decide)
          rw [← hRW] at hsw
          have hwx : (wordsV .u64 (s8L S)).length = 8 := rfl
          have HSW := Lib.hid hsw
          have HLEN := Lib.hid hlen
          have HRW := Lib.hid hRW
          have HLW := Lib.hid hlw
          clear hsw hlen hRW hlw
          go_wp2_with (refine wpList_append_rd (base := gf + 1) (n := 0) (v := .slice none 0 0) (xs := []) (news := wordsV .u64 (s8L S)) sl_u64 rfl rfl (OwnX.nil _ _ _ _) rfl rfl rfl HSW.out.st.rs (by intro u hu; simp [wordsV] at hu; obtain ⟨_, _, rfl⟩ := hu; rfl) (by unfold maxLen; omega) (by omega) (by have := HSW.out.st.h.lt; omega) ?_; intro A4 c4 w4 hown4 hg4 hn4; have HOWN4 := Lib.hid hown4; have HG4 := Lib.hid hg4; clear hown4 hg4 hn4)
          obtain ⟨g2, rfl, hgb2, hgl2⟩ := (show OwnX w4 (gf + 1) 40 1 (.slice A4 8 c4) 8 (wordsV .u64 (s8L S)) by simpa using HOWN4.out).ptr (by omega)
          have hsr : BkR w gf F32 p (some bad) blk (some sad) S (.slice (some ⟨g, 0, none⟩) 64 c) RW g2 c4 (mixTo F32 RW S 0) w4 := by
            have hnx := HSW.out.own
            have hg5 := HG4.out
            refine ⟨⟨HSW.out.st.keep (below_of_grown hg5 (by have := HSW.out.st.h.lt; omega) (by intro k hk; simp [Value.ownBlock] at hk)), hnx.kept hg5 (.inr (by simp [Value.ownBlock]))⟩, ?_⟩
            show OwnX w4 (gf + 1) 40 1 (.slice (some ⟨g2, 0, none⟩) 8 c4) 8 (wordsV .u64 (s8L S))
            simpa using HOWN4.out
          have HSR := Lib.hid hsr
          clear hsr HOWN4 HG4 HSW c1 hgb hgl hgb2 hgl2
          obtain ⟨wo2, rfl⟩ : ∃ wo2 : World, wo2 = w4 := ⟨_, rfl⟩
          go_wp2_with fail
          go_loopw [13, 14] (fun v i wr => ∃ t g2 c2 : Nat, t ≤ 64 ∧ i = .int .i64 t ∧ v = .slice (some ⟨g2, 0, none⟩) 8 c2 ∧ BkR w gf F32 p (some bad) blk (some sad) S (.slice (some ⟨g, 0, none⟩) 64 c) RW g2 c2 (mixTo F32 RW S t) wr) (fun _ i _ => 64 - (intOf i).toNat)
          case atStart => exact ⟨0, g2, c4, by omega, rfl, rfl, HSR.out⟩
          case round =>
            obtain ⟨t, g2, c2, ht, rfl, rfl, hsr⟩ := hrel
            have c1 := hsr.w.st.h.cell 1
            simp only [hv, hC, List.getElem?_toArray, List.getElem?_cons_zero, List.getElem?_cons_succ, F32] at c1
            have hc8 := hsr.le
            by_cases hlt : t < 64
            · have hlt' : (t : Int) < 64 := by omega
              obtain ⟨vv, hvv⟩ : ∃ x, x = mixTo F32 RW S t := ⟨_, rfl⟩
              have hvl : vv.Lt (2 ^ 32) := by rw [hvv]; exact mixTo_lt HS.out t
              rw [← hvv] at hsr
              have HVV := Lib.hid hvv
              obtain ⟨va, vb, vc, vd, ve, vf, vg, vh⟩ := vv
              have HL8 := Lib.hid hvl
              obtain ⟨wk, hwk⟩ : ∃ x, x = RW.getD t 0 := ⟨_, rfl⟩
              obtain ⟨kk, hkk⟩ : ∃ x, x = kN F32 t := ⟨_, rfl⟩
              obtain ⟨big, hbig⟩ : ∃ x : Nat, x = 18446744073709551615 := ⟨_, rfl⟩
              obtain ⟨on, hon⟩ : ∃ x, x = big % 2 ^ 32 := ⟨_, rfl⟩
              obtain ⟨XA, hXA⟩ : ∃ x, x = allF F32 ve F32.s1 false := ⟨_, rfl⟩
              obtain ⟨p1, hp1⟩ : ∃ x, x = (vh + XA) % 2 ^ 64 := ⟨_, rfl⟩
              obtain ⟨af, haf⟩ : ∃ x, x = ve &&& vf := ⟨_, rfl⟩
              obtain ⟨ne, hne⟩ : ∃ x, x = on ^^^ ve := ⟨_, rfl⟩
              obtain ⟨ng, hng⟩ : ∃ x, x = ne &&& vg := ⟨_, rfl⟩
              obtain ⟨ch, hch⟩ : ∃ x, x = af ^^^ ng := ⟨_, rfl⟩
              obtain ⟨p2, hp2⟩ : ∃ x, x = (p1 + ch) % 2 ^ 64 := ⟨_, rfl⟩
              obtain ⟨p3, hp3⟩ : ∃ x, x = (p2 + kk) % 2 ^ 64 := ⟨_, rfl⟩
              obtain ⟨p4, hp4⟩ : ∃ x, x = (p3 + wk) % 2 ^ 64 := ⟨_, rfl⟩
              obtain ⟨xx, hxx⟩ : ∃ x, x = p4 % 2 ^ 32 := ⟨_, rfl⟩
              obtain ⟨YA, hYA⟩ : ∃ x, x = allF F32 va F32.s0 false := ⟨_, rfl⟩
              obtain ⟨ab, hab⟩ : ∃ x, x = va &&& vb := ⟨_, rfl⟩
              obtain ⟨ac, hac⟩ : ∃ x, x = va &&& vc := ⟨_, rfl⟩
              obtain ⟨bc2, hbc2'⟩ : ∃ x, x = vb &&& vc := ⟨_, rfl⟩
              obtain ⟨x1, hx1⟩ : ∃ x, x = ab ^^^ ac := ⟨_, rfl⟩
              obtain ⟨mj, hmj⟩ : ∃ x, x = x1 ^^^ bc2 := ⟨_, rfl⟩
              obtain ⟨q1, hq1⟩ : ∃ x, x = (YA + mj) % 2 ^ 64 := ⟨_, rfl⟩
              obtain ⟨yy, hyy⟩ : ∃ x, x = q1 % 2 ^ 32 := ⟨_, rfl⟩
              obtain ⟨z1, hz1⟩ : ∃ x, x = (xx + yy) % 2 ^ 64 := ⟨_, rfl⟩
              obtain ⟨za, hza⟩ : ∃ x, x = z1 % 2 ^ 32 := ⟨_, rfl⟩
              obtain ⟨z2, hz2⟩ : ∃ x, x = (vd + xx) % 2 ^ 64 := ⟨_, rfl⟩
              obtain ⟨ze, hze⟩ : ∃ x, x = z2 % 2 ^ 32 := ⟨_, rfl⟩
              have lon : on < 2 ^ 64 := by rw [hon, hbig]; decide
              have l64 : ∀ z, z < 2 ^ 32 → z < 2 ^ 64 := fun z hz => Nat.lt_of_lt_of_le hz (by decide)
              have laf : af < 2 ^ 64 := by rw [haf]; exact and_lt (l64 _ hvl.e)
              have lne : ne < 2 ^ 64 := by rw [hne]; exact Nat.xor_lt_two_pow lon (l64 _ hvl.e)
              have lng : ng < 2 ^ 64 := by rw [hng]; exact and_lt lne
              have lab : ab < 2 ^ 64 := by rw [hab]; exact and_lt (l64 _ hvl.a)
              have lac : ac < 2 ^ 64 := by rw [hac]; exact and_lt (l64 _ hvl.a)
              have lbc : bc2 < 2 ^ 64 := by rw [hbc2']; exact and_lt (l64 _ hvl.b)
              have lx1 : x1 < 2 ^ 64 := by rw [hx1]; exact Nat.xor_lt_two_pow lab lac
              have hmx : mixX F32 ⟨va, vb, vc, vd, ve, vf, vg, vh⟩ kk wk = xx := by
                rw [hxx, hp4, hp3, hp2, hp1, hch, hng, hne, hon, hbig, haf, hXA]
                rw [show 18446744073709551615 % 2 ^ 32 = 2 ^ 32 - 1 by decide, ones_xor 32 ve hvl.e]
                exact mixX_r32 _ _ _ _ _
              have hmy : mixY F32 ⟨va, vb, vc, vd, ve, vf, vg, vh⟩ = yy := by
                rw [hyy, hq1, hmj, hx1, hab, hac, hbc2', hYA]
                exact mod_r32 _ _
              have hstp : stepS F32 ⟨va, vb, vc, vd, ve, vf, vg, vh⟩ kk wk = ⟨za, va, vb, vc, ze, ve, vf, vg⟩ := by
                have e1 : (xx + yy) % 2 ^ 32 = za := by rw [hza, hz1]; exact mod_r32 _ _
                have e2 : (vd + xx) % 2 ^ 32 = ze := by rw [hze, hz2]; exact mod_r32 _ _
                rw [stepS, hmx, hmy]
                show S8.mk ((xx + yy) % 2 ^ 32) va vb vc ((vd + xx) % 2 ^ 32) ve vf vg = _
                rw [e1, e2]
              have hm1 : mixTo F32 RW S (t + 1) = ⟨za, va, vb, vc, ze, ve, vf, vg⟩ := by rw [mixTo, ← HVV.out, ← hkk, ← hwk]; exact hstp
              have HM1 := Lib.hid hm1
              have LP4 : Hid (p4 < 18446744073709551616) := Lib.hid (by rw [hp4]; exact Nat.mod_lt _ (by decide))
              have LQ1 : Hid (q1 < 18446744073709551616) := Lib.hid (by rw [hq1]; exact Nat.mod_lt _ (by decide))
              have LZ1 : Hid (z1 < 18446744073709551616) := Lib.hid (by rw [hz1]; exact Nat.mod_lt _ (by decide))
              have LZ2 : Hid (z2 < 18446744073709551616) := Lib.hid (by rw [hz2]; exact Nat.mod_lt _ (by decide))
              have LON := Lib.hid lon
              have L64 := Lib.hid l64
              have LAF := Lib.hid laf
              have LNE := Lib.hid lne
              have LNG := Lib.hid lng
              have LAB := Lib.hid lab
              have LAC := Lib.hid lac
              have LBC := Lib.hid lbc
              have LX1 := Lib.hid lx1
              have HWK := Lib.hid hwk
              have HKK := Lib.hid hkk
              have HON := Lib.hid hon
              have HBIG := Lib.hid hbig
              have HXA := Lib.hid hXA
              have HP1 := Lib.hid hp1
              have HAF := Lib.hid haf
              have HNE := Lib.hid hne
              have HNG := Lib.hid hng
              have HCH := Lib.hid hch
              have HP2 := Lib.hid hp2
              have HP3 := Lib.hid hp3
              have HP4 := Lib.hid hp4
              have HXX := Lib.hid hxx
              have HYA := Lib.hid hYA
              have HAB := Lib.hid hab
              have HAC := Lib.hid hac
              have HBC := Lib.hid hbc2'
              have HX1 := Lib.hid hx1
              have HMJ := Lib.hid hmj
              have HQ1 := Lib.hid hq1
              have HYY := Lib.hid hyy
              have HZ1 := Lib.hid hz1
              have HZA := Lib.hid hza
              have HZ2 := Lib.hid hz2
              have HZE := Lib.hid hze
              have hu := Tryd.underlying38
              have d4 := hsr.r.atN (i := 4) (v := .int .u64 (ve : Int)) rfl
              have d0 := hsr.r.atN (i := 0) (v := .int .u64 (va : Int)) rfl
              have HSR2 := Lib.hid hsr
              clear hvv hvl hwk hkk hon hbig hXA hp1 haf hne hng hch hp2 hp3 hp4 hxx hYA hab hac hbc2' hx1 hmj hq1 hyy hz1 hza hz2 hze lon l64 laf lne lng lab lac lbc lx1 hmx hmy hstp hm1 hsr HSR
              go_wp2_with (refine wpList_get_box (x := .tmp 3) HSR2.out.w.st.h rfl rfl rfl hu rfl h_size ?_)
              have hlo := low_any 32 64 (.slice (some p.a) 3 p.ca) (.slice (some p.b) 3 p.cb) (.slice (some p.c) 3 p.cc) (.slice (some p.d) 3 p.cd) (.slice (some p.k) 64 p.ck) (.slice (some p.f) 8 p.cf) wr (.inl rfl) big (by rw [HBIG.out]; decide)
              rw [← HON.out, show (big : Int) = 18446744073709551615 by rw [HBIG.out]; rfl] at hlo
              refine calls_then hlo ?_
              rintro e w2 ⟨rfl, hb2⟩
              have hsr2 := HSR2.out.next hb2
              clear hlo hb2 HSR2 d4 d0
              go_wp2_with fail
              have HC0 := hsr2.drew
              clear hsr2
              refine wp_region_det (fun u => BkR w gf F32 p (some bad) blk (some sad) S (.slice (some ⟨g, 0, none⟩) 64 c) RW g2 c2 ⟨va, vb, vc, vd, ve, vf, vg, vh⟩ u) (fun u => BkR w gf F32 p (some bad) blk (some sad) S (.slice (some ⟨g, 0, none⟩) 64 c) RW g2 c2 ⟨va, vb, vc, vd, ve, vf, vg, vh⟩ u) [(0, some 111), (1, some 112), (2, some 113), (3, some 114), (4, some 115), (5, some 116), (6, some 117), (7, some 118), (8, some 119), (9, some 120), (10, some 121), (11, some 122), (12, some 123), (13, some 124), (14, some 125), (15, some 126), (16, some 127), (17, some 128), (18, some 129), (19, some 130), (20, some 131), (21, some 132), (22, some 133), (23, some 134), (24, some 135), (25, some 136), (26, some 137), (27, some 138), (28, some 139), (29, some 140), (30, some 141), (31, some 142), (32, some 143), (33, some 144), (34, some 145), (35, some 146), (36, some 18)] (by kernel_rfl) (by kernel_rfl) (by decide) (by kernel_rfl) (fun _ => rfl) HC0 ?_
              apply DetL.next
              · -- 0: Op.load 38 (Operand.tmp 3)
                apply detStep_plain []
                exact fun _ => rfl
                rfl
                rintro vals - w1 hC1 E hE
                simp only [puts, act_put, act_put_none, List.setIfInBounds_toArray, List.set_cons_zero, List.set_cons_succ] at hE ⊢
                refine wpList_get_box hC1.w.st.h rfl rfl rfl hu rfl h_size ?_
                go_wp2_with fail
                exact .mk (hE _ hC1)
              apply DetL.next
              · -- 1: Op.move (Operand.tmp 13)
                apply detStep_plain []
                exact fun _ => rfl
                rfl
                rintro vals ⟨-, -⟩ w1 hC1 E hE
                simp only [puts, act_put, act_put_none, List.setIfInBounds_toArray, List.set_cons_zero, List.set_cons_succ] at hE ⊢
                go_wp2
                exact .mk (hE _ hC1)
              apply DetL.next
              · -- 2: Op.indexAddr 36 (Operand.tmp 112) (Operand.const (Value.int IntKind.i64 7))
                apply detStep_plain [(1, some 112)]
                exact fun _ => rfl
                rfl
                rintro vals ⟨⟨-, -⟩, f1⟩ w1 hC1 E hE
                simp only [puts, act_put, act_put_none, List.setIfInBounds_toArray, List.set_cons_zero, List.set_cons_succ, f1] at hE ⊢
                clear f1
                go_wp2
                exact .mk (hE _ hC1)
              apply DetL.next
              · -- 3: Op.load 40 (Operand.tmp 113)
                apply detStep_plain [(2, some 113)]
                exact fun _ => rfl
                rfl
                rintro vals ⟨⟨⟨-, -⟩, -⟩, f2⟩ w1 hC1 E hE
                have d0 := hC1.r.atN (i := 7) (v := .int .u64 (vh : Int)) rfl
                simp only [puts, act_put, act_put_none, List.setIfInBounds_toArray, List.set_cons_zero, List.set_cons_succ, f2] at hE ⊢
                clear f2
                go_wp2
                exact .mk (hE _ hC1)
              apply DetL.next
              · -- 4: Op.load 38 (Operand.tmp 3)
                apply detStep_plain []
                exact fun _ => rfl
                rfl
                rintro vals ⟨⟨⟨⟨-, -⟩, -⟩, -⟩, -⟩ w1 hC1 E hE
                simp only [puts, act_put, act_put_none, List.setIfInBounds_toArray, List.set_cons_zero, List.set_cons_succ] at hE ⊢
                refine wpList_get_box hC1.w.st.h rfl rfl rfl hu rfl h_size ?_
                go_wp2_with fail
                exact .mk (hE _ hC1)
              apply DetL.next
              · -- 5: Op.move (Operand.tmp 15)
                apply detStep_plain []
                exact fun _ => rfl
                rfl
                rintro vals ⟨⟨⟨⟨⟨-, -⟩, -⟩, -⟩, -⟩, -⟩ w1 hC1 E hE
                simp only [puts, act_put, act_put_none, List.setIfInBounds_toArray, List.set_cons_zero, List.set_cons_succ] at hE ⊢
                go_wp2
                exact .mk (hE _ hC1)
              apply DetL.next
              · -- 6: Op.fieldAddr 38 (Operand.tmp 3) 3
                apply detStep_plain []
                exact fun _ => rfl
                rfl
                rintro vals ⟨⟨⟨⟨⟨⟨-, -⟩, -⟩, -⟩, -⟩, -⟩, -⟩ w1 hC1 E hE
                simp only [puts, act_put, act_put_none, List.setIfInBounds_toArray, List.set_cons_zero, List.set_cons_succ] at hE ⊢
                go_wp2
                exact .mk (hE _ hC1)
              apply DetL.next
              · -- 7: Op.load 35 (Operand.tmp 117)
                apply detStep_plain [(6, some 117)]
                exact fun _ => rfl
                rfl
                rintro vals ⟨⟨⟨⟨⟨⟨⟨-, -⟩, -⟩, -⟩, -⟩, -⟩, -⟩, f6⟩ w1 hC1 E hE
                have d0 := hC1.w.st.h.cell 3
                simp [hv, hC] at d0
                simp only [puts, act_put, act_put_none, List.setIfInBounds_toArray, List.set_cons_zero, List.set_cons_succ, f6] at hE ⊢
                clear f6
                go_wp2
                exact .mk (hE _ hC1)
              apply DetL.next
              · -- 8: Op.call { callee := Callee.value (Operand.func 34), args := #[Operand.tmp 115, Operand.tmp 116, Operand.tmp 11
                apply detStep_plain [(4, some 115), (5, some 116), (7, some 118)]
                exact fun _ => rfl
                rfl
                rintro vals ⟨⟨⟨⟨⟨⟨⟨⟨-, -⟩, -⟩, -⟩, -⟩, f4⟩, f5⟩, -⟩, f7⟩ w1 hC1 E hE
                simp only [puts, act_put, act_put_none, List.setIfInBounds_toArray, List.set_cons_zero, List.set_cons_succ, f4, f5, f7] at hE ⊢
                clear f4 f5 f7
                go_wp2_with fail
                refine calls_then (mixed_any 32 64 _ _ _ _ _ _ _ (.inl rfl) ve _ _ _ false HL8.out.e (by decide) (by decide) (by decide) _ _ gf hC1.w.st.ok.b (by have := hC1.w.st.h.lt; omega) hC1.w.st.ok.cb) ?_
                rintro e w2 ⟨rfl, hb2⟩
                rw [show allN 32 ve _ _ _ false = XA from HXA.out.symm]
                go_wp2_with fail
                exact .mk (hE _ (hC1.next hb2))
              apply DetL.next
              · -- 9: Op.binOp BinOp.add 40 (Operand.tmp 114) (Operand.tmp 119) 40
                apply detStep_plain [(3, some 114), (8, some 119)]
                exact fun _ => rfl
                rfl
                rintro vals ⟨⟨⟨⟨⟨⟨⟨⟨⟨-, -⟩, -⟩, -⟩, f3⟩, -⟩, -⟩, -⟩, -⟩, f8⟩ w1 hC1 E hE
                simp only [puts, act_put, act_put_none, List.setIfInBounds_toArray, List.set_cons_zero, List.set_cons_succ, f3, f8] at hE ⊢
                clear f3 f8
                go_wp2
                rw [add2_64 vh XA, ← HP1.out]
                exact .mk (hE _ hC1)
              apply DetL.next
              · -- 10: Op.move (Operand.tmp 15)
                apply detStep_plain []
                exact fun _ => rfl
                rfl
                rintro vals ⟨⟨⟨⟨⟨⟨⟨⟨⟨⟨-, -⟩, -⟩, -⟩, -⟩, -⟩, -⟩, -⟩, -⟩, -⟩, -⟩ w1 hC1 E hE
                simp only [puts, act_put, act_put_none, List.setIfInBounds_toArray, List.set_cons_zero, List.set_cons_succ] at hE ⊢
                go_wp2
                exact .mk (hE _ hC1)
              apply DetL.next
              · -- 11: Op.move (Operand.tmp 13)
                apply detStep_plain []
                exact fun _ => rfl
                rfl
                rintro vals ⟨⟨⟨⟨⟨⟨⟨⟨⟨⟨⟨-, -⟩, -⟩, -⟩, -⟩, -⟩, -⟩, -⟩, -⟩, -⟩, -⟩, -⟩ w1 hC1 E hE
                simp only [puts, act_put, act_put_none, List.setIfInBounds_toArray, List.set_cons_zero, List.set_cons_succ] at hE ⊢
                go_wp2
                exact .mk (hE _ hC1)
              apply DetL.next
              · -- 12: Op.indexAddr 36 (Operand.tmp 122) (Operand.const (Value.int IntKind.i64 5))
                apply detStep_plain [(11, some 122)]
                exact fun _ => rfl
                rfl
                rintro vals ⟨⟨⟨⟨⟨⟨⟨⟨⟨⟨⟨⟨-, -⟩, -⟩, -⟩, -⟩, -⟩, -⟩, -⟩, -⟩, -⟩, -⟩, -⟩, f11⟩ w1 hC1 E hE
                simp only [puts, act_put, act_put_none, List.setIfInBounds_toArray, List.set_cons_zero, List.set_cons_succ, f11] at hE ⊢
                clear f11
                go_wp2
                exact .mk (hE _ hC1)
              apply DetL.next
              · -- 13: Op.load 40 (Operand.tmp 123)
                apply detStep_plain [(12, some 123)]
                exact fun _ => rfl
                rfl
                rintro vals ⟨⟨⟨⟨⟨⟨⟨⟨⟨⟨⟨⟨⟨-, -⟩, -⟩, -⟩, -⟩, -⟩, -⟩, -⟩, -⟩, -⟩, -⟩, -⟩, -⟩, f12⟩ w1 hC1 E hE
                have d0 := hC1.r.atN (i := 5) (v := .int .u64 (vf : Int)) rfl
                simp only [puts, act_put, act_put_none, List.setIfInBounds_toArray, List.set_cons_zero, List.set_cons_succ, f12] at hE ⊢
                clear f12
                go_wp2
                exact .mk (hE _ hC1)
              apply DetL.next
              · -- 14: Op.binOp BinOp.and 40 (Operand.tmp 121) (Operand.tmp 124) 40
                apply detStep_plain [(10, some 121), (13, some 124)]
                exact fun _ => rfl
                rfl
                rintro vals ⟨⟨⟨⟨⟨⟨⟨⟨⟨⟨⟨⟨⟨⟨-, -⟩, -⟩, -⟩, -⟩, -⟩, -⟩, -⟩, -⟩, -⟩, -⟩, f10⟩, -⟩, -⟩, f13⟩ w1 hC1 E hE
                simp only [puts, act_put, act_put_none, List.setIfInBounds_toArray, List.set_cons_zero, List.set_cons_succ, f10, f13] at hE ⊢
                clear f10 f13
                go_wp2
                rw [and64 ve vf (L64.out _ HL8.out.e) (L64.out _ HL8.out.f), ← HAF.out]
                exact .mk (hE _ hC1)
              apply DetL.next
              · -- 15: Op.move (Operand.tmp 17)
                apply detStep_plain []
                exact fun _ => rfl
                rfl
                rintro vals ⟨⟨⟨⟨⟨⟨⟨⟨⟨⟨⟨⟨⟨⟨⟨-, -⟩, -⟩, -⟩, -⟩, -⟩, -⟩, -⟩, -⟩, -⟩, -⟩, -⟩, -⟩, -⟩, -⟩, -⟩ w1 hC1 E hE
                simp only [puts, act_put, act_put_none, List.setIfInBounds_toArray, List.set_cons_zero, List.set_cons_succ] at hE ⊢
                go_wp2
                exact .mk (hE _ hC1)
              apply DetL.next
              · -- 16: Op.move (Operand.tmp 15)
                apply detStep_plain []
                exact fun _ => rfl
                rfl
                rintro vals ⟨⟨⟨⟨⟨⟨⟨⟨⟨⟨⟨⟨⟨⟨⟨⟨-, -⟩, -⟩, -⟩, -⟩, -⟩, -⟩, -⟩, -⟩, -⟩, -⟩, -⟩, -⟩, -⟩, -⟩, -⟩, -⟩ w1 hC1 E hE
                simp only [puts, act_put, act_put_none, List.setIfInBounds_toArray, List.set_cons_zero, List.set_cons_succ] at hE ⊢
                go_wp2
                exact .mk (hE _ hC1)
              apply DetL.next
              · -- 17: Op.binOp BinOp.xor 40 (Operand.tmp 126) (Operand.tmp 127) 40
                apply detStep_plain [(15, some 126), (16, some 127)]
                exact fun _ => rfl
                rfl
                rintro vals ⟨⟨⟨⟨⟨⟨⟨⟨⟨⟨⟨⟨⟨⟨⟨⟨⟨-, -⟩, -⟩, -⟩, -⟩, -⟩, -⟩, -⟩, -⟩, -⟩, -⟩, -⟩, -⟩, -⟩, -⟩, -⟩, f15⟩, f16⟩ w1 hC1 E hE
                simp only [puts, act_put, act_put_none, List.setIfInBounds_toArray, List.set_cons_zero, List.set_cons_succ, f15, f16] at hE ⊢
                clear f15 f16
                go_wp2
                rw [xor64 on ve LON.out (L64.out _ HL8.out.e), ← HNE.out]
                exact .mk (hE _ hC1)
              apply DetL.next
              · -- 18: Op.move (Operand.tmp 13)
                apply detStep_plain []
                exact fun _ => rfl
                rfl
                rintro vals ⟨⟨⟨⟨⟨⟨⟨⟨⟨⟨⟨⟨⟨⟨⟨⟨⟨⟨-, -⟩, -⟩, -⟩, -⟩, -⟩, -⟩, -⟩, -⟩, -⟩, -⟩, -⟩, -⟩, -⟩, -⟩, -⟩, -⟩, -⟩, -⟩ w1 hC1 E hE
                simp only [puts, act_put, act_put_none, List.setIfInBounds_toArray, List.set_cons_zero, List.set_cons_succ] at hE ⊢
                go_wp2
                exact .mk (hE _ hC1)
              apply DetL.next
              · -- 19: Op.indexAddr 36 (Operand.tmp 129) (Operand.const (Value.int IntKind.i64 6))
                apply detStep_plain [(18, some 129)]
                exact fun _ => rfl
                rfl
                rintro vals ⟨⟨⟨⟨⟨⟨⟨⟨⟨⟨⟨⟨⟨⟨⟨⟨⟨⟨⟨-, -⟩, -⟩, -⟩, -⟩, -⟩, -⟩, -⟩, -⟩, -⟩, -⟩, -⟩, -⟩, -⟩, -⟩, -⟩, -⟩, -⟩, -⟩, f18⟩ w1 hC1 E hE
                simp only [puts, act_put, act_put_none, List.setIfInBounds_toArray, List.set_cons_zero, List.set_cons_succ, f18] at hE ⊢
                clear f18
                go_wp2
                exact .mk (hE _ hC1)
              apply DetL.next
              · -- 20: Op.load 40 (Operand.tmp 130)
                apply detStep_plain [(19, some 130)]
                exact fun _ => rfl
                rfl
                rintro vals ⟨⟨⟨⟨⟨⟨⟨⟨⟨⟨⟨⟨⟨⟨⟨⟨⟨⟨⟨⟨-, -⟩, -⟩, -⟩, -⟩, -⟩, -⟩, -⟩, -⟩, -⟩, -⟩, -⟩, -⟩, -⟩, -⟩, -⟩, -⟩, -⟩, -⟩, -⟩, f19⟩ w1 hC1 E hE
                have d0 := hC1.r.atN (i := 6) (v := .int .u64 (vg : Int)) rfl
                simp only [puts, act_put, act_put_none, List.setIfInBounds_toArray, List.set_cons_zero, List.set_cons_succ, f19] at hE ⊢
                clear f19
                go_wp2
                exact .mk (hE _ hC1)
              apply DetL.next
              · -- 21: Op.binOp BinOp.and 40 (Operand.tmp 128) (Operand.tmp 131) 40
                apply detStep_plain [(17, some 128), (20, some 131)]
                exact fun _ => rfl
                rfl
                rintro vals ⟨⟨⟨⟨⟨⟨⟨⟨⟨⟨⟨⟨⟨⟨⟨⟨⟨⟨⟨⟨⟨-, -⟩, -⟩, -⟩, -⟩, -⟩, -⟩, -⟩, -⟩, -⟩, -⟩, -⟩, -⟩, -⟩, -⟩, -⟩, -⟩, -⟩, f17⟩, -⟩, -⟩, f20⟩ w1 hC1 E hE
                simp only [puts, act_put, act_put_none, List.setIfInBounds_toArray, List.set_cons_zero, List.set_cons_succ, f17, f20] at hE ⊢
                clear f17 f20
                go_wp2
                rw [and64 ne vg LNE.out (L64.out _ HL8.out.g), ← HNG.out]
                exact .mk (hE _ hC1)
              apply DetL.next
              · -- 22: Op.binOp BinOp.xor 40 (Operand.tmp 125) (Operand.tmp 132) 40
                apply detStep_plain [(14, some 125), (21, some 132)]
                exact fun _ => rfl
                rfl
                rintro vals ⟨⟨⟨⟨⟨⟨⟨⟨⟨⟨⟨⟨⟨⟨⟨⟨⟨⟨⟨⟨⟨⟨-, -⟩, -⟩, -⟩, -⟩, -⟩, -⟩, -⟩, -⟩, -⟩, -⟩, -⟩, -⟩, -⟩, -⟩, f14⟩, -⟩, -⟩, -⟩, -⟩, -⟩, -⟩, f21⟩ w1 hC1 E hE
                simp only [puts, act_put, act_put_none, List.setIfInBounds_toArray, List.set_cons_zero, List.set_cons_succ, f14, f21] at hE ⊢
                clear f14 f21
                go_wp2
                rw [xor64 af ng LAF.out LNG.out, ← HCH.out]
                exact .mk (hE _ hC1)
              apply DetL.next
              · -- 23: Op.binOp BinOp.add 40 (Operand.tmp 120) (Operand.tmp 133) 40
                apply detStep_plain [(9, some 120), (22, some 133)]
                exact fun _ => rfl
                rfl
                rintro vals ⟨⟨⟨⟨⟨⟨⟨⟨⟨⟨⟨⟨⟨⟨⟨⟨⟨⟨⟨⟨⟨⟨⟨-, -⟩, -⟩, -⟩, -⟩, -⟩, -⟩, -⟩, -⟩, -⟩, f9⟩, -⟩, -⟩, -⟩, -⟩, -⟩, -⟩, -⟩, -⟩, -⟩, -⟩, -⟩, -⟩, f22⟩ w1 hC1 E hE
                simp only [puts, act_put, act_put_none, List.setIfInBounds_toArray, List.set_cons_zero, List.set_cons_succ, f9, f22] at hE ⊢
                clear f9 f22
                go_wp2
                rw [add2_64 p1 ch, ← HP2.out]
                exact .mk (hE _ hC1)
              apply DetL.next
              · -- 24: Op.fieldAddr 38 (Operand.tmp 3) 6
                apply detStep_plain []
                exact fun _ => rfl
                rfl
                rintro vals ⟨⟨⟨⟨⟨⟨⟨⟨⟨⟨⟨⟨⟨⟨⟨⟨⟨⟨⟨⟨⟨⟨⟨⟨-, -⟩, -⟩, -⟩, -⟩, -⟩, -⟩, -⟩, -⟩, -⟩, -⟩, -⟩, -⟩, -⟩, -⟩, -⟩, -⟩, -⟩, -⟩, -⟩, -⟩, -⟩, -⟩, -⟩, -⟩ w1 hC1 E hE
                simp only [puts, act_put, act_put_none, List.setIfInBounds_toArray, List.set_cons_zero, List.set_cons_succ] at hE ⊢
                go_wp2
                exact .mk (hE _ hC1)
              apply DetL.next
              · -- 25: Op.load 36 (Operand.tmp 135)
                apply detStep_plain [(24, some 135)]
                exact fun _ => rfl
                rfl
                rintro vals ⟨⟨⟨⟨⟨⟨⟨⟨⟨⟨⟨⟨⟨⟨⟨⟨⟨⟨⟨⟨⟨⟨⟨⟨⟨-, -⟩, -⟩, -⟩, -⟩, -⟩, -⟩, -⟩, -⟩, -⟩, -⟩, -⟩, -⟩, -⟩, -⟩, -⟩, -⟩, -⟩, -⟩, -⟩, -⟩, -⟩, -⟩, -⟩, -⟩, f24⟩ w1 hC1 E hE
                have d0 := hC1.w.st.h.cell 6
                simp [hv, hC] at d0
                simp only [puts, act_put, act_put_none, List.setIfInBounds_toArray, List.set_cons_zero, List.set_cons_succ, f24] at hE ⊢
                clear f24
                go_wp2
                exact .mk (hE _ hC1)
              apply DetL.next
              · -- 26: Op.move (Operand.tmp 14)
                apply detStep_plain []
                exact fun _ => rfl
                rfl
                rintro vals ⟨⟨⟨⟨⟨⟨⟨⟨⟨⟨⟨⟨⟨⟨⟨⟨⟨⟨⟨⟨⟨⟨⟨⟨⟨⟨-, -⟩, -⟩, -⟩, -⟩, -⟩, -⟩, -⟩, -⟩, -⟩, -⟩, -⟩, -⟩, -⟩, -⟩, -⟩, -⟩, -⟩, -⟩, -⟩, -⟩, -⟩, -⟩, -⟩, -⟩, -⟩, -⟩ w1 hC1 E hE
                simp only [puts, act_put, act_put_none, List.setIfInBounds_toArray, List.set_cons_zero, List.set_cons_succ] at hE ⊢
                go_wp2
                exact .mk (hE _ hC1)
              apply DetL.next
              · -- 27: Op.indexAddr 36 (Operand.tmp 136) (Operand.tmp 137)
                apply detStep_plain [(25, some 136), (26, some 137)]
                exact fun _ => rfl
                rfl
                rintro vals ⟨⟨⟨⟨⟨⟨⟨⟨⟨⟨⟨⟨⟨⟨⟨⟨⟨⟨⟨⟨⟨⟨⟨⟨⟨⟨⟨-, -⟩, -⟩, -⟩, -⟩, -⟩, -⟩, -⟩, -⟩, -⟩, -⟩, -⟩, -⟩, -⟩, -⟩, -⟩, -⟩, -⟩, -⟩, -⟩, -⟩, -⟩, -⟩, -⟩, -⟩, -⟩, f25⟩, f26⟩ w1 hC1 E hE
                have hck := hC1.w.st.ok.ck
                dsimp only [F32] at hck
                simp only [puts, act_put, act_put_none, List.setIfInBounds_toArray, List.set_cons_zero, List.set_cons_succ, f25, f26] at hE ⊢
                clear f25 f26
                go_wp2
                exact .mk (hE _ hC1)
              apply DetL.next
              · -- 28: Op.load 40 (Operand.tmp 138)
                apply detStep_plain [(27, some 138)]
                exact fun _ => rfl
                rfl
                rintro vals ⟨⟨⟨⟨⟨⟨⟨⟨⟨⟨⟨⟨⟨⟨⟨⟨⟨⟨⟨⟨⟨⟨⟨⟨⟨⟨⟨⟨-, -⟩, -⟩, -⟩, -⟩, -⟩, -⟩, -⟩, -⟩, -⟩, -⟩, -⟩, -⟩, -⟩, -⟩, -⟩, -⟩, -⟩, -⟩, -⟩, -⟩, -⟩, -⟩, -⟩, -⟩, -⟩, -⟩, -⟩, f27⟩ w1 hC1 E hE
                have d0 := hC1.w.st.ok.k.val (k := t) (v := .int .u64 (kk : Int)) (by rw [HKK.out, wordsV, List.getElem?_map, kL_get _ _ hlt]; rfl)
                simp only [puts, act_put, act_put_none, List.setIfInBounds_toArray, List.set_cons_zero, List.set_cons_succ, f27] at hE ⊢
                clear f27
                go_wp2
                exact .mk (hE _ hC1)
              apply DetL.next
              · -- 29: Op.binOp BinOp.add 40 (Operand.tmp 134) (Operand.tmp 139) 40
                apply detStep_plain [(23, some 134), (28, some 139)]
                exact fun _ => rfl
                rfl
                rintro vals ⟨⟨⟨⟨⟨⟨⟨⟨⟨⟨⟨⟨⟨⟨⟨⟨⟨⟨⟨⟨⟨⟨⟨⟨⟨⟨⟨⟨⟨-, -⟩, -⟩, -⟩, -⟩, -⟩, -⟩, -⟩, -⟩, -⟩, -⟩, -⟩, -⟩, -⟩, -⟩, -⟩, -⟩, -⟩, -⟩, -⟩, -⟩, -⟩, -⟩, -⟩, f23⟩, -⟩, -⟩, -⟩, -⟩, f28⟩ w1 hC1 E hE
                simp only [puts, act_put, act_put_none, List.setIfInBounds_toArray, List.set_cons_zero, List.set_cons_succ, f23, f28] at hE ⊢
                clear f23 f28
                go_wp2
                rw [add2_64 p2 kk, ← HP3.out]
                exact .mk (hE _ hC1)
              apply DetL.next
              · -- 30: Op.move (Operand.tmp 7)
                apply detStep_plain []
                exact fun _ => rfl
                rfl
                rintro vals ⟨⟨⟨⟨⟨⟨⟨⟨⟨⟨⟨⟨⟨⟨⟨⟨⟨⟨⟨⟨⟨⟨⟨⟨⟨⟨⟨⟨⟨⟨-, -⟩, -⟩, -⟩, -⟩, -⟩, -⟩, -⟩, -⟩, -⟩, -⟩, -⟩, -⟩, -⟩, -⟩, -⟩, -⟩, -⟩, -⟩, -⟩, -⟩, -⟩, -⟩, -⟩, -⟩, -⟩, -⟩, -⟩, -⟩, -⟩, -⟩ w1 hC1 E hE
                simp only [puts, act_put, act_put_none, List.setIfInBounds_toArray, List.set_cons_zero, List.set_cons_succ] at hE ⊢
                go_wp2
                exact .mk (hE _ hC1)
              apply DetL.next
              · -- 31: Op.move (Operand.tmp 14)
                apply detStep_plain []
                exact fun _ => rfl
                rfl
                rintro vals ⟨⟨⟨⟨⟨⟨⟨⟨⟨⟨⟨⟨⟨⟨⟨⟨⟨⟨⟨⟨⟨⟨⟨⟨⟨⟨⟨⟨⟨⟨⟨-, -⟩, -⟩, -⟩, -⟩, -⟩, -⟩, -⟩, -⟩, -⟩, -⟩, -⟩, -⟩, -⟩, -⟩, -⟩, -⟩, -⟩, -⟩, -⟩, -⟩, -⟩, -⟩, -⟩, -⟩, -⟩, -⟩, -⟩, -⟩, -⟩, -⟩, -⟩ w1 hC1 E hE
                simp only [puts, act_put, act_put_none, List.setIfInBounds_toArray, List.set_cons_zero, List.set_cons_succ] at hE ⊢
                go_wp2
                exact .mk (hE _ hC1)
              apply DetL.next
              · -- 32: Op.indexAddr 36 (Operand.tmp 141) (Operand.tmp 142)
                apply detStep_plain [(30, some 141), (31, some 142)]
                exact fun _ => rfl
                rfl
                rintro vals ⟨⟨⟨⟨⟨⟨⟨⟨⟨⟨⟨⟨⟨⟨⟨⟨⟨⟨⟨⟨⟨⟨⟨⟨⟨⟨⟨⟨⟨⟨⟨⟨-, -⟩, -⟩, -⟩, -⟩, -⟩, -⟩, -⟩, -⟩, -⟩, -⟩, -⟩, -⟩, -⟩, -⟩, -⟩, -⟩, -⟩, -⟩, -⟩, -⟩, -⟩, -⟩, -⟩, -⟩, -⟩, -⟩, -⟩, -⟩, -⟩, -⟩, f30⟩, f31⟩ w1 hC1 E hE
                simp only [puts, act_put, act_put_none, List.setIfInBounds_toArray, List.set_cons_zero, List.set_cons_succ, f30, f31] at hE ⊢
                clear f30 f31
                go_wp2
                exact .mk (hE _ hC1)
              apply DetL.next
              · -- 33: Op.load 40 (Operand.tmp 143)
                apply detStep_plain [(32, some 143)]
                exact fun _ => rfl
                rfl
                rintro vals ⟨⟨⟨⟨⟨⟨⟨⟨⟨⟨⟨⟨⟨⟨⟨⟨⟨⟨⟨⟨⟨⟨⟨⟨⟨⟨⟨⟨⟨⟨⟨⟨⟨-, -⟩, -⟩, -⟩, -⟩, -⟩, -⟩, -⟩, -⟩, -⟩, -⟩, -⟩, -⟩, -⟩, -⟩, -⟩, -⟩, -⟩, -⟩, -⟩, -⟩, -⟩, -⟩, -⟩, -⟩, -⟩, -⟩, -⟩, -⟩, -⟩, -⟩, -⟩, -⟩, f32⟩ w1 hC1 E hE
                have d0 := hC1.w.at_ (i := t) HLEN.out hlt
                rw [← HWK.out] at d0
                simp only [puts, act_put, act_put_none, List.setIfInBounds_toArray, List.set_cons_zero, List.set_cons_succ, f32] at hE ⊢
                clear f32
                go_wp2
                exact .mk (hE _ hC1)
              apply DetL.next
              · -- 34: Op.binOp BinOp.add 40 (Operand.tmp 140) (Operand.tmp 144) 40
                apply detStep_plain [(29, some 140), (33, some 144)]
                exact fun _ => rfl
                rfl
                rintro vals ⟨⟨⟨⟨⟨⟨⟨⟨⟨⟨⟨⟨⟨⟨⟨⟨⟨⟨⟨⟨⟨⟨⟨⟨⟨⟨⟨⟨⟨⟨⟨⟨⟨⟨-, -⟩, -⟩, -⟩, -⟩, -⟩, -⟩, -⟩, -⟩, -⟩, -⟩, -⟩, -⟩, -⟩, -⟩, -⟩, -⟩, -⟩, -⟩, -⟩, -⟩, -⟩, -⟩, -⟩, -⟩, -⟩, -⟩, -⟩, -⟩, -⟩, f29⟩, -⟩, -⟩, -⟩, f33⟩ w1 hC1 E hE
                simp only [puts, act_put, act_put_none, List.setIfInBounds_toArray, List.set_cons_zero, List.set_cons_succ, f29, f33] at hE ⊢
                clear f29 f33
                go_wp2
                rw [add2_64 p3 wk, ← HP4.out]
                exact .mk (hE _ hC1)
              apply DetL.next
              · -- 35: Op.call { callee := Callee.value (Operand.func 35), args := #[Operand.tmp 111, Operand.tmp 145], argTypes := #
                apply detStep_plain [(0, some 111), (34, some 145), (8, some 119)]
                exact fun _ => rfl
                rfl
                rintro vals ⟨⟨⟨⟨⟨⟨⟨⟨⟨⟨⟨⟨⟨⟨⟨⟨⟨⟨⟨⟨⟨⟨⟨⟨⟨⟨⟨⟨⟨⟨⟨⟨⟨⟨⟨-, f0⟩, -⟩, -⟩, -⟩, -⟩, -⟩, -⟩, -⟩, f8⟩, -⟩, -⟩, -⟩, -⟩, -⟩, -⟩, -⟩, -⟩, -⟩, -⟩, -⟩, -⟩, -⟩, -⟩, -⟩, -⟩, -⟩, -⟩, -⟩, -⟩, -⟩, -⟩, -⟩, -⟩, -⟩, f34⟩ w1 hC1 E hE
                simp only [puts, act_put, act_put_none, List.setIfInBounds_toArray, List.set_cons_zero, List.set_cons_succ, f0, f8, f34] at hE ⊢
                clear f0 f8 f34
                go_wp2_with fail
                refine calls_then (low_any 32 64 _ _ _ _ _ _ _ (.inl rfl) p4 LP4.out) ?_
                rintro e w2 ⟨rfl, hb2⟩
                rw [← HXX.out]
                go_wp2_with fail
                exact .mk (hE _ (hC1.next hb2))
              apply DetL.last
              · -- 36: Op.assign (Operand.tmp 146)
                apply detStep_plain [(35, some 146), (35, some 146), (0, some 111), (1, some 112), (2, some 113), (3, some 114), (4, some 115), (5, some 116), (6, some 117), (7, some 118), (8, some 119), (9, some 120), (10, some 121), (11, some 122), (12, some 123), (13, some 124), (14, some 125), (15, some 126), (16, some 127), (17, some 128), (18, some 129), (19, some 130), (20, some 131), (21, some 132), (22, some 133), (23, some 134), (24, some 135), (25, some 136), (26, some 137), (27, some 138), (28, some 139), (29, some 140), (30, some 141), (31, some 142), (32, some 143), (33, some 144), (34, some 145), (35, some 146)]
                exact fun _ => rfl
                rfl
                rintro vals ⟨⟨⟨⟨⟨⟨⟨⟨⟨⟨⟨⟨⟨⟨⟨⟨⟨⟨⟨⟨⟨⟨⟨⟨⟨⟨⟨⟨⟨⟨⟨⟨⟨⟨⟨⟨-, f0⟩, f1⟩, f2⟩, f3⟩, f4⟩, f5⟩, f6⟩, f7⟩, f8⟩, f9⟩, f10⟩, f11⟩, f12⟩, f13⟩, f14⟩, f15⟩, f16⟩, f17⟩, f18⟩, f19⟩, f20⟩, f21⟩, f22⟩, f23⟩, f24⟩, f25⟩, f26⟩, f27⟩, f28⟩, f29⟩, f30⟩, f31⟩, f32⟩, f33⟩, f34⟩, f35⟩ w1 hC1 E hE
                simp only [puts, act_put, act_put_none, List.setIfInBounds_toArray, List.set_cons_zero, List.set_cons_succ, f0, f1, f2, f3, f4, f5, f6, f7, f8, f9, f10, f11, f12, f13, f14, f15, f16, f17, f18, f19, f20, f21, f22, f23, f24, f25, f26, f27, f28, f29, f30, f31, f32, f33, f34, f35] at hE ⊢
                clear f0 f1 f2 f3 f4 f5 f6 f7 f8 f9 f10 f11 f12 f13 f14 f15 f16 f17 f18 f19 f20 f21 f22 f23 f24 f25 f26 f27 f28 f29 f30 f31 f32 f33 f34 f35
                go_wp2
                exact .mk (hE _ hC1)
              rintro vals ⟨⟨⟨⟨⟨⟨⟨⟨⟨⟨⟨⟨⟨⟨⟨⟨⟨⟨⟨⟨⟨⟨⟨⟨⟨⟨⟨⟨⟨⟨⟨⟨⟨⟨⟨⟨⟨-, f0⟩, f1⟩, f2⟩, f3⟩, f4⟩, f5⟩, f6⟩, f7⟩, f8⟩, f9⟩, f10⟩, f11⟩, f12⟩, f13⟩, f14⟩, f15⟩, f16⟩, f17⟩, f18⟩, f19⟩, f20⟩, f21⟩, f22⟩, f23⟩, f24⟩, f25⟩, f26⟩, f27⟩, f28⟩, f29⟩, f30⟩, f31⟩, f32⟩, f33⟩, f34⟩, f35⟩, f36⟩ w1 hC1
              simp only [puts, act_put, act_put_none, List.setIfInBounds_toArray, List.set_cons_zero, List.set_cons_succ, f0, f1, f2, f3, f4, f5, f6, f7, f8, f9, f10, f11, f12, f13, f14, f15, f16, f17, f18, f19, f20, f21, f22, f23, f24, f25, f26, f27, f28, f29, f30, f31, f32, f33, f34, f35, f36]
              clear f0 f1 f2 f3 f4 f5 f6 f7 f8 f9 f10 f11 f12 f13 f14 f15 f16 f17 f18 f19 f20 f21 f22 f23 f24 f25 f26 f27 f28 f29 f30 f31 f32 f33 f34 f35 f36
              clear HC0
              go_wp2_with fail
              have HC0 := hC1.drew
              clear hC1
              refine wp_region_det (fun u => BkR w gf F32 p (some bad) blk (some sad) S (.slice (some ⟨g, 0, none⟩) 64 c) RW g2 c2 ⟨va, vb, vc, vd, ve, vf, vg, vh⟩ u) (fun u => BkR w gf F32 p (some bad) blk (some sad) S (.slice (some ⟨g, 0, none⟩) 64 c) RW g2 c2 ⟨va, vb, vc, vd, ve, vf, vg, vh⟩ u) [(0, some 147), (1, some 148), (2, some 149), (3, some 150), (4, some 151), (5, some 152), (6, some 153), (7, some 154), (8, some 155), (9, some 156), (10, some 157), (11, some 158), (12, some 159), (13, some 160), (14, some 161), (15, some 162), (16, some 163), (17, some 164), (18, some 165), (19, some 166), (20, some 167), (21, some 168), (22, some 169), (23, some 170), (24, some 171), (25, some 172), (26, some 173), (27, some 19)] (by kernel_rfl) (by kernel_rfl) (by decide) (by kernel_rfl) (fun _ => rfl) HC0 ?_
              apply DetL.next
              · -- 0: Op.load 38 (Operand.tmp 3)
                apply detStep_plain []
                exact fun _ => rfl
                rfl
                rintro vals - w1 hC1 E hE
                simp only [puts, act_put, act_put_none, List.setIfInBounds_toArray, List.set_cons_zero, List.set_cons_succ] at hE ⊢
                refine wpList_get_box hC1.w.st.h rfl rfl rfl hu rfl h_size ?_
                go_wp2_with fail
                exact .mk (hE _ hC1)
              apply DetL.next
              · -- 1: Op.load 38 (Operand.tmp 3)
                apply detStep_plain []
                exact fun _ => rfl
                rfl
                rintro vals ⟨-, -⟩ w1 hC1 E hE
                simp only [puts, act_put, act_put_none, List.setIfInBounds_toArray, List.set_cons_zero, List.set_cons_succ] at hE ⊢
                refine wpList_get_box hC1.w.st.h rfl rfl rfl hu rfl h_size ?_
                go_wp2_with fail
                exact .mk (hE _ hC1)
              apply DetL.next
              · -- 2: Op.move (Operand.tmp 16)
                apply detStep_plain []
                exact fun _ => rfl
                rfl
                rintro vals ⟨⟨-, -⟩, -⟩ w1 hC1 E hE
                simp only [puts, act_put, act_put_none, List.setIfInBounds_toArray, List.set_cons_zero, List.set_cons_succ] at hE ⊢
                go_wp2
                exact .mk (hE _ hC1)
              apply DetL.next
              · -- 3: Op.fieldAddr 38 (Operand.tmp 3) 2
                apply detStep_plain []
                exact fun _ => rfl
                rfl
                rintro vals ⟨⟨⟨-, -⟩, -⟩, -⟩ w1 hC1 E hE
                simp only [puts, act_put, act_put_none, List.setIfInBounds_toArray, List.set_cons_zero, List.set_cons_succ] at hE ⊢
                go_wp2
                exact .mk (hE _ hC1)
              apply DetL.next
              · -- 4: Op.load 35 (Operand.tmp 150)
                apply detStep_plain [(3, some 150)]
                exact fun _ => rfl
                rfl
                rintro vals ⟨⟨⟨⟨-, -⟩, -⟩, -⟩, f3⟩ w1 hC1 E hE
                have d0 := hC1.w.st.h.cell 2
                simp [hv, hC] at d0
                simp only [puts, act_put, act_put_none, List.setIfInBounds_toArray, List.set_cons_zero, List.set_cons_succ, f3] at hE ⊢
                clear f3
                go_wp2
                exact .mk (hE _ hC1)
              apply DetL.next
              · -- 5: Op.call { callee := Callee.value (Operand.func 34), args := #[Operand.tmp 148, Operand.tmp 149, Operand.tmp 15
                apply detStep_plain [(1, some 148), (2, some 149), (4, some 151)]
                exact fun _ => rfl
                rfl
                rintro vals ⟨⟨⟨⟨⟨-, -⟩, f1⟩, f2⟩, -⟩, f4⟩ w1 hC1 E hE
                simp only [puts, act_put, act_put_none, List.setIfInBounds_toArray, List.set_cons_zero, List.set_cons_succ, f1, f2, f4] at hE ⊢
                clear f1 f2 f4
                go_wp2_with fail
                refine calls_then (mixed_any 32 64 _ _ _ _ _ _ _ (.inl rfl) va _ _ _ false HL8.out.a (by decide) (by decide) (by decide) _ _ gf hC1.w.st.ok.a (by have := hC1.w.st.h.lt; omega) hC1.w.st.ok.ca) ?_
                rintro e w2 ⟨rfl, hb2⟩
                rw [show allN 32 va _ _ _ false = YA from HYA.out.symm]
                go_wp2_with fail
                exact .mk (hE _ (hC1.next hb2))
              apply DetL.next
              · -- 6: Op.move (Operand.tmp 16)
                apply detStep_plain []
                exact fun _ => rfl
                rfl
                rintro vals ⟨⟨⟨⟨⟨⟨-, -⟩, -⟩, -⟩, -⟩, -⟩, -⟩ w1 hC1 E hE
                simp only [puts, act_put, act_put_none, List.setIfInBounds_toArray, List.set_cons_zero, List.set_cons_succ] at hE ⊢
                go_wp2
                exact .mk (hE _ hC1)
              apply DetL.next
              · -- 7: Op.move (Operand.tmp 13)
                apply detStep_plain []
                exact fun _ => rfl
                rfl
                rintro vals ⟨⟨⟨⟨⟨⟨⟨-, -⟩, -⟩, -⟩, -⟩, -⟩, -⟩, -⟩ w1 hC1 E hE
                simp only [puts, act_put, act_put_none, List.setIfInBounds_toArray, List.set_cons_zero, List.set_cons_succ] at hE ⊢
                go_wp2
                exact .mk (hE _ hC1)
              apply DetL.next
              · -- 8: Op.indexAddr 36 (Operand.tmp 154) (Operand.const (Value.int IntKind.i64 1))
                apply detStep_plain [(7, some 154)]
                exact fun _ => rfl
                rfl
                rintro vals ⟨⟨⟨⟨⟨⟨⟨⟨-, -⟩, -⟩, -⟩, -⟩, -⟩, -⟩, -⟩, f7⟩ w1 hC1 E hE
                simp only [puts, act_put, act_put_none, List.setIfInBounds_toArray, List.set_cons_zero, List.set_cons_succ, f7] at hE ⊢
                clear f7
                go_wp2
                exact .mk (hE _ hC1)
              apply DetL.next
              · -- 9: Op.load 40 (Operand.tmp 155)
                apply detStep_plain [(8, some 155)]
                exact fun _ => rfl
                rfl
                rintro vals ⟨⟨⟨⟨⟨⟨⟨⟨⟨-, -⟩, -⟩, -⟩, -⟩, -⟩, -⟩, -⟩, -⟩, f8⟩ w1 hC1 E hE
                have d0 := hC1.r.atN (i := 1) (v := .int .u64 (vb : Int)) rfl
                simp only [puts, act_put, act_put_none, List.setIfInBounds_toArray, List.set_cons_zero, List.set_cons_succ, f8] at hE ⊢
                clear f8
                go_wp2
                exact .mk (hE _ hC1)
              apply DetL.next
              · -- 10: Op.binOp BinOp.and 40 (Operand.tmp 153) (Operand.tmp 156) 40
                apply detStep_plain [(6, some 153), (9, some 156)]
                exact fun _ => rfl
                rfl
                rintro vals ⟨⟨⟨⟨⟨⟨⟨⟨⟨⟨-, -⟩, -⟩, -⟩, -⟩, -⟩, -⟩, f6⟩, -⟩, -⟩, f9⟩ w1 hC1 E hE
                simp only [puts, act_put, act_put_none, List.setIfInBounds_toArray, List.set_cons_zero, List.set_cons_succ, f6, f9] at hE ⊢
                clear f6 f9
                go_wp2
                rw [and64 va vb (L64.out _ HL8.out.a) (L64.out _ HL8.out.b), ← HAB.out]
                exact .mk (hE _ hC1)
              apply DetL.next
              · -- 11: Op.move (Operand.tmp 16)
                apply detStep_plain []
                exact fun _ => rfl
                rfl
                rintro vals ⟨⟨⟨⟨⟨⟨⟨⟨⟨⟨⟨-, -⟩, -⟩, -⟩, -⟩, -⟩, -⟩, -⟩, -⟩, -⟩, -⟩, -⟩ w1 hC1 E hE
                simp only [puts, act_put, act_put_none, List.setIfInBounds_toArray, List.set_cons_zero, List.set_cons_succ] at hE ⊢
                go_wp2
                exact .mk (hE _ hC1)
              apply DetL.next
              · -- 12: Op.move (Operand.tmp 13)
                apply detStep_plain []
                exact fun _ => rfl
                rfl
                rintro vals ⟨⟨⟨⟨⟨⟨⟨⟨⟨⟨⟨⟨-, -⟩, -⟩, -⟩, -⟩, -⟩, -⟩, -⟩, -⟩, -⟩, -⟩, -⟩, -⟩ w1 hC1 E hE
                simp only [puts, act_put, act_put_none, List.setIfInBounds_toArray, List.set_cons_zero, List.set_cons_succ] at hE ⊢
                go_wp2
                exact .mk (hE _ hC1)
              apply DetL.next
              · -- 13: Op.indexAddr 36 (Operand.tmp 159) (Operand.const (Value.int IntKind.i64 2))
                apply detStep_plain [(12, some 159)]
                exact fun _ => rfl
                rfl
                rintro vals ⟨⟨⟨⟨⟨⟨⟨⟨⟨⟨⟨⟨⟨-, -⟩, -⟩, -⟩, -⟩, -⟩, -⟩, -⟩, -⟩, -⟩, -⟩, -⟩, -⟩, f12⟩ w1 hC1 E hE
                simp only [puts, act_put, act_put_none, List.setIfInBounds_toArray, List.set_cons_zero, List.set_cons_succ, f12] at hE ⊢
                clear f12
                go_wp2
                exact .mk (hE _ hC1)
              apply DetL.next
              · -- 14: Op.load 40 (Operand.tmp 160)
                apply detStep_plain [(13, some 160)]
                exact fun _ => rfl
                rfl
                rintro vals ⟨⟨⟨⟨⟨⟨⟨⟨⟨⟨⟨⟨⟨⟨-, -⟩, -⟩, -⟩, -⟩, -⟩, -⟩, -⟩, -⟩, -⟩, -⟩, -⟩, -⟩, -⟩, f13⟩ w1 hC1 E hE
                have d0 := hC1.r.atN (i := 2) (v := .int .u64 (vc : Int)) rfl
                simp only [puts, act_put, act_put_none, List.setIfInBounds_toArray, List.set_cons_zero, List.set_cons_succ, f13] at hE ⊢
                clear f13
                go_wp2
                exact .mk (hE _ hC1)
              apply DetL.next
              · -- 15: Op.binOp BinOp.and 40 (Operand.tmp 158) (Operand.tmp 161) 40
                apply detStep_plain [(11, some 158), (14, some 161)]
                exact fun _ => rfl
                rfl
                rintro vals ⟨⟨⟨⟨⟨⟨⟨⟨⟨⟨⟨⟨⟨⟨⟨-, -⟩, -⟩, -⟩, -⟩, -⟩, -⟩, -⟩, -⟩, -⟩, -⟩, -⟩, f11⟩, -⟩, -⟩, f14⟩ w1 hC1 E hE
                simp only [puts, act_put, act_put_none, List.setIfInBounds_toArray, List.set_cons_zero, List.set_cons_succ, f11, f14] at hE ⊢
                clear f11 f14
                go_wp2
                rw [and64 va vc (L64.out _ HL8.out.a) (L64.out _ HL8.out.c), ← HAC.out]
                exact .mk (hE _ hC1)
              apply DetL.next
              · -- 16: Op.binOp BinOp.xor 40 (Operand.tmp 157) (Operand.tmp 162) 40
                apply detStep_plain [(10, some 157), (15, some 162)]
                exact fun _ => rfl
                rfl
                rintro vals ⟨⟨⟨⟨⟨⟨⟨⟨⟨⟨⟨⟨⟨⟨⟨⟨-, -⟩, -⟩, -⟩, -⟩, -⟩, -⟩, -⟩, -⟩, -⟩, -⟩, f10⟩, -⟩, -⟩, -⟩, -⟩, f15⟩ w1 hC1 E hE
                simp only [puts, act_put, act_put_none, List.setIfInBounds_toArray, List.set_cons_zero, List.set_cons_succ, f10, f15] at hE ⊢
                clear f10 f15
                go_wp2
                rw [xor64 ab ac LAB.out LAC.out, ← HX1.out]
                exact .mk (hE _ hC1)
              apply DetL.next
              · -- 17: Op.move (Operand.tmp 13)
                apply detStep_plain []
                exact fun _ => rfl
                rfl
                rintro vals ⟨⟨⟨⟨⟨⟨⟨⟨⟨⟨⟨⟨⟨⟨⟨⟨⟨-, -⟩, -⟩, -⟩, -⟩, -⟩, -⟩, -⟩, -⟩, -⟩, -⟩, -⟩, -⟩, -⟩, -⟩, -⟩, -⟩, -⟩ w1 hC1 E hE
                simp only [puts, act_put, act_put_none, List.setIfInBounds_toArray, List.set_cons_zero, List.set_cons_succ] at hE ⊢
                go_wp2
                exact .mk (hE _ hC1)
              apply DetL.next
              · -- 18: Op.indexAddr 36 (Operand.tmp 164) (Operand.const (Value.int IntKind.i64 1))
                apply detStep_plain [(17, some 164)]
                exact fun _ => rfl
                rfl
                rintro vals ⟨⟨⟨⟨⟨⟨⟨⟨⟨⟨⟨⟨⟨⟨⟨⟨⟨⟨-, -⟩, -⟩, -⟩, -⟩, -⟩, -⟩, -⟩, -⟩, -⟩, -⟩, -⟩, -⟩, -⟩, -⟩, -⟩, -⟩, -⟩, f17⟩ w1 hC1 E hE
                simp only [puts, act_put, act_put_none, List.setIfInBounds_toArray, List.set_cons_zero, List.set_cons_succ, f17] at hE ⊢
                clear f17
                go_wp2
                exact .mk (hE _ hC1)
              apply DetL.next
              · -- 19: Op.load 40 (Operand.tmp 165)
                apply detStep_plain [(18, some 165)]
                exact fun _ => rfl
                rfl
                rintro vals ⟨⟨⟨⟨⟨⟨⟨⟨⟨⟨⟨⟨⟨⟨⟨⟨⟨⟨⟨-, -⟩, -⟩, -⟩, -⟩, -⟩, -⟩, -⟩, -⟩, -⟩, -⟩, -⟩, -⟩, -⟩, -⟩, -⟩, -⟩, -⟩, -⟩, f18⟩ w1 hC1 E hE
                have d0 := hC1.r.atN (i := 1) (v := .int .u64 (vb : Int)) rfl
                simp only [puts, act_put, act_put_none, List.setIfInBounds_toArray, List.set_cons_zero, List.set_cons_succ, f18] at hE ⊢
                clear f18
                go_wp2
                exact .mk (hE _ hC1)
              apply DetL.next
              · -- 20: Op.move (Operand.tmp 13)
                apply detStep_plain []
                exact fun _ => rfl
                rfl
                rintro vals ⟨⟨⟨⟨⟨⟨⟨⟨⟨⟨⟨⟨⟨⟨⟨⟨⟨⟨⟨⟨-, -⟩, -⟩, -⟩, -⟩, -⟩, -⟩, -⟩, -⟩, -⟩, -⟩, -⟩, -⟩, -⟩, -⟩, -⟩, -⟩, -⟩, -⟩, -⟩, -⟩ w1 hC1 E hE
                simp only [puts, act_put, act_put_none, List.setIfInBounds_toArray, List.set_cons_zero, List.set_cons_succ] at hE ⊢
                go_wp2
                exact .mk (hE _ hC1)
              apply DetL.next
              · -- 21: Op.indexAddr 36 (Operand.tmp 167) (Operand.const (Value.int IntKind.i64 2))
                apply detStep_plain [(20, some 167)]
                exact fun _ => rfl
                rfl
                rintro vals ⟨⟨⟨⟨⟨⟨⟨⟨⟨⟨⟨⟨⟨⟨⟨⟨⟨⟨⟨⟨⟨-, -⟩, -⟩, -⟩, -⟩, -⟩, -⟩, -⟩, -⟩, -⟩, -⟩, -⟩, -⟩, -⟩, -⟩, -⟩, -⟩, -⟩, -⟩, -⟩, -⟩, f20⟩ w1 hC1 E hE
                simp only [puts, act_put, act_put_none, List.setIfInBounds_toArray, List.set_cons_zero, List.set_cons_succ, f20] at hE ⊢
                clear f20
                go_wp2
                exact .mk (hE _ hC1)
              apply DetL.next
              · -- 22: Op.load 40 (Operand.tmp 168)
                apply detStep_plain [(21, some 168)]
                exact fun _ => rfl
                rfl
                rintro vals ⟨⟨⟨⟨⟨⟨⟨⟨⟨⟨⟨⟨⟨⟨⟨⟨⟨⟨⟨⟨⟨⟨-, -⟩, -⟩, -⟩, -⟩, -⟩, -⟩, -⟩, -⟩, -⟩, -⟩, -⟩, -⟩, -⟩, -⟩, -⟩, -⟩, -⟩, -⟩, -⟩, -⟩, -⟩, f21⟩ w1 hC1 E hE
                have d0 := hC1.r.atN (i := 2) (v := .int .u64 (vc : Int)) rfl
                simp only [puts, act_put, act_put_none, List.setIfInBounds_toArray, List.set_cons_zero, List.set_cons_succ, f21] at hE ⊢
                clear f21
                go_wp2
                exact .mk (hE _ hC1)
              apply DetL.next
              · -- 23: Op.binOp BinOp.and 40 (Operand.tmp 166) (Operand.tmp 169) 40
                apply detStep_plain [(19, some 166), (22, some 169)]
                exact fun _ => rfl
                rfl
                rintro vals ⟨⟨⟨⟨⟨⟨⟨⟨⟨⟨⟨⟨⟨⟨⟨⟨⟨⟨⟨⟨⟨⟨⟨-, -⟩, -⟩, -⟩, -⟩, -⟩, -⟩, -⟩, -⟩, -⟩, -⟩, -⟩, -⟩, -⟩, -⟩, -⟩, -⟩, -⟩, -⟩, -⟩, f19⟩, -⟩, -⟩, f22⟩ w1 hC1 E hE
                simp only [puts, act_put, act_put_none, List.setIfInBounds_toArray, List.set_cons_zero, List.set_cons_succ, f19, f22] at hE ⊢
                clear f19 f22
                go_wp2
                rw [and64 vb vc (L64.out _ HL8.out.b) (L64.out _ HL8.out.c), ← HBC.out]
                exact .mk (hE _ hC1)
              apply DetL.next
              · -- 24: Op.binOp BinOp.xor 40 (Operand.tmp 163) (Operand.tmp 170) 40
                apply detStep_plain [(16, some 163), (23, some 170)]
                exact fun _ => rfl
                rfl
                rintro vals ⟨⟨⟨⟨⟨⟨⟨⟨⟨⟨⟨⟨⟨⟨⟨⟨⟨⟨⟨⟨⟨⟨⟨⟨-, -⟩, -⟩, -⟩, -⟩, -⟩, -⟩, -⟩, -⟩, -⟩, -⟩, -⟩, -⟩, -⟩, -⟩, -⟩, -⟩, f16⟩, -⟩, -⟩, -⟩, -⟩, -⟩, -⟩, f23⟩ w1 hC1 E hE
                simp only [puts, act_put, act_put_none, List.setIfInBounds_toArray, List.set_cons_zero, List.set_cons_succ, f16, f23] at hE ⊢
                clear f16 f23
                go_wp2
                rw [xor64 x1 bc2 LX1.out LBC.out, ← HMJ.out]
                exact .mk (hE _ hC1)
              apply DetL.next
              · -- 25: Op.binOp BinOp.add 40 (Operand.tmp 152) (Operand.tmp 171) 40
                apply detStep_plain [(5, some 152), (24, some 171)]
                exact fun _ => rfl
                rfl
                rintro vals ⟨⟨⟨⟨⟨⟨⟨⟨⟨⟨⟨⟨⟨⟨⟨⟨⟨⟨⟨⟨⟨⟨⟨⟨⟨-, -⟩, -⟩, -⟩, -⟩, -⟩, f5⟩, -⟩, -⟩, -⟩, -⟩, -⟩, -⟩, -⟩, -⟩, -⟩, -⟩, -⟩, -⟩, -⟩, -⟩, -⟩, -⟩, -⟩, -⟩, f24⟩ w1 hC1 E hE
                simp only [puts, act_put, act_put_none, List.setIfInBounds_toArray, List.set_cons_zero, List.set_cons_succ, f5, f24] at hE ⊢
                clear f5 f24
                go_wp2
                rw [add2_64 YA mj, ← HQ1.out]
                exact .mk (hE _ hC1)
              apply DetL.next
              · -- 26: Op.call { callee := Callee.value (Operand.func 35), args := #[Operand.tmp 147, Operand.tmp 172], argTypes := #
                apply detStep_plain [(0, some 147), (25, some 172), (5, some 152)]
                exact fun _ => rfl
                rfl
                rintro vals ⟨⟨⟨⟨⟨⟨⟨⟨⟨⟨⟨⟨⟨⟨⟨⟨⟨⟨⟨⟨⟨⟨⟨⟨⟨⟨-, f0⟩, -⟩, -⟩, -⟩, -⟩, f5⟩, -⟩, -⟩, -⟩, -⟩, -⟩, -⟩, -⟩, -⟩, -⟩, -⟩, -⟩, -⟩, -⟩, -⟩, -⟩, -⟩, -⟩, -⟩, -⟩, f25⟩ w1 hC1 E hE
                simp only [puts, act_put, act_put_none, List.setIfInBounds_toArray, List.set_cons_zero, List.set_cons_succ, f0, f5, f25] at hE ⊢
                clear f0 f5 f25
                go_wp2_with fail
                refine calls_then (low_any 32 64 _ _ _ _ _ _ _ (.inl rfl) q1 LQ1.out) ?_
                rintro e w2 ⟨rfl, hb2⟩
                rw [← HYY.out]
                go_wp2_with fail
                exact .mk (hE _ (hC1.next hb2))
              apply DetL.last
              · -- 27: Op.assign (Operand.tmp 173)
                apply detStep_plain [(26, some 173), (26, some 173), (0, some 147), (1, some 148), (2, some 149), (3, some 150), (4, some 151), (5, some 152), (6, some 153), (7, some 154), (8, some 155), (9, some 156), (10, some 157), (11, some 158), (12, some 159), (13, some 160), (14, some 161), (15, some 162), (16, some 163), (17, some 164), (18, some 165), (19, some 166), (20, some 167), (21, some 168), (22, some 169), (23, some 170), (24, some 171), (25, some 172), (26, some 173)]
                exact fun _ => rfl
                rfl
                rintro vals ⟨⟨⟨⟨⟨⟨⟨⟨⟨⟨⟨⟨⟨⟨⟨⟨⟨⟨⟨⟨⟨⟨⟨⟨⟨⟨⟨-, f0⟩, f1⟩, f2⟩, f3⟩, f4⟩, f5⟩, f6⟩, f7⟩, f8⟩, f9⟩, f10⟩, f11⟩, f12⟩, f13⟩, f14⟩, f15⟩, f16⟩, f17⟩, f18⟩, f19⟩, f20⟩, f21⟩, f22⟩, f23⟩, f24⟩, f25⟩, f26⟩ w1 hC1 E hE
                simp only [puts, act_put, act_put_none, List.setIfInBounds_toArray, List.set_cons_zero, List.set_cons_succ, f0, f1, f2, f3, f4, f5, f6, f7, f8, f9, f10, f11, f12, f13, f14, f15, f16, f17, f18, f19, f20, f21, f22, f23, f24, f25, f26] at hE ⊢
                clear f0 f1 f2 f3 f4 f5 f6 f7 f8 f9 f10 f11 f12 f13 f14 f15 f16 f17 f18 f19 f20 f21 f22 f23 f24 f25 f26
                go_wp2
                exact .mk (hE _ hC1)
              rintro vals ⟨⟨⟨⟨⟨⟨⟨⟨⟨⟨⟨⟨⟨⟨⟨⟨⟨⟨⟨⟨⟨⟨⟨⟨⟨⟨⟨⟨-, f0⟩, f1⟩, f2⟩, f3⟩, f4⟩, f5⟩, f6⟩, f7⟩, f8⟩, f9⟩, f10⟩, f11⟩, f12⟩, f13⟩, f14⟩, f15⟩, f16⟩, f17⟩, f18⟩, f19⟩, f20⟩, f21⟩, f22⟩, f23⟩, f24⟩, f25⟩, f26⟩, f27⟩ w1 hC1
              simp only [puts, act_put, act_put_none, List.setIfInBounds_toArray, List.set_cons_zero, List.set_cons_succ, f0, f1, f2, f3, f4, f5, f6, f7, f8, f9, f10, f11, f12, f13, f14, f15, f16, f17, f18, f19, f20, f21, f22, f23, f24, f25, f26, f27]
              clear f0 f1 f2 f3 f4 f5 f6 f7 f8 f9 f10 f11 f12 f13 f14 f15 f16 f17 f18 f19 f20 f21 f22 f23 f24 f25 f26 f27
              clear HC0
              go_wp2_with fail
              have HC0 := hC1.drew
              clear hC1
              refine wp_region_tailq (fun u => BkR w gf F32 p (some bad) blk (some sad) S (.slice (some ⟨g, 0, none⟩) 64 c) RW g2 c2 ⟨va, vb, vc, vd, ve, vf, vg, vh⟩ u) (fun _ => false) 26 [(0, some 174), (1, some 175), (2, some 176), (3, some 177), (4, some 178), (5, some 179), (6, some 180), (7, some 181), (8, some 182), (9, some 183), (10, some 184), (11, some 185), (12, some 186), (13, some 187), (14, some 188), (15, some 189), (16, some 190), (17, some 191), (18, some 192), (19, some 193), (20, some 194), (21, some 195), (22, some 196), (23, some 197), (24, some 198), (25, some 199), (26, some 200), (27, some 13)] (by kernel_rfl) (by kernel_rfl) (by decide) (by kernel_rfl) (fun _ => rfl) HC0 ?_
              apply DetQ.next
              · -- 0: Op.load 38 (Operand.tmp 3)
                apply detStepQ_of
                apply detStep_plain []
                exact fun _ => rfl
                rfl
                rintro vals - w1 hC1 E hE
                simp only [puts, act_put, act_put_none, List.setIfInBounds_toArray, List.set_cons_zero, List.set_cons_succ] at hE ⊢
                refine wpList_get_box hC1.w.st.h rfl rfl rfl hu rfl h_size ?_
                go_wp2_with fail
                exact .mk (hE _ hC1)
              apply DetQ.next
              · -- 1: Op.move (Operand.tmp 18)
                apply detStepQ_of
                apply detStep_plain []
                exact fun _ => rfl
                rfl
                rintro vals ⟨-, -⟩ w1 hC1 E hE
                simp only [puts, act_put, act_put_none, List.setIfInBounds_toArray, List.set_cons_zero, List.set_cons_succ] at hE ⊢
                go_wp2
                exact .mk (hE _ hC1)
              apply DetQ.next
              · -- 2: Op.move (Operand.tmp 19)
                apply detStepQ_of
                apply detStep_plain []
                exact fun _ => rfl
                rfl
                rintro vals ⟨⟨-, -⟩, -⟩ w1 hC1 E hE
                simp only [puts, act_put, act_put_none, List.setIfInBounds_toArray, List.set_cons_zero, List.set_cons_succ] at hE ⊢
                go_wp2
                exact .mk (hE _ hC1)
              apply DetQ.next
              · -- 3: Op.binOp BinOp.add 40 (Operand.tmp 175) (Operand.tmp 176) 40
                apply detStepQ_of
                apply detStep_plain [(1, some 175), (2, some 176)]
                exact fun _ => rfl
                rfl
                rintro vals ⟨⟨⟨-, -⟩, f1⟩, f2⟩ w1 hC1 E hE
                simp only [puts, act_put, act_put_none, List.setIfInBounds_toArray, List.set_cons_zero, List.set_cons_succ, f1, f2] at hE ⊢
                clear f1 f2
                go_wp2
                rw [add2_64 xx yy, ← HZ1.out]
                exact .mk (hE _ hC1)
              apply DetQ.next
              · -- 4: Op.call { callee := Callee.value (Operand.func 35), args := #[Operand.tmp 174, Operand.tmp 177], argTypes := #
                apply detStepQ_of
                apply detStep_plain [(0, some 174), (3, some 177)]
                exact fun _ => rfl
                rfl
                rintro vals ⟨⟨⟨⟨-, f0⟩, -⟩, -⟩, f3⟩ w1 hC1 E hE
                simp only [puts, act_put, act_put_none, List.setIfInBounds_toArray, List.set_cons_zero, List.set_cons_succ, f0, f3] at hE ⊢
                clear f0 f3
                go_wp2_with fail
                refine calls_then (low_any 32 64 _ _ _ _ _ _ _ (.inl rfl) z1 LZ1.out) ?_
                rintro e w2 ⟨rfl, hb2⟩
                rw [← HZA.out]
                go_wp2_with fail
                exact .mk (hE _ (hC1.next hb2))
              apply DetQ.next
              · -- 5: Op.move (Operand.tmp 16)
                apply detStepQ_of
                apply detStep_plain []
                exact fun _ => rfl
                rfl
                rintro vals ⟨⟨⟨⟨⟨-, -⟩, -⟩, -⟩, -⟩, -⟩ w1 hC1 E hE
                simp only [puts, act_put, act_put_none, List.setIfInBounds_toArray, List.set_cons_zero, List.set_cons_succ] at hE ⊢
                go_wp2
                exact .mk (hE _ hC1)
              apply DetQ.next
              · -- 6: Op.move (Operand.tmp 13)
                apply detStepQ_of
                apply detStep_plain []
                exact fun _ => rfl
                rfl
                rintro vals ⟨⟨⟨⟨⟨⟨-, -⟩, -⟩, -⟩, -⟩, -⟩, -⟩ w1 hC1 E hE
                simp only [puts, act_put, act_put_none, List.setIfInBounds_toArray, List.set_cons_zero, List.set_cons_succ] at hE ⊢
                go_wp2
                exact .mk (hE _ hC1)
              apply DetQ.next
              · -- 7: Op.indexAddr 36 (Operand.tmp 180) (Operand.const (Value.int IntKind.i64 1))
                apply detStepQ_of
                apply detStep_plain [(6, some 180)]
                exact fun _ => rfl
                rfl
                rintro vals ⟨⟨⟨⟨⟨⟨⟨-, -⟩, -⟩, -⟩, -⟩, -⟩, -⟩, f6⟩ w1 hC1 E hE
                simp only [puts, act_put, act_put_none, List.setIfInBounds_toArray, List.set_cons_zero, List.set_cons_succ, f6] at hE ⊢
                clear f6
                go_wp2
                exact .mk (hE _ hC1)
              apply DetQ.next
              · -- 8: Op.load 40 (Operand.tmp 181)
                apply detStepQ_of
                apply detStep_plain [(7, some 181)]
                exact fun _ => rfl
                rfl
                rintro vals ⟨⟨⟨⟨⟨⟨⟨⟨-, -⟩, -⟩, -⟩, -⟩, -⟩, -⟩, -⟩, f7⟩ w1 hC1 E hE
                have d0 := hC1.r.atN (i := 1) (v := .int .u64 (vb : Int)) rfl
                simp only [puts, act_put, act_put_none, List.setIfInBounds_toArray, List.set_cons_zero, List.set_cons_succ, f7] at hE ⊢
                clear f7
                go_wp2
                exact .mk (hE _ hC1)
              apply DetQ.next
              · -- 9: Op.move (Operand.tmp 13)
                apply detStepQ_of
                apply detStep_plain []
                exact fun _ => rfl
                rfl
                rintro vals ⟨⟨⟨⟨⟨⟨⟨⟨⟨-, -⟩, -⟩, -⟩, -⟩, -⟩, -⟩, -⟩, -⟩, -⟩ w1 hC1 E hE
                simp only [puts, act_put, act_put_none, List.setIfInBounds_toArray, List.set_cons_zero, List.set_cons_succ] at hE ⊢
                go_wp2
                exact .mk (hE _ hC1)
              apply DetQ.next
              · -- 10: Op.indexAddr 36 (Operand.tmp 183) (Operand.const (Value.int IntKind.i64 2))
                apply detStepQ_of
                apply detStep_plain [(9, some 183)]
                exact fun _ => rfl
                rfl
                rintro vals ⟨⟨⟨⟨⟨⟨⟨⟨⟨⟨-, -⟩, -⟩, -⟩, -⟩, -⟩, -⟩, -⟩, -⟩, -⟩, f9⟩ w1 hC1 E hE
                simp only [puts, act_put, act_put_none, List.setIfInBounds_toArray, List.set_cons_zero, List.set_cons_succ, f9] at hE ⊢
                clear f9
                go_wp2
                exact .mk (hE _ hC1)
              apply DetQ.next
              · -- 11: Op.load 40 (Operand.tmp 184)
                apply detStepQ_of
                apply detStep_plain [(10, some 184)]
                exact fun _ => rfl
                rfl
                rintro vals ⟨⟨⟨⟨⟨⟨⟨⟨⟨⟨⟨-, -⟩, -⟩, -⟩, -⟩, -⟩, -⟩, -⟩, -⟩, -⟩, -⟩, f10⟩ w1 hC1 E hE
                have d0 := hC1.r.atN (i := 2) (v := .int .u64 (vc : Int)) rfl
                simp only [puts, act_put, act_put_none, List.setIfInBounds_toArray, List.set_cons_zero, List.set_cons_succ, f10] at hE ⊢
                clear f10
                go_wp2
                exact .mk (hE _ hC1)
              apply DetQ.next
              · -- 12: Op.load 38 (Operand.tmp 3)
                apply detStepQ_of
                apply detStep_plain []
                exact fun _ => rfl
                rfl
                rintro vals ⟨⟨⟨⟨⟨⟨⟨⟨⟨⟨⟨⟨-, -⟩, -⟩, -⟩, -⟩, -⟩, -⟩, -⟩, -⟩, -⟩, -⟩, -⟩, -⟩ w1 hC1 E hE
                simp only [puts, act_put, act_put_none, List.setIfInBounds_toArray, List.set_cons_zero, List.set_cons_succ] at hE ⊢
                refine wpList_get_box hC1.w.st.h rfl rfl rfl hu rfl h_size ?_
                go_wp2_with fail
                exact .mk (hE _ hC1)
              apply DetQ.next
              · -- 13: Op.move (Operand.tmp 13)
                apply detStepQ_of
                apply detStep_plain []
                exact fun _ => rfl
                rfl
                rintro vals ⟨⟨⟨⟨⟨⟨⟨⟨⟨⟨⟨⟨⟨-, -⟩, -⟩, -⟩, -⟩, -⟩, -⟩, -⟩, -⟩, -⟩, -⟩, -⟩, -⟩, -⟩ w1 hC1 E hE
                simp only [puts, act_put, act_put_none, List.setIfInBounds_toArray, List.set_cons_zero, List.set_cons_succ] at hE ⊢
                go_wp2
                exact .mk (hE _ hC1)
              apply DetQ.next
              · -- 14: Op.indexAddr 36 (Operand.tmp 187) (Operand.const (Value.int IntKind.i64 3))
                apply detStepQ_of
                apply detStep_plain [(13, some 187)]
                exact fun _ => rfl
                rfl
                rintro vals ⟨⟨⟨⟨⟨⟨⟨⟨⟨⟨⟨⟨⟨⟨-, -⟩, -⟩, -⟩, -⟩, -⟩, -⟩, -⟩, -⟩, -⟩, -⟩, -⟩, -⟩, -⟩, f13⟩ w1 hC1 E hE
                simp only [puts, act_put, act_put_none, List.setIfInBounds_toArray, List.set_cons_zero, List.set_cons_succ, f13] at hE ⊢
                clear f13
                go_wp2
                exact .mk (hE _ hC1)
              apply DetQ.next
              · -- 15: Op.load 40 (Operand.tmp 188)
                apply detStepQ_of
                apply detStep_plain [(14, some 188)]
                exact fun _ => rfl
                rfl
                rintro vals ⟨⟨⟨⟨⟨⟨⟨⟨⟨⟨⟨⟨⟨⟨⟨-, -⟩, -⟩, -⟩, -⟩, -⟩, -⟩, -⟩, -⟩, -⟩, -⟩, -⟩, -⟩, -⟩, -⟩, f14⟩ w1 hC1 E hE
                have d0 := hC1.r.atN (i := 3) (v := .int .u64 (vd : Int)) rfl
                simp only [puts, act_put, act_put_none, List.setIfInBounds_toArray, List.set_cons_zero, List.set_cons_succ, f14] at hE ⊢
                clear f14
                go_wp2
                exact .mk (hE _ hC1)
              apply DetQ.next
              · -- 16: Op.move (Operand.tmp 18)
                apply detStepQ_of
                apply detStep_plain []
                exact fun _ => rfl
                rfl
                rintro vals ⟨⟨⟨⟨⟨⟨⟨⟨⟨⟨⟨⟨⟨⟨⟨⟨-, -⟩, -⟩, -⟩, -⟩, -⟩, -⟩, -⟩, -⟩, -⟩, -⟩, -⟩, -⟩, -⟩, -⟩, -⟩, -⟩ w1 hC1 E hE
                simp only [puts, act_put, act_put_none, List.setIfInBounds_toArray, List.set_cons_zero, List.set_cons_succ] at hE ⊢
                go_wp2
                exact .mk (hE _ hC1)
              apply DetQ.next
              · -- 17: Op.binOp BinOp.add 40 (Operand.tmp 189) (Operand.tmp 190) 40
                apply detStepQ_of
                apply detStep_plain [(15, some 189), (16, some 190)]
                exact fun _ => rfl
                rfl
                rintro vals ⟨⟨⟨⟨⟨⟨⟨⟨⟨⟨⟨⟨⟨⟨⟨⟨⟨-, -⟩, -⟩, -⟩, -⟩, -⟩, -⟩, -⟩, -⟩, -⟩, -⟩, -⟩, -⟩, -⟩, -⟩, -⟩, f15⟩, f16⟩ w1 hC1 E hE
                simp only [puts, act_put, act_put_none, List.setIfInBounds_toArray, List.set_cons_zero, List.set_cons_succ, f15, f16] at hE ⊢
                clear f15 f16
                go_wp2
                rw [add2_64 vd xx, ← HZ2.out]
                exact .mk (hE _ hC1)
              apply DetQ.next
              · -- 18: Op.call { callee := Callee.value (Operand.func 35), args := #[Operand.tmp 186, Operand.tmp 191], argTypes := #
                apply detStepQ_of
                apply detStep_plain [(12, some 186), (17, some 191), (4, some 178)]
                exact fun _ => rfl
                rfl
                rintro vals ⟨⟨⟨⟨⟨⟨⟨⟨⟨⟨⟨⟨⟨⟨⟨⟨⟨⟨-, -⟩, -⟩, -⟩, -⟩, f4⟩, -⟩, -⟩, -⟩, -⟩, -⟩, -⟩, -⟩, f12⟩, -⟩, -⟩, -⟩, -⟩, f17⟩ w1 hC1 E hE
                simp only [puts, act_put, act_put_none, List.setIfInBounds_toArray, List.set_cons_zero, List.set_cons_succ, f4, f12, f17] at hE ⊢
                clear f4 f12 f17
                go_wp2_with fail
                refine calls_then (low_any 32 64 _ _ _ _ _ _ _ (.inl rfl) z2 LZ2.out) ?_
                rintro e w2 ⟨rfl, hb2⟩
                rw [← HZE.out]
                go_wp2_with fail
                exact .mk (hE _ (hC1.next hb2))
              apply DetQ.next
              · -- 19: Op.move (Operand.tmp 15)
                apply detStepQ_of
                apply detStep_plain []
                exact fun _ => rfl
                rfl
                rintro vals ⟨⟨⟨⟨⟨⟨⟨⟨⟨⟨⟨⟨⟨⟨⟨⟨⟨⟨⟨-, -⟩, -⟩, -⟩, -⟩, -⟩, -⟩, -⟩, -⟩, -⟩, -⟩, -⟩, -⟩, -⟩, -⟩, -⟩, -⟩, -⟩, -⟩, -⟩ w1 hC1 E hE
                simp only [puts, act_put, act_put_none, List.setIfInBounds_toArray, List.set_cons_zero, List.set_cons_succ] at hE ⊢
                go_wp2
                exact .mk (hE _ hC1)
              apply DetQ.next
              · -- 20: Op.move (Operand.tmp 13)
                apply detStepQ_of
                apply detStep_plain []
                exact fun _ => rfl
                rfl
                rintro vals ⟨⟨⟨⟨⟨⟨⟨⟨⟨⟨⟨⟨⟨⟨⟨⟨⟨⟨⟨⟨-, -⟩, -⟩, -⟩, -⟩, -⟩, -⟩, -⟩, -⟩, -⟩, -⟩, -⟩, -⟩, -⟩, -⟩, -⟩, -⟩, -⟩, -⟩, -⟩, -⟩ w1 hC1 E hE
                simp only [puts, act_put, act_put_none, List.setIfInBounds_toArray, List.set_cons_zero, List.set_cons_succ] at hE ⊢
                go_wp2
                exact .mk (hE _ hC1)
              apply DetQ.next
              · -- 21: Op.indexAddr 36 (Operand.tmp 194) (Operand.const (Value.int IntKind.i64 5))
                apply detStepQ_of
                apply detStep_plain [(20, some 194)]
                exact fun _ => rfl
                rfl
                rintro vals ⟨⟨⟨⟨⟨⟨⟨⟨⟨⟨⟨⟨⟨⟨⟨⟨⟨⟨⟨⟨⟨-, -⟩, -⟩, -⟩, -⟩, -⟩, -⟩, -⟩, -⟩, -⟩, -⟩, -⟩, -⟩, -⟩, -⟩, -⟩, -⟩, -⟩, -⟩, -⟩, -⟩, f20⟩ w1 hC1 E hE
                simp only [puts, act_put, act_put_none, List.setIfInBounds_toArray, List.set_cons_zero, List.set_cons_succ, f20] at hE ⊢
                clear f20
                go_wp2
                exact .mk (hE _ hC1)
              apply DetQ.next
              · -- 22: Op.load 40 (Operand.tmp 195)
                apply detStepQ_of
                apply detStep_plain [(21, some 195)]
                exact fun _ => rfl
                rfl
                rintro vals ⟨⟨⟨⟨⟨⟨⟨⟨⟨⟨⟨⟨⟨⟨⟨⟨⟨⟨⟨⟨⟨⟨-, -⟩, -⟩, -⟩, -⟩, -⟩, -⟩, -⟩, -⟩, -⟩, -⟩, -⟩, -⟩, -⟩, -⟩, -⟩, -⟩, -⟩, -⟩, -⟩, -⟩, -⟩, f21⟩ w1 hC1 E hE
                have d0 := hC1.r.atN (i := 5) (v := .int .u64 (vf : Int)) rfl
                simp only [puts, act_put, act_put_none, List.setIfInBounds_toArray, List.set_cons_zero, List.set_cons_succ, f21] at hE ⊢
                clear f21
                go_wp2
                exact .mk (hE _ hC1)
              apply DetQ.next
              · -- 23: Op.move (Operand.tmp 13)
                apply detStepQ_of
                apply detStep_plain []
                exact fun _ => rfl
                rfl
                rintro vals ⟨⟨⟨⟨⟨⟨⟨⟨⟨⟨⟨⟨⟨⟨⟨⟨⟨⟨⟨⟨⟨⟨⟨-, -⟩, -⟩, -⟩, -⟩, -⟩, -⟩, -⟩, -⟩, -⟩, -⟩, -⟩, -⟩, -⟩, -⟩, -⟩, -⟩, -⟩, -⟩, -⟩, -⟩, -⟩, -⟩, -⟩ w1 hC1 E hE
                simp only [puts, act_put, act_put_none, List.setIfInBounds_toArray, List.set_cons_zero, List.set_cons_succ] at hE ⊢
                go_wp2
                exact .mk (hE _ hC1)
              apply DetQ.next
              · -- 24: Op.indexAddr 36 (Operand.tmp 197) (Operand.const (Value.int IntKind.i64 6))
                apply detStepQ_of
                apply detStep_plain [(23, some 197)]
                exact fun _ => rfl
                rfl
                rintro vals ⟨⟨⟨⟨⟨⟨⟨⟨⟨⟨⟨⟨⟨⟨⟨⟨⟨⟨⟨⟨⟨⟨⟨⟨-, -⟩, -⟩, -⟩, -⟩, -⟩, -⟩, -⟩, -⟩, -⟩, -⟩, -⟩, -⟩, -⟩, -⟩, -⟩, -⟩, -⟩, -⟩, -⟩, -⟩, -⟩, -⟩, -⟩, f23⟩ w1 hC1 E hE
                simp only [puts, act_put, act_put_none, List.setIfInBounds_toArray, List.set_cons_zero, List.set_cons_succ, f23] at hE ⊢
                clear f23
                go_wp2
                exact .mk (hE _ hC1)
              apply DetQ.next
              · -- 25: Op.load 40 (Operand.tmp 198)
                apply detStepQ_of
                apply detStep_plain [(24, some 198)]
                exact fun _ => rfl
                rfl
                rintro vals ⟨⟨⟨⟨⟨⟨⟨⟨⟨⟨⟨⟨⟨⟨⟨⟨⟨⟨⟨⟨⟨⟨⟨⟨⟨-, -⟩, -⟩, -⟩, -⟩, -⟩, -⟩, -⟩, -⟩, -⟩, -⟩, -⟩, -⟩, -⟩, -⟩, -⟩, -⟩, -⟩, -⟩, -⟩, -⟩, -⟩, -⟩, -⟩, -⟩, f24⟩ w1 hC1 E hE
                have d0 := hC1.r.atN (i := 6) (v := .int .u64 (vg : Int)) rfl
                simp only [puts, act_put, act_put_none, List.setIfInBounds_toArray, List.set_cons_zero, List.set_cons_succ, f24] at hE ⊢
                clear f24
                go_wp2
                exact .mk (hE _ hC1)
              apply DetQ.done
              rintro vals ⟨⟨⟨⟨⟨⟨⟨⟨⟨⟨⟨⟨⟨⟨⟨⟨⟨⟨⟨⟨⟨⟨⟨⟨⟨⟨-, f0⟩, f1⟩, f2⟩, f3⟩, f4⟩, f5⟩, f6⟩, f7⟩, f8⟩, f9⟩, f10⟩, f11⟩, f12⟩, f13⟩, f14⟩, f15⟩, f16⟩, f17⟩, f18⟩, f19⟩, f20⟩, f21⟩, f22⟩, f23⟩, f24⟩, f25⟩ w1 hC1
              -- 26: Op.buildSlice 36 8 #[(0, Operand.tmp 178), (1, Operand.tmp 179), (2, Operand.tmp 182), (3, Operand.tmp 185), (
              refine tail_step [(4, some 178), (5, some 179), (8, some 182), (11, some 185), (18, some 192), (19, some 193), (22, some 196), (25, some 199)] (fun _ => rfl) rfl ?_
              intro E hE
              simp only [puts, act_put, act_put_none, List.setIfInBounds_toArray, List.set_cons_zero, List.set_cons_succ, f4, f5, f8, f11, f18, f19, f22, f25] at hE ⊢
              go_wp2
              refine .mk (hE _ _ ?_)
              clear hE E
              generalize hval : upd _ 26 _ = vals26
              replace f0 := (congrFun hval 0).symm.trans ((upd_ne (by decide)).trans f0)
              replace f1 := (congrFun hval 1).symm.trans ((upd_ne (by decide)).trans f1)
              replace f2 := (congrFun hval 2).symm.trans ((upd_ne (by decide)).trans f2)
              replace f3 := (congrFun hval 3).symm.trans ((upd_ne (by decide)).trans f3)
              replace f4 := (congrFun hval 4).symm.trans ((upd_ne (by decide)).trans f4)
              replace f5 := (congrFun hval 5).symm.trans ((upd_ne (by decide)).trans f5)
              replace f6 := (congrFun hval 6).symm.trans ((upd_ne (by decide)).trans f6)
              replace f7 := (congrFun hval 7).symm.trans ((upd_ne (by decide)).trans f7)
              replace f8 := (congrFun hval 8).symm.trans ((upd_ne (by decide)).trans f8)
              replace f9 := (congrFun hval 9).symm.trans ((upd_ne (by decide)).trans f9)
              replace f10 := (congrFun hval 10).symm.trans ((upd_ne (by decide)).trans f10)
              replace f11 := (congrFun hval 11).symm.trans ((upd_ne (by decide)).trans f11)
              replace f12 := (congrFun hval 12).symm.trans ((upd_ne (by decide)).trans f12)
              replace f13 := (congrFun hval 13).symm.trans ((upd_ne (by decide)).trans f13)
              replace f14 := (congrFun hval 14).symm.trans ((upd_ne (by decide)).trans f14)
              replace f15 := (congrFun hval 15).symm.trans ((upd_ne (by decide)).trans f15)
              replace f16 := (congrFun hval 16).symm.trans ((upd_ne (by decide)).trans f16)
              replace f17 := (congrFun hval 17).symm.trans ((upd_ne (by decide)).trans f17)
              replace f18 := (congrFun hval 18).symm.trans ((upd_ne (by decide)).trans f18)
              replace f19 := (congrFun hval 19).symm.trans ((upd_ne (by decide)).trans f19)
              replace f20 := (congrFun hval 20).symm.trans ((upd_ne (by decide)).trans f20)
              replace f21 := (congrFun hval 21).symm.trans ((upd_ne (by decide)).trans f21)
              replace f22 := (congrFun hval 22).symm.trans ((upd_ne (by decide)).trans f22)
              replace f23 := (congrFun hval 23).symm.trans ((upd_ne (by decide)).trans f23)
              replace f24 := (congrFun hval 24).symm.trans ((upd_ne (by decide)).trans f24)
              replace f25 := (congrFun hval 25).symm.trans ((upd_ne (by decide)).trans f25)
              have f26 := (congrFun hval 26).symm.trans (upd_self _ _ _)
              clear hval
              -- 27: Op.assign (Operand.tmp 200)
              refine tail_step [(26, some 200), (18, some 192), (0, some 174), (1, some 175), (2, some 176), (3, some 177), (4, some 178), (5, some 179), (6, some 180), (7, some 181), (8, some 182), (9, some 183), (10, some 184), (11, some 185), (12, some 186), (13, some 187), (14, some 188), (15, some 189), (16, some 190), (17, some 191), (18, some 192), (19, some 193), (20, some 194), (21, some 195), (22, some 196), (23, some 197), (24, some 198), (25, some 199), (26, some 200)] (fun _ => rfl) rfl ?_
              intro E hE
              simp only [puts, act_put, act_put_none, List.setIfInBounds_toArray, List.set_cons_zero, List.set_cons_succ, f0, f1, f2, f3, f4, f5, f6, f7, f8, f9, f10, f11, f12, f13, f14, f15, f16, f17, f18, f19, f20, f21, f22, f23, f24, f25, f26] at hE ⊢
              go_wp2
              refine .mk (hE _ _ ?_)
              clear hE E
              generalize hval : upd _ 27 _ = vals27
              replace f0 := (congrFun hval 0).symm.trans ((upd_ne (by decide)).trans f0)
              replace f1 := (congrFun hval 1).symm.trans ((upd_ne (by decide)).trans f1)
              replace f2 := (congrFun hval 2).symm.trans ((upd_ne (by decide)).trans f2)
              replace f3 := (congrFun hval 3).symm.trans ((upd_ne (by decide)).trans f3)
              replace f4 := (congrFun hval 4).symm.trans ((upd_ne (by decide)).trans f4)
              replace f5 := (congrFun hval 5).symm.trans ((upd_ne (by decide)).trans f5)
              replace f6 := (congrFun hval 6).symm.trans ((upd_ne (by decide)).trans f6)
              replace f7 := (congrFun hval 7).symm.trans ((upd_ne (by decide)).trans f7)
              replace f8 := (congrFun hval 8).symm.trans ((upd_ne (by decide)).trans f8)
              replace f9 := (congrFun hval 9).symm.trans ((upd_ne (by decide)).trans f9)
              replace f10 := (congrFun hval 10).symm.trans ((upd_ne (by decide)).trans f10)
              replace f11 := (congrFun hval 11).symm.trans ((upd_ne (by decide)).trans f11)
              replace f12 := (congrFun hval 12).symm.trans ((upd_ne (by decide)).trans f12)
              replace f13 := (congrFun hval 13).symm.trans ((upd_ne (by decide)).trans f13)
              replace f14 := (congrFun hval 14).symm.trans ((upd_ne (by decide)).trans f14)
              replace f15 := (congrFun hval 15).symm.trans ((upd_ne (by decide)).trans f15)
              replace f16 := (congrFun hval 16).symm.trans ((upd_ne (by decide)).trans f16)
              replace f17 := (congrFun hval 17).symm.trans ((upd_ne (by decide)).trans f17)
              replace f18 := (congrFun hval 18).symm.trans ((upd_ne (by decide)).trans f18)
              replace f19 := (congrFun hval 19).symm.trans ((upd_ne (by decide)).trans f19)
              replace f20 := (congrFun hval 20).symm.trans ((upd_ne (by decide)).trans f20)
              replace f21 := (congrFun hval 21).symm.trans ((upd_ne (by decide)).trans f21)
              replace f22 := (congrFun hval 22).symm.trans ((upd_ne (by decide)).trans f22)
              replace f23 := (congrFun hval 23).symm.trans ((upd_ne (by decide)).trans f23)
              replace f24 := (congrFun hval 24).symm.trans ((upd_ne (by decide)).trans f24)
              replace f25 := (congrFun hval 25).symm.trans ((upd_ne (by decide)).trans f25)
              replace f26 := (congrFun hval 26).symm.trans ((upd_ne (by decide)).trans f26)
              have f27 := (congrFun hval 27).symm.trans (upd_self _ _ _)
              clear hval
              refine tail_end ?_
              simp only [puts, act_put, act_put_none, List.setIfInBounds_toArray, List.set_cons_zero, List.set_cons_succ, f0, f1, f2, f3, f4, f5, f6, f7, f8, f9, f10, f11, f12, f13, f14, f15, f16, f17, f18, f19, f20, f21, f22, f23, f24, f25, f26, f27]
              clear f0 f1 f2 f3 f4 f5 f6 f7 f8 f9 f10 f11 f12 f13 f14 f15 f16 f17 f18 f19 f20 f21 f22 f23 f24 f25 f26 f27
              clear HC0
              have hfin : BkR w gf F32 p (some bad) blk (some sad) S (.slice (some ⟨g, 0, none⟩) 64 c) RW w1.heap.size 8 (mixTo F32 RW S (t + 1)) _ := hC1.turn (V' := mixTo F32 RW S (t + 1)) (fz := (0, 0))
              rw [HM1.out] at hfin
              have HFIN := Lib.hid hfin
              clear hfin hC1
              go_wp2_with fail
              refine ⟨⟨t + 1, w1.heap.size, 8, by omega, by go_num, rfl, ?_⟩, by simp [intOf]; omega⟩
              rw [HM1.out]; exact HFIN.out
            · obtain rfl : t = 64 := by omega
              obtain ⟨R, hR⟩ : ∃ x, x = mixTo F32 RW S 64 := ⟨_, rfl⟩
              rw [← hR] at hsr
              have ho : BkO w gf F32 p (some bad) blk (some sad) S (.slice (some ⟨g, 0, none⟩) 64 c) RW g2 c2 R (.slice none 0 0) ((s8L (addS F32 S R)).take 0) wr := ⟨hsr, OwnX.nil _ _ _ _, .inl rfl⟩
              have HR := Lib.hid hR
              have HO := Lib.hid ho
              clear hR ho hsr HSR
              go_wp2_with fail
              obtain ⟨wo3, rfl⟩ : ∃ wo3 : World, wo3 = wr := ⟨_, rfl⟩
              go_loopw [20, 21] (fun v i wr => ∃ (k : Nat) (A5 : Option Addr) (c5 : Nat), k ≤ 8 ∧ i = .int .i64 k ∧ v = .slice A5 k c5 ∧ BkO w gf F32 p (some bad) blk (some sad) S (.slice (some ⟨g, 0, none⟩) 64 c) RW g2 c2 R (.slice A5 k c5) ((s8L (addS F32 S R)).take k) wr) (fun _ i _ => 8 - (intOf i).toNat)
              case atStart => exact ⟨0, none, 0, by omega, rfl, rfl, HO.out⟩
              case round =>
                obtain ⟨k, A5, c5, hk, rfl, rfl, hbo⟩ := hrel
                by_cases hk8 : k < 8
                · have hk8' : (k : Int) < 8 := by omega
                  obtain ⟨rj, hrj⟩ : ∃ x, x = (s8L R).getD k 0 := ⟨_, rfl⟩
                  obtain ⟨sj, hsj⟩ : ∃ x, x = (s8L S).getD k 0 := ⟨_, rfl⟩
                  obtain ⟨s1, hs1⟩ : ∃ x, x = (rj + sj) % 2 ^ 64 := ⟨_, rfl⟩
                  obtain ⟨aj, haj⟩ : ∃ x, x = s1 % 2 ^ 32 := ⟨_, rfl⟩
                  obtain ⟨XS, hXS⟩ : ∃ x, x = (s8L (addS F32 S R)).take k := ⟨_, rfl⟩
                  have hxl : XS.length = k := by rw [hXS]; exact s8_take_len _ _ hk
                  have hnx : (s8L (addS F32 S R)).take (k + 1) = XS ++ [aj] := by
                    rw [s8_take _ _ hk8, addS_get _ _ _ _ hk8, hXS, haj, hs1, hrj, hsj]
                    exact congrArg (fun z => (s8L (addS F32 S R)).take k ++ [z]) (mod_r32 _ _)
                  have ER : Hid ((wordsV .u64 (s8L R))[k]? = some (.int .u64 (rj : Int))) := Lib.hid (by rw [hrj]; exact wordsV_get _ _ _ (by show k < 8; exact hk8))
                  have ES : Hid ((wordsV .u64 (s8L S))[k]? = some (.int .u64 (sj : Int))) := Lib.hid (by rw [hsj]; exact wordsV_get _ _ _ (by show k < 8; exact hk8))
                  have LS1 : Hid (s1 < 18446744073709551616) := Lib.hid (by rw [hs1]; exact Nat.mod_lt _ (by decide))
                  rw [← hXS] at hbo
                  have HS1 := Lib.hid hs1
                  have HAJ := Lib.hid haj
                  have HXL := Lib.hid hxl
                  have HNX := Lib.hid hnx
                  have hu := Tryd.underlying38
                  have HC0 := hbo.drew
                  clear hrj hsj hs1 haj hXS hxl hnx hbo HO
                  go_wp2_with fail
                  refine wp_region_tailq (fun u => BkO w gf F32 p (some bad) blk (some sad) S (.slice (some ⟨g, 0, none⟩) 64 c) RW g2 c2 R (.slice A5 k c5) XS u) (fun i => i == 0) 12 [(0, some 205), (1, some 206), (2, some 207), (3, some 208), (4, some 209), (5, some 210), (6, some 211), (7, some 212), (8, some 213), (9, some 214), (10, some 215), (11, some 216), (12, some 217), (13, some 218), (14, some 20)] (by kernel_rfl) (by kernel_rfl) (by decide) (by kernel_rfl) (fun _ => rfl) HC0 ?_
                  apply DetQ.next
                  · -- 0: Op.move (Operand.tmp 20)
                    apply detStepQ_pure []
                    exact fun _ => rfl
                    rfl
                    rintro vals - w1 E hE
                    simp only [puts, act_put, act_put_none, List.setIfInBounds_toArray, List.set_cons_zero, List.set_cons_succ] at hE ⊢
                    go_wp2
                    exact .mk hE
                  apply DetQ.next
                  · -- 1: Op.load 38 (Operand.tmp 3)
                    apply detStepQ_of
                    apply detStep_plain []
                    exact fun _ => rfl
                    rfl
                    rintro vals ⟨-, -⟩ w1 hC1 E hE
                    simp only [puts, act_put, act_put_none, List.setIfInBounds_toArray, List.set_cons_zero, List.set_cons_succ] at hE ⊢
                    refine wpList_get_box hC1.r.w.st.h rfl rfl rfl hu rfl h_size ?_
                    go_wp2_with fail
                    exact .mk (hE _ hC1)
                  apply DetQ.next
                  · -- 2: Op.move (Operand.tmp 13)
                    apply detStepQ_of
                    apply detStep_plain []
                    exact fun _ => rfl
                    rfl
                    rintro vals ⟨⟨-, -⟩, -⟩ w1 hC1 E hE
                    simp only [puts, act_put, act_put_none, List.setIfInBounds_toArray, List.set_cons_zero, List.set_cons_succ] at hE ⊢
                    go_wp2
                    exact .mk (hE _ hC1)
                  apply DetQ.next
                  · -- 3: Op.move (Operand.tmp 21)
                    apply detStepQ_of
                    apply detStep_plain []
                    exact fun _ => rfl
                    rfl
                    rintro vals ⟨⟨⟨-, -⟩, -⟩, -⟩ w1 hC1 E hE
                    simp only [puts, act_put, act_put_none, List.setIfInBounds_toArray, List.set_cons_zero, List.set_cons_succ] at hE ⊢
                    go_wp2
                    exact .mk (hE _ hC1)
                  apply DetQ.next
                  · -- 4: Op.indexAddr 36 (Operand.tmp 207) (Operand.tmp 208)
                    apply detStepQ_of
                    apply detStep_plain [(2, some 207), (3, some 208)]
                    exact fun _ => rfl
                    rfl
                    rintro vals ⟨⟨⟨⟨-, -⟩, -⟩, f2⟩, f3⟩ w1 hC1 E hE
                    have hc8 := hC1.r.le
                    simp only [puts, act_put, act_put_none, List.setIfInBounds_toArray, List.set_cons_zero, List.set_cons_succ, f2, f3] at hE ⊢
                    clear f2 f3
                    go_wp2
                    exact .mk (hE _ hC1)
                  apply DetQ.next
                  · -- 5: Op.load 40 (Operand.tmp 209)
                    apply detStepQ_of
                    apply detStep_plain [(4, some 209)]
                    exact fun _ => rfl
                    rfl
                    rintro vals ⟨⟨⟨⟨⟨-, -⟩, -⟩, -⟩, -⟩, f4⟩ w1 hC1 E hE
                    have d0 := hC1.r.r.atN ER.out
                    simp only [puts, act_put, act_put_none, List.setIfInBounds_toArray, List.set_cons_zero, List.set_cons_succ, f4] at hE ⊢
                    clear f4
                    go_wp2
                    exact .mk (hE _ hC1)
                  apply DetQ.next
                  · -- 6: Op.move (Operand.tmp 1)
                    apply detStepQ_of
                    apply detStep_plain []
                    exact fun _ => rfl
                    rfl
                    rintro vals ⟨⟨⟨⟨⟨⟨-, -⟩, -⟩, -⟩, -⟩, -⟩, -⟩ w1 hC1 E hE
                    simp only [puts, act_put, act_put_none, List.setIfInBounds_toArray, List.set_cons_zero, List.set_cons_succ] at hE ⊢
                    go_wp2
                    exact .mk (hE _ hC1)
                  apply DetQ.next
                  · -- 7: Op.move (Operand.tmp 21)
                    apply detStepQ_of
                    apply detStep_plain []
                    exact fun _ => rfl
                    rfl
                    rintro vals ⟨⟨⟨⟨⟨⟨⟨-, -⟩, -⟩, -⟩, -⟩, -⟩, -⟩, -⟩ w1 hC1 E hE
                    simp only [puts, act_put, act_put_none, List.setIfInBounds_toArray, List.set_cons_zero, List.set_cons_succ] at hE ⊢
                    go_wp2
                    exact .mk (hE _ hC1)
                  apply DetQ.next
                  · -- 8: Op.indexAddr 36 (Operand.tmp 211) (Operand.tmp 212)
                    apply detStepQ_of
                    apply detStep_plain [(6, some 211), (7, some 212)]
                    exact fun _ => rfl
                    rfl
                    rintro vals ⟨⟨⟨⟨⟨⟨⟨⟨-, -⟩, -⟩, -⟩, -⟩, -⟩, -⟩, f6⟩, f7⟩ w1 hC1 E hE
                    simp only [puts, act_put, act_put_none, List.setIfInBounds_toArray, List.set_cons_zero, List.set_cons_succ, f6, f7] at hE ⊢
                    clear f6 f7
                    go_wp2
                    exact .mk (hE _ hC1)
                  apply DetQ.next
                  · -- 9: Op.load 40 (Operand.tmp 213)
                    apply detStepQ_of
                    apply detStep_plain [(8, some 213)]
                    exact fun _ => rfl
                    rfl
                    rintro vals ⟨⟨⟨⟨⟨⟨⟨⟨⟨-, -⟩, -⟩, -⟩, -⟩, -⟩, -⟩, -⟩, -⟩, f8⟩ w1 hC1 E hE
                    have d0 := hC1.r.w.st.rs.val ES.out
                    simp only [puts, act_put, act_put_none, List.setIfInBounds_toArray, List.set_cons_zero, List.set_cons_succ, f8] at hE ⊢
                    clear f8
                    go_wp2
                    exact .mk (hE _ hC1)
                  apply DetQ.next
                  · -- 10: Op.binOp BinOp.add 40 (Operand.tmp 210) (Operand.tmp 214) 40
                    apply detStepQ_of
                    apply detStep_plain [(5, some 210), (9, some 214)]
                    exact fun _ => rfl
                    rfl
                    rintro vals ⟨⟨⟨⟨⟨⟨⟨⟨⟨⟨-, -⟩, -⟩, -⟩, -⟩, -⟩, f5⟩, -⟩, -⟩, -⟩, f9⟩ w1 hC1 E hE
                    simp only [puts, act_put, act_put_none, List.setIfInBounds_toArray, List.set_cons_zero, List.set_cons_succ, f5, f9] at hE ⊢
                    clear f5 f9
                    go_wp2
                    rw [add2_64 rj sj, ← HS1.out]
                    exact .mk (hE _ hC1)
                  apply DetQ.next
                  · -- 11: Op.call { callee := Callee.value (Operand.func 35), args := #[Operand.tmp 206, Operand.tmp 215], argTypes := #
                    apply detStepQ_of
                    apply detStep_plain [(1, some 206), (10, some 215)]
                    exact fun _ => rfl
                    rfl
                    rintro vals ⟨⟨⟨⟨⟨⟨⟨⟨⟨⟨⟨-, -⟩, f1⟩, -⟩, -⟩, -⟩, -⟩, -⟩, -⟩, -⟩, -⟩, f10⟩ w1 hC1 E hE
                    simp only [puts, act_put, act_put_none, List.setIfInBounds_toArray, List.set_cons_zero, List.set_cons_succ, f1, f10] at hE ⊢
                    clear f1 f10
                    go_wp2_with fail
                    refine calls_then (low_any 32 64 _ _ _ _ _ _ _ (.inl rfl) s1 LS1.out) ?_
                    rintro e w2 ⟨rfl, hb2⟩
                    rw [← HAJ.out]
                    go_wp2_with fail
                    exact .mk (hE _ (hC1.next hb2))
                  apply DetQ.done
                  rintro vals ⟨⟨⟨⟨⟨⟨⟨⟨⟨⟨⟨⟨-, f0⟩, f1⟩, f2⟩, f3⟩, f4⟩, f5⟩, f6⟩, f7⟩, f8⟩, f9⟩, f10⟩, f11⟩ w1 hC1
                  -- 12: Op.buildSlice 36 1 #[(0, Operand.tmp 216)]
                  refine tail_step [(11, some 216)] (fun _ => rfl) rfl ?_
                  intro E hE
                  simp only [puts, act_put, act_put_none, List.setIfInBounds_toArray, List.set_cons_zero, List.set_cons_succ, f11] at hE ⊢
                  go_wp2
                  refine .mk (hE _ _ ?_)
                  clear hE E
                  generalize hval : upd _ 12 _ = vals12
                  replace f0 := (congrFun hval 0).symm.trans ((upd_ne (by decide)).trans f0)
                  replace f1 := (congrFun hval 1).symm.trans ((upd_ne (by decide)).trans f1)
                  replace f2 := (congrFun hval 2).symm.trans ((upd_ne (by decide)).trans f2)
                  replace f3 := (congrFun hval 3).symm.trans ((upd_ne (by decide)).trans f3)
                  replace f4 := (congrFun hval 4).symm.trans ((upd_ne (by decide)).trans f4)
                  replace f5 := (congrFun hval 5).symm.trans ((upd_ne (by decide)).trans f5)
                  replace f6 := (congrFun hval 6).symm.trans ((upd_ne (by decide)).trans f6)
                  replace f7 := (congrFun hval 7).symm.trans ((upd_ne (by decide)).trans f7)
                  replace f8 := (congrFun hval 8).symm.trans ((upd_ne (by decide)).trans f8)
                  replace f9 := (congrFun hval 9).symm.trans ((upd_ne (by decide)).trans f9)
                  replace f10 := (congrFun hval 10).symm.trans ((upd_ne (by decide)).trans f10)
                  replace f11 := (congrFun hval 11).symm.trans ((upd_ne (by decide)).trans f11)
                  have f12 := (congrFun hval 12).symm.trans (upd_self _ _ _)
                  clear hval
                  -- 13: Op.call { callee := Callee.builtin Builtin.append, args := #[Operand.tmp 205, Operand.tmp 217], argTypes := #[
                  refine tail_step [(0, some 205), (12, some 217), (11, some 216)] (fun _ => rfl) rfl ?_
                  intro E hE
                  simp only [puts, act_put, act_put_none, List.setIfInBounds_toArray, List.set_cons_zero, List.set_cons_succ, f0, f11, f12] at hE ⊢
                  refine wpList_append_one sl_u64 rfl rfl (show OwnX w1 (gf + 1) 40 1 (.slice A5 k c5) k (wordsV .u64 XS) by have := hC1.o; rwa [HXL.out] at this) rfl rfl rfl rfl (by unfold maxLen; omega) (by omega) (by have := hC1.r.w.st.h.lt; omega) ?_
                  intro A6 c6 w6 hown6 hg6 hn6
                  have HOWN6 := Lib.hid hown6
                  have HG6 := Lib.hid hg6
                  have HN6 := Lib.hid hn6
                  clear hown6 hg6 hn6
                  go_wp2_with fail
                  refine .mk (hE _ _ ?_)
                  clear hE E
                  generalize hval : upd _ 13 _ = vals13
                  replace f0 := (congrFun hval 0).symm.trans ((upd_ne (by decide)).trans f0)
                  replace f1 := (congrFun hval 1).symm.trans ((upd_ne (by decide)).trans f1)
                  replace f2 := (congrFun hval 2).symm.trans ((upd_ne (by decide)).trans f2)
                  replace f3 := (congrFun hval 3).symm.trans ((upd_ne (by decide)).trans f3)
                  replace f4 := (congrFun hval 4).symm.trans ((upd_ne (by decide)).trans f4)
                  replace f5 := (congrFun hval 5).symm.trans ((upd_ne (by decide)).trans f5)
                  replace f6 := (congrFun hval 6).symm.trans ((upd_ne (by decide)).trans f6)
                  replace f7 := (congrFun hval 7).symm.trans ((upd_ne (by decide)).trans f7)
                  replace f8 := (congrFun hval 8).symm.trans ((upd_ne (by decide)).trans f8)
                  replace f9 := (congrFun hval 9).symm.trans ((upd_ne (by decide)).trans f9)
                  replace f10 := (congrFun hval 10).symm.trans ((upd_ne (by decide)).trans f10)
                  replace f11 := (congrFun hval 11).symm.trans ((upd_ne (by decide)).trans f11)
                  replace f12 := (congrFun hval 12).symm.trans ((upd_ne (by decide)).trans f12)
                  have f13 := (congrFun hval 13).symm.trans (upd_self _ _ _)
                  clear hval
                  -- 14: Op.assign (Operand.tmp 218)
                  refine tail_step [(13, some 218), (13, some 218), (0, some 205), (1, some 206), (2, some 207), (3, some 208), (4, some 209), (5, some 210), (6, some 211), (7, some 212), (8, some 213), (9, some 214), (10, some 215), (11, some 216), (12, some 217), (13, some 218)] (fun _ => rfl) rfl ?_
                  intro E hE
                  simp only [puts, act_put, act_put_none, List.setIfInBounds_toArray, List.set_cons_zero, List.set_cons_succ, f0, f1, f2, f3, f4, f5, f6, f7, f8, f9, f10, f11, f12, f13] at hE ⊢
                  go_wp2
                  refine .mk (hE _ _ ?_)
                  clear hE E
                  generalize hval : upd _ 14 _ = vals14
                  replace f0 := (congrFun hval 0).symm.trans ((upd_ne (by decide)).trans f0)
                  replace f1 := (congrFun hval 1).symm.trans ((upd_ne (by decide)).trans f1)
                  replace f2 := (congrFun hval 2).symm.trans ((upd_ne (by decide)).trans f2)
                  replace f3 := (congrFun hval 3).symm.trans ((upd_ne (by decide)).trans f3)
                  replace f4 := (congrFun hval 4).symm.trans ((upd_ne (by decide)).trans f4)
                  replace f5 := (congrFun hval 5).symm.trans ((upd_ne (by decide)).trans f5)
                  replace f6 := (congrFun hval 6).symm.trans ((upd_ne (by decide)).trans f6)
                  replace f7 := (congrFun hval 7).symm.trans ((upd_ne (by decide)).trans f7)
                  replace f8 := (congrFun hval 8).symm.trans ((upd_ne (by decide)).trans f8)
                  replace f9 := (congrFun hval 9).symm.trans ((upd_ne (by decide)).trans f9)
                  replace f10 := (congrFun hval 10).symm.trans ((upd_ne (by decide)).trans f10)
                  replace f11 := (congrFun hval 11).symm.trans ((upd_ne (by decide)).trans f11)
                  replace f12 := (congrFun hval 12).symm.trans ((upd_ne (by decide)).trans f12)
                  replace f13 := (congrFun hval 13).symm.trans ((upd_ne (by decide)).trans f13)
                  have f14 := (congrFun hval 14).symm.trans (upd_self _ _ _)
                  clear hval
                  refine tail_end ?_
                  simp only [puts, act_put, act_put_none, List.setIfInBounds_toArray, List.set_cons_zero, List.set_cons_succ, f0, f1, f2, f3, f4, f5, f6, f7, f8, f9, f10, f11, f12, f13, f14]
                  clear f0 f1 f2 f3 f4 f5 f6 f7 f8 f9 f10 f11 f12 f13 f14
                  clear HC0
                  have hbo2 := hC1.app (o' := .slice A6 (k + 1) c6) (y := aj) (by rw [HXL.out]; exact HOWN6.out) HG6.out HN6.out
                  rw [← HNX.out] at hbo2
                  have HBO2 := Lib.hid hbo2
                  clear hbo2 hC1
                  go_wp2_with fail
                  exact ⟨⟨k + 1, A6, c6, by omega, by go_num, rfl, HBO2.out⟩, by simp [intOf]; omega⟩
                · obtain rfl : k = 8 := by omega
                  have HBO := Lib.hid hbo
                  clear hbo HO
                  go_wp2_with fail
                  go_ret
                  refine ⟨A5, c5, rfl, ?_, by rw [← HGF.out]; exact HBO.out.r.w.st.bel⟩
                  have h := HBO.out.o
                  rw [s8_take_len _ _ (by omega)] at h
                  have hd : addS F32 S R = mixS F32 S blk := by rw [mixS, HR.out, HRW.out]; rfl
                  rw [← hd, ← HGF.out]
                  exact h.mono (by omega)
end Go.Proofs.YtfpbcihpjcocmaaDoor
