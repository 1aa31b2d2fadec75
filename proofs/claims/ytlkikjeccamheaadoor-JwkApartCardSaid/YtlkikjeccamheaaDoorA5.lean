/-
  Joined texts: Blk32 HSum32 OfC Of32 Top2r Rnm Jnm Bys.
-/
import Derived.Deep.QuietTactic
import Derived.Laws.IdiomStrings
import Derived.Test.YtlkikjeccamheaaDoorA3
import Derived.Test.YtlkikjeccamheaaDoorA4
import Derived.Test.YtlkikjeccamheaaDoorA2
/-
  Walk: the reference's block, words of 32 bits.
-/
namespace Go.Proofs.YtlkikjeccamheaaDoor.Sh
set_option linter.unusedSimpArgs false
set_option linter.unusedVariables false
open Go.RowKit
set_option maxRecDepth 100000 in
set_option maxHeartbeats 4000000 in
theorem block32_any (p : HP) (S : S8) (blk : List UInt8) (bA sA : Option Addr) (bc sc B : Nat) (w : World) (hok : HOk F32 p w B) (hB : B ≤ w.heap.size) (hrb : Rd w B bA (bytesV blk)) (hrs : Rd w B sA (wordsV .u64 (s8L S)))
    (hbl : blk.length = 64) (hbc : blk.length ≤ bc) (hsc : 8 ≤ sc) (hS : S.Lt (2 ^ 32)) :
    Calls Tryd.prog 37 #[.agg (hv F32 p), .slice sA 8 sc, .slice bA blk.length bc] w (BlockPost F32 S blk w) := by
  obtain ⟨W0, hW0⟩ : ∃ W0, W0 = w.alloc (.cells (hv F32 p) 61) := ⟨_, rfl⟩
  have hst : BkSt w w.heap.size F32 p bA blk sA S W0 := by
    have hb := below_new w (.cells (hv F32 p) 61)
    rw [hW0]; exact ⟨hb, Blk.new _ _ _, (hok.mono hB).below hb, (hrb.mono hB).below hb, (hrs.mono hB).below hb⟩
  obtain ⟨sad, rfl, hz1, hz2⟩ := hrs.at_ (k := 0) (by simp [wordsV, s8L])
  obtain ⟨bad, rfl, hz3, hz4⟩ := hrb.at_ (k := 0) (by rw [bytesV_length, hbl]; decide)
  clear hz1 hz2 hz3 hz4
  have hst0 := hst
  rw [hW0] at hst0
  have HST := Lib.hid hst0
  have HBL := Lib.hid hbl
  have HS := Lib.hid hS
  have hbc2 : 64 ≤ bc := by omega
  rw [hbl]
  obtain ⟨hh, hhh⟩ : ∃ hh, hh = hv F32 p := ⟨_, rfl⟩
  obtain ⟨gf, hgf⟩ : ∃ gf, gf = w.heap.size := ⟨_, rfl⟩
  have c0 := hst.h.cell 0
  have c1 := hst.h.cell 1
  rw [hW0, ← hgf] at c0 c1
  simp only [hv, hC, List.getElem?_toArray, List.getElem?_cons_zero, List.getElem?_cons_succ] at c0 c1
  rw [← hgf] at hst0
  clear HST
  have HST := Lib.hid hst0
  have HH := Lib.hid hhh
  have HGF := Lib.hid hgf
  clear hst hst0 hbl hS hok hB hrb hrs hbc hW0 hhh hgf W0 c0 c1
  go_enter Tryd.func37, Tryd.ntmps37
  go_wp2
  rw [show w.heap.size = gf from HGF.out.symm]
  have hst0 := HST.out
  have hown0 : OwnX (w.alloc (.cells (hv F32 p) 61)) (gf + 1) 75 1 (.slice none 0 0) 0 (wordsV .u64 (rowW F32 blk 0)) := OwnX.nil _ _ _ _
  clear HST
  go_loopw [7, 8] (fun v i wr => ∃ (t : Nat) (A : Option Addr) (c : Nat), t ≤ 16 ∧ i = .int .i64 t ∧ v = .slice A t c ∧ BkSt w gf F32 p (some bad) blk (some sad) S wr ∧ OwnX wr (gf + 1) 75 1 (.slice A t c) t (wordsV .u64 (rowW F32 blk t))) (fun _ i _ => 16 - (intOf i).toNat)
  case atStart => exact ⟨0, none, 0, by omega, rfl, rfl, hst0, hown0⟩
  case round =>
    obtain ⟨t, A, c, ht, rfl, rfl, hst, hown⟩ := hrel
    clear hst0 hown0
    have c0 := hst.h.cell 0
    simp only [hv, hC, List.getElem?_toArray, List.getElem?_cons_zero, F32] at c0
    by_cases hlt : t < 16
    · have hlt' : (t : Int) < 16 := by omega
      obtain ⟨tE, htE⟩ : ∃ tE : Nat, tE = t * 4 := ⟨_, rfl⟩
      have hq : (t : Int) * 32 / 8 = (tE : Int) := by omega
      obtain ⟨pc, hpc⟩ : ∃ x, x = (blk.drop tE).take 4 := ⟨_, rfl⟩
      have hpl : pc.length = 4 := by rw [hpc]; simp; rw [HBL.out]; omega
      have hrp : ∀ u, BkSt w gf F32 p (some bad) blk (some sad) S u → ∀ j z, pc[j]? = some z → u.cell? (bad.add (tE + j)) = some (.int .u8 (z.toNat : Int)) := fun u hu j z hz => by
        refine hu.rb.val ?_
        rw [hpc, List.getElem?_take] at hz
        split at hz
        · rw [List.getElem?_drop] at hz
          rw [bytesV, List.getElem?_map, hz]; rfl
        · cases hz
      have HST := Lib.hid hst
      have HOWN := Lib.hid hown
      have HPC := Lib.hid hpc
      have HPL := Lib.hid hpl
      have HRP := Lib.hid hrp
      have HTE := Lib.hid htE
      have htE2 : tE ≤ 64 - 4 := by omega
      clear hst hown hpc hpl hrp htE
      go_wp2_with fail
      obtain ⟨wo, rfl⟩ : ∃ wo : World, wo = wr := ⟨_, rfl⟩
      go_loop [9, 10] (fun v i => ∃ j : Nat, j ≤ 4 ∧ i = .int .i64 j ∧ v = .int .u64 (beN (pc.take j) : Nat)) (fun _ i => 4 - (intOf i).toNat)
      case atStart => exact ⟨0, by omega, rfl, rfl⟩
      case round =>
        obtain ⟨j, hj, rfl, rfl⟩ := hrel
        obtain ⟨x, hx⟩ : ∃ x, x = beN (pc.take j) := ⟨_, rfl⟩
        rw [← hx]
        by_cases hjl : j < 4
        · have hjl' : (j : Int) < 4 := by omega
          have hpj : j < pc.length := by rw [HPL.out]; exact hjl
          obtain ⟨z, hz⟩ : ∃ z, z = pc[j] := ⟨_, rfl⟩
          have hcl := HRP.out _ HST.out j z (by rw [hz]; exact List.getElem?_eq_getElem hpj)
          have hzl := z.toNat_lt
          have hxl : x < 256 ^ (4 - 1) := by
            rw [hx]
            have h1 := beN_lt (pc.take j)
            have h2 : (pc.take j).length ≤ j := List.length_take_le _ _
            exact Nat.lt_of_lt_of_le h1 (Nat.pow_le_pow_right (by omega) (by omega))
          have hs2 : beN (pc.take (j + 1)) = x * 256 + z.toNat := by
            rw [List.take_succ_eq_append_getElem hpj, beN_snoc, hx, hz]
          have hb1 : (x : Int) * 256 + (z.toNat : Int) < 18446744073709551616 := by omega
          have hb2 : (x : Int) * 256 < 18446744073709551616 := by omega
          obtain ⟨ix, hix⟩ : ∃ ix, ix = tE + j := ⟨_, rfl⟩
          have hlx : tE + j < 64 := by omega
          have HS2 := Lib.hid hs2
          clear hx hz hs2 hpj hxl hix
          go_wp2_with fail
          exact ⟨⟨j + 1, by omega, by go_num, by rw [HS2.out]; go_num⟩, by simp [intOf]; omega⟩
        · have hge : ¬ (j : Int) < 4 := by omega
          obtain rfl : j = 4 := by omega
          have hpc2 : pieceN (F32.bits / 8) blk t = x := by rw [hx, List.take_of_length_le (by rw [HPL.out]; omega), HPC.out, HTE.out]; rfl
          have HX := Lib.hid hpc2
          clear hx hpc2
          go_wp2_with (refine wpList_append_one sl_u64 rfl rfl HOWN.out rfl rfl rfl rfl (by unfold maxLen; omega) (by omega) (by have := HST.out.h.lt; omega) ?_; intro A2 c2 w2 hown2 hg2 hn2; have HOWN2 := Lib.hid hown2; have HG2 := Lib.hid hg2; clear hown2 hg2 hn2)
          refine ⟨⟨t + 1, A2, c2, by omega, by go_num, rfl, HST.out.grow HOWN.out HG2.out, ?_⟩, by simp [intOf]; omega⟩
          rw [rowW, if_pos hlt, HX.out, wordsV_snoc]
          exact HOWN2.out
    · obtain rfl : t = 16 := by omega
      have hsw : BkW w gf F32 p (some bad) blk (some sad) S (.slice A 16 c) (rowW F32 blk 16) wr := ⟨hst, by rw [rowW_length]; exact hown⟩
      clear hst hown
      go_wp2_with fail
      rw [show ((16 : Nat) : Int) = 16 from rfl]
      obtain ⟨wo, rfl⟩ : ∃ wo : World, wo = wr := ⟨_, rfl⟩
      go_loopw [7, 11] (fun v i wr => ∃ (t : Nat) (A : Option Addr) (c : Nat), 16 ≤ t ∧ t ≤ 64 ∧ i = .int .i64 t ∧ v = .slice A t c ∧ BkW w gf F32 p (some bad) blk (some sad) S (.slice A t c) (rowW F32 blk t) wr) (fun _ i _ => 64 - (intOf i).toNat)
      case atStart => exact ⟨16, A, c, by omega, by omega, rfl, rfl, hsw⟩
      case round =>
        clear hsw
        clear c0
        obtain ⟨t, A, c, ht16, htM, rfl, rfl, hsw⟩ := hrel
        have c1 := hsw.st.h.cell 1
        simp only [hv, hC, List.getElem?_toArray, List.getElem?_cons_zero, List.getElem?_cons_succ, F32] at c1
        by_cases hlt : t < 64
        · have hlt' : (t : Int) < 64 := by omega
          obtain ⟨g, rfl, hgb, hgl⟩ := (show OwnX wr (gf + 1) 75 1 (.slice A t c) t (wordsV .u64 (rowW F32 blk t)) by have := hsw.own; rwa [rowW_length] at this).ptr (by omega)
          have hct : t ≤ c := by
            have ho : OwnX wr (gf + 1) 75 1 (.slice (some ⟨g, 0, none⟩) t c) t (wordsV .u64 (rowW F32 blk t)) := by have := hsw.own; rwa [rowW_length] at this
            exact ho.le_cap
          obtain ⟨l, hl⟩ : ∃ l, l = rowW F32 blk t := ⟨_, rfl⟩
          have hlen : l.length = t := by rw [hl]; exact rowW_length _ _ _
          have hlw : ∀ i, l.getD i 0 < 2 ^ 32 := by rw [hl]; exact getD_lt (rowW_lt F32 (by decide) blk t) (by decide)
          rw [← hl] at hsw
          obtain ⟨a16, h16⟩ : ∃ x, x = l.getD (t - 16) 0 := ⟨_, rfl⟩
          obtain ⟨a15, h15⟩ : ∃ x, x = l.getD (t - 15) 0 := ⟨_, rfl⟩
          obtain ⟨a7, h7⟩ : ∃ x, x = l.getD (t - 7) 0 := ⟨_, rfl⟩
          obtain ⟨a2, h2⟩ : ∃ x, x = l.getD (t - 2) 0 := ⟨_, rfl⟩
          obtain ⟨m1, hm1⟩ : ∃ x, x = allF F32 a15 F32.t0 true := ⟨_, rfl⟩
          obtain ⟨m2, hm2⟩ : ∃ x, x = allF F32 a2 F32.t1 true := ⟨_, rfl⟩
          obtain ⟨s1, hs1⟩ : ∃ x, x = (a16 + m1) % 2 ^ 64 := ⟨_, rfl⟩
          obtain ⟨s2, hs2⟩ : ∃ x, x = (s1 + a7) % 2 ^ 64 := ⟨_, rfl⟩
          obtain ⟨s3, hs3⟩ : ∃ x, x = (s2 + m2) % 2 ^ 64 := ⟨_, rfl⟩
          have W15 : Hid (a15 < 2 ^ 32) := Lib.hid (by rw [h15]; exact hlw _)
          have W2 : Hid (a2 < 2 ^ 32) := Lib.hid (by rw [h2]; exact hlw _)
          have hnw : nextW F32 l t = s3 % 2 ^ 32 := by rw [hs3, hs2, hs1, hm1, hm2, h16, h15, h7, h2]; exact next_32 _ _ _ _
          have hs3l : s3 < 18446744073709551616 := by rw [hs3]; exact Nat.mod_lt _ (by decide)
          have HL := Lib.hid hl
          have HLEN := Lib.hid hlen
          have H16 := Lib.hid h16
          have H15 := Lib.hid h15
          have H7 := Lib.hid h7
          have H2 := Lib.hid h2
          have HM1 := Lib.hid hm1
          have HM2 := Lib.hid hm2
          have HS1 := Lib.hid hs1
          have HS2 := Lib.hid hs2
          have HS3 := Lib.hid hs3
          have HNW := Lib.hid hnw
          have HS3L := Lib.hid hs3l
          clear hl hlen hlw h16 h15 h7 h2 hm1 hm2 hs1 hs2 hs3 hnw hs3l
          have hu := Tryd.underlying61
          have HC0 := hsw.drew
          have HSW := Lib.hid hsw
          clear hsw
          go_wp2_with fail
          refine wp_region_det (fun u => BkW w gf F32 p (some bad) blk (some sad) S (.slice (some ⟨g, 0, none⟩) t c) l u) (fun u => BkW w gf F32 p (some bad) blk (some sad) S (.slice (some ⟨g, 0, none⟩) t c) l u) [(0, some 57), (1, some 58), (2, some 59), (3, some 60), (4, some 61), (5, some 62), (6, some 63), (7, some 64), (8, some 65), (9, some 66), (10, some 67), (11, some 68), (12, some 69), (13, some 70), (14, some 71), (15, some 72), (16, some 73), (17, some 74), (18, some 75), (19, some 76), (20, some 77), (21, some 78), (22, some 79), (23, some 80), (24, some 81), (25, some 82), (26, some 83), (27, some 84), (28, some 85), (29, some 86), (30, some 87), (31, some 12)] (by kernel_rfl) (by kernel_rfl) (by decide) (by kernel_rfl) (fun _ => rfl) HC0 ?_
          apply DetL.next
          · -- 0: Op.move (Operand.tmp 7)
            apply detStep_plain []
            exact fun _ => rfl
            rfl
            rintro vals - w1 hC1 E hE
            simp only [puts, act_put, act_put_none, List.setIfInBounds_toArray, List.set_cons_zero, List.set_cons_succ] at hE ⊢
            go_wp2
            exact .mk (hE _ hC1)
          apply DetL.next
          · -- 1: Op.move (Operand.tmp 11)
            apply detStep_plain []
            exact fun _ => rfl
            rfl
            rintro vals ⟨-, -⟩ w1 hC1 E hE
            simp only [puts, act_put, act_put_none, List.setIfInBounds_toArray, List.set_cons_zero, List.set_cons_succ] at hE ⊢
            go_wp2
            exact .mk (hE _ hC1)
          apply DetL.next
          · -- 2: Op.binOp BinOp.sub 3 (Operand.tmp 58) (Operand.const (Value.int IntKind.i64 16)) 3
            apply detStep_plain [(1, some 58)]
            exact fun _ => rfl
            rfl
            rintro vals ⟨⟨-, -⟩, f1⟩ w1 hC1 E hE
            simp only [puts, act_put, act_put_none, List.setIfInBounds_toArray, List.set_cons_zero, List.set_cons_succ, f1] at hE ⊢
            clear f1
            go_wp2
            exact .mk (hE _ hC1)
          apply DetL.next
          · -- 3: Op.indexAddr 59 (Operand.tmp 57) (Operand.tmp 59)
            apply detStep_plain [(0, some 57), (2, some 59)]
            exact fun _ => rfl
            rfl
            rintro vals ⟨⟨⟨-, f0⟩, -⟩, f2⟩ w1 hC1 E hE
            simp only [puts, act_put, act_put_none, List.setIfInBounds_toArray, List.set_cons_zero, List.set_cons_succ, f0, f2] at hE ⊢
            clear f0 f2
            go_wp2
            exact .mk (hE _ hC1)
          apply DetL.next
          · -- 4: Op.load 75 (Operand.tmp 60)
            apply detStep_plain [(3, some 60)]
            exact fun _ => rfl
            rfl
            rintro vals ⟨⟨⟨⟨-, -⟩, -⟩, -⟩, f3⟩ w1 hC1 E hE
            have d0 := hC1.at_ (i := t - 16) HLEN.out (by omega)
            rw [← H16.out] at d0
            simp only [puts, act_put, act_put_none, List.setIfInBounds_toArray, List.set_cons_zero, List.set_cons_succ, f3] at hE ⊢
            clear f3
            go_wp2
            exact .mk (hE _ hC1)
          apply DetL.next
          · -- 5: Op.load 61 (Operand.tmp 3)
            apply detStep_plain []
            exact fun _ => rfl
            rfl
            rintro vals ⟨⟨⟨⟨⟨-, -⟩, -⟩, -⟩, -⟩, -⟩ w1 hC1 E hE
            simp only [puts, act_put, act_put_none, List.setIfInBounds_toArray, List.set_cons_zero, List.set_cons_succ] at hE ⊢
            refine wpList_get_box hC1.st.h rfl rfl rfl hu rfl h_size ?_
            go_wp2_with fail
            exact .mk (hE _ hC1)
          apply DetL.next
          · -- 6: Op.move (Operand.tmp 7)
            apply detStep_plain []
            exact fun _ => rfl
            rfl
            rintro vals ⟨⟨⟨⟨⟨⟨-, -⟩, -⟩, -⟩, -⟩, -⟩, -⟩ w1 hC1 E hE
            simp only [puts, act_put, act_put_none, List.setIfInBounds_toArray, List.set_cons_zero, List.set_cons_succ] at hE ⊢
            go_wp2
            exact .mk (hE _ hC1)
          apply DetL.next
          · -- 7: Op.move (Operand.tmp 11)
            apply detStep_plain []
            exact fun _ => rfl
            rfl
            rintro vals ⟨⟨⟨⟨⟨⟨⟨-, -⟩, -⟩, -⟩, -⟩, -⟩, -⟩, -⟩ w1 hC1 E hE
            simp only [puts, act_put, act_put_none, List.setIfInBounds_toArray, List.set_cons_zero, List.set_cons_succ] at hE ⊢
            go_wp2
            exact .mk (hE _ hC1)
          apply DetL.next
          · -- 8: Op.binOp BinOp.sub 3 (Operand.tmp 64) (Operand.const (Value.int IntKind.i64 15)) 3
            apply detStep_plain [(7, some 64)]
            exact fun _ => rfl
            rfl
            rintro vals ⟨⟨⟨⟨⟨⟨⟨⟨-, -⟩, -⟩, -⟩, -⟩, -⟩, -⟩, -⟩, f7⟩ w1 hC1 E hE
            simp only [puts, act_put, act_put_none, List.setIfInBounds_toArray, List.set_cons_zero, List.set_cons_succ, f7] at hE ⊢
            clear f7
            go_wp2
            exact .mk (hE _ hC1)
          apply DetL.next
          · -- 9: Op.indexAddr 59 (Operand.tmp 63) (Operand.tmp 65)
            apply detStep_plain [(6, some 63), (8, some 65)]
            exact fun _ => rfl
            rfl
            rintro vals ⟨⟨⟨⟨⟨⟨⟨⟨⟨-, -⟩, -⟩, -⟩, -⟩, -⟩, -⟩, f6⟩, -⟩, f8⟩ w1 hC1 E hE
            simp only [puts, act_put, act_put_none, List.setIfInBounds_toArray, List.set_cons_zero, List.set_cons_succ, f6, f8] at hE ⊢
            clear f6 f8
            go_wp2
            exact .mk (hE _ hC1)
          apply DetL.next
          · -- 10: Op.load 75 (Operand.tmp 66)
            apply detStep_plain [(9, some 66)]
            exact fun _ => rfl
            rfl
            rintro vals ⟨⟨⟨⟨⟨⟨⟨⟨⟨⟨-, -⟩, -⟩, -⟩, -⟩, -⟩, -⟩, -⟩, -⟩, -⟩, f9⟩ w1 hC1 E hE
            have d0 := hC1.at_ (i := t - 15) HLEN.out (by omega)
            rw [← H15.out] at d0
            simp only [puts, act_put, act_put_none, List.setIfInBounds_toArray, List.set_cons_zero, List.set_cons_succ, f9] at hE ⊢
            clear f9
            go_wp2
            exact .mk (hE _ hC1)
          apply DetL.next
          · -- 11: Op.fieldAddr 61 (Operand.tmp 3) 4
            apply detStep_plain []
            exact fun _ => rfl
            rfl
            rintro vals ⟨⟨⟨⟨⟨⟨⟨⟨⟨⟨⟨-, -⟩, -⟩, -⟩, -⟩, -⟩, -⟩, -⟩, -⟩, -⟩, -⟩, -⟩ w1 hC1 E hE
            simp only [puts, act_put, act_put_none, List.setIfInBounds_toArray, List.set_cons_zero, List.set_cons_succ] at hE ⊢
            go_wp2
            exact .mk (hE _ hC1)
          apply DetL.next
          · -- 12: Op.load 58 (Operand.tmp 68)
            apply detStep_plain [(11, some 68)]
            exact fun _ => rfl
            rfl
            rintro vals ⟨⟨⟨⟨⟨⟨⟨⟨⟨⟨⟨⟨-, -⟩, -⟩, -⟩, -⟩, -⟩, -⟩, -⟩, -⟩, -⟩, -⟩, -⟩, f11⟩ w1 hC1 E hE
            have d0 := hC1.st.h.cell 4
            simp [hv, hC] at d0
            simp only [puts, act_put, act_put_none, List.setIfInBounds_toArray, List.set_cons_zero, List.set_cons_succ, f11] at hE ⊢
            clear f11
            go_wp2
            exact .mk (hE _ hC1)
          apply DetL.next
          · -- 13: Op.call { callee := Callee.value (Operand.func 59), args := #[Operand.tmp 62, Operand.tmp 67, Operand.tmp 69, 
            apply detStep_plain [(5, some 62), (10, some 67), (12, some 69)]
            exact fun _ => rfl
            rfl
            rintro vals ⟨⟨⟨⟨⟨⟨⟨⟨⟨⟨⟨⟨⟨-, -⟩, -⟩, -⟩, -⟩, -⟩, f5⟩, -⟩, -⟩, -⟩, -⟩, f10⟩, -⟩, f12⟩ w1 hC1 E hE
            simp only [puts, act_put, act_put_none, List.setIfInBounds_toArray, List.set_cons_zero, List.set_cons_succ, f5, f10, f12] at hE ⊢
            clear f5 f10 f12
            go_wp2_with fail
            refine calls_then (mixed_any 32 64 _ _ _ _ _ _ _ (.inl rfl) a15 _ _ _ true W15.out (by decide) (by decide) (by decide) _ _ gf hC1.st.ok.c (by have := hC1.st.h.lt; omega) hC1.st.ok.cc) ?_
            rintro e w2 ⟨rfl, hb2⟩
            rw [show allN 32 a15 _ _ _ true = m1 from HM1.out.symm]
            go_wp2_with fail
            exact .mk (hE _ (hC1.next hb2))
          apply DetL.next
          · -- 14: Op.binOp BinOp.add 75 (Operand.tmp 61) (Operand.tmp 70) 75
            apply detStep_plain [(4, some 61), (13, some 70)]
            exact fun _ => rfl
            rfl
            rintro vals ⟨⟨⟨⟨⟨⟨⟨⟨⟨⟨⟨⟨⟨⟨-, -⟩, -⟩, -⟩, -⟩, f4⟩, -⟩, -⟩, -⟩, -⟩, -⟩, -⟩, -⟩, -⟩, f13⟩ w1 hC1 E hE
            simp only [puts, act_put, act_put_none, List.setIfInBounds_toArray, List.set_cons_zero, List.set_cons_succ, f4, f13] at hE ⊢
            clear f4 f13
            go_wp2
            rw [add2_64 a16 m1, ← HS1.out]
            exact .mk (hE _ hC1)
          apply DetL.next
          · -- 15: Op.move (Operand.tmp 7)
            apply detStep_plain []
            exact fun _ => rfl
            rfl
            rintro vals ⟨⟨⟨⟨⟨⟨⟨⟨⟨⟨⟨⟨⟨⟨⟨-, -⟩, -⟩, -⟩, -⟩, -⟩, -⟩, -⟩, -⟩, -⟩, -⟩, -⟩, -⟩, -⟩, -⟩, -⟩ w1 hC1 E hE
            simp only [puts, act_put, act_put_none, List.setIfInBounds_toArray, List.set_cons_zero, List.set_cons_succ] at hE ⊢
            go_wp2
            exact .mk (hE _ hC1)
          apply DetL.next
          · -- 16: Op.move (Operand.tmp 11)
            apply detStep_plain []
            exact fun _ => rfl
            rfl
            rintro vals ⟨⟨⟨⟨⟨⟨⟨⟨⟨⟨⟨⟨⟨⟨⟨⟨-, -⟩, -⟩, -⟩, -⟩, -⟩, -⟩, -⟩, -⟩, -⟩, -⟩, -⟩, -⟩, -⟩, -⟩, -⟩, -⟩ w1 hC1 E hE
            simp only [puts, act_put, act_put_none, List.setIfInBounds_toArray, List.set_cons_zero, List.set_cons_succ] at hE ⊢
            go_wp2
            exact .mk (hE _ hC1)
          apply DetL.next
          · -- 17: Op.binOp BinOp.sub 3 (Operand.tmp 73) (Operand.const (Value.int IntKind.i64 7)) 3
            apply detStep_plain [(16, some 73)]
            exact fun _ => rfl
            rfl
            rintro vals ⟨⟨⟨⟨⟨⟨⟨⟨⟨⟨⟨⟨⟨⟨⟨⟨⟨-, -⟩, -⟩, -⟩, -⟩, -⟩, -⟩, -⟩, -⟩, -⟩, -⟩, -⟩, -⟩, -⟩, -⟩, -⟩, -⟩, f16⟩ w1 hC1 E hE
            simp only [puts, act_put, act_put_none, List.setIfInBounds_toArray, List.set_cons_zero, List.set_cons_succ, f16] at hE ⊢
            clear f16
            go_wp2
            exact .mk (hE _ hC1)
          apply DetL.next
          · -- 18: Op.indexAddr 59 (Operand.tmp 72) (Operand.tmp 74)
            apply detStep_plain [(15, some 72), (17, some 74)]
            exact fun _ => rfl
            rfl
            rintro vals ⟨⟨⟨⟨⟨⟨⟨⟨⟨⟨⟨⟨⟨⟨⟨⟨⟨⟨-, -⟩, -⟩, -⟩, -⟩, -⟩, -⟩, -⟩, -⟩, -⟩, -⟩, -⟩, -⟩, -⟩, -⟩, -⟩, f15⟩, -⟩, f17⟩ w1 hC1 E hE
            simp only [puts, act_put, act_put_none, List.setIfInBounds_toArray, List.set_cons_zero, List.set_cons_succ, f15, f17] at hE ⊢
            clear f15 f17
            go_wp2
            exact .mk (hE _ hC1)
          apply DetL.next
          · -- 19: Op.load 75 (Operand.tmp 75)
            apply detStep_plain [(18, some 75)]
            exact fun _ => rfl
            rfl
            rintro vals ⟨⟨⟨⟨⟨⟨⟨⟨⟨⟨⟨⟨⟨⟨⟨⟨⟨⟨⟨-, -⟩, -⟩, -⟩, -⟩, -⟩, -⟩, -⟩, -⟩, -⟩, -⟩, -⟩, -⟩, -⟩, -⟩, -⟩, -⟩, -⟩, -⟩, f18⟩ w1 hC1 E hE
            have d0 := hC1.at_ (i := t - 7) HLEN.out (by omega)
            rw [← H7.out] at d0
            simp only [puts, act_put, act_put_none, List.setIfInBounds_toArray, List.set_cons_zero, List.set_cons_succ, f18] at hE ⊢
            clear f18
            go_wp2
            exact .mk (hE _ hC1)
          apply DetL.next
          · -- 20: Op.binOp BinOp.add 75 (Operand.tmp 71) (Operand.tmp 76) 75
            apply detStep_plain [(14, some 71), (19, some 76)]
            exact fun _ => rfl
            rfl
            rintro vals ⟨⟨⟨⟨⟨⟨⟨⟨⟨⟨⟨⟨⟨⟨⟨⟨⟨⟨⟨⟨-, -⟩, -⟩, -⟩, -⟩, -⟩, -⟩, -⟩, -⟩, -⟩, -⟩, -⟩, -⟩, -⟩, -⟩, f14⟩, -⟩, -⟩, -⟩, -⟩, f19⟩ w1 hC1 E hE
            simp only [puts, act_put, act_put_none, List.setIfInBounds_toArray, List.set_cons_zero, List.set_cons_succ, f14, f19] at hE ⊢
            clear f14 f19
            go_wp2
            rw [add2_64 s1 a7, ← HS2.out]
            exact .mk (hE _ hC1)
          apply DetL.next
          · -- 21: Op.load 61 (Operand.tmp 3)
            apply detStep_plain []
            exact fun _ => rfl
            rfl
            rintro vals ⟨⟨⟨⟨⟨⟨⟨⟨⟨⟨⟨⟨⟨⟨⟨⟨⟨⟨⟨⟨⟨-, -⟩, -⟩, -⟩, -⟩, -⟩, -⟩, -⟩, -⟩, -⟩, -⟩, -⟩, -⟩, -⟩, -⟩, -⟩, -⟩, -⟩, -⟩, -⟩, -⟩, -⟩ w1 hC1 E hE
            simp only [puts, act_put, act_put_none, List.setIfInBounds_toArray, List.set_cons_zero, List.set_cons_succ] at hE ⊢
            refine wpList_get_box hC1.st.h rfl rfl rfl hu rfl h_size ?_
            go_wp2_with fail
            exact .mk (hE _ hC1)
          apply DetL.next
          · -- 22: Op.move (Operand.tmp 7)
            apply detStep_plain []
            exact fun _ => rfl
            rfl
            rintro vals ⟨⟨⟨⟨⟨⟨⟨⟨⟨⟨⟨⟨⟨⟨⟨⟨⟨⟨⟨⟨⟨⟨-, -⟩, -⟩, -⟩, -⟩, -⟩, -⟩, -⟩, -⟩, -⟩, -⟩, -⟩, -⟩, -⟩, -⟩, -⟩, -⟩, -⟩, -⟩, -⟩, -⟩, -⟩, -⟩ w1 hC1 E hE
            simp only [puts, act_put, act_put_none, List.setIfInBounds_toArray, List.set_cons_zero, List.set_cons_succ] at hE ⊢
            go_wp2
            exact .mk (hE _ hC1)
          apply DetL.next
          · -- 23: Op.move (Operand.tmp 11)
            apply detStep_plain []
            exact fun _ => rfl
            rfl
            rintro vals ⟨⟨⟨⟨⟨⟨⟨⟨⟨⟨⟨⟨⟨⟨⟨⟨⟨⟨⟨⟨⟨⟨⟨-, -⟩, -⟩, -⟩, -⟩, -⟩, -⟩, -⟩, -⟩, -⟩, -⟩, -⟩, -⟩, -⟩, -⟩, -⟩, -⟩, -⟩, -⟩, -⟩, -⟩, -⟩, -⟩, -⟩ w1 hC1 E hE
            simp only [puts, act_put, act_put_none, List.setIfInBounds_toArray, List.set_cons_zero, List.set_cons_succ] at hE ⊢
            go_wp2
            exact .mk (hE _ hC1)
          apply DetL.next
          · -- 24: Op.binOp BinOp.sub 3 (Operand.tmp 80) (Operand.const (Value.int IntKind.i64 2)) 3
            apply detStep_plain [(23, some 80)]
            exact fun _ => rfl
            rfl
            rintro vals ⟨⟨⟨⟨⟨⟨⟨⟨⟨⟨⟨⟨⟨⟨⟨⟨⟨⟨⟨⟨⟨⟨⟨⟨-, -⟩, -⟩, -⟩, -⟩, -⟩, -⟩, -⟩, -⟩, -⟩, -⟩, -⟩, -⟩, -⟩, -⟩, -⟩, -⟩, -⟩, -⟩, -⟩, -⟩, -⟩, -⟩, -⟩, f23⟩ w1 hC1 E hE
            simp only [puts, act_put, act_put_none, List.setIfInBounds_toArray, List.set_cons_zero, List.set_cons_succ, f23] at hE ⊢
            clear f23
            go_wp2
            exact .mk (hE _ hC1)
          apply DetL.next
          · -- 25: Op.indexAddr 59 (Operand.tmp 79) (Operand.tmp 81)
            apply detStep_plain [(22, some 79), (24, some 81)]
            exact fun _ => rfl
            rfl
            rintro vals ⟨⟨⟨⟨⟨⟨⟨⟨⟨⟨⟨⟨⟨⟨⟨⟨⟨⟨⟨⟨⟨⟨⟨⟨⟨-, -⟩, -⟩, -⟩, -⟩, -⟩, -⟩, -⟩, -⟩, -⟩, -⟩, -⟩, -⟩, -⟩, -⟩, -⟩, -⟩, -⟩, -⟩, -⟩, -⟩, -⟩, -⟩, f22⟩, -⟩, f24⟩ w1 hC1 E hE
            simp only [puts, act_put, act_put_none, List.setIfInBounds_toArray, List.set_cons_zero, List.set_cons_succ, f22, f24] at hE ⊢
            clear f22 f24
            go_wp2
            exact .mk (hE _ hC1)
          apply DetL.next
          · -- 26: Op.load 75 (Operand.tmp 82)
            apply detStep_plain [(25, some 82)]
            exact fun _ => rfl
            rfl
            rintro vals ⟨⟨⟨⟨⟨⟨⟨⟨⟨⟨⟨⟨⟨⟨⟨⟨⟨⟨⟨⟨⟨⟨⟨⟨⟨⟨-, -⟩, -⟩, -⟩, -⟩, -⟩, -⟩, -⟩, -⟩, -⟩, -⟩, -⟩, -⟩, -⟩, -⟩, -⟩, -⟩, -⟩, -⟩, -⟩, -⟩, -⟩, -⟩, -⟩, -⟩, -⟩, f25⟩ w1 hC1 E hE
            have d0 := hC1.at_ (i := t - 2) HLEN.out (by omega)
            rw [← H2.out] at d0
            simp only [puts, act_put, act_put_none, List.setIfInBounds_toArray, List.set_cons_zero, List.set_cons_succ, f25] at hE ⊢
            clear f25
            go_wp2
            exact .mk (hE _ hC1)
          apply DetL.next
          · -- 27: Op.fieldAddr 61 (Operand.tmp 3) 5
            apply detStep_plain []
            exact fun _ => rfl
            rfl
            rintro vals ⟨⟨⟨⟨⟨⟨⟨⟨⟨⟨⟨⟨⟨⟨⟨⟨⟨⟨⟨⟨⟨⟨⟨⟨⟨⟨⟨-, -⟩, -⟩, -⟩, -⟩, -⟩, -⟩, -⟩, -⟩, -⟩, -⟩, -⟩, -⟩, -⟩, -⟩, -⟩, -⟩, -⟩, -⟩, -⟩, -⟩, -⟩, -⟩, -⟩, -⟩, -⟩, -⟩, -⟩ w1 hC1 E hE
            simp only [puts, act_put, act_put_none, List.setIfInBounds_toArray, List.set_cons_zero, List.set_cons_succ] at hE ⊢
            go_wp2
            exact .mk (hE _ hC1)
          apply DetL.next
          · -- 28: Op.load 58 (Operand.tmp 84)
            apply detStep_plain [(27, some 84)]
            exact fun _ => rfl
            rfl
            rintro vals ⟨⟨⟨⟨⟨⟨⟨⟨⟨⟨⟨⟨⟨⟨⟨⟨⟨⟨⟨⟨⟨⟨⟨⟨⟨⟨⟨⟨-, -⟩, -⟩, -⟩, -⟩, -⟩, -⟩, -⟩, -⟩, -⟩, -⟩, -⟩, -⟩, -⟩, -⟩, -⟩, -⟩, -⟩, -⟩, -⟩, -⟩, -⟩, -⟩, -⟩, -⟩, -⟩, -⟩, -⟩, f27⟩ w1 hC1 E hE
            have d0 := hC1.st.h.cell 5
            simp [hv, hC] at d0
            simp only [puts, act_put, act_put_none, List.setIfInBounds_toArray, List.set_cons_zero, List.set_cons_succ, f27] at hE ⊢
            clear f27
            go_wp2
            exact .mk (hE _ hC1)
          apply DetL.next
          · -- 29: Op.call { callee := Callee.value (Operand.func 59), args := #[Operand.tmp 78, Operand.tmp 83, Operand.tmp 85, 
            apply detStep_plain [(21, some 78), (26, some 83), (28, some 85), (13, some 70)]
            exact fun _ => rfl
            rfl
            rintro vals ⟨⟨⟨⟨⟨⟨⟨⟨⟨⟨⟨⟨⟨⟨⟨⟨⟨⟨⟨⟨⟨⟨⟨⟨⟨⟨⟨⟨⟨-, -⟩, -⟩, -⟩, -⟩, -⟩, -⟩, -⟩, -⟩, -⟩, -⟩, -⟩, -⟩, -⟩, f13⟩, -⟩, -⟩, -⟩, -⟩, -⟩, -⟩, -⟩, f21⟩, -⟩, -⟩, -⟩, -⟩, f26⟩, -⟩, f28⟩ w1 hC1 E hE
            simp only [puts, act_put, act_put_none, List.setIfInBounds_toArray, List.set_cons_zero, List.set_cons_succ, f13, f21, f26, f28] at hE ⊢
            clear f13 f21 f26 f28
            go_wp2_with fail
            refine calls_then (mixed_any 32 64 _ _ _ _ _ _ _ (.inl rfl) a2 _ _ _ true W2.out (by decide) (by decide) (by decide) _ _ gf hC1.st.ok.d (by have := hC1.st.h.lt; omega) hC1.st.ok.cd) ?_
            rintro e w2 ⟨rfl, hb2⟩
            rw [show allN 32 a2 _ _ _ true = m2 from HM2.out.symm]
            go_wp2_with fail
            exact .mk (hE _ (hC1.next hb2))
          apply DetL.next
          · -- 30: Op.binOp BinOp.add 75 (Operand.tmp 77) (Operand.tmp 86) 75
            apply detStep_plain [(20, some 77), (29, some 86)]
            exact fun _ => rfl
            rfl
            rintro vals ⟨⟨⟨⟨⟨⟨⟨⟨⟨⟨⟨⟨⟨⟨⟨⟨⟨⟨⟨⟨⟨⟨⟨⟨⟨⟨⟨⟨⟨⟨-, -⟩, -⟩, -⟩, -⟩, -⟩, -⟩, -⟩, -⟩, -⟩, -⟩, -⟩, -⟩, -⟩, -⟩, -⟩, -⟩, -⟩, -⟩, -⟩, -⟩, f20⟩, -⟩, -⟩, -⟩, -⟩, -⟩, -⟩, -⟩, -⟩, f29⟩ w1 hC1 E hE
            simp only [puts, act_put, act_put_none, List.setIfInBounds_toArray, List.set_cons_zero, List.set_cons_succ, f20, f29] at hE ⊢
            clear f20 f29
            go_wp2
            rw [add2_64 s2 m2, ← HS3.out]
            exact .mk (hE _ hC1)
          apply DetL.last
          · -- 31: Op.assign (Operand.tmp 87)
            apply detStep_plain [(30, some 87), (29, some 86), (0, some 57), (1, some 58), (2, some 59), (3, some 60), (4, some 61), (5, some 62), (6, some 63), (7, some 64), (8, some 65), (9, some 66), (10, some 67), (11, some 68), (12, some 69), (13, some 70), (14, some 71), (15, some 72), (16, some 73), (17, some 74), (18, some 75), (19, some 76), (20, some 77), (21, some 78), (22, some 79), (23, some 80), (24, some 81), (25, some 82), (26, some 83), (27, some 84), (28, some 85), (29, some 86), (30, some 87)]
            exact fun _ => rfl
            rfl
            rintro vals ⟨⟨⟨⟨⟨⟨⟨⟨⟨⟨⟨⟨⟨⟨⟨⟨⟨⟨⟨⟨⟨⟨⟨⟨⟨⟨⟨⟨⟨⟨⟨-, f0⟩, f1⟩, f2⟩, f3⟩, f4⟩, f5⟩, f6⟩, f7⟩, f8⟩, f9⟩, f10⟩, f11⟩, f12⟩, f13⟩, f14⟩, f15⟩, f16⟩, f17⟩, f18⟩, f19⟩, f20⟩, f21⟩, f22⟩, f23⟩, f24⟩, f25⟩, f26⟩, f27⟩, f28⟩, f29⟩, f30⟩ w1 hC1 E hE
            simp only [puts, act_put, act_put_none, List.setIfInBounds_toArray, List.set_cons_zero, List.set_cons_succ, f0, f1, f2, f3, f4, f5, f6, f7, f8, f9, f10, f11, f12, f13, f14, f15, f16, f17, f18, f19, f20, f21, f22, f23, f24, f25, f26, f27, f28, f29, f30] at hE ⊢
            clear f0 f1 f2 f3 f4 f5 f6 f7 f8 f9 f10 f11 f12 f13 f14 f15 f16 f17 f18 f19 f20 f21 f22 f23 f24 f25 f26 f27 f28 f29 f30
            go_wp2
            exact .mk (hE _ hC1)
          rintro vals ⟨⟨⟨⟨⟨⟨⟨⟨⟨⟨⟨⟨⟨⟨⟨⟨⟨⟨⟨⟨⟨⟨⟨⟨⟨⟨⟨⟨⟨⟨⟨⟨-, f0⟩, f1⟩, f2⟩, f3⟩, f4⟩, f5⟩, f6⟩, f7⟩, f8⟩, f9⟩, f10⟩, f11⟩, f12⟩, f13⟩, f14⟩, f15⟩, f16⟩, f17⟩, f18⟩, f19⟩, f20⟩, f21⟩, f22⟩, f23⟩, f24⟩, f25⟩, f26⟩, f27⟩, f28⟩, f29⟩, f30⟩, f31⟩ w1 hC1
          simp only [puts, act_put, act_put_none, List.setIfInBounds_toArray, List.set_cons_zero, List.set_cons_succ, f0, f1, f2, f3, f4, f5, f6, f7, f8, f9, f10, f11, f12, f13, f14, f15, f16, f17, f18, f19, f20, f21, f22, f23, f24, f25, f26, f27, f28, f29, f30, f31]
          clear f0 f1 f2 f3 f4 f5 f6 f7 f8 f9 f10 f11 f12 f13 f14 f15 f16 f17 f18 f19 f20 f21 f22 f23 f24 f25 f26 f27 f28 f29 f30 f31
          clear HC0
          have HC1 := Lib.hid hC1
          clear hC1 HSW
          go_wp2_with (refine wpList_get_box (x := .tmp 3) HC1.out.st.h rfl rfl rfl hu rfl h_size ?_)
          obtain ⟨nv, hnv⟩ : ∃ x, x = s3 % 2 ^ 32 := ⟨_, rfl⟩
          refine calls_then (low_any 32 64 _ _ _ _ _ _ _ (.inl rfl) s3 HS3L.out) ?_
          rintro e w2 ⟨rfl, hb2⟩
          rw [← hnv]
          have hw2 := HC1.out.next hb2
          have HO2 : Hid (OwnX w2 (gf + 1) 75 1 (.slice (some ⟨g, 0, none⟩) t c) t (wordsV .u64 l)) := Lib.hid (by have := hw2.own; rwa [HLEN.out] at this)
          have HW2 := Lib.hid hw2
          have HNV := Lib.hid hnv
          clear hw2 hb2 hnv HC1
          go_wp2_with (refine wpList_append_one sl_u64 rfl rfl HO2.out rfl rfl rfl rfl (by unfold maxLen; omega) (by omega) (by have := HW2.out.st.h.lt; omega) ?_; intro A3 c3 w3 hown3 hg3 hn3; have HOWN3 := Lib.hid hown3; have HG3 := Lib.hid hg3; clear hown3 hg3 hn3)
          refine ⟨⟨t + 1, A3, c3, by omega, by omega, by go_num, rfl, ?_⟩, by simp [intOf]; omega⟩
          have h := HW2.out.app (v' := .slice A3 (t + 1) c3) (x := nv) (by rw [HLEN.out]; exact HOWN3.out) HG3.out
          rw [rowW, if_neg (show ¬ t < 16 by omega), ← HL.out, HNW.out, ← HNV.out]
          exact h
        · obtain rfl : t = 64 := by omega
          obtain ⟨g, rfl, hgb, hgl⟩ := (show OwnX wr (gf + 1) 75 1 (.slice A 64 c) 64 (wordsV .u64 (rowW F32 blk 64)) by have := hsw.own; rwa [rowW_length] at this).ptr (by omega)
          have hct : 64 ≤ c := by
            have ho : OwnX wr (gf + 1) 75 1 (.slice (some ⟨g, 0, none⟩) 64 c) 64 (wordsV .u64 (rowW F32 blk 64)) := by have := hsw.own; rwa [rowW_length] at this
            exact ho.le_cap
          obtain ⟨RW, hRW⟩ : ∃ x, x = rowW F32 blk 64 := ⟨_, rfl⟩
          have hlen : RW.length = 64 := by rw [hRW]; exact rowW_length _ _ _
          have hlw : ∀ i, RW.getD i 0 < 2 ^ 32 := by rw [hRW]; exact getD_lt (rowW_lt F32 (by decide) blk 64) (by decide)
          rw [← hRW] at hsw
          have hwx : (wordsV .u64 (s8L S)).length = 8 := rfl
          have HSW := Lib.hid hsw
          have HLEN := Lib.hid hlen
          have HRW := Lib.hid hRW
          have HLW := Lib.hid hlw
          clear hsw hlen hRW hlw
          go_wp2_with (refine wpList_append_rd (base := gf + 1) (n := 0) (v := .slice none 0 0) (xs := []) (news := wordsV .u64 (s8L S)) sl_u64 rfl rfl (OwnX.nil _ _ _ _) rfl rfl rfl HSW.out.st.rs (by intro u hu; simp [wordsV] at hu; obtain ⟨_, _, rfl⟩ := hu; rfl) (by unfold maxLen; omega) (by omega) (by have := HSW.out.st.h.lt; omega) ?_; intro A4 c4 w4 hown4 hg4 hn4; have HOWN4 := Lib.hid hown4; have HG4 := Lib.hid hg4; clear hown4 hg4 hn4)
          obtain ⟨g2, rfl, hgb2, hgl2⟩ := (show OwnX w4 (gf + 1) 75 1 (.slice A4 8 c4) 8 (wordsV .u64 (s8L S)) by simpa using HOWN4.out).ptr (by omega)
          have hsr : BkR w gf F32 p (some bad) blk (some sad) S (.slice (some ⟨g, 0, none⟩) 64 c) RW g2 c4 (mixTo F32 RW S 0) w4 := by
            have hnx := HSW.out.own
            have hg5 := HG4.out
            refine ⟨⟨HSW.out.st.keep (below_of_grown hg5 (by have := HSW.out.st.h.lt; omega) (by intro k hk; simp [Value.ownBlock] at hk)), hnx.kept hg5 (.inr (by simp [Value.ownBlock]))⟩, ?_⟩
            show OwnX w4 (gf + 1) 75 1 (.slice (some ⟨g2, 0, none⟩) 8 c4) 8 (wordsV .u64 (s8L S))
            simpa using HOWN4.out
          have HSR := Lib.hid hsr
          clear hsr HOWN4 HG4 HSW c1 hgb hgl hgb2 hgl2
          obtain ⟨wo2, rfl⟩ : ∃ wo2 : World, wo2 = w4 := ⟨_, rfl⟩
          go_wp2_with fail
          go_loopw [13, 14] (fun v i wr => ∃ t g2 c2 : Nat, t ≤ 64 ∧ i = .int .i64 t ∧ v = .slice (some ⟨g2, 0, none⟩) 8 c2 ∧ BkR w gf F32 p (some bad) blk (some sad) S (.slice (some ⟨g, 0, none⟩) 64 c) RW g2 c2 (mixTo F32 RW S t) wr) (fun _ i _ => 64 - (intOf i).toNat)
          case atStart => exact ⟨0, g2, c4, by omega, rfl, rfl, HSR.out⟩
          case round =>
            obtain ⟨t, g2, c2, ht, rfl, rfl, hsr⟩ := hrel
            have c1 := hsr.w.st.h.cell 1
            simp only [hv, hC, List.getElem?_toArray, List.getElem?_cons_zero, List.getElem?_cons_succ, F32] at c1
            have hc8 := hsr.le
            by_cases hlt : t < 64
            · have hlt' : (t : Int) < 64 := by omega
              obtain ⟨vv, hvv⟩ : ∃ x, x = mixTo F32 RW S t := ⟨_, rfl⟩
              have hvl : vv.Lt (2 ^ 32) := by rw [hvv]; exact mixTo_lt HS.out t
              rw [← hvv] at hsr
              have HVV := Lib.hid hvv
              obtain ⟨va, vb, vc, vd, ve, vf, vg, vh⟩ := vv
              have HL8 := Lib.hid hvl
              obtain ⟨wk, hwk⟩ : ∃ x, x = RW.getD t 0 := ⟨_, rfl⟩
              obtain ⟨kk, hkk⟩ : ∃ x, x = kN F32 t := ⟨_, rfl⟩
              obtain ⟨big, hbig⟩ : ∃ x : Nat, x = 18446744073709551615 := ⟨_, rfl⟩
              obtain ⟨on, hon⟩ : ∃ x, x = big % 2 ^ 32 := ⟨_, rfl⟩
              obtain ⟨XA, hXA⟩ : ∃ x, x = allF F32 ve F32.s1 false := ⟨_, rfl⟩
              obtain ⟨p1, hp1⟩ : ∃ x, x = (vh + XA) % 2 ^ 64 := ⟨_, rfl⟩
              obtain ⟨af, haf⟩ : ∃ x, x = ve &&& vf := ⟨_, rfl⟩
              obtain ⟨ne, hne⟩ : ∃ x, x = on ^^^ ve := ⟨_, rfl⟩
              obtain ⟨ng, hng⟩ : ∃ x, x = ne &&& vg := ⟨_, rfl⟩
              obtain ⟨ch, hch⟩ : ∃ x, x = af ^^^ ng := ⟨_, rfl⟩
              obtain ⟨p2, hp2⟩ : ∃ x, x = (p1 + ch) % 2 ^ 64 := ⟨_, rfl⟩
              obtain ⟨p3, hp3⟩ : ∃ x, x = (p2 + kk) % 2 ^ 64 := ⟨_, rfl⟩
              obtain ⟨p4, hp4⟩ : ∃ x, x = (p3 + wk) % 2 ^ 64 := ⟨_, rfl⟩
              obtain ⟨xx, hxx⟩ : ∃ x, x = p4 % 2 ^ 32 := ⟨_, rfl⟩
              obtain ⟨YA, hYA⟩ : ∃ x, x = allF F32 va F32.s0 false := ⟨_, rfl⟩
              obtain ⟨ab, hab⟩ : ∃ x, x = va &&& vb := ⟨_, rfl⟩
              obtain ⟨ac, hac⟩ : ∃ x, x = va &&& vc := ⟨_, rfl⟩
              obtain ⟨bc2, hbc2'⟩ : ∃ x, x = vb &&& vc := ⟨_, rfl⟩
              obtain ⟨x1, hx1⟩ : ∃ x, x = ab ^^^ ac := ⟨_, rfl⟩
              obtain ⟨mj, hmj⟩ : ∃ x, x = x1 ^^^ bc2 := ⟨_, rfl⟩
              obtain ⟨q1, hq1⟩ : ∃ x, x = (YA + mj) % 2 ^ 64 := ⟨_, rfl⟩
              obtain ⟨yy, hyy⟩ : ∃ x, x = q1 % 2 ^ 32 := ⟨_, rfl⟩
              obtain ⟨z1, hz1⟩ : ∃ x, x = (xx + yy) % 2 ^ 64 := ⟨_, rfl⟩
              obtain ⟨za, hza⟩ : ∃ x, x = z1 % 2 ^ 32 := ⟨_, rfl⟩
              obtain ⟨z2, hz2⟩ : ∃ x, x = (vd + xx) % 2 ^ 64 := ⟨_, rfl⟩
              obtain ⟨ze, hze⟩ : ∃ x, x = z2 % 2 ^ 32 := ⟨_, rfl⟩
              have lon : on < 2 ^ 64 := by rw [hon, hbig]; decide
              have l64 : ∀ z, z < 2 ^ 32 → z < 2 ^ 64 := fun z hz => Nat.lt_of_lt_of_le hz (by decide)
              have laf : af < 2 ^ 64 := by rw [haf]; exact and_lt (l64 _ hvl.e)
              have lne : ne < 2 ^ 64 := by rw [hne]; exact Nat.xor_lt_two_pow lon (l64 _ hvl.e)
              have lng : ng < 2 ^ 64 := by rw [hng]; exact and_lt lne
              have lab : ab < 2 ^ 64 := by rw [hab]; exact and_lt (l64 _ hvl.a)
              have lac : ac < 2 ^ 64 := by rw [hac]; exact and_lt (l64 _ hvl.a)
              have lbc : bc2 < 2 ^ 64 := by rw [hbc2']; exact and_lt (l64 _ hvl.b)
              have lx1 : x1 < 2 ^ 64 := by rw [hx1]; exact Nat.xor_lt_two_pow lab lac
              have hmx : mixX F32 ⟨va, vb, vc, vd, ve, vf, vg, vh⟩ kk wk = xx := by
                rw [hxx, hp4, hp3, hp2, hp1, hch, hng, hne, hon, hbig, haf, hXA]
                rw [show 18446744073709551615 % 2 ^ 32 = 2 ^ 32 - 1 by decide, ones_xor 32 ve hvl.e]
                exact mixX_r32 _ _ _ _ _
              have hmy : mixY F32 ⟨va, vb, vc, vd, ve, vf, vg, vh⟩ = yy := by
                rw [hyy, hq1, hmj, hx1, hab, hac, hbc2', hYA]
                exact mod_r32 _ _
              have hstp : stepS F32 ⟨va, vb, vc, vd, ve, vf, vg, vh⟩ kk wk = ⟨za, va, vb, vc, ze, ve, vf, vg⟩ := by
                have e1 : (xx + yy) % 2 ^ 32 = za := by rw [hza, hz1]; exact mod_r32 _ _
                have e2 : (vd + xx) % 2 ^ 32 = ze := by rw [hze, hz2]; exact mod_r32 _ _
                rw [stepS, hmx, hmy]
                show S8.mk ((xx + yy) % 2 ^ 32) va vb vc ((vd + xx) % 2 ^ 32) ve vf vg = _
                rw [e1, e2]
              have hm1 : mixTo F32 RW S (t + 1) = ⟨za, va, vb, vc, ze, ve, vf, vg⟩ := by rw [mixTo, ← HVV.out, ← hkk, ← hwk]; exact hstp
              have HM1 := Lib.hid hm1
              have LP4 : Hid (p4 < 18446744073709551616) := Lib.hid (by rw [hp4]; exact Nat.mod_lt _ (by decide))
              have LQ1 : Hid (q1 < 18446744073709551616) := Lib.hid (by rw [hq1]; exact Nat.mod_lt _ (by decide))
              have LZ1 : Hid (z1 < 18446744073709551616) := Lib.hid (by rw [hz1]; exact Nat.mod_lt _ (by decide))
              have LZ2 : Hid (z2 < 18446744073709551616) := Lib.hid (by rw [hz2]; exact Nat.mod_lt _ (by decide))
              have LON := Lib.hid lon
              have L64 := Lib.hid l64
              have LAF := Lib.hid laf
              have LNE := Lib.hid lne
              have LNG := Lib.hid lng
              have LAB := Lib.hid lab
              have LAC := Lib.hid lac
              have LBC := Lib.hid lbc
              have LX1 := Lib.hid lx1
              have HWK := Lib.hid hwk
              have HKK := Lib.hid hkk
              have HON := Lib.hid hon
              have HBIG := Lib.hid hbig
              have HXA := Lib.hid hXA
              have HP1 := Lib.hid hp1
              have HAF := Lib.hid haf
              have HNE := Lib.hid hne
              have HNG := Lib.hid hng
              have HCH := Lib.hid hch
              have HP2 := Lib.hid hp2
              have HP3 := Lib.hid hp3
              have HP4 := Lib.hid hp4
              have HXX := Lib.hid hxx
              have HYA := Lib.hid hYA
              have HAB := Lib.hid hab
              have HAC := Lib.hid hac
              have HBC := Lib.hid hbc2'
              have HX1 := Lib.hid hx1
              have HMJ := Lib.hid hmj
              have HQ1 := Lib.hid hq1
              have HYY := Lib.hid hyy
              have HZ1 := Lib.hid hz1
              have HZA := Lib.hid hza
              have HZ2 := Lib.hid hz2
              have HZE := Lib.hid hze
              have hu := Tryd.underlying61
              have d4 := hsr.r.atN (i := 4) (v := .int .u64 (ve : Int)) rfl
              have d0 := hsr.r.atN (i := 0) (v := .int .u64 (va : Int)) rfl
              have HSR2 := Lib.hid hsr
              clear hvv hvl hwk hkk hon hbig hXA hp1 haf hne hng hch hp2 hp3 hp4 hxx hYA hab hac hbc2' hx1 hmj hq1 hyy hz1 hza hz2 hze lon l64 laf lne lng lab lac lbc lx1 hmx hmy hstp hm1 hsr HSR
              go_wp2_with (refine wpList_get_box (x := .tmp 3) HSR2.out.w.st.h rfl rfl rfl hu rfl h_size ?_)
              have hlo := low_any 32 64 (.slice (some p.a) 3 p.ca) (.slice (some p.b) 3 p.cb) (.slice (some p.c) 3 p.cc) (.slice (some p.d) 3 p.cd) (.slice (some p.k) 64 p.ck) (.slice (some p.f) 8 p.cf) wr (.inl rfl) big (by rw [HBIG.out]; decide)
              rw [← HON.out, show (big : Int) = 18446744073709551615 by rw [HBIG.out]; rfl] at hlo
              refine calls_then hlo ?_
              rintro e w2 ⟨rfl, hb2⟩
              have hsr2 := HSR2.out.next hb2
              clear hlo hb2 HSR2 d4 d0
              go_wp2_with fail
              have HC0 := hsr2.drew
              clear hsr2
              refine wp_region_det (fun u => BkR w gf F32 p (some bad) blk (some sad) S (.slice (some ⟨g, 0, none⟩) 64 c) RW g2 c2 ⟨va, vb, vc, vd, ve, vf, vg, vh⟩ u) (fun u => BkR w gf F32 p (some bad) blk (some sad) S (.slice (some ⟨g, 0, none⟩) 64 c) RW g2 c2 ⟨va, vb, vc, vd, ve, vf, vg, vh⟩ u) [(0, some 111), (1, some 112), (2, some 113), (3, some 114), (4, some 115), (5, some 116), (6, some 117), (7, some 118), (8, some 119), (9, some 120), (10, some 121), (11, some 122), (12, some 123), (13, some 124), (14, some 125), (15, some 126), (16, some 127), (17, some 128), (18, some 129), (19, some 130), (20, some 131), (21, some 132), (22, some 133), (23, some 134), (24, some 135), (25, some 136), (26, some 137), (27, some 138), (28, some 139), (29, some 140), (30, some 141), (31, some 142), (32, some 143), (33, some 144), (34, some 145), (35, some 146), (36, some 18)] (by kernel_rfl) (by kernel_rfl) (by decide) (by kernel_rfl) (fun _ => rfl) HC0 ?_
              apply DetL.next
              · -- 0: Op.load 61 (Operand.tmp 3)
                apply detStep_plain []
                exact fun _ => rfl
                rfl
                rintro vals - w1 hC1 E hE
                simp only [puts, act_put, act_put_none, List.setIfInBounds_toArray, List.set_cons_zero, List.set_cons_succ] at hE ⊢
                refine wpList_get_box hC1.w.st.h rfl rfl rfl hu rfl h_size ?_
                go_wp2_with fail
                exact .mk (hE _ hC1)
              apply DetL.next
              · -- 1: Op.move (Operand.tmp 13)
                apply detStep_plain []
                exact fun _ => rfl
                rfl
                rintro vals ⟨-, -⟩ w1 hC1 E hE
                simp only [puts, act_put, act_put_none, List.setIfInBounds_toArray, List.set_cons_zero, List.set_cons_succ] at hE ⊢
                go_wp2
                exact .mk (hE _ hC1)
              apply DetL.next
              · -- 2: Op.indexAddr 59 (Operand.tmp 112) (Operand.const (Value.int IntKind.i64 7))
                apply detStep_plain [(1, some 112)]
                exact fun _ => rfl
                rfl
                rintro vals ⟨⟨-, -⟩, f1⟩ w1 hC1 E hE
                simp only [puts, act_put, act_put_none, List.setIfInBounds_toArray, List.set_cons_zero, List.set_cons_succ, f1] at hE ⊢
                clear f1
                go_wp2
                exact .mk (hE _ hC1)
              apply DetL.next
              · -- 3: Op.load 75 (Operand.tmp 113)
                apply detStep_plain [(2, some 113)]
                exact fun _ => rfl
                rfl
                rintro vals ⟨⟨⟨-, -⟩, -⟩, f2⟩ w1 hC1 E hE
                have d0 := hC1.r.atN (i := 7) (v := .int .u64 (vh : Int)) rfl
                simp only [puts, act_put, act_put_none, List.setIfInBounds_toArray, List.set_cons_zero, List.set_cons_succ, f2] at hE ⊢
                clear f2
                go_wp2
                exact .mk (hE _ hC1)
              apply DetL.next
              · -- 4: Op.load 61 (Operand.tmp 3)
                apply detStep_plain []
                exact fun _ => rfl
                rfl
                rintro vals ⟨⟨⟨⟨-, -⟩, -⟩, -⟩, -⟩ w1 hC1 E hE
                simp only [puts, act_put, act_put_none, List.setIfInBounds_toArray, List.set_cons_zero, List.set_cons_succ] at hE ⊢
                refine wpList_get_box hC1.w.st.h rfl rfl rfl hu rfl h_size ?_
                go_wp2_with fail
                exact .mk (hE _ hC1)
              apply DetL.next
              · -- 5: Op.move (Operand.tmp 15)
                apply detStep_plain []
                exact fun _ => rfl
                rfl
                rintro vals ⟨⟨⟨⟨⟨-, -⟩, -⟩, -⟩, -⟩, -⟩ w1 hC1 E hE
                simp only [puts, act_put, act_put_none, List.setIfInBounds_toArray, List.set_cons_zero, List.set_cons_succ] at hE ⊢
                go_wp2
                exact .mk (hE _ hC1)
              apply DetL.next
              · -- 6: Op.fieldAddr 61 (Operand.tmp 3) 3
                apply detStep_plain []
                exact fun _ => rfl
                rfl
                rintro vals ⟨⟨⟨⟨⟨⟨-, -⟩, -⟩, -⟩, -⟩, -⟩, -⟩ w1 hC1 E hE
                simp only [puts, act_put, act_put_none, List.setIfInBounds_toArray, List.set_cons_zero, List.set_cons_succ] at hE ⊢
                go_wp2
                exact .mk (hE _ hC1)
              apply DetL.next
              · -- 7: Op.load 58 (Operand.tmp 117)
                apply detStep_plain [(6, some 117)]
                exact fun _ => rfl
                rfl
                rintro vals ⟨⟨⟨⟨⟨⟨⟨-, -⟩, -⟩, -⟩, -⟩, -⟩, -⟩, f6⟩ w1 hC1 E hE
                have d0 := hC1.w.st.h.cell 3
                simp [hv, hC] at d0
                simp only [puts, act_put, act_put_none, List.setIfInBounds_toArray, List.set_cons_zero, List.set_cons_succ, f6] at hE ⊢
                clear f6
                go_wp2
                exact .mk (hE _ hC1)
              apply DetL.next
              · -- 8: Op.call { callee := Callee.value (Operand.func 59), args := #[Operand.tmp 115, Operand.tmp 116, Operand.tmp 11
                apply detStep_plain [(4, some 115), (5, some 116), (7, some 118)]
                exact fun _ => rfl
                rfl
                rintro vals ⟨⟨⟨⟨⟨⟨⟨⟨-, -⟩, -⟩, -⟩, -⟩, f4⟩, f5⟩, -⟩, f7⟩ w1 hC1 E hE
                simp only [puts, act_put, act_put_none, List.setIfInBounds_toArray, List.set_cons_zero, List.set_cons_succ, f4, f5, f7] at hE ⊢
                clear f4 f5 f7
                go_wp2_with fail
                refine calls_then (mixed_any 32 64 _ _ _ _ _ _ _ (.inl rfl) ve _ _ _ false HL8.out.e (by decide) (by decide) (by decide) _ _ gf hC1.w.st.ok.b (by have := hC1.w.st.h.lt; omega) hC1.w.st.ok.cb) ?_
                rintro e w2 ⟨rfl, hb2⟩
                rw [show allN 32 ve _ _ _ false = XA from HXA.out.symm]
                go_wp2_with fail
                exact .mk (hE _ (hC1.next hb2))
              apply DetL.next
              · -- 9: Op.binOp BinOp.add 75 (Operand.tmp 114) (Operand.tmp 119) 75
                apply detStep_plain [(3, some 114), (8, some 119)]
                exact fun _ => rfl
                rfl
                rintro vals ⟨⟨⟨⟨⟨⟨⟨⟨⟨-, -⟩, -⟩, -⟩, f3⟩, -⟩, -⟩, -⟩, -⟩, f8⟩ w1 hC1 E hE
                simp only [puts, act_put, act_put_none, List.setIfInBounds_toArray, List.set_cons_zero, List.set_cons_succ, f3, f8] at hE ⊢
                clear f3 f8
                go_wp2
                rw [add2_64 vh XA, ← HP1.out]
                exact .mk (hE _ hC1)
              apply DetL.next
              · -- 10: Op.move (Operand.tmp 15)
                apply detStep_plain []
                exact fun _ => rfl
                rfl
                rintro vals ⟨⟨⟨⟨⟨⟨⟨⟨⟨⟨-, -⟩, -⟩, -⟩, -⟩, -⟩, -⟩, -⟩, -⟩, -⟩, -⟩ w1 hC1 E hE
                simp only [puts, act_put, act_put_none, List.setIfInBounds_toArray, List.set_cons_zero, List.set_cons_succ] at hE ⊢
                go_wp2
                exact .mk (hE _ hC1)
              apply DetL.next
              · -- 11: Op.move (Operand.tmp 13)
                apply detStep_plain []
                exact fun _ => rfl
                rfl
                rintro vals ⟨⟨⟨⟨⟨⟨⟨⟨⟨⟨⟨-, -⟩, -⟩, -⟩, -⟩, -⟩, -⟩, -⟩, -⟩, -⟩, -⟩, -⟩ w1 hC1 E hE
                simp only [puts, act_put, act_put_none, List.setIfInBounds_toArray, List.set_cons_zero, List.set_cons_succ] at hE ⊢
                go_wp2
                exact .mk (hE _ hC1)
              apply DetL.next
              · -- 12: Op.indexAddr 59 (Operand.tmp 122) (Operand.const (Value.int IntKind.i64 5))
                apply detStep_plain [(11, some 122)]
                exact fun _ => rfl
                rfl
                rintro vals ⟨⟨⟨⟨⟨⟨⟨⟨⟨⟨⟨⟨-, -⟩, -⟩, -⟩, -⟩, -⟩, -⟩, -⟩, -⟩, -⟩, -⟩, -⟩, f11⟩ w1 hC1 E hE
                simp only [puts, act_put, act_put_none, List.setIfInBounds_toArray, List.set_cons_zero, List.set_cons_succ, f11] at hE ⊢
                clear f11
                go_wp2
                exact .mk (hE _ hC1)
              apply DetL.next
              · -- 13: Op.load 75 (Operand.tmp 123)
                apply detStep_plain [(12, some 123)]
                exact fun _ => rfl
                rfl
                rintro vals ⟨⟨⟨⟨⟨⟨⟨⟨⟨⟨⟨⟨⟨-, -⟩, -⟩, -⟩, -⟩, -⟩, -⟩, -⟩, -⟩, -⟩, -⟩, -⟩, -⟩, f12⟩ w1 hC1 E hE
                have d0 := hC1.r.atN (i := 5) (v := .int .u64 (vf : Int)) rfl
                simp only [puts, act_put, act_put_none, List.setIfInBounds_toArray, List.set_cons_zero, List.set_cons_succ, f12] at hE ⊢
                clear f12
                go_wp2
                exact .mk (hE _ hC1)
              apply DetL.next
              · -- 14: Op.binOp BinOp.and 75 (Operand.tmp 121) (Operand.tmp 124) 75
                apply detStep_plain [(10, some 121), (13, some 124)]
                exact fun _ => rfl
                rfl
                rintro vals ⟨⟨⟨⟨⟨⟨⟨⟨⟨⟨⟨⟨⟨⟨-, -⟩, -⟩, -⟩, -⟩, -⟩, -⟩, -⟩, -⟩, -⟩, -⟩, f10⟩, -⟩, -⟩, f13⟩ w1 hC1 E hE
                simp only [puts, act_put, act_put_none, List.setIfInBounds_toArray, List.set_cons_zero, List.set_cons_succ, f10, f13] at hE ⊢
                clear f10 f13
                go_wp2
                rw [and64 ve vf (L64.out _ HL8.out.e) (L64.out _ HL8.out.f), ← HAF.out]
                exact .mk (hE _ hC1)
              apply DetL.next
              · -- 15: Op.move (Operand.tmp 17)
                apply detStep_plain []
                exact fun _ => rfl
                rfl
                rintro vals ⟨⟨⟨⟨⟨⟨⟨⟨⟨⟨⟨⟨⟨⟨⟨-, -⟩, -⟩, -⟩, -⟩, -⟩, -⟩, -⟩, -⟩, -⟩, -⟩, -⟩, -⟩, -⟩, -⟩, -⟩ w1 hC1 E hE
                simp only [puts, act_put, act_put_none, List.setIfInBounds_toArray, List.set_cons_zero, List.set_cons_succ] at hE ⊢
                go_wp2
                exact .mk (hE _ hC1)
              apply DetL.next
              · -- 16: Op.move (Operand.tmp 15)
                apply detStep_plain []
                exact fun _ => rfl
                rfl
                rintro vals ⟨⟨⟨⟨⟨⟨⟨⟨⟨⟨⟨⟨⟨⟨⟨⟨-, -⟩, -⟩, -⟩, -⟩, -⟩, -⟩, -⟩, -⟩, -⟩, -⟩, -⟩, -⟩, -⟩, -⟩, -⟩, -⟩ w1 hC1 E hE
                simp only [puts, act_put, act_put_none, List.setIfInBounds_toArray, List.set_cons_zero, List.set_cons_succ] at hE ⊢
                go_wp2
                exact .mk (hE _ hC1)
              apply DetL.next
              · -- 17: Op.binOp BinOp.xor 75 (Operand.tmp 126) (Operand.tmp 127) 75
                apply detStep_plain [(15, some 126), (16, some 127)]
                exact fun _ => rfl
                rfl
                rintro vals ⟨⟨⟨⟨⟨⟨⟨⟨⟨⟨⟨⟨⟨⟨⟨⟨⟨-, -⟩, -⟩, -⟩, -⟩, -⟩, -⟩, -⟩, -⟩, -⟩, -⟩, -⟩, -⟩, -⟩, -⟩, -⟩, f15⟩, f16⟩ w1 hC1 E hE
                simp only [puts, act_put, act_put_none, List.setIfInBounds_toArray, List.set_cons_zero, List.set_cons_succ, f15, f16] at hE ⊢
                clear f15 f16
                go_wp2
                rw [xor64 on ve LON.out (L64.out _ HL8.out.e), ← HNE.out]
                exact .mk (hE _ hC1)
              apply DetL.next
              · -- 18: Op.move (Operand.tmp 13)
                apply detStep_plain []
                exact fun _ => rfl
                rfl
                rintro vals ⟨⟨⟨⟨⟨⟨⟨⟨⟨⟨⟨⟨⟨⟨⟨⟨⟨⟨-, -⟩, -⟩, -⟩, -⟩, -⟩, -⟩, -⟩, -⟩, -⟩, -⟩, -⟩, -⟩, -⟩, -⟩, -⟩, -⟩, -⟩, -⟩ w1 hC1 E hE
                simp only [puts, act_put, act_put_none, List.setIfInBounds_toArray, List.set_cons_zero, List.set_cons_succ] at hE ⊢
                go_wp2
                exact .mk (hE _ hC1)
              apply DetL.next
              · -- 19: Op.indexAddr 59 (Operand.tmp 129) (Operand.const (Value.int IntKind.i64 6))
                apply detStep_plain [(18, some 129)]
                exact fun _ => rfl
                rfl
                rintro vals ⟨⟨⟨⟨⟨⟨⟨⟨⟨⟨⟨⟨⟨⟨⟨⟨⟨⟨⟨-, -⟩, -⟩, -⟩, -⟩, -⟩, -⟩, -⟩, -⟩, -⟩, -⟩, -⟩, -⟩, -⟩, -⟩, -⟩, -⟩, -⟩, -⟩, f18⟩ w1 hC1 E hE
                simp only [puts, act_put, act_put_none, List.setIfInBounds_toArray, List.set_cons_zero, List.set_cons_succ, f18] at hE ⊢
                clear f18
                go_wp2
                exact .mk (hE _ hC1)
              apply DetL.next
              · -- 20: Op.load 75 (Operand.tmp 130)
                apply detStep_plain [(19, some 130)]
                exact fun _ => rfl
                rfl
                rintro vals ⟨⟨⟨⟨⟨⟨⟨⟨⟨⟨⟨⟨⟨⟨⟨⟨⟨⟨⟨⟨-, -⟩, -⟩, -⟩, -⟩, -⟩, -⟩, -⟩, -⟩, -⟩, -⟩, -⟩, -⟩, -⟩, -⟩, -⟩, -⟩, -⟩, -⟩, -⟩, f19⟩ w1 hC1 E hE
                have d0 := hC1.r.atN (i := 6) (v := .int .u64 (vg : Int)) rfl
                simp only [puts, act_put, act_put_none, List.setIfInBounds_toArray, List.set_cons_zero, List.set_cons_succ, f19] at hE ⊢
                clear f19
                go_wp2
                exact .mk (hE _ hC1)
              apply DetL.next
              · -- 21: Op.binOp BinOp.and 75 (Operand.tmp 128) (Operand.tmp 131) 75
                apply detStep_plain [(17, some 128), (20, some 131)]
                exact fun _ => rfl
                rfl
                rintro vals ⟨⟨⟨⟨⟨⟨⟨⟨⟨⟨⟨⟨⟨⟨⟨⟨⟨⟨⟨⟨⟨-, -⟩, -⟩, -⟩, -⟩, -⟩, -⟩, -⟩, -⟩, -⟩, -⟩, -⟩, -⟩, -⟩, -⟩, -⟩, -⟩, -⟩, f17⟩, -⟩, -⟩, f20⟩ w1 hC1 E hE
                simp only [puts, act_put, act_put_none, List.setIfInBounds_toArray, List.set_cons_zero, List.set_cons_succ, f17, f20] at hE ⊢
                clear f17 f20
                go_wp2
                rw [and64 ne vg LNE.out (L64.out _ HL8.out.g), ← HNG.out]
                exact .mk (hE _ hC1)
              apply DetL.next
              · -- 22: Op.binOp BinOp.xor 75 (Operand.tmp 125) (Operand.tmp 132) 75
                apply detStep_plain [(14, some 125), (21, some 132)]
                exact fun _ => rfl
                rfl
                rintro vals ⟨⟨⟨⟨⟨⟨⟨⟨⟨⟨⟨⟨⟨⟨⟨⟨⟨⟨⟨⟨⟨⟨-, -⟩, -⟩, -⟩, -⟩, -⟩, -⟩, -⟩, -⟩, -⟩, -⟩, -⟩, -⟩, -⟩, -⟩, f14⟩, -⟩, -⟩, -⟩, -⟩, -⟩, -⟩, f21⟩ w1 hC1 E hE
                simp only [puts, act_put, act_put_none, List.setIfInBounds_toArray, List.set_cons_zero, List.set_cons_succ, f14, f21] at hE ⊢
                clear f14 f21
                go_wp2
                rw [xor64 af ng LAF.out LNG.out, ← HCH.out]
                exact .mk (hE _ hC1)
              apply DetL.next
              · -- 23: Op.binOp BinOp.add 75 (Operand.tmp 120) (Operand.tmp 133) 75
                apply detStep_plain [(9, some 120), (22, some 133)]
                exact fun _ => rfl
                rfl
                rintro vals ⟨⟨⟨⟨⟨⟨⟨⟨⟨⟨⟨⟨⟨⟨⟨⟨⟨⟨⟨⟨⟨⟨⟨-, -⟩, -⟩, -⟩, -⟩, -⟩, -⟩, -⟩, -⟩, -⟩, f9⟩, -⟩, -⟩, -⟩, -⟩, -⟩, -⟩, -⟩, -⟩, -⟩, -⟩, -⟩, -⟩, f22⟩ w1 hC1 E hE
                simp only [puts, act_put, act_put_none, List.setIfInBounds_toArray, List.set_cons_zero, List.set_cons_succ, f9, f22] at hE ⊢
                clear f9 f22
                go_wp2
                rw [add2_64 p1 ch, ← HP2.out]
                exact .mk (hE _ hC1)
              apply DetL.next
              · -- 24: Op.fieldAddr 61 (Operand.tmp 3) 6
                apply detStep_plain []
                exact fun _ => rfl
                rfl
                rintro vals ⟨⟨⟨⟨⟨⟨⟨⟨⟨⟨⟨⟨⟨⟨⟨⟨⟨⟨⟨⟨⟨⟨⟨⟨-, -⟩, -⟩, -⟩, -⟩, -⟩, -⟩, -⟩, -⟩, -⟩, -⟩, -⟩, -⟩, -⟩, -⟩, -⟩, -⟩, -⟩, -⟩, -⟩, -⟩, -⟩, -⟩, -⟩, -⟩ w1 hC1 E hE
                simp only [puts, act_put, act_put_none, List.setIfInBounds_toArray, List.set_cons_zero, List.set_cons_succ] at hE ⊢
                go_wp2
                exact .mk (hE _ hC1)
              apply DetL.next
              · -- 25: Op.load 59 (Operand.tmp 135)
                apply detStep_plain [(24, some 135)]
                exact fun _ => rfl
                rfl
                rintro vals ⟨⟨⟨⟨⟨⟨⟨⟨⟨⟨⟨⟨⟨⟨⟨⟨⟨⟨⟨⟨⟨⟨⟨⟨⟨-, -⟩, -⟩, -⟩, -⟩, -⟩, -⟩, -⟩, -⟩, -⟩, -⟩, -⟩, -⟩, -⟩, -⟩, -⟩, -⟩, -⟩, -⟩, -⟩, -⟩, -⟩, -⟩, -⟩, -⟩, f24⟩ w1 hC1 E hE
                have d0 := hC1.w.st.h.cell 6
                simp [hv, hC] at d0
                simp only [puts, act_put, act_put_none, List.setIfInBounds_toArray, List.set_cons_zero, List.set_cons_succ, f24] at hE ⊢
                clear f24
                go_wp2
                exact .mk (hE _ hC1)
              apply DetL.next
              · -- 26: Op.move (Operand.tmp 14)
                apply detStep_plain []
                exact fun _ => rfl
                rfl
                rintro vals ⟨⟨⟨⟨⟨⟨⟨⟨⟨⟨⟨⟨⟨⟨⟨⟨⟨⟨⟨⟨⟨⟨⟨⟨⟨⟨-, -⟩, -⟩, -⟩, -⟩, -⟩, -⟩, -⟩, -⟩, -⟩, -⟩, -⟩, -⟩, -⟩, -⟩, -⟩, -⟩, -⟩, -⟩, -⟩, -⟩, -⟩, -⟩, -⟩, -⟩, -⟩, -⟩ w1 hC1 E hE
                simp only [puts, act_put, act_put_none, List.setIfInBounds_toArray, List.set_cons_zero, List.set_cons_succ] at hE ⊢
                go_wp2
                exact .mk (hE _ hC1)
              apply DetL.next
              · -- 27: Op.indexAddr 59 (Operand.tmp 136) (Operand.tmp 137)
                apply detStep_plain [(25, some 136), (26, some 137)]
                exact fun _ => rfl
                rfl
                rintro vals ⟨⟨⟨⟨⟨⟨⟨⟨⟨⟨⟨⟨⟨⟨⟨⟨⟨⟨⟨⟨⟨⟨⟨⟨⟨⟨⟨-, -⟩, -⟩, -⟩, -⟩, -⟩, -⟩, -⟩, -⟩, -⟩, -⟩, -⟩, -⟩, -⟩, -⟩, -⟩, -⟩, -⟩, -⟩, -⟩, -⟩, -⟩, -⟩, -⟩, -⟩, -⟩, f25⟩, f26⟩ w1 hC1 E hE
                have hck := hC1.w.st.ok.ck
                dsimp only [F32] at hck
                simp only [puts, act_put, act_put_none, List.setIfInBounds_toArray, List.set_cons_zero, List.set_cons_succ, f25, f26] at hE ⊢
                clear f25 f26
                go_wp2
                exact .mk (hE _ hC1)
              apply DetL.next
              · -- 28: Op.load 75 (Operand.tmp 138)
                apply detStep_plain [(27, some 138)]
                exact fun _ => rfl
                rfl
                rintro vals ⟨⟨⟨⟨⟨⟨⟨⟨⟨⟨⟨⟨⟨⟨⟨⟨⟨⟨⟨⟨⟨⟨⟨⟨⟨⟨⟨⟨-, -⟩, -⟩, -⟩, -⟩, -⟩, -⟩, -⟩, -⟩, -⟩, -⟩, -⟩, -⟩, -⟩, -⟩, -⟩, -⟩, -⟩, -⟩, -⟩, -⟩, -⟩, -⟩, -⟩, -⟩, -⟩, -⟩, -⟩, f27⟩ w1 hC1 E hE
                have d0 := hC1.w.st.ok.k.val (k := t) (v := .int .u64 (kk : Int)) (by rw [HKK.out, wordsV, List.getElem?_map, kL_get _ _ hlt]; rfl)
                simp only [puts, act_put, act_put_none, List.setIfInBounds_toArray, List.set_cons_zero, List.set_cons_succ, f27] at hE ⊢
                clear f27
                go_wp2
                exact .mk (hE _ hC1)
              apply DetL.next
              · -- 29: Op.binOp BinOp.add 75 (Operand.tmp 134) (Operand.tmp 139) 75
                apply detStep_plain [(23, some 134), (28, some 139)]
                exact fun _ => rfl
                rfl
                rintro vals ⟨⟨⟨⟨⟨⟨⟨⟨⟨⟨⟨⟨⟨⟨⟨⟨⟨⟨⟨⟨⟨⟨⟨⟨⟨⟨⟨⟨⟨-, -⟩, -⟩, -⟩, -⟩, -⟩, -⟩, -⟩, -⟩, -⟩, -⟩, -⟩, -⟩, -⟩, -⟩, -⟩, -⟩, -⟩, -⟩, -⟩, -⟩, -⟩, -⟩, -⟩, f23⟩, -⟩, -⟩, -⟩, -⟩, f28⟩ w1 hC1 E hE
                simp only [puts, act_put, act_put_none, List.setIfInBounds_toArray, List.set_cons_zero, List.set_cons_succ, f23, f28] at hE ⊢
                clear f23 f28
                go_wp2
                rw [add2_64 p2 kk, ← HP3.out]
                exact .mk (hE _ hC1)
              apply DetL.next
              · -- 30: Op.move (Operand.tmp 7)
                apply detStep_plain []
                exact fun _ => rfl
                rfl
                rintro vals ⟨⟨⟨⟨⟨⟨⟨⟨⟨⟨⟨⟨⟨⟨⟨⟨⟨⟨⟨⟨⟨⟨⟨⟨⟨⟨⟨⟨⟨⟨-, -⟩, -⟩, -⟩, -⟩, -⟩, -⟩, -⟩, -⟩, -⟩, -⟩, -⟩, -⟩, -⟩, -⟩, -⟩, -⟩, -⟩, -⟩, -⟩, -⟩, -⟩, -⟩, -⟩, -⟩, -⟩, -⟩, -⟩, -⟩, -⟩, -⟩ w1 hC1 E hE
                simp only [puts, act_put, act_put_none, List.setIfInBounds_toArray, List.set_cons_zero, List.set_cons_succ] at hE ⊢
                go_wp2
                exact .mk (hE _ hC1)
              apply DetL.next
              · -- 31: Op.move (Operand.tmp 14)
                apply detStep_plain []
                exact fun _ => rfl
                rfl
                rintro vals ⟨⟨⟨⟨⟨⟨⟨⟨⟨⟨⟨⟨⟨⟨⟨⟨⟨⟨⟨⟨⟨⟨⟨⟨⟨⟨⟨⟨⟨⟨⟨-, -⟩, -⟩, -⟩, -⟩, -⟩, -⟩, -⟩, -⟩, -⟩, -⟩, -⟩, -⟩, -⟩, -⟩, -⟩, -⟩, -⟩, -⟩, -⟩, -⟩, -⟩, -⟩, -⟩, -⟩, -⟩, -⟩, -⟩, -⟩, -⟩, -⟩, -⟩ w1 hC1 E hE
                simp only [puts, act_put, act_put_none, List.setIfInBounds_toArray, List.set_cons_zero, List.set_cons_succ] at hE ⊢
                go_wp2
                exact .mk (hE _ hC1)
              apply DetL.next
              · -- 32: Op.indexAddr 59 (Operand.tmp 141) (Operand.tmp 142)
                apply detStep_plain [(30, some 141), (31, some 142)]
                exact fun _ => rfl
                rfl
                rintro vals ⟨⟨⟨⟨⟨⟨⟨⟨⟨⟨⟨⟨⟨⟨⟨⟨⟨⟨⟨⟨⟨⟨⟨⟨⟨⟨⟨⟨⟨⟨⟨⟨-, -⟩, -⟩, -⟩, -⟩, -⟩, -⟩, -⟩, -⟩, -⟩, -⟩, -⟩, -⟩, -⟩, -⟩, -⟩, -⟩, -⟩, -⟩, -⟩, -⟩, -⟩, -⟩, -⟩, -⟩, -⟩, -⟩, -⟩, -⟩, -⟩, -⟩, f30⟩, f31⟩ w1 hC1 E hE
                simp only [puts, act_put, act_put_none, List.setIfInBounds_toArray, List.set_cons_zero, List.set_cons_succ, f30, f31] at hE ⊢
                clear f30 f31
                go_wp2
                exact .mk (hE _ hC1)
              apply DetL.next
              · -- 33: Op.load 75 (Operand.tmp 143)
                apply detStep_plain [(32, some 143)]
                exact fun _ => rfl
                rfl
                rintro vals ⟨⟨⟨⟨⟨⟨⟨⟨⟨⟨⟨⟨⟨⟨⟨⟨⟨⟨⟨⟨⟨⟨⟨⟨⟨⟨⟨⟨⟨⟨⟨⟨⟨-, -⟩, -⟩, -⟩, -⟩, -⟩, -⟩, -⟩, -⟩, -⟩, -⟩, -⟩, -⟩, -⟩, -⟩, -⟩, -⟩, -⟩, -⟩, -⟩, -⟩, -⟩, -⟩, -⟩, -⟩, -⟩, -⟩, -⟩, -⟩, -⟩, -⟩, -⟩, -⟩, f32⟩ w1 hC1 E hE
                have d0 := hC1.w.at_ (i := t) HLEN.out hlt
                rw [← HWK.out] at d0
                simp only [puts, act_put, act_put_none, List.setIfInBounds_toArray, List.set_cons_zero, List.set_cons_succ, f32] at hE ⊢
                clear f32
                go_wp2
                exact .mk (hE _ hC1)
              apply DetL.next
              · -- 34: Op.binOp BinOp.add 75 (Operand.tmp 140) (Operand.tmp 144) 75
                apply detStep_plain [(29, some 140), (33, some 144)]
                exact fun _ => rfl
                rfl
                rintro vals ⟨⟨⟨⟨⟨⟨⟨⟨⟨⟨⟨⟨⟨⟨⟨⟨⟨⟨⟨⟨⟨⟨⟨⟨⟨⟨⟨⟨⟨⟨⟨⟨⟨⟨-, -⟩, -⟩, -⟩, -⟩, -⟩, -⟩, -⟩, -⟩, -⟩, -⟩, -⟩, -⟩, -⟩, -⟩, -⟩, -⟩, -⟩, -⟩, -⟩, -⟩, -⟩, -⟩, -⟩, -⟩, -⟩, -⟩, -⟩, -⟩, -⟩, f29⟩, -⟩, -⟩, -⟩, f33⟩ w1 hC1 E hE
                simp only [puts, act_put, act_put_none, List.setIfInBounds_toArray, List.set_cons_zero, List.set_cons_succ, f29, f33] at hE ⊢
                clear f29 f33
                go_wp2
                rw [add2_64 p3 wk, ← HP4.out]
                exact .mk (hE _ hC1)
              apply DetL.next
              · -- 35: Op.call { callee := Callee.value (Operand.func 60), args := #[Operand.tmp 111, Operand.tmp 145], argTypes := #
                apply detStep_plain [(0, some 111), (34, some 145), (8, some 119)]
                exact fun _ => rfl
                rfl
                rintro vals ⟨⟨⟨⟨⟨⟨⟨⟨⟨⟨⟨⟨⟨⟨⟨⟨⟨⟨⟨⟨⟨⟨⟨⟨⟨⟨⟨⟨⟨⟨⟨⟨⟨⟨⟨-, f0⟩, -⟩, -⟩, -⟩, -⟩, -⟩, -⟩, -⟩, f8⟩, -⟩, -⟩, -⟩, -⟩, -⟩, -⟩, -⟩, -⟩, -⟩, -⟩, -⟩, -⟩, -⟩, -⟩, -⟩, -⟩, -⟩, -⟩, -⟩, -⟩, -⟩, -⟩, -⟩, -⟩, -⟩, f34⟩ w1 hC1 E hE
                simp only [puts, act_put, act_put_none, List.setIfInBounds_toArray, List.set_cons_zero, List.set_cons_succ, f0, f8, f34] at hE ⊢
                clear f0 f8 f34
                go_wp2_with fail
                refine calls_then (low_any 32 64 _ _ _ _ _ _ _ (.inl rfl) p4 LP4.out) ?_
                rintro e w2 ⟨rfl, hb2⟩
                rw [← HXX.out]
                go_wp2_with fail
                exact .mk (hE _ (hC1.next hb2))
              apply DetL.last
              · -- 36: Op.assign (Operand.tmp 146)
                apply detStep_plain [(35, some 146), (35, some 146), (0, some 111), (1, some 112), (2, some 113), (3, some 114), (4, some 115), (5, some 116), (6, some 117), (7, some 118), (8, some 119), (9, some 120), (10, some 121), (11, some 122), (12, some 123), (13, some 124), (14, some 125), (15, some 126), (16, some 127), (17, some 128), (18, some 129), (19, some 130), (20, some 131), (21, some 132), (22, some 133), (23, some 134), (24, some 135), (25, some 136), (26, some 137), (27, some 138), (28, some 139), (29, some 140), (30, some 141), (31, some 142), (32, some 143), (33, some 144), (34, some 145), (35, some 146)]
                exact fun _ => rfl
                rfl
                rintro vals ⟨⟨⟨⟨⟨⟨⟨⟨⟨⟨⟨⟨⟨⟨⟨⟨⟨⟨⟨⟨⟨⟨⟨⟨⟨⟨⟨⟨⟨⟨⟨⟨⟨⟨⟨⟨-, f0⟩, f1⟩, f2⟩, f3⟩, f4⟩, f5⟩, f6⟩, f7⟩, f8⟩, f9⟩, f10⟩, f11⟩, f12⟩, f13⟩, f14⟩, f15⟩, f16⟩, f17⟩, f18⟩, f19⟩, f20⟩, f21⟩, f22⟩, f23⟩, f24⟩, f25⟩, f26⟩, f27⟩, f28⟩, f29⟩, f30⟩, f31⟩, f32⟩, f33⟩, f34⟩, f35⟩ w1 hC1 E hE
                simp only [puts, act_put, act_put_none, List.setIfInBounds_toArray, List.set_cons_zero, List.set_cons_succ, f0, f1, f2, f3, f4, f5, f6, f7, f8, f9, f10, f11, f12, f13, f14, f15, f16, f17, f18, f19, f20, f21, f22, f23, f24, f25, f26, f27, f28, f29, f30, f31, f32, f33, f34, f35] at hE ⊢
                clear f0 f1 f2 f3 f4 f5 f6 f7 f8 f9 f10 f11 f12 f13 f14 f15 f16 f17 f18 f19 f20 f21 f22 f23 f24 f25 f26 f27 f28 f29 f30 f31 f32 f33 f34 f35
                go_wp2
                exact .mk (hE _ hC1)
              rintro vals ⟨⟨⟨⟨⟨⟨⟨⟨⟨⟨⟨⟨⟨⟨⟨⟨⟨⟨⟨⟨⟨⟨⟨⟨⟨⟨⟨⟨⟨⟨⟨⟨⟨⟨⟨⟨⟨-, f0⟩, f1⟩, f2⟩, f3⟩, f4⟩, f5⟩, f6⟩, f7⟩, f8⟩, f9⟩, f10⟩, f11⟩, f12⟩, f13⟩, f14⟩, f15⟩, f16⟩, f17⟩, f18⟩, f19⟩, f20⟩, f21⟩, f22⟩, f23⟩, f24⟩, f25⟩, f26⟩, f27⟩, f28⟩, f29⟩, f30⟩, f31⟩, f32⟩, f33⟩, f34⟩, f35⟩, f36⟩ w1 hC1
              simp only [puts, act_put, act_put_none, List.setIfInBounds_toArray, List.set_cons_zero, List.set_cons_succ, f0, f1, f2, f3, f4, f5, f6, f7, f8, f9, f10, f11, f12, f13, f14, f15, f16, f17, f18, f19, f20, f21, f22, f23, f24, f25, f26, f27, f28, f29, f30, f31, f32, f33, f34, f35, f36]
              clear f0 f1 f2 f3 f4 f5 f6 f7 f8 f9 f10 f11 f12 f13 f14 f15 f16 f17 f18 f19 f20 f21 f22 f23 f24 f25 f26 f27 f28 f29 f30 f31 f32 f33 f34 f35 f36
              clear HC0
              go_wp2_with fail
              have HC0 := hC1.drew
              clear hC1
              refine wp_region_det (fun u => BkR w gf F32 p (some bad) blk (some sad) S (.slice (some ⟨g, 0, none⟩) 64 c) RW g2 c2 ⟨va, vb, vc, vd, ve, vf, vg, vh⟩ u) (fun u => BkR w gf F32 p (some bad) blk (some sad) S (.slice (some ⟨g, 0, none⟩) 64 c) RW g2 c2 ⟨va, vb, vc, vd, ve, vf, vg, vh⟩ u) [(0, some 147), (1, some 148), (2, some 149), (3, some 150), (4, some 151), (5, some 152), (6, some 153), (7, some 154), (8, some 155), (9, some 156), (10, some 157), (11, some 158), (12, some 159), (13, some 160), (14, some 161), (15, some 162), (16, some 163), (17, some 164), (18, some 165), (19, some 166), (20, some 167), (21, some 168), (22, some 169), (23, some 170), (24, some 171), (25, some 172), (26, some 173), (27, some 19)] (by kernel_rfl) (by kernel_rfl) (by decide) (by kernel_rfl) (fun _ => rfl) HC0 ?_
              apply DetL.next
              · -- 0: Op.load 61 (Operand.tmp 3)
                apply detStep_plain []
                exact fun _ => rfl
                rfl
                rintro vals - w1 hC1 E hE
                simp only [puts, act_put, act_put_none, List.setIfInBounds_toArray, List.set_cons_zero, List.set_cons_succ] at hE ⊢
                refine wpList_get_box hC1.w.st.h rfl rfl rfl hu rfl h_size ?_
                go_wp2_with fail
                exact .mk (hE _ hC1)
              apply DetL.next
              · -- 1: Op.load 61 (Operand.tmp 3)
                apply detStep_plain []
                exact fun _ => rfl
                rfl
                rintro vals ⟨-, -⟩ w1 hC1 E hE
                simp only [puts, act_put, act_put_none, List.setIfInBounds_toArray, List.set_cons_zero, List.set_cons_succ] at hE ⊢
                refine wpList_get_box hC1.w.st.h rfl rfl rfl hu rfl h_size ?_
                go_wp2_with fail
                exact .mk (hE _ hC1)
              apply DetL.next
              · -- 2: Op.move (Operand.tmp 16)
                apply detStep_plain []
                exact fun _ => rfl
                rfl
                rintro vals ⟨⟨-, -⟩, -⟩ w1 hC1 E hE
                simp only [puts, act_put, act_put_none, List.setIfInBounds_toArray, List.set_cons_zero, List.set_cons_succ] at hE ⊢
                go_wp2
                exact .mk (hE _ hC1)
              apply DetL.next
              · -- 3: Op.fieldAddr 61 (Operand.tmp 3) 2
                apply detStep_plain []
                exact fun _ => rfl
                rfl
                rintro vals ⟨⟨⟨-, -⟩, -⟩, -⟩ w1 hC1 E hE
                simp only [puts, act_put, act_put_none, List.setIfInBounds_toArray, List.set_cons_zero, List.set_cons_succ] at hE ⊢
                go_wp2
                exact .mk (hE _ hC1)
              apply DetL.next
              · -- 4: Op.load 58 (Operand.tmp 150)
                apply detStep_plain [(3, some 150)]
                exact fun _ => rfl
                rfl
                rintro vals ⟨⟨⟨⟨-, -⟩, -⟩, -⟩, f3⟩ w1 hC1 E hE
                have d0 := hC1.w.st.h.cell 2
                simp [hv, hC] at d0
                simp only [puts, act_put, act_put_none, List.setIfInBounds_toArray, List.set_cons_zero, List.set_cons_succ, f3] at hE ⊢
                clear f3
                go_wp2
                exact .mk (hE _ hC1)
              apply DetL.next
              · -- 5: Op.call { callee := Callee.value (Operand.func 59), args := #[Operand.tmp 148, Operand.tmp 149, Operand.tmp 15
                apply detStep_plain [(1, some 148), (2, some 149), (4, some 151)]
                exact fun _ => rfl
                rfl
                rintro vals ⟨⟨⟨⟨⟨-, -⟩, f1⟩, f2⟩, -⟩, f4⟩ w1 hC1 E hE
                simp only [puts, act_put, act_put_none, List.setIfInBounds_toArray, List.set_cons_zero, List.set_cons_succ, f1, f2, f4] at hE ⊢
                clear f1 f2 f4
                go_wp2_with fail
                refine calls_then (mixed_any 32 64 _ _ _ _ _ _ _ (.inl rfl) va _ _ _ false HL8.out.a (by decide) (by decide) (by decide) _ _ gf hC1.w.st.ok.a (by have := hC1.w.st.h.lt; omega) hC1.w.st.ok.ca) ?_
                rintro e w2 ⟨rfl, hb2⟩
                rw [show allN 32 va _ _ _ false = YA from HYA.out.symm]
                go_wp2_with fail
                exact .mk (hE _ (hC1.next hb2))
              apply DetL.next
              · -- 6: Op.move (Operand.tmp 16)
                apply detStep_plain []
                exact fun _ => rfl
                rfl
                rintro vals ⟨⟨⟨⟨⟨⟨-, -⟩, -⟩, -⟩, -⟩, -⟩, -⟩ w1 hC1 E hE
                simp only [puts, act_put, act_put_none, List.setIfInBounds_toArray, List.set_cons_zero, List.set_cons_succ] at hE ⊢
                go_wp2
                exact .mk (hE _ hC1)
              apply DetL.next
              · -- 7: Op.move (Operand.tmp 13)
                apply detStep_plain []
                exact fun _ => rfl
                rfl
                rintro vals ⟨⟨⟨⟨⟨⟨⟨-, -⟩, -⟩, -⟩, -⟩, -⟩, -⟩, -⟩ w1 hC1 E hE
                simp only [puts, act_put, act_put_none, List.setIfInBounds_toArray, List.set_cons_zero, List.set_cons_succ] at hE ⊢
                go_wp2
                exact .mk (hE _ hC1)
              apply DetL.next
              · -- 8: Op.indexAddr 59 (Operand.tmp 154) (Operand.const (Value.int IntKind.i64 1))
                apply detStep_plain [(7, some 154)]
                exact fun _ => rfl
                rfl
                rintro vals ⟨⟨⟨⟨⟨⟨⟨⟨-, -⟩, -⟩, -⟩, -⟩, -⟩, -⟩, -⟩, f7⟩ w1 hC1 E hE
                simp only [puts, act_put, act_put_none, List.setIfInBounds_toArray, List.set_cons_zero, List.set_cons_succ, f7] at hE ⊢
                clear f7
                go_wp2
                exact .mk (hE _ hC1)
              apply DetL.next
              · -- 9: Op.load 75 (Operand.tmp 155)
                apply detStep_plain [(8, some 155)]
                exact fun _ => rfl
                rfl
                rintro vals ⟨⟨⟨⟨⟨⟨⟨⟨⟨-, -⟩, -⟩, -⟩, -⟩, -⟩, -⟩, -⟩, -⟩, f8⟩ w1 hC1 E hE
                have d0 := hC1.r.atN (i := 1) (v := .int .u64 (vb : Int)) rfl
                simp only [puts, act_put, act_put_none, List.setIfInBounds_toArray, List.set_cons_zero, List.set_cons_succ, f8] at hE ⊢
                clear f8
                go_wp2
                exact .mk (hE _ hC1)
              apply DetL.next
              · -- 10: Op.binOp BinOp.and 75 (Operand.tmp 153) (Operand.tmp 156) 75
                apply detStep_plain [(6, some 153), (9, some 156)]
                exact fun _ => rfl
                rfl
                rintro vals ⟨⟨⟨⟨⟨⟨⟨⟨⟨⟨-, -⟩, -⟩, -⟩, -⟩, -⟩, -⟩, f6⟩, -⟩, -⟩, f9⟩ w1 hC1 E hE
                simp only [puts, act_put, act_put_none, List.setIfInBounds_toArray, List.set_cons_zero, List.set_cons_succ, f6, f9] at hE ⊢
                clear f6 f9
                go_wp2
                rw [and64 va vb (L64.out _ HL8.out.a) (L64.out _ HL8.out.b), ← HAB.out]
                exact .mk (hE _ hC1)
              apply DetL.next
              · -- 11: Op.move (Operand.tmp 16)
                apply detStep_plain []
                exact fun _ => rfl
                rfl
                rintro vals ⟨⟨⟨⟨⟨⟨⟨⟨⟨⟨⟨-, -⟩, -⟩, -⟩, -⟩, -⟩, -⟩, -⟩, -⟩, -⟩, -⟩, -⟩ w1 hC1 E hE
                simp only [puts, act_put, act_put_none, List.setIfInBounds_toArray, List.set_cons_zero, List.set_cons_succ] at hE ⊢
                go_wp2
                exact .mk (hE _ hC1)
              apply DetL.next
              · -- 12: Op.move (Operand.tmp 13)
                apply detStep_plain []
                exact fun _ => rfl
                rfl
                rintro vals ⟨⟨⟨⟨⟨⟨⟨⟨⟨⟨⟨⟨-, -⟩, -⟩, -⟩, -⟩, -⟩, -⟩, -⟩, -⟩, -⟩, -⟩, -⟩, -⟩ w1 hC1 E hE
                simp only [puts, act_put, act_put_none, List.setIfInBounds_toArray, List.set_cons_zero, List.set_cons_succ] at hE ⊢
                go_wp2
                exact .mk (hE _ hC1)
              apply DetL.next
              · -- 13: Op.indexAddr 59 (Operand.tmp 159) (Operand.const (Value.int IntKind.i64 2))
                apply detStep_plain [(12, some 159)]
                exact fun _ => rfl
                rfl
                rintro vals ⟨⟨⟨⟨⟨⟨⟨⟨⟨⟨⟨⟨⟨-, -⟩, -⟩, -⟩, -⟩, -⟩, -⟩, -⟩, -⟩, -⟩, -⟩, -⟩, -⟩, f12⟩ w1 hC1 E hE
                simp only [puts, act_put, act_put_none, List.setIfInBounds_toArray, List.set_cons_zero, List.set_cons_succ, f12] at hE ⊢
                clear f12
                go_wp2
                exact .mk (hE _ hC1)
              apply DetL.next
              · -- 14: Op.load 75 (Operand.tmp 160)
                apply detStep_plain [(13, some 160)]
                exact fun _ => rfl
                rfl
                rintro vals ⟨⟨⟨⟨⟨⟨⟨⟨⟨⟨⟨⟨⟨⟨-, -⟩, -⟩, -⟩, -⟩, -⟩, -⟩, -⟩, -⟩, -⟩, -⟩, -⟩, -⟩, -⟩, f13⟩ w1 hC1 E hE
                have d0 := hC1.r.atN (i := 2) (v := .int .u64 (vc : Int)) rfl
                simp only [puts, act_put, act_put_none, List.setIfInBounds_toArray, List.set_cons_zero, List.set_cons_succ, f13] at hE ⊢
                clear f13
                go_wp2
                exact .mk (hE _ hC1)
              apply DetL.next
              · -- 15: Op.binOp BinOp.and 75 (Operand.tmp 158) (Operand.tmp 161) 75
                apply detStep_plain [(11, some 158), (14, some 161)]
                exact fun _ => rfl
                rfl
                rintro vals ⟨⟨⟨⟨⟨⟨⟨⟨⟨⟨⟨⟨⟨⟨⟨-, -⟩, -⟩, -⟩, -⟩, -⟩, -⟩, -⟩, -⟩, -⟩, -⟩, -⟩, f11⟩, -⟩, -⟩, f14⟩ w1 hC1 E hE
                simp only [puts, act_put, act_put_none, List.setIfInBounds_toArray, List.set_cons_zero, List.set_cons_succ, f11, f14] at hE ⊢
                clear f11 f14
                go_wp2
                rw [and64 va vc (L64.out _ HL8.out.a) (L64.out _ HL8.out.c), ← HAC.out]
                exact .mk (hE _ hC1)
              apply DetL.next
              · -- 16: Op.binOp BinOp.xor 75 (Operand.tmp 157) (Operand.tmp 162) 75
                apply detStep_plain [(10, some 157), (15, some 162)]
                exact fun _ => rfl
                rfl
                rintro vals ⟨⟨⟨⟨⟨⟨⟨⟨⟨⟨⟨⟨⟨⟨⟨⟨-, -⟩, -⟩, -⟩, -⟩, -⟩, -⟩, -⟩, -⟩, -⟩, -⟩, f10⟩, -⟩, -⟩, -⟩, -⟩, f15⟩ w1 hC1 E hE
                simp only [puts, act_put, act_put_none, List.setIfInBounds_toArray, List.set_cons_zero, List.set_cons_succ, f10, f15] at hE ⊢
                clear f10 f15
                go_wp2
                rw [xor64 ab ac LAB.out LAC.out, ← HX1.out]
                exact .mk (hE _ hC1)
              apply DetL.next
              · -- 17: Op.move (Operand.tmp 13)
                apply detStep_plain []
                exact fun _ => rfl
                rfl
                rintro vals ⟨⟨⟨⟨⟨⟨⟨⟨⟨⟨⟨⟨⟨⟨⟨⟨⟨-, -⟩, -⟩, -⟩, -⟩, -⟩, -⟩, -⟩, -⟩, -⟩, -⟩, -⟩, -⟩, -⟩, -⟩, -⟩, -⟩, -⟩ w1 hC1 E hE
                simp only [puts, act_put, act_put_none, List.setIfInBounds_toArray, List.set_cons_zero, List.set_cons_succ] at hE ⊢
                go_wp2
                exact .mk (hE _ hC1)
              apply DetL.next
              · -- 18: Op.indexAddr 59 (Operand.tmp 164) (Operand.const (Value.int IntKind.i64 1))
                apply detStep_plain [(17, some 164)]
                exact fun _ => rfl
                rfl
                rintro vals ⟨⟨⟨⟨⟨⟨⟨⟨⟨⟨⟨⟨⟨⟨⟨⟨⟨⟨-, -⟩, -⟩, -⟩, -⟩, -⟩, -⟩, -⟩, -⟩, -⟩, -⟩, -⟩, -⟩, -⟩, -⟩, -⟩, -⟩, -⟩, f17⟩ w1 hC1 E hE
                simp only [puts, act_put, act_put_none, List.setIfInBounds_toArray, List.set_cons_zero, List.set_cons_succ, f17] at hE ⊢
                clear f17
                go_wp2
                exact .mk (hE _ hC1)
              apply DetL.next
              · -- 19: Op.load 75 (Operand.tmp 165)
                apply detStep_plain [(18, some 165)]
                exact fun _ => rfl
                rfl
                rintro vals ⟨⟨⟨⟨⟨⟨⟨⟨⟨⟨⟨⟨⟨⟨⟨⟨⟨⟨⟨-, -⟩, -⟩, -⟩, -⟩, -⟩, -⟩, -⟩, -⟩, -⟩, -⟩, -⟩, -⟩, -⟩, -⟩, -⟩, -⟩, -⟩, -⟩, f18⟩ w1 hC1 E hE
                have d0 := hC1.r.atN (i := 1) (v := .int .u64 (vb : Int)) rfl
                simp only [puts, act_put, act_put_none, List.setIfInBounds_toArray, List.set_cons_zero, List.set_cons_succ, f18] at hE ⊢
                clear f18
                go_wp2
                exact .mk (hE _ hC1)
              apply DetL.next
              · -- 20: Op.move (Operand.tmp 13)
                apply detStep_plain []
                exact fun _ => rfl
                rfl
                rintro vals ⟨⟨⟨⟨⟨⟨⟨⟨⟨⟨⟨⟨⟨⟨⟨⟨⟨⟨⟨⟨-, -⟩, -⟩, -⟩, -⟩, -⟩, -⟩, -⟩, -⟩, -⟩, -⟩, -⟩, -⟩, -⟩, -⟩, -⟩, -⟩, -⟩, -⟩, -⟩, -⟩ w1 hC1 E hE
                simp only [puts, act_put, act_put_none, List.setIfInBounds_toArray, List.set_cons_zero, List.set_cons_succ] at hE ⊢
                go_wp2
                exact .mk (hE _ hC1)
              apply DetL.next
              · -- 21: Op.indexAddr 59 (Operand.tmp 167) (Operand.const (Value.int IntKind.i64 2))
                apply detStep_plain [(20, some 167)]
                exact fun _ => rfl
                rfl
                rintro vals ⟨⟨⟨⟨⟨⟨⟨⟨⟨⟨⟨⟨⟨⟨⟨⟨⟨⟨⟨⟨⟨-, -⟩, -⟩, -⟩, -⟩, -⟩, -⟩, -⟩, -⟩, -⟩, -⟩, -⟩, -⟩, -⟩, -⟩, -⟩, -⟩, -⟩, -⟩, -⟩, -⟩, f20⟩ w1 hC1 E hE
                simp only [puts, act_put, act_put_none, List.setIfInBounds_toArray, List.set_cons_zero, List.set_cons_succ, f20] at hE ⊢
                clear f20
                go_wp2
                exact .mk (hE _ hC1)
              apply DetL.next
              · -- 22: Op.load 75 (Operand.tmp 168)
                apply detStep_plain [(21, some 168)]
                exact fun _ => rfl
                rfl
                rintro vals ⟨⟨⟨⟨⟨⟨⟨⟨⟨⟨⟨⟨⟨⟨⟨⟨⟨⟨⟨⟨⟨⟨-, -⟩, -⟩, -⟩, -⟩, -⟩, -⟩, -⟩, -⟩, -⟩, -⟩, -⟩, -⟩, -⟩, -⟩, -⟩, -⟩, -⟩, -⟩, -⟩, -⟩, -⟩, f21⟩ w1 hC1 E hE
                have d0 := hC1.r.atN (i := 2) (v := .int .u64 (vc : Int)) rfl
                simp only [puts, act_put, act_put_none, List.setIfInBounds_toArray, List.set_cons_zero, List.set_cons_succ, f21] at hE ⊢
                clear f21
                go_wp2
                exact .mk (hE _ hC1)
              apply DetL.next
              · -- 23: Op.binOp BinOp.and 75 (Operand.tmp 166) (Operand.tmp 169) 75
                apply detStep_plain [(19, some 166), (22, some 169)]
                exact fun _ => rfl
                rfl
                rintro vals ⟨⟨⟨⟨⟨⟨⟨⟨⟨⟨⟨⟨⟨⟨⟨⟨⟨⟨⟨⟨⟨⟨⟨-, -⟩, -⟩, -⟩, -⟩, -⟩, -⟩, -⟩, -⟩, -⟩, -⟩, -⟩, -⟩, -⟩, -⟩, -⟩, -⟩, -⟩, -⟩, -⟩, f19⟩, -⟩, -⟩, f22⟩ w1 hC1 E hE
                simp only [puts, act_put, act_put_none, List.setIfInBounds_toArray, List.set_cons_zero, List.set_cons_succ, f19, f22] at hE ⊢
                clear f19 f22
                go_wp2
                rw [and64 vb vc (L64.out _ HL8.out.b) (L64.out _ HL8.out.c), ← HBC.out]
                exact .mk (hE _ hC1)
              apply DetL.next
              · -- 24: Op.binOp BinOp.xor 75 (Operand.tmp 163) (Operand.tmp 170) 75
                apply detStep_plain [(16, some 163), (23, some 170)]
                exact fun _ => rfl
                rfl
                rintro vals ⟨⟨⟨⟨⟨⟨⟨⟨⟨⟨⟨⟨⟨⟨⟨⟨⟨⟨⟨⟨⟨⟨⟨⟨-, -⟩, -⟩, -⟩, -⟩, -⟩, -⟩, -⟩, -⟩, -⟩, -⟩, -⟩, -⟩, -⟩, -⟩, -⟩, -⟩, f16⟩, -⟩, -⟩, -⟩, -⟩, -⟩, -⟩, f23⟩ w1 hC1 E hE
                simp only [puts, act_put, act_put_none, List.setIfInBounds_toArray, List.set_cons_zero, List.set_cons_succ, f16, f23] at hE ⊢
                clear f16 f23
                go_wp2
                rw [xor64 x1 bc2 LX1.out LBC.out, ← HMJ.out]
                exact .mk (hE _ hC1)
              apply DetL.next
              · -- 25: Op.binOp BinOp.add 75 (Operand.tmp 152) (Operand.tmp 171) 75
                apply detStep_plain [(5, some 152), (24, some 171)]
                exact fun _ => rfl
                rfl
                rintro vals ⟨⟨⟨⟨⟨⟨⟨⟨⟨⟨⟨⟨⟨⟨⟨⟨⟨⟨⟨⟨⟨⟨⟨⟨⟨-, -⟩, -⟩, -⟩, -⟩, -⟩, f5⟩, -⟩, -⟩, -⟩, -⟩, -⟩, -⟩, -⟩, -⟩, -⟩, -⟩, -⟩, -⟩, -⟩, -⟩, -⟩, -⟩, -⟩, -⟩, f24⟩ w1 hC1 E hE
                simp only [puts, act_put, act_put_none, List.setIfInBounds_toArray, List.set_cons_zero, List.set_cons_succ, f5, f24] at hE ⊢
                clear f5 f24
                go_wp2
                rw [add2_64 YA mj, ← HQ1.out]
                exact .mk (hE _ hC1)
              apply DetL.next
              · -- 26: Op.call { callee := Callee.value (Operand.func 60), args := #[Operand.tmp 147, Operand.tmp 172], argTypes := #
                apply detStep_plain [(0, some 147), (25, some 172), (5, some 152)]
                exact fun _ => rfl
                rfl
                rintro vals ⟨⟨⟨⟨⟨⟨⟨⟨⟨⟨⟨⟨⟨⟨⟨⟨⟨⟨⟨⟨⟨⟨⟨⟨⟨⟨-, f0⟩, -⟩, -⟩, -⟩, -⟩, f5⟩, -⟩, -⟩, -⟩, -⟩, -⟩, -⟩, -⟩, -⟩, -⟩, -⟩, -⟩, -⟩, -⟩, -⟩, -⟩, -⟩, -⟩, -⟩, -⟩, f25⟩ w1 hC1 E hE
                simp only [puts, act_put, act_put_none, List.setIfInBounds_toArray, List.set_cons_zero, List.set_cons_succ, f0, f5, f25] at hE ⊢
                clear f0 f5 f25
                go_wp2_with fail
                refine calls_then (low_any 32 64 _ _ _ _ _ _ _ (.inl rfl) q1 LQ1.out) ?_
                rintro e w2 ⟨rfl, hb2⟩
                rw [← HYY.out]
                go_wp2_with fail
                exact .mk (hE _ (hC1.next hb2))
              apply DetL.last
              · -- 27: Op.assign (Operand.tmp 173)
                apply detStep_plain [(26, some 173), (26, some 173), (0, some 147), (1, some 148), (2, some 149), (3, some 150), (4, some 151), (5, some 152), (6, some 153), (7, some 154), (8, some 155), (9, some 156), (10, some 157), (11, some 158), (12, some 159), (13, some 160), (14, some 161), (15, some 162), (16, some 163), (17, some 164), (18, some 165), (19, some 166), (20, some 167), (21, some 168), (22, some 169), (23, some 170), (24, some 171), (25, some 172), (26, some 173)]
                exact fun _ => rfl
                rfl
                rintro vals ⟨⟨⟨⟨⟨⟨⟨⟨⟨⟨⟨⟨⟨⟨⟨⟨⟨⟨⟨⟨⟨⟨⟨⟨⟨⟨⟨-, f0⟩, f1⟩, f2⟩, f3⟩, f4⟩, f5⟩, f6⟩, f7⟩, f8⟩, f9⟩, f10⟩, f11⟩, f12⟩, f13⟩, f14⟩, f15⟩, f16⟩, f17⟩, f18⟩, f19⟩, f20⟩, f21⟩, f22⟩, f23⟩, f24⟩, f25⟩, f26⟩ w1 hC1 E hE
                simp only [puts, act_put, act_put_none, List.setIfInBounds_toArray, List.set_cons_zero, List.set_cons_succ, f0, f1, f2, f3, f4, f5, f6, f7, f8, f9, f10, f11, f12, f13, f14, f15, f16, f17, f18, f19, f20, f21, f22, f23, f24, f25, f26] at hE ⊢
                clear f0 f1 f2 f3 f4 f5 f6 f7 f8 f9 f10 f11 f12 f13 f14 f15 f16 f17 f18 f19 f20 f21 f22 f23 f24 f25 f26
                go_wp2
                exact .mk (hE _ hC1)
              rintro vals ⟨⟨⟨⟨⟨⟨⟨⟨⟨⟨⟨⟨⟨⟨⟨⟨⟨⟨⟨⟨⟨⟨⟨⟨⟨⟨⟨⟨-, f0⟩, f1⟩, f2⟩, f3⟩, f4⟩, f5⟩, f6⟩, f7⟩, f8⟩, f9⟩, f10⟩, f11⟩, f12⟩, f13⟩, f14⟩, f15⟩, f16⟩, f17⟩, f18⟩, f19⟩, f20⟩, f21⟩, f22⟩, f23⟩, f24⟩, f25⟩, f26⟩, f27⟩ w1 hC1
              simp only [puts, act_put, act_put_none, List.setIfInBounds_toArray, List.set_cons_zero, List.set_cons_succ, f0, f1, f2, f3, f4, f5, f6, f7, f8, f9, f10, f11, f12, f13, f14, f15, f16, f17, f18, f19, f20, f21, f22, f23, f24, f25, f26, f27]
              clear f0 f1 f2 f3 f4 f5 f6 f7 f8 f9 f10 f11 f12 f13 f14 f15 f16 f17 f18 f19 f20 f21 f22 f23 f24 f25 f26 f27
              clear HC0
              go_wp2_with fail
              have HC0 := hC1.drew
              clear hC1
              refine wp_region_tailq (fun u => BkR w gf F32 p (some bad) blk (some sad) S (.slice (some ⟨g, 0, none⟩) 64 c) RW g2 c2 ⟨va, vb, vc, vd, ve, vf, vg, vh⟩ u) (fun _ => false) 26 [(0, some 174), (1, some 175), (2, some 176), (3, some 177), (4, some 178), (5, some 179), (6, some 180), (7, some 181), (8, some 182), (9, some 183), (10, some 184), (11, some 185), (12, some 186), (13, some 187), (14, some 188), (15, some 189), (16, some 190), (17, some 191), (18, some 192), (19, some 193), (20, some 194), (21, some 195), (22, some 196), (23, some 197), (24, some 198), (25, some 199), (26, some 200), (27, some 13)] (by kernel_rfl) (by kernel_rfl) (by decide) (by kernel_rfl) (fun _ => rfl) HC0 ?_
              apply DetQ.next
              · -- 0: Op.load 61 (Operand.tmp 3)
                apply detStepQ_of
                apply detStep_plain []
                exact fun _ => rfl
                rfl
                rintro vals - w1 hC1 E hE
                simp only [puts, act_put, act_put_none, List.setIfInBounds_toArray, List.set_cons_zero, List.set_cons_succ] at hE ⊢
                refine wpList_get_box hC1.w.st.h rfl rfl rfl hu rfl h_size ?_
                go_wp2_with fail
                exact .mk (hE _ hC1)
              apply DetQ.next
              · -- 1: Op.move (Operand.tmp 18)
                apply detStepQ_of
                apply detStep_plain []
                exact fun _ => rfl
                rfl
                rintro vals ⟨-, -⟩ w1 hC1 E hE
                simp only [puts, act_put, act_put_none, List.setIfInBounds_toArray, List.set_cons_zero, List.set_cons_succ] at hE ⊢
                go_wp2
                exact .mk (hE _ hC1)
              apply DetQ.next
              · -- 2: Op.move (Operand.tmp 19)
                apply detStepQ_of
                apply detStep_plain []
                exact fun _ => rfl
                rfl
                rintro vals ⟨⟨-, -⟩, -⟩ w1 hC1 E hE
                simp only [puts, act_put, act_put_none, List.setIfInBounds_toArray, List.set_cons_zero, List.set_cons_succ] at hE ⊢
                go_wp2
                exact .mk (hE _ hC1)
              apply DetQ.next
              · -- 3: Op.binOp BinOp.add 75 (Operand.tmp 175) (Operand.tmp 176) 75
                apply detStepQ_of
                apply detStep_plain [(1, some 175), (2, some 176)]
                exact fun _ => rfl
                rfl
                rintro vals ⟨⟨⟨-, -⟩, f1⟩, f2⟩ w1 hC1 E hE
                simp only [puts, act_put, act_put_none, List.setIfInBounds_toArray, List.set_cons_zero, List.set_cons_succ, f1, f2] at hE ⊢
                clear f1 f2
                go_wp2
                rw [add2_64 xx yy, ← HZ1.out]
                exact .mk (hE _ hC1)
              apply DetQ.next
              · -- 4: Op.call { callee := Callee.value (Operand.func 60), args := #[Operand.tmp 174, Operand.tmp 177], argTypes := #
                apply detStepQ_of
                apply detStep_plain [(0, some 174), (3, some 177)]
                exact fun _ => rfl
                rfl
                rintro vals ⟨⟨⟨⟨-, f0⟩, -⟩, -⟩, f3⟩ w1 hC1 E hE
                simp only [puts, act_put, act_put_none, List.setIfInBounds_toArray, List.set_cons_zero, List.set_cons_succ, f0, f3] at hE ⊢
                clear f0 f3
                go_wp2_with fail
                refine calls_then (low_any 32 64 _ _ _ _ _ _ _ (.inl rfl) z1 LZ1.out) ?_
                rintro e w2 ⟨rfl, hb2⟩
                rw [← HZA.out]
                go_wp2_with fail
                exact .mk (hE _ (hC1.next hb2))
              apply DetQ.next
              · -- 5: Op.move (Operand.tmp 16)
                apply detStepQ_of
                apply detStep_plain []
                exact fun _ => rfl
                rfl
                rintro vals ⟨⟨⟨⟨⟨-, -⟩, -⟩, -⟩, -⟩, -⟩ w1 hC1 E hE
                simp only [puts, act_put, act_put_none, List.setIfInBounds_toArray, List.set_cons_zero, List.set_cons_succ] at hE ⊢
                go_wp2
                exact .mk (hE _ hC1)
              apply DetQ.next
              · -- 6: Op.move (Operand.tmp 13)
                apply detStepQ_of
                apply detStep_plain []
                exact fun _ => rfl
                rfl
                rintro vals ⟨⟨⟨⟨⟨⟨-, -⟩, -⟩, -⟩, -⟩, -⟩, -⟩ w1 hC1 E hE
                simp only [puts, act_put, act_put_none, List.setIfInBounds_toArray, List.set_cons_zero, List.set_cons_succ] at hE ⊢
                go_wp2
                exact .mk (hE _ hC1)
              apply DetQ.next
              · -- 7: Op.indexAddr 59 (Operand.tmp 180) (Operand.const (Value.int IntKind.i64 1))
                apply detStepQ_of
                apply detStep_plain [(6, some 180)]
                exact fun _ => rfl
                rfl
                rintro vals ⟨⟨⟨⟨⟨⟨⟨-, -⟩, -⟩, -⟩, -⟩, -⟩, -⟩, f6⟩ w1 hC1 E hE
                simp only [puts, act_put, act_put_none, List.setIfInBounds_toArray, List.set_cons_zero, List.set_cons_succ, f6] at hE ⊢
                clear f6
                go_wp2
                exact .mk (hE _ hC1)
              apply DetQ.next
              · -- 8: Op.load 75 (Operand.tmp 181)
                apply detStepQ_of
                apply detStep_plain [(7, some 181)]
                exact fun _ => rfl
                rfl
                rintro vals ⟨⟨⟨⟨⟨⟨⟨⟨-, -⟩, -⟩, -⟩, -⟩, -⟩, -⟩, -⟩, f7⟩ w1 hC1 E hE
                have d0 := hC1.r.atN (i := 1) (v := .int .u64 (vb : Int)) rfl
                simp only [puts, act_put, act_put_none, List.setIfInBounds_toArray, List.set_cons_zero, List.set_cons_succ, f7] at hE ⊢
                clear f7
                go_wp2
                exact .mk (hE _ hC1)
              apply DetQ.next
              · -- 9: Op.move (Operand.tmp 13)
                apply detStepQ_of
                apply detStep_plain []
                exact fun _ => rfl
                rfl
                rintro vals ⟨⟨⟨⟨⟨⟨⟨⟨⟨-, -⟩, -⟩, -⟩, -⟩, -⟩, -⟩, -⟩, -⟩, -⟩ w1 hC1 E hE
                simp only [puts, act_put, act_put_none, List.setIfInBounds_toArray, List.set_cons_zero, List.set_cons_succ] at hE ⊢
                go_wp2
                exact .mk (hE _ hC1)
              apply DetQ.next
              · -- 10: Op.indexAddr 59 (Operand.tmp 183) (Operand.const (Value.int IntKind.i64 2))
                apply detStepQ_of
                apply detStep_plain [(9, some 183)]
                exact fun _ => rfl
                rfl
                rintro vals ⟨⟨⟨⟨⟨⟨⟨⟨⟨⟨-, -⟩, -⟩, -⟩, -⟩, -⟩, -⟩, -⟩, -⟩, -⟩, f9⟩ w1 hC1 E hE
                simp only [puts, act_put, act_put_none, List.setIfInBounds_toArray, List.set_cons_zero, List.set_cons_succ, f9] at hE ⊢
                clear f9
                go_wp2
                exact .mk (hE _ hC1)
              apply DetQ.next
              · -- 11: Op.load 75 (Operand.tmp 184)
                apply detStepQ_of
                apply detStep_plain [(10, some 184)]
                exact fun _ => rfl
                rfl
                rintro vals ⟨⟨⟨⟨⟨⟨⟨⟨⟨⟨⟨-, -⟩, -⟩, -⟩, -⟩, -⟩, -⟩, -⟩, -⟩, -⟩, -⟩, f10⟩ w1 hC1 E hE
                have d0 := hC1.r.atN (i := 2) (v := .int .u64 (vc : Int)) rfl
                simp only [puts, act_put, act_put_none, List.setIfInBounds_toArray, List.set_cons_zero, List.set_cons_succ, f10] at hE ⊢
                clear f10
                go_wp2
                exact .mk (hE _ hC1)
              apply DetQ.next
              · -- 12: Op.load 61 (Operand.tmp 3)
                apply detStepQ_of
                apply detStep_plain []
                exact fun _ => rfl
                rfl
                rintro vals ⟨⟨⟨⟨⟨⟨⟨⟨⟨⟨⟨⟨-, -⟩, -⟩, -⟩, -⟩, -⟩, -⟩, -⟩, -⟩, -⟩, -⟩, -⟩, -⟩ w1 hC1 E hE
                simp only [puts, act_put, act_put_none, List.setIfInBounds_toArray, List.set_cons_zero, List.set_cons_succ] at hE ⊢
                refine wpList_get_box hC1.w.st.h rfl rfl rfl hu rfl h_size ?_
                go_wp2_with fail
                exact .mk (hE _ hC1)
              apply DetQ.next
              · -- 13: Op.move (Operand.tmp 13)
                apply detStepQ_of
                apply detStep_plain []
                exact fun _ => rfl
                rfl
                rintro vals ⟨⟨⟨⟨⟨⟨⟨⟨⟨⟨⟨⟨⟨-, -⟩, -⟩, -⟩, -⟩, -⟩, -⟩, -⟩, -⟩, -⟩, -⟩, -⟩, -⟩, -⟩ w1 hC1 E hE
                simp only [puts, act_put, act_put_none, List.setIfInBounds_toArray, List.set_cons_zero, List.set_cons_succ] at hE ⊢
                go_wp2
                exact .mk (hE _ hC1)
              apply DetQ.next
              · -- 14: Op.indexAddr 59 (Operand.tmp 187) (Operand.const (Value.int IntKind.i64 3))
                apply detStepQ_of
                apply detStep_plain [(13, some 187)]
                exact fun _ => rfl
                rfl
                rintro vals ⟨⟨⟨⟨⟨⟨⟨⟨⟨⟨⟨⟨⟨⟨-, -⟩, -⟩, -⟩, -⟩, -⟩, -⟩, -⟩, -⟩, -⟩, -⟩, -⟩, -⟩, -⟩, f13⟩ w1 hC1 E hE
                simp only [puts, act_put, act_put_none, List.setIfInBounds_toArray, List.set_cons_zero, List.set_cons_succ, f13] at hE ⊢
                clear f13
                go_wp2
                exact .mk (hE _ hC1)
              apply DetQ.next
              · -- 15: Op.load 75 (Operand.tmp 188)
                apply detStepQ_of
                apply detStep_plain [(14, some 188)]
                exact fun _ => rfl
                rfl
                rintro vals ⟨⟨⟨⟨⟨⟨⟨⟨⟨⟨⟨⟨⟨⟨⟨-, -⟩, -⟩, -⟩, -⟩, -⟩, -⟩, -⟩, -⟩, -⟩, -⟩, -⟩, -⟩, -⟩, -⟩, f14⟩ w1 hC1 E hE
                have d0 := hC1.r.atN (i := 3) (v := .int .u64 (vd : Int)) rfl
                simp only [puts, act_put, act_put_none, List.setIfInBounds_toArray, List.set_cons_zero, List.set_cons_succ, f14] at hE ⊢
                clear f14
                go_wp2
                exact .mk (hE _ hC1)
              apply DetQ.next
              · -- 16: Op.move (Operand.tmp 18)
                apply detStepQ_of
                apply detStep_plain []
                exact fun _ => rfl
                rfl
                rintro vals ⟨⟨⟨⟨⟨⟨⟨⟨⟨⟨⟨⟨⟨⟨⟨⟨-, -⟩, -⟩, -⟩, -⟩, -⟩, -⟩, -⟩, -⟩, -⟩, -⟩, -⟩, -⟩, -⟩, -⟩, -⟩, -⟩ w1 hC1 E hE
                simp only [puts, act_put, act_put_none, List.setIfInBounds_toArray, List.set_cons_zero, List.set_cons_succ] at hE ⊢
                go_wp2
                exact .mk (hE _ hC1)
              apply DetQ.next
              · -- 17: Op.binOp BinOp.add 75 (Operand.tmp 189) (Operand.tmp 190) 75
                apply detStepQ_of
                apply detStep_plain [(15, some 189), (16, some 190)]
                exact fun _ => rfl
                rfl
                rintro vals ⟨⟨⟨⟨⟨⟨⟨⟨⟨⟨⟨⟨⟨⟨⟨⟨⟨-, -⟩, -⟩, -⟩, -⟩, -⟩, -⟩, -⟩, -⟩, -⟩, -⟩, -⟩, -⟩, -⟩, -⟩, -⟩, f15⟩, f16⟩ w1 hC1 E hE
                simp only [puts, act_put, act_put_none, List.setIfInBounds_toArray, List.set_cons_zero, List.set_cons_succ, f15, f16] at hE ⊢
                clear f15 f16
                go_wp2
                rw [add2_64 vd xx, ← HZ2.out]
                exact .mk (hE _ hC1)
              apply DetQ.next
              · -- 18: Op.call { callee := Callee.value (Operand.func 60), args := #[Operand.tmp 186, Operand.tmp 191], argTypes := #
                apply detStepQ_of
                apply detStep_plain [(12, some 186), (17, some 191), (4, some 178)]
                exact fun _ => rfl
                rfl
                rintro vals ⟨⟨⟨⟨⟨⟨⟨⟨⟨⟨⟨⟨⟨⟨⟨⟨⟨⟨-, -⟩, -⟩, -⟩, -⟩, f4⟩, -⟩, -⟩, -⟩, -⟩, -⟩, -⟩, -⟩, f12⟩, -⟩, -⟩, -⟩, -⟩, f17⟩ w1 hC1 E hE
                simp only [puts, act_put, act_put_none, List.setIfInBounds_toArray, List.set_cons_zero, List.set_cons_succ, f4, f12, f17] at hE ⊢
                clear f4 f12 f17
                go_wp2_with fail
                refine calls_then (low_any 32 64 _ _ _ _ _ _ _ (.inl rfl) z2 LZ2.out) ?_
                rintro e w2 ⟨rfl, hb2⟩
                rw [← HZE.out]
                go_wp2_with fail
                exact .mk (hE _ (hC1.next hb2))
              apply DetQ.next
              · -- 19: Op.move (Operand.tmp 15)
                apply detStepQ_of
                apply detStep_plain []
                exact fun _ => rfl
                rfl
                rintro vals ⟨⟨⟨⟨⟨⟨⟨⟨⟨⟨⟨⟨⟨⟨⟨⟨⟨⟨⟨-, -⟩, -⟩, -⟩, -⟩, -⟩, -⟩, -⟩, -⟩, -⟩, -⟩, -⟩, -⟩, -⟩, -⟩, -⟩, -⟩, -⟩, -⟩, -⟩ w1 hC1 E hE
                simp only [puts, act_put, act_put_none, List.setIfInBounds_toArray, List.set_cons_zero, List.set_cons_succ] at hE ⊢
                go_wp2
                exact .mk (hE _ hC1)
              apply DetQ.next
              · -- 20: Op.move (Operand.tmp 13)
                apply detStepQ_of
                apply detStep_plain []
                exact fun _ => rfl
                rfl
                rintro vals ⟨⟨⟨⟨⟨⟨⟨⟨⟨⟨⟨⟨⟨⟨⟨⟨⟨⟨⟨⟨-, -⟩, -⟩, -⟩, -⟩, -⟩, -⟩, -⟩, -⟩, -⟩, -⟩, -⟩, -⟩, -⟩, -⟩, -⟩, -⟩, -⟩, -⟩, -⟩, -⟩ w1 hC1 E hE
                simp only [puts, act_put, act_put_none, List.setIfInBounds_toArray, List.set_cons_zero, List.set_cons_succ] at hE ⊢
                go_wp2
                exact .mk (hE _ hC1)
              apply DetQ.next
              · -- 21: Op.indexAddr 59 (Operand.tmp 194) (Operand.const (Value.int IntKind.i64 5))
                apply detStepQ_of
                apply detStep_plain [(20, some 194)]
                exact fun _ => rfl
                rfl
                rintro vals ⟨⟨⟨⟨⟨⟨⟨⟨⟨⟨⟨⟨⟨⟨⟨⟨⟨⟨⟨⟨⟨-, -⟩, -⟩, -⟩, -⟩, -⟩, -⟩, -⟩, -⟩, -⟩, -⟩, -⟩, -⟩, -⟩, -⟩, -⟩, -⟩, -⟩, -⟩, -⟩, -⟩, f20⟩ w1 hC1 E hE
                simp only [puts, act_put, act_put_none, List.setIfInBounds_toArray, List.set_cons_zero, List.set_cons_succ, f20] at hE ⊢
                clear f20
                go_wp2
                exact .mk (hE _ hC1)
              apply DetQ.next
              · -- 22: Op.load 75 (Operand.tmp 195)
                apply detStepQ_of
                apply detStep_plain [(21, some 195)]
                exact fun _ => rfl
                rfl
                rintro vals ⟨⟨⟨⟨⟨⟨⟨⟨⟨⟨⟨⟨⟨⟨⟨⟨⟨⟨⟨⟨⟨⟨-, -⟩, -⟩, -⟩, -⟩, -⟩, -⟩, -⟩, -⟩, -⟩, -⟩, -⟩, -⟩, -⟩, -⟩, -⟩, -⟩, -⟩, -⟩, -⟩, -⟩, -⟩, f21⟩ w1 hC1 E hE
                have d0 := hC1.r.atN (i := 5) (v := .int .u64 (vf : Int)) rfl
                simp only [puts, act_put, act_put_none, List.setIfInBounds_toArray, List.set_cons_zero, List.set_cons_succ, f21] at hE ⊢
                clear f21
                go_wp2
                exact .mk (hE _ hC1)
              apply DetQ.next
              · -- 23: Op.move (Operand.tmp 13)
                apply detStepQ_of
                apply detStep_plain []
                exact fun _ => rfl
                rfl
                rintro vals ⟨⟨⟨⟨⟨⟨⟨⟨⟨⟨⟨⟨⟨⟨⟨⟨⟨⟨⟨⟨⟨⟨⟨-, -⟩, -⟩, -⟩, -⟩, -⟩, -⟩, -⟩, -⟩, -⟩, -⟩, -⟩, -⟩, -⟩, -⟩, -⟩, -⟩, -⟩, -⟩, -⟩, -⟩, -⟩, -⟩, -⟩ w1 hC1 E hE
                simp only [puts, act_put, act_put_none, List.setIfInBounds_toArray, List.set_cons_zero, List.set_cons_succ] at hE ⊢
                go_wp2
                exact .mk (hE _ hC1)
              apply DetQ.next
              · -- 24: Op.indexAddr 59 (Operand.tmp 197) (Operand.const (Value.int IntKind.i64 6))
                apply detStepQ_of
                apply detStep_plain [(23, some 197)]
                exact fun _ => rfl
                rfl
                rintro vals ⟨⟨⟨⟨⟨⟨⟨⟨⟨⟨⟨⟨⟨⟨⟨⟨⟨⟨⟨⟨⟨⟨⟨⟨-, -⟩, -⟩, -⟩, -⟩, -⟩, -⟩, -⟩, -⟩, -⟩, -⟩, -⟩, -⟩, -⟩, -⟩, -⟩, -⟩, -⟩, -⟩, -⟩, -⟩, -⟩, -⟩, -⟩, f23⟩ w1 hC1 E hE
                simp only [puts, act_put, act_put_none, List.setIfInBounds_toArray, List.set_cons_zero, List.set_cons_succ, f23] at hE ⊢
                clear f23
                go_wp2
                exact .mk (hE _ hC1)
              apply DetQ.next
              · -- 25: Op.load 75 (Operand.tmp 198)
                apply detStepQ_of
                apply detStep_plain [(24, some 198)]
                exact fun _ => rfl
                rfl
                rintro vals ⟨⟨⟨⟨⟨⟨⟨⟨⟨⟨⟨⟨⟨⟨⟨⟨⟨⟨⟨⟨⟨⟨⟨⟨⟨-, -⟩, -⟩, -⟩, -⟩, -⟩, -⟩, -⟩, -⟩, -⟩, -⟩, -⟩, -⟩, -⟩, -⟩, -⟩, -⟩, -⟩, -⟩, -⟩, -⟩, -⟩, -⟩, -⟩, -⟩, f24⟩ w1 hC1 E hE
                have d0 := hC1.r.atN (i := 6) (v := .int .u64 (vg : Int)) rfl
                simp only [puts, act_put, act_put_none, List.setIfInBounds_toArray, List.set_cons_zero, List.set_cons_succ, f24] at hE ⊢
                clear f24
                go_wp2
                exact .mk (hE _ hC1)
              apply DetQ.done
              rintro vals ⟨⟨⟨⟨⟨⟨⟨⟨⟨⟨⟨⟨⟨⟨⟨⟨⟨⟨⟨⟨⟨⟨⟨⟨⟨⟨-, f0⟩, f1⟩, f2⟩, f3⟩, f4⟩, f5⟩, f6⟩, f7⟩, f8⟩, f9⟩, f10⟩, f11⟩, f12⟩, f13⟩, f14⟩, f15⟩, f16⟩, f17⟩, f18⟩, f19⟩, f20⟩, f21⟩, f22⟩, f23⟩, f24⟩, f25⟩ w1 hC1
              -- 26: Op.buildSlice 59 8 #[(0, Operand.tmp 178), (1, Operand.tmp 179), (2, Operand.tmp 182), (3, Operand.tmp 185), (
              refine tail_step [(4, some 178), (5, some 179), (8, some 182), (11, some 185), (18, some 192), (19, some 193), (22, some 196), (25, some 199)] (fun _ => rfl) rfl ?_
              intro E hE
              simp only [puts, act_put, act_put_none, List.setIfInBounds_toArray, List.set_cons_zero, List.set_cons_succ, f4, f5, f8, f11, f18, f19, f22, f25] at hE ⊢
              go_wp2
              refine .mk (hE _ _ ?_)
              clear hE E
              generalize hval : upd _ 26 _ = vals26
              replace f0 := (congrFun hval 0).symm.trans ((upd_ne (by decide)).trans f0)
              replace f1 := (congrFun hval 1).symm.trans ((upd_ne (by decide)).trans f1)
              replace f2 := (congrFun hval 2).symm.trans ((upd_ne (by decide)).trans f2)
              replace f3 := (congrFun hval 3).symm.trans ((upd_ne (by decide)).trans f3)
              replace f4 := (congrFun hval 4).symm.trans ((upd_ne (by decide)).trans f4)
              replace f5 := (congrFun hval 5).symm.trans ((upd_ne (by decide)).trans f5)
              replace f6 := (congrFun hval 6).symm.trans ((upd_ne (by decide)).trans f6)
              replace f7 := (congrFun hval 7).symm.trans ((upd_ne (by decide)).trans f7)
              replace f8 := (congrFun hval 8).symm.trans ((upd_ne (by decide)).trans f8)
              replace f9 := (congrFun hval 9).symm.trans ((upd_ne (by decide)).trans f9)
              replace f10 := (congrFun hval 10).symm.trans ((upd_ne (by decide)).trans f10)
              replace f11 := (congrFun hval 11).symm.trans ((upd_ne (by decide)).trans f11)
              replace f12 := (congrFun hval 12).symm.trans ((upd_ne (by decide)).trans f12)
              replace f13 := (congrFun hval 13).symm.trans ((upd_ne (by decide)).trans f13)
              replace f14 := (congrFun hval 14).symm.trans ((upd_ne (by decide)).trans f14)
              replace f15 := (congrFun hval 15).symm.trans ((upd_ne (by decide)).trans f15)
              replace f16 := (congrFun hval 16).symm.trans ((upd_ne (by decide)).trans f16)
              replace f17 := (congrFun hval 17).symm.trans ((upd_ne (by decide)).trans f17)
              replace f18 := (congrFun hval 18).symm.trans ((upd_ne (by decide)).trans f18)
              replace f19 := (congrFun hval 19).symm.trans ((upd_ne (by decide)).trans f19)
              replace f20 := (congrFun hval 20).symm.trans ((upd_ne (by decide)).trans f20)
              replace f21 := (congrFun hval 21).symm.trans ((upd_ne (by decide)).trans f21)
              replace f22 := (congrFun hval 22).symm.trans ((upd_ne (by decide)).trans f22)
              replace f23 := (congrFun hval 23).symm.trans ((upd_ne (by decide)).trans f23)
              replace f24 := (congrFun hval 24).symm.trans ((upd_ne (by decide)).trans f24)
              replace f25 := (congrFun hval 25).symm.trans ((upd_ne (by decide)).trans f25)
              have f26 := (congrFun hval 26).symm.trans (upd_self _ _ _)
              clear hval
              -- 27: Op.assign (Operand.tmp 200)
              refine tail_step [(26, some 200), (18, some 192), (0, some 174), (1, some 175), (2, some 176), (3, some 177), (4, some 178), (5, some 179), (6, some 180), (7, some 181), (8, some 182), (9, some 183), (10, some 184), (11, some 185), (12, some 186), (13, some 187), (14, some 188), (15, some 189), (16, some 190), (17, some 191), (18, some 192), (19, some 193), (20, some 194), (21, some 195), (22, some 196), (23, some 197), (24, some 198), (25, some 199), (26, some 200)] (fun _ => rfl) rfl ?_
              intro E hE
              simp only [puts, act_put, act_put_none, List.setIfInBounds_toArray, List.set_cons_zero, List.set_cons_succ, f0, f1, f2, f3, f4, f5, f6, f7, f8, f9, f10, f11, f12, f13, f14, f15, f16, f17, f18, f19, f20, f21, f22, f23, f24, f25, f26] at hE ⊢
              go_wp2
              refine .mk (hE _ _ ?_)
              clear hE E
              generalize hval : upd _ 27 _ = vals27
              replace f0 := (congrFun hval 0).symm.trans ((upd_ne (by decide)).trans f0)
              replace f1 := (congrFun hval 1).symm.trans ((upd_ne (by decide)).trans f1)
              replace f2 := (congrFun hval 2).symm.trans ((upd_ne (by decide)).trans f2)
              replace f3 := (congrFun hval 3).symm.trans ((upd_ne (by decide)).trans f3)
              replace f4 := (congrFun hval 4).symm.trans ((upd_ne (by decide)).trans f4)
              replace f5 := (congrFun hval 5).symm.trans ((upd_ne (by decide)).trans f5)
              replace f6 := (congrFun hval 6).symm.trans ((upd_ne (by decide)).trans f6)
              replace f7 := (congrFun hval 7).symm.trans ((upd_ne (by decide)).trans f7)
              replace f8 := (congrFun hval 8).symm.trans ((upd_ne (by decide)).trans f8)
              replace f9 := (congrFun hval 9).symm.trans ((upd_ne (by decide)).trans f9)
              replace f10 := (congrFun hval 10).symm.trans ((upd_ne (by decide)).trans f10)
              replace f11 := (congrFun hval 11).symm.trans ((upd_ne (by decide)).trans f11)
              replace f12 := (congrFun hval 12).symm.trans ((upd_ne (by decide)).trans f12)
              replace f13 := (congrFun hval 13).symm.trans ((upd_ne (by decide)).trans f13)
              replace f14 := (congrFun hval 14).symm.trans ((upd_ne (by decide)).trans f14)
              replace f15 := (congrFun hval 15).symm.trans ((upd_ne (by decide)).trans f15)
              replace f16 := (congrFun hval 16).symm.trans ((upd_ne (by decide)).trans f16)
              replace f17 := (congrFun hval 17).symm.trans ((upd_ne (by decide)).trans f17)
              replace f18 := (congrFun hval 18).symm.trans ((upd_ne (by decide)).trans f18)
              replace f19 := (congrFun hval 19).symm.trans ((upd_ne (by decide)).trans f19)
              replace f20 := (congrFun hval 20).symm.trans ((upd_ne (by decide)).trans f20)
              replace f21 := (congrFun hval 21).symm.trans ((upd_ne (by decide)).trans f21)
              replace f22 := (congrFun hval 22).symm.trans ((upd_ne (by decide)).trans f22)
              replace f23 := (congrFun hval 23).symm.trans ((upd_ne (by decide)).trans f23)
              replace f24 := (congrFun hval 24).symm.trans ((upd_ne (by decide)).trans f24)
              replace f25 := (congrFun hval 25).symm.trans ((upd_ne (by decide)).trans f25)
              replace f26 := (congrFun hval 26).symm.trans ((upd_ne (by decide)).trans f26)
              have f27 := (congrFun hval 27).symm.trans (upd_self _ _ _)
              clear hval
              refine tail_end ?_
              simp only [puts, act_put, act_put_none, List.setIfInBounds_toArray, List.set_cons_zero, List.set_cons_succ, f0, f1, f2, f3, f4, f5, f6, f7, f8, f9, f10, f11, f12, f13, f14, f15, f16, f17, f18, f19, f20, f21, f22, f23, f24, f25, f26, f27]
              clear f0 f1 f2 f3 f4 f5 f6 f7 f8 f9 f10 f11 f12 f13 f14 f15 f16 f17 f18 f19 f20 f21 f22 f23 f24 f25 f26 f27
              clear HC0
              have hfin : BkR w gf F32 p (some bad) blk (some sad) S (.slice (some ⟨g, 0, none⟩) 64 c) RW w1.heap.size 8 (mixTo F32 RW S (t + 1)) _ := hC1.turn (V' := mixTo F32 RW S (t + 1)) (fz := (0, 0))
              rw [HM1.out] at hfin
              have HFIN := Lib.hid hfin
              clear hfin hC1
              go_wp2_with fail
              refine ⟨⟨t + 1, w1.heap.size, 8, by omega, by go_num, rfl, ?_⟩, by simp [intOf]; omega⟩
              rw [HM1.out]; exact HFIN.out
            · obtain rfl : t = 64 := by omega
              obtain ⟨R, hR⟩ : ∃ x, x = mixTo F32 RW S 64 := ⟨_, rfl⟩
              rw [← hR] at hsr
              have ho : BkO w gf F32 p (some bad) blk (some sad) S (.slice (some ⟨g, 0, none⟩) 64 c) RW g2 c2 R (.slice none 0 0) ((s8L (addS F32 S R)).take 0) wr := ⟨hsr, OwnX.nil _ _ _ _, .inl rfl⟩
              have HR := Lib.hid hR
              have HO := Lib.hid ho
              clear hR ho hsr HSR
              go_wp2_with fail
              obtain ⟨wo3, rfl⟩ : ∃ wo3 : World, wo3 = wr := ⟨_, rfl⟩
              go_loopw [20, 21] (fun v i wr => ∃ (k : Nat) (A5 : Option Addr) (c5 : Nat), k ≤ 8 ∧ i = .int .i64 k ∧ v = .slice A5 k c5 ∧ BkO w gf F32 p (some bad) blk (some sad) S (.slice (some ⟨g, 0, none⟩) 64 c) RW g2 c2 R (.slice A5 k c5) ((s8L (addS F32 S R)).take k) wr) (fun _ i _ => 8 - (intOf i).toNat)
              case atStart => exact ⟨0, none, 0, by omega, rfl, rfl, HO.out⟩
              case round =>
                obtain ⟨k, A5, c5, hk, rfl, rfl, hbo⟩ := hrel
                by_cases hk8 : k < 8
                · have hk8' : (k : Int) < 8 := by omega
                  obtain ⟨rj, hrj⟩ : ∃ x, x = (s8L R).getD k 0 := ⟨_, rfl⟩
                  obtain ⟨sj, hsj⟩ : ∃ x, x = (s8L S).getD k 0 := ⟨_, rfl⟩
                  obtain ⟨s1, hs1⟩ : ∃ x, x = (rj + sj) % 2 ^ 64 := ⟨_, rfl⟩
                  obtain ⟨aj, haj⟩ : ∃ x, x = s1 % 2 ^ 32 := ⟨_, rfl⟩
                  obtain ⟨XS, hXS⟩ : ∃ x, x = (s8L (addS F32 S R)).take k := ⟨_, rfl⟩
                  have hxl : XS.length = k := by rw [hXS]; exact s8_take_len _ _ hk
                  have hnx : (s8L (addS F32 S R)).take (k + 1) = XS ++ [aj] := by
                    rw [s8_take _ _ hk8, addS_get _ _ _ _ hk8, hXS, haj, hs1, hrj, hsj]
                    exact congrArg (fun z => (s8L (addS F32 S R)).take k ++ [z]) (mod_r32 _ _)
                  have ER : Hid ((wordsV .u64 (s8L R))[k]? = some (.int .u64 (rj : Int))) := Lib.hid (by rw [hrj]; exact wordsV_get _ _ _ (by show k < 8; exact hk8))
                  have ES : Hid ((wordsV .u64 (s8L S))[k]? = some (.int .u64 (sj : Int))) := Lib.hid (by rw [hsj]; exact wordsV_get _ _ _ (by show k < 8; exact hk8))
                  have LS1 : Hid (s1 < 18446744073709551616) := Lib.hid (by rw [hs1]; exact Nat.mod_lt _ (by decide))
                  rw [← hXS] at hbo
                  have HS1 := Lib.hid hs1
                  have HAJ := Lib.hid haj
                  have HXL := Lib.hid hxl
                  have HNX := Lib.hid hnx
                  have hu := Tryd.underlying61
                  have HC0 := hbo.drew
                  clear hrj hsj hs1 haj hXS hxl hnx hbo HO
                  go_wp2_with fail
                  refine wp_region_tailq (fun u => BkO w gf F32 p (some bad) blk (some sad) S (.slice (some ⟨g, 0, none⟩) 64 c) RW g2 c2 R (.slice A5 k c5) XS u) (fun i => i == 0) 12 [(0, some 205), (1, some 206), (2, some 207), (3, some 208), (4, some 209), (5, some 210), (6, some 211), (7, some 212), (8, some 213), (9, some 214), (10, some 215), (11, some 216), (12, some 217), (13, some 218), (14, some 20)] (by kernel_rfl) (by kernel_rfl) (by decide) (by kernel_rfl) (fun _ => rfl) HC0 ?_
                  apply DetQ.next
                  · -- 0: Op.move (Operand.tmp 20)
                    apply detStepQ_pure []
                    exact fun _ => rfl
                    rfl
                    rintro vals - w1 E hE
                    simp only [puts, act_put, act_put_none, List.setIfInBounds_toArray, List.set_cons_zero, List.set_cons_succ] at hE ⊢
                    go_wp2
                    exact .mk hE
                  apply DetQ.next
                  · -- 1: Op.load 61 (Operand.tmp 3)
                    apply detStepQ_of
                    apply detStep_plain []
                    exact fun _ => rfl
                    rfl
                    rintro vals ⟨-, -⟩ w1 hC1 E hE
                    simp only [puts, act_put, act_put_none, List.setIfInBounds_toArray, List.set_cons_zero, List.set_cons_succ] at hE ⊢
                    refine wpList_get_box hC1.r.w.st.h rfl rfl rfl hu rfl h_size ?_
                    go_wp2_with fail
                    exact .mk (hE _ hC1)
                  apply DetQ.next
                  · -- 2: Op.move (Operand.tmp 13)
                    apply detStepQ_of
                    apply detStep_plain []
                    exact fun _ => rfl
                    rfl
                    rintro vals ⟨⟨-, -⟩, -⟩ w1 hC1 E hE
                    simp only [puts, act_put, act_put_none, List.setIfInBounds_toArray, List.set_cons_zero, List.set_cons_succ] at hE ⊢
                    go_wp2
                    exact .mk (hE _ hC1)
                  apply DetQ.next
                  · -- 3: Op.move (Operand.tmp 21)
                    apply detStepQ_of
                    apply detStep_plain []
                    exact fun _ => rfl
                    rfl
                    rintro vals ⟨⟨⟨-, -⟩, -⟩, -⟩ w1 hC1 E hE
                    simp only [puts, act_put, act_put_none, List.setIfInBounds_toArray, List.set_cons_zero, List.set_cons_succ] at hE ⊢
                    go_wp2
                    exact .mk (hE _ hC1)
                  apply DetQ.next
                  · -- 4: Op.indexAddr 59 (Operand.tmp 207) (Operand.tmp 208)
                    apply detStepQ_of
                    apply detStep_plain [(2, some 207), (3, some 208)]
                    exact fun _ => rfl
                    rfl
                    rintro vals ⟨⟨⟨⟨-, -⟩, -⟩, f2⟩, f3⟩ w1 hC1 E hE
                    have hc8 := hC1.r.le
                    simp only [puts, act_put, act_put_none, List.setIfInBounds_toArray, List.set_cons_zero, List.set_cons_succ, f2, f3] at hE ⊢
                    clear f2 f3
                    go_wp2
                    exact .mk (hE _ hC1)
                  apply DetQ.next
                  · -- 5: Op.load 75 (Operand.tmp 209)
                    apply detStepQ_of
                    apply detStep_plain [(4, some 209)]
                    exact fun _ => rfl
                    rfl
                    rintro vals ⟨⟨⟨⟨⟨-, -⟩, -⟩, -⟩, -⟩, f4⟩ w1 hC1 E hE
                    have d0 := hC1.r.r.atN ER.out
                    simp only [puts, act_put, act_put_none, List.setIfInBounds_toArray, List.set_cons_zero, List.set_cons_succ, f4] at hE ⊢
                    clear f4
                    go_wp2
                    exact .mk (hE _ hC1)
                  apply DetQ.next
                  · -- 6: Op.move (Operand.tmp 1)
                    apply detStepQ_of
                    apply detStep_plain []
                    exact fun _ => rfl
                    rfl
                    rintro vals ⟨⟨⟨⟨⟨⟨-, -⟩, -⟩, -⟩, -⟩, -⟩, -⟩ w1 hC1 E hE
                    simp only [puts, act_put, act_put_none, List.setIfInBounds_toArray, List.set_cons_zero, List.set_cons_succ] at hE ⊢
                    go_wp2
                    exact .mk (hE _ hC1)
                  apply DetQ.next
                  · -- 7: Op.move (Operand.tmp 21)
                    apply detStepQ_of
                    apply detStep_plain []
                    exact fun _ => rfl
                    rfl
                    rintro vals ⟨⟨⟨⟨⟨⟨⟨-, -⟩, -⟩, -⟩, -⟩, -⟩, -⟩, -⟩ w1 hC1 E hE
                    simp only [puts, act_put, act_put_none, List.setIfInBounds_toArray, List.set_cons_zero, List.set_cons_succ] at hE ⊢
                    go_wp2
                    exact .mk (hE _ hC1)
                  apply DetQ.next
                  · -- 8: Op.indexAddr 59 (Operand.tmp 211) (Operand.tmp 212)
                    apply detStepQ_of
                    apply detStep_plain [(6, some 211), (7, some 212)]
                    exact fun _ => rfl
                    rfl
                    rintro vals ⟨⟨⟨⟨⟨⟨⟨⟨-, -⟩, -⟩, -⟩, -⟩, -⟩, -⟩, f6⟩, f7⟩ w1 hC1 E hE
                    simp only [puts, act_put, act_put_none, List.setIfInBounds_toArray, List.set_cons_zero, List.set_cons_succ, f6, f7] at hE ⊢
                    clear f6 f7
                    go_wp2
                    exact .mk (hE _ hC1)
                  apply DetQ.next
                  · -- 9: Op.load 75 (Operand.tmp 213)
                    apply detStepQ_of
                    apply detStep_plain [(8, some 213)]
                    exact fun _ => rfl
                    rfl
                    rintro vals ⟨⟨⟨⟨⟨⟨⟨⟨⟨-, -⟩, -⟩, -⟩, -⟩, -⟩, -⟩, -⟩, -⟩, f8⟩ w1 hC1 E hE
                    have d0 := hC1.r.w.st.rs.val ES.out
                    simp only [puts, act_put, act_put_none, List.setIfInBounds_toArray, List.set_cons_zero, List.set_cons_succ, f8] at hE ⊢
                    clear f8
                    go_wp2
                    exact .mk (hE _ hC1)
                  apply DetQ.next
                  · -- 10: Op.binOp BinOp.add 75 (Operand.tmp 210) (Operand.tmp 214) 75
                    apply detStepQ_of
                    apply detStep_plain [(5, some 210), (9, some 214)]
                    exact fun _ => rfl
                    rfl
                    rintro vals ⟨⟨⟨⟨⟨⟨⟨⟨⟨⟨-, -⟩, -⟩, -⟩, -⟩, -⟩, f5⟩, -⟩, -⟩, -⟩, f9⟩ w1 hC1 E hE
                    simp only [puts, act_put, act_put_none, List.setIfInBounds_toArray, List.set_cons_zero, List.set_cons_succ, f5, f9] at hE ⊢
                    clear f5 f9
                    go_wp2
                    rw [add2_64 rj sj, ← HS1.out]
                    exact .mk (hE _ hC1)
                  apply DetQ.next
                  · -- 11: Op.call { callee := Callee.value (Operand.func 60), args := #[Operand.tmp 206, Operand.tmp 215], argTypes := #
                    apply detStepQ_of
                    apply detStep_plain [(1, some 206), (10, some 215)]
                    exact fun _ => rfl
                    rfl
                    rintro vals ⟨⟨⟨⟨⟨⟨⟨⟨⟨⟨⟨-, -⟩, f1⟩, -⟩, -⟩, -⟩, -⟩, -⟩, -⟩, -⟩, -⟩, f10⟩ w1 hC1 E hE
                    simp only [puts, act_put, act_put_none, List.setIfInBounds_toArray, List.set_cons_zero, List.set_cons_succ, f1, f10] at hE ⊢
                    clear f1 f10
                    go_wp2_with fail
                    refine calls_then (low_any 32 64 _ _ _ _ _ _ _ (.inl rfl) s1 LS1.out) ?_
                    rintro e w2 ⟨rfl, hb2⟩
                    rw [← HAJ.out]
                    go_wp2_with fail
                    exact .mk (hE _ (hC1.next hb2))
                  apply DetQ.done
                  rintro vals ⟨⟨⟨⟨⟨⟨⟨⟨⟨⟨⟨⟨-, f0⟩, f1⟩, f2⟩, f3⟩, f4⟩, f5⟩, f6⟩, f7⟩, f8⟩, f9⟩, f10⟩, f11⟩ w1 hC1
                  -- 12: Op.buildSlice 59 1 #[(0, Operand.tmp 216)]
                  refine tail_step [(11, some 216)] (fun _ => rfl) rfl ?_
                  intro E hE
                  simp only [puts, act_put, act_put_none, List.setIfInBounds_toArray, List.set_cons_zero, List.set_cons_succ, f11] at hE ⊢
                  go_wp2
                  refine .mk (hE _ _ ?_)
                  clear hE E
                  generalize hval : upd _ 12 _ = vals12
                  replace f0 := (congrFun hval 0).symm.trans ((upd_ne (by decide)).trans f0)
                  replace f1 := (congrFun hval 1).symm.trans ((upd_ne (by decide)).trans f1)
                  replace f2 := (congrFun hval 2).symm.trans ((upd_ne (by decide)).trans f2)
                  replace f3 := (congrFun hval 3).symm.trans ((upd_ne (by decide)).trans f3)
                  replace f4 := (congrFun hval 4).symm.trans ((upd_ne (by decide)).trans f4)
                  replace f5 := (congrFun hval 5).symm.trans ((upd_ne (by decide)).trans f5)
                  replace f6 := (congrFun hval 6).symm.trans ((upd_ne (by decide)).trans f6)
                  replace f7 := (congrFun hval 7).symm.trans ((upd_ne (by decide)).trans f7)
                  replace f8 := (congrFun hval 8).symm.trans ((upd_ne (by decide)).trans f8)
                  replace f9 := (congrFun hval 9).symm.trans ((upd_ne (by decide)).trans f9)
                  replace f10 := (congrFun hval 10).symm.trans ((upd_ne (by decide)).trans f10)
                  replace f11 := (congrFun hval 11).symm.trans ((upd_ne (by decide)).trans f11)
                  have f12 := (congrFun hval 12).symm.trans (upd_self _ _ _)
                  clear hval
                  -- 13: Op.call { callee := Callee.builtin Builtin.append, args := #[Operand.tmp 205, Operand.tmp 217], argTypes := #[
                  refine tail_step [(0, some 205), (12, some 217), (11, some 216)] (fun _ => rfl) rfl ?_
                  intro E hE
                  simp only [puts, act_put, act_put_none, List.setIfInBounds_toArray, List.set_cons_zero, List.set_cons_succ, f0, f11, f12] at hE ⊢
                  refine wpList_append_one sl_u64 rfl rfl (show OwnX w1 (gf + 1) 75 1 (.slice A5 k c5) k (wordsV .u64 XS) by have := hC1.o; rwa [HXL.out] at this) rfl rfl rfl rfl (by unfold maxLen; omega) (by omega) (by have := hC1.r.w.st.h.lt; omega) ?_
                  intro A6 c6 w6 hown6 hg6 hn6
                  have HOWN6 := Lib.hid hown6
                  have HG6 := Lib.hid hg6
                  have HN6 := Lib.hid hn6
                  clear hown6 hg6 hn6
                  go_wp2_with fail
                  refine .mk (hE _ _ ?_)
                  clear hE E
                  generalize hval : upd _ 13 _ = vals13
                  replace f0 := (congrFun hval 0).symm.trans ((upd_ne (by decide)).trans f0)
                  replace f1 := (congrFun hval 1).symm.trans ((upd_ne (by decide)).trans f1)
                  replace f2 := (congrFun hval 2).symm.trans ((upd_ne (by decide)).trans f2)
                  replace f3 := (congrFun hval 3).symm.trans ((upd_ne (by decide)).trans f3)
                  replace f4 := (congrFun hval 4).symm.trans ((upd_ne (by decide)).trans f4)
                  replace f5 := (congrFun hval 5).symm.trans ((upd_ne (by decide)).trans f5)
                  replace f6 := (congrFun hval 6).symm.trans ((upd_ne (by decide)).trans f6)
                  replace f7 := (congrFun hval 7).symm.trans ((upd_ne (by decide)).trans f7)
                  replace f8 := (congrFun hval 8).symm.trans ((upd_ne (by decide)).trans f8)
                  replace f9 := (congrFun hval 9).symm.trans ((upd_ne (by decide)).trans f9)
                  replace f10 := (congrFun hval 10).symm.trans ((upd_ne (by decide)).trans f10)
                  replace f11 := (congrFun hval 11).symm.trans ((upd_ne (by decide)).trans f11)
                  replace f12 := (congrFun hval 12).symm.trans ((upd_ne (by decide)).trans f12)
                  have f13 := (congrFun hval 13).symm.trans (upd_self _ _ _)
                  clear hval
                  -- 14: Op.assign (Operand.tmp 218)
                  refine tail_step [(13, some 218), (13, some 218), (0, some 205), (1, some 206), (2, some 207), (3, some 208), (4, some 209), (5, some 210), (6, some 211), (7, some 212), (8, some 213), (9, some 214), (10, some 215), (11, some 216), (12, some 217), (13, some 218)] (fun _ => rfl) rfl ?_
                  intro E hE
                  simp only [puts, act_put, act_put_none, List.setIfInBounds_toArray, List.set_cons_zero, List.set_cons_succ, f0, f1, f2, f3, f4, f5, f6, f7, f8, f9, f10, f11, f12, f13] at hE ⊢
                  go_wp2
                  refine .mk (hE _ _ ?_)
                  clear hE E
                  generalize hval : upd _ 14 _ = vals14
                  replace f0 := (congrFun hval 0).symm.trans ((upd_ne (by decide)).trans f0)
                  replace f1 := (congrFun hval 1).symm.trans ((upd_ne (by decide)).trans f1)
                  replace f2 := (congrFun hval 2).symm.trans ((upd_ne (by decide)).trans f2)
                  replace f3 := (congrFun hval 3).symm.trans ((upd_ne (by decide)).trans f3)
                  replace f4 := (congrFun hval 4).symm.trans ((upd_ne (by decide)).trans f4)
                  replace f5 := (congrFun hval 5).symm.trans ((upd_ne (by decide)).trans f5)
                  replace f6 := (congrFun hval 6).symm.trans ((upd_ne (by decide)).trans f6)
                  replace f7 := (congrFun hval 7).symm.trans ((upd_ne (by decide)).trans f7)
                  replace f8 := (congrFun hval 8).symm.trans ((upd_ne (by decide)).trans f8)
                  replace f9 := (congrFun hval 9).symm.trans ((upd_ne (by decide)).trans f9)
                  replace f10 := (congrFun hval 10).symm.trans ((upd_ne (by decide)).trans f10)
                  replace f11 := (congrFun hval 11).symm.trans ((upd_ne (by decide)).trans f11)
                  replace f12 := (congrFun hval 12).symm.trans ((upd_ne (by decide)).trans f12)
                  replace f13 := (congrFun hval 13).symm.trans ((upd_ne (by decide)).trans f13)
                  have f14 := (congrFun hval 14).symm.trans (upd_self _ _ _)
                  clear hval
                  refine tail_end ?_
                  simp only [puts, act_put, act_put_none, List.setIfInBounds_toArray, List.set_cons_zero, List.set_cons_succ, f0, f1, f2, f3, f4, f5, f6, f7, f8, f9, f10, f11, f12, f13, f14]
                  clear f0 f1 f2 f3 f4 f5 f6 f7 f8 f9 f10 f11 f12 f13 f14
                  clear HC0
                  have hbo2 := hC1.app (o' := .slice A6 (k + 1) c6) (y := aj) (by rw [HXL.out]; exact HOWN6.out) HG6.out HN6.out
                  rw [← HNX.out] at hbo2
                  have HBO2 := Lib.hid hbo2
                  clear hbo2 hC1
                  go_wp2_with fail
                  exact ⟨⟨k + 1, A6, c6, by omega, by go_num, rfl, HBO2.out⟩, by simp [intOf]; omega⟩
                · obtain rfl : k = 8 := by omega
                  have HBO := Lib.hid hbo
                  clear hbo HO
                  go_wp2_with fail
                  go_ret
                  refine ⟨A5, c5, rfl, ?_, by rw [← HGF.out]; exact HBO.out.r.w.st.bel⟩
                  have h := HBO.out.o
                  rw [s8_take_len _ _ (by omega)] at h
                  have hd : addS F32 S R = mixS F32 S blk := by rw [mixS, HR.out, HRW.out]; rfl
                  rw [← hd, ← HGF.out]
                  exact h.mono (by omega)
end Go.Proofs.YtlkikjeccamheaaDoor.Sh
/-
  Walk: the reference's Sum, words of 32 bits.
-/
namespace Go.Proofs.YtlkikjeccamheaaDoor.Sh
set_option linter.unusedSimpArgs false
set_option linter.unusedVariables false
open Go.RowKit
theorem zeroR32_ne (n k : Nat) (h : k < zeroR F32 n) : ((((n + 1 + k : Nat) : Int) + 8) % 64 != 0) = true := by
  simp only [zeroR, F32] at h
  rw [bne_iff_ne]
  omega
theorem zeroR32_eq (n : Nat) : ((((n + 1 + zeroR F32 n : Nat) : Int) + 8) % 64 != 0) = false := by
  have h : zeroR F32 n = (2 * 32 - (n + 1 + 32 / 4) % (2 * 32)) % (2 * 32) := rfl
  rw [bne_eq_false_iff_eq]
  omega
set_option maxRecDepth 100000 in
set_option maxHeartbeats 4000000 in
theorem hsum32_any (p : HP) (data : List UInt8) (A : Option Addr) (c B : Nat) (w : World) (hok : HOk F32 p w B) (hr : Rd w B A (bytesV data)) (hB : B ≤ w.heap.size) (hl : data.length ≤ 1000) (hc : data.length ≤ c) :
    Calls Tryd.prog 24 #[.agg (hv F32 p), .slice A data.length c] w (HSumPost F32 32 data w) := by
  have hu := Tryd.underlying61
  obtain ⟨gf, hgf⟩ : ∃ x, x = w.heap.size := ⟨_, rfl⟩
  have hst0 : HsA w gf F32 p A data (.slice none 0 0) [] (w.alloc (.cells (hv F32 p) 61)) := by
    have hb := below_new w (.cells (hv F32 p) 61)
    rw [hgf]
    exact ⟨⟨hb, Blk.new _ _ _, (hok.mono hB).below hb, (hr.mono hB).below hb⟩, OwnX.nil _ _ _ _⟩
  have d0 := hst0.st.h.cell 0
  simp [hv, hC, F32] at d0
  have HST0 := Lib.hid hst0
  have HGF := Lib.hid hgf
  have hl' : (data.length : Int) ≤ 1000 := by omega
  clear hst0 hok hr hB hgf
  go_enter Tryd.func24, Tryd.ntmps24
  have HOWN0 : Hid (OwnX (w.alloc (.cells (hv F32 p) 61)) (gf + 1) 5 1 (.slice none 0 0) 0 []) := Lib.hid HST0.out.own
  go_wp2_with (first
    | (refine wpList_append_rd (o := ⟨some 17, _, _, _, _, _⟩) sl_bytes rfl rfl HOWN0.out rfl rfl (by simp [bytesV]) HST0.out.st.rd (by intro u hu; simp [bytesV, byteV] at hu; obtain ⟨_, _, rfl⟩ := hu; rfl) (by unfold maxLen; omega) (by omega) (by have := HST0.out.st.h.lt; omega) ?_; intro A1 c1 w1 hown1 hg1 hn1; have HOWN1 : Hid (OwnX w1 (gf + 1) 5 1 (.slice A1 data.length c1) data.length (bytesV data)) := Lib.hid (by simpa using hown1); have H641 : Hid (gf + 1 ≤ w1.heap.size) := Lib.hid (by have := hg1.size; have := HGF.out; simp at *; omega); have HG1 := Lib.hid hg1; clear hown1 hg1 hn1)
    | (refine wpList_append_one (o := ⟨some 20, _, _, _, _, _⟩) sl_bytes rfl rfl HOWN1.out rfl rfl rfl rfl (by unfold maxLen; omega) (by omega) H641.out ?_; intro A2 c2 w2 hown2 hg2 hn2; have hs2 : HsA w gf F32 p A data (.slice A2 (data.length + 1) c2) (oneZ data 0) w2 := (HST0.out.app (ys := data) HG1.out HOWN1.out).app hg2 (by rw [oneZ_length, oneZ_zero, bytesV_snoc]; exact hown2); have d2 := hs2.st.h.cell 0; simp [hv, hC, F32] at d2; rw [HGF.out] at d2; have HST2 := Lib.hid hs2; clear hs2 hown2 hg2 hn2))
  rw [show w.heap.size = gf from HGF.out.symm] at d2 ⊢
  have hzl : zeroR F32 data.length < 64 := Nat.mod_lt _ (by decide)
  clear HST0 HOWN0 HG1 HOWN1 H641 d0 d2
  go_loopw [5] (fun v wr => ∃ (k n : Nat) (A3 : Option Addr) (c3 : Nat), k ≤ zeroR F32 data.length ∧ n = data.length + 1 + k ∧ v = .slice A3 n c3 ∧ HsA w gf F32 p A data (.slice A3 n c3) (oneZ data k) wr) (fun v _ => data.length + 1 + zeroR F32 data.length - lenOf v)
  case atStart => exact ⟨0, data.length + 1, A2, c2, Nat.zero_le _, rfl, rfl, HST2.out⟩
  case round =>
    clear HST2
    obtain ⟨k, n, A3, c3, hk, hn, rfl, hst⟩ := hrel
    have hn2 : n ≤ 2000 := by omega
    have d0 := hst.st.h.cell 0
    simp [hv, hC, F32] at d0
    by_cases hlt : k < zeroR F32 data.length
    · have hne : ((((n : Nat) : Int) + 8) % 64 != 0) = true := by rw [hn]; exact zeroR32_ne _ _ hlt
      have HO : Hid (OwnX wr (gf + 1) 5 1 (.slice A3 n c3) n (bytesV (oneZ data k))) := Lib.hid (by have := hst.own; rwa [oneZ_length, ← hn] at this)
      have HN := Lib.hid hn
      have HST := Lib.hid hst
      clear hn hst
      go_wp2_with (refine wpList_append_one (o := ⟨some 35, _, _, _, _, _⟩) sl_bytes rfl rfl HO.out rfl rfl rfl rfl (by unfold maxLen; omega) (by omega) (by have := HST.out.st.h.lt; omega) ?_; intro A4 c4 w4 hown4 hg4 hn4; have HOWN4 := Lib.hid hown4; have HG4 := Lib.hid hg4; clear hown4 hg4 hn4)
      exact ⟨⟨k + 1, n + 1, A4, c4, hlt, by rw [HN.out]; omega, rfl, HST.out.app HG4.out (by rw [oneZ_length, oneZ_succ, bytesV_snoc, ← Nat.add_assoc, ← HN.out]; exact HOWN4.out)⟩, by simp only [lenOf]; have := HN.out; omega⟩
    · obtain rfl : k = zeroR F32 data.length := by omega
      have hne : ((((n : Nat) : Int) + 8) % 64 != 0) = false := by rw [hn]; exact zeroR32_eq _
      have HN := Lib.hid hn
      have HST := Lib.hid hst
      clear hn hst
      go_wp2_with fail
      clear hne
      obtain ⟨W1, rfl⟩ : ∃ x : World, x = wr := ⟨_, rfl⟩
      obtain ⟨gl0, hgl0⟩ : ∃ x, x = W1.heap.size := ⟨_, rfl⟩
      have HGL := Lib.hid hgl0
      clear hgl0
      go_loopw [8, 9] (fun v i wr => ∃ (k : Nat) (A4 : Option Addr) (c4 : Nat), k ≤ 8 ∧ i = .int .i64 k ∧ v = .slice A4 k c4 ∧ Below gl0 W1 wr ∧ wr.ownsRow gl0 5 1 (.slice A4 k c4) k (bytesV (List.replicate k 0)) ∧ gl0 ≤ wr.heap.size) (fun _ i _ => 8 - (intOf i).toNat)
      case atStart => exact ⟨0, none, 0, by omega, rfl, rfl, Below.refl _ _, World.ownsRow_nil _ _ _ _, by rw [HGL.out]; exact Nat.le_refl _⟩
      case round =>
        obtain ⟨k, A4, c4, hk, rfl, rfl, hb4, ho4, hl4⟩ := hrel
        by_cases hk8 : k < 8
        · have hk8' : (k : Int) < 8 := by omega
          have HB4 := Lib.hid hb4
          have HO4 := Lib.hid ho4
          clear hb4 ho4
          go_wp2_with (refine wpList_append_own1 sl_bytes rfl rfl HO4.out rfl rfl rfl rfl (by unfold maxLen; omega) (by omega) hl4 ?_; intro A5 c5 w5 hown5 hg5; have HOWN5 := Lib.hid hown5; have HG5 := Lib.hid hg5; clear hown5 hg5)
          refine ⟨⟨k + 1, A5, c5, hk8, by go_num, rfl, HB4.out.grown HG5.out hl4 (fun k hk => (own_lt HO4.out k hk).1), ?_, by have := HG5.out.size; omega⟩, by simp [intOf]; omega⟩
          rw [List.replicate_succ', bytesV_snoc]
          exact HOWN5.out
        · obtain rfl : k = 8 := by omega
          obtain ⟨gl, R, rfl, hgl, hcl, hbk⟩ := own_blk ho4 (by decide)
          obtain ⟨ws, hws⟩ : ∃ ws, ws = lenB F32 data.length := ⟨_, rfl⟩
          have hwl : ws.length = 8 := by rw [hws, lenB, List.length_append, List.length_replicate, be8_length]; rfl
          have hbk0 : Blk wr gl 5 (backC 8 ws 0 ++ R) := by
            rw [backC_zero _ _ hwl]
            have e : bytesV (List.replicate 8 (0 : UInt8)) = List.replicate 8 (.int .u8 0) := by simp [bytesV, byteV]
            rw [e] at hbk
            exact hbk
          have hget : ∀ i j, i + j + 1 = 8 → (bytesV ws)[i]? = some (.int .u8 ((data.length * 8 / 256 ^ j % 256 : Nat) : Int)) := fun i j h => by rw [hws]; exact lenB32_get _ _ _ h
          have HWS := Lib.hid hws
          have HWL := Lib.hid hwl
          have HB4 := Lib.hid hb4
          have HBK0 := Lib.hid hbk0
          have HGET := Lib.hid hget
          clear hws hwl hb4 hbk hbk0 hget ho4
          go_wp2_with fail
          obtain ⟨wo2, rfl⟩ : ∃ x : World, x = wr := ⟨_, rfl⟩
          go_loopw [7, 10] (fun v i wr => ∃ (j y : Nat), j ≤ 8 ∧ y = data.length * 8 / 256 ^ j ∧ v = .int .i64 y ∧ i = .int .i64 ((8 : Int) - 1 - (j : Int)) ∧ Below gl0 W1 wr ∧ Blk wr gl 5 (backC 8 ws j ++ R)) (fun _ i _ => (intOf i + 1).toNat)
          case atStart => exact ⟨0, data.length * 8, by omega, by simp, by exact congrArg (Value.int .i64) (by omega), rfl, HB4.out, HBK0.out⟩
          case round =>
            clear HBK0
            obtain ⟨j, y, hj, hy, rfl, rfl, hb5, hk5⟩ := hrel
            have hyx : y ≤ data.length * 8 := by rw [hy]; exact Nat.div_le_self _ _
            have hy64 : (y : Int) ≤ 8000 := by omega
            by_cases hlt2 : j < 8
            · obtain ⟨ix, hix⟩ : ∃ ix : Nat, (8 : Int) - 1 - (j : Int) = (ix : Int) := ⟨8 - 1 - j, by omega⟩
              have hix2 : ix + j + 1 = 8 := by omega
              have hval := HGET.out ix j hix2
              rw [← hy] at hval
              have hset := backC_set_app 8 ws j ix _ R HWL.out hix2 hval
              obtain ⟨ov, hov⟩ := backC_app_get 8 ws j ix R HWL.out hix2
              have hnx : data.length * 8 / 256 ^ (j + 1) = y / 256 := by rw [hy, Nat.pow_succ, ← Nat.div_div_eq_div_mul]
              rw [hix]
              have dcell := hk5.cell ix
              rw [hov] at dcell
              have dfree := hk5.free ix
              have hixl : (ix : Int) < 8 := by omega
              have HSET := Lib.hid hset
              have HNX := Lib.hid hnx
              have HB5 := Lib.hid hb5
              have HK5 := Lib.hid hk5
              have HIX := Lib.hid hix
              clear hset hnx hb5 hk5 hix hix2 hval hy hov
              go_wp2_with fail
              refine ⟨⟨j + 1, y / 256, by omega, by rw [HNX.out], by go_num, by have := HIX.out; exact congrArg (Value.int .i64) (by omega), (wrote_setCell_at _ _ _ _).below HB5.out hgl (by have := HB5.out.size; rw [HGL.out]; omega), ?_⟩, by simp [intOf]⟩
              have h := blk_setCell_at (i := ix) HK5.out (.int .u8 ((y % 256 : Nat) : Int))
              rw [HSET.out] at h
              exact h
            · obtain rfl : j = 8 := by omega
              rw [backC_end] at hk5
              have hall : HsA w gf F32 p A data (.slice A3 n c3) (oneZ data (zeroR F32 data.length)) wr := HST.out.next (by rw [← HGL.out]; exact hb5)
              have HO5 : Hid (OwnX wr (gf + 1) 5 1 (.slice A3 n c3) n (bytesV (oneZ data (zeroR F32 data.length)))) := Lib.hid (by have := hall.own; rwa [oneZ_length, ← HN.out] at this)
              have hrl : Rd wr wr.heap.size (some ⟨gl, 0, none⟩) (bytesV ws) := Rd.of_blk_app hk5 hk5.lt
              have HRL := Lib.hid hrl
              have HALL0 := Lib.hid hall
              clear hrl hall hk5 hb5 hy HST
              go_wp2_with (first
                | (refine wpList_append_rd (o := ⟨some 63, _, _, _, _, _⟩) (m := 8) sl_bytes rfl rfl HO5.out rfl rfl (by rw [bytesV_length, HWL.out]) HRL.out (by intro u hu; simp [bytesV, byteV] at hu; obtain ⟨_, _, rfl⟩ := hu; rfl) (by unfold maxLen; omega) (by omega) (by have := HALL0.out.st.h.lt; omega) ?_; intro A5 c5 w5 hown5 hg5 hn5; have hall5 : HsA w gf F32 p A data (.slice A5 (n + 8) c5) (oneZ data (zeroR F32 data.length) ++ ws) w5 := HALL0.out.app hg5 (by rw [List.length_append, oneZ_length, HWL.out, ← HN.out, bytesV_append]; exact hown5); have d7 := hall5.st.h.cell 7; simp [hv, hC, F32] at d7; have HALL5 := Lib.hid hall5; clear hall5 hown5 hg5 hn5)
                | (refine wpList_append_rd (o := ⟨some 67, _, _, _, _, _⟩) (base := gf + 1) (n := 0) (m := 8) (v := .slice none 0 0) (xs := []) sl_u64 rfl rfl (OwnX.nil _ _ _ _) rfl rfl rfl HALL5.out.st.ok.f (by intro u hu; simp [wordsV] at hu; obtain ⟨_, _, rfl⟩ := hu; rfl) (by unfold maxLen; omega) (by omega) (by have := HALL5.out.st.h.lt; omega) ?_; intro A6 c6 w6 hown6 hg6 hn6; have HOWN6 := Lib.hid hown6; have HG6 := Lib.hid hg6; clear hown6 hg6 hn6))
              obtain ⟨ALL, hALL⟩ : ∃ x, x = padS F32 data := ⟨_, rfl⟩
              obtain ⟨m, hm⟩ : ∃ x, x = n + 8 := ⟨_, rfl⟩
              rw [← hm]
              have hall : ALL = oneZ data (zeroR F32 data.length) ++ ws := by rw [hALL, HWS.out]; exact (padR32 data hl).symm
              have hal : ALL.length = m := by rw [hall, List.length_append, oneZ_length, HWL.out, ← HN.out, hm]
              have hm4 : m ≤ 4000 := by omega
              have hsb : HsB w gf F32 p A data (.slice A5 m c5) ALL A6 c6 (runS F32 ALL 0) w6 := by
                have h5 := HALL5.out
                rw [← hm, ← hall] at h5
                have hg6 := HG6.out
                refine ⟨⟨h5.st.keep (below_of_grown hg6 (by have := h5.st.h.lt; omega) (by intro k hk; simp [Value.ownBlock] at hk)), h5.own.kept hg6 ?_⟩, ?_⟩
                · cases h9 : (Value.slice A5 m c5).ownBlock with
                  | none => exact .inl rfl
                  | some k => exact .inr (by simp [Value.ownBlock])
                · show OwnX w6 (gf + 1) 75 1 (.slice A6 8 c6) 8 (wordsV .u64 (s8L (startS F32)))
                  simpa using HOWN6.out
              obtain ⟨nb, hnb⟩ : ∃ nb, m = nb * 64 := ⟨m / 64, by have := pad32_blocks data; rw [← hALL, hal] at this; omega⟩
              have hcap : m ≤ c5 ∧ c5 ≤ 9223372036854775807 := own_cap (show OwnX w6 (gf + 1) 5 1 (.slice A5 m c5) m (bytesV ALL) by have := hsb.a.own; rwa [hal] at this)
              obtain ⟨hcap1, hcap2⟩ := hcap
              have HALL := Lib.hid hALL
              have HAL := Lib.hid hal
              have HSB := Lib.hid hsb
              have HNB := Lib.hid hnb
              clear hALL hm hall hal hsb hnb HALL5 HOWN6 HG6 HALL0 HO5 HRL d7 d0
              go_loopw [11, 12] (fun v i wr => ∃ (j a : Nat) (A7 : Option Addr) (c7 : Nat), j ≤ nb ∧ a = j * 64 ∧ i = .int .i64 (a : Int) ∧ v = .slice A7 8 c7 ∧ HsB w gf F32 p A data (.slice A5 m c5) ALL A7 c7 (runS F32 ALL j) wr) (fun _ i _ => m - (intOf i).toNat)
              case atStart => exact ⟨0, 0, A6, c6, by omega, rfl, rfl, rfl, HSB.out⟩
              case round =>
                clear HSB
                obtain ⟨j, a, A7, c7, hj, ha, rfl, rfl, hsj⟩ := hrel
                by_cases hjn : j < nb
                · have ham : a + 64 ≤ m := by rw [HNB.out, ha]; omega
                  have hlt3 : a < m := by omega
                  have hle1 : a + 64 ≤ c5 := by omega
                  have hla : OwnX wr (gf + 1) 5 1 (.slice A5 m c5) m (bytesV ALL) := by have := hsj.a.own; rwa [HAL.out] at this
                  obtain ⟨g5, hg5, _, _⟩ := hla.ptr (by omega)
                  subst hg5
                  obtain ⟨bk, hbk⟩ : ∃ x, x = (ALL.drop a).take 64 := ⟨_, rfl⟩
                  have hbl : bk.length = 64 := by rw [hbk]; simp; rw [HAL.out]; omega
                  obtain ⟨sj, hsj2⟩ : ∃ x, x = runS F32 ALL j := ⟨_, rfl⟩
                  have hsl : sj.Lt (2 ^ 32) := by rw [hsj2]; exact runS_lt F32 ALL j
                  have hs1 : runS F32 ALL (j + 1) = mixS F32 sj bk := by rw [hsj2, hbk, ha]; rfl
                  rw [← hsj2] at hsj
                  have HRB : Hid (∀ u, HsB w gf F32 p A data (.slice (some ⟨g5, 0, none⟩) m c5) ALL A7 c7 sj u → Rd u u.heap.size (some ⟨g5, a, none⟩) (bytesV bk)) := Lib.hid fun u hu => by
                    have h1 : OwnX u (gf + 1) 5 1 (.slice (some ⟨g5, 0, none⟩) m c5) m (bytesV ALL) := by have := hu.a.own; rwa [HAL.out] at this
                    have h2 := rd_take (rd_drop (Rd.of_own h1 (Nat.le_refl _)) a) 64
                    rw [Addr.add_lit, Nat.zero_add] at h2
                    rw [hbk, bytesV, List.map_take, List.map_drop]
                    exact h2
                  have HBL := Lib.hid hbl
                  have HSL := Lib.hid hsl
                  have HS1 := Lib.hid hs1
                  have HA := Lib.hid ha
                  have d0 := hsj.a.st.h.cell 0
                  simp [hv, hC, F32] at d0
                  have HC0 := hsj.drew
                  have D0 := Lib.hid d0
                  have HSJ := Lib.hid hsj
                  clear hbl hsl hs1 hbk hsj2 ha hla hsj d0
                  go_wp2_with fail
                  clear HSJ
                  refine wp_region_tailq (fun u => HsB w gf F32 p A data (.slice (some ⟨g5, 0, none⟩) m c5) ALL A7 c7 sj u) (fun _ => false) 10 [(0, some 77), (1, some 78), (2, some 79), (3, some 80), (4, some 81), (5, some 82), (6, some 83), (7, some 84), (8, some 85), (9, some 86), (10, some 87), (11, some 11)] (by kernel_rfl) (by kernel_rfl) (by decide) (by kernel_rfl) (fun _ => rfl) HC0 ?_
                  apply DetQ.next
                  · -- 0: Op.load 61 (Operand.tmp 2)
                    apply detStepQ_of
                    apply detStep_plain []
                    exact fun _ => rfl
                    rfl
                    rintro vals - w1 hC1 E hE
                    simp only [puts, act_put, act_put_none, List.setIfInBounds_toArray, List.set_cons_zero, List.set_cons_succ] at hE ⊢
                    refine wpList_get_box hC1.a.st.h rfl rfl rfl hu rfl h_size ?_
                    go_wp2_with fail
                    exact .mk (hE _ hC1)
                  apply DetQ.next
                  · -- 1: Op.move (Operand.tmp 11)
                    apply detStepQ_of
                    apply detStep_plain []
                    exact fun _ => rfl
                    rfl
                    rintro vals ⟨-, -⟩ w1 hC1 E hE
                    simp only [puts, act_put, act_put_none, List.setIfInBounds_toArray, List.set_cons_zero, List.set_cons_succ] at hE ⊢
                    go_wp2
                    exact .mk (hE _ hC1)
                  apply DetQ.next
                  · -- 2: Op.move (Operand.tmp 5)
                    apply detStepQ_of
                    apply detStep_plain []
                    exact fun _ => rfl
                    rfl
                    rintro vals ⟨⟨-, -⟩, -⟩ w1 hC1 E hE
                    simp only [puts, act_put, act_put_none, List.setIfInBounds_toArray, List.set_cons_zero, List.set_cons_succ] at hE ⊢
                    go_wp2
                    exact .mk (hE _ hC1)
                  apply DetQ.next
                  · -- 3: Op.move (Operand.tmp 12)
                    apply detStepQ_of
                    apply detStep_plain []
                    exact fun _ => rfl
                    rfl
                    rintro vals ⟨⟨⟨-, -⟩, -⟩, -⟩ w1 hC1 E hE
                    simp only [puts, act_put, act_put_none, List.setIfInBounds_toArray, List.set_cons_zero, List.set_cons_succ] at hE ⊢
                    go_wp2
                    exact .mk (hE _ hC1)
                  apply DetQ.next
                  · -- 4: Op.move (Operand.tmp 12)
                    apply detStepQ_of
                    apply detStep_plain []
                    exact fun _ => rfl
                    rfl
                    rintro vals ⟨⟨⟨⟨-, -⟩, -⟩, -⟩, -⟩ w1 hC1 E hE
                    simp only [puts, act_put, act_put_none, List.setIfInBounds_toArray, List.set_cons_zero, List.set_cons_succ] at hE ⊢
                    go_wp2
                    exact .mk (hE _ hC1)
                  apply DetQ.next
                  · -- 5: Op.fieldAddr 61 (Operand.tmp 2) 0
                    apply detStepQ_of
                    apply detStep_plain []
                    exact fun _ => rfl
                    rfl
                    rintro vals ⟨⟨⟨⟨⟨-, -⟩, -⟩, -⟩, -⟩, -⟩ w1 hC1 E hE
                    simp only [puts, act_put, act_put_none, List.setIfInBounds_toArray, List.set_cons_zero, List.set_cons_succ] at hE ⊢
                    go_wp2
                    exact .mk (hE _ hC1)
                  apply DetQ.next
                  · -- 6: Op.load 3 (Operand.tmp 82)
                    apply detStepQ_of
                    apply detStep_plain [(5, some 82)]
                    exact fun _ => rfl
                    rfl
                    rintro vals ⟨⟨⟨⟨⟨⟨-, -⟩, -⟩, -⟩, -⟩, -⟩, f5⟩ w1 hC1 E hE
                    have d0 := hC1.a.st.h.cell 0
                    simp [hv, hC, F32] at d0
                    simp only [puts, act_put, act_put_none, List.setIfInBounds_toArray, List.set_cons_zero, List.set_cons_succ, f5] at hE ⊢
                    clear f5
                    go_wp2
                    exact .mk (hE _ hC1)
                  apply DetQ.next
                  · -- 7: Op.binOp BinOp.mul 3 (Operand.const (Value.int IntKind.i64 2)) (Operand.tmp 83) 3
                    apply detStepQ_of
                    apply detStep_plain [(6, some 83)]
                    exact fun _ => rfl
                    rfl
                    rintro vals ⟨⟨⟨⟨⟨⟨⟨-, -⟩, -⟩, -⟩, -⟩, -⟩, -⟩, f6⟩ w1 hC1 E hE
                    simp only [puts, act_put, act_put_none, List.setIfInBounds_toArray, List.set_cons_zero, List.set_cons_succ, f6] at hE ⊢
                    clear f6
                    go_wp2
                    exact .mk (hE _ hC1)
                  apply DetQ.next
                  · -- 8: Op.binOp BinOp.add 3 (Operand.tmp 81) (Operand.tmp 84) 3
                    apply detStepQ_of
                    apply detStep_plain [(4, some 81), (7, some 84)]
                    exact fun _ => rfl
                    rfl
                    rintro vals ⟨⟨⟨⟨⟨⟨⟨⟨-, -⟩, -⟩, -⟩, -⟩, f4⟩, -⟩, -⟩, f7⟩ w1 hC1 E hE
                    simp only [puts, act_put, act_put_none, List.setIfInBounds_toArray, List.set_cons_zero, List.set_cons_succ, f4, f7] at hE ⊢
                    clear f4 f7
                    go_wp2
                    exact .mk (hE _ hC1)
                  apply DetQ.next
                  · -- 9: Op.slice 22 (Operand.tmp 79) (some (Operand.tmp 80)) (some (Operand.tmp 85)) none
                    apply detStepQ_of
                    apply detStep_plain [(2, some 79), (3, some 80), (8, some 85)]
                    exact fun _ => rfl
                    rfl
                    rintro vals ⟨⟨⟨⟨⟨⟨⟨⟨⟨-, -⟩, -⟩, f2⟩, f3⟩, -⟩, -⟩, -⟩, -⟩, f8⟩ w1 hC1 E hE
                    simp only [puts, act_put, act_put_none, List.setIfInBounds_toArray, List.set_cons_zero, List.set_cons_succ, f2, f3, f8] at hE ⊢
                    clear f2 f3 f8
                    go_wp2
                    rw [show a + 64 - a = 64 by omega]
                    exact .mk (hE _ hC1)
                  apply DetQ.done
                  rintro vals ⟨⟨⟨⟨⟨⟨⟨⟨⟨⟨-, f0⟩, f1⟩, f2⟩, f3⟩, f4⟩, f5⟩, f6⟩, f7⟩, f8⟩, f9⟩ w1 hC1
                  -- 10: Op.call { callee := Callee.value (Operand.func 37), args := #[Operand.tmp 77, Operand.tmp 78, Operand.tmp 86],
                  refine tail_step [(0, some 77), (1, some 78), (9, some 86)] (fun _ => rfl) rfl ?_
                  intro E hE
                  simp only [puts, act_put, act_put_none, List.setIfInBounds_toArray, List.set_cons_zero, List.set_cons_succ, f0, f1, f9] at hE ⊢
                  go_wp2_with fail
                  have hmx := block32_any p sj bk (some ⟨g5, a, none⟩) A7 (c5 - a) c7 w1.heap.size w1 (hC1.a.st.ok.mono (by have := hC1.a.st.h.lt; omega)) (Nat.le_refl _) (HRB.out _ hC1) (Rd.of_own hC1.s (Nat.le_refl _)) HBL.out (by rw [HBL.out]; omega) hC1.s.le_cap HSL.out
                  rw [HBL.out] at hmx
                  refine calls_then hmx ?_
                  rintro e w2 ⟨A8, c8, rfl, hown8, hb8⟩
                  go_wp2_with fail
                  refine .mk (hE _ _ ?_)
                  clear hE E
                  generalize hval : upd _ 10 _ = vals10
                  replace f0 := (congrFun hval 0).symm.trans ((upd_ne (by decide)).trans f0)
                  replace f1 := (congrFun hval 1).symm.trans ((upd_ne (by decide)).trans f1)
                  replace f2 := (congrFun hval 2).symm.trans ((upd_ne (by decide)).trans f2)
                  replace f3 := (congrFun hval 3).symm.trans ((upd_ne (by decide)).trans f3)
                  replace f4 := (congrFun hval 4).symm.trans ((upd_ne (by decide)).trans f4)
                  replace f5 := (congrFun hval 5).symm.trans ((upd_ne (by decide)).trans f5)
                  replace f6 := (congrFun hval 6).symm.trans ((upd_ne (by decide)).trans f6)
                  replace f7 := (congrFun hval 7).symm.trans ((upd_ne (by decide)).trans f7)
                  replace f8 := (congrFun hval 8).symm.trans ((upd_ne (by decide)).trans f8)
                  replace f9 := (congrFun hval 9).symm.trans ((upd_ne (by decide)).trans f9)
                  have f10 := (congrFun hval 10).symm.trans (upd_self _ _ _)
                  clear hval
                  -- 11: Op.assign (Operand.tmp 87)
                  refine tail_step [(10, some 87), (10, some 87), (0, some 77), (1, some 78), (2, some 79), (3, some 80), (4, some 81), (5, some 82), (6, some 83), (7, some 84), (8, some 85), (9, some 86), (10, some 87)] (fun _ => rfl) rfl ?_
                  intro E hE
                  simp only [puts, act_put, act_put_none, List.setIfInBounds_toArray, List.set_cons_zero, List.set_cons_succ, f0, f1, f2, f3, f4, f5, f6, f7, f8, f9, f10] at hE ⊢
                  go_wp2
                  refine .mk (hE _ _ ?_)
                  clear hE E
                  generalize hval : upd _ 11 _ = vals11
                  replace f0 := (congrFun hval 0).symm.trans ((upd_ne (by decide)).trans f0)
                  replace f1 := (congrFun hval 1).symm.trans ((upd_ne (by decide)).trans f1)
                  replace f2 := (congrFun hval 2).symm.trans ((upd_ne (by decide)).trans f2)
                  replace f3 := (congrFun hval 3).symm.trans ((upd_ne (by decide)).trans f3)
                  replace f4 := (congrFun hval 4).symm.trans ((upd_ne (by decide)).trans f4)
                  replace f5 := (congrFun hval 5).symm.trans ((upd_ne (by decide)).trans f5)
                  replace f6 := (congrFun hval 6).symm.trans ((upd_ne (by decide)).trans f6)
                  replace f7 := (congrFun hval 7).symm.trans ((upd_ne (by decide)).trans f7)
                  replace f8 := (congrFun hval 8).symm.trans ((upd_ne (by decide)).trans f8)
                  replace f9 := (congrFun hval 9).symm.trans ((upd_ne (by decide)).trans f9)
                  replace f10 := (congrFun hval 10).symm.trans ((upd_ne (by decide)).trans f10)
                  have f11 := (congrFun hval 11).symm.trans (upd_self _ _ _)
                  clear hval
                  refine tail_end ?_
                  simp only [puts, act_put, act_put_none, List.setIfInBounds_toArray, List.set_cons_zero, List.set_cons_succ, f0, f1, f2, f3, f4, f5, f6, f7, f8, f9, f10, f11]
                  clear f0 f1 f2 f3 f4 f5 f6 f7 f8 f9 f10 f11
                  have hfin : HsB w gf F32 p A data (.slice (some ⟨g5, 0, none⟩) m c5) ALL A8 c8 (runS F32 ALL (j + 1)) w2 := by
                    rw [HS1.out]
                    exact ⟨hC1.a.next hb8, hown8.mono (by have := hC1.a.st.h.lt; omega)⟩
                  have d0 := hfin.a.st.h.cell 0
                  simp [hv, hC, F32] at d0
                  have HFIN := Lib.hid hfin
                  clear hfin hC1 HC0 hown8 hb8
                  go_wp2_with fail
                  exact ⟨⟨j + 1, a + 64, A8, c8, hjn, by rw [HA.out]; omega, by go_num, rfl, HFIN.out⟩, by simp [intOf]; omega⟩
                · obtain rfl : j = nb := by omega
                  have hge : ¬ a < m := by rw [HNB.out, ha]; omega
                  obtain ⟨sv, hsv⟩ : ∃ x, x = runS F32 ALL j := ⟨_, rfl⟩
                  have hsl : sv.Lt (2 ^ 32) := by rw [hsv]; exact runS_lt F32 ALL j
                  rw [← hsv] at hsj
                  obtain ⟨g7, rfl, _, _⟩ := hsj.s.ptr (by decide)
                  have hc7 := hsj.s.le_cap
                  have hso : HsB w gf F32 p A data (.slice none 0 0) (outW 32 4 sv 0) (some ⟨g7, 0, none⟩) c7 sv wr := ⟨⟨hsj.a.st, OwnX.nil _ _ _ _⟩, hsj.s⟩
                  have HSV := Lib.hid hsv
                  have HSL := Lib.hid hsl
                  have HSO := Lib.hid hso
                  have HA := Lib.hid ha
                  clear hsv hsl hso hsj ha
                  go_wp2_with fail
                  obtain ⟨wo5, rfl⟩ : ∃ x : World, x = wr := ⟨_, rfl⟩
                  go_loopw [13, 14] (fun v i wr => ∃ (k q : Nat) (A8 : Option Addr) (c8 : Nat), k ≤ 8 ∧ q = k * 4 ∧ i = .int .i64 k ∧ v = .slice A8 q c8 ∧ HsB w gf F32 p A data (.slice A8 q c8) (outW 32 4 sv k) (some ⟨g7, 0, none⟩) c7 sv wr) (fun _ i _ => 8 - (intOf i).toNat)
                  case atStart => exact ⟨0, 0, none, 0, by omega, by omega, rfl, rfl, HSO.out⟩
                  case round =>
                    clear HSO
                    obtain ⟨k, q, A8, c8, hk, hq, rfl, rfl, hso⟩ := hrel
                    by_cases hk8 : k < 8
                    · have hk8' : (k : Int) < 8 := by omega
                      obtain ⟨x, hx⟩ : ∃ x, x = (s8L sv).getD k 0 := ⟨_, rfl⟩
                      have hxl : x < 2 ^ 32 := by rw [hx]; exact s8L_lt HSL.out (by decide) k
                      have ex : (wordsV .u64 (s8L sv))[k]? = some (.int .u64 (x : Int)) := by rw [hx]; exact wordsV_get _ _ _ (show k < 8 from hk8)
                      have hol : (outW 32 4 sv k).length = q := by rw [outW_length _ _ _ _ hk, hq]
                      have hnx : outW 32 4 sv (k + 1) = outW 32 4 sv k ++ wordB 32 x 4 := by rw [outW_succ _ _ _ _ hk8, hx]
                      obtain ⟨XS, hXS⟩ : ∃ x, x = outW 32 4 sv k := ⟨_, rfl⟩
                      rw [← hXS] at hol hnx hso
                      have HXL := Lib.hid hxl
                      have EX := Lib.hid ex
                      have HOL := Lib.hid hol
                      have HNX := Lib.hid hnx
                      have HQ := Lib.hid hq
                      have hq9 : q ≤ 64 := by omega
                      have HC0 := hso.drew
                      clear hx hxl ex hol hnx hXS hq hso
                      go_wp2_with fail
                      refine wp_region_tail2 (fun u => HsB w gf F32 p A data (.slice A8 q c8) XS (some ⟨g7, 0, none⟩) c7 sv u) (fun i => i == 0) 6 7 [(0, some 92), (1, some 93), (2, some 94), (3, some 95), (4, some 96), (5, some 97), (6, some 98), (7, some 99), (8, some 13)] (by kernel_rfl) (by kernel_rfl) (by decide) (by kernel_rfl) (fun _ => rfl) HC0 (fun _ _ hb h => h.next hb) (by decide) ?_
                      apply DetR.next
                      · -- 0: Op.move (Operand.tmp 13)
                        apply detStepR_pure []
                        exact fun _ => rfl
                        rfl
                        rintro vals - w1 hC1 E hE
                        simp only [puts, act_put, act_put_none, List.setIfInBounds_toArray, List.set_cons_zero, List.set_cons_succ] at hE ⊢
                        go_wp2
                        exact .mk hE
                      apply DetR.next
                      · -- 1: Op.load 61 (Operand.tmp 2)
                        apply detStepR_of
                        apply detStep_plain []
                        exact fun _ => rfl
                        rfl
                        rintro vals ⟨-, -⟩ w1 hC1 E hE
                        simp only [puts, act_put, act_put_none, List.setIfInBounds_toArray, List.set_cons_zero, List.set_cons_succ] at hE ⊢
                        refine wpList_get_box hC1.a.st.h rfl rfl rfl hu rfl h_size ?_
                        go_wp2_with fail
                        exact .mk (hE _ hC1)
                      apply DetR.next
                      · -- 2: Op.move (Operand.tmp 11)
                        apply detStepR_of
                        apply detStep_plain []
                        exact fun _ => rfl
                        rfl
                        rintro vals ⟨⟨-, -⟩, -⟩ w1 hC1 E hE
                        simp only [puts, act_put, act_put_none, List.setIfInBounds_toArray, List.set_cons_zero, List.set_cons_succ] at hE ⊢
                        go_wp2
                        exact .mk (hE _ hC1)
                      apply DetR.next
                      · -- 3: Op.move (Operand.tmp 14)
                        apply detStepR_of
                        apply detStep_plain []
                        exact fun _ => rfl
                        rfl
                        rintro vals ⟨⟨⟨-, -⟩, -⟩, -⟩ w1 hC1 E hE
                        simp only [puts, act_put, act_put_none, List.setIfInBounds_toArray, List.set_cons_zero, List.set_cons_succ] at hE ⊢
                        go_wp2
                        exact .mk (hE _ hC1)
                      apply DetR.next
                      · -- 4: Op.indexAddr 59 (Operand.tmp 94) (Operand.tmp 95)
                        apply detStepR_of
                        apply detStep_plain [(2, some 94), (3, some 95)]
                        exact fun _ => rfl
                        rfl
                        rintro vals ⟨⟨⟨⟨-, -⟩, -⟩, f2⟩, f3⟩ w1 hC1 E hE
                        simp only [puts, act_put, act_put_none, List.setIfInBounds_toArray, List.set_cons_zero, List.set_cons_succ, f2, f3] at hE ⊢
                        clear f2 f3
                        go_wp2
                        exact .mk (hE _ hC1)
                      apply DetR.next
                      · -- 5: Op.load 75 (Operand.tmp 96)
                        apply detStepR_of
                        apply detStep_plain [(4, some 96)]
                        exact fun _ => rfl
                        rfl
                        rintro vals ⟨⟨⟨⟨⟨-, -⟩, -⟩, -⟩, -⟩, f4⟩ w1 hC1 E hE
                        have d0 := hC1.s.atN EX.out
                        simp only [puts, act_put, act_put_none, List.setIfInBounds_toArray, List.set_cons_zero, List.set_cons_succ, f4] at hE ⊢
                        clear f4
                        go_wp2
                        exact .mk (hE _ hC1)
                      apply DetR.done
                      rintro vals ⟨⟨⟨⟨⟨⟨-, f0⟩, f1⟩, f2⟩, f3⟩, f4⟩, f5⟩ w1 hC1
                      -- 6: Op.call { callee := Callee.value (Operand.func 38), args := #[Operand.tmp 93, Operand.tmp 97], argTypes := #[6
                      refine tail_step2 [(1, some 93), (5, some 97)] (fun _ => rfl) rfl ?_
                      intro E hE
                      simp only [puts, act_put, act_put_none, List.setIfInBounds_toArray, List.set_cons_zero, List.set_cons_succ, f1, f5] at hE ⊢
                      go_wp2_with fail
                      have hct := bytes_any 32 64 (.slice (some p.a) 3 p.ca) (.slice (some p.b) 3 p.cb) (.slice (some p.c) 3 p.cc) (.slice (some p.d) 3 p.cd) (.slice (some p.k) 64 p.ck) (.slice (some p.f) 8 p.cf) w1 (.inl rfl) x HXL.out
                      refine calls_then hct ?_
                      rintro e w2 ⟨g9, he9, hg9, hb9, hbel9⟩
                      have he9' : e = .returned (.slice (some ⟨g9, 0, none⟩) 4 4) := he9
                      clear he9
                      subst he9'
                      have hb9' : Blk w2 g9 5 (bytesV (wordB 32 x 4)).toArray := hb9
                      clear hb9
                      go_wp2_with fail
                      refine .mk (hE _ _ (fun _ => hbel9) ?_)
                      clear hE E
                      generalize hval : upd _ 6 _ = vals6
                      replace f0 := (congrFun hval 0).symm.trans ((upd_ne (by decide)).trans f0)
                      replace f1 := (congrFun hval 1).symm.trans ((upd_ne (by decide)).trans f1)
                      replace f2 := (congrFun hval 2).symm.trans ((upd_ne (by decide)).trans f2)
                      replace f3 := (congrFun hval 3).symm.trans ((upd_ne (by decide)).trans f3)
                      replace f4 := (congrFun hval 4).symm.trans ((upd_ne (by decide)).trans f4)
                      replace f5 := (congrFun hval 5).symm.trans ((upd_ne (by decide)).trans f5)
                      have f6 := (congrFun hval 6).symm.trans (upd_self _ _ _)
                      clear hval
                      -- 7: Op.call { callee := Callee.builtin Builtin.append, args := #[Operand.tmp 92, Operand.tmp 98], argTypes := #[22
                      refine tail_step2 [(0, some 92), (6, some 98), (6, some 98)] (fun _ => rfl) rfl ?_
                      intro E hE
                      simp only [puts, act_put, act_put_none, List.setIfInBounds_toArray, List.set_cons_zero, List.set_cons_succ, f0, f6] at hE ⊢
                      refine wpList_append_rd (m := 4) sl_bytes rfl rfl (show OwnX w2 (gf + 1) 5 1 (.slice A8 q c8) q (bytesV XS) by have := (hC1.next hbel9).a.own; rwa [HOL.out] at this) rfl rfl (by rw [bytesV_length, wordB_length]) (Rd.of_blk hb9' hb9'.lt) (by intro u hu; simp [bytesV, byteV] at hu; obtain ⟨_, _, rfl⟩ := hu; rfl) (by unfold maxLen; omega) (by omega) (by have := (hC1.next hbel9).a.st.h.lt; omega) ?_
                      intro A9 c9 w9 hown9 hg9' hn9
                      have hap := (hC1.next hbel9).app (ys := XS ++ wordB 32 x 4) hg9' (by rw [List.length_append, HOL.out, wordB_length, bytesV_append]; exact hown9)
                      have HAP := Lib.hid hap
                      clear hap hown9 hg9' hn9 hb9'
                      go_wp2_with fail
                      refine .mk (hE _ _ (fun h => absurd h (by decide)) ?_)
                      clear hE E
                      generalize hval : upd _ 7 _ = vals7
                      replace f0 := (congrFun hval 0).symm.trans ((upd_ne (by decide)).trans f0)
                      replace f1 := (congrFun hval 1).symm.trans ((upd_ne (by decide)).trans f1)
                      replace f2 := (congrFun hval 2).symm.trans ((upd_ne (by decide)).trans f2)
                      replace f3 := (congrFun hval 3).symm.trans ((upd_ne (by decide)).trans f3)
                      replace f4 := (congrFun hval 4).symm.trans ((upd_ne (by decide)).trans f4)
                      replace f5 := (congrFun hval 5).symm.trans ((upd_ne (by decide)).trans f5)
                      replace f6 := (congrFun hval 6).symm.trans ((upd_ne (by decide)).trans f6)
                      have f7 := (congrFun hval 7).symm.trans (upd_self _ _ _)
                      clear hval
                      -- 8: Op.assign (Operand.tmp 99)
                      refine tail_step2 [(7, some 99), (7, some 99), (0, some 92), (1, some 93), (2, some 94), (3, some 95), (4, some 96), (5, some 97), (6, some 98), (7, some 99)] (fun _ => rfl) rfl ?_
                      intro E hE
                      simp only [puts, act_put, act_put_none, List.setIfInBounds_toArray, List.set_cons_zero, List.set_cons_succ, f0, f1, f2, f3, f4, f5, f6, f7] at hE ⊢
                      go_wp2
                      refine .mk (hE _ _ (fun h => absurd h (by decide)) ?_)
                      clear hE E
                      generalize hval : upd _ 8 _ = vals8
                      replace f0 := (congrFun hval 0).symm.trans ((upd_ne (by decide)).trans f0)
                      replace f1 := (congrFun hval 1).symm.trans ((upd_ne (by decide)).trans f1)
                      replace f2 := (congrFun hval 2).symm.trans ((upd_ne (by decide)).trans f2)
                      replace f3 := (congrFun hval 3).symm.trans ((upd_ne (by decide)).trans f3)
                      replace f4 := (congrFun hval 4).symm.trans ((upd_ne (by decide)).trans f4)
                      replace f5 := (congrFun hval 5).symm.trans ((upd_ne (by decide)).trans f5)
                      replace f6 := (congrFun hval 6).symm.trans ((upd_ne (by decide)).trans f6)
                      replace f7 := (congrFun hval 7).symm.trans ((upd_ne (by decide)).trans f7)
                      have f8 := (congrFun hval 8).symm.trans (upd_self _ _ _)
                      clear hval
                      refine tail_end2 ?_
                      simp only [puts, act_put, act_put_none, List.setIfInBounds_toArray, List.set_cons_zero, List.set_cons_succ, f0, f1, f2, f3, f4, f5, f6, f7, f8]
                      clear f0 f1 f2 f3 f4 f5 f6 f7 f8
                      clear HC0 hC1 hbel9
                      go_wp2_with fail
                      refine ⟨⟨k + 1, q + 4, A9, c9, by omega, by rw [HQ.out]; omega, by go_num, rfl, ?_⟩, by simp [intOf]; omega⟩
                      rw [HNX.out]
                      exact HAP.out
                    · obtain rfl : k = 8 := by omega
                      obtain rfl : q = 8 * 4 := hq
                      have HSO := Lib.hid hso
                      clear hso
                      go_wp2_with fail
                      go_ret
                      refine ⟨A8, c8, rfl, ?_, by rw [← HGF.out]; exact HSO.out.a.st.bel⟩
                      have h := HSO.out.a.own
                      rw [outW_length _ _ _ _ (by omega)] at h
                      have hd : outW 32 4 sv 8 = digS F32 data := by
                        rw [HSV.out, digS, ← HALL.out, HAL.out, HNB.out]
                        show _ = (s8L (runS F32 ALL (j * 64 / 64))).flatMap _
                        rw [Nat.mul_div_cancel _ (by decide)]
                        rfl
                      rw [← hd, ← HGF.out]
                      exact h.mono (by omega)
end Go.Proofs.YtlkikjeccamheaaDoor.Sh
/-
  Plain: what the reference's Of of both kinds share.
-/
namespace Go.Proofs.YtlkikjeccamheaaDoor.Sh
set_option linter.unusedSimpArgs false
set_option linter.unusedVariables false
open Go.RowKit
theorem Blk.newAt {w : World} {n : Nat} {t : TypeId} {cs : Array Value} (h : w.heap.size = n) : Blk (w.alloc (.cells cs t)) n t cs := h ▸ Blk.new w t cs
def zH : Array Value := #[.int .i64 0, .int .i64 0, .slice none 0 0, .slice none 0 0, .slice none 0 0, .slice none 0 0, .slice none 0 0, .slice none 0 0]
theorem kL_take (F : ShaF) (n : Nat) (h : n < F.many) : (kL F).take (n + 1) = (kL F).take n ++ [stepsN.getD n 0 / 2 ^ (64 - F.bits) % 2 ^ F.bits] := by
  have hl : n < (kL F).length := by rw [kL_length]; exact h
  rw [List.take_succ_eq_append_getElem hl]
  have := kL_get F n h
  rw [List.getElem?_eq_getElem hl] at this
  rw [Option.some.inj this]
  rfl
theorem start_take (F : ShaF) (n : Nat) (h : n < 8) : (s8L (startS F)).take (n + 1) = (s8L (startS F)).take n ++ [firstN.getD n 0 / 2 ^ (64 - F.bits) % 2 ^ F.bits] := by
  rw [s8_take _ _ h, startS_at _ _ h]
def csV (bits many ga gb gc gd : Nat) (vK vF : Value) : Array Value := hC bits many (.slice (some ⟨ga, 0, none⟩) 3 3) (.slice (some ⟨gb, 0, none⟩) 3 3) (.slice (some ⟨gc, 0, none⟩) 3 3) (.slice (some ⟨gd, 0, none⟩) 3 3) vK vF
end Go.Proofs.YtlkikjeccamheaaDoor.Sh
/-
  Walk: the reference's Of, of 32 bits.
-/
namespace Go.Proofs.YtlkikjeccamheaaDoor.Sh
set_option linter.unusedSimpArgs false
set_option linter.unusedVariables false
open Go.RowKit
set_option maxRecDepth 100000 in
set_option maxHeartbeats 4000000 in
theorem of32_any (w : World) : Calls Tryd.prog 23 #[.int .i64 32] w (OfPost F32 w) := by
  have hu := Tryd.underlying61
  obtain ⟨g0, hg0⟩ : ∃ x, x = w.heap.size := ⟨_, rfl⟩
  go_enter Tryd.func23, Tryd.ntmps23
  go_wp2_with fail
  obtain ⟨gh, hgh⟩ : ∃ x, x = w.heap.size + 1 + 1 + 1 + 1 + 1 := ⟨_, rfl⟩
  obtain ⟨ga, hga⟩ : ∃ x, x = w.heap.size + 1 + 1 + 1 + 1 + 1 + 1 := ⟨_, rfl⟩
  obtain ⟨gb, hgb⟩ : ∃ x, x = w.heap.size + 1 + 1 + 1 + 1 + 1 + 1 + 1 := ⟨_, rfl⟩
  obtain ⟨gc, hgc⟩ : ∃ x, x = w.heap.size + 1 + 1 + 1 + 1 + 1 + 1 + 1 + 1 := ⟨_, rfl⟩
  obtain ⟨gd, hgd⟩ : ∃ x, x = w.heap.size + 1 + 1 + 1 + 1 + 1 + 1 + 1 + 1 + 1 := ⟨_, rfl⟩
  have hd : ga ≠ gh ∧ gb ≠ gh ∧ gc ≠ gh ∧ gd ≠ gh := by omega
  have hlt : g0 < gh ∧ g0 < ga ∧ g0 < gb ∧ g0 < gc ∧ g0 < gd := by omega
  refine calls_then (primes_any _) ?_
  rintro e wp ⟨P, pc, rfl, hown, hbel⟩
  have B0 := (((((((((((Blk.newAt (n := w.heap.size) (t := 61) (cs := zH) (by simp)).alloc _).alloc _).alloc _).alloc _).alloc _).alloc _).alloc _).alloc _).alloc _)).below hbel (by simp <;> omega)
  have Bh := ((((((Blk.newAt (n := w.heap.size + 1 + 1 + 1 + 1 + 1) (t := 61) (cs := #[.int .i64 32, .int .i64 64, .slice (some ⟨w.heap.size + 1 + 1 + 1 + 1 + 1 + 1, 0, none⟩) 3 3, .slice (some ⟨w.heap.size + 1 + 1 + 1 + 1 + 1 + 1 + 1, 0, none⟩) 3 3, .slice (some ⟨w.heap.size + 1 + 1 + 1 + 1 + 1 + 1 + 1 + 1, 0, none⟩) 3 3, .slice (some ⟨w.heap.size + 1 + 1 + 1 + 1 + 1 + 1 + 1 + 1 + 1, 0, none⟩) 3 3, .slice none 0 0, .slice none 0 0]) (by simp)).alloc _).alloc _).alloc _).alloc _)).below hbel (by simp <;> omega)
  have Ba := (((((Blk.newAt (n := w.heap.size + 1 + 1 + 1 + 1 + 1 + 1) (t := 3) (cs := (tri F32.s0).toArray) (by simp)).alloc _).alloc _).alloc _)).below hbel (by simp <;> omega)
  have Bb := ((((Blk.newAt (n := w.heap.size + 1 + 1 + 1 + 1 + 1 + 1 + 1) (t := 3) (cs := (tri F32.s1).toArray) (by simp)).alloc _).alloc _)).below hbel (by simp <;> omega)
  have Bc := (((Blk.newAt (n := w.heap.size + 1 + 1 + 1 + 1 + 1 + 1 + 1 + 1) (t := 3) (cs := (tri F32.t0).toArray) (by simp)).alloc _)).below hbel (by simp <;> omega)
  have Bd := ((Blk.newAt (n := w.heap.size + 1 + 1 + 1 + 1 + 1 + 1 + 1 + 1 + 1) (t := 3) (cs := (tri F32.t1).toArray) (by simp))).below hbel (by simp <;> omega)
  have hbl := (((((((((((below_new w _).alloc (by simp; try omega) _).alloc (by simp; try omega) _).alloc (by simp; try omega) _).alloc (by simp; try omega) _).alloc (by simp; try omega) _).alloc (by simp; try omega) _).alloc (by simp; try omega) _).alloc (by simp; try omega) _).alloc (by simp; try omega) _) : Below w.heap.size w _).trans (hbel.mono (by simp <;> omega))
  have hown' := hown.mono (show w.heap.size ≤ _ by simp <;> omega)
  rw [← hgd, ← hgc, ← hgb, ← hga, ← hgh] at Bh ⊢
  rw [← hg0] at B0 hbl hown' ⊢
  rw [← hga] at Ba
  rw [← hgb] at Bb
  rw [← hgc] at Bc
  rw [← hgd] at Bd
  obtain ⟨gp, rfl, hgp1, hgp2⟩ := hown'.ptr (by decide)
  have hpc := hown'.le_cap
  have hst0 : OfSt w ⟨g0, gh, ga, gb, gc, gd⟩ F32 zH (.slice (some ⟨gp, 0, none⟩) 80 pc) (csV 32 64 ga gb gc gd (.slice none 0 0) (.slice none 0 0)) (.slice none 0 0) ((kL F32).take 0) (.slice none 0 0) [] wp :=
    ⟨hbl, B0, Bh, Ba, Bb, Bc, Bd, hown', OwnX.nil _ _ _ _, OwnX.nil _ _ _ _, .inl rfl, hlt.1⟩
  have HD := Lib.hid hd
  have HLT := Lib.hid hlt
  have HG0 := Lib.hid hg0
  have HST0 := Lib.hid hst0
  clear B0 Bh Ba Bb Bc Bd hbl hown' hown hbel hd hlt hgp1 hgp2 hgh hga hgb hgc hgd hg0 hst0
  go_wp2_with fail
  go_loopw [5] (fun i wr => ∃ (n : Nat) (A : Option Addr) (c : Nat), n ≤ 64 ∧ i = .int .i64 n ∧ OfSt w ⟨g0, gh, ga, gb, gc, gd⟩ F32 zH (.slice (some ⟨gp, 0, none⟩) 80 pc) (csV 32 64 ga gb gc gd (.slice A n c) (.slice none 0 0)) (.slice A n c) ((kL F32).take n) (.slice none 0 0) [] wr) (fun i _ => 64 - (intOf i).toNat)
  case atStart => exact ⟨0, none, 0, by omega, rfl, HST0.out⟩
  case round =>
    clear HST0
    obtain ⟨n, A, c, hn, rfl, hst⟩ := hrel
    have d1 := hst.h.cell 1
    simp [csV, hC] at d1
    by_cases hnl : n < 64
    · have hnl' : (n : Int) < 64 := by omega
      obtain ⟨L, hL⟩ : ∃ L, L = (kL F32).take n := ⟨_, rfl⟩
      have hLl : L.length = n := by rw [hL, List.length_take, kL_length, show F32.many = 64 from rfl]; omega
      obtain ⟨pn, hpn⟩ : ∃ x, x = primes80.getD n 0 := ⟨_, rfl⟩
      have hpl : pn < 65536 := by rw [hpn]; exact prime_lt n (by omega)
      have hrt : rootN pn 3 = stepsN.getD n 0 := by rw [hpn]; exact rootN3 n (by omega)
      obtain ⟨rt, hrt2⟩ : ∃ x, x = rootN pn 3 := ⟨_, rfl⟩
      have hrl : rt < 18446744073709551616 := by rw [hrt2, rootN]; exact Nat.mod_lt _ (by decide)
      obtain ⟨kn, hkn⟩ : ∃ x, x = rt / 2 ^ (64 - 32) % 2 ^ 32 := ⟨_, rfl⟩
      have hnx : (kL F32).take (n + 1) = L ++ [kn] := by
        rw [hkn, hrt2, hrt, hL]
        exact kL_take F32 n hnl
      have ep : (wordsV .i64 primes80)[n]? = some (.int .i64 (pn : Int)) := by rw [hpn]; exact wordsV_at (show n < 80 by omega)
      rw [← hL] at hst
      have HL := Lib.hid hLl
      have HPL := Lib.hid hpl
      have HRT := Lib.hid hrt2
      have HRL := Lib.hid hrl
      have HKN := Lib.hid hkn
      have HNX := Lib.hid hnx
      have EP := Lib.hid ep
      have hn80 : n < 80 := by omega
      have HC0 := hst.drew
      have HST1 := Lib.hid hst
      clear hL hLl hpn hpl hrt hrt2 hrl hkn hnx ep hst
      go_wp2_with fail
      clear HST1 d1
      refine wp_region_tail2 (fun u => OfSt w ⟨g0, gh, ga, gb, gc, gd⟩ F32 zH (.slice (some ⟨gp, 0, none⟩) 80 pc) (csV 32 64 ga gb gc gd (.slice A n c) (.slice none 0 0)) (.slice A n c) L (.slice none 0 0) [] u) (fun i => i == 0 || i == 1) 9 10 [(0, some 26), (1, some 27), (2, some 28), (3, some 29), (4, some 30), (5, some 31), (6, some 32), (7, some 33), (8, some 34), (9, some 35), (10, some 36), (11, some 37), (12, none)] (by kernel_rfl) (by kernel_rfl) (by decide) (by kernel_rfl) (fun _ => rfl) HC0 (fun _ _ hb h => h.next hb) (by decide) ?_
      apply DetR.next
      · -- 0: Op.fieldAddr 61 (Operand.tmp 3) 6
        apply detStepR_pure []
        exact fun _ => rfl
        rfl
        rintro vals - w1 hC1 E hE
        simp only [puts, act_put, act_put_none, List.setIfInBounds_toArray, List.set_cons_zero, List.set_cons_succ] at hE ⊢
        go_wp2
        exact .mk hE
      apply DetR.next
      · -- 1: Op.load 59 (Operand.tmp 26)
        apply detStepR_pure [(0, some 26)]
        exact fun _ => rfl
        rfl
        rintro vals ⟨-, f0⟩ w1 hC1 E hE
        have d0 := hC1.h.cell 6
        simp [csV, hC] at d0
        simp only [puts, act_put, act_put_none, List.setIfInBounds_toArray, List.set_cons_zero, List.set_cons_succ, f0] at hE ⊢
        clear f0
        go_wp2
        exact .mk hE
      apply DetR.next
      · -- 2: Op.load 61 (Operand.tmp 3)
        apply detStepR_of
        apply detStep_plain []
        exact fun _ => rfl
        rfl
        rintro vals ⟨⟨-, -⟩, -⟩ w1 hC1 E hE
        simp only [puts, act_put, act_put_none, List.setIfInBounds_toArray, List.set_cons_zero, List.set_cons_succ] at hE ⊢
        refine wpList_get_box hC1.h rfl rfl rfl hu rfl h_size ?_
        go_wp2_with fail
        exact .mk (hE _ hC1)
      apply DetR.next
      · -- 3: Op.move (Operand.tmp 4)
        apply detStepR_of
        apply detStep_plain []
        exact fun _ => rfl
        rfl
        rintro vals ⟨⟨⟨-, -⟩, -⟩, -⟩ w1 hC1 E hE
        simp only [puts, act_put, act_put_none, List.setIfInBounds_toArray, List.set_cons_zero, List.set_cons_succ] at hE ⊢
        go_wp2
        exact .mk (hE _ hC1)
      apply DetR.next
      · -- 4: Op.move (Operand.tmp 5)
        apply detStepR_of
        apply detStep_plain []
        exact fun _ => rfl
        rfl
        rintro vals ⟨⟨⟨⟨-, -⟩, -⟩, -⟩, -⟩ w1 hC1 E hE
        simp only [puts, act_put, act_put_none, List.setIfInBounds_toArray, List.set_cons_zero, List.set_cons_succ] at hE ⊢
        go_wp2
        exact .mk (hE _ hC1)
      apply DetR.next
      · -- 5: Op.indexAddr 58 (Operand.tmp 29) (Operand.tmp 30)
        apply detStepR_of
        apply detStep_plain [(3, some 29), (4, some 30)]
        exact fun _ => rfl
        rfl
        rintro vals ⟨⟨⟨⟨⟨-, -⟩, -⟩, -⟩, f3⟩, f4⟩ w1 hC1 E hE
        simp only [puts, act_put, act_put_none, List.setIfInBounds_toArray, List.set_cons_zero, List.set_cons_succ, f3, f4] at hE ⊢
        clear f3 f4
        go_wp2
        exact .mk (hE _ hC1)
      apply DetR.next
      · -- 6: Op.load 3 (Operand.tmp 31)
        apply detStepR_of
        apply detStep_plain [(5, some 31)]
        exact fun _ => rfl
        rfl
        rintro vals ⟨⟨⟨⟨⟨⟨-, -⟩, -⟩, -⟩, -⟩, -⟩, f5⟩ w1 hC1 E hE
        have d0 := hC1.p.atN EP.out
        simp only [puts, act_put, act_put_none, List.setIfInBounds_toArray, List.set_cons_zero, List.set_cons_succ, f5] at hE ⊢
        clear f5
        go_wp2
        exact .mk (hE _ hC1)
      apply DetR.next
      · -- 7: Op.call { callee := Callee.value (Operand.func 36), args := #[Operand.tmp 32, Operand.const (Value.int IntKind
        apply detStepR_of
        apply detStep_plain [(6, some 32)]
        exact fun _ => rfl
        rfl
        rintro vals ⟨⟨⟨⟨⟨⟨⟨-, -⟩, -⟩, -⟩, -⟩, -⟩, -⟩, f6⟩ w1 hC1 E hE
        simp only [puts, act_put, act_put_none, List.setIfInBounds_toArray, List.set_cons_zero, List.set_cons_succ, f6] at hE ⊢
        clear f6
        go_wp2_with fail
        refine calls_then (root3_any pn _ HPL.out) ?_
        rintro e w2 ⟨rfl, hb2⟩
        rw [← HRT.out]
        go_wp2_with fail
        exact .mk (hE _ (hC1.next hb2))
      apply DetR.next
      · -- 8: Op.call { callee := Callee.value (Operand.func 35), args := #[Operand.tmp 28, Operand.tmp 33], argTypes := #[6
        apply detStepR_of
        apply detStep_plain [(2, some 28), (7, some 33), (7, some 33)]
        exact fun _ => rfl
        rfl
        rintro vals ⟨⟨⟨⟨⟨⟨⟨⟨-, -⟩, -⟩, f2⟩, -⟩, -⟩, -⟩, -⟩, f7⟩ w1 hC1 E hE
        simp only [puts, act_put, act_put_none, List.setIfInBounds_toArray, List.set_cons_zero, List.set_cons_succ, f2, f7] at hE ⊢
        clear f2 f7
        go_wp2_with fail
        refine calls_then (top_any 32 64 _ _ _ _ _ _ _ (.inl rfl) rt HRL.out) ?_
        rintro e w2 ⟨rfl, hb2⟩
        rw [← HKN.out]
        go_wp2_with fail
        exact .mk (hE _ (hC1.next hb2))
      apply DetR.done
      rintro vals ⟨⟨⟨⟨⟨⟨⟨⟨⟨-, f0⟩, f1⟩, f2⟩, f3⟩, f4⟩, f5⟩, f6⟩, f7⟩, f8⟩ w1 hC1
      -- 9: Op.buildSlice 59 1 #[(0, Operand.tmp 34)]
      refine tail_step2 [(8, some 34)] (fun _ => rfl) rfl ?_
      intro E hE
      simp only [puts, act_put, act_put_none, List.setIfInBounds_toArray, List.set_cons_zero, List.set_cons_succ, f8] at hE ⊢
      go_wp2
      refine .mk (hE _ _ (fun _ => below_new _ _) ?_)
      clear hE E
      generalize hval : upd _ 9 _ = vals9
      replace f0 := (congrFun hval 0).symm.trans ((upd_ne (by decide)).trans f0)
      replace f1 := (congrFun hval 1).symm.trans ((upd_ne (by decide)).trans f1)
      replace f2 := (congrFun hval 2).symm.trans ((upd_ne (by decide)).trans f2)
      replace f3 := (congrFun hval 3).symm.trans ((upd_ne (by decide)).trans f3)
      replace f4 := (congrFun hval 4).symm.trans ((upd_ne (by decide)).trans f4)
      replace f5 := (congrFun hval 5).symm.trans ((upd_ne (by decide)).trans f5)
      replace f6 := (congrFun hval 6).symm.trans ((upd_ne (by decide)).trans f6)
      replace f7 := (congrFun hval 7).symm.trans ((upd_ne (by decide)).trans f7)
      replace f8 := (congrFun hval 8).symm.trans ((upd_ne (by decide)).trans f8)
      have f9 := (congrFun hval 9).symm.trans (upd_self _ _ _)
      clear hval
      -- 10: Op.call { callee := Callee.builtin Builtin.append, args := #[Operand.tmp 27, Operand.tmp 35], argTypes := #[59
      refine tail_step2 [(1, some 27), (9, some 35), (8, some 34)] (fun _ => rfl) rfl ?_
      intro E hE
      simp only [puts, act_put, act_put_none, List.setIfInBounds_toArray, List.set_cons_zero, List.set_cons_succ, f1, f8, f9] at hE ⊢
      refine wpList_append_one sl_u64 rfl rfl (show OwnX w1 g0 75 1 (.slice A n c) n (wordsV .u64 L) by have := hC1.k; rwa [HL.out] at this) rfl rfl rfl rfl (by unfold maxLen; omega) (by omega) (by have := hC1.res.lt; dsimp only at this; omega) ?_
      intro A6 c6 w6 hown6 hg6 hn6
      have hap := hC1.appK (v' := .slice A6 (n + 1) c6) (x := kn) (by rw [HL.out]; exact hown6) hg6 (rfl)
      have HAP := Lib.hid hap
      clear hap hown6 hg6 hn6
      go_wp2_with fail
      refine .mk (hE _ _ (fun h => absurd h (by decide)) ?_)
      clear hE E
      generalize hval : upd _ 10 _ = vals10
      replace f0 := (congrFun hval 0).symm.trans ((upd_ne (by decide)).trans f0)
      replace f1 := (congrFun hval 1).symm.trans ((upd_ne (by decide)).trans f1)
      replace f2 := (congrFun hval 2).symm.trans ((upd_ne (by decide)).trans f2)
      replace f3 := (congrFun hval 3).symm.trans ((upd_ne (by decide)).trans f3)
      replace f4 := (congrFun hval 4).symm.trans ((upd_ne (by decide)).trans f4)
      replace f5 := (congrFun hval 5).symm.trans ((upd_ne (by decide)).trans f5)
      replace f6 := (congrFun hval 6).symm.trans ((upd_ne (by decide)).trans f6)
      replace f7 := (congrFun hval 7).symm.trans ((upd_ne (by decide)).trans f7)
      replace f8 := (congrFun hval 8).symm.trans ((upd_ne (by decide)).trans f8)
      replace f9 := (congrFun hval 9).symm.trans ((upd_ne (by decide)).trans f9)
      have f10 := (congrFun hval 10).symm.trans (upd_self _ _ _)
      clear hval
      -- 11: Op.fieldAddr 61 (Operand.tmp 3) 6
      refine tail_step2 [(0, some 26), (1, some 27), (2, some 28), (3, some 29), (4, some 30), (5, some 31), (6, some 32), (7, some 33), (8, some 34), (9, some 35), (10, some 36)] (fun _ => rfl) rfl ?_
      intro E hE
      simp only [puts, act_put, act_put_none, List.setIfInBounds_toArray, List.set_cons_zero, List.set_cons_succ, f0, f1, f2, f3, f4, f5, f6, f7, f8, f9, f10] at hE ⊢
      go_wp2
      refine .mk (hE _ _ (fun h => absurd h (by decide)) ?_)
      clear hE E
      generalize hval : upd _ 11 _ = vals11
      replace f0 := (congrFun hval 0).symm.trans ((upd_ne (by decide)).trans f0)
      replace f1 := (congrFun hval 1).symm.trans ((upd_ne (by decide)).trans f1)
      replace f2 := (congrFun hval 2).symm.trans ((upd_ne (by decide)).trans f2)
      replace f3 := (congrFun hval 3).symm.trans ((upd_ne (by decide)).trans f3)
      replace f4 := (congrFun hval 4).symm.trans ((upd_ne (by decide)).trans f4)
      replace f5 := (congrFun hval 5).symm.trans ((upd_ne (by decide)).trans f5)
      replace f6 := (congrFun hval 6).symm.trans ((upd_ne (by decide)).trans f6)
      replace f7 := (congrFun hval 7).symm.trans ((upd_ne (by decide)).trans f7)
      replace f8 := (congrFun hval 8).symm.trans ((upd_ne (by decide)).trans f8)
      replace f9 := (congrFun hval 9).symm.trans ((upd_ne (by decide)).trans f9)
      replace f10 := (congrFun hval 10).symm.trans ((upd_ne (by decide)).trans f10)
      have f11 := (congrFun hval 11).symm.trans (upd_self _ _ _)
      clear hval
      -- 12: Op.store 59 (Operand.tmp 37) (Operand.tmp 36)
      refine tail_step2 [(11, some 37), (10, some 36), (10, some 36), (0, some 26), (1, some 27), (2, some 28), (3, some 29), (4, some 30), (5, some 31), (6, some 32), (7, some 33), (8, some 34), (9, some 35), (10, some 36)] (fun _ => rfl) rfl ?_
      intro E hE
      simp only [puts, act_put, act_put_none, List.setIfInBounds_toArray, List.set_cons_zero, List.set_cons_succ, f0, f1, f2, f3, f4, f5, f6, f7, f8, f9, f10, f11] at hE ⊢
      refine wpList_put_cell (i := 6) (v := .slice A6 (n + 1) c6) HAP.out.h rfl rfl rfl rfl slu_size (show 6 < 8 by decide) rfl ?_
      intro w7 hb7 hw7
      have HFIN := Lib.hid (HAP.out.put hw7 hb7 HD.out)
      clear hb7 hw7
      go_wp2_with fail
      refine .mk (hE undef _ (fun h => absurd h (by decide)) ?_)
      clear hE E
      generalize hval : upd _ 12 _ = vals12
      replace f0 := (congrFun hval 0).symm.trans ((upd_ne (by decide)).trans f0)
      replace f1 := (congrFun hval 1).symm.trans ((upd_ne (by decide)).trans f1)
      replace f2 := (congrFun hval 2).symm.trans ((upd_ne (by decide)).trans f2)
      replace f3 := (congrFun hval 3).symm.trans ((upd_ne (by decide)).trans f3)
      replace f4 := (congrFun hval 4).symm.trans ((upd_ne (by decide)).trans f4)
      replace f5 := (congrFun hval 5).symm.trans ((upd_ne (by decide)).trans f5)
      replace f6 := (congrFun hval 6).symm.trans ((upd_ne (by decide)).trans f6)
      replace f7 := (congrFun hval 7).symm.trans ((upd_ne (by decide)).trans f7)
      replace f8 := (congrFun hval 8).symm.trans ((upd_ne (by decide)).trans f8)
      replace f9 := (congrFun hval 9).symm.trans ((upd_ne (by decide)).trans f9)
      replace f10 := (congrFun hval 10).symm.trans ((upd_ne (by decide)).trans f10)
      replace f11 := (congrFun hval 11).symm.trans ((upd_ne (by decide)).trans f11)
      have f12 := (congrFun hval 12).symm.trans (upd_self _ _ _)
      clear hval
      refine tail_end2 ?_
      simp only [puts, act_put, act_put_none, List.setIfInBounds_toArray, List.set_cons_zero, List.set_cons_succ, f0, f1, f2, f3, f4, f5, f6, f7, f8, f9, f10, f11, f12]
      clear f0 f1 f2 f3 f4 f5 f6 f7 f8 f9 f10 f11 f12
      clear HC0 HAP hC1
      go_wp2_with fail
      refine ⟨⟨n + 1, A6, c6, by omega, by go_num, ?_⟩, by simp [intOf]; omega⟩
      rw [HNX.out]
      exact HFIN.out
    · obtain rfl : n = 64 := by omega
      rw [List.take_of_length_le (by rw [kL_length]; exact Nat.le_refl _)] at hst
      obtain ⟨gk, rfl, hk1, hk2⟩ := (show OwnX wr g0 75 1 (.slice A 64 c) 64 (wordsV .u64 (kL F32)) by have := hst.k; rwa [kL_length] at this).ptr (by decide)
      have hck : 64 ≤ c := by
        have ho : OwnX wr g0 75 1 (.slice (some ⟨gk, 0, none⟩) 64 c) 64 (wordsV .u64 (kL F32)) := by have := hst.k; rwa [kL_length] at this
        exact ho.le_cap
      have hst1 : OfSt w ⟨g0, gh, ga, gb, gc, gd⟩ F32 zH (.slice (some ⟨gp, 0, none⟩) 80 pc) (csV 32 64 ga gb gc gd (.slice (some ⟨gk, 0, none⟩) 64 c) (.slice none 0 0)) (.slice (some ⟨gk, 0, none⟩) 64 c) (kL F32) (.slice none 0 0) ((s8L (startS F32)).take 0) wr := hst
      have HST0 := Lib.hid hst1
      have HK1 := Lib.hid hk1
      clear hst hst1 hk1 hk2
      obtain ⟨ck, rfl⟩ : ∃ ck, ck = c := ⟨_, rfl⟩
      go_wp2_with fail
      clear d1
      obtain ⟨wo, rfl⟩ : ∃ wo : World, wo = wr := ⟨_, rfl⟩
      go_loopw [6] (fun i wr => ∃ (n : Nat) (A : Option Addr) (c : Nat), n ≤ 8 ∧ i = .int .i64 n ∧ OfSt w ⟨g0, gh, ga, gb, gc, gd⟩ F32 zH (.slice (some ⟨gp, 0, none⟩) 80 pc) (csV 32 64 ga gb gc gd (.slice (some ⟨gk, 0, none⟩) 64 ck) (.slice A n c)) (.slice (some ⟨gk, 0, none⟩) 64 ck) (kL F32) (.slice A n c) ((s8L (startS F32)).take n) wr) (fun i _ => 8 - (intOf i).toNat)
      case atStart => exact ⟨0, none, 0, by omega, rfl, HST0.out⟩
      case round =>
        clear HST0
        obtain ⟨n, A, c, hn, rfl, hst⟩ := hrel
        by_cases hnl : n < 8
        · have hnl' : (n : Int) < 8 := by omega
          obtain ⟨L, hL⟩ : ∃ L, L = (s8L (startS F32)).take n := ⟨_, rfl⟩
          have hLl : L.length = n := by rw [hL, List.length_take, show (s8L (startS F32)).length = 8 from rfl]; omega
          obtain ⟨pn, hpn⟩ : ∃ x, x = primes80.getD n 0 := ⟨_, rfl⟩
          have hpl : pn < 65536 := by rw [hpn]; exact prime_lt n (by omega)
          have hrt : rootN pn 2 = firstN.getD n 0 := by rw [hpn]; exact rootN2 n hnl
          obtain ⟨rt, hrt2⟩ : ∃ x, x = rootN pn 2 := ⟨_, rfl⟩
          have hrl : rt < 18446744073709551616 := by rw [hrt2, rootN]; exact Nat.mod_lt _ (by decide)
          obtain ⟨kn, hkn⟩ : ∃ x, x = rt / 2 ^ (64 - 32) % 2 ^ 32 := ⟨_, rfl⟩
          have hnx : (s8L (startS F32)).take (n + 1) = L ++ [kn] := by
            rw [hkn, hrt2, hrt, hL]
            exact start_take F32 n hnl
          have ep : (wordsV .i64 primes80)[n]? = some (.int .i64 (pn : Int)) := by rw [hpn]; exact wordsV_at (show n < 80 by omega)
          rw [← hL] at hst
          have HL := Lib.hid hLl
          have HPL := Lib.hid hpl
          have HRT := Lib.hid hrt2
          have HRL := Lib.hid hrl
          have HKN := Lib.hid hkn
          have HNX := Lib.hid hnx
          have EP := Lib.hid ep
          have hn80 : n < 80 := by omega
          have HC0 := hst.drew
          have HST1 := Lib.hid hst
          clear hL hLl hpn hpl hrt hrt2 hrl hkn hnx ep hst
          go_wp2_with fail
          clear HST1
          refine wp_region_tail2 (fun u => OfSt w ⟨g0, gh, ga, gb, gc, gd⟩ F32 zH (.slice (some ⟨gp, 0, none⟩) 80 pc) (csV 32 64 ga gb gc gd (.slice (some ⟨gk, 0, none⟩) 64 ck) (.slice A n c)) (.slice (some ⟨gk, 0, none⟩) 64 ck) (kL F32) (.slice A n c) L u) (fun i => i == 0 || i == 1) 9 10 [(0, some 42), (1, some 43), (2, some 44), (3, some 45), (4, some 46), (5, some 47), (6, some 48), (7, some 49), (8, some 50), (9, some 51), (10, some 52), (11, some 53), (12, none)] (by kernel_rfl) (by kernel_rfl) (by decide) (by kernel_rfl) (fun _ => rfl) HC0 (fun _ _ hb h => h.next hb) (by decide) ?_
          apply DetR.next
          · -- 0: Op.fieldAddr 61 (Operand.tmp 3) 7
            apply detStepR_pure []
            exact fun _ => rfl
            rfl
            rintro vals - w1 hC1 E hE
            simp only [puts, act_put, act_put_none, List.setIfInBounds_toArray, List.set_cons_zero, List.set_cons_succ] at hE ⊢
            go_wp2
            exact .mk hE
          apply DetR.next
          · -- 1: Op.load 59 (Operand.tmp 42)
            apply detStepR_pure [(0, some 42)]
            exact fun _ => rfl
            rfl
            rintro vals ⟨-, f0⟩ w1 hC1 E hE
            have d0 := hC1.h.cell 7
            simp [csV, hC] at d0
            simp only [puts, act_put, act_put_none, List.setIfInBounds_toArray, List.set_cons_zero, List.set_cons_succ, f0] at hE ⊢
            clear f0
            go_wp2
            exact .mk hE
          apply DetR.next
          · -- 2: Op.load 61 (Operand.tmp 3)
            apply detStepR_of
            apply detStep_plain []
            exact fun _ => rfl
            rfl
            rintro vals ⟨⟨-, -⟩, -⟩ w1 hC1 E hE
            simp only [puts, act_put, act_put_none, List.setIfInBounds_toArray, List.set_cons_zero, List.set_cons_succ] at hE ⊢
            refine wpList_get_box hC1.h rfl rfl rfl hu rfl h_size ?_
            go_wp2_with fail
            exact .mk (hE _ hC1)
          apply DetR.next
          · -- 3: Op.move (Operand.tmp 4)
            apply detStepR_of
            apply detStep_plain []
            exact fun _ => rfl
            rfl
            rintro vals ⟨⟨⟨-, -⟩, -⟩, -⟩ w1 hC1 E hE
            simp only [puts, act_put, act_put_none, List.setIfInBounds_toArray, List.set_cons_zero, List.set_cons_succ] at hE ⊢
            go_wp2
            exact .mk (hE _ hC1)
          apply DetR.next
          · -- 4: Op.move (Operand.tmp 6)
            apply detStepR_of
            apply detStep_plain []
            exact fun _ => rfl
            rfl
            rintro vals ⟨⟨⟨⟨-, -⟩, -⟩, -⟩, -⟩ w1 hC1 E hE
            simp only [puts, act_put, act_put_none, List.setIfInBounds_toArray, List.set_cons_zero, List.set_cons_succ] at hE ⊢
            go_wp2
            exact .mk (hE _ hC1)
          apply DetR.next
          · -- 5: Op.indexAddr 58 (Operand.tmp 45) (Operand.tmp 46)
            apply detStepR_of
            apply detStep_plain [(3, some 45), (4, some 46)]
            exact fun _ => rfl
            rfl
            rintro vals ⟨⟨⟨⟨⟨-, -⟩, -⟩, -⟩, f3⟩, f4⟩ w1 hC1 E hE
            simp only [puts, act_put, act_put_none, List.setIfInBounds_toArray, List.set_cons_zero, List.set_cons_succ, f3, f4] at hE ⊢
            clear f3 f4
            go_wp2
            exact .mk (hE _ hC1)
          apply DetR.next
          · -- 6: Op.load 3 (Operand.tmp 47)
            apply detStepR_of
            apply detStep_plain [(5, some 47)]
            exact fun _ => rfl
            rfl
            rintro vals ⟨⟨⟨⟨⟨⟨-, -⟩, -⟩, -⟩, -⟩, -⟩, f5⟩ w1 hC1 E hE
            have d0 := hC1.p.atN EP.out
            simp only [puts, act_put, act_put_none, List.setIfInBounds_toArray, List.set_cons_zero, List.set_cons_succ, f5] at hE ⊢
            clear f5
            go_wp2
            exact .mk (hE _ hC1)
          apply DetR.next
          · -- 7: Op.call { callee := Callee.value (Operand.func 36), args := #[Operand.tmp 48, Operand.const (Value.int IntKind
            apply detStepR_of
            apply detStep_plain [(6, some 48)]
            exact fun _ => rfl
            rfl
            rintro vals ⟨⟨⟨⟨⟨⟨⟨-, -⟩, -⟩, -⟩, -⟩, -⟩, -⟩, f6⟩ w1 hC1 E hE
            simp only [puts, act_put, act_put_none, List.setIfInBounds_toArray, List.set_cons_zero, List.set_cons_succ, f6] at hE ⊢
            clear f6
            go_wp2_with fail
            refine calls_then (root2_any pn _ HPL.out) ?_
            rintro e w2 ⟨rfl, hb2⟩
            rw [← HRT.out]
            go_wp2_with fail
            exact .mk (hE _ (hC1.next hb2))
          apply DetR.next
          · -- 8: Op.call { callee := Callee.value (Operand.func 35), args := #[Operand.tmp 44, Operand.tmp 49], argTypes := #[6
            apply detStepR_of
            apply detStep_plain [(2, some 44), (7, some 49), (7, some 49)]
            exact fun _ => rfl
            rfl
            rintro vals ⟨⟨⟨⟨⟨⟨⟨⟨-, -⟩, -⟩, f2⟩, -⟩, -⟩, -⟩, -⟩, f7⟩ w1 hC1 E hE
            simp only [puts, act_put, act_put_none, List.setIfInBounds_toArray, List.set_cons_zero, List.set_cons_succ, f2, f7] at hE ⊢
            clear f2 f7
            go_wp2_with fail
            refine calls_then (top_any 32 64 _ _ _ _ _ _ _ (.inl rfl) rt HRL.out) ?_
            rintro e w2 ⟨rfl, hb2⟩
            rw [← HKN.out]
            go_wp2_with fail
            exact .mk (hE _ (hC1.next hb2))
          apply DetR.done
          rintro vals ⟨⟨⟨⟨⟨⟨⟨⟨⟨-, f0⟩, f1⟩, f2⟩, f3⟩, f4⟩, f5⟩, f6⟩, f7⟩, f8⟩ w1 hC1
          -- 9: Op.buildSlice 59 1 #[(0, Operand.tmp 50)]
          refine tail_step2 [(8, some 50)] (fun _ => rfl) rfl ?_
          intro E hE
          simp only [puts, act_put, act_put_none, List.setIfInBounds_toArray, List.set_cons_zero, List.set_cons_succ, f8] at hE ⊢
          go_wp2
          refine .mk (hE _ _ (fun _ => below_new _ _) ?_)
          clear hE E
          generalize hval : upd _ 9 _ = vals9
          replace f0 := (congrFun hval 0).symm.trans ((upd_ne (by decide)).trans f0)
          replace f1 := (congrFun hval 1).symm.trans ((upd_ne (by decide)).trans f1)
          replace f2 := (congrFun hval 2).symm.trans ((upd_ne (by decide)).trans f2)
          replace f3 := (congrFun hval 3).symm.trans ((upd_ne (by decide)).trans f3)
          replace f4 := (congrFun hval 4).symm.trans ((upd_ne (by decide)).trans f4)
          replace f5 := (congrFun hval 5).symm.trans ((upd_ne (by decide)).trans f5)
          replace f6 := (congrFun hval 6).symm.trans ((upd_ne (by decide)).trans f6)
          replace f7 := (congrFun hval 7).symm.trans ((upd_ne (by decide)).trans f7)
          replace f8 := (congrFun hval 8).symm.trans ((upd_ne (by decide)).trans f8)
          have f9 := (congrFun hval 9).symm.trans (upd_self _ _ _)
          clear hval
          -- 10: Op.call { callee := Callee.builtin Builtin.append, args := #[Operand.tmp 43, Operand.tmp 51], argTypes := #[59
          refine tail_step2 [(1, some 43), (9, some 51), (8, some 50)] (fun _ => rfl) rfl ?_
          intro E hE
          simp only [puts, act_put, act_put_none, List.setIfInBounds_toArray, List.set_cons_zero, List.set_cons_succ, f1, f8, f9] at hE ⊢
          refine wpList_append_one sl_u64 rfl rfl (show OwnX w1 g0 75 1 (.slice A n c) n (wordsV .u64 L) by have := hC1.f; rwa [HL.out] at this) rfl rfl rfl rfl (by unfold maxLen; omega) (by omega) (by have := hC1.res.lt; dsimp only at this; omega) ?_
          intro A6 c6 w6 hown6 hg6 hn6
          have hap := hC1.appF (v' := .slice A6 (n + 1) c6) (x := kn) (by rw [HL.out]; exact hown6) hg6 (hn6)
          have HAP := Lib.hid hap
          clear hap hown6 hg6 hn6
          go_wp2_with fail
          refine .mk (hE _ _ (fun h => absurd h (by decide)) ?_)
          clear hE E
          generalize hval : upd _ 10 _ = vals10
          replace f0 := (congrFun hval 0).symm.trans ((upd_ne (by decide)).trans f0)
          replace f1 := (congrFun hval 1).symm.trans ((upd_ne (by decide)).trans f1)
          replace f2 := (congrFun hval 2).symm.trans ((upd_ne (by decide)).trans f2)
          replace f3 := (congrFun hval 3).symm.trans ((upd_ne (by decide)).trans f3)
          replace f4 := (congrFun hval 4).symm.trans ((upd_ne (by decide)).trans f4)
          replace f5 := (congrFun hval 5).symm.trans ((upd_ne (by decide)).trans f5)
          replace f6 := (congrFun hval 6).symm.trans ((upd_ne (by decide)).trans f6)
          replace f7 := (congrFun hval 7).symm.trans ((upd_ne (by decide)).trans f7)
          replace f8 := (congrFun hval 8).symm.trans ((upd_ne (by decide)).trans f8)
          replace f9 := (congrFun hval 9).symm.trans ((upd_ne (by decide)).trans f9)
          have f10 := (congrFun hval 10).symm.trans (upd_self _ _ _)
          clear hval
          -- 11: Op.fieldAddr 61 (Operand.tmp 3) 7
          refine tail_step2 [(0, some 42), (1, some 43), (2, some 44), (3, some 45), (4, some 46), (5, some 47), (6, some 48), (7, some 49), (8, some 50), (9, some 51), (10, some 52)] (fun _ => rfl) rfl ?_
          intro E hE
          simp only [puts, act_put, act_put_none, List.setIfInBounds_toArray, List.set_cons_zero, List.set_cons_succ, f0, f1, f2, f3, f4, f5, f6, f7, f8, f9, f10] at hE ⊢
          go_wp2
          refine .mk (hE _ _ (fun h => absurd h (by decide)) ?_)
          clear hE E
          generalize hval : upd _ 11 _ = vals11
          replace f0 := (congrFun hval 0).symm.trans ((upd_ne (by decide)).trans f0)
          replace f1 := (congrFun hval 1).symm.trans ((upd_ne (by decide)).trans f1)
          replace f2 := (congrFun hval 2).symm.trans ((upd_ne (by decide)).trans f2)
          replace f3 := (congrFun hval 3).symm.trans ((upd_ne (by decide)).trans f3)
          replace f4 := (congrFun hval 4).symm.trans ((upd_ne (by decide)).trans f4)
          replace f5 := (congrFun hval 5).symm.trans ((upd_ne (by decide)).trans f5)
          replace f6 := (congrFun hval 6).symm.trans ((upd_ne (by decide)).trans f6)
          replace f7 := (congrFun hval 7).symm.trans ((upd_ne (by decide)).trans f7)
          replace f8 := (congrFun hval 8).symm.trans ((upd_ne (by decide)).trans f8)
          replace f9 := (congrFun hval 9).symm.trans ((upd_ne (by decide)).trans f9)
          replace f10 := (congrFun hval 10).symm.trans ((upd_ne (by decide)).trans f10)
          have f11 := (congrFun hval 11).symm.trans (upd_self _ _ _)
          clear hval
          -- 12: Op.store 59 (Operand.tmp 53) (Operand.tmp 52)
          refine tail_step2 [(11, some 53), (10, some 52), (10, some 52), (0, some 42), (1, some 43), (2, some 44), (3, some 45), (4, some 46), (5, some 47), (6, some 48), (7, some 49), (8, some 50), (9, some 51), (10, some 52)] (fun _ => rfl) rfl ?_
          intro E hE
          simp only [puts, act_put, act_put_none, List.setIfInBounds_toArray, List.set_cons_zero, List.set_cons_succ, f0, f1, f2, f3, f4, f5, f6, f7, f8, f9, f10, f11] at hE ⊢
          refine wpList_put_cell (i := 7) (v := .slice A6 (n + 1) c6) HAP.out.h rfl rfl rfl rfl slu_size (show 7 < 8 by decide) rfl ?_
          intro w7 hb7 hw7
          have HFIN := Lib.hid (HAP.out.put hw7 hb7 HD.out)
          clear hb7 hw7
          go_wp2_with fail
          refine .mk (hE undef _ (fun h => absurd h (by decide)) ?_)
          clear hE E
          generalize hval : upd _ 12 _ = vals12
          replace f0 := (congrFun hval 0).symm.trans ((upd_ne (by decide)).trans f0)
          replace f1 := (congrFun hval 1).symm.trans ((upd_ne (by decide)).trans f1)
          replace f2 := (congrFun hval 2).symm.trans ((upd_ne (by decide)).trans f2)
          replace f3 := (congrFun hval 3).symm.trans ((upd_ne (by decide)).trans f3)
          replace f4 := (congrFun hval 4).symm.trans ((upd_ne (by decide)).trans f4)
          replace f5 := (congrFun hval 5).symm.trans ((upd_ne (by decide)).trans f5)
          replace f6 := (congrFun hval 6).symm.trans ((upd_ne (by decide)).trans f6)
          replace f7 := (congrFun hval 7).symm.trans ((upd_ne (by decide)).trans f7)
          replace f8 := (congrFun hval 8).symm.trans ((upd_ne (by decide)).trans f8)
          replace f9 := (congrFun hval 9).symm.trans ((upd_ne (by decide)).trans f9)
          replace f10 := (congrFun hval 10).symm.trans ((upd_ne (by decide)).trans f10)
          replace f11 := (congrFun hval 11).symm.trans ((upd_ne (by decide)).trans f11)
          have f12 := (congrFun hval 12).symm.trans (upd_self _ _ _)
          clear hval
          refine tail_end2 ?_
          simp only [puts, act_put, act_put_none, List.setIfInBounds_toArray, List.set_cons_zero, List.set_cons_succ, f0, f1, f2, f3, f4, f5, f6, f7, f8, f9, f10, f11, f12]
          clear f0 f1 f2 f3 f4 f5 f6 f7 f8 f9 f10 f11 f12
          clear HC0 HAP hC1
          go_wp2_with fail
          refine ⟨⟨n + 1, A6, c6, by omega, by go_num, ?_⟩, by simp [intOf]; omega⟩
          rw [HNX.out]
          exact HFIN.out
        · obtain rfl : n = 8 := by omega
          rw [show (s8L (startS F32)).take 8 = s8L (startS F32) from rfl] at hst
          obtain ⟨gz, rfl, hz1, hz2⟩ := (show OwnX wr g0 75 1 (.slice A 8 c) 8 (wordsV .u64 (s8L (startS F32))) from hst.f).ptr (by decide)
          have hcz : 8 ≤ c := (show OwnX wr g0 75 1 (.slice (some ⟨gz, 0, none⟩) 8 c) 8 (wordsV .u64 (s8L (startS F32))) from hst.f).le_cap
          have HST2 := Lib.hid hst
          clear hz1 hz2 hst
          go_wp2_with (first
            | (refine wpList_get_box (x := .tmp 3) HST2.out.h rfl rfl rfl hu rfl h_size ?_)
            | (refine wpList_put_box (x := .tmp 2) (cells := csV 32 64 ga gb gc gd (.slice (some ⟨gk, 0, none⟩) 64 ck) (.slice (some ⟨gz, 0, none⟩) 8 c)) HST2.out.res rfl rfl rfl rfl h_size rfl (by simp [csV, hC, Value.oneCell']) ?_; intro w5 hb5 hw5))
          refine bodyPost_ret (results_box (P := Tryd.prog) rfl rfl hb5 hu rfl h_size) rfl ?_
          have h2 := HST2.out
          have hdl := HLT.out
          refine ⟨⟨⟨ga, 0, none⟩, ⟨gb, 0, none⟩, ⟨gc, 0, none⟩, ⟨gd, 0, none⟩, ⟨gk, 0, none⟩, ⟨gz, 0, none⟩, 3, 3, 3, 3, ck, c⟩, rfl, ?_, ?_⟩
          · have k1 := hw5.blk h2.a (by dsimp only; omega)
            have k2 := hw5.blk h2.b (by dsimp only; omega)
            have k3 := hw5.blk h2.c (by dsimp only; omega)
            have k4 := hw5.blk h2.d (by dsimp only; omega)
            have k5 := hw5.own h2.k (own_ne_blk h2.k h2.res (by decide))
            have k6 := hw5.own h2.f (own_ne_blk h2.f h2.res (by decide))
            exact ⟨Rd.of_blk k1 k1.lt, Rd.of_blk k2 k2.lt, Rd.of_blk k3 k3.lt, Rd.of_blk k4 k4.lt, Rd.of_own (n := 64) (by rw [kL_length] at k5; exact k5) (Nat.le_refl _), Rd.of_own (n := 8) k6 (Nat.le_refl _), Nat.le_refl _, Nat.le_refl _, Nat.le_refl _, Nat.le_refl _, hck, hcz⟩
          · rw [← HG0.out]
            exact hw5.below h2.bel (Nat.le_refl _) (by have := h2.res.lt; dsimp only at this; omega)
end Go.Proofs.YtlkikjeccamheaaDoor.Sh
/-
  Walk: the reference's digest of 32 bytes as it is called.
-/
namespace Go.Proofs.YtlkikjeccamheaaDoor.Sh
set_option linter.unusedSimpArgs false
set_option linter.unusedVariables false
open Go.RowKit
set_option maxRecDepth 100000 in
theorem r256_any (data : List UInt8) (A : Option Addr) (c B : Nat) (w : World) (hr : Rd w B A (bytesV data)) (hB : B ≤ w.heap.size) (hl : data.length ≤ 1000) (hc : data.length ≤ c) :
    Calls Tryd.prog 15 #[.slice A data.length c] w (HSumPost F32 32 data w) := by
  have HR := Lib.hid hr
  have hu := Tryd.underlying61
  clear hr
  go_enter Tryd.func15, Tryd.ntmps15
  go_wp2_with fail
  refine calls_then (of32_any w) ?_
  rintro e w1 ⟨p, rfl, hok, hb1⟩
  have HOK := Lib.hid hok
  have HB1 := Lib.hid hb1
  clear hok hb1
  go_wp2_with (first
    | (refine wpList_put_box (x := .tmp 3) (cells := hv F32 p) (Blk.new w1 61 zH) rfl rfl rfl rfl h_size rfl (by simp [hv, hC, Value.oneCell']) ?_; intro w2 hb2 hw2; have HB2 := Lib.hid hb2; have HW2 := Lib.hid hw2; clear hb2 hw2)
    | (refine wpList_get_box (x := .tmp 3) HB2.out rfl rfl rfl hu rfl h_size ?_))
  have hbel : Below w1.heap.size w1 w2 := HW2.out.below (below_new _ _) (Nat.le_refl _) (by simp)
  have hsz : w1.heap.size + 1 = w2.heap.size := by rw [HW2.out.size]; simp
  refine calls_then (hsum32_any p data A c w1.heap.size w2 (HOK.out.below hbel) (((HR.out.mono hB).below HB1.out).mono HB1.out.size |>.below hbel) (by omega) hl hc) ?_
  rintro e w3 ⟨A3, c3, rfl, ho3, hb3⟩
  have HO3 := Lib.hid ho3
  have HB3 := Lib.hid hb3
  have HBEL := Lib.hid hbel
  have HSZ := Lib.hid hsz
  clear ho3 hb3 hbel hsz
  go_wp2_with fail
  go_ret
  exact ⟨A3, c3, rfl, HO3.out.mono (by have := HB1.out.size; have := HSZ.out; omega), HB1.out.trans ((HBEL.out.mono HB1.out.size).trans (HB3.out.mono (by have := HB1.out.size; have := HSZ.out; omega)))⟩
end Go.Proofs.YtlkikjeccamheaaDoor.Sh
/-
  Walk: the reference's Name.
-/
namespace Go.Proofs.YtlkikjeccamheaaDoor
set_option linter.unusedSimpArgs false
set_option linter.unusedVariables false
open Go.RowKit
theorem hexA_cut (n : Nat) (h : n < 16) : (⟨#[48, 49, 50, 51, 52, 53, 54, 55, 56, 57, 97, 98, 99, 100, 101, 102]⟩ : ByteArray).extract n (n + 1) = ⟨#[UInt8.ofNat (hexD n)]⟩ := by
  have : n = 0 ∨ n = 1 ∨ n = 2 ∨ n = 3 ∨ n = 4 ∨ n = 5 ∨ n = 6 ∨ n = 7 ∨ n = 8 ∨ n = 9 ∨ n = 10 ∨ n = 11 ∨ n = 12 ∨ n = 13 ∨ n = 14 ∨ n = 15 := by omega
  rcases this with h | h | h | h | h | h | h | h | h | h | h | h | h | h | h | h <;> subst h <;> decide
theorem name_snoc (L : List UInt8) (a b : UInt8) : (⟨L.toArray⟩ : ByteArray) ++ ⟨#[a]⟩ ++ ⟨#[b]⟩ = ⟨(L ++ [a, b]).toArray⟩ := by
  apply ByteArray.ext
  rw [ByteArray.data_append, ByteArray.data_append]
  simp
set_option maxRecDepth 100000 in
set_option maxHeartbeats 4000000 in
theorem rname_any (data : List UInt8) (hl : data.length ≤ 1000) (A : Option Addr) (c : Nat) (w : World) (hr : Rd w w.heap.size A (bytesV data)) (hc : data.length ≤ c) (hH32 : (Sh.digS Sh.F32 data).length = 32) :
    Calls Tryd.prog 7 #[.slice A data.length c] w (fun e w' => e = .returned (.string (nameS data)) ∧ Below w.heap.size w w') := by
  have HS := Lib.hid (Sh.r256_any data A c w.heap.size w hr (Nat.le_refl _) hl hc)
  obtain ⟨n, hn⟩ : ∃ n, n = data.length := ⟨_, rfl⟩
  rw [← hn] at HS ⊢
  clear hr hl hc hn
  obtain ⟨H, hH⟩ : ∃ H, H = Sh.digS Sh.F32 data := ⟨_, rfl⟩
  rw [← hH] at hH32
  have HH := Lib.hid hH
  have HLH := Lib.hid hH32
  clear hH32
  go_enter Tryd.func7, Tryd.ntmps7
  go_wp2_with fail
  refine calls_then HS.out ?_
  rintro e u1 ⟨A1, c1, rfl, ho, hb1⟩
  rw [← hH] at ho
  have HRD := Lib.hid (Rd.of_own ho (Nat.le_refl _))
  obtain ⟨ad0, hA1, -, -⟩ := HRD.out.at_ (k := 0) (by rw [bytesV_length, HLH.out]; decide)
  have HB1 := Lib.hid hb1
  subst hA1
  clear hb1 ho hH HS
  go_wp2_with fail
  go_loopw [5, 6] (fun s i wr => ∃ (k : Nat), k ≤ 4 ∧ i = .int .i64 (k : Int) ∧ s = .string ⟨(nameK H k).toArray⟩ ∧ Below u1.heap.size u1 wr) (fun _ i _ => 4 - (intOf i).toNat)
  case atStart => exact ⟨0, by omega, rfl, rfl, Below.refl _ _⟩
  case round =>
    obtain ⟨k, hk, rfl, rfl, hbel⟩ := hrel
    by_cases hlt : k < 4
    · have hlt' : (k : Int) < 4 := by omega
      have hkH : k < H.length := by rw [HLH.out]; omega
      obtain ⟨ad', hA', -, hcell⟩ := (HRD.out.below hbel).at_ (k := k) (by rw [bytesV_length]; exact hkH)
      injection hA' with hA'
      subst hA'
      obtain ⟨x, hx⟩ : ∃ x, x = H[k].toNat := ⟨_, rfl⟩
      have hxl : x < 256 := by have := H[k].toNat_lt; omega
      have hbv : (bytesV H)[k]'(by rw [bytesV_length]; exact hkH) = .int .u8 (x : Int) := by
        rw [hx]; simp [bytesV, byteV]
      rw [hbv] at hcell
      obtain ⟨L, hL⟩ : ∃ L, L = nameK H k := ⟨_, rfl⟩
      have HN := Lib.hid (show nameK H (k + 1) = L ++ hexB x by rw [nameK_succ hkH, ← hx, hL])
      have hLl : L.length = 2 * k := by rw [hL]; exact nameK_length (by omega)
      rw [← hL]
      have hd4 : decide ((k : Int) < 4) = true := by simp; omega
      obtain ⟨SL, hSL⟩ : ∃ s : ByteArray, s = ⟨L.toArray⟩ := ⟨_, rfl⟩
      rw [← hSL]
      clear hx hbv hL hkH
      go_wp2_with fail
      obtain ⟨a, ha⟩ : ∃ a, a = x / 16 := ⟨_, rfl⟩
      obtain ⟨b, hb⟩ : ∃ b, b = x % 16 := ⟨_, rfl⟩
      rw [show (x : Int) / 16 = (a : Int) by omega, show (x : Int) % 16 = (b : Int) by omega]
      have ha16 : a < 16 := by omega
      have hb16 : b < 16 := by omega
      have HA := Lib.hid ha
      have HB := Lib.hid hb
      have HX := Lib.hid hxl
      clear ha hb hxl
      go_quiet (fail)
      rw [hexA_cut a ha16, hexA_cut b hb16, name_snoc]
      go_wp2_with fail
      go_roundw
      case rel => exact ⟨k + 1, by omega, by go_num, by rw [HN.out, hexB, ← HA.out, ← HB.out], by first | exact hbel | exact hbel.drew | exact below_drewN' hbel _⟩
      case measure => simp [intOf]; omega
    · obtain rfl : k = 4 := by omega
      have HF := Lib.hid (HB1.out.trans (hbel.mono HB1.out.size))
      have hd4 : decide (((4 : Nat) : Int) < 4) = false := by decide
      clear hbel
      go_wp2_with fail
      go_ret
      exact ⟨by rw [nameS, ← HH.out]; rfl, HF.out⟩
end Go.Proofs.YtlkikjeccamheaaDoor
/-
  The law JwkNames.
-/
namespace Go.Proofs.YtlkikjeccamheaaDoor.Js
set_option linter.unusedSimpArgs false
set_option linter.unusedVariables false
open Go.RowKit
theorem digS32_len2 (d : List UInt8) : (Sh.digS Sh.F32 d).length = 32 := by
  unfold Sh.digS
  generalize Sh.runS Sh.F32 (Sh.padS Sh.F32 d) ((Sh.padS Sh.F32 d).length / (2 * Sh.F32.bits)) = s
  simp [Sh.s8L, Sh.wordB_length, Sh.F32]
theorem rd_take {w : World} {B : Nat} {A : Option Addr} {l : List UInt8} (h : Rd w B A (bytesV l)) (n : Nat) : Rd w B A (bytesV (l.take n)) := fun i u hu => by
  have e : bytesV (l.take n) = (bytesV l).take n := by simp [bytesV, List.map_take]
  rw [e, List.getElem?_take] at hu
  split at hu
  · exact h i u hu
  · cases hu
end Go.Proofs.YtlkikjeccamheaaDoor.Js
/-
  A law of my own: '[]byte(s)', s a string.
-/
namespace Go.Proofs.YtlkikjeccamheaaDoor
set_option linter.unusedSimpArgs false
set_option linter.unusedVariables false
open Go.RowKit
section
variable {P : Program}
theorem rd_bytesRow (w : World) (s : ByteArray) (cap : Nat) (e : TypeId) (f : Nat × Nat) (u : World) (hu : u = w.alloc (.cells (bytesRow s cap) e f)) : Rd u u.heap.size (some ⟨w.heap.size, 0, none⟩) (bytesV s.data.toList) := by
  subst hu
  intro i v hv
  have hlt : i < s.data.size := by
    have := (List.getElem?_eq_some_iff.1 hv).1
    simpa [bytesV] using this
  refine ⟨_, rfl, by simp, ?_⟩
  have hadd : (⟨w.heap.size, 0, none⟩ : Addr).add i = ⟨w.heap.size, i, none⟩ := by unfold Addr.add; split <;> simp_all
  have hg : (w.alloc (.cells (bytesRow s cap) e f)).heap[w.heap.size]? = some (.cells (bytesRow s cap) e f) := by
    show (w.heap.push _)[w.heap.size]? = _
    simp
  rw [hadd, cell_of_row _ _ _ _ _ f hg, bytesRow, Array.getElem?_append_left (by simpa using hlt)]
  rw [bytesV, List.getElem?_map, Array.getElem?_toList] at hv
  rw [Array.getElem?_map]
  exact hv
theorem wpList_bytes_of {w : World} {ops : Array Oper} {rest : List Oper} {o : Oper} {a : Act} {Q : Exit → Act → World → Prop} {src dst e : TypeId} {x : Operand} {s : ByteArray}
    (hs : P.underlying src = some .string) (hd : P.underlying dst = some (.slice e)) (he : P.underlying e = some (.int .u8))
    (hgd : o.guard = none) (ho : o.op = .convert src dst x) (hx : a.eval x = .string s)
    (h : ∀ A c w', Rd w' w'.heap.size A (bytesV s.data.toList) → s.size ≤ c → Below w.heap.size w w' → wpList P ops Q rest (a.put o.dst (.slice A s.size c)) w') : wpList P ops Q (o :: rest) a w := by
  refine wpList_plain hgd fun K hK => ?_
  have hrun := run_bytes_of_string (P := P) w src dst e s hs hd he
  unfold Oper.wp execOp
  simp only [ho, hx]
  simp only [Sem.run_bind, hrun, Result.andThen_ok, Sem.run_pure]
  refine hK _ _ (h _ _ _ (rd_bytesRow w.drew s _ e _ _ rfl) (grownCap_ge w s.size 0 e) ?_)
  exact (Below.refl _ _).drew.alloc (Nat.le_refl _) _
theorem wpList_bytes_cap {w : World} {ops : Array Oper} {rest : List Oper} {o : Oper} {a : Act} {Q : Exit → Act → World → Prop} {src dst e : TypeId} {x : Operand} {s : ByteArray}
    (hs : P.underlying src = some .string) (hd : P.underlying dst = some (.slice e)) (he : P.underlying e = some (.int .u8))
    (hgd : o.guard = none) (ho : o.op = .convert src dst x) (hx : a.eval x = .string s) (hm : s.size ≤ maxLen)
    (h : ∀ c w', Rd w' w'.heap.size (some ⟨w.heap.size, 0, none⟩) (bytesV s.data.toList) → s.size ≤ c → c ≤ maxLen → Below w.heap.size w w' → wpList P ops Q rest (a.put o.dst (.slice (some ⟨w.heap.size, 0, none⟩) s.size c)) w') : wpList P ops Q (o :: rest) a w := by
  refine wpList_plain hgd fun K hK => ?_
  have hrun := run_bytes_of_string (P := P) w src dst e s hs hd he
  unfold Oper.wp execOp
  simp only [ho, hx]
  simp only [Sem.run_bind, hrun, Result.andThen_ok, Sem.run_pure]
  refine hK _ _ (h _ _ (rd_bytesRow w.drew s _ e _ _ rfl) (grownCap_ge w s.size 0 e) (grownCap_le_maxLen w s.size 0 e hm) ?_)
  exact (Below.refl _ _).drew.alloc (Nat.le_refl _) _
end
end Go.Proofs.YtlkikjeccamheaaDoor
