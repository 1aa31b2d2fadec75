/-
  Walk: the law ShaLengths.
-/
import Derived.Test.YtfpbcihpjcocmaaDoorShaL
namespace Go.Proofs.YtfpbcihpjcocmaaDoor
set_option linter.unusedSimpArgs false
set_option linter.unusedVariables false
open Go.RowKit

structure LeSt (w0 : World) (v : Value) (n : Nat) (xs : List UInt8) (u : World) : Prop where
  bel : Below w0.heap.size w0 u
  own : OwnX u w0.heap.size 5 1 v n (bytesV xs)
/-- what follows the loop, once -/
def LePost (w : World) (e : Ending) (w' : World) : Prop := e = .returned (.bool true) ∧ Below w.heap.size w w'
set_option maxRecDepth 100000 in
set_option maxHeartbeats 2000000 in
theorem shaLengths_any (n0 z0 : Int) (w : World) (hwn : (Lit.int .i64 n0).wf = true) (hwz : (Lit.int .u8 z0).wf = true) (hG : TabG w) :
    Calls Tryd.prog 5 #[.int .i64 n0, .int .u8 z0] w (LePost w) := by
  have hn : -9223372036854775808 ≤ n0 ∧ n0 ≤ 9223372036854775807 := by
    simp [Lit.wf, IntKind.min, IntKind.max, IntKind.signed, IntKind.bits] at hwn; omega
  have hz : 0 ≤ z0 ∧ z0 ≤ 255 := by
    simp [Lit.wf, IntKind.min, IntKind.max, IntKind.signed, IntKind.bits] at hwz; omega
  obtain ⟨z, rfl⟩ : ∃ z : UInt8, z0 = (z.toNat : Int) := ⟨UInt8.ofNat z0.toNat, by simp; omega⟩
  obtain ⟨nn, hnn⟩ : ∃ nn : Int, nn = if n0 < 0 then -(n0 + 1) else n0 := ⟨_, rfl⟩
  have hnn0 : 0 ≤ nn ∧ nn ≤ 9223372036854775807 := by rw [hnn]; split <;> omega
  obtain ⟨m, hm⟩ : ∃ m : Nat, nn % 301 = (m : Int) := ⟨(nn % 301).toNat, by omega⟩
  have hm2 : m ≤ 300 := by omega
  have HG := Lib.hid hG
  have hst0 : LeSt w (.slice none 0 0) 0 (List.replicate 0 z) w := ⟨Below.refl _ _, OwnX.nil _ _ _ _⟩
  have HST0 := Lib.hid hst0
  have HNN := Lib.hid hnn
  obtain ⟨hna, hnb⟩ := hn
  obtain ⟨hn0, hn1⟩ := hnn0
  clear hwn hwz hG hst0 hz hnn
  by_cases hneg : n0 < 0
  all_goals
    have hnn := HNN.out
    first
      | (rw [if_pos hneg] at hnn)
      | (rw [if_neg hneg] at hnn)
    have HNV := Lib.hid hnn
    clear hnn HNN
    go_enter Tryd.func5, Tryd.ntmps5
    go_wp2_with fail
    first
      | (rw [show -(n0 + 1) = nn from HNV.out.symm])
      | (rw [show n0 = nn from HNV.out.symm])
    go_loopw [5, 6] (fun v i wr => ∃ (k : Nat) (A : Option Addr) (c : Nat), k ≤ m ∧ i = .int .i64 k ∧ v = .slice A k c ∧ LeSt w (.slice A k c) k (List.replicate k z) wr) (fun _ i _ => m - (intOf i).toNat)
    case atStart => exact ⟨0, none, 0, Nat.zero_le _, rfl, rfl, HST0.out⟩
    case round =>
      clear HST0
      obtain ⟨k, A, c, hk, rfl, rfl, hst⟩ := hrel
      by_cases hlt : k < m
      · have hlt' : (k : Int) < (m : Int) := by omega
        have HST := Lib.hid hst
        clear hst
        go_wp2_with (refine wpList_append_one sl_bytes rfl rfl HST.out.own rfl rfl rfl rfl (by unfold maxLen; omega) (by omega) HST.out.bel.size ?_; intro A3 c3 w3 hown3 hg3 hn3; have HOWN3 := Lib.hid hown3; have HG3 := Lib.hid hg3; clear hown3 hg3 hn3)
        refine ⟨⟨k + 1, A3, c3, by omega, by go_num, rfl, below_own HST.out.bel HST.out.own (Nat.le_refl _) HG3.out, ?_⟩, by simp [intOf]; omega⟩
        rw [List.replicate_succ', bytesV_snoc]
        exact HOWN3.out
      · obtain rfl : k = m := by omega
        obtain ⟨l, hl⟩ : ∃ l, l = List.replicate k z := ⟨_, rfl⟩
        rw [← hl] at hst
        have hll : l.length = k := by rw [hl, List.length_replicate]
        have hkc : k ≤ c ∧ c ≤ 9223372036854775807 := own_cap hst.own
        have hrd : Rd wr wr.heap.size A (bytesV l) := Rd.of_own hst.own (Nat.le_refl _)
        have HST := Lib.hid hst
        have HRD := Lib.hid hrd
        have HLL := Lib.hid hll
        have HKC := Lib.hid hkc
        have HGR : Hid (TabG wr) := Lib.hid (HG.out.below hst.bel HG.out.size)
        clear hst hl hll hrd hkc
        go_wp2_with fail
        obtain ⟨w5, rfl⟩ : ∃ x : World, x = wr := ⟨_, rfl⟩
        have hp := p256_any l A c _ w5 HRD.out (Nat.le_refl _) (by rw [HLL.out]; omega) (by rw [HLL.out]; exact HKC.out.1) HKC.out.2 HGR.out
        rw [HLL.out] at hp
        refine calls_then hp ?_
        rintro e w1 ⟨A1, c1, rfl, ho1, hb1⟩
        have HO1 := Lib.hid (OwnX.of ho1)
        have HB1 := Lib.hid hb1
        clear ho1 hb1 hp
        go_wp2_with fail
        have hq := r256_any l A c _ w1 ((HRD.out.below HB1.out).mono HB1.out.size) (Nat.le_refl _) (by rw [HLL.out]; omega) (by rw [HLL.out]; exact HKC.out.1)
        rw [HLL.out] at hq
        refine calls_then hq ?_
        rintro e w2 ⟨A2, c2, rfl, ho2, hb2⟩
        have HO2 := Lib.hid ho2
        have HB2 : Hid (Below w5.heap.size w5 w2) := Lib.hid (HB1.out.trans (hb2.mono HB1.out.size))
        have HO1' := Lib.hid (HO1.out.below hb2 (Nat.le_refl _))
        clear ho2 hb2 HO1 hq
        go_wp2_with fail
        have hd : (digS F32 l).length = 32 := by have := HO2.out.1; rwa [bytesV_length, Nat.mul_one] at this
        have hs := same_any (digS F32 l) (digS F32 l) A1 A2 c1 c2 _ _ w2 (Rd.of_own (HO1'.out) (Nat.le_refl _)) (Rd.of_own HO2.out (Nat.le_refl _))
        rw [hd] at hs
        refine calls_then hs ?_
        rintro e w3 ⟨rfl, rfl⟩
        rw [decide_eq_true rfl]
        clear hs hd HO1' HO2
        go_wp2_with fail
        have hp := p512_any l A c _ w2 ((HRD.out.below HB2.out).mono HB2.out.size) (Nat.le_refl _) (by rw [HLL.out]; omega) (by rw [HLL.out]; exact HKC.out.1) HKC.out.2 (HGR.out.below HB2.out HGR.out.size)
        rw [HLL.out] at hp
        refine calls_then hp ?_
        rintro e w6 ⟨A6, c6, rfl, ho6, hb6⟩
        have HO6 := Lib.hid (OwnX.of ho6)
        have HB6 : Hid (Below w5.heap.size w5 w6) := Lib.hid (HB2.out.trans (hb6.mono HB2.out.size))
        clear ho6 hb6 hp
        go_wp2_with fail
        have hq := r512_any l A c _ w6 ((HRD.out.below HB6.out).mono HB6.out.size) (Nat.le_refl _) (by rw [HLL.out]; omega) (by rw [HLL.out]; exact HKC.out.1)
        rw [HLL.out] at hq
        refine calls_then hq ?_
        rintro e w7 ⟨A7, c7, rfl, ho7, hb7⟩
        have HO7 := Lib.hid ho7
        have HB7 : Hid (Below w5.heap.size w5 w7) := Lib.hid (HB6.out.trans (hb7.mono HB6.out.size))
        have HO6' := Lib.hid (HO6.out.below hb7 (Nat.le_refl _))
        clear ho7 hb7 HO6 hq
        go_wp2_with fail
        have hd : (digS F64 l).length = 64 := by have := HO7.out.1; rwa [bytesV_length, Nat.mul_one] at this
        have hs := same_any (digS F64 l) (digS F64 l) A6 A7 c6 c7 _ _ w7 (Rd.of_own (HO6'.out) (Nat.le_refl _)) (Rd.of_own HO7.out (Nat.le_refl _))
        rw [hd] at hs
        refine calls_then hs ?_
        rintro e w8 ⟨rfl, rfl⟩
        rw [decide_eq_true rfl]
        clear hs hd HO6' HO7
        have hbel : Below w.heap.size w w7 := HST.out.bel.trans (HB7.out.mono HST.out.bel.size)
        have HBEL := Lib.hid hbel
        clear hbel
        go_wp2_with fail
        refine calls_then (lives_any w7 (HG.out.below HBEL.out HG.out.size)) ?_
        rintro e w9 ⟨rfl, hb9⟩
        have HB9 := Lib.hid (HBEL.out.trans (hb9.mono HBEL.out.size))
        clear hb9
        go_wp2_with fail
        go_ret
        exact ⟨rfl, HB9.out⟩
end Go.Proofs.YtfpbcihpjcocmaaDoor
