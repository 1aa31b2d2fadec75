/-
  Walks: the examples (lives), the laws Sha256 and Sha512.
-/
import Derived.Test.YtfpbcihpjcocmaaDoorTopS
namespace Go.Proofs.YtfpbcihpjcocmaaDoor
set_option linter.unusedSimpArgs false
set_option linter.unusedVariables false
open Go.RowKit

theorem take4 {l : List UInt8} {a b c d : UInt8} (h : l.take 4 = [a, b, c, d]) : l[0]? = some a ∧ l[1]? = some b ∧ l[2]? = some c ∧ l[3]? = some d := by
  have e : ∀ i, i < 4 → l[i]? = (l.take 4)[i]? := fun i hi => by rw [List.getElem?_take, if_pos hi]
  rw [e 0 (by decide), e 1 (by decide), e 2 (by decide), e 3 (by decide), h]
  exact ⟨rfl, rfl, rfl, rfl⟩
theorem own_byte {w : World} {B e n g c i : Nat} {l : List UInt8} {z : UInt8} (h : OwnX w B e 1 (.slice (some ⟨g, 0, none⟩) n c) n (bytesV l)) (hz : l[i]? = some z) : w.cell? ⟨g, i, none⟩ = some (.int .u8 (z.toNat : Int)) :=
  h.atN (by rw [bytesV, List.getElem?_map, hz]; rfl)
set_option maxRecDepth 100000 in
set_option maxHeartbeats 1000000 in
theorem lives_any (w : World) (hG : TabG w) : Calls Tryd.prog 12 #[] w fun e w' => e = .returned (.bool true) ∧ Below w.heap.size w w' := by
  have HG := Lib.hid hG
  clear hG
  go_enter Tryd.func12, Tryd.ntmps12
  go_wp2_with fail
  refine calls_then (p256_any [] none 0 0 w (Rd.nil _ _ _) (Nat.zero_le _) (by decide) (Nat.le_refl _) (by decide) HG.out) ?_
  rintro e w1 ⟨A1, c1, rfl, ho1, hb1⟩
  obtain ⟨g1, rfl, hg1, hg2⟩ := (OwnX.of ho1).ptr (by decide)
  have HO1 := Lib.hid (OwnX.of ho1)
  have HB1 := Lib.hid hb1
  clear ho1 hb1
  go_wp2_with fail
  refine calls_then (p512_any [] none 0 0 w1 (Rd.nil _ _ _) (Nat.zero_le _) (by decide) (Nat.le_refl _) (by decide) (HG.out.below HB1.out HG.out.size)) ?_
  rintro e w2 ⟨A2, c2, rfl, ho2, hb2⟩
  obtain ⟨g3, rfl, hg3, hg4⟩ := (OwnX.of ho2).ptr (by decide)
  have ho1' := HO1.out.below hb2 (Nat.le_refl _)
  obtain ⟨z0, z1, z2, z3⟩ := take4 dig_empty32
  obtain ⟨y0, y1, y2, y3⟩ := take4 dig_empty64
  have d0 := own_byte ho1' z0
  have d1 := own_byte ho1' z1
  have d2 := own_byte ho1' z2
  have d3 := own_byte ho1' z3
  have e0 := own_byte (OwnX.of ho2) y0
  have e1 := own_byte (OwnX.of ho2) y1
  have e2 := own_byte (OwnX.of ho2) y2
  have e3 := own_byte (OwnX.of ho2) y3
  have hc1 := ho1'.le_cap
  have hc2 := (OwnX.of ho2).le_cap
  have HBB : Hid (Below w.heap.size w w2) := Lib.hid (HB1.out.trans (hb2.mono HB1.out.size))
  clear z0 z1 z2 z3 y0 y1 y2 y3 ho1' ho2 hb2 HO1 HB1 HG hg1 hg2 hg3 hg4
  simp at d0 d1 d2 d3 e0 e1 e2 e3
  go_wp2_with fail
  go_ret
  exact ⟨rfl, HBB.out⟩
set_option maxRecDepth 100000 in
set_option maxHeartbeats 1000000 in
theorem sha256_any (l : List UInt8) (A : Option Addr) (c : Nat) (w : World) (hr : Rd w w.heap.size A (bytesV l)) (hc : l.length ≤ c) (hcm : c ≤ 9223372036854775807) (hG : TabG w) :
    Calls Tryd.prog 3 #[.slice A l.length c] w fun e w' => e = .returned (.bool true) ∧ Below w.heap.size w w' := by
  obtain ⟨l4, hl4⟩ : ∃ x, x = l.take 400 := ⟨_, rfl⟩
  have hr4 : Rd w w.heap.size A (bytesV l4) := by rw [hl4, bytesV, List.map_take]; exact rd_take hr 400
  have hl1 : l4.length ≤ 1000 := by rw [hl4, List.length_take]; omega
  have hl2 : l4.length ≤ c := by rw [hl4, List.length_take]; omega
  have hf := few_any l A c _ w hr hc hcm
  rw [← hl4] at hf
  have HG := Lib.hid hG
  have HR := Lib.hid hr4
  clear hl4 hr hc hG hr4
  go_enter Tryd.func3, Tryd.ntmps3
  go_wp2_with fail
  refine calls_then hf ?_
  rintro e w0 ⟨rfl, rfl⟩
  clear hf
  go_wp2_with fail
  refine calls_then (p256_any l4 A c _ w HR.out (Nat.le_refl _) hl1 hl2 hcm HG.out) ?_
  rintro e w1 ⟨A1, c1, rfl, ho1, hb1⟩
  have HO1 := Lib.hid (OwnX.of ho1)
  have HB1 := Lib.hid hb1
  clear ho1 hb1
  go_wp2_with fail
  refine calls_then (r256_any l4 A c _ w1 ((HR.out.below HB1.out).mono HB1.out.size) (Nat.le_refl _) hl1 hl2) ?_
  rintro e w2 ⟨A2, c2, rfl, ho2, hb2⟩
  have HO2 := Lib.hid ho2
  have HB2 := Lib.hid hb2
  have HO1' := Lib.hid (HO1.out.below hb2 (Nat.le_refl _))
  clear ho2 hb2 HO1
  go_wp2_with fail
  have hd : (digS F32 l4).length = 32 := by have := HO2.out.1; rwa [bytesV_length, Nat.mul_one] at this
  have hs := same_any (digS F32 l4) (digS F32 l4) A1 A2 c1 c2 _ _ w2 (Rd.of_own (HO1'.out) (Nat.le_refl _)) (Rd.of_own HO2.out (Nat.le_refl _))
  rw [hd] at hs
  refine calls_then hs ?_
  rintro e w3 ⟨rfl, rfl⟩
  rw [decide_eq_true rfl]
  have hbb : Below w.heap.size w w2 := HB1.out.trans (HB2.out.mono HB1.out.size)
  have HBB := Lib.hid hbb
  clear hs hd hbb
  go_wp2_with fail
  refine calls_then (lives_any w2 (HG.out.below HBB.out HG.out.size)) ?_
  rintro e w4 ⟨rfl, hb4⟩
  have HB4 := Lib.hid (HBB.out.trans (hb4.mono HBB.out.size))
  clear hb4
  go_wp2_with fail
  go_ret
  exact ⟨rfl, HB4.out⟩
set_option maxRecDepth 100000 in
set_option maxHeartbeats 1000000 in
theorem sha512_any (l : List UInt8) (A : Option Addr) (c : Nat) (w : World) (hr : Rd w w.heap.size A (bytesV l)) (hc : l.length ≤ c) (hcm : c ≤ 9223372036854775807) (hG : TabG w) :
    Calls Tryd.prog 4 #[.slice A l.length c] w fun e w' => e = .returned (.bool true) ∧ Below w.heap.size w w' := by
  obtain ⟨l4, hl4⟩ : ∃ x, x = l.take 400 := ⟨_, rfl⟩
  have hr4 : Rd w w.heap.size A (bytesV l4) := by rw [hl4, bytesV, List.map_take]; exact rd_take hr 400
  have hl1 : l4.length ≤ 1000 := by rw [hl4, List.length_take]; omega
  have hl2 : l4.length ≤ c := by rw [hl4, List.length_take]; omega
  have hf := few_any l A c _ w hr hc hcm
  rw [← hl4] at hf
  have HG := Lib.hid hG
  have HR := Lib.hid hr4
  clear hl4 hr hc hG hr4
  go_enter Tryd.func4, Tryd.ntmps4
  go_wp2_with fail
  refine calls_then hf ?_
  rintro e w0 ⟨rfl, rfl⟩
  clear hf
  go_wp2_with fail
  refine calls_then (p512_any l4 A c _ w HR.out (Nat.le_refl _) hl1 hl2 hcm HG.out) ?_
  rintro e w1 ⟨A1, c1, rfl, ho1, hb1⟩
  have HO1 := Lib.hid (OwnX.of ho1)
  have HB1 := Lib.hid hb1
  clear ho1 hb1
  go_wp2_with fail
  refine calls_then (r512_any l4 A c _ w1 ((HR.out.below HB1.out).mono HB1.out.size) (Nat.le_refl _) hl1 hl2) ?_
  rintro e w2 ⟨A2, c2, rfl, ho2, hb2⟩
  have HO2 := Lib.hid ho2
  have HB2 := Lib.hid hb2
  have HO1' := Lib.hid (HO1.out.below hb2 (Nat.le_refl _))
  clear ho2 hb2 HO1
  go_wp2_with fail
  have hd : (digS F64 l4).length = 64 := by have := HO2.out.1; rwa [bytesV_length, Nat.mul_one] at this
  have hs := same_any (digS F64 l4) (digS F64 l4) A1 A2 c1 c2 _ _ w2 (Rd.of_own (HO1'.out) (Nat.le_refl _)) (Rd.of_own HO2.out (Nat.le_refl _))
  rw [hd] at hs
  refine calls_then hs ?_
  rintro e w3 ⟨rfl, rfl⟩
  rw [decide_eq_true rfl]
  have hbb : Below w.heap.size w w2 := HB1.out.trans (HB2.out.mono HB1.out.size)
  have HBB := Lib.hid hbb
  clear hs hd hbb
  go_wp2_with fail
  refine calls_then (lives_any w2 (HG.out.below HBB.out HG.out.size)) ?_
  rintro e w4 ⟨rfl, hb4⟩
  have HB4 := Lib.hid (HBB.out.trans (hb4.mono HBB.out.size))
  clear hb4
  go_wp2_with fail
  go_ret
  exact ⟨rfl, HB4.out⟩
end Go.Proofs.YtfpbcihpjcocmaaDoor
