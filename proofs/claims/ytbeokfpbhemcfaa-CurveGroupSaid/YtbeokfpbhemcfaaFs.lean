/-
  Walk: the field's Sub.
-/
import Derived.Test.YtbeokfpbhemcfaaFa
namespace Go.Proofs.Ytbeokfpbhemcfaa
set_option linter.unusedSimpArgs false
set_option linter.unusedVariables false
open Go.RowKit

set_option maxRecDepth 100000 in
set_option maxHeartbeats 2000000 in
theorem sub_any (x y : E5) (w : World) (hx : x.Lt 9223372036854775808) (hy : y.Lt 18446744073709551616) : Calls Try.prog 48 #[.agg (eV x), .agg (eV y)] w (ElemPost (subE x y) w) := by
  have hu := Try.underlying26
  have hst0 : G3 w w.heap.size (w.heap.size + 1) (w.heap.size + 1 + 1) (eV x) (eV y) (eV zE) _ := g3_new w (eV x) (eV y) (eV zE)
  have hz : (carryE y).Lt 2251799813947392 := carry_lt hy
  have HX := Lib.hid hx
  have HY := Lib.hid hy
  have HZ := Lib.hid hz
  have HST0 := Lib.hid hst0
  clear hx hy hz hst0
  go_enter Try.func48, Try.ntmps48
  go_wp2_with (refine wpList_get_box (x := .tmp 3) HST0.out.y rfl rfl rfl hu rfl elem_size ?_)
  generalize hr : w.heap.size + 1 + 1 = r at *
  generalize hh : w.heap.size + 1 = h at *
  generalize hg : w.heap.size = g at *
  have HR := Lib.hid hr
  have HH := Lib.hid hh
  have HG := Lib.hid hg
  clear hr hh hg
  refine calls_then (carried_any y _ HY.out) ?_
  rintro e w2 ⟨rfl, hb2⟩
  have hs2 := HST0.out.next hb2
  have HS2 := Lib.hid hs2
  clear HST0 hs2 hb2
  go_wp2_with (refine wpList_put_box (x := .tmp 3) (cells := eV (carryE y)) HS2.out.y rfl rfl rfl rfl elem_size rfl (by simp [eV, wV, limbs, Value.oneCell']) ?_; intro w3 hb3 hw3)
  have hs3 : G3 w g h r (mixV (rawSub x (carryE y)) x 0) (eV (carryE y)) (eV zE) w3 := HS2.out.putY hw3 hb3
  have HS3 := Lib.hid hs3
  clear HS2 hs3 hb3 hw3
  go_loopw [9] (fun i wr => ∃ k : Nat, k ≤ 5 ∧ i = .int .i64 k ∧ G3 w g h r (mixV (rawSub x (carryE y)) x k) (eV (carryE y)) (eV zE) wr) (fun i _ => 5 - (intOf i).toNat)
  case atStart => exact ⟨0, by omega, rfl, HS3.out⟩
  case round =>
    clear HS3
    obtain ⟨k, hk, rfl, hst⟩ := hrel
    by_cases hlt : k < 5
    · have hlt' : (k : Int) < 5 := by omega
      obtain ⟨l, hl⟩ : ∃ l, l = (limbs x).getD k 0 := ⟨_, rfl⟩
      obtain ⟨m, hm⟩ : ∃ m, m = (limbs (carryE y)).getD k 0 := ⟨_, rfl⟩
      have hll : l < 9223372036854775808 := by rw [hl]; exact limb_lt HX.out (by decide) k
      have hml : m < 2251799813947392 := by rw [hm]; exact limb_lt HZ.out (by decide) k
      have hset := mixV_set (rawSub x (carryE y)) x k hlt
      rw [rawSub_at _ _ _ hlt, ← hl, ← hm] at hset
      have ex : (mixV (rawSub x (carryE y)) x k)[k]? = some (.int .u64 (l : Int)) := by rw [hl]; exact mixV_at _ _ _ hlt
      have ey : (eV (carryE y))[k]? = some (.int .u64 (m : Int)) := by rw [hm]; exact eV_at _ _ hlt
      have HEX := Lib.hid ex
      have HEY := Lib.hid ey
      have HLL := Lib.hid hll
      have HML := Lib.hid hml
      by_cases h0 : k = 0
      · subst h0
        rw [if_pos rfl] at hset
        have HSET := Lib.hid hset
        have HC0 := hst.drew
        clear hset ex ey hst hl hm hll hml hlt' hlt
        rw [show ((0 : Nat) : Int) = 0 from rfl]
        go_wp2_with fail
        refine wp_region_det (fun u => G3 w g h r (mixV (rawSub x (carryE y)) x 0) (eV (carryE y)) (eV zE) u) (fun u => G3 w g h r (mixV (rawSub x (carryE y)) x (0 + 1)) (eV (carryE y)) (eV zE) u) [(0, some 16), (1, some 17), (2, some 18), (3, some 19), (4, some 20), (5, some 21), (6, some 22), (7, some 23), (8, some 24), (9, some 25), (10, some 26), (11, some 27), (12, some 28), (13, none)] (by kernel_rfl) (by kernel_rfl) (by decide) (by kernel_rfl) (fun _ => rfl) HC0 ?_
        apply DetL.next
        · -- 0: Op.move (Operand.tmp 5)
          apply detStep_plain []
          exact fun _ => rfl
          rfl
          rintro vals - w1 hC1 E hE
          simp only [puts, act_put, act_put_none, List.setIfInBounds_toArray, List.set_cons_zero, List.set_cons_succ] at hE ⊢
          go_wp2
          exact .mk (hE _ hC1)
        apply DetL.next
        · -- 1: Op.fieldAddr 26 (Operand.tmp 2) 0
          apply detStep_plain []
          exact fun _ => rfl
          rfl
          rintro vals ⟨-, -⟩ w1 hC1 E hE
          simp only [puts, act_put, act_put_none, List.setIfInBounds_toArray, List.set_cons_zero, List.set_cons_succ] at hE ⊢
          go_wp2
          exact .mk (hE _ hC1)
        apply DetL.next
        · -- 2: Op.indexAddr 24 (Operand.tmp 17) (Operand.tmp 16)
          apply detStep_plain [(1, some 17), (0, some 16)]
          exact fun _ => rfl
          rfl
          rintro vals ⟨⟨-, f0⟩, f1⟩ w1 hC1 E hE
          simp only [puts, act_put, act_put_none, List.setIfInBounds_toArray, List.set_cons_zero, List.set_cons_succ, f0, f1] at hE ⊢
          clear f0 f1
          go_wp2
          exact .mk (hE _ hC1)
        apply DetL.next
        · -- 3: Op.load 23 (Operand.tmp 18)
          apply detStep_plain [(2, some 18)]
          exact fun _ => rfl
          rfl
          rintro vals ⟨⟨⟨-, -⟩, -⟩, f2⟩ w1 hC1 E hE
          have d0 := hC1.x.cell 0
          rw [HEX.out] at d0
          simp only [puts, act_put, act_put_none, List.setIfInBounds_toArray, List.set_cons_zero, List.set_cons_succ, f2] at hE ⊢
          clear f2
          go_wp2
          exact .mk (hE _ hC1)
        apply DetL.next
        · -- 4: Op.move (Operand.tmp 6)
          apply detStep_plain []
          exact fun _ => rfl
          rfl
          rintro vals ⟨⟨⟨⟨-, -⟩, -⟩, -⟩, -⟩ w1 hC1 E hE
          simp only [puts, act_put, act_put_none, List.setIfInBounds_toArray, List.set_cons_zero, List.set_cons_succ] at hE ⊢
          go_wp2
          exact .mk (hE _ hC1)
        apply DetL.next
        · -- 5: Op.move (Operand.tmp 5)
          apply detStep_plain []
          exact fun _ => rfl
          rfl
          rintro vals ⟨⟨⟨⟨⟨-, -⟩, -⟩, -⟩, -⟩, -⟩ w1 hC1 E hE
          simp only [puts, act_put, act_put_none, List.setIfInBounds_toArray, List.set_cons_zero, List.set_cons_succ] at hE ⊢
          go_wp2
          exact .mk (hE _ hC1)
        apply DetL.next
        · -- 6: Op.fieldAddr 26 (Operand.tmp 3) 0
          apply detStep_plain []
          exact fun _ => rfl
          rfl
          rintro vals ⟨⟨⟨⟨⟨⟨-, -⟩, -⟩, -⟩, -⟩, -⟩, -⟩ w1 hC1 E hE
          simp only [puts, act_put, act_put_none, List.setIfInBounds_toArray, List.set_cons_zero, List.set_cons_succ] at hE ⊢
          go_wp2
          exact .mk (hE _ hC1)
        apply DetL.next
        · -- 7: Op.indexAddr 24 (Operand.tmp 22) (Operand.tmp 21)
          apply detStep_plain [(6, some 22), (5, some 21)]
          exact fun _ => rfl
          rfl
          rintro vals ⟨⟨⟨⟨⟨⟨⟨-, -⟩, -⟩, -⟩, -⟩, -⟩, f5⟩, f6⟩ w1 hC1 E hE
          simp only [puts, act_put, act_put_none, List.setIfInBounds_toArray, List.set_cons_zero, List.set_cons_succ, f5, f6] at hE ⊢
          clear f5 f6
          go_wp2
          exact .mk (hE _ hC1)
        apply DetL.next
        · -- 8: Op.load 23 (Operand.tmp 23)
          apply detStep_plain [(7, some 23)]
          exact fun _ => rfl
          rfl
          rintro vals ⟨⟨⟨⟨⟨⟨⟨⟨-, -⟩, -⟩, -⟩, -⟩, -⟩, -⟩, -⟩, f7⟩ w1 hC1 E hE
          have d0 := hC1.y.cell 0
          rw [HEY.out] at d0
          simp only [puts, act_put, act_put_none, List.setIfInBounds_toArray, List.set_cons_zero, List.set_cons_succ, f7] at hE ⊢
          clear f7
          go_wp2
          exact .mk (hE _ hC1)
        apply DetL.next
        · -- 9: Op.binOp BinOp.sub 23 (Operand.tmp 20) (Operand.tmp 24) 23
          apply detStep_plain [(4, some 20), (8, some 24)]
          exact fun _ => rfl
          rfl
          rintro vals ⟨⟨⟨⟨⟨⟨⟨⟨⟨-, -⟩, -⟩, -⟩, -⟩, f4⟩, -⟩, -⟩, -⟩, f8⟩ w1 hC1 E hE
          simp only [puts, act_put, act_put_none, List.setIfInBounds_toArray, List.set_cons_zero, List.set_cons_succ, f4, f8] at hE ⊢
          clear f4 f8
          go_wp2
          rw [show IntKind.u64.wrap (4503599627370458 - (m : Int)) = ((4503599627370458 - m : Nat) : Int) by have := HML.out; rw [IntKind.wrap_u64]; omega]
          exact .mk (hE _ hC1)
        apply DetL.next
        · -- 10: Op.binOp BinOp.add 23 (Operand.tmp 19) (Operand.tmp 25) 23
          apply detStep_plain [(3, some 19), (9, some 25)]
          exact fun _ => rfl
          rfl
          rintro vals ⟨⟨⟨⟨⟨⟨⟨⟨⟨⟨-, -⟩, -⟩, -⟩, f3⟩, -⟩, -⟩, -⟩, -⟩, -⟩, f9⟩ w1 hC1 E hE
          simp only [puts, act_put, act_put_none, List.setIfInBounds_toArray, List.set_cons_zero, List.set_cons_succ, f3, f9] at hE ⊢
          clear f3 f9
          go_wp2
          rw [add_w64' l (4503599627370458 - m) (by have := HLL.out; have := HML.out; omega)]
          exact .mk (hE _ hC1)
        apply DetL.next
        · -- 11: Op.fieldAddr 26 (Operand.tmp 2) 0
          apply detStep_plain []
          exact fun _ => rfl
          rfl
          rintro vals ⟨⟨⟨⟨⟨⟨⟨⟨⟨⟨⟨-, -⟩, -⟩, -⟩, -⟩, -⟩, -⟩, -⟩, -⟩, -⟩, -⟩, -⟩ w1 hC1 E hE
          simp only [puts, act_put, act_put_none, List.setIfInBounds_toArray, List.set_cons_zero, List.set_cons_succ] at hE ⊢
          go_wp2
          exact .mk (hE _ hC1)
        apply DetL.next
        · -- 12: Op.indexAddr 24 (Operand.tmp 27) (Operand.tmp 16)
          apply detStep_plain [(11, some 27), (0, some 16), (0, some 16), (1, some 17), (2, some 18), (3, some 19), (4, some 20), (5, some 21), (6, some 22), (7, some 23), (8, some 24), (9, some 25), (10, some 26)]
          exact fun _ => rfl
          rfl
          rintro vals ⟨⟨⟨⟨⟨⟨⟨⟨⟨⟨⟨⟨-, f0⟩, f1⟩, f2⟩, f3⟩, f4⟩, f5⟩, f6⟩, f7⟩, f8⟩, f9⟩, f10⟩, f11⟩ w1 hC1 E hE
          simp only [puts, act_put, act_put_none, List.setIfInBounds_toArray, List.set_cons_zero, List.set_cons_succ, f0, f1, f2, f3, f4, f5, f6, f7, f8, f9, f10, f11] at hE ⊢
          clear f0 f1 f2 f3 f4 f5 f6 f7 f8 f9 f10 f11
          go_wp2
          exact .mk (hE _ hC1)
        apply DetL.last (v := undef)
        · -- 13: Op.store 23 (Operand.tmp 28) (Operand.tmp 26)
          apply detStep_plain [(12, some 28), (10, some 26), (0, some 16), (1, some 17), (2, some 18), (3, some 19), (4, some 20), (5, some 21), (6, some 22), (7, some 23), (8, some 24), (9, some 25), (10, some 26)]
          exact fun _ => rfl
          rfl
          rintro vals ⟨⟨⟨⟨⟨⟨⟨⟨⟨⟨⟨⟨⟨-, f0⟩, f1⟩, f2⟩, f3⟩, f4⟩, f5⟩, f6⟩, f7⟩, f8⟩, f9⟩, f10⟩, -⟩, f12⟩ w1 hC1 E hE
          have d0 := hC1.x.cell 0
          rw [HEX.out] at d0
          have q0 := hC1.x.free 0
          simp only [puts, act_put, act_put_none, List.setIfInBounds_toArray, List.set_cons_zero, List.set_cons_succ, f0, f1, f2, f3, f4, f5, f6, f7, f8, f9, f10, f12] at hE ⊢
          clear f0 f1 f2 f3 f4 f5 f6 f7 f8 f9 f10 f12
          go_wp2
          refine .mk (hE _ (hC1.putX (wrote_setCell_at _ _ _ _) ?_))
          have h := blk_setCell_at (i := 0) hC1.x (.int .u64 ((l + (4503599627370458 - m) : Nat) : Int))
          rw [HSET.out] at h
          exact h
        rintro vals ⟨⟨⟨⟨⟨⟨⟨⟨⟨⟨⟨⟨⟨⟨-, f0⟩, f1⟩, f2⟩, f3⟩, f4⟩, f5⟩, f6⟩, f7⟩, f8⟩, f9⟩, f10⟩, f11⟩, f12⟩, f13⟩ w1 hC1
        simp only [puts, act_put, act_put_none, List.setIfInBounds_toArray, List.set_cons_zero, List.set_cons_succ, f0, f1, f2, f3, f4, f5, f6, f7, f8, f9, f10, f11, f12, f13]
        clear f0 f1 f2 f3 f4 f5 f6 f7 f8 f9 f10 f11 f12 f13
        clear HC0
        have HC1 := Lib.hid hC1
        clear hC1
        go_wp2_with fail
        exact ⟨⟨1, by omega, by go_num, HC1.out⟩, by simp [intOf]⟩
      · rw [if_neg h0] at hset
        have HSET := Lib.hid hset
        have HC0 := hst.drew
        have hb : ((k : Int) == 0) = false := by rw [beq_eq_false_iff_ne]; omega
        clear hset ex ey hst hl hm hll hml
        go_wp2_with fail
        refine wp_region_det (fun u => G3 w g h r (mixV (rawSub x (carryE y)) x k) (eV (carryE y)) (eV zE) u) (fun u => G3 w g h r (mixV (rawSub x (carryE y)) x (k + 1)) (eV (carryE y)) (eV zE) u) [(0, some 16), (1, some 17), (2, some 18), (3, some 19), (4, some 20), (5, some 21), (6, some 22), (7, some 23), (8, some 24), (9, some 25), (10, some 26), (11, some 27), (12, some 28), (13, none)] (by kernel_rfl) (by kernel_rfl) (by decide) (by kernel_rfl) (fun _ => rfl) HC0 ?_
        apply DetL.next
        · -- 0: Op.move (Operand.tmp 5)
          apply detStep_plain []
          exact fun _ => rfl
          rfl
          rintro vals - w1 hC1 E hE
          simp only [puts, act_put, act_put_none, List.setIfInBounds_toArray, List.set_cons_zero, List.set_cons_succ] at hE ⊢
          go_wp2
          exact .mk (hE _ hC1)
        apply DetL.next
        · -- 1: Op.fieldAddr 26 (Operand.tmp 2) 0
          apply detStep_plain []
          exact fun _ => rfl
          rfl
          rintro vals ⟨-, -⟩ w1 hC1 E hE
          simp only [puts, act_put, act_put_none, List.setIfInBounds_toArray, List.set_cons_zero, List.set_cons_succ] at hE ⊢
          go_wp2
          exact .mk (hE _ hC1)
        apply DetL.next
        · -- 2: Op.indexAddr 24 (Operand.tmp 17) (Operand.tmp 16)
          apply detStep_plain [(1, some 17), (0, some 16)]
          exact fun _ => rfl
          rfl
          rintro vals ⟨⟨-, f0⟩, f1⟩ w1 hC1 E hE
          simp only [puts, act_put, act_put_none, List.setIfInBounds_toArray, List.set_cons_zero, List.set_cons_succ, f0, f1] at hE ⊢
          clear f0 f1
          go_wp2
          exact .mk (hE _ hC1)
        apply DetL.next
        · -- 3: Op.load 23 (Operand.tmp 18)
          apply detStep_plain [(2, some 18)]
          exact fun _ => rfl
          rfl
          rintro vals ⟨⟨⟨-, -⟩, -⟩, f2⟩ w1 hC1 E hE
          have d0 := hC1.x.cell k
          rw [HEX.out] at d0
          simp only [puts, act_put, act_put_none, List.setIfInBounds_toArray, List.set_cons_zero, List.set_cons_succ, f2] at hE ⊢
          clear f2
          go_wp2
          exact .mk (hE _ hC1)
        apply DetL.next
        · -- 4: Op.move (Operand.tmp 6)
          apply detStep_plain []
          exact fun _ => rfl
          rfl
          rintro vals ⟨⟨⟨⟨-, -⟩, -⟩, -⟩, -⟩ w1 hC1 E hE
          simp only [puts, act_put, act_put_none, List.setIfInBounds_toArray, List.set_cons_zero, List.set_cons_succ] at hE ⊢
          go_wp2
          exact .mk (hE _ hC1)
        apply DetL.next
        · -- 5: Op.move (Operand.tmp 5)
          apply detStep_plain []
          exact fun _ => rfl
          rfl
          rintro vals ⟨⟨⟨⟨⟨-, -⟩, -⟩, -⟩, -⟩, -⟩ w1 hC1 E hE
          simp only [puts, act_put, act_put_none, List.setIfInBounds_toArray, List.set_cons_zero, List.set_cons_succ] at hE ⊢
          go_wp2
          exact .mk (hE _ hC1)
        apply DetL.next
        · -- 6: Op.fieldAddr 26 (Operand.tmp 3) 0
          apply detStep_plain []
          exact fun _ => rfl
          rfl
          rintro vals ⟨⟨⟨⟨⟨⟨-, -⟩, -⟩, -⟩, -⟩, -⟩, -⟩ w1 hC1 E hE
          simp only [puts, act_put, act_put_none, List.setIfInBounds_toArray, List.set_cons_zero, List.set_cons_succ] at hE ⊢
          go_wp2
          exact .mk (hE _ hC1)
        apply DetL.next
        · -- 7: Op.indexAddr 24 (Operand.tmp 22) (Operand.tmp 21)
          apply detStep_plain [(6, some 22), (5, some 21)]
          exact fun _ => rfl
          rfl
          rintro vals ⟨⟨⟨⟨⟨⟨⟨-, -⟩, -⟩, -⟩, -⟩, -⟩, f5⟩, f6⟩ w1 hC1 E hE
          simp only [puts, act_put, act_put_none, List.setIfInBounds_toArray, List.set_cons_zero, List.set_cons_succ, f5, f6] at hE ⊢
          clear f5 f6
          go_wp2
          exact .mk (hE _ hC1)
        apply DetL.next
        · -- 8: Op.load 23 (Operand.tmp 23)
          apply detStep_plain [(7, some 23)]
          exact fun _ => rfl
          rfl
          rintro vals ⟨⟨⟨⟨⟨⟨⟨⟨-, -⟩, -⟩, -⟩, -⟩, -⟩, -⟩, -⟩, f7⟩ w1 hC1 E hE
          have d0 := hC1.y.cell k
          rw [HEY.out] at d0
          simp only [puts, act_put, act_put_none, List.setIfInBounds_toArray, List.set_cons_zero, List.set_cons_succ, f7] at hE ⊢
          clear f7
          go_wp2
          exact .mk (hE _ hC1)
        apply DetL.next
        · -- 9: Op.binOp BinOp.sub 23 (Operand.tmp 20) (Operand.tmp 24) 23
          apply detStep_plain [(4, some 20), (8, some 24)]
          exact fun _ => rfl
          rfl
          rintro vals ⟨⟨⟨⟨⟨⟨⟨⟨⟨-, -⟩, -⟩, -⟩, -⟩, f4⟩, -⟩, -⟩, -⟩, f8⟩ w1 hC1 E hE
          simp only [puts, act_put, act_put_none, List.setIfInBounds_toArray, List.set_cons_zero, List.set_cons_succ, f4, f8] at hE ⊢
          clear f4 f8
          go_wp2
          rw [show IntKind.u64.wrap (4503599627370494 - (m : Int)) = ((4503599627370494 - m : Nat) : Int) by have := HML.out; rw [IntKind.wrap_u64]; omega]
          exact .mk (hE _ hC1)
        apply DetL.next
        · -- 10: Op.binOp BinOp.add 23 (Operand.tmp 19) (Operand.tmp 25) 23
          apply detStep_plain [(3, some 19), (9, some 25)]
          exact fun _ => rfl
          rfl
          rintro vals ⟨⟨⟨⟨⟨⟨⟨⟨⟨⟨-, -⟩, -⟩, -⟩, f3⟩, -⟩, -⟩, -⟩, -⟩, -⟩, f9⟩ w1 hC1 E hE
          simp only [puts, act_put, act_put_none, List.setIfInBounds_toArray, List.set_cons_zero, List.set_cons_succ, f3, f9] at hE ⊢
          clear f3 f9
          go_wp2
          rw [add_w64' l (4503599627370494 - m) (by have := HLL.out; have := HML.out; omega)]
          exact .mk (hE _ hC1)
        apply DetL.next
        · -- 11: Op.fieldAddr 26 (Operand.tmp 2) 0
          apply detStep_plain []
          exact fun _ => rfl
          rfl
          rintro vals ⟨⟨⟨⟨⟨⟨⟨⟨⟨⟨⟨-, -⟩, -⟩, -⟩, -⟩, -⟩, -⟩, -⟩, -⟩, -⟩, -⟩, -⟩ w1 hC1 E hE
          simp only [puts, act_put, act_put_none, List.setIfInBounds_toArray, List.set_cons_zero, List.set_cons_succ] at hE ⊢
          go_wp2
          exact .mk (hE _ hC1)
        apply DetL.next
        · -- 12: Op.indexAddr 24 (Operand.tmp 27) (Operand.tmp 16)
          apply detStep_plain [(11, some 27), (0, some 16), (0, some 16), (1, some 17), (2, some 18), (3, some 19), (4, some 20), (5, some 21), (6, some 22), (7, some 23), (8, some 24), (9, some 25), (10, some 26)]
          exact fun _ => rfl
          rfl
          rintro vals ⟨⟨⟨⟨⟨⟨⟨⟨⟨⟨⟨⟨-, f0⟩, f1⟩, f2⟩, f3⟩, f4⟩, f5⟩, f6⟩, f7⟩, f8⟩, f9⟩, f10⟩, f11⟩ w1 hC1 E hE
          simp only [puts, act_put, act_put_none, List.setIfInBounds_toArray, List.set_cons_zero, List.set_cons_succ, f0, f1, f2, f3, f4, f5, f6, f7, f8, f9, f10, f11] at hE ⊢
          clear f0 f1 f2 f3 f4 f5 f6 f7 f8 f9 f10 f11
          go_wp2
          exact .mk (hE _ hC1)
        apply DetL.last (v := undef)
        · -- 13: Op.store 23 (Operand.tmp 28) (Operand.tmp 26)
          apply detStep_plain [(12, some 28), (10, some 26), (0, some 16), (1, some 17), (2, some 18), (3, some 19), (4, some 20), (5, some 21), (6, some 22), (7, some 23), (8, some 24), (9, some 25), (10, some 26)]
          exact fun _ => rfl
          rfl
          rintro vals ⟨⟨⟨⟨⟨⟨⟨⟨⟨⟨⟨⟨⟨-, f0⟩, f1⟩, f2⟩, f3⟩, f4⟩, f5⟩, f6⟩, f7⟩, f8⟩, f9⟩, f10⟩, -⟩, f12⟩ w1 hC1 E hE
          have d0 := hC1.x.cell k
          rw [HEX.out] at d0
          have q0 := hC1.x.free k
          simp only [puts, act_put, act_put_none, List.setIfInBounds_toArray, List.set_cons_zero, List.set_cons_succ, f0, f1, f2, f3, f4, f5, f6, f7, f8, f9, f10, f12] at hE ⊢
          clear f0 f1 f2 f3 f4 f5 f6 f7 f8 f9 f10 f12
          go_wp2
          refine .mk (hE _ (hC1.putX (wrote_setCell_at _ _ _ _) ?_))
          have h := blk_setCell_at (i := k) hC1.x (.int .u64 ((l + (4503599627370494 - m) : Nat) : Int))
          rw [HSET.out] at h
          exact h
        rintro vals ⟨⟨⟨⟨⟨⟨⟨⟨⟨⟨⟨⟨⟨⟨-, f0⟩, f1⟩, f2⟩, f3⟩, f4⟩, f5⟩, f6⟩, f7⟩, f8⟩, f9⟩, f10⟩, f11⟩, f12⟩, f13⟩ w1 hC1
        simp only [puts, act_put, act_put_none, List.setIfInBounds_toArray, List.set_cons_zero, List.set_cons_succ, f0, f1, f2, f3, f4, f5, f6, f7, f8, f9, f10, f11, f12, f13]
        clear f0 f1 f2 f3 f4 f5 f6 f7 f8 f9 f10 f11 f12 f13
        clear HC0
        have HC1 := Lib.hid hC1
        clear hC1
        go_wp2_with fail
        exact ⟨⟨k + 1, by omega, by go_num, HC1.out⟩, by simp [intOf]; omega⟩
    · obtain rfl : k = 5 := by omega
      rw [mixV_end] at hst
      have HST := Lib.hid hst
      clear hst
      go_wp2_with (refine wpList_get_box (x := .tmp 2) HST.out.x rfl rfl rfl hu rfl elem_size ?_)
      refine calls_then (carried_any (rawSub x (carryE y)) _ ?_) ?_
      · obtain ⟨a1, a2, a3, a4, a5⟩ := HX.out
        constructor <;> simp only [rawSub] <;> omega
      rintro e w2 ⟨rfl, hb2⟩
      have hs2 := HST.out.next hb2
      have HS2 := Lib.hid hs2
      clear HST hs2 hb2
      go_wp2_with (refine wpList_put_box (x := .tmp 4) (cells := eV (subE x y)) HS2.out.z rfl rfl rfl rfl elem_size rfl (by simp [eV, wV, limbs, Value.oneCell']) ?_; intro w5 hb5 hw5)
      refine bodyPost_ret (results_box (P := Try.prog) rfl rfl hb5 hu rfl elem_size) rfl ⟨rfl, ?_⟩
      exact hw5.below HS2.out.bel HS2.out.lr HS2.out.bel.size
end Go.Proofs.Ytbeokfpbhemcfaa
