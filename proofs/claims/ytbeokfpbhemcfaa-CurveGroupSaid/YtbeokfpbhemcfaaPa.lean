/-
  Walks: the curve's Add, Neg and Equal.
-/
import Derived.Test.YtbeokfpbhemcfaaSumP
import Derived.Test.YtbeokfpbhemcfaaCd
namespace Go.Proofs.Ytbeokfpbhemcfaa
set_option linter.unusedSimpArgs false
set_option linter.unusedVariables false
open Go.RowKit

theorem d2_ok : (addE dE dE).Ok := add_ok dE_ok dE_ok
def addP (p q : Pt4) : Pt4 := sumP p q (addE dE dE)
theorem addP_ok {p q : Pt4} (hp : p.Ok) (hq : q.Ok) : (addP p q).Ok := sumP_ok hp hq d2_ok
def eqP (p q : Pt4) : Bool := eqB (mulE p.x q.z) (mulE q.x p.z) && eqB (mulE p.y q.z) (mulE q.y p.z)
set_option maxRecDepth 100000 in
set_option maxHeartbeats 1000000 in
theorem padd_any (p q : Pt4) (w : World) (hkp : p.Ok) (hkq : q.Ok) : Calls Try.prog 16 #[.agg (ptV p), .agg (ptV q)] w (PtPost (addP p q) w) := by
  have hu := Try.underlying26
  have hp := Try.underlying28
  have KP := Lib.hid hkp
  have KQ := Lib.hid hkq
  obtain ⟨X, hX⟩ : ∃ X, X = dE := ⟨_, rfl⟩
  have hadd : addP p q = sumP p q (addE X X) := by rw [hX]; rfl
  have CD := Lib.hid (show ∀ u, Calls Try.prog 31 #[] u (ElemPost X u) from fun u => by rw [hX]; exact d_any u)
  have KX := Lib.hid (show X.Ok by rw [hX]; exact dE_ok)
  rw [hadd]
  clear hX hadd
  obtain ⟨w0, hw0⟩ : ∃ w0, w0 = (((w.alloc (.cells (ptV p) 28)).alloc (.cells (ptV q) 28)).alloc (.cells (ptV zP) 28)) := ⟨_, rfl⟩
  have hst : Cs [.box (w.heap.size) 28 (ptV p), .box (w.heap.size + 1) 28 (ptV q), .box (w.heap.size + 1 + 1) 28 (ptV zP)] w w0 := by
    rw [hw0]
    exact ⟨⟨(((Blk.new _ _ _).alloc _).alloc _), ((Blk.newAt (by simp)).alloc _), (Blk.newAt (by simp)), trivial⟩, (((below_new _ _).alloc (by simp; try omega) _).alloc (by simp; try omega) _)⟩
  have HLR := Lib.hid (show w.heap.size ≤ w.heap.size + 1 + 1 by omega)
  have HW := Lib.hid hw0
  have HST0 := Lib.hid hst
  clear hw0 hst hkp hkq
  go_enter Try.func16, Try.ntmps16
  go_wp2_with fail
  show Code.wp Try.prog _ _ _ (((w.alloc (.cells (ptV p) _)).alloc (.cells (ptV q) _)).alloc (.cells (ptV zP) _))
  rw [← HW.out]
  generalize w.heap.size + 1 + 1 = r at *
  generalize w.heap.size + 1 = gq at *
  generalize hgp : w.heap.size = gp at HST0 ⊢
  clear HW hgp
  have HC0 := HST0.out.drew
  clear HST0
  refine wp_region_det (fun u => Cs [.box gp 28 (ptV p), .box gq 28 (ptV q), .box r 28 (ptV zP)] w u) (fun u => Blk u r 28 (ptV (sumP (p) (q) (addE (X) (X)))) ∧ Below w.heap.size w u) [(0, some 5), (1, some 6), (2, some 7), (3, some 8), (4, some 9), (5, some 10), (6, none)] (by kernel_rfl) (by kernel_rfl) (by decide) (by kernel_rfl) (fun _ => rfl) HC0 ?_
  apply DetL.next
  · -- 0: Op.load 28 (Operand.tmp 2)
    apply detStep_plain []
    exact fun _ => rfl
    rfl
    rintro vals - w1 hC1 E hE
    have hs := hC1
    simp only [puts, act_put, act_put_none, List.setIfInBounds_toArray, List.set_cons_zero, List.set_cons_succ] at hE ⊢
    refine wpList_get_box (hs.1.1) rfl rfl rfl hp rfl point_size ?_
    go_wp2_with fail
    exact .mk (hE _ hC1)
  apply DetL.next
  · -- 1: Op.load 28 (Operand.tmp 3)
    apply detStep_plain []
    exact fun _ => rfl
    rfl
    rintro vals ⟨-, -⟩ w1 hC1 E hE
    have hs := hC1
    simp only [puts, act_put, act_put_none, List.setIfInBounds_toArray, List.set_cons_zero, List.set_cons_succ] at hE ⊢
    refine wpList_get_box (hs.1.2.1) rfl rfl rfl hp rfl point_size ?_
    go_wp2_with fail
    exact .mk (hE _ hC1)
  apply DetL.next
  · -- 2: Op.call { callee := Callee.value (Operand.func 31), args := #[], argTypes := #[] }
    apply detStep_plain []
    exact fun _ => rfl
    rfl
    rintro vals ⟨⟨-, -⟩, -⟩ w1 hC1 E hE
    simp only [puts, act_put, act_put_none, List.setIfInBounds_toArray, List.set_cons_zero, List.set_cons_succ] at hE ⊢
    go_wp2_with fail
    refine calls_then (CD.out _) ?_
    rintro e w2 ⟨rfl, hb2⟩
    go_wp2_with fail
    exact .mk (hE _ (hC1.next hb2))
  apply DetL.next
  · -- 3: Op.call { callee := Callee.value (Operand.func 31), args := #[], argTypes := #[] }
    apply detStep_plain [(2, some 7)]
    exact fun _ => rfl
    rfl
    rintro vals ⟨⟨⟨-, -⟩, -⟩, f2⟩ w1 hC1 E hE
    simp only [puts, act_put, act_put_none, List.setIfInBounds_toArray, List.set_cons_zero, List.set_cons_succ, f2] at hE ⊢
    clear f2
    go_wp2_with fail
    refine calls_then (CD.out _) ?_
    rintro e w2 ⟨rfl, hb2⟩
    go_wp2_with fail
    exact .mk (hE _ (hC1.next hb2))
  apply DetL.next
  · -- 4: Op.call { callee := Callee.value (Operand.func 32), args := #[Operand.tmp 7, Operand.tmp 8], argTypes := #[26,
    apply detStep_plain [(2, some 7), (3, some 8), (3, some 8)]
    exact fun _ => rfl
    rfl
    rintro vals ⟨⟨⟨⟨-, -⟩, -⟩, f2⟩, f3⟩ w1 hC1 E hE
    simp only [puts, act_put, act_put_none, List.setIfInBounds_toArray, List.set_cons_zero, List.set_cons_succ, f2, f3] at hE ⊢
    clear f2 f3
    go_wp2_with fail
    refine calls_then (add_c _ _ _ (KX.out) (KX.out)) ?_
    rintro e w2 ⟨rfl, hb2⟩
    go_wp2_with fail
    exact .mk (hE _ (hC1.next hb2))
  apply DetL.next
  · -- 5: Op.call { callee := Callee.value (Operand.func 33), args := #[Operand.tmp 5, Operand.tmp 6, Operand.tmp 9], ar
    apply detStep_plain [(0, some 5), (1, some 6), (4, some 9), (4, some 9)]
    exact fun _ => rfl
    rfl
    rintro vals ⟨⟨⟨⟨⟨-, f0⟩, f1⟩, -⟩, -⟩, f4⟩ w1 hC1 E hE
    simp only [puts, act_put, act_put_none, List.setIfInBounds_toArray, List.set_cons_zero, List.set_cons_succ, f0, f1, f4] at hE ⊢
    clear f0 f1 f4
    go_wp2_with fail
    refine calls_then (sum_any _ _ _ _ (KP.out) (KQ.out) (add_ok (KX.out) (KX.out))) ?_
    rintro e w2 ⟨rfl, hb2⟩
    go_wp2_with fail
    exact .mk (hE _ (hC1.next hb2))
  apply DetL.last (v := undef)
  · -- 6: Op.store 28 (Operand.tmp 4) (Operand.tmp 10)
    apply detStep_plain [(5, some 10), (5, some 10), (0, some 5), (1, some 6), (2, some 7), (3, some 8), (4, some 9), (5, some 10)]
    exact fun _ => rfl
    rfl
    rintro vals ⟨⟨⟨⟨⟨⟨-, f0⟩, f1⟩, f2⟩, f3⟩, f4⟩, f5⟩ w1 hC1 E hE
    have hlr := HLR.out
    simp only [puts, act_put, act_put_none, List.setIfInBounds_toArray, List.set_cons_zero, List.set_cons_succ, f0, f1, f2, f3, f4, f5] at hE ⊢
    clear f0 f1 f2 f3 f4 f5
    refine wpList_put_box (cells := ptV (sumP (p) (q) (addE (X) (X)))) (hC1.1.2.2.1) rfl rfl rfl rfl point_size rfl (by simp [eV, ptV, wV, limbs, Value.oneCell']) ?_
    intro w6 hb6 hw6
    go_wp2_with fail
    exact .mk (hE _ ⟨hb6, hw6.below hC1.2 hlr hC1.2.size⟩)
  rintro vals ⟨⟨⟨⟨⟨⟨⟨-, f0⟩, f1⟩, f2⟩, f3⟩, f4⟩, f5⟩, f6⟩ w1 hC1
  simp only [puts, act_put, act_put_none, List.setIfInBounds_toArray, List.set_cons_zero, List.set_cons_succ, f0, f1, f2, f3, f4, f5, f6]
  clear f0 f1 f2 f3 f4 f5 f6
  clear HC0
  go_wp2_with fail
  refine bodyPost_ret (results_box (P := Try.prog) rfl rfl hC1.1 hp rfl point_size) rfl ⟨rfl, hC1.2⟩
set_option maxRecDepth 100000 in
set_option maxHeartbeats 1000000 in
theorem pneg_any (p : Pt4) (w : World) (hkp : p.Ok) : Calls Try.prog 23 #[.agg (ptV p)] w (PtPost (negP p) w) := by
  have hu := Try.underlying26
  have hp := Try.underlying28
  have KP := Lib.hid hkp
  obtain ⟨w0, hw0⟩ : ∃ w0, w0 = ((w.alloc (.cells (ptV p) 28)).alloc (.cells (ptV zP) 28)) := ⟨_, rfl⟩
  have hst : Cs [.box (w.heap.size) 28 (ptV p), .box (w.heap.size + 1) 28 (ptV zP)] w w0 := by
    rw [hw0]
    exact ⟨⟨((Blk.new _ _ _).alloc _), (Blk.newAt (by simp)), trivial⟩, ((below_new _ _).alloc (by simp; try omega) _)⟩
  have HLR := Lib.hid (show w.heap.size ≤ w.heap.size + 1 by omega)
  have HW := Lib.hid hw0
  have HST0 := Lib.hid hst
  clear hw0 hst hkp
  go_enter Try.func23, Try.ntmps23
  go_wp2_with fail
  show Code.wp Try.prog _ _ _ ((w.alloc (.cells (ptV p) _)).alloc (.cells (ptV zP) _))
  rw [← HW.out]
  generalize w.heap.size + 1 = r at *
  generalize hgp : w.heap.size = gp at HST0 ⊢
  clear HW hgp
  have HC0 := HST0.out.drew
  clear HST0
  refine wp_region_det (fun u => Cs [.box gp 28 (ptV p), .box r 28 (ptV zP)] w u) (fun u => Blk u r 28 (ptV (⟨subE (zE) (p.x), p.y, p.z, subE (zE) (p.t)⟩)) ∧ Below w.heap.size w u) [(0, some 3), (1, some 4), (2, some 5), (3, some 6), (4, some 7), (5, some 8), (6, some 9), (7, some 10), (8, some 11), (9, some 12), (10, some 13), (11, some 14), (12, some 15), (13, none)] (by kernel_rfl) (by kernel_rfl) (by decide) (by kernel_rfl) (fun _ => rfl) HC0 ?_
  apply DetL.next
  · -- 0: Op.build 26 #[]
    apply detStep_plain []
    exact fun _ => rfl
    rfl
    rintro vals - w1 hC1 E hE
    simp only [puts, act_put, act_put_none, List.setIfInBounds_toArray, List.set_cons_zero, List.set_cons_succ] at hE ⊢
    go_wp2
    exact .mk (hE _ hC1)
  apply DetL.next
  · -- 1: Op.fieldAddr 28 (Operand.tmp 1) 0
    apply detStep_plain []
    exact fun _ => rfl
    rfl
    rintro vals ⟨-, -⟩ w1 hC1 E hE
    simp only [puts, act_put, act_put_none, List.setIfInBounds_toArray, List.set_cons_zero, List.set_cons_succ] at hE ⊢
    go_wp2
    exact .mk (hE _ hC1)
  apply DetL.next
  · -- 2: Op.load 26 (Operand.tmp 4)
    apply detStep_plain [(1, some 4)]
    exact fun _ => rfl
    rfl
    rintro vals ⟨⟨-, -⟩, f1⟩ w1 hC1 E hE
    have hs := hC1
    simp only [puts, act_put, act_put_none, List.setIfInBounds_toArray, List.set_cons_zero, List.set_cons_succ, f1] at hE ⊢
    clear f1
    refine wpList_get_part (n := 5) (r := eV (p.x)) (hs.1.1) (by rw [ptV_size]; decide) rfl rfl rfl rfl hu rfl elem_size ?_
    go_wp2_with fail
    exact .mk (hE _ hC1)
  apply DetL.next
  · -- 3: Op.call { callee := Callee.value (Operand.func 48), args := #[Operand.tmp 3, Operand.tmp 5], argTypes := #[26,
    apply detStep_plain [(0, some 3), (2, some 5)]
    exact fun _ => rfl
    rfl
    rintro vals ⟨⟨⟨-, f0⟩, -⟩, f2⟩ w1 hC1 E hE
    simp only [puts, act_put, act_put_none, List.setIfInBounds_toArray, List.set_cons_zero, List.set_cons_succ, f0, f2] at hE ⊢
    clear f0 f2
    go_wp2_with fail
    refine calls_then (sub_z _ (KP.out.x) _) ?_
    rintro e w2 ⟨rfl, hb2⟩
    go_wp2_with fail
    exact .mk (hE _ (hC1.next hb2))
  apply DetL.next
  · -- 4: Op.fieldAddr 28 (Operand.tmp 1) 1
    apply detStep_plain []
    exact fun _ => rfl
    rfl
    rintro vals ⟨⟨⟨⟨-, -⟩, -⟩, -⟩, -⟩ w1 hC1 E hE
    simp only [puts, act_put, act_put_none, List.setIfInBounds_toArray, List.set_cons_zero, List.set_cons_succ] at hE ⊢
    go_wp2
    exact .mk (hE _ hC1)
  apply DetL.next
  · -- 5: Op.load 26 (Operand.tmp 7)
    apply detStep_plain [(4, some 7)]
    exact fun _ => rfl
    rfl
    rintro vals ⟨⟨⟨⟨⟨-, -⟩, -⟩, -⟩, -⟩, f4⟩ w1 hC1 E hE
    have hs := hC1
    simp only [puts, act_put, act_put_none, List.setIfInBounds_toArray, List.set_cons_zero, List.set_cons_succ, f4] at hE ⊢
    clear f4
    refine wpList_get_part (n := 5) (r := eV (p.y)) (hs.1.1) (by rw [ptV_size]; decide) rfl rfl rfl rfl hu rfl elem_size ?_
    go_wp2_with fail
    exact .mk (hE _ hC1)
  apply DetL.next
  · -- 6: Op.fieldAddr 28 (Operand.tmp 1) 2
    apply detStep_plain []
    exact fun _ => rfl
    rfl
    rintro vals ⟨⟨⟨⟨⟨⟨-, -⟩, -⟩, -⟩, -⟩, -⟩, -⟩ w1 hC1 E hE
    simp only [puts, act_put, act_put_none, List.setIfInBounds_toArray, List.set_cons_zero, List.set_cons_succ] at hE ⊢
    go_wp2
    exact .mk (hE _ hC1)
  apply DetL.next
  · -- 7: Op.load 26 (Operand.tmp 9)
    apply detStep_plain [(6, some 9)]
    exact fun _ => rfl
    rfl
    rintro vals ⟨⟨⟨⟨⟨⟨⟨-, -⟩, -⟩, -⟩, -⟩, -⟩, -⟩, f6⟩ w1 hC1 E hE
    have hs := hC1
    simp only [puts, act_put, act_put_none, List.setIfInBounds_toArray, List.set_cons_zero, List.set_cons_succ, f6] at hE ⊢
    clear f6
    refine wpList_get_part (n := 5) (r := eV (p.z)) (hs.1.1) (by rw [ptV_size]; decide) rfl rfl rfl rfl hu rfl elem_size ?_
    go_wp2_with fail
    exact .mk (hE _ hC1)
  apply DetL.next
  · -- 8: Op.build 26 #[]
    apply detStep_plain []
    exact fun _ => rfl
    rfl
    rintro vals ⟨⟨⟨⟨⟨⟨⟨⟨-, -⟩, -⟩, -⟩, -⟩, -⟩, -⟩, -⟩, -⟩ w1 hC1 E hE
    simp only [puts, act_put, act_put_none, List.setIfInBounds_toArray, List.set_cons_zero, List.set_cons_succ] at hE ⊢
    go_wp2
    exact .mk (hE _ hC1)
  apply DetL.next
  · -- 9: Op.fieldAddr 28 (Operand.tmp 1) 3
    apply detStep_plain []
    exact fun _ => rfl
    rfl
    rintro vals ⟨⟨⟨⟨⟨⟨⟨⟨⟨-, -⟩, -⟩, -⟩, -⟩, -⟩, -⟩, -⟩, -⟩, -⟩ w1 hC1 E hE
    simp only [puts, act_put, act_put_none, List.setIfInBounds_toArray, List.set_cons_zero, List.set_cons_succ] at hE ⊢
    go_wp2
    exact .mk (hE _ hC1)
  apply DetL.next
  · -- 10: Op.load 26 (Operand.tmp 12)
    apply detStep_plain [(9, some 12)]
    exact fun _ => rfl
    rfl
    rintro vals ⟨⟨⟨⟨⟨⟨⟨⟨⟨⟨-, -⟩, -⟩, -⟩, -⟩, -⟩, -⟩, -⟩, -⟩, -⟩, f9⟩ w1 hC1 E hE
    have hs := hC1
    simp only [puts, act_put, act_put_none, List.setIfInBounds_toArray, List.set_cons_zero, List.set_cons_succ, f9] at hE ⊢
    clear f9
    refine wpList_get_part (n := 5) (r := eV (p.t)) (hs.1.1) (by rw [ptV_size]; decide) rfl rfl rfl rfl hu rfl elem_size ?_
    go_wp2_with fail
    exact .mk (hE _ hC1)
  apply DetL.next
  · -- 11: Op.call { callee := Callee.value (Operand.func 48), args := #[Operand.tmp 11, Operand.tmp 13], argTypes := #[2
    apply detStep_plain [(8, some 11), (10, some 13), (3, some 6)]
    exact fun _ => rfl
    rfl
    rintro vals ⟨⟨⟨⟨⟨⟨⟨⟨⟨⟨⟨-, -⟩, -⟩, -⟩, f3⟩, -⟩, -⟩, -⟩, -⟩, f8⟩, -⟩, f10⟩ w1 hC1 E hE
    simp only [puts, act_put, act_put_none, List.setIfInBounds_toArray, List.set_cons_zero, List.set_cons_succ, f3, f8, f10] at hE ⊢
    clear f3 f8 f10
    go_wp2_with fail
    refine calls_then (sub_z _ (KP.out.t) _) ?_
    rintro e w2 ⟨rfl, hb2⟩
    go_wp2_with fail
    exact .mk (hE _ (hC1.next hb2))
  apply DetL.next
  · -- 12: Op.build 28 #[(0, Operand.tmp 6), (1, Operand.tmp 8), (2, Operand.tmp 10), (3, Operand.tmp 14)]
    apply detStep_plain [(3, some 6), (5, some 8), (7, some 10), (11, some 14)]
    exact fun _ => rfl
    rfl
    rintro vals ⟨⟨⟨⟨⟨⟨⟨⟨⟨⟨⟨⟨-, -⟩, -⟩, -⟩, f3⟩, -⟩, f5⟩, -⟩, f7⟩, -⟩, -⟩, -⟩, f11⟩ w1 hC1 E hE
    simp only [puts, act_put, act_put_none, List.setIfInBounds_toArray, List.set_cons_zero, List.set_cons_succ, f3, f5, f7, f11] at hE ⊢
    clear f3 f5 f7 f11
    refine wpList_build_pt (subE (zE) (p.x)) (p.y) (p.z) (subE (zE) (p.t)) rfl rfl rfl rfl rfl rfl ?_
    go_wp2_with fail
    exact .mk (hE _ hC1)
  apply DetL.last (v := undef)
  · -- 13: Op.store 28 (Operand.tmp 2) (Operand.tmp 15)
    apply detStep_plain [(12, some 15), (11, some 14), (0, some 3), (1, some 4), (2, some 5), (3, some 6), (4, some 7), (5, some 8), (6, some 9), (7, some 10), (8, some 11), (9, some 12), (10, some 13), (11, some 14), (12, some 15)]
    exact fun _ => rfl
    rfl
    rintro vals ⟨⟨⟨⟨⟨⟨⟨⟨⟨⟨⟨⟨⟨-, f0⟩, f1⟩, f2⟩, f3⟩, f4⟩, f5⟩, f6⟩, f7⟩, f8⟩, f9⟩, f10⟩, f11⟩, f12⟩ w1 hC1 E hE
    have hlr := HLR.out
    simp only [puts, act_put, act_put_none, List.setIfInBounds_toArray, List.set_cons_zero, List.set_cons_succ, f0, f1, f2, f3, f4, f5, f6, f7, f8, f9, f10, f11, f12] at hE ⊢
    clear f0 f1 f2 f3 f4 f5 f6 f7 f8 f9 f10 f11 f12
    refine wpList_put_box (cells := ptV (⟨subE (zE) (p.x), p.y, p.z, subE (zE) (p.t)⟩)) (hC1.1.2.1) rfl rfl rfl rfl point_size rfl (by simp [eV, ptV, wV, limbs, Value.oneCell']) ?_
    intro w6 hb6 hw6
    go_wp2_with fail
    exact .mk (hE _ ⟨hb6, hw6.below hC1.2 hlr hC1.2.size⟩)
  rintro vals ⟨⟨⟨⟨⟨⟨⟨⟨⟨⟨⟨⟨⟨⟨-, f0⟩, f1⟩, f2⟩, f3⟩, f4⟩, f5⟩, f6⟩, f7⟩, f8⟩, f9⟩, f10⟩, f11⟩, f12⟩, f13⟩ w1 hC1
  simp only [puts, act_put, act_put_none, List.setIfInBounds_toArray, List.set_cons_zero, List.set_cons_succ, f0, f1, f2, f3, f4, f5, f6, f7, f8, f9, f10, f11, f12, f13]
  clear f0 f1 f2 f3 f4 f5 f6 f7 f8 f9 f10 f11 f12 f13
  clear HC0
  go_wp2_with fail
  refine bodyPost_ret (results_box (P := Try.prog) rfl rfl hC1.1 hp rfl point_size) rfl ⟨rfl, hC1.2⟩
set_option maxRecDepth 100000 in
set_option maxHeartbeats 1000000 in
theorem pequal_any (p q : Pt4) (w : World) (hkp : p.Ok) (hkq : q.Ok) : Calls Try.prog 22 #[.agg (ptV p), .agg (ptV q)] w (BoolPost (eqP p q) w) := by
  have hu := Try.underlying26
  have hp := Try.underlying28
  have KP := Lib.hid hkp
  have KQ := Lib.hid hkq
  have he : ∀ u, Calls Try.prog 47 #[.agg (eV (mulE p.x q.z)), .agg (eV (mulE q.x p.z))] u (BoolPost (eqB (mulE p.x q.z) (mulE q.x p.z)) u) := fun u => equal_c _ _ u (mul_ok hkp.x hkq.z) (mul_ok hkq.x hkp.z)
  have hr : eqP p q = (eqB (mulE p.x q.z) (mulE q.x p.z) && eqB (mulE p.y q.z) (mulE q.y p.z)) := rfl
  generalize eqB (mulE p.x q.z) (mulE q.x p.z) = b1 at he hr
  rw [hr]
  have HE := Lib.hid he
  clear he hr
  obtain ⟨w0, hw0⟩ : ∃ w0, w0 = ((w.alloc (.cells (ptV p) 28)).alloc (.cells (ptV q) 28)) := ⟨_, rfl⟩
  have hst : Cs [.box (w.heap.size) 28 (ptV p), .box (w.heap.size + 1) 28 (ptV q)] w w0 := by
    rw [hw0]
    exact ⟨⟨((Blk.new _ _ _).alloc _), (Blk.newAt (by simp)), trivial⟩, ((below_new _ _).alloc (by simp; try omega) _)⟩
  have HW := Lib.hid hw0
  have HST0 := Lib.hid hst
  clear hw0 hst hkp hkq
  go_enter Try.func22, Try.ntmps22
  go_wp2_with fail
  show Code.wp Try.prog _ _ _ ((w.alloc (.cells (ptV p) _)).alloc (.cells (ptV q) _))
  rw [← HW.out]
  generalize w.heap.size + 1 = gq at *
  generalize hgp : w.heap.size = gp at HST0 ⊢
  clear HW hgp
  cases b1
  · have HC0 := HST0.out.drew
    clear HST0
    refine wp_region_det (fun u => Cs [.box gp 28 (ptV p), .box gq 28 (ptV q)] w u) (fun u => Cs [.box gp 28 (ptV p), .box gq 28 (ptV q)] w u) [(0, some 5), (1, some 6), (2, some 7), (3, some 8), (4, some 9), (5, some 10), (6, some 11), (7, some 12), (8, some 13), (9, some 14), (10, some 15), (11, some 16), (12, some 17), (13, some 18), (14, some 19), (15, some 20), (16, some 21), (17, some 22), (18, some 23), (19, some 24), (20, some 25), (21, some 26), (22, some 27), (23, some 28), (24, some 4)] (by kernel_rfl) (by kernel_rfl) (by decide) (by kernel_rfl) (fun _ => rfl) HC0 ?_
    apply DetL.next
    · -- 0: Op.fieldAddr 28 (Operand.tmp 2) 0
      apply detStep_plain []
      exact fun _ => rfl
      rfl
      rintro vals - w1 hC1 E hE
      simp only [puts, act_put, act_put_none, List.setIfInBounds_toArray, List.set_cons_zero, List.set_cons_succ] at hE ⊢
      go_wp2
      exact .mk (hE _ hC1)
    apply DetL.next
    · -- 1: Op.load 26 (Operand.tmp 5)
      apply detStep_plain [(0, some 5)]
      exact fun _ => rfl
      rfl
      rintro vals ⟨-, f0⟩ w1 hC1 E hE
      have hs := hC1
      simp only [puts, act_put, act_put_none, List.setIfInBounds_toArray, List.set_cons_zero, List.set_cons_succ, f0] at hE ⊢
      clear f0
      refine wpList_get_part (n := 5) (r := eV (p.x)) (hs.1.1) (by rw [ptV_size]; decide) rfl rfl rfl rfl hu rfl elem_size ?_
      go_wp2_with fail
      exact .mk (hE _ hC1)
    apply DetL.next
    · -- 2: Op.fieldAddr 28 (Operand.tmp 3) 2
      apply detStep_plain []
      exact fun _ => rfl
      rfl
      rintro vals ⟨⟨-, -⟩, -⟩ w1 hC1 E hE
      simp only [puts, act_put, act_put_none, List.setIfInBounds_toArray, List.set_cons_zero, List.set_cons_succ] at hE ⊢
      go_wp2
      exact .mk (hE _ hC1)
    apply DetL.next
    · -- 3: Op.load 26 (Operand.tmp 7)
      apply detStep_plain [(2, some 7)]
      exact fun _ => rfl
      rfl
      rintro vals ⟨⟨⟨-, -⟩, -⟩, f2⟩ w1 hC1 E hE
      have hs := hC1
      simp only [puts, act_put, act_put_none, List.setIfInBounds_toArray, List.set_cons_zero, List.set_cons_succ, f2] at hE ⊢
      clear f2
      refine wpList_get_part (n := 5) (r := eV (q.z)) (hs.1.2.1) (by rw [ptV_size]; decide) rfl rfl rfl rfl hu rfl elem_size ?_
      go_wp2_with fail
      exact .mk (hE _ hC1)
    apply DetL.next
    · -- 4: Op.call { callee := Callee.value (Operand.func 38), args := #[Operand.tmp 6, Operand.tmp 8], argTypes := #[26,
      apply detStep_plain [(1, some 6), (3, some 8)]
      exact fun _ => rfl
      rfl
      rintro vals ⟨⟨⟨⟨-, -⟩, f1⟩, -⟩, f3⟩ w1 hC1 E hE
      simp only [puts, act_put, act_put_none, List.setIfInBounds_toArray, List.set_cons_zero, List.set_cons_succ, f1, f3] at hE ⊢
      clear f1 f3
      go_wp2_with fail
      refine calls_then (mul_c _ _ _ (KP.out.x) (KQ.out.z)) ?_
      rintro e w2 ⟨rfl, hb2⟩
      go_wp2_with fail
      exact .mk (hE _ (hC1.next hb2))
    apply DetL.next
    · -- 5: Op.fieldAddr 28 (Operand.tmp 3) 0
      apply detStep_plain []
      exact fun _ => rfl
      rfl
      rintro vals ⟨⟨⟨⟨⟨-, -⟩, -⟩, -⟩, -⟩, -⟩ w1 hC1 E hE
      simp only [puts, act_put, act_put_none, List.setIfInBounds_toArray, List.set_cons_zero, List.set_cons_succ] at hE ⊢
      go_wp2
      exact .mk (hE _ hC1)
    apply DetL.next
    · -- 6: Op.load 26 (Operand.tmp 10)
      apply detStep_plain [(5, some 10)]
      exact fun _ => rfl
      rfl
      rintro vals ⟨⟨⟨⟨⟨⟨-, -⟩, -⟩, -⟩, -⟩, -⟩, f5⟩ w1 hC1 E hE
      have hs := hC1
      simp only [puts, act_put, act_put_none, List.setIfInBounds_toArray, List.set_cons_zero, List.set_cons_succ, f5] at hE ⊢
      clear f5
      refine wpList_get_part (n := 5) (r := eV (q.x)) (hs.1.2.1) (by rw [ptV_size]; decide) rfl rfl rfl rfl hu rfl elem_size ?_
      go_wp2_with fail
      exact .mk (hE _ hC1)
    apply DetL.next
    · -- 7: Op.fieldAddr 28 (Operand.tmp 2) 2
      apply detStep_plain []
      exact fun _ => rfl
      rfl
      rintro vals ⟨⟨⟨⟨⟨⟨⟨-, -⟩, -⟩, -⟩, -⟩, -⟩, -⟩, -⟩ w1 hC1 E hE
      simp only [puts, act_put, act_put_none, List.setIfInBounds_toArray, List.set_cons_zero, List.set_cons_succ] at hE ⊢
      go_wp2
      exact .mk (hE _ hC1)
    apply DetL.next
    · -- 8: Op.load 26 (Operand.tmp 12)
      apply detStep_plain [(7, some 12)]
      exact fun _ => rfl
      rfl
      rintro vals ⟨⟨⟨⟨⟨⟨⟨⟨-, -⟩, -⟩, -⟩, -⟩, -⟩, -⟩, -⟩, f7⟩ w1 hC1 E hE
      have hs := hC1
      simp only [puts, act_put, act_put_none, List.setIfInBounds_toArray, List.set_cons_zero, List.set_cons_succ, f7] at hE ⊢
      clear f7
      refine wpList_get_part (n := 5) (r := eV (p.z)) (hs.1.1) (by rw [ptV_size]; decide) rfl rfl rfl rfl hu rfl elem_size ?_
      go_wp2_with fail
      exact .mk (hE _ hC1)
    apply DetL.next
    · -- 9: Op.call { callee := Callee.value (Operand.func 38), args := #[Operand.tmp 11, Operand.tmp 13], argTypes := #[2
      apply detStep_plain [(6, some 11), (8, some 13), (4, some 9)]
      exact fun _ => rfl
      rfl
      rintro vals ⟨⟨⟨⟨⟨⟨⟨⟨⟨-, -⟩, -⟩, -⟩, -⟩, f4⟩, -⟩, f6⟩, -⟩, f8⟩ w1 hC1 E hE
      simp only [puts, act_put, act_put_none, List.setIfInBounds_toArray, List.set_cons_zero, List.set_cons_succ, f4, f6, f8] at hE ⊢
      clear f4 f6 f8
      go_wp2_with fail
      refine calls_then (mul_c _ _ _ (KQ.out.x) (KP.out.z)) ?_
      rintro e w2 ⟨rfl, hb2⟩
      go_wp2_with fail
      exact .mk (hE _ (hC1.next hb2))
    apply DetL.next
    · -- 10: Op.call { callee := Callee.value (Operand.func 47), args := #[Operand.tmp 9, Operand.tmp 14], argTypes := #[26
      apply detStep_plain [(4, some 9), (9, some 14), (9, some 14)]
      exact fun _ => rfl
      rfl
      rintro vals ⟨⟨⟨⟨⟨⟨⟨⟨⟨⟨-, -⟩, -⟩, -⟩, -⟩, f4⟩, -⟩, -⟩, -⟩, -⟩, f9⟩ w1 hC1 E hE
      simp only [puts, act_put, act_put_none, List.setIfInBounds_toArray, List.set_cons_zero, List.set_cons_succ, f4, f9] at hE ⊢
      clear f4 f9
      go_wp2_with fail
      refine calls_then (HE.out _) ?_
      rintro e w2 ⟨rfl, hb2⟩
      go_wp2_with fail
      exact .mk (hE _ (hC1.next hb2))
    apply DetL.next
    · -- 11: Op.move (Operand.tmp 15)
      apply detStep_plain [(10, some 15), (10, some 15)]
      exact fun _ => rfl
      rfl
      rintro vals ⟨⟨⟨⟨⟨⟨⟨⟨⟨⟨⟨-, -⟩, -⟩, -⟩, -⟩, -⟩, -⟩, -⟩, -⟩, -⟩, -⟩, f10⟩ w1 hC1 E hE
      simp only [puts, act_put, act_put_none, List.setIfInBounds_toArray, List.set_cons_zero, List.set_cons_succ, f10] at hE ⊢
      clear f10
      go_wp2
      exact .mk (hE _ hC1)
    apply DetL.next (v := undef)
    · -- 12: Op.fieldAddr 28 (Operand.tmp 2) 1
      refine detStep_no [(11, some 16)] (fun _ => rfl) 11 16 true rfl rfl ?_ (fun _ h => h)
      rintro vals ⟨⟨⟨⟨⟨⟨⟨⟨⟨⟨⟨⟨-, -⟩, -⟩, -⟩, -⟩, -⟩, -⟩, -⟩, -⟩, -⟩, -⟩, -⟩, f11⟩
      simp only [puts, act_put, act_put_none, List.setIfInBounds_toArray, List.set_cons_zero, List.set_cons_succ, f11]
      rfl
    apply DetL.next (v := undef)
    · -- 13: Op.load 26 (Operand.tmp 17)
      refine detStep_no [(12, some 17), (11, some 16)] (fun _ => rfl) 11 16 true rfl rfl ?_ (fun _ h => h)
      rintro vals ⟨⟨⟨⟨⟨⟨⟨⟨⟨⟨⟨⟨⟨-, -⟩, -⟩, -⟩, -⟩, -⟩, -⟩, -⟩, -⟩, -⟩, -⟩, -⟩, f11⟩, f12⟩
      simp only [puts, act_put, act_put_none, List.setIfInBounds_toArray, List.set_cons_zero, List.set_cons_succ, f11, f12]
      rfl
    apply DetL.next (v := undef)
    · -- 14: Op.fieldAddr 28 (Operand.tmp 3) 2
      refine detStep_no [(11, some 16)] (fun _ => rfl) 11 16 true rfl rfl ?_ (fun _ h => h)
      rintro vals ⟨⟨⟨⟨⟨⟨⟨⟨⟨⟨⟨⟨⟨⟨-, -⟩, -⟩, -⟩, -⟩, -⟩, -⟩, -⟩, -⟩, -⟩, -⟩, -⟩, f11⟩, -⟩, -⟩
      simp only [puts, act_put, act_put_none, List.setIfInBounds_toArray, List.set_cons_zero, List.set_cons_succ, f11]
      rfl
    apply DetL.next (v := undef)
    · -- 15: Op.load 26 (Operand.tmp 19)
      refine detStep_no [(14, some 19), (11, some 16)] (fun _ => rfl) 11 16 true rfl rfl ?_ (fun _ h => h)
      rintro vals ⟨⟨⟨⟨⟨⟨⟨⟨⟨⟨⟨⟨⟨⟨⟨-, -⟩, -⟩, -⟩, -⟩, -⟩, -⟩, -⟩, -⟩, -⟩, -⟩, -⟩, f11⟩, -⟩, -⟩, f14⟩
      simp only [puts, act_put, act_put_none, List.setIfInBounds_toArray, List.set_cons_zero, List.set_cons_succ, f11, f14]
      rfl
    apply DetL.next (v := undef)
    · -- 16: Op.call { callee := Callee.value (Operand.func 38), args := #[Operand.tmp 18, Operand.tmp 20], argTypes := #[2
      refine detStep_no [(13, some 18), (15, some 20), (11, some 16), (11, some 16)] (fun _ => rfl) 11 16 true rfl rfl ?_ (fun _ h => h)
      rintro vals ⟨⟨⟨⟨⟨⟨⟨⟨⟨⟨⟨⟨⟨⟨⟨⟨-, -⟩, -⟩, -⟩, -⟩, -⟩, -⟩, -⟩, -⟩, -⟩, -⟩, -⟩, f11⟩, -⟩, f13⟩, -⟩, f15⟩
      simp only [puts, act_put, act_put_none, List.setIfInBounds_toArray, List.set_cons_zero, List.set_cons_succ, f11, f13, f15]
      rfl
    apply DetL.next (v := undef)
    · -- 17: Op.fieldAddr 28 (Operand.tmp 3) 1
      refine detStep_no [(11, some 16)] (fun _ => rfl) 11 16 true rfl rfl ?_ (fun _ h => h)
      rintro vals ⟨⟨⟨⟨⟨⟨⟨⟨⟨⟨⟨⟨⟨⟨⟨⟨⟨-, -⟩, -⟩, -⟩, -⟩, -⟩, -⟩, -⟩, -⟩, -⟩, -⟩, -⟩, f11⟩, -⟩, -⟩, -⟩, -⟩, -⟩
      simp only [puts, act_put, act_put_none, List.setIfInBounds_toArray, List.set_cons_zero, List.set_cons_succ, f11]
      rfl
    apply DetL.next (v := undef)
    · -- 18: Op.load 26 (Operand.tmp 22)
      refine detStep_no [(17, some 22), (11, some 16)] (fun _ => rfl) 11 16 true rfl rfl ?_ (fun _ h => h)
      rintro vals ⟨⟨⟨⟨⟨⟨⟨⟨⟨⟨⟨⟨⟨⟨⟨⟨⟨⟨-, -⟩, -⟩, -⟩, -⟩, -⟩, -⟩, -⟩, -⟩, -⟩, -⟩, -⟩, f11⟩, -⟩, -⟩, -⟩, -⟩, -⟩, f17⟩
      simp only [puts, act_put, act_put_none, List.setIfInBounds_toArray, List.set_cons_zero, List.set_cons_succ, f11, f17]
      rfl
    apply DetL.next (v := undef)
    · -- 19: Op.fieldAddr 28 (Operand.tmp 2) 2
      refine detStep_no [(11, some 16)] (fun _ => rfl) 11 16 true rfl rfl ?_ (fun _ h => h)
      rintro vals ⟨⟨⟨⟨⟨⟨⟨⟨⟨⟨⟨⟨⟨⟨⟨⟨⟨⟨⟨-, -⟩, -⟩, -⟩, -⟩, -⟩, -⟩, -⟩, -⟩, -⟩, -⟩, -⟩, f11⟩, -⟩, -⟩, -⟩, -⟩, -⟩, -⟩, -⟩
      simp only [puts, act_put, act_put_none, List.setIfInBounds_toArray, List.set_cons_zero, List.set_cons_succ, f11]
      rfl
    apply DetL.next (v := undef)
    · -- 20: Op.load 26 (Operand.tmp 24)
      refine detStep_no [(19, some 24), (11, some 16)] (fun _ => rfl) 11 16 true rfl rfl ?_ (fun _ h => h)
      rintro vals ⟨⟨⟨⟨⟨⟨⟨⟨⟨⟨⟨⟨⟨⟨⟨⟨⟨⟨⟨⟨-, -⟩, -⟩, -⟩, -⟩, -⟩, -⟩, -⟩, -⟩, -⟩, -⟩, -⟩, f11⟩, -⟩, -⟩, -⟩, -⟩, -⟩, -⟩, -⟩, f19⟩
      simp only [puts, act_put, act_put_none, List.setIfInBounds_toArray, List.set_cons_zero, List.set_cons_succ, f11, f19]
      rfl
    apply DetL.next (v := undef)
    · -- 21: Op.call { callee := Callee.value (Operand.func 38), args := #[Operand.tmp 23, Operand.tmp 25], argTypes := #[2
      refine detStep_no [(18, some 23), (20, some 25), (16, some 21), (11, some 16)] (fun _ => rfl) 11 16 true rfl rfl ?_ (fun _ h => h)
      rintro vals ⟨⟨⟨⟨⟨⟨⟨⟨⟨⟨⟨⟨⟨⟨⟨⟨⟨⟨⟨⟨⟨-, -⟩, -⟩, -⟩, -⟩, -⟩, -⟩, -⟩, -⟩, -⟩, -⟩, -⟩, f11⟩, -⟩, -⟩, -⟩, -⟩, f16⟩, -⟩, f18⟩, -⟩, f20⟩
      simp only [puts, act_put, act_put_none, List.setIfInBounds_toArray, List.set_cons_zero, List.set_cons_succ, f11, f16, f18, f20]
      rfl
    apply DetL.next (v := undef)
    · -- 22: Op.call { callee := Callee.value (Operand.func 47), args := #[Operand.tmp 21, Operand.tmp 26], argTypes := #[2
      refine detStep_no [(16, some 21), (21, some 26), (21, some 26), (11, some 16)] (fun _ => rfl) 11 16 true rfl rfl ?_ (fun _ h => h)
      rintro vals ⟨⟨⟨⟨⟨⟨⟨⟨⟨⟨⟨⟨⟨⟨⟨⟨⟨⟨⟨⟨⟨⟨-, -⟩, -⟩, -⟩, -⟩, -⟩, -⟩, -⟩, -⟩, -⟩, -⟩, -⟩, f11⟩, -⟩, -⟩, -⟩, -⟩, f16⟩, -⟩, -⟩, -⟩, -⟩, f21⟩
      simp only [puts, act_put, act_put_none, List.setIfInBounds_toArray, List.set_cons_zero, List.set_cons_succ, f11, f16, f21]
      rfl
    apply DetL.next
    · -- 23: Op.pick (Operand.tmp 16) (Operand.tmp 27) (Operand.const (Value.bool false))
      apply detStep_plain [(11, some 16), (22, some 27)]
      exact fun _ => rfl
      rfl
      rintro vals ⟨⟨⟨⟨⟨⟨⟨⟨⟨⟨⟨⟨⟨⟨⟨⟨⟨⟨⟨⟨⟨⟨⟨-, -⟩, -⟩, -⟩, -⟩, -⟩, -⟩, -⟩, -⟩, -⟩, -⟩, -⟩, f11⟩, -⟩, -⟩, -⟩, -⟩, -⟩, -⟩, -⟩, -⟩, -⟩, -⟩, f22⟩ w1 hC1 E hE
      simp only [puts, act_put, act_put_none, List.setIfInBounds_toArray, List.set_cons_zero, List.set_cons_succ, f11, f22] at hE ⊢
      clear f11 f22
      go_wp2
      exact .mk (hE _ hC1)
    apply DetL.last
    · -- 24: Op.assign (Operand.tmp 28)
      apply detStep_plain [(23, some 28), (22, some 27), (0, some 5), (1, some 6), (2, some 7), (3, some 8), (4, some 9), (5, some 10), (6, some 11), (7, some 12), (8, some 13), (9, some 14), (10, some 15), (11, some 16), (12, some 17), (13, some 18), (14, some 19), (15, some 20), (16, some 21), (17, some 22), (18, some 23), (19, some 24), (20, some 25), (21, some 26), (22, some 27), (23, some 28)]
      exact fun _ => rfl
      rfl
      rintro vals ⟨⟨⟨⟨⟨⟨⟨⟨⟨⟨⟨⟨⟨⟨⟨⟨⟨⟨⟨⟨⟨⟨⟨⟨-, f0⟩, f1⟩, f2⟩, f3⟩, f4⟩, f5⟩, f6⟩, f7⟩, f8⟩, f9⟩, f10⟩, f11⟩, f12⟩, f13⟩, f14⟩, f15⟩, f16⟩, f17⟩, f18⟩, f19⟩, f20⟩, f21⟩, f22⟩, f23⟩ w1 hC1 E hE
      simp only [puts, act_put, act_put_none, List.setIfInBounds_toArray, List.set_cons_zero, List.set_cons_succ, f0, f1, f2, f3, f4, f5, f6, f7, f8, f9, f10, f11, f12, f13, f14, f15, f16, f17, f18, f19, f20, f21, f22, f23] at hE ⊢
      clear f0 f1 f2 f3 f4 f5 f6 f7 f8 f9 f10 f11 f12 f13 f14 f15 f16 f17 f18 f19 f20 f21 f22 f23
      go_wp2
      exact .mk (hE _ hC1)
    rintro vals ⟨⟨⟨⟨⟨⟨⟨⟨⟨⟨⟨⟨⟨⟨⟨⟨⟨⟨⟨⟨⟨⟨⟨⟨⟨-, f0⟩, f1⟩, f2⟩, f3⟩, f4⟩, f5⟩, f6⟩, f7⟩, f8⟩, f9⟩, f10⟩, f11⟩, f12⟩, f13⟩, f14⟩, f15⟩, f16⟩, f17⟩, f18⟩, f19⟩, f20⟩, f21⟩, f22⟩, f23⟩, f24⟩ w1 hC1
    simp only [puts, act_put, act_put_none, List.setIfInBounds_toArray, List.set_cons_zero, List.set_cons_succ, f0, f1, f2, f3, f4, f5, f6, f7, f8, f9, f10, f11, f12, f13, f14, f15, f16, f17, f18, f19, f20, f21, f22, f23, f24]
    clear f0 f1 f2 f3 f4 f5 f6 f7 f8 f9 f10 f11 f12 f13 f14 f15 f16 f17 f18 f19 f20 f21 f22 f23 f24
    clear HC0
    go_wp2_with fail
    go_ret
    exact ⟨rfl, hC1.2⟩
  · have HC0 := HST0.out.drew
    clear HST0
    refine wp_region_det (fun u => Cs [.box gp 28 (ptV p), .box gq 28 (ptV q)] w u) (fun u => Cs [.box gp 28 (ptV p), .box gq 28 (ptV q)] w u) [(0, some 5), (1, some 6), (2, some 7), (3, some 8), (4, some 9), (5, some 10), (6, some 11), (7, some 12), (8, some 13), (9, some 14), (10, some 15), (11, some 16), (12, some 17), (13, some 18), (14, some 19), (15, some 20), (16, some 21), (17, some 22), (18, some 23), (19, some 24), (20, some 25), (21, some 26), (22, some 27), (23, some 28), (24, some 4)] (by kernel_rfl) (by kernel_rfl) (by decide) (by kernel_rfl) (fun _ => rfl) HC0 ?_
    apply DetL.next
    · -- 0: Op.fieldAddr 28 (Operand.tmp 2) 0
      apply detStep_plain []
      exact fun _ => rfl
      rfl
      rintro vals - w1 hC1 E hE
      simp only [puts, act_put, act_put_none, List.setIfInBounds_toArray, List.set_cons_zero, List.set_cons_succ] at hE ⊢
      go_wp2
      exact .mk (hE _ hC1)
    apply DetL.next
    · -- 1: Op.load 26 (Operand.tmp 5)
      apply detStep_plain [(0, some 5)]
      exact fun _ => rfl
      rfl
      rintro vals ⟨-, f0⟩ w1 hC1 E hE
      have hs := hC1
      simp only [puts, act_put, act_put_none, List.setIfInBounds_toArray, List.set_cons_zero, List.set_cons_succ, f0] at hE ⊢
      clear f0
      refine wpList_get_part (n := 5) (r := eV (p.x)) (hs.1.1) (by rw [ptV_size]; decide) rfl rfl rfl rfl hu rfl elem_size ?_
      go_wp2_with fail
      exact .mk (hE _ hC1)
    apply DetL.next
    · -- 2: Op.fieldAddr 28 (Operand.tmp 3) 2
      apply detStep_plain []
      exact fun _ => rfl
      rfl
      rintro vals ⟨⟨-, -⟩, -⟩ w1 hC1 E hE
      simp only [puts, act_put, act_put_none, List.setIfInBounds_toArray, List.set_cons_zero, List.set_cons_succ] at hE ⊢
      go_wp2
      exact .mk (hE _ hC1)
    apply DetL.next
    · -- 3: Op.load 26 (Operand.tmp 7)
      apply detStep_plain [(2, some 7)]
      exact fun _ => rfl
      rfl
      rintro vals ⟨⟨⟨-, -⟩, -⟩, f2⟩ w1 hC1 E hE
      have hs := hC1
      simp only [puts, act_put, act_put_none, List.setIfInBounds_toArray, List.set_cons_zero, List.set_cons_succ, f2] at hE ⊢
      clear f2
      refine wpList_get_part (n := 5) (r := eV (q.z)) (hs.1.2.1) (by rw [ptV_size]; decide) rfl rfl rfl rfl hu rfl elem_size ?_
      go_wp2_with fail
      exact .mk (hE _ hC1)
    apply DetL.next
    · -- 4: Op.call { callee := Callee.value (Operand.func 38), args := #[Operand.tmp 6, Operand.tmp 8], argTypes := #[26,
      apply detStep_plain [(1, some 6), (3, some 8)]
      exact fun _ => rfl
      rfl
      rintro vals ⟨⟨⟨⟨-, -⟩, f1⟩, -⟩, f3⟩ w1 hC1 E hE
      simp only [puts, act_put, act_put_none, List.setIfInBounds_toArray, List.set_cons_zero, List.set_cons_succ, f1, f3] at hE ⊢
      clear f1 f3
      go_wp2_with fail
      refine calls_then (mul_c _ _ _ (KP.out.x) (KQ.out.z)) ?_
      rintro e w2 ⟨rfl, hb2⟩
      go_wp2_with fail
      exact .mk (hE _ (hC1.next hb2))
    apply DetL.next
    · -- 5: Op.fieldAddr 28 (Operand.tmp 3) 0
      apply detStep_plain []
      exact fun _ => rfl
      rfl
      rintro vals ⟨⟨⟨⟨⟨-, -⟩, -⟩, -⟩, -⟩, -⟩ w1 hC1 E hE
      simp only [puts, act_put, act_put_none, List.setIfInBounds_toArray, List.set_cons_zero, List.set_cons_succ] at hE ⊢
      go_wp2
      exact .mk (hE _ hC1)
    apply DetL.next
    · -- 6: Op.load 26 (Operand.tmp 10)
      apply detStep_plain [(5, some 10)]
      exact fun _ => rfl
      rfl
      rintro vals ⟨⟨⟨⟨⟨⟨-, -⟩, -⟩, -⟩, -⟩, -⟩, f5⟩ w1 hC1 E hE
      have hs := hC1
      simp only [puts, act_put, act_put_none, List.setIfInBounds_toArray, List.set_cons_zero, List.set_cons_succ, f5] at hE ⊢
      clear f5
      refine wpList_get_part (n := 5) (r := eV (q.x)) (hs.1.2.1) (by rw [ptV_size]; decide) rfl rfl rfl rfl hu rfl elem_size ?_
      go_wp2_with fail
      exact .mk (hE _ hC1)
    apply DetL.next
    · -- 7: Op.fieldAddr 28 (Operand.tmp 2) 2
      apply detStep_plain []
      exact fun _ => rfl
      rfl
      rintro vals ⟨⟨⟨⟨⟨⟨⟨-, -⟩, -⟩, -⟩, -⟩, -⟩, -⟩, -⟩ w1 hC1 E hE
      simp only [puts, act_put, act_put_none, List.setIfInBounds_toArray, List.set_cons_zero, List.set_cons_succ] at hE ⊢
      go_wp2
      exact .mk (hE _ hC1)
    apply DetL.next
    · -- 8: Op.load 26 (Operand.tmp 12)
      apply detStep_plain [(7, some 12)]
      exact fun _ => rfl
      rfl
      rintro vals ⟨⟨⟨⟨⟨⟨⟨⟨-, -⟩, -⟩, -⟩, -⟩, -⟩, -⟩, -⟩, f7⟩ w1 hC1 E hE
      have hs := hC1
      simp only [puts, act_put, act_put_none, List.setIfInBounds_toArray, List.set_cons_zero, List.set_cons_succ, f7] at hE ⊢
      clear f7
      refine wpList_get_part (n := 5) (r := eV (p.z)) (hs.1.1) (by rw [ptV_size]; decide) rfl rfl rfl rfl hu rfl elem_size ?_
      go_wp2_with fail
      exact .mk (hE _ hC1)
    apply DetL.next
    · -- 9: Op.call { callee := Callee.value (Operand.func 38), args := #[Operand.tmp 11, Operand.tmp 13], argTypes := #[2
      apply detStep_plain [(6, some 11), (8, some 13), (4, some 9)]
      exact fun _ => rfl
      rfl
      rintro vals ⟨⟨⟨⟨⟨⟨⟨⟨⟨-, -⟩, -⟩, -⟩, -⟩, f4⟩, -⟩, f6⟩, -⟩, f8⟩ w1 hC1 E hE
      simp only [puts, act_put, act_put_none, List.setIfInBounds_toArray, List.set_cons_zero, List.set_cons_succ, f4, f6, f8] at hE ⊢
      clear f4 f6 f8
      go_wp2_with fail
      refine calls_then (mul_c _ _ _ (KQ.out.x) (KP.out.z)) ?_
      rintro e w2 ⟨rfl, hb2⟩
      go_wp2_with fail
      exact .mk (hE _ (hC1.next hb2))
    apply DetL.next
    · -- 10: Op.call { callee := Callee.value (Operand.func 47), args := #[Operand.tmp 9, Operand.tmp 14], argTypes := #[26
      apply detStep_plain [(4, some 9), (9, some 14), (9, some 14)]
      exact fun _ => rfl
      rfl
      rintro vals ⟨⟨⟨⟨⟨⟨⟨⟨⟨⟨-, -⟩, -⟩, -⟩, -⟩, f4⟩, -⟩, -⟩, -⟩, -⟩, f9⟩ w1 hC1 E hE
      simp only [puts, act_put, act_put_none, List.setIfInBounds_toArray, List.set_cons_zero, List.set_cons_succ, f4, f9] at hE ⊢
      clear f4 f9
      go_wp2_with fail
      refine calls_then (HE.out _) ?_
      rintro e w2 ⟨rfl, hb2⟩
      go_wp2_with fail
      exact .mk (hE _ (hC1.next hb2))
    apply DetL.next
    · -- 11: Op.move (Operand.tmp 15)
      apply detStep_plain [(10, some 15), (10, some 15)]
      exact fun _ => rfl
      rfl
      rintro vals ⟨⟨⟨⟨⟨⟨⟨⟨⟨⟨⟨-, -⟩, -⟩, -⟩, -⟩, -⟩, -⟩, -⟩, -⟩, -⟩, -⟩, f10⟩ w1 hC1 E hE
      simp only [puts, act_put, act_put_none, List.setIfInBounds_toArray, List.set_cons_zero, List.set_cons_succ, f10] at hE ⊢
      clear f10
      go_wp2
      exact .mk (hE _ hC1)
    apply DetL.next
    · -- 12: Op.fieldAddr 28 (Operand.tmp 2) 1
      apply detStep_yes [(11, some 16)] (g := 11) (t := 16) (want := true)
      exact fun _ => rfl
      rfl
      rfl
      · rintro vals ⟨⟨⟨⟨⟨⟨⟨⟨⟨⟨⟨⟨-, -⟩, -⟩, -⟩, -⟩, -⟩, -⟩, -⟩, -⟩, -⟩, -⟩, -⟩, f11⟩
        simp only [puts, act_put, act_put_none, List.setIfInBounds_toArray, List.set_cons_zero, List.set_cons_succ, f11]
        rfl
      rintro vals ⟨⟨⟨⟨⟨⟨⟨⟨⟨⟨⟨⟨-, -⟩, -⟩, -⟩, -⟩, -⟩, -⟩, -⟩, -⟩, -⟩, -⟩, -⟩, f11⟩ w1 hC1 E hE
      dsimp only at hE ⊢
      simp only [puts, act_put, act_put_none, List.setIfInBounds_toArray, List.set_cons_zero, List.set_cons_succ, f11] at hE ⊢
      clear f11
      go_wp2
      exact .mk (hE _ hC1)
    apply DetL.next
    · -- 13: Op.load 26 (Operand.tmp 17)
      apply detStep_yes [(12, some 17), (11, some 16)] (g := 11) (t := 16) (want := true)
      exact fun _ => rfl
      rfl
      rfl
      · rintro vals ⟨⟨⟨⟨⟨⟨⟨⟨⟨⟨⟨⟨⟨-, -⟩, -⟩, -⟩, -⟩, -⟩, -⟩, -⟩, -⟩, -⟩, -⟩, -⟩, f11⟩, f12⟩
        simp only [puts, act_put, act_put_none, List.setIfInBounds_toArray, List.set_cons_zero, List.set_cons_succ, f11, f12]
        rfl
      rintro vals ⟨⟨⟨⟨⟨⟨⟨⟨⟨⟨⟨⟨⟨-, -⟩, -⟩, -⟩, -⟩, -⟩, -⟩, -⟩, -⟩, -⟩, -⟩, -⟩, f11⟩, f12⟩ w1 hC1 E hE
      dsimp only at hE ⊢
      have hs := hC1
      simp only [puts, act_put, act_put_none, List.setIfInBounds_toArray, List.set_cons_zero, List.set_cons_succ, f11, f12] at hE ⊢
      clear f11 f12
      refine wpList_get_part (n := 5) (r := eV (p.y)) (hs.1.1) (by rw [ptV_size]; decide) rfl rfl rfl rfl hu rfl elem_size ?_
      go_wp2_with fail
      exact .mk (hE _ hC1)
    apply DetL.next
    · -- 14: Op.fieldAddr 28 (Operand.tmp 3) 2
      apply detStep_yes [(11, some 16)] (g := 11) (t := 16) (want := true)
      exact fun _ => rfl
      rfl
      rfl
      · rintro vals ⟨⟨⟨⟨⟨⟨⟨⟨⟨⟨⟨⟨⟨⟨-, -⟩, -⟩, -⟩, -⟩, -⟩, -⟩, -⟩, -⟩, -⟩, -⟩, -⟩, f11⟩, -⟩, -⟩
        simp only [puts, act_put, act_put_none, List.setIfInBounds_toArray, List.set_cons_zero, List.set_cons_succ, f11]
        rfl
      rintro vals ⟨⟨⟨⟨⟨⟨⟨⟨⟨⟨⟨⟨⟨⟨-, -⟩, -⟩, -⟩, -⟩, -⟩, -⟩, -⟩, -⟩, -⟩, -⟩, -⟩, f11⟩, -⟩, -⟩ w1 hC1 E hE
      dsimp only at hE ⊢
      simp only [puts, act_put, act_put_none, List.setIfInBounds_toArray, List.set_cons_zero, List.set_cons_succ, f11] at hE ⊢
      clear f11
      go_wp2
      exact .mk (hE _ hC1)
    apply DetL.next
    · -- 15: Op.load 26 (Operand.tmp 19)
      apply detStep_yes [(14, some 19), (11, some 16)] (g := 11) (t := 16) (want := true)
      exact fun _ => rfl
      rfl
      rfl
      · rintro vals ⟨⟨⟨⟨⟨⟨⟨⟨⟨⟨⟨⟨⟨⟨⟨-, -⟩, -⟩, -⟩, -⟩, -⟩, -⟩, -⟩, -⟩, -⟩, -⟩, -⟩, f11⟩, -⟩, -⟩, f14⟩
        simp only [puts, act_put, act_put_none, List.setIfInBounds_toArray, List.set_cons_zero, List.set_cons_succ, f11, f14]
        rfl
      rintro vals ⟨⟨⟨⟨⟨⟨⟨⟨⟨⟨⟨⟨⟨⟨⟨-, -⟩, -⟩, -⟩, -⟩, -⟩, -⟩, -⟩, -⟩, -⟩, -⟩, -⟩, f11⟩, -⟩, -⟩, f14⟩ w1 hC1 E hE
      dsimp only at hE ⊢
      have hs := hC1
      simp only [puts, act_put, act_put_none, List.setIfInBounds_toArray, List.set_cons_zero, List.set_cons_succ, f11, f14] at hE ⊢
      clear f11 f14
      refine wpList_get_part (n := 5) (r := eV (q.z)) (hs.1.2.1) (by rw [ptV_size]; decide) rfl rfl rfl rfl hu rfl elem_size ?_
      go_wp2_with fail
      exact .mk (hE _ hC1)
    apply DetL.next
    · -- 16: Op.call { callee := Callee.value (Operand.func 38), args := #[Operand.tmp 18, Operand.tmp 20], argTypes := #[2
      apply detStep_yes [(13, some 18), (15, some 20), (11, some 16), (11, some 16)] (g := 11) (t := 16) (want := true)
      exact fun _ => rfl
      rfl
      rfl
      · rintro vals ⟨⟨⟨⟨⟨⟨⟨⟨⟨⟨⟨⟨⟨⟨⟨⟨-, -⟩, -⟩, -⟩, -⟩, -⟩, -⟩, -⟩, -⟩, -⟩, -⟩, -⟩, f11⟩, -⟩, f13⟩, -⟩, f15⟩
        simp only [puts, act_put, act_put_none, List.setIfInBounds_toArray, List.set_cons_zero, List.set_cons_succ, f11, f13, f15]
        rfl
      rintro vals ⟨⟨⟨⟨⟨⟨⟨⟨⟨⟨⟨⟨⟨⟨⟨⟨-, -⟩, -⟩, -⟩, -⟩, -⟩, -⟩, -⟩, -⟩, -⟩, -⟩, -⟩, f11⟩, -⟩, f13⟩, -⟩, f15⟩ w1 hC1 E hE
      dsimp only at hE ⊢
      simp only [puts, act_put, act_put_none, List.setIfInBounds_toArray, List.set_cons_zero, List.set_cons_succ, f11, f13, f15] at hE ⊢
      clear f11 f13 f15
      go_wp2_with fail
      refine calls_then (mul_c _ _ _ (KP.out.y) (KQ.out.z)) ?_
      rintro e w2 ⟨rfl, hb2⟩
      go_wp2_with fail
      exact .mk (hE _ (hC1.next hb2))
    apply DetL.next
    · -- 17: Op.fieldAddr 28 (Operand.tmp 3) 1
      apply detStep_yes [(11, some 16)] (g := 11) (t := 16) (want := true)
      exact fun _ => rfl
      rfl
      rfl
      · rintro vals ⟨⟨⟨⟨⟨⟨⟨⟨⟨⟨⟨⟨⟨⟨⟨⟨⟨-, -⟩, -⟩, -⟩, -⟩, -⟩, -⟩, -⟩, -⟩, -⟩, -⟩, -⟩, f11⟩, -⟩, -⟩, -⟩, -⟩, -⟩
        simp only [puts, act_put, act_put_none, List.setIfInBounds_toArray, List.set_cons_zero, List.set_cons_succ, f11]
        rfl
      rintro vals ⟨⟨⟨⟨⟨⟨⟨⟨⟨⟨⟨⟨⟨⟨⟨⟨⟨-, -⟩, -⟩, -⟩, -⟩, -⟩, -⟩, -⟩, -⟩, -⟩, -⟩, -⟩, f11⟩, -⟩, -⟩, -⟩, -⟩, -⟩ w1 hC1 E hE
      dsimp only at hE ⊢
      simp only [puts, act_put, act_put_none, List.setIfInBounds_toArray, List.set_cons_zero, List.set_cons_succ, f11] at hE ⊢
      clear f11
      go_wp2
      exact .mk (hE _ hC1)
    apply DetL.next
    · -- 18: Op.load 26 (Operand.tmp 22)
      apply detStep_yes [(17, some 22), (11, some 16)] (g := 11) (t := 16) (want := true)
      exact fun _ => rfl
      rfl
      rfl
      · rintro vals ⟨⟨⟨⟨⟨⟨⟨⟨⟨⟨⟨⟨⟨⟨⟨⟨⟨⟨-, -⟩, -⟩, -⟩, -⟩, -⟩, -⟩, -⟩, -⟩, -⟩, -⟩, -⟩, f11⟩, -⟩, -⟩, -⟩, -⟩, -⟩, f17⟩
        simp only [puts, act_put, act_put_none, List.setIfInBounds_toArray, List.set_cons_zero, List.set_cons_succ, f11, f17]
        rfl
      rintro vals ⟨⟨⟨⟨⟨⟨⟨⟨⟨⟨⟨⟨⟨⟨⟨⟨⟨⟨-, -⟩, -⟩, -⟩, -⟩, -⟩, -⟩, -⟩, -⟩, -⟩, -⟩, -⟩, f11⟩, -⟩, -⟩, -⟩, -⟩, -⟩, f17⟩ w1 hC1 E hE
      dsimp only at hE ⊢
      have hs := hC1
      simp only [puts, act_put, act_put_none, List.setIfInBounds_toArray, List.set_cons_zero, List.set_cons_succ, f11, f17] at hE ⊢
      clear f11 f17
      refine wpList_get_part (n := 5) (r := eV (q.y)) (hs.1.2.1) (by rw [ptV_size]; decide) rfl rfl rfl rfl hu rfl elem_size ?_
      go_wp2_with fail
      exact .mk (hE _ hC1)
    apply DetL.next
    · -- 19: Op.fieldAddr 28 (Operand.tmp 2) 2
      apply detStep_yes [(11, some 16)] (g := 11) (t := 16) (want := true)
      exact fun _ => rfl
      rfl
      rfl
      · rintro vals ⟨⟨⟨⟨⟨⟨⟨⟨⟨⟨⟨⟨⟨⟨⟨⟨⟨⟨⟨-, -⟩, -⟩, -⟩, -⟩, -⟩, -⟩, -⟩, -⟩, -⟩, -⟩, -⟩, f11⟩, -⟩, -⟩, -⟩, -⟩, -⟩, -⟩, -⟩
        simp only [puts, act_put, act_put_none, List.setIfInBounds_toArray, List.set_cons_zero, List.set_cons_succ, f11]
        rfl
      rintro vals ⟨⟨⟨⟨⟨⟨⟨⟨⟨⟨⟨⟨⟨⟨⟨⟨⟨⟨⟨-, -⟩, -⟩, -⟩, -⟩, -⟩, -⟩, -⟩, -⟩, -⟩, -⟩, -⟩, f11⟩, -⟩, -⟩, -⟩, -⟩, -⟩, -⟩, -⟩ w1 hC1 E hE
      dsimp only at hE ⊢
      simp only [puts, act_put, act_put_none, List.setIfInBounds_toArray, List.set_cons_zero, List.set_cons_succ, f11] at hE ⊢
      clear f11
      go_wp2
      exact .mk (hE _ hC1)
    apply DetL.next
    · -- 20: Op.load 26 (Operand.tmp 24)
      apply detStep_yes [(19, some 24), (11, some 16)] (g := 11) (t := 16) (want := true)
      exact fun _ => rfl
      rfl
      rfl
      · rintro vals ⟨⟨⟨⟨⟨⟨⟨⟨⟨⟨⟨⟨⟨⟨⟨⟨⟨⟨⟨⟨-, -⟩, -⟩, -⟩, -⟩, -⟩, -⟩, -⟩, -⟩, -⟩, -⟩, -⟩, f11⟩, -⟩, -⟩, -⟩, -⟩, -⟩, -⟩, -⟩, f19⟩
        simp only [puts, act_put, act_put_none, List.setIfInBounds_toArray, List.set_cons_zero, List.set_cons_succ, f11, f19]
        rfl
      rintro vals ⟨⟨⟨⟨⟨⟨⟨⟨⟨⟨⟨⟨⟨⟨⟨⟨⟨⟨⟨⟨-, -⟩, -⟩, -⟩, -⟩, -⟩, -⟩, -⟩, -⟩, -⟩, -⟩, -⟩, f11⟩, -⟩, -⟩, -⟩, -⟩, -⟩, -⟩, -⟩, f19⟩ w1 hC1 E hE
      dsimp only at hE ⊢
      have hs := hC1
      simp only [puts, act_put, act_put_none, List.setIfInBounds_toArray, List.set_cons_zero, List.set_cons_succ, f11, f19] at hE ⊢
      clear f11 f19
      refine wpList_get_part (n := 5) (r := eV (p.z)) (hs.1.1) (by rw [ptV_size]; decide) rfl rfl rfl rfl hu rfl elem_size ?_
      go_wp2_with fail
      exact .mk (hE _ hC1)
    apply DetL.next
    · -- 21: Op.call { callee := Callee.value (Operand.func 38), args := #[Operand.tmp 23, Operand.tmp 25], argTypes := #[2
      apply detStep_yes [(18, some 23), (20, some 25), (16, some 21), (11, some 16)] (g := 11) (t := 16) (want := true)
      exact fun _ => rfl
      rfl
      rfl
      · rintro vals ⟨⟨⟨⟨⟨⟨⟨⟨⟨⟨⟨⟨⟨⟨⟨⟨⟨⟨⟨⟨⟨-, -⟩, -⟩, -⟩, -⟩, -⟩, -⟩, -⟩, -⟩, -⟩, -⟩, -⟩, f11⟩, -⟩, -⟩, -⟩, -⟩, f16⟩, -⟩, f18⟩, -⟩, f20⟩
        simp only [puts, act_put, act_put_none, List.setIfInBounds_toArray, List.set_cons_zero, List.set_cons_succ, f11, f16, f18, f20]
        rfl
      rintro vals ⟨⟨⟨⟨⟨⟨⟨⟨⟨⟨⟨⟨⟨⟨⟨⟨⟨⟨⟨⟨⟨-, -⟩, -⟩, -⟩, -⟩, -⟩, -⟩, -⟩, -⟩, -⟩, -⟩, -⟩, f11⟩, -⟩, -⟩, -⟩, -⟩, f16⟩, -⟩, f18⟩, -⟩, f20⟩ w1 hC1 E hE
      dsimp only at hE ⊢
      simp only [puts, act_put, act_put_none, List.setIfInBounds_toArray, List.set_cons_zero, List.set_cons_succ, f11, f16, f18, f20] at hE ⊢
      clear f11 f16 f18 f20
      go_wp2_with fail
      refine calls_then (mul_c _ _ _ (KQ.out.y) (KP.out.z)) ?_
      rintro e w2 ⟨rfl, hb2⟩
      go_wp2_with fail
      exact .mk (hE _ (hC1.next hb2))
    apply DetL.next
    · -- 22: Op.call { callee := Callee.value (Operand.func 47), args := #[Operand.tmp 21, Operand.tmp 26], argTypes := #[2
      apply detStep_yes [(16, some 21), (21, some 26), (21, some 26), (11, some 16)] (g := 11) (t := 16) (want := true)
      exact fun _ => rfl
      rfl
      rfl
      · rintro vals ⟨⟨⟨⟨⟨⟨⟨⟨⟨⟨⟨⟨⟨⟨⟨⟨⟨⟨⟨⟨⟨⟨-, -⟩, -⟩, -⟩, -⟩, -⟩, -⟩, -⟩, -⟩, -⟩, -⟩, -⟩, f11⟩, -⟩, -⟩, -⟩, -⟩, f16⟩, -⟩, -⟩, -⟩, -⟩, f21⟩
        simp only [puts, act_put, act_put_none, List.setIfInBounds_toArray, List.set_cons_zero, List.set_cons_succ, f11, f16, f21]
        rfl
      rintro vals ⟨⟨⟨⟨⟨⟨⟨⟨⟨⟨⟨⟨⟨⟨⟨⟨⟨⟨⟨⟨⟨⟨-, -⟩, -⟩, -⟩, -⟩, -⟩, -⟩, -⟩, -⟩, -⟩, -⟩, -⟩, f11⟩, -⟩, -⟩, -⟩, -⟩, f16⟩, -⟩, -⟩, -⟩, -⟩, f21⟩ w1 hC1 E hE
      dsimp only at hE ⊢
      simp only [puts, act_put, act_put_none, List.setIfInBounds_toArray, List.set_cons_zero, List.set_cons_succ, f11, f16, f21] at hE ⊢
      clear f11 f16 f21
      go_wp2_with fail
      refine calls_then (equal_c _ _ _ (mul_ok (KP.out.y) (KQ.out.z)) (mul_ok (KQ.out.y) (KP.out.z))) ?_
      rintro e w2 ⟨rfl, hb2⟩
      go_wp2_with fail
      exact .mk (hE _ (hC1.next hb2))
    apply DetL.next
    · -- 23: Op.pick (Operand.tmp 16) (Operand.tmp 27) (Operand.const (Value.bool false))
      apply detStep_plain [(11, some 16), (22, some 27)]
      exact fun _ => rfl
      rfl
      rintro vals ⟨⟨⟨⟨⟨⟨⟨⟨⟨⟨⟨⟨⟨⟨⟨⟨⟨⟨⟨⟨⟨⟨⟨-, -⟩, -⟩, -⟩, -⟩, -⟩, -⟩, -⟩, -⟩, -⟩, -⟩, -⟩, f11⟩, -⟩, -⟩, -⟩, -⟩, -⟩, -⟩, -⟩, -⟩, -⟩, -⟩, f22⟩ w1 hC1 E hE
      simp only [puts, act_put, act_put_none, List.setIfInBounds_toArray, List.set_cons_zero, List.set_cons_succ, f11, f22] at hE ⊢
      clear f11 f22
      go_wp2
      exact .mk (hE _ hC1)
    apply DetL.last
    · -- 24: Op.assign (Operand.tmp 28)
      apply detStep_plain [(23, some 28), (22, some 27), (0, some 5), (1, some 6), (2, some 7), (3, some 8), (4, some 9), (5, some 10), (6, some 11), (7, some 12), (8, some 13), (9, some 14), (10, some 15), (11, some 16), (12, some 17), (13, some 18), (14, some 19), (15, some 20), (16, some 21), (17, some 22), (18, some 23), (19, some 24), (20, some 25), (21, some 26), (22, some 27), (23, some 28)]
      exact fun _ => rfl
      rfl
      rintro vals ⟨⟨⟨⟨⟨⟨⟨⟨⟨⟨⟨⟨⟨⟨⟨⟨⟨⟨⟨⟨⟨⟨⟨⟨-, f0⟩, f1⟩, f2⟩, f3⟩, f4⟩, f5⟩, f6⟩, f7⟩, f8⟩, f9⟩, f10⟩, f11⟩, f12⟩, f13⟩, f14⟩, f15⟩, f16⟩, f17⟩, f18⟩, f19⟩, f20⟩, f21⟩, f22⟩, f23⟩ w1 hC1 E hE
      simp only [puts, act_put, act_put_none, List.setIfInBounds_toArray, List.set_cons_zero, List.set_cons_succ, f0, f1, f2, f3, f4, f5, f6, f7, f8, f9, f10, f11, f12, f13, f14, f15, f16, f17, f18, f19, f20, f21, f22, f23] at hE ⊢
      clear f0 f1 f2 f3 f4 f5 f6 f7 f8 f9 f10 f11 f12 f13 f14 f15 f16 f17 f18 f19 f20 f21 f22 f23
      go_wp2
      exact .mk (hE _ hC1)
    rintro vals ⟨⟨⟨⟨⟨⟨⟨⟨⟨⟨⟨⟨⟨⟨⟨⟨⟨⟨⟨⟨⟨⟨⟨⟨⟨-, f0⟩, f1⟩, f2⟩, f3⟩, f4⟩, f5⟩, f6⟩, f7⟩, f8⟩, f9⟩, f10⟩, f11⟩, f12⟩, f13⟩, f14⟩, f15⟩, f16⟩, f17⟩, f18⟩, f19⟩, f20⟩, f21⟩, f22⟩, f23⟩, f24⟩ w1 hC1
    simp only [puts, act_put, act_put_none, List.setIfInBounds_toArray, List.set_cons_zero, List.set_cons_succ, f0, f1, f2, f3, f4, f5, f6, f7, f8, f9, f10, f11, f12, f13, f14, f15, f16, f17, f18, f19, f20, f21, f22, f23, f24]
    clear f0 f1 f2 f3 f4 f5 f6 f7 f8 f9 f10 f11 f12 f13 f14 f15 f16 f17 f18 f19 f20 f21 f22 f23 f24
    clear HC0
    go_wp2_with fail
    go_ret
    exact ⟨by rw [Bool.true_and]; rfl, hC1.2⟩
end Go.Proofs.Ytbeokfpbhemcfaa
