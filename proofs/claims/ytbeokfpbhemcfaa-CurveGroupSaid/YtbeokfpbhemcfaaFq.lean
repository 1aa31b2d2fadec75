/-
  Walks: the field's Odd and Equal.
-/
import Derived.Test.YtbeokfpbhemcfaaFe
namespace Go.Proofs.Ytbeokfpbhemcfaa
set_option linter.unusedSimpArgs false
set_option linter.unusedVariables false
open Go.RowKit

theorem and_one (l : Nat) (h : l < 18446744073709551616) : bits .and .u64 (l : Int) 1 = ((l % 2 : Nat) : Int) := by
  have h1 := and64 l 1 h (by decide)
  rw [show ((1 : Nat) : Int) = 1 from rfl] at h1
  rw [h1]
  congr 1
  exact Nat.and_two_pow_sub_one_eq_mod l 1
set_option maxRecDepth 100000 in
set_option maxHeartbeats 1000000 in
theorem odd_any (x : E5) (w : World) (hx : x.Lt 18446744073709551616) : Calls Try.prog 40 #[.agg (eV x)] w (fun e w' => e = .returned (.bool (decide ((leastE x).a % 2 = 1))) ∧ Below w.heap.size w w') := by
  have hu := Try.underlying26
  have hu5 := Try.underlying24
  have HX := Lib.hid hx
  clear hx
  obtain ⟨z, hz⟩ : ∃ z, z = leastE x := ⟨_, rfl⟩
  have hzl : z.a < 2251799813685248 := by rw [hz]; exact (least_lt x).a
  rw [← hz]
  have HZ := Lib.hid hz
  have HZL := Lib.hid hzl
  have hix : ∀ u : World, (Instr.index 24 (.agg (eV z)) (.int .i64 0)).run Try.prog u = .ok (.int .u64 (z.a : Int)) u := fun u =>
    run_index_array (k := 0) (n := 5) (e := 23) hu5 (by decide) rfl (by kernel_rfl) (by kernel_rfl) ⟨_, Try.underlying23⟩
  have hfd : ∀ u : World, (Instr.field 26 (.agg (eV z)) 0).run Try.prog u = .ok (.agg (eV z)) u := fun u => by kernel_rfl
  have hb0 := Blk.new w 26 (eV x)
  have HB0 := Lib.hid hb0
  clear hz hzl hb0
  go_enter Try.func40, Try.ntmps40
  go_wp2_with (refine wpList_get_box (x := .tmp 1) HB0.out rfl rfl rfl hu rfl elem_size ?_)
  refine calls_then (least_any x _ HX.out) ?_
  rintro e w2 ⟨rfl, hb2⟩
  rw [← HZ.out]
  go_wp2_with fail
  go_ret
  refine ⟨?_, (below_new _ _).trans (hb2.mono (by simp))⟩
  rw [and_one z.a (by have := HZL.out; omega)]
  have e : (((z.a % 2 : Nat) : Int) == 1) = decide (z.a % 2 = 1) := by
    rw [Bool.eq_iff_iff, beq_iff_eq, decide_eq_true_iff]
    omega
  exact congrArg (fun b => Ending.returned (.bool b)) e
set_option maxRecDepth 100000 in
set_option maxHeartbeats 1000000 in
theorem equal_any (x y : E5) (w : World) (hx : x.Lt 18446744073709551616) (hy : y.Lt 18446744073709551616) : Calls Try.prog 47 #[.agg (eV x), .agg (eV y)] w (fun e w' => e = .returned (.bool (limbs (leastE x) == limbs (leastE y))) ∧ Below w.heap.size w w') := by
  have hu := Try.underlying26
  have hst0 : G2 w w.heap.size (w.heap.size + 1) (eV x) (eV y) ((w.alloc (.cells (eV x) 26)).alloc (.cells (eV y) 26)) := g2_new w (eV x) (eV y)
  have HX := Lib.hid hx
  have HY := Lib.hid hy
  have HC0 := hst0.drew
  have heq := fun u => eql_elem (leastE x) (leastE y) u
  have HEQ := Lib.hid heq
  clear hx hy hst0 heq
  go_enter Try.func47, Try.ntmps47
  go_wp2_with fail
  generalize hr : w.heap.size + 1 = h at *
  generalize hg : w.heap.size = g at *
  refine wp_region_det (fun u => G2 w g h (eV x) (eV y) u) (fun u => G2 w g h (eV x) (eV y) u) [(0, some 5), (1, some 6), (2, some 7), (3, some 8), (4, some 9), (5, some 4)] (by kernel_rfl) (by kernel_rfl) (by decide) (by kernel_rfl) (fun _ => rfl) HC0 ?_
  apply DetL.next
  · -- 0: Op.load 26 (Operand.tmp 2)
    apply detStep_plain []
    exact fun _ => rfl
    rfl
    rintro vals - w1 hC1 E hE
    simp only [puts, act_put, act_put_none, List.setIfInBounds_toArray, List.set_cons_zero, List.set_cons_succ] at hE ⊢
    refine wpList_get_box hC1.x rfl rfl rfl hu rfl elem_size ?_
    go_wp2_with fail
    exact .mk (hE _ hC1)
  apply DetL.next
  · -- 1: Op.call { callee := Callee.value (Operand.func 61), args := #[Operand.tmp 5], argTypes := #[26] }
    apply detStep_plain [(0, some 5)]
    exact fun _ => rfl
    rfl
    rintro vals ⟨-, f0⟩ w1 hC1 E hE
    simp only [puts, act_put, act_put_none, List.setIfInBounds_toArray, List.set_cons_zero, List.set_cons_succ, f0] at hE ⊢
    clear f0
    go_wp2_with fail
    refine calls_then (least_any x _ HX.out) ?_
    rintro e w2 ⟨rfl, hb2⟩
    go_wp2_with fail
    exact .mk (hE _ (hC1.next hb2))
  apply DetL.next
  · -- 2: Op.load 26 (Operand.tmp 3)
    apply detStep_plain []
    exact fun _ => rfl
    rfl
    rintro vals ⟨⟨-, -⟩, -⟩ w1 hC1 E hE
    simp only [puts, act_put, act_put_none, List.setIfInBounds_toArray, List.set_cons_zero, List.set_cons_succ] at hE ⊢
    refine wpList_get_box hC1.z rfl rfl rfl hu rfl elem_size ?_
    go_wp2_with fail
    exact .mk (hE _ hC1)
  apply DetL.next
  · -- 3: Op.call { callee := Callee.value (Operand.func 61), args := #[Operand.tmp 7], argTypes := #[26] }
    apply detStep_plain [(2, some 7), (1, some 6)]
    exact fun _ => rfl
    rfl
    rintro vals ⟨⟨⟨-, -⟩, f1⟩, f2⟩ w1 hC1 E hE
    simp only [puts, act_put, act_put_none, List.setIfInBounds_toArray, List.set_cons_zero, List.set_cons_succ, f1, f2] at hE ⊢
    clear f1 f2
    go_wp2_with fail
    refine calls_then (least_any y _ HY.out) ?_
    rintro e w2 ⟨rfl, hb2⟩
    go_wp2_with fail
    exact .mk (hE _ (hC1.next hb2))
  apply DetL.next
  · -- 4: Op.binOp BinOp.eql 26 (Operand.tmp 6) (Operand.tmp 8) 26
    apply detStep_plain [(1, some 6), (3, some 8)]
    exact fun _ => rfl
    rfl
    rintro vals ⟨⟨⟨⟨-, -⟩, f1⟩, -⟩, f3⟩ w1 hC1 E hE
    have heq := HEQ.out
    simp only [puts, act_put, act_put_none, List.setIfInBounds_toArray, List.set_cons_zero, List.set_cons_succ, f1, f3] at hE ⊢
    clear f1 f3
    go_wp2
    exact .mk (hE _ hC1)
  apply DetL.last
  · -- 5: Op.assign (Operand.tmp 9)
    apply detStep_plain [(4, some 9), (3, some 8), (0, some 5), (1, some 6), (2, some 7), (3, some 8), (4, some 9)]
    exact fun _ => rfl
    rfl
    rintro vals ⟨⟨⟨⟨⟨-, f0⟩, f1⟩, f2⟩, f3⟩, f4⟩ w1 hC1 E hE
    simp only [puts, act_put, act_put_none, List.setIfInBounds_toArray, List.set_cons_zero, List.set_cons_succ, f0, f1, f2, f3, f4] at hE ⊢
    clear f0 f1 f2 f3 f4
    go_wp2
    exact .mk (hE _ hC1)
  rintro vals ⟨⟨⟨⟨⟨⟨-, f0⟩, f1⟩, f2⟩, f3⟩, f4⟩, f5⟩ w1 hC1
  simp only [puts, act_put, act_put_none, List.setIfInBounds_toArray, List.set_cons_zero, List.set_cons_succ, f0, f1, f2, f3, f4, f5]
  clear f0 f1 f2 f3 f4 f5
  go_wp2_with fail
  go_ret
  exact ⟨rfl, hC1.bel⟩
end Go.Proofs.Ytbeokfpbhemcfaa
