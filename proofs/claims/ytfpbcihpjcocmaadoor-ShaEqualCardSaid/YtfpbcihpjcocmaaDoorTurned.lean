/-
  Walks: sha's form.turned, form.all, cut.
-/
import Derived.Test.YtfpbcihpjcocmaaDoorProg
import Derived.Test.YtfpbcihpjcocmaaDoorDet
import Derived.Test.YtfpbcihpjcocmaaDoorBox
import Derived.Test.YtfpbcihpjcocmaaDoorWords
import Derived.BigQuiet
import Derived.Deep.QuietTactic
import Derived.IntWalk
namespace Go.Proofs.YtfpbcihpjcocmaaDoor
set_option linter.unusedSimpArgs false
set_option linter.unusedVariables false
open Go.RowKit

def f64C : Array Value := #[.int .i64 64, .int .i64 80, .int .i64 28, .int .i64 34, .int .i64 39, .int .i64 14, .int .i64 18, .int .i64 41, .int .i64 1, .int .i64 8, .int .i64 7, .int .i64 19, .int .i64 61, .int .i64 6]
def f32C : Array Value := #[.int .i64 32, .int .i64 64, .int .i64 2, .int .i64 13, .int .i64 22, .int .i64 6, .int .i64 11, .int .i64 25, .int .i64 7, .int .i64 18, .int .i64 3, .int .i64 17, .int .i64 19, .int .i64 10]

theorem below_new (w : World) (o : Obj) : Below w.heap.size w (w.alloc o) := (Below.refl _ _).alloc (Nat.le_refl _) _
theorem turned64_any (x n : Nat) (w : World) (hx : x < 18446744073709551616) (hn : n < 64) :
    Calls Tryd.prog 37 #[.agg f64C, .int .u64 x, .int .i64 n] w fun e w' => e = .returned (.int .u64 (turnedN 64 x n : Nat)) ∧ Below w.heap.size w w' := by
  have c0 := (Blk.new w 34 f64C).cell 0
  simp only [f64C, List.getElem?_toArray, List.getElem?_cons_zero] at c0
  have hnn : (0 : Int) ≤ (64 : Int) - (n : Int) := by omega
  have hn1 : (n : Int) < 64 := by omega
  have hx1 : (x : Int) < 18446744073709551616 := by omega
  have HX := Lib.hid hx
  clear hx
  rw [f64C]
  go_enter Tryd.func37, Tryd.ntmps37
  go_wp2
  go_quiet (fail)
  go_wp2
  go_ret
  refine ⟨ret_int' ?_, below_drewN' (below_new _ _) _⟩
  exact rot_walk64 x n HX.out
theorem turned32_any (x n : Nat) (w : World) (hx : x < 18446744073709551616) (hn : n < 32) :
    Calls Tryd.prog 37 #[.agg f32C, .int .u64 x, .int .i64 n] w fun e w' => e = .returned (.int .u64 (turnedN 32 x n : Nat)) ∧ Below w.heap.size w w' := by
  have c0 := (Blk.new w 34 f32C).cell 0
  simp only [f32C, List.getElem?_toArray, List.getElem?_cons_zero] at c0
  have hnn : (0 : Int) ≤ (32 : Int) - (n : Int) := by omega
  have hn1 : (n : Int) < 32 := by omega
  have hx1 : (x : Int) < 18446744073709551616 := by omega
  have HX := Lib.hid hx
  clear hx
  rw [f32C]
  go_enter Tryd.func37, Tryd.ntmps37
  go_wp2
  go_quiet (fail)
  go_wp2
  go_ret
  refine ⟨ret_int' ?_, below_drewN' (below_new _ _) _⟩
  exact rot_walk32' x n

theorem form_size : (Tryd.prog.info? 34).map (·.size) = some 14 := by kernel_rfl

set_option maxHeartbeats 1000000 in
theorem all64_any (x p q c : Nat) (shift : Bool) (w : World) (hx : x < 18446744073709551616) (hp : p < 64) (hq : q < 64) (hc : c < 64) :
    Calls Tryd.prog 31 #[.agg f64C, .int .u64 x, .agg #[.int .i64 p, .int .i64 q, .int .i64 c], .bool shift] w fun e w' => e = .returned (.int .u64 (allN 64 x p q c shift : Nat)) ∧ Below w.heap.size w w' := by
  obtain ⟨W0, hW0⟩ : ∃ W0, W0 = ((w.alloc (.cells f64C 34)).alloc (.cells #[.int .i64 p, .int .i64 q, .int .i64 c] 30)) := ⟨_, rfl⟩
  have hb : Below w.heap.size w W0 := by rw [hW0]; exact (below_new _ _).alloc (by simp) _
  have hb4 : Blk W0 w.heap.size 34 f64C := by rw [hW0]; exact (Blk.new _ _ _).alloc _
  have hb6 : Blk W0 (w.heap.size + 1) 30 #[.int .i64 p, .int .i64 q, .int .i64 c] := by
    have := Blk.new (w.alloc (.cells f64C 34)) 30 #[.int .i64 p, .int .i64 q, .int .i64 c]
    rw [hW0]; simpa using this
  have hl4 := hb4.lt
  have hl6 := hb6.lt
  have HB := Lib.hid hb
  have H4 := Lib.hid hb4
  have H6 := Lib.hid hb6
  have HW := Lib.hid hW0
  have hu := Tryd.underlying34
  have hx1 : (x : Int) < 18446744073709551616 := by omega
  have HX := Lib.hid hx
  have hc1 : (c : Int) < 64 := by omega
  obtain ⟨L, hL⟩ : ∃ L : Nat, L = lastN 64 x c shift := ⟨_, rfl⟩
  have HL := Lib.hid hL
  have c2 := hb6.cell 2
  simp at c2
  have hb40 := hb4
  have c20 := c2
  rw [hW0] at hb40 c20
  have hHC : ∀ (f : List Value), f = f := fun _ => rfl
  clear hb hb4 hb6 hW0 hx hL hHC
  cases shift with
  | false =>
    go_enter Tryd.func31, Tryd.ntmps31
    go_wp2_with (refine wpList_get_box (x := .tmp 4) hb40 rfl rfl rfl hu rfl form_size ?_)
    rw [← HW.out]
    clear hb40 c20
    refine calls_then (turned64_any x c W0 HX.out hc) ?_
    rintro e w1 ⟨rfl, hb1⟩
    rw [show turnedN 64 x c = L from HL.out.symm]
    have g4 := H4.out.below hb1 hl4
    have g6 := H6.out.below hb1 hl6
    have hBw := HB.out.trans (hb1.mono HB.out.size)
    have h14 := g4.lt
    have h16 := g6.lt
    have G4 := Lib.hid g4
    have G6 := Lib.hid g6
    have HBw := Lib.hid hBw
    clear g4 g6 hBw hb1 c2
    go_wp2_with fail
    have HC0 : Below w1.heap.size w1 w1.drew := (Below.refl _ _).drew
    refine wp_region_det (fun u => Below w1.heap.size w1 u) (fun u => Below w1.heap.size w1 u) [(0, some 20), (1, some 21), (2, some 22), (3, some 23), (4, some 24), (5, some 25), (6, some 26), (7, some 27), (8, some 28), (9, some 29), (10, some 30), (11, some 31), (12, some 32), (13, some 8)] (by kernel_rfl) (by kernel_rfl) (by decide) (by kernel_rfl) (fun _ => rfl) HC0 ?_
    apply DetL.next
    · -- 0: Op.load 34 (Operand.tmp 4)
      apply detStep_plain []
      exact fun _ => rfl
      rfl
      rintro vals - w1 hC1 E hE
      simp only [puts, act_put, act_put_none, List.setIfInBounds_toArray, List.set_cons_zero, List.set_cons_succ] at hE ⊢
      refine wpList_get_box (G4.out.below hC1 h14) rfl rfl rfl hu rfl form_size ?_
      go_wp2_with fail
      exact .mk (hE _ hC1)
    apply DetL.next
    · -- 1: Op.move (Operand.tmp 1)
      apply detStep_plain []
      exact fun _ => rfl
      rfl
      rintro vals ⟨-, -⟩ w1 hC1 E hE
      simp only [puts, act_put, act_put_none, List.setIfInBounds_toArray, List.set_cons_zero, List.set_cons_succ] at hE ⊢
      go_wp2
      exact .mk (hE _ hC1)
    apply DetL.next
    · -- 2: Op.indexAddr 30 (Operand.tmp 6) (Operand.const (Value.int IntKind.i64 0))
      apply detStep_plain []
      exact fun _ => rfl
      rfl
      rintro vals ⟨⟨-, -⟩, -⟩ w1 hC1 E hE
      simp only [puts, act_put, act_put_none, List.setIfInBounds_toArray, List.set_cons_zero, List.set_cons_succ] at hE ⊢
      go_wp2
      exact .mk (hE _ hC1)
    apply DetL.next
    · -- 3: Op.load 3 (Operand.tmp 22)
      apply detStep_plain [(2, some 22)]
      exact fun _ => rfl
      rfl
      rintro vals ⟨⟨⟨-, -⟩, -⟩, f2⟩ w1 hC1 E hE
      have d0 := (G6.out.below hC1 h16).cell 0
      simp at d0
      simp only [puts, act_put, act_put_none, List.setIfInBounds_toArray, List.set_cons_zero, List.set_cons_succ, f2] at hE ⊢
      clear f2
      go_wp2
      exact .mk (hE _ hC1)
    apply DetL.next
    · -- 4: Op.call { callee := Callee.value (Operand.func 37), args := #[Operand.tmp 20, Operand.tmp 21, Operand.tmp 23],
      apply detStep_plain [(0, some 20), (1, some 21), (3, some 23)]
      exact fun _ => rfl
      rfl
      rintro vals ⟨⟨⟨⟨-, f0⟩, f1⟩, -⟩, f3⟩ w1 hC1 E hE
      simp only [puts, act_put, act_put_none, List.setIfInBounds_toArray, List.set_cons_zero, List.set_cons_succ, f0, f1, f3] at hE ⊢
      clear f0 f1 f3
      go_wp2_with fail
      refine calls_then (turned64_any x p _ HX.out hp) ?_
      rintro e w2 ⟨rfl, hb2⟩
      go_wp2_with fail
      exact .mk (hE _ (hC1.trans (hb2.mono hC1.size)))
    apply DetL.next
    · -- 5: Op.load 34 (Operand.tmp 4)
      apply detStep_plain []
      exact fun _ => rfl
      rfl
      rintro vals ⟨⟨⟨⟨⟨-, -⟩, -⟩, -⟩, -⟩, -⟩ w1 hC1 E hE
      simp only [puts, act_put, act_put_none, List.setIfInBounds_toArray, List.set_cons_zero, List.set_cons_succ] at hE ⊢
      refine wpList_get_box (G4.out.below hC1 h14) rfl rfl rfl hu rfl form_size ?_
      go_wp2_with fail
      exact .mk (hE _ hC1)
    apply DetL.next
    · -- 6: Op.move (Operand.tmp 1)
      apply detStep_plain []
      exact fun _ => rfl
      rfl
      rintro vals ⟨⟨⟨⟨⟨⟨-, -⟩, -⟩, -⟩, -⟩, -⟩, -⟩ w1 hC1 E hE
      simp only [puts, act_put, act_put_none, List.setIfInBounds_toArray, List.set_cons_zero, List.set_cons_succ] at hE ⊢
      go_wp2
      exact .mk (hE _ hC1)
    apply DetL.next
    · -- 7: Op.indexAddr 30 (Operand.tmp 6) (Operand.const (Value.int IntKind.i64 1))
      apply detStep_plain []
      exact fun _ => rfl
      rfl
      rintro vals ⟨⟨⟨⟨⟨⟨⟨-, -⟩, -⟩, -⟩, -⟩, -⟩, -⟩, -⟩ w1 hC1 E hE
      simp only [puts, act_put, act_put_none, List.setIfInBounds_toArray, List.set_cons_zero, List.set_cons_succ] at hE ⊢
      go_wp2
      exact .mk (hE _ hC1)
    apply DetL.next
    · -- 8: Op.load 3 (Operand.tmp 27)
      apply detStep_plain [(7, some 27)]
      exact fun _ => rfl
      rfl
      rintro vals ⟨⟨⟨⟨⟨⟨⟨⟨-, -⟩, -⟩, -⟩, -⟩, -⟩, -⟩, -⟩, f7⟩ w1 hC1 E hE
      have d0 := (G6.out.below hC1 h16).cell 1
      simp at d0
      simp only [puts, act_put, act_put_none, List.setIfInBounds_toArray, List.set_cons_zero, List.set_cons_succ, f7] at hE ⊢
      clear f7
      go_wp2
      exact .mk (hE _ hC1)
    apply DetL.next
    · -- 9: Op.call { callee := Callee.value (Operand.func 37), args := #[Operand.tmp 25, Operand.tmp 26, Operand.tmp 28],
      apply detStep_plain [(5, some 25), (6, some 26), (8, some 28), (4, some 24)]
      exact fun _ => rfl
      rfl
      rintro vals ⟨⟨⟨⟨⟨⟨⟨⟨⟨-, -⟩, -⟩, -⟩, -⟩, f4⟩, f5⟩, f6⟩, -⟩, f8⟩ w1 hC1 E hE
      simp only [puts, act_put, act_put_none, List.setIfInBounds_toArray, List.set_cons_zero, List.set_cons_succ, f4, f5, f6, f8] at hE ⊢
      clear f4 f5 f6 f8
      go_wp2_with fail
      refine calls_then (turned64_any x q _ HX.out hq) ?_
      rintro e w2 ⟨rfl, hb2⟩
      go_wp2_with fail
      exact .mk (hE _ (hC1.trans (hb2.mono hC1.size)))
    apply DetL.next
    · -- 10: Op.binOp BinOp.xor 40 (Operand.tmp 24) (Operand.tmp 29) 40
      apply detStep_plain [(4, some 24), (9, some 29)]
      exact fun _ => rfl
      rfl
      rintro vals ⟨⟨⟨⟨⟨⟨⟨⟨⟨⟨-, -⟩, -⟩, -⟩, -⟩, f4⟩, -⟩, -⟩, -⟩, -⟩, f9⟩ w1 hC1 E hE
      simp only [puts, act_put, act_put_none, List.setIfInBounds_toArray, List.set_cons_zero, List.set_cons_succ, f4, f9] at hE ⊢
      clear f4 f9
      go_wp2
      exact .mk (hE _ hC1)
    apply DetL.next
    · -- 11: Op.move (Operand.tmp 9)
      apply detStep_plain []
      exact fun _ => rfl
      rfl
      rintro vals ⟨⟨⟨⟨⟨⟨⟨⟨⟨⟨⟨-, -⟩, -⟩, -⟩, -⟩, -⟩, -⟩, -⟩, -⟩, -⟩, -⟩, -⟩ w1 hC1 E hE
      simp only [puts, act_put, act_put_none, List.setIfInBounds_toArray, List.set_cons_zero, List.set_cons_succ] at hE ⊢
      go_wp2
      exact .mk (hE _ hC1)
    apply DetL.next
    · -- 12: Op.binOp BinOp.xor 40 (Operand.tmp 30) (Operand.tmp 31) 40
      apply detStep_plain [(10, some 30), (11, some 31)]
      exact fun _ => rfl
      rfl
      rintro vals ⟨⟨⟨⟨⟨⟨⟨⟨⟨⟨⟨⟨-, -⟩, -⟩, -⟩, -⟩, -⟩, -⟩, -⟩, -⟩, -⟩, -⟩, f10⟩, f11⟩ w1 hC1 E hE
      simp only [puts, act_put, act_put_none, List.setIfInBounds_toArray, List.set_cons_zero, List.set_cons_succ, f10, f11] at hE ⊢
      clear f10 f11
      go_wp2
      exact .mk (hE _ hC1)
    apply DetL.last
    · -- 13: Op.assign (Operand.tmp 32)
      apply detStep_plain [(12, some 32), (9, some 29), (0, some 20), (1, some 21), (2, some 22), (3, some 23), (4, some 24), (5, some 25), (6, some 26), (7, some 27), (8, some 28), (9, some 29), (10, some 30), (11, some 31), (12, some 32)]
      exact fun _ => rfl
      rfl
      rintro vals ⟨⟨⟨⟨⟨⟨⟨⟨⟨⟨⟨⟨⟨-, f0⟩, f1⟩, f2⟩, f3⟩, f4⟩, f5⟩, f6⟩, f7⟩, f8⟩, f9⟩, f10⟩, f11⟩, f12⟩ w1 hC1 E hE
      simp only [puts, act_put, act_put_none, List.setIfInBounds_toArray, List.set_cons_zero, List.set_cons_succ, f0, f1, f2, f3, f4, f5, f6, f7, f8, f9, f10, f11, f12] at hE ⊢
      clear f0 f1 f2 f3 f4 f5 f6 f7 f8 f9 f10 f11 f12
      go_wp2
      exact .mk (hE _ hC1)
    rintro vals ⟨⟨⟨⟨⟨⟨⟨⟨⟨⟨⟨⟨⟨⟨-, f0⟩, f1⟩, f2⟩, f3⟩, f4⟩, f5⟩, f6⟩, f7⟩, f8⟩, f9⟩, f10⟩, f11⟩, f12⟩, f13⟩ w1 hC1
    simp only [puts, act_put, act_put_none, List.setIfInBounds_toArray, List.set_cons_zero, List.set_cons_succ, f0, f1, f2, f3, f4, f5, f6, f7, f8, f9, f10, f11, f12, f13]
    clear f0 f1 f2 f3 f4 f5 f6 f7 f8 f9 f10 f11 f12 f13
    go_wp2_with fail
    go_ret
    refine ⟨ret_int' ?_, HBw.out.trans (hC1.mono HBw.out.size)⟩
    rw [xor64 _ _ (turnedN_lt HX.out) (turnedN_lt HX.out), xor64 _ _ (xor_lt64 (turnedN_lt HX.out) (turnedN_lt HX.out)) (by rw [HL.out]; exact lastN_lt HX.out), HL.out]
    rfl
  | true =>
    go_enter Tryd.func31, Tryd.ntmps31
    go_wp2_with (refine wpList_get_box (x := .tmp 4) hb40 rfl rfl rfl hu rfl form_size ?_)
    rw [← HW.out]
    clear hb40 c20
    refine calls_then (turned64_any x c W0 HX.out hc) ?_
    rintro e w1 ⟨rfl, hb1⟩
    have g4 := H4.out.below hb1 hl4
    have g6 := H6.out.below hb1 hl6
    have hBw := HB.out.trans (hb1.mono HB.out.size)
    have h14 := g4.lt
    have h16 := g6.lt
    have cc := g6.cell 2
    simp at cc
    have G4 := Lib.hid g4
    have G6 := Lib.hid g6
    have HBw := Lib.hid hBw
    clear g4 g6 hBw hb1 c2
    go_wp2_with fail
    rw [show (x : Int) / 2 ^ c = (L : Int) by rw [HL.out, shr_int]; rfl]
    clear cc
    have HC0 : Below w1.heap.size w1 w1.drew := (Below.refl _ _).drew
    refine wp_region_det (fun u => Below w1.heap.size w1 u) (fun u => Below w1.heap.size w1 u) [(0, some 20), (1, some 21), (2, some 22), (3, some 23), (4, some 24), (5, some 25), (6, some 26), (7, some 27), (8, some 28), (9, some 29), (10, some 30), (11, some 31), (12, some 32), (13, some 8)] (by kernel_rfl) (by kernel_rfl) (by decide) (by kernel_rfl) (fun _ => rfl) HC0 ?_
    apply DetL.next
    · -- 0: Op.load 34 (Operand.tmp 4)
      apply detStep_plain []
      exact fun _ => rfl
      rfl
      rintro vals - w1 hC1 E hE
      simp only [puts, act_put, act_put_none, List.setIfInBounds_toArray, List.set_cons_zero, List.set_cons_succ] at hE ⊢
      refine wpList_get_box (G4.out.below hC1 h14) rfl rfl rfl hu rfl form_size ?_
      go_wp2_with fail
      exact .mk (hE _ hC1)
    apply DetL.next
    · -- 1: Op.move (Operand.tmp 1)
      apply detStep_plain []
      exact fun _ => rfl
      rfl
      rintro vals ⟨-, -⟩ w1 hC1 E hE
      simp only [puts, act_put, act_put_none, List.setIfInBounds_toArray, List.set_cons_zero, List.set_cons_succ] at hE ⊢
      go_wp2
      exact .mk (hE _ hC1)
    apply DetL.next
    · -- 2: Op.indexAddr 30 (Operand.tmp 6) (Operand.const (Value.int IntKind.i64 0))
      apply detStep_plain []
      exact fun _ => rfl
      rfl
      rintro vals ⟨⟨-, -⟩, -⟩ w1 hC1 E hE
      simp only [puts, act_put, act_put_none, List.setIfInBounds_toArray, List.set_cons_zero, List.set_cons_succ] at hE ⊢
      go_wp2
      exact .mk (hE _ hC1)
    apply DetL.next
    · -- 3: Op.load 3 (Operand.tmp 22)
      apply detStep_plain [(2, some 22)]
      exact fun _ => rfl
      rfl
      rintro vals ⟨⟨⟨-, -⟩, -⟩, f2⟩ w1 hC1 E hE
      have d0 := (G6.out.below hC1 h16).cell 0
      simp at d0
      simp only [puts, act_put, act_put_none, List.setIfInBounds_toArray, List.set_cons_zero, List.set_cons_succ, f2] at hE ⊢
      clear f2
      go_wp2
      exact .mk (hE _ hC1)
    apply DetL.next
    · -- 4: Op.call { callee := Callee.value (Operand.func 37), args := #[Operand.tmp 20, Operand.tmp 21, Operand.tmp 23],
      apply detStep_plain [(0, some 20), (1, some 21), (3, some 23)]
      exact fun _ => rfl
      rfl
      rintro vals ⟨⟨⟨⟨-, f0⟩, f1⟩, -⟩, f3⟩ w1 hC1 E hE
      simp only [puts, act_put, act_put_none, List.setIfInBounds_toArray, List.set_cons_zero, List.set_cons_succ, f0, f1, f3] at hE ⊢
      clear f0 f1 f3
      go_wp2_with fail
      refine calls_then (turned64_any x p _ HX.out hp) ?_
      rintro e w2 ⟨rfl, hb2⟩
      go_wp2_with fail
      exact .mk (hE _ (hC1.trans (hb2.mono hC1.size)))
    apply DetL.next
    · -- 5: Op.load 34 (Operand.tmp 4)
      apply detStep_plain []
      exact fun _ => rfl
      rfl
      rintro vals ⟨⟨⟨⟨⟨-, -⟩, -⟩, -⟩, -⟩, -⟩ w1 hC1 E hE
      simp only [puts, act_put, act_put_none, List.setIfInBounds_toArray, List.set_cons_zero, List.set_cons_succ] at hE ⊢
      refine wpList_get_box (G4.out.below hC1 h14) rfl rfl rfl hu rfl form_size ?_
      go_wp2_with fail
      exact .mk (hE _ hC1)
    apply DetL.next
    · -- 6: Op.move (Operand.tmp 1)
      apply detStep_plain []
      exact fun _ => rfl
      rfl
      rintro vals ⟨⟨⟨⟨⟨⟨-, -⟩, -⟩, -⟩, -⟩, -⟩, -⟩ w1 hC1 E hE
      simp only [puts, act_put, act_put_none, List.setIfInBounds_toArray, List.set_cons_zero, List.set_cons_succ] at hE ⊢
      go_wp2
      exact .mk (hE _ hC1)
    apply DetL.next
    · -- 7: Op.indexAddr 30 (Operand.tmp 6) (Operand.const (Value.int IntKind.i64 1))
      apply detStep_plain []
      exact fun _ => rfl
      rfl
      rintro vals ⟨⟨⟨⟨⟨⟨⟨-, -⟩, -⟩, -⟩, -⟩, -⟩, -⟩, -⟩ w1 hC1 E hE
      simp only [puts, act_put, act_put_none, List.setIfInBounds_toArray, List.set_cons_zero, List.set_cons_succ] at hE ⊢
      go_wp2
      exact .mk (hE _ hC1)
    apply DetL.next
    · -- 8: Op.load 3 (Operand.tmp 27)
      apply detStep_plain [(7, some 27)]
      exact fun _ => rfl
      rfl
      rintro vals ⟨⟨⟨⟨⟨⟨⟨⟨-, -⟩, -⟩, -⟩, -⟩, -⟩, -⟩, -⟩, f7⟩ w1 hC1 E hE
      have d0 := (G6.out.below hC1 h16).cell 1
      simp at d0
      simp only [puts, act_put, act_put_none, List.setIfInBounds_toArray, List.set_cons_zero, List.set_cons_succ, f7] at hE ⊢
      clear f7
      go_wp2
      exact .mk (hE _ hC1)
    apply DetL.next
    · -- 9: Op.call { callee := Callee.value (Operand.func 37), args := #[Operand.tmp 25, Operand.tmp 26, Operand.tmp 28],
      apply detStep_plain [(5, some 25), (6, some 26), (8, some 28), (4, some 24)]
      exact fun _ => rfl
      rfl
      rintro vals ⟨⟨⟨⟨⟨⟨⟨⟨⟨-, -⟩, -⟩, -⟩, -⟩, f4⟩, f5⟩, f6⟩, -⟩, f8⟩ w1 hC1 E hE
      simp only [puts, act_put, act_put_none, List.setIfInBounds_toArray, List.set_cons_zero, List.set_cons_succ, f4, f5, f6, f8] at hE ⊢
      clear f4 f5 f6 f8
      go_wp2_with fail
      refine calls_then (turned64_any x q _ HX.out hq) ?_
      rintro e w2 ⟨rfl, hb2⟩
      go_wp2_with fail
      exact .mk (hE _ (hC1.trans (hb2.mono hC1.size)))
    apply DetL.next
    · -- 10: Op.binOp BinOp.xor 40 (Operand.tmp 24) (Operand.tmp 29) 40
      apply detStep_plain [(4, some 24), (9, some 29)]
      exact fun _ => rfl
      rfl
      rintro vals ⟨⟨⟨⟨⟨⟨⟨⟨⟨⟨-, -⟩, -⟩, -⟩, -⟩, f4⟩, -⟩, -⟩, -⟩, -⟩, f9⟩ w1 hC1 E hE
      simp only [puts, act_put, act_put_none, List.setIfInBounds_toArray, List.set_cons_zero, List.set_cons_succ, f4, f9] at hE ⊢
      clear f4 f9
      go_wp2
      exact .mk (hE _ hC1)
    apply DetL.next
    · -- 11: Op.move (Operand.tmp 9)
      apply detStep_plain []
      exact fun _ => rfl
      rfl
      rintro vals ⟨⟨⟨⟨⟨⟨⟨⟨⟨⟨⟨-, -⟩, -⟩, -⟩, -⟩, -⟩, -⟩, -⟩, -⟩, -⟩, -⟩, -⟩ w1 hC1 E hE
      simp only [puts, act_put, act_put_none, List.setIfInBounds_toArray, List.set_cons_zero, List.set_cons_succ] at hE ⊢
      go_wp2
      exact .mk (hE _ hC1)
    apply DetL.next
    · -- 12: Op.binOp BinOp.xor 40 (Operand.tmp 30) (Operand.tmp 31) 40
      apply detStep_plain [(10, some 30), (11, some 31)]
      exact fun _ => rfl
      rfl
      rintro vals ⟨⟨⟨⟨⟨⟨⟨⟨⟨⟨⟨⟨-, -⟩, -⟩, -⟩, -⟩, -⟩, -⟩, -⟩, -⟩, -⟩, -⟩, f10⟩, f11⟩ w1 hC1 E hE
      simp only [puts, act_put, act_put_none, List.setIfInBounds_toArray, List.set_cons_zero, List.set_cons_succ, f10, f11] at hE ⊢
      clear f10 f11
      go_wp2
      exact .mk (hE _ hC1)
    apply DetL.last
    · -- 13: Op.assign (Operand.tmp 32)
      apply detStep_plain [(12, some 32), (9, some 29), (0, some 20), (1, some 21), (2, some 22), (3, some 23), (4, some 24), (5, some 25), (6, some 26), (7, some 27), (8, some 28), (9, some 29), (10, some 30), (11, some 31), (12, some 32)]
      exact fun _ => rfl
      rfl
      rintro vals ⟨⟨⟨⟨⟨⟨⟨⟨⟨⟨⟨⟨⟨-, f0⟩, f1⟩, f2⟩, f3⟩, f4⟩, f5⟩, f6⟩, f7⟩, f8⟩, f9⟩, f10⟩, f11⟩, f12⟩ w1 hC1 E hE
      simp only [puts, act_put, act_put_none, List.setIfInBounds_toArray, List.set_cons_zero, List.set_cons_succ, f0, f1, f2, f3, f4, f5, f6, f7, f8, f9, f10, f11, f12] at hE ⊢
      clear f0 f1 f2 f3 f4 f5 f6 f7 f8 f9 f10 f11 f12
      go_wp2
      exact .mk (hE _ hC1)
    rintro vals ⟨⟨⟨⟨⟨⟨⟨⟨⟨⟨⟨⟨⟨⟨-, f0⟩, f1⟩, f2⟩, f3⟩, f4⟩, f5⟩, f6⟩, f7⟩, f8⟩, f9⟩, f10⟩, f11⟩, f12⟩, f13⟩ w1 hC1
    simp only [puts, act_put, act_put_none, List.setIfInBounds_toArray, List.set_cons_zero, List.set_cons_succ, f0, f1, f2, f3, f4, f5, f6, f7, f8, f9, f10, f11, f12, f13]
    clear f0 f1 f2 f3 f4 f5 f6 f7 f8 f9 f10 f11 f12 f13
    go_wp2_with fail
    go_ret
    refine ⟨ret_int' ?_, HBw.out.trans (hC1.mono HBw.out.size)⟩
    rw [xor64 _ _ (turnedN_lt HX.out) (turnedN_lt HX.out), xor64 _ _ (xor_lt64 (turnedN_lt HX.out) (turnedN_lt HX.out)) (by rw [HL.out]; exact lastN_lt HX.out), HL.out]
    rfl
set_option maxHeartbeats 1000000 in
theorem all32_any (x p q c : Nat) (shift : Bool) (w : World) (hx : x < 18446744073709551616) (hp : p < 32) (hq : q < 32) (hc : c < 32) :
    Calls Tryd.prog 31 #[.agg f32C, .int .u64 x, .agg #[.int .i64 p, .int .i64 q, .int .i64 c], .bool shift] w fun e w' => e = .returned (.int .u64 (allN 32 x p q c shift : Nat)) ∧ Below w.heap.size w w' := by
  obtain ⟨W0, hW0⟩ : ∃ W0, W0 = ((w.alloc (.cells f32C 34)).alloc (.cells #[.int .i64 p, .int .i64 q, .int .i64 c] 30)) := ⟨_, rfl⟩
  have hb : Below w.heap.size w W0 := by rw [hW0]; exact (below_new _ _).alloc (by simp) _
  have hb4 : Blk W0 w.heap.size 34 f32C := by rw [hW0]; exact (Blk.new _ _ _).alloc _
  have hb6 : Blk W0 (w.heap.size + 1) 30 #[.int .i64 p, .int .i64 q, .int .i64 c] := by
    have := Blk.new (w.alloc (.cells f32C 34)) 30 #[.int .i64 p, .int .i64 q, .int .i64 c]
    rw [hW0]; simpa using this
  have hl4 := hb4.lt
  have hl6 := hb6.lt
  have HB := Lib.hid hb
  have H4 := Lib.hid hb4
  have H6 := Lib.hid hb6
  have HW := Lib.hid hW0
  have hu := Tryd.underlying34
  have hx1 : (x : Int) < 18446744073709551616 := by omega
  have HX := Lib.hid hx
  have hc1 : (c : Int) < 32 := by omega
  obtain ⟨L, hL⟩ : ∃ L : Nat, L = lastN 32 x c shift := ⟨_, rfl⟩
  have HL := Lib.hid hL
  have c2 := hb6.cell 2
  simp at c2
  have hb40 := hb4
  have c20 := c2
  rw [hW0] at hb40 c20
  have hHC : ∀ (f : List Value), f = f := fun _ => rfl
  clear hb hb4 hb6 hW0 hx hL hHC
  cases shift with
  | false =>
    go_enter Tryd.func31, Tryd.ntmps31
    go_wp2_with (refine wpList_get_box (x := .tmp 4) hb40 rfl rfl rfl hu rfl form_size ?_)
    rw [← HW.out]
    clear hb40 c20
    refine calls_then (turned32_any x c W0 HX.out hc) ?_
    rintro e w1 ⟨rfl, hb1⟩
    rw [show turnedN 32 x c = L from HL.out.symm]
    have g4 := H4.out.below hb1 hl4
    have g6 := H6.out.below hb1 hl6
    have hBw := HB.out.trans (hb1.mono HB.out.size)
    have h14 := g4.lt
    have h16 := g6.lt
    have G4 := Lib.hid g4
    have G6 := Lib.hid g6
    have HBw := Lib.hid hBw
    clear g4 g6 hBw hb1 c2
    go_wp2_with fail
    have HC0 : Below w1.heap.size w1 w1.drew := (Below.refl _ _).drew
    refine wp_region_det (fun u => Below w1.heap.size w1 u) (fun u => Below w1.heap.size w1 u) [(0, some 20), (1, some 21), (2, some 22), (3, some 23), (4, some 24), (5, some 25), (6, some 26), (7, some 27), (8, some 28), (9, some 29), (10, some 30), (11, some 31), (12, some 32), (13, some 8)] (by kernel_rfl) (by kernel_rfl) (by decide) (by kernel_rfl) (fun _ => rfl) HC0 ?_
    apply DetL.next
    · -- 0: Op.load 34 (Operand.tmp 4)
      apply detStep_plain []
      exact fun _ => rfl
      rfl
      rintro vals - w1 hC1 E hE
      simp only [puts, act_put, act_put_none, List.setIfInBounds_toArray, List.set_cons_zero, List.set_cons_succ] at hE ⊢
      refine wpList_get_box (G4.out.below hC1 h14) rfl rfl rfl hu rfl form_size ?_
      go_wp2_with fail
      exact .mk (hE _ hC1)
    apply DetL.next
    · -- 1: Op.move (Operand.tmp 1)
      apply detStep_plain []
      exact fun _ => rfl
      rfl
      rintro vals ⟨-, -⟩ w1 hC1 E hE
      simp only [puts, act_put, act_put_none, List.setIfInBounds_toArray, List.set_cons_zero, List.set_cons_succ] at hE ⊢
      go_wp2
      exact .mk (hE _ hC1)
    apply DetL.next
    · -- 2: Op.indexAddr 30 (Operand.tmp 6) (Operand.const (Value.int IntKind.i64 0))
      apply detStep_plain []
      exact fun _ => rfl
      rfl
      rintro vals ⟨⟨-, -⟩, -⟩ w1 hC1 E hE
      simp only [puts, act_put, act_put_none, List.setIfInBounds_toArray, List.set_cons_zero, List.set_cons_succ] at hE ⊢
      go_wp2
      exact .mk (hE _ hC1)
    apply DetL.next
    · -- 3: Op.load 3 (Operand.tmp 22)
      apply detStep_plain [(2, some 22)]
      exact fun _ => rfl
      rfl
      rintro vals ⟨⟨⟨-, -⟩, -⟩, f2⟩ w1 hC1 E hE
      have d0 := (G6.out.below hC1 h16).cell 0
      simp at d0
      simp only [puts, act_put, act_put_none, List.setIfInBounds_toArray, List.set_cons_zero, List.set_cons_succ, f2] at hE ⊢
      clear f2
      go_wp2
      exact .mk (hE _ hC1)
    apply DetL.next
    · -- 4: Op.call { callee := Callee.value (Operand.func 37), args := #[Operand.tmp 20, Operand.tmp 21, Operand.tmp 23],
      apply detStep_plain [(0, some 20), (1, some 21), (3, some 23)]
      exact fun _ => rfl
      rfl
      rintro vals ⟨⟨⟨⟨-, f0⟩, f1⟩, -⟩, f3⟩ w1 hC1 E hE
      simp only [puts, act_put, act_put_none, List.setIfInBounds_toArray, List.set_cons_zero, List.set_cons_succ, f0, f1, f3] at hE ⊢
      clear f0 f1 f3
      go_wp2_with fail
      refine calls_then (turned32_any x p _ HX.out hp) ?_
      rintro e w2 ⟨rfl, hb2⟩
      go_wp2_with fail
      exact .mk (hE _ (hC1.trans (hb2.mono hC1.size)))
    apply DetL.next
    · -- 5: Op.load 34 (Operand.tmp 4)
      apply detStep_plain []
      exact fun _ => rfl
      rfl
      rintro vals ⟨⟨⟨⟨⟨-, -⟩, -⟩, -⟩, -⟩, -⟩ w1 hC1 E hE
      simp only [puts, act_put, act_put_none, List.setIfInBounds_toArray, List.set_cons_zero, List.set_cons_succ] at hE ⊢
      refine wpList_get_box (G4.out.below hC1 h14) rfl rfl rfl hu rfl form_size ?_
      go_wp2_with fail
      exact .mk (hE _ hC1)
    apply DetL.next
    · -- 6: Op.move (Operand.tmp 1)
      apply detStep_plain []
      exact fun _ => rfl
      rfl
      rintro vals ⟨⟨⟨⟨⟨⟨-, -⟩, -⟩, -⟩, -⟩, -⟩, -⟩ w1 hC1 E hE
      simp only [puts, act_put, act_put_none, List.setIfInBounds_toArray, List.set_cons_zero, List.set_cons_succ] at hE ⊢
      go_wp2
      exact .mk (hE _ hC1)
    apply DetL.next
    · -- 7: Op.indexAddr 30 (Operand.tmp 6) (Operand.const (Value.int IntKind.i64 1))
      apply detStep_plain []
      exact fun _ => rfl
      rfl
      rintro vals ⟨⟨⟨⟨⟨⟨⟨-, -⟩, -⟩, -⟩, -⟩, -⟩, -⟩, -⟩ w1 hC1 E hE
      simp only [puts, act_put, act_put_none, List.setIfInBounds_toArray, List.set_cons_zero, List.set_cons_succ] at hE ⊢
      go_wp2
      exact .mk (hE _ hC1)
    apply DetL.next
    · -- 8: Op.load 3 (Operand.tmp 27)
      apply detStep_plain [(7, some 27)]
      exact fun _ => rfl
      rfl
      rintro vals ⟨⟨⟨⟨⟨⟨⟨⟨-, -⟩, -⟩, -⟩, -⟩, -⟩, -⟩, -⟩, f7⟩ w1 hC1 E hE
      have d0 := (G6.out.below hC1 h16).cell 1
      simp at d0
      simp only [puts, act_put, act_put_none, List.setIfInBounds_toArray, List.set_cons_zero, List.set_cons_succ, f7] at hE ⊢
      clear f7
      go_wp2
      exact .mk (hE _ hC1)
    apply DetL.next
    · -- 9: Op.call { callee := Callee.value (Operand.func 37), args := #[Operand.tmp 25, Operand.tmp 26, Operand.tmp 28],
      apply detStep_plain [(5, some 25), (6, some 26), (8, some 28), (4, some 24)]
      exact fun _ => rfl
      rfl
      rintro vals ⟨⟨⟨⟨⟨⟨⟨⟨⟨-, -⟩, -⟩, -⟩, -⟩, f4⟩, f5⟩, f6⟩, -⟩, f8⟩ w1 hC1 E hE
      simp only [puts, act_put, act_put_none, List.setIfInBounds_toArray, List.set_cons_zero, List.set_cons_succ, f4, f5, f6, f8] at hE ⊢
      clear f4 f5 f6 f8
      go_wp2_with fail
      refine calls_then (turned32_any x q _ HX.out hq) ?_
      rintro e w2 ⟨rfl, hb2⟩
      go_wp2_with fail
      exact .mk (hE _ (hC1.trans (hb2.mono hC1.size)))
    apply DetL.next
    · -- 10: Op.binOp BinOp.xor 40 (Operand.tmp 24) (Operand.tmp 29) 40
      apply detStep_plain [(4, some 24), (9, some 29)]
      exact fun _ => rfl
      rfl
      rintro vals ⟨⟨⟨⟨⟨⟨⟨⟨⟨⟨-, -⟩, -⟩, -⟩, -⟩, f4⟩, -⟩, -⟩, -⟩, -⟩, f9⟩ w1 hC1 E hE
      simp only [puts, act_put, act_put_none, List.setIfInBounds_toArray, List.set_cons_zero, List.set_cons_succ, f4, f9] at hE ⊢
      clear f4 f9
      go_wp2
      exact .mk (hE _ hC1)
    apply DetL.next
    · -- 11: Op.move (Operand.tmp 9)
      apply detStep_plain []
      exact fun _ => rfl
      rfl
      rintro vals ⟨⟨⟨⟨⟨⟨⟨⟨⟨⟨⟨-, -⟩, -⟩, -⟩, -⟩, -⟩, -⟩, -⟩, -⟩, -⟩, -⟩, -⟩ w1 hC1 E hE
      simp only [puts, act_put, act_put_none, List.setIfInBounds_toArray, List.set_cons_zero, List.set_cons_succ] at hE ⊢
      go_wp2
      exact .mk (hE _ hC1)
    apply DetL.next
    · -- 12: Op.binOp BinOp.xor 40 (Operand.tmp 30) (Operand.tmp 31) 40
      apply detStep_plain [(10, some 30), (11, some 31)]
      exact fun _ => rfl
      rfl
      rintro vals ⟨⟨⟨⟨⟨⟨⟨⟨⟨⟨⟨⟨-, -⟩, -⟩, -⟩, -⟩, -⟩, -⟩, -⟩, -⟩, -⟩, -⟩, f10⟩, f11⟩ w1 hC1 E hE
      simp only [puts, act_put, act_put_none, List.setIfInBounds_toArray, List.set_cons_zero, List.set_cons_succ, f10, f11] at hE ⊢
      clear f10 f11
      go_wp2
      exact .mk (hE _ hC1)
    apply DetL.last
    · -- 13: Op.assign (Operand.tmp 32)
      apply detStep_plain [(12, some 32), (9, some 29), (0, some 20), (1, some 21), (2, some 22), (3, some 23), (4, some 24), (5, some 25), (6, some 26), (7, some 27), (8, some 28), (9, some 29), (10, some 30), (11, some 31), (12, some 32)]
      exact fun _ => rfl
      rfl
      rintro vals ⟨⟨⟨⟨⟨⟨⟨⟨⟨⟨⟨⟨⟨-, f0⟩, f1⟩, f2⟩, f3⟩, f4⟩, f5⟩, f6⟩, f7⟩, f8⟩, f9⟩, f10⟩, f11⟩, f12⟩ w1 hC1 E hE
      simp only [puts, act_put, act_put_none, List.setIfInBounds_toArray, List.set_cons_zero, List.set_cons_succ, f0, f1, f2, f3, f4, f5, f6, f7, f8, f9, f10, f11, f12] at hE ⊢
      clear f0 f1 f2 f3 f4 f5 f6 f7 f8 f9 f10 f11 f12
      go_wp2
      exact .mk (hE _ hC1)
    rintro vals ⟨⟨⟨⟨⟨⟨⟨⟨⟨⟨⟨⟨⟨⟨-, f0⟩, f1⟩, f2⟩, f3⟩, f4⟩, f5⟩, f6⟩, f7⟩, f8⟩, f9⟩, f10⟩, f11⟩, f12⟩, f13⟩ w1 hC1
    simp only [puts, act_put, act_put_none, List.setIfInBounds_toArray, List.set_cons_zero, List.set_cons_succ, f0, f1, f2, f3, f4, f5, f6, f7, f8, f9, f10, f11, f12, f13]
    clear f0 f1 f2 f3 f4 f5 f6 f7 f8 f9 f10 f11 f12 f13
    go_wp2_with fail
    go_ret
    refine ⟨ret_int' ?_, HBw.out.trans (hC1.mono HBw.out.size)⟩
    rw [xor64 _ _ (turnedN_lt HX.out) (turnedN_lt HX.out), xor64 _ _ (xor_lt64 (turnedN_lt HX.out) (turnedN_lt HX.out)) (by rw [HL.out]; exact lastN_lt HX.out), HL.out]
    rfl
  | true =>
    go_enter Tryd.func31, Tryd.ntmps31
    go_wp2_with (refine wpList_get_box (x := .tmp 4) hb40 rfl rfl rfl hu rfl form_size ?_)
    rw [← HW.out]
    clear hb40 c20
    refine calls_then (turned32_any x c W0 HX.out hc) ?_
    rintro e w1 ⟨rfl, hb1⟩
    have g4 := H4.out.below hb1 hl4
    have g6 := H6.out.below hb1 hl6
    have hBw := HB.out.trans (hb1.mono HB.out.size)
    have h14 := g4.lt
    have h16 := g6.lt
    have cc := g6.cell 2
    simp at cc
    have G4 := Lib.hid g4
    have G6 := Lib.hid g6
    have HBw := Lib.hid hBw
    clear g4 g6 hBw hb1 c2
    go_wp2_with fail
    rw [show (x : Int) / 2 ^ c = (L : Int) by rw [HL.out, shr_int]; rfl]
    clear cc
    have HC0 : Below w1.heap.size w1 w1.drew := (Below.refl _ _).drew
    refine wp_region_det (fun u => Below w1.heap.size w1 u) (fun u => Below w1.heap.size w1 u) [(0, some 20), (1, some 21), (2, some 22), (3, some 23), (4, some 24), (5, some 25), (6, some 26), (7, some 27), (8, some 28), (9, some 29), (10, some 30), (11, some 31), (12, some 32), (13, some 8)] (by kernel_rfl) (by kernel_rfl) (by decide) (by kernel_rfl) (fun _ => rfl) HC0 ?_
    apply DetL.next
    · -- 0: Op.load 34 (Operand.tmp 4)
      apply detStep_plain []
      exact fun _ => rfl
      rfl
      rintro vals - w1 hC1 E hE
      simp only [puts, act_put, act_put_none, List.setIfInBounds_toArray, List.set_cons_zero, List.set_cons_succ] at hE ⊢
      refine wpList_get_box (G4.out.below hC1 h14) rfl rfl rfl hu rfl form_size ?_
      go_wp2_with fail
      exact .mk (hE _ hC1)
    apply DetL.next
    · -- 1: Op.move (Operand.tmp 1)
      apply detStep_plain []
      exact fun _ => rfl
      rfl
      rintro vals ⟨-, -⟩ w1 hC1 E hE
      simp only [puts, act_put, act_put_none, List.setIfInBounds_toArray, List.set_cons_zero, List.set_cons_succ] at hE ⊢
      go_wp2
      exact .mk (hE _ hC1)
    apply DetL.next
    · -- 2: Op.indexAddr 30 (Operand.tmp 6) (Operand.const (Value.int IntKind.i64 0))
      apply detStep_plain []
      exact fun _ => rfl
      rfl
      rintro vals ⟨⟨-, -⟩, -⟩ w1 hC1 E hE
      simp only [puts, act_put, act_put_none, List.setIfInBounds_toArray, List.set_cons_zero, List.set_cons_succ] at hE ⊢
      go_wp2
      exact .mk (hE _ hC1)
    apply DetL.next
    · -- 3: Op.load 3 (Operand.tmp 22)
      apply detStep_plain [(2, some 22)]
      exact fun _ => rfl
      rfl
      rintro vals ⟨⟨⟨-, -⟩, -⟩, f2⟩ w1 hC1 E hE
      have d0 := (G6.out.below hC1 h16).cell 0
      simp at d0
      simp only [puts, act_put, act_put_none, List.setIfInBounds_toArray, List.set_cons_zero, List.set_cons_succ, f2] at hE ⊢
      clear f2
      go_wp2
      exact .mk (hE _ hC1)
    apply DetL.next
    · -- 4: Op.call { callee := Callee.value (Operand.func 37), args := #[Operand.tmp 20, Operand.tmp 21, Operand.tmp 23],
      apply detStep_plain [(0, some 20), (1, some 21), (3, some 23)]
      exact fun _ => rfl
      rfl
      rintro vals ⟨⟨⟨⟨-, f0⟩, f1⟩, -⟩, f3⟩ w1 hC1 E hE
      simp only [puts, act_put, act_put_none, List.setIfInBounds_toArray, List.set_cons_zero, List.set_cons_succ, f0, f1, f3] at hE ⊢
      clear f0 f1 f3
      go_wp2_with fail
      refine calls_then (turned32_any x p _ HX.out hp) ?_
      rintro e w2 ⟨rfl, hb2⟩
      go_wp2_with fail
      exact .mk (hE _ (hC1.trans (hb2.mono hC1.size)))
    apply DetL.next
    · -- 5: Op.load 34 (Operand.tmp 4)
      apply detStep_plain []
      exact fun _ => rfl
      rfl
      rintro vals ⟨⟨⟨⟨⟨-, -⟩, -⟩, -⟩, -⟩, -⟩ w1 hC1 E hE
      simp only [puts, act_put, act_put_none, List.setIfInBounds_toArray, List.set_cons_zero, List.set_cons_succ] at hE ⊢
      refine wpList_get_box (G4.out.below hC1 h14) rfl rfl rfl hu rfl form_size ?_
      go_wp2_with fail
      exact .mk (hE _ hC1)
    apply DetL.next
    · -- 6: Op.move (Operand.tmp 1)
      apply detStep_plain []
      exact fun _ => rfl
      rfl
      rintro vals ⟨⟨⟨⟨⟨⟨-, -⟩, -⟩, -⟩, -⟩, -⟩, -⟩ w1 hC1 E hE
      simp only [puts, act_put, act_put_none, List.setIfInBounds_toArray, List.set_cons_zero, List.set_cons_succ] at hE ⊢
      go_wp2
      exact .mk (hE _ hC1)
    apply DetL.next
    · -- 7: Op.indexAddr 30 (Operand.tmp 6) (Operand.const (Value.int IntKind.i64 1))
      apply detStep_plain []
      exact fun _ => rfl
      rfl
      rintro vals ⟨⟨⟨⟨⟨⟨⟨-, -⟩, -⟩, -⟩, -⟩, -⟩, -⟩, -⟩ w1 hC1 E hE
      simp only [puts, act_put, act_put_none, List.setIfInBounds_toArray, List.set_cons_zero, List.set_cons_succ] at hE ⊢
      go_wp2
      exact .mk (hE _ hC1)
    apply DetL.next
    · -- 8: Op.load 3 (Operand.tmp 27)
      apply detStep_plain [(7, some 27)]
      exact fun _ => rfl
      rfl
      rintro vals ⟨⟨⟨⟨⟨⟨⟨⟨-, -⟩, -⟩, -⟩, -⟩, -⟩, -⟩, -⟩, f7⟩ w1 hC1 E hE
      have d0 := (G6.out.below hC1 h16).cell 1
      simp at d0
      simp only [puts, act_put, act_put_none, List.setIfInBounds_toArray, List.set_cons_zero, List.set_cons_succ, f7] at hE ⊢
      clear f7
      go_wp2
      exact .mk (hE _ hC1)
    apply DetL.next
    · -- 9: Op.call { callee := Callee.value (Operand.func 37), args := #[Operand.tmp 25, Operand.tmp 26, Operand.tmp 28],
      apply detStep_plain [(5, some 25), (6, some 26), (8, some 28), (4, some 24)]
      exact fun _ => rfl
      rfl
      rintro vals ⟨⟨⟨⟨⟨⟨⟨⟨⟨-, -⟩, -⟩, -⟩, -⟩, f4⟩, f5⟩, f6⟩, -⟩, f8⟩ w1 hC1 E hE
      simp only [puts, act_put, act_put_none, List.setIfInBounds_toArray, List.set_cons_zero, List.set_cons_succ, f4, f5, f6, f8] at hE ⊢
      clear f4 f5 f6 f8
      go_wp2_with fail
      refine calls_then (turned32_any x q _ HX.out hq) ?_
      rintro e w2 ⟨rfl, hb2⟩
      go_wp2_with fail
      exact .mk (hE _ (hC1.trans (hb2.mono hC1.size)))
    apply DetL.next
    · -- 10: Op.binOp BinOp.xor 40 (Operand.tmp 24) (Operand.tmp 29) 40
      apply detStep_plain [(4, some 24), (9, some 29)]
      exact fun _ => rfl
      rfl
      rintro vals ⟨⟨⟨⟨⟨⟨⟨⟨⟨⟨-, -⟩, -⟩, -⟩, -⟩, f4⟩, -⟩, -⟩, -⟩, -⟩, f9⟩ w1 hC1 E hE
      simp only [puts, act_put, act_put_none, List.setIfInBounds_toArray, List.set_cons_zero, List.set_cons_succ, f4, f9] at hE ⊢
      clear f4 f9
      go_wp2
      exact .mk (hE _ hC1)
    apply DetL.next
    · -- 11: Op.move (Operand.tmp 9)
      apply detStep_plain []
      exact fun _ => rfl
      rfl
      rintro vals ⟨⟨⟨⟨⟨⟨⟨⟨⟨⟨⟨-, -⟩, -⟩, -⟩, -⟩, -⟩, -⟩, -⟩, -⟩, -⟩, -⟩, -⟩ w1 hC1 E hE
      simp only [puts, act_put, act_put_none, List.setIfInBounds_toArray, List.set_cons_zero, List.set_cons_succ] at hE ⊢
      go_wp2
      exact .mk (hE _ hC1)
    apply DetL.next
    · -- 12: Op.binOp BinOp.xor 40 (Operand.tmp 30) (Operand.tmp 31) 40
      apply detStep_plain [(10, some 30), (11, some 31)]
      exact fun _ => rfl
      rfl
      rintro vals ⟨⟨⟨⟨⟨⟨⟨⟨⟨⟨⟨⟨-, -⟩, -⟩, -⟩, -⟩, -⟩, -⟩, -⟩, -⟩, -⟩, -⟩, f10⟩, f11⟩ w1 hC1 E hE
      simp only [puts, act_put, act_put_none, List.setIfInBounds_toArray, List.set_cons_zero, List.set_cons_succ, f10, f11] at hE ⊢
      clear f10 f11
      go_wp2
      exact .mk (hE _ hC1)
    apply DetL.last
    · -- 13: Op.assign (Operand.tmp 32)
      apply detStep_plain [(12, some 32), (9, some 29), (0, some 20), (1, some 21), (2, some 22), (3, some 23), (4, some 24), (5, some 25), (6, some 26), (7, some 27), (8, some 28), (9, some 29), (10, some 30), (11, some 31), (12, some 32)]
      exact fun _ => rfl
      rfl
      rintro vals ⟨⟨⟨⟨⟨⟨⟨⟨⟨⟨⟨⟨⟨-, f0⟩, f1⟩, f2⟩, f3⟩, f4⟩, f5⟩, f6⟩, f7⟩, f8⟩, f9⟩, f10⟩, f11⟩, f12⟩ w1 hC1 E hE
      simp only [puts, act_put, act_put_none, List.setIfInBounds_toArray, List.set_cons_zero, List.set_cons_succ, f0, f1, f2, f3, f4, f5, f6, f7, f8, f9, f10, f11, f12] at hE ⊢
      clear f0 f1 f2 f3 f4 f5 f6 f7 f8 f9 f10 f11 f12
      go_wp2
      exact .mk (hE _ hC1)
    rintro vals ⟨⟨⟨⟨⟨⟨⟨⟨⟨⟨⟨⟨⟨⟨-, f0⟩, f1⟩, f2⟩, f3⟩, f4⟩, f5⟩, f6⟩, f7⟩, f8⟩, f9⟩, f10⟩, f11⟩, f12⟩, f13⟩ w1 hC1
    simp only [puts, act_put, act_put_none, List.setIfInBounds_toArray, List.set_cons_zero, List.set_cons_succ, f0, f1, f2, f3, f4, f5, f6, f7, f8, f9, f10, f11, f12, f13]
    clear f0 f1 f2 f3 f4 f5 f6 f7 f8 f9 f10 f11 f12 f13
    go_wp2_with fail
    go_ret
    refine ⟨ret_int' ?_, HBw.out.trans (hC1.mono HBw.out.size)⟩
    rw [xor64 _ _ (turnedN_lt HX.out) (turnedN_lt HX.out), xor64 _ _ (xor_lt64 (turnedN_lt HX.out) (turnedN_lt HX.out)) (by rw [HL.out]; exact lastN_lt HX.out), HL.out]
    rfl

theorem cut64_any (x : Nat) (w : World) (hx : x < 18446744073709551616) : Calls Tryd.prog 28 #[.int .u64 x] w fun e w' => e = .returned (.int .u64 x) ∧ w = w' := by
  have hx1 : (x : Int) < 18446744073709551616 := by omega
  clear hx
  go_enter Tryd.func28, Tryd.ntmps28
  go_wp2
  go_ret
  exact ⟨rfl, rfl⟩
theorem cut32_any (x : Nat) (w : World) (hx : x < 18446744073709551616) : Calls Tryd.prog 21 #[.int .u64 x] w fun e w' => e = .returned (.int .u32 (x % 4294967296 : Nat)) ∧ w = w' := by
  have hx1 : (x : Int) < 18446744073709551616 := by omega
  clear hx
  go_enter Tryd.func21, Tryd.ntmps21
  go_wp2
  go_ret
  exact ⟨ret_int' (by omega), rfl⟩
end Go.Proofs.YtfpbcihpjcocmaaDoor
