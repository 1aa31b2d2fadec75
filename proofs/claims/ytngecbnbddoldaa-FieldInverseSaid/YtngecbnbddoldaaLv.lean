/-
  Walk: the law's lives.
-/
import Derived.Test.YtngecbnbddoldaaPm
namespace Go.Proofs.Ytngecbnbddoldaa
set_option linter.unusedSimpArgs false
set_option linter.unusedVariables false
open Go.RowKit

structure LV (w0 : World) (o r : Nat) (N : Nat) (x : Array Value) (u : World) : Prop where
  bel : Below w0.heap.size w0 u
  out : Blk u o 5 (bnV (byN N)).toArray
  x : Blk u r 26 x
theorem LV.next {w0 u u' : World} {o r N : Nat} {x : Array Value} (k : LV w0 o r N x u) (hb : Below u.heap.size u u') : LV w0 o r N x u' :=
  ⟨k.bel.trans (hb.mono k.bel.size), k.out.below hb k.out.lt, k.x.below hb k.x.lt⟩
theorem bnV_cell {N j n : Nat} (h : (byN N)[j]? = some n) : (bnV (byN N)).toArray[j]? = some (.int .u8 (n : Int)) := bnV_at h
set_option maxRecDepth 100000 in
set_option maxHeartbeats 2000000 in
theorem lives_any (w : World) : Calls Try.prog 13 #[] w (fun e w' => e = .returned (.bool true) ∧ Below w.heap.size w w') := by
  have hu := Try.underlying26
  obtain ⟨N, hN⟩ : ∃ N, N = (leastE (intE (-1))).val := ⟨_, rfl⟩
  have h0 : (bnV (byN N)).toArray[0]? = some (.int .u8 236) := bnV_cell (n := 236) (by rw [hN, minus_val, byN_at _ _ (by decide)]; decide)
  have h31 : (bnV (byN N)).toArray[31]? = some (.int .u8 127) := bnV_cell (n := 127) (by rw [hN, minus_val, byN_at _ _ (by decide)]; decide)
  obtain ⟨I2, hI2⟩ : ∃ I, I = intE 2 := ⟨_, rfl⟩
  obtain ⟨I1, hI1⟩ : ∃ I, I = intE 1 := ⟨_, rfl⟩
  obtain ⟨I0, hI0⟩ : ∃ I, I = intE 0 := ⟨_, rfl⟩
  obtain ⟨IM, hIM⟩ : ∃ I, I = intE (-1) := ⟨_, rfl⟩
  obtain ⟨V2, hV2⟩ : ∃ V, V = invE I2 := ⟨_, rfl⟩
  obtain ⟨X, hX⟩ : ∃ X, X = mulE V2 I2 := ⟨_, rfl⟩
  have hk2 : I2.Ok := by rw [hI2]; exact intE_ok (by decide) (by decide)
  have hk1 : I1.Lt 18446744073709551616 := by rw [hI1]; exact (intE_ok (by decide) (by decide)).big
  have hk0 : I0.Lt 18446744073709551616 := by rw [hI0]; exact (intE_ok (by decide) (by decide)).big
  have hkM : IM.Lt 18446744073709551616 := by rw [hIM]; exact (intE_ok (by decide) (by decide)).big
  have hkV : V2.Ok := by rw [hV2]; exact invE_ok hk2
  have hkX : X.Lt 18446744073709551616 := by rw [hX]; exact (mul_ok hkV hk2).big
  have hone : (limbs (leastE X) == limbs (leastE I1)) = true := by rw [hX, hV2, hI2, hI1]; exact oneE_one
  have hzero : (limbs (leastE X) == limbs (leastE I0)) = false := by rw [hX, hV2, hI2, hI0]; exact oneE_zero
  rw [← hIM] at hN
  have c2 : ∀ u, Calls Try.prog 10 #[.int .i64 2] u (ElemPost I2 u) := fun u => by rw [hI2]; exact int_any 2 (by decide) (by decide) u
  have c1 : ∀ u, Calls Try.prog 10 #[.int .i64 1] u (ElemPost I1 u) := fun u => by rw [hI1]; exact int_any 1 (by decide) (by decide) u
  have c0 : ∀ u, Calls Try.prog 10 #[.int .i64 0] u (ElemPost I0 u) := fun u => by rw [hI0]; exact int_any 0 (by decide) (by decide) u
  have cM : ∀ u, Calls Try.prog 10 #[.int .i64 (-1)] u (ElemPost IM u) := fun u => by rw [hIM]; exact int_any (-1) (by decide) (by decide) u
  have cV : ∀ u, Calls Try.prog 20 #[.agg (eV I2)] u (ElemPost V2 u) := fun u => by rw [hV2]; exact inv_any I2 hk2 u
  have cX : ∀ u, Calls Try.prog 22 #[.agg (eV V2), .agg (eV I2)] u (ElemPost X u) := fun u => by rw [hX]; exact mul_any V2 I2 u hkV hk2
  have cB : ∀ u, Calls Try.prog 18 #[.agg (eV IM)] u (BytesPost N u) := fun u => by rw [hN]; exact bytes_any IM u hkM
  have cE : ∀ u, Calls Try.prog 12 #[.agg (eV X), .agg (eV I1)] u (fun e w' => e = .returned (.bool true) ∧ Below u.heap.size u w') := fun u => by
    have h := equal_any X I1 u hkX hk1
    rw [hone] at h; exact h
  have cZ : ∀ u, Calls Try.prog 12 #[.agg (eV X), .agg (eV I0)] u (fun e w' => e = .returned (.bool false) ∧ Below u.heap.size u w') := fun u => by
    have h := equal_any X I0 u hkX hk0
    rw [hzero] at h; exact h
  have C2 := Lib.hid c2
  have C1 := Lib.hid c1
  have C0 := Lib.hid c0
  have CM := Lib.hid cM
  have CV := Lib.hid cV
  have CX := Lib.hid cX
  have CB := Lib.hid cB
  have CE := Lib.hid cE
  have CZ := Lib.hid cZ
  have H0 := Lib.hid h0
  have H31 := Lib.hid h31
  clear hN h0 h31 hI2 hI1 hI0 hIM hV2 hX hk2 hk1 hk0 hkM hkV hkX hone hzero c2 c1 c0 cM cV cX cB cE cZ
  go_enter Try.func13, Try.ntmps13
  go_wp2_with fail
  refine calls_then (CM.out _) ?_
  rintro e w1 ⟨rfl, hb1⟩
  have HB1 := Lib.hid hb1
  clear hb1
  go_wp2_with fail
  refine calls_then (CB.out _) ?_
  rintro e w2 ⟨o, rfl, hlo, hblk2, hb2⟩
  have hel2 := HB1.out.trans (hb2.mono HB1.out.size)
  have HB2 := Lib.hid hel2
  have HBLK2 := Lib.hid hblk2
  clear hb2 hel2 hblk2 HB1 hlo
  go_wp2_with fail
  refine calls_then (C2.out _) ?_
  rintro e w3 ⟨rfl, hb3⟩
  have hel3 := HB2.out.trans (hb3.mono HB2.out.size)
  have hblk3 := HBLK2.out.below hb3 HBLK2.out.lt
  have HB3 := Lib.hid hel3
  have HBLK3 := Lib.hid hblk3
  clear hb3 hel3 hblk3 HB2 HBLK2
  go_wp2_with fail
  refine calls_then (CV.out _) ?_
  rintro e w4 ⟨rfl, hb4⟩
  have hel4 := HB3.out.trans (hb4.mono HB3.out.size)
  have hblk4 := HBLK3.out.below hb4 HBLK3.out.lt
  have HB4 := Lib.hid hel4
  have HBLK4 := Lib.hid hblk4
  clear hb4 hel4 hblk4 HB3 HBLK3
  go_wp2_with fail
  refine calls_then (C2.out _) ?_
  rintro e w5 ⟨rfl, hb5⟩
  have hel5 := HB4.out.trans (hb5.mono HB4.out.size)
  have hblk5 := HBLK4.out.below hb5 HBLK4.out.lt
  have HB5 := Lib.hid hel5
  have HBLK5 := Lib.hid hblk5
  clear hb5 hel5 hblk5 HB4 HBLK4
  go_wp2_with fail
  refine calls_then (CX.out _) ?_
  rintro e w6 ⟨rfl, hb6⟩
  have hel6 := HB5.out.trans (hb6.mono HB5.out.size)
  have hblk6 := HBLK5.out.below hb6 HBLK5.out.lt
  have HB6 := Lib.hid hel6
  have HBLK6 := Lib.hid hblk6
  clear hb6 hel6 hblk6 HB5 HBLK5
  go_wp2_with (refine wpList_put_box (x := .tmp 2) (cells := eV X) (Blk.new _ _ _) rfl rfl rfl rfl elem_size rfl (by simp [eV, wV, limbs, Value.oneCell']) ?_; intro w7 hb7 hw7)
  have hst : LV w o w6.heap.size N (eV X) w7 := ⟨hw7.below (HB6.out.alloc HB6.out.size _) HB6.out.size (by simp; have := HB6.out.size; omega), hw7.blk (HBLK6.out.alloc _) (Nat.ne_of_lt HBLK6.out.lt), hb7⟩
  generalize hr : w6.heap.size = r at *
  have HC0 : LV w o r N (eV X) w7.drew := ⟨hst.bel.drew, hst.out, hst.x⟩
  clear hr hst hb7 hw7 HB6 HBLK6
  refine wp_region_det (fun u => LV w o r N (eV X) u) (fun u => LV w o r N (eV X) u) [(0, some 9), (1, some 10), (2, some 11), (3, some 12), (4, some 13), (5, some 14), (6, some 15), (7, some 16), (8, some 17), (9, some 18), (10, some 19), (11, some 20), (12, some 21), (13, some 22), (14, some 23), (15, some 24), (16, some 25), (17, some 26), (18, some 27), (19, some 28), (20, some 29), (21, some 30), (22, some 31), (23, some 32), (24, some 33), (25, some 34), (26, some 0)] (by kernel_rfl) (by kernel_rfl) (by decide) (by kernel_rfl) (fun _ => rfl) HC0 ?_
  apply DetL.next
  · -- 0: Op.move (Operand.tmp 1)
    apply detStep_plain []
    exact fun _ => rfl
    rfl
    rintro vals - w1 hC1 E hE
    simp only [puts, act_put, act_put_none, List.setIfInBounds_toArray, List.set_cons_zero, List.set_cons_succ] at hE ⊢
    go_wp2
    exact .mk (hE _ hC1)
  apply DetL.next
  · -- 1: Op.call { callee := Callee.builtin Builtin.len, args := #[Operand.tmp 9], argTypes := #[33] }
    apply detStep_plain [(0, some 9)]
    exact fun _ => rfl
    rfl
    rintro vals ⟨-, f0⟩ w1 hC1 E hE
    simp only [puts, act_put, act_put_none, List.setIfInBounds_toArray, List.set_cons_zero, List.set_cons_succ, f0] at hE ⊢
    clear f0
    go_wp2
    exact .mk (hE _ hC1)
  apply DetL.next
  · -- 2: Op.binOp BinOp.eql 3 (Operand.tmp 10) (Operand.const (Value.int IntKind.i64 32)) 3
    apply detStep_plain [(1, some 10)]
    exact fun _ => rfl
    rfl
    rintro vals ⟨⟨-, -⟩, f1⟩ w1 hC1 E hE
    simp only [puts, act_put, act_put_none, List.setIfInBounds_toArray, List.set_cons_zero, List.set_cons_succ, f1] at hE ⊢
    clear f1
    go_wp2
    exact .mk (hE _ hC1)
  apply DetL.next
  · -- 3: Op.move (Operand.tmp 11)
    apply detStep_plain [(2, some 11)]
    exact fun _ => rfl
    rfl
    rintro vals ⟨⟨⟨-, -⟩, -⟩, f2⟩ w1 hC1 E hE
    simp only [puts, act_put, act_put_none, List.setIfInBounds_toArray, List.set_cons_zero, List.set_cons_succ, f2] at hE ⊢
    clear f2
    go_wp2
    exact .mk (hE _ hC1)
  apply DetL.next
  · -- 4: Op.move (Operand.tmp 1)
    apply detStep_yes [(3, some 12)] (g := 3) (t := 12) (want := true)
    exact fun _ => rfl
    rfl
    rfl
    · rintro vals ⟨⟨⟨⟨-, -⟩, -⟩, -⟩, f3⟩
      simp only [puts, act_put, act_put_none, List.setIfInBounds_toArray, List.set_cons_zero, List.set_cons_succ, f3]
      rfl
    rintro vals ⟨⟨⟨⟨-, -⟩, -⟩, -⟩, f3⟩ w1 hC1 E hE
    dsimp only at hE ⊢
    simp only [puts, act_put, act_put_none, List.setIfInBounds_toArray, List.set_cons_zero, List.set_cons_succ, f3] at hE ⊢
    clear f3
    go_wp2
    exact .mk (hE _ hC1)
  apply DetL.next
  · -- 5: Op.indexAddr 33 (Operand.tmp 13) (Operand.const (Value.int IntKind.i64 0))
    apply detStep_yes [(4, some 13), (3, some 12)] (g := 3) (t := 12) (want := true)
    exact fun _ => rfl
    rfl
    rfl
    · rintro vals ⟨⟨⟨⟨⟨-, -⟩, -⟩, -⟩, f3⟩, f4⟩
      simp only [puts, act_put, act_put_none, List.setIfInBounds_toArray, List.set_cons_zero, List.set_cons_succ, f3, f4]
      rfl
    rintro vals ⟨⟨⟨⟨⟨-, -⟩, -⟩, -⟩, f3⟩, f4⟩ w1 hC1 E hE
    dsimp only at hE ⊢
    simp only [puts, act_put, act_put_none, List.setIfInBounds_toArray, List.set_cons_zero, List.set_cons_succ, f3, f4] at hE ⊢
    clear f3 f4
    go_wp2
    exact .mk (hE _ hC1)
  apply DetL.next
  · -- 6: Op.load 5 (Operand.tmp 14)
    apply detStep_yes [(5, some 14), (3, some 12)] (g := 3) (t := 12) (want := true)
    exact fun _ => rfl
    rfl
    rfl
    · rintro vals ⟨⟨⟨⟨⟨⟨-, -⟩, -⟩, -⟩, f3⟩, -⟩, f5⟩
      simp only [puts, act_put, act_put_none, List.setIfInBounds_toArray, List.set_cons_zero, List.set_cons_succ, f3, f5]
      rfl
    rintro vals ⟨⟨⟨⟨⟨⟨-, -⟩, -⟩, -⟩, f3⟩, -⟩, f5⟩ w1 hC1 E hE
    dsimp only at hE ⊢
    have d0 := hC1.out.cell 0
    rw [H0.out] at d0
    simp only [puts, act_put, act_put_none, List.setIfInBounds_toArray, List.set_cons_zero, List.set_cons_succ, f3, f5] at hE ⊢
    clear f3 f5
    go_wp2
    exact .mk (hE _ hC1)
  apply DetL.next
  · -- 7: Op.binOp BinOp.eql 5 (Operand.tmp 15) (Operand.const (Value.int IntKind.u8 236)) 5
    apply detStep_yes [(6, some 15), (3, some 12)] (g := 3) (t := 12) (want := true)
    exact fun _ => rfl
    rfl
    rfl
    · rintro vals ⟨⟨⟨⟨⟨⟨⟨-, -⟩, -⟩, -⟩, f3⟩, -⟩, -⟩, f6⟩
      simp only [puts, act_put, act_put_none, List.setIfInBounds_toArray, List.set_cons_zero, List.set_cons_succ, f3, f6]
      rfl
    rintro vals ⟨⟨⟨⟨⟨⟨⟨-, -⟩, -⟩, -⟩, f3⟩, -⟩, -⟩, f6⟩ w1 hC1 E hE
    dsimp only at hE ⊢
    simp only [puts, act_put, act_put_none, List.setIfInBounds_toArray, List.set_cons_zero, List.set_cons_succ, f3, f6] at hE ⊢
    clear f3 f6
    go_wp2
    exact .mk (hE _ hC1)
  apply DetL.next
  · -- 8: Op.pick (Operand.tmp 12) (Operand.tmp 16) (Operand.const (Value.bool false))
    apply detStep_plain [(3, some 12), (7, some 16)]
    exact fun _ => rfl
    rfl
    rintro vals ⟨⟨⟨⟨⟨⟨⟨⟨-, -⟩, -⟩, -⟩, f3⟩, -⟩, -⟩, -⟩, f7⟩ w1 hC1 E hE
    simp only [puts, act_put, act_put_none, List.setIfInBounds_toArray, List.set_cons_zero, List.set_cons_succ, f3, f7] at hE ⊢
    clear f3 f7
    go_wp2
    exact .mk (hE _ hC1)
  apply DetL.next
  · -- 9: Op.move (Operand.tmp 17)
    apply detStep_plain [(8, some 17), (3, some 12)]
    exact fun _ => rfl
    rfl
    rintro vals ⟨⟨⟨⟨⟨⟨⟨⟨⟨-, -⟩, -⟩, -⟩, f3⟩, -⟩, -⟩, -⟩, -⟩, f8⟩ w1 hC1 E hE
    simp only [puts, act_put, act_put_none, List.setIfInBounds_toArray, List.set_cons_zero, List.set_cons_succ, f3, f8] at hE ⊢
    clear f3 f8
    go_wp2
    exact .mk (hE _ hC1)
  apply DetL.next
  · -- 10: Op.move (Operand.tmp 1)
    apply detStep_yes [(9, some 18)] (g := 9) (t := 18) (want := true)
    exact fun _ => rfl
    rfl
    rfl
    · rintro vals ⟨⟨⟨⟨⟨⟨⟨⟨⟨⟨-, -⟩, -⟩, -⟩, -⟩, -⟩, -⟩, -⟩, -⟩, -⟩, f9⟩
      simp only [puts, act_put, act_put_none, List.setIfInBounds_toArray, List.set_cons_zero, List.set_cons_succ, f9]
      rfl
    rintro vals ⟨⟨⟨⟨⟨⟨⟨⟨⟨⟨-, -⟩, -⟩, -⟩, -⟩, -⟩, -⟩, -⟩, -⟩, -⟩, f9⟩ w1 hC1 E hE
    dsimp only at hE ⊢
    simp only [puts, act_put, act_put_none, List.setIfInBounds_toArray, List.set_cons_zero, List.set_cons_succ, f9] at hE ⊢
    clear f9
    go_wp2
    exact .mk (hE _ hC1)
  apply DetL.next
  · -- 11: Op.indexAddr 33 (Operand.tmp 19) (Operand.const (Value.int IntKind.i64 31))
    apply detStep_yes [(10, some 19), (9, some 18)] (g := 9) (t := 18) (want := true)
    exact fun _ => rfl
    rfl
    rfl
    · rintro vals ⟨⟨⟨⟨⟨⟨⟨⟨⟨⟨⟨-, -⟩, -⟩, -⟩, -⟩, -⟩, -⟩, -⟩, -⟩, -⟩, f9⟩, f10⟩
      simp only [puts, act_put, act_put_none, List.setIfInBounds_toArray, List.set_cons_zero, List.set_cons_succ, f9, f10]
      rfl
    rintro vals ⟨⟨⟨⟨⟨⟨⟨⟨⟨⟨⟨-, -⟩, -⟩, -⟩, -⟩, -⟩, -⟩, -⟩, -⟩, -⟩, f9⟩, f10⟩ w1 hC1 E hE
    dsimp only at hE ⊢
    simp only [puts, act_put, act_put_none, List.setIfInBounds_toArray, List.set_cons_zero, List.set_cons_succ, f9, f10] at hE ⊢
    clear f9 f10
    go_wp2
    exact .mk (hE _ hC1)
  apply DetL.next
  · -- 12: Op.load 5 (Operand.tmp 20)
    apply detStep_yes [(11, some 20), (9, some 18)] (g := 9) (t := 18) (want := true)
    exact fun _ => rfl
    rfl
    rfl
    · rintro vals ⟨⟨⟨⟨⟨⟨⟨⟨⟨⟨⟨⟨-, -⟩, -⟩, -⟩, -⟩, -⟩, -⟩, -⟩, -⟩, -⟩, f9⟩, -⟩, f11⟩
      simp only [puts, act_put, act_put_none, List.setIfInBounds_toArray, List.set_cons_zero, List.set_cons_succ, f9, f11]
      rfl
    rintro vals ⟨⟨⟨⟨⟨⟨⟨⟨⟨⟨⟨⟨-, -⟩, -⟩, -⟩, -⟩, -⟩, -⟩, -⟩, -⟩, -⟩, f9⟩, -⟩, f11⟩ w1 hC1 E hE
    dsimp only at hE ⊢
    have d0 := hC1.out.cell 31
    rw [H31.out] at d0
    simp only [puts, act_put, act_put_none, List.setIfInBounds_toArray, List.set_cons_zero, List.set_cons_succ, f9, f11] at hE ⊢
    clear f9 f11
    go_wp2
    exact .mk (hE _ hC1)
  apply DetL.next
  · -- 13: Op.binOp BinOp.eql 5 (Operand.tmp 21) (Operand.const (Value.int IntKind.u8 127)) 5
    apply detStep_yes [(12, some 21), (9, some 18)] (g := 9) (t := 18) (want := true)
    exact fun _ => rfl
    rfl
    rfl
    · rintro vals ⟨⟨⟨⟨⟨⟨⟨⟨⟨⟨⟨⟨⟨-, -⟩, -⟩, -⟩, -⟩, -⟩, -⟩, -⟩, -⟩, -⟩, f9⟩, -⟩, -⟩, f12⟩
      simp only [puts, act_put, act_put_none, List.setIfInBounds_toArray, List.set_cons_zero, List.set_cons_succ, f9, f12]
      rfl
    rintro vals ⟨⟨⟨⟨⟨⟨⟨⟨⟨⟨⟨⟨⟨-, -⟩, -⟩, -⟩, -⟩, -⟩, -⟩, -⟩, -⟩, -⟩, f9⟩, -⟩, -⟩, f12⟩ w1 hC1 E hE
    dsimp only at hE ⊢
    simp only [puts, act_put, act_put_none, List.setIfInBounds_toArray, List.set_cons_zero, List.set_cons_succ, f9, f12] at hE ⊢
    clear f9 f12
    go_wp2
    exact .mk (hE _ hC1)
  apply DetL.next
  · -- 14: Op.pick (Operand.tmp 18) (Operand.tmp 22) (Operand.const (Value.bool false))
    apply detStep_plain [(9, some 18), (13, some 22)]
    exact fun _ => rfl
    rfl
    rintro vals ⟨⟨⟨⟨⟨⟨⟨⟨⟨⟨⟨⟨⟨⟨-, -⟩, -⟩, -⟩, -⟩, -⟩, -⟩, -⟩, -⟩, -⟩, f9⟩, -⟩, -⟩, -⟩, f13⟩ w1 hC1 E hE
    simp only [puts, act_put, act_put_none, List.setIfInBounds_toArray, List.set_cons_zero, List.set_cons_succ, f9, f13] at hE ⊢
    clear f9 f13
    go_wp2
    exact .mk (hE _ hC1)
  apply DetL.next
  · -- 15: Op.move (Operand.tmp 23)
    apply detStep_plain [(14, some 23), (9, some 18)]
    exact fun _ => rfl
    rfl
    rintro vals ⟨⟨⟨⟨⟨⟨⟨⟨⟨⟨⟨⟨⟨⟨⟨-, -⟩, -⟩, -⟩, -⟩, -⟩, -⟩, -⟩, -⟩, -⟩, f9⟩, -⟩, -⟩, -⟩, -⟩, f14⟩ w1 hC1 E hE
    simp only [puts, act_put, act_put_none, List.setIfInBounds_toArray, List.set_cons_zero, List.set_cons_succ, f9, f14] at hE ⊢
    clear f9 f14
    go_wp2
    exact .mk (hE _ hC1)
  apply DetL.next
  · -- 16: Op.load 26 (Operand.tmp 2)
    apply detStep_yes [(15, some 24)] (g := 15) (t := 24) (want := true)
    exact fun _ => rfl
    rfl
    rfl
    · rintro vals ⟨⟨⟨⟨⟨⟨⟨⟨⟨⟨⟨⟨⟨⟨⟨⟨-, -⟩, -⟩, -⟩, -⟩, -⟩, -⟩, -⟩, -⟩, -⟩, -⟩, -⟩, -⟩, -⟩, -⟩, -⟩, f15⟩
      simp only [puts, act_put, act_put_none, List.setIfInBounds_toArray, List.set_cons_zero, List.set_cons_succ, f15]
      rfl
    rintro vals ⟨⟨⟨⟨⟨⟨⟨⟨⟨⟨⟨⟨⟨⟨⟨⟨-, -⟩, -⟩, -⟩, -⟩, -⟩, -⟩, -⟩, -⟩, -⟩, -⟩, -⟩, -⟩, -⟩, -⟩, -⟩, f15⟩ w1 hC1 E hE
    dsimp only at hE ⊢
    simp only [puts, act_put, act_put_none, List.setIfInBounds_toArray, List.set_cons_zero, List.set_cons_succ, f15] at hE ⊢
    clear f15
    refine wpList_get_box hC1.x rfl rfl rfl hu rfl elem_size ?_
    go_wp2_with fail
    exact .mk (hE _ hC1)
  apply DetL.next
  · -- 17: Op.call { callee := Callee.value (Operand.func 10), args := #[Operand.const (Value.int IntKind.i64 1)], argTyp
    apply detStep_yes [(15, some 24), (15, some 24)] (g := 15) (t := 24) (want := true)
    exact fun _ => rfl
    rfl
    rfl
    · rintro vals ⟨⟨⟨⟨⟨⟨⟨⟨⟨⟨⟨⟨⟨⟨⟨⟨⟨-, -⟩, -⟩, -⟩, -⟩, -⟩, -⟩, -⟩, -⟩, -⟩, -⟩, -⟩, -⟩, -⟩, -⟩, -⟩, f15⟩, -⟩
      simp only [puts, act_put, act_put_none, List.setIfInBounds_toArray, List.set_cons_zero, List.set_cons_succ, f15]
      rfl
    rintro vals ⟨⟨⟨⟨⟨⟨⟨⟨⟨⟨⟨⟨⟨⟨⟨⟨⟨-, -⟩, -⟩, -⟩, -⟩, -⟩, -⟩, -⟩, -⟩, -⟩, -⟩, -⟩, -⟩, -⟩, -⟩, -⟩, f15⟩, -⟩ w1 hC1 E hE
    dsimp only at hE ⊢
    simp only [puts, act_put, act_put_none, List.setIfInBounds_toArray, List.set_cons_zero, List.set_cons_succ, f15] at hE ⊢
    clear f15
    go_wp2_with fail
    refine calls_then (C1.out _) ?_
    rintro e w2 ⟨rfl, hb2⟩
    go_wp2_with fail
    exact .mk (hE _ (hC1.next hb2))
  apply DetL.next
  · -- 18: Op.call { callee := Callee.value (Operand.func 12), args := #[Operand.tmp 25, Operand.tmp 26], argTypes := #[2
    apply detStep_yes [(16, some 25), (17, some 26), (17, some 26), (15, some 24)] (g := 15) (t := 24) (want := true)
    exact fun _ => rfl
    rfl
    rfl
    · rintro vals ⟨⟨⟨⟨⟨⟨⟨⟨⟨⟨⟨⟨⟨⟨⟨⟨⟨⟨-, -⟩, -⟩, -⟩, -⟩, -⟩, -⟩, -⟩, -⟩, -⟩, -⟩, -⟩, -⟩, -⟩, -⟩, -⟩, f15⟩, f16⟩, f17⟩
      simp only [puts, act_put, act_put_none, List.setIfInBounds_toArray, List.set_cons_zero, List.set_cons_succ, f15, f16, f17]
      rfl
    rintro vals ⟨⟨⟨⟨⟨⟨⟨⟨⟨⟨⟨⟨⟨⟨⟨⟨⟨⟨-, -⟩, -⟩, -⟩, -⟩, -⟩, -⟩, -⟩, -⟩, -⟩, -⟩, -⟩, -⟩, -⟩, -⟩, -⟩, f15⟩, f16⟩, f17⟩ w1 hC1 E hE
    dsimp only at hE ⊢
    simp only [puts, act_put, act_put_none, List.setIfInBounds_toArray, List.set_cons_zero, List.set_cons_succ, f15, f16, f17] at hE ⊢
    clear f15 f16 f17
    go_wp2_with fail
    refine calls_then (CE.out _) ?_
    rintro e w2 ⟨rfl, hb2⟩
    go_wp2_with fail
    exact .mk (hE _ (hC1.next hb2))
  apply DetL.next
  · -- 19: Op.pick (Operand.tmp 24) (Operand.tmp 27) (Operand.const (Value.bool false))
    apply detStep_plain [(15, some 24), (18, some 27)]
    exact fun _ => rfl
    rfl
    rintro vals ⟨⟨⟨⟨⟨⟨⟨⟨⟨⟨⟨⟨⟨⟨⟨⟨⟨⟨⟨-, -⟩, -⟩, -⟩, -⟩, -⟩, -⟩, -⟩, -⟩, -⟩, -⟩, -⟩, -⟩, -⟩, -⟩, -⟩, f15⟩, -⟩, -⟩, f18⟩ w1 hC1 E hE
    simp only [puts, act_put, act_put_none, List.setIfInBounds_toArray, List.set_cons_zero, List.set_cons_succ, f15, f18] at hE ⊢
    clear f15 f18
    go_wp2
    exact .mk (hE _ hC1)
  apply DetL.next
  · -- 20: Op.move (Operand.tmp 28)
    apply detStep_plain [(19, some 28), (18, some 27)]
    exact fun _ => rfl
    rfl
    rintro vals ⟨⟨⟨⟨⟨⟨⟨⟨⟨⟨⟨⟨⟨⟨⟨⟨⟨⟨⟨⟨-, -⟩, -⟩, -⟩, -⟩, -⟩, -⟩, -⟩, -⟩, -⟩, -⟩, -⟩, -⟩, -⟩, -⟩, -⟩, -⟩, -⟩, -⟩, f18⟩, f19⟩ w1 hC1 E hE
    simp only [puts, act_put, act_put_none, List.setIfInBounds_toArray, List.set_cons_zero, List.set_cons_succ, f18, f19] at hE ⊢
    clear f18 f19
    go_wp2
    exact .mk (hE _ hC1)
  apply DetL.next
  · -- 21: Op.load 26 (Operand.tmp 2)
    apply detStep_yes [(20, some 29)] (g := 20) (t := 29) (want := true)
    exact fun _ => rfl
    rfl
    rfl
    · rintro vals ⟨⟨⟨⟨⟨⟨⟨⟨⟨⟨⟨⟨⟨⟨⟨⟨⟨⟨⟨⟨⟨-, -⟩, -⟩, -⟩, -⟩, -⟩, -⟩, -⟩, -⟩, -⟩, -⟩, -⟩, -⟩, -⟩, -⟩, -⟩, -⟩, -⟩, -⟩, -⟩, -⟩, f20⟩
      simp only [puts, act_put, act_put_none, List.setIfInBounds_toArray, List.set_cons_zero, List.set_cons_succ, f20]
      rfl
    rintro vals ⟨⟨⟨⟨⟨⟨⟨⟨⟨⟨⟨⟨⟨⟨⟨⟨⟨⟨⟨⟨⟨-, -⟩, -⟩, -⟩, -⟩, -⟩, -⟩, -⟩, -⟩, -⟩, -⟩, -⟩, -⟩, -⟩, -⟩, -⟩, -⟩, -⟩, -⟩, -⟩, -⟩, f20⟩ w1 hC1 E hE
    dsimp only at hE ⊢
    simp only [puts, act_put, act_put_none, List.setIfInBounds_toArray, List.set_cons_zero, List.set_cons_succ, f20] at hE ⊢
    clear f20
    refine wpList_get_box hC1.x rfl rfl rfl hu rfl elem_size ?_
    go_wp2_with fail
    exact .mk (hE _ hC1)
  apply DetL.next
  · -- 22: Op.call { callee := Callee.value (Operand.func 10), args := #[Operand.const (Value.int IntKind.i64 0)], argTyp
    apply detStep_yes [(20, some 29), (20, some 29)] (g := 20) (t := 29) (want := true)
    exact fun _ => rfl
    rfl
    rfl
    · rintro vals ⟨⟨⟨⟨⟨⟨⟨⟨⟨⟨⟨⟨⟨⟨⟨⟨⟨⟨⟨⟨⟨⟨-, -⟩, -⟩, -⟩, -⟩, -⟩, -⟩, -⟩, -⟩, -⟩, -⟩, -⟩, -⟩, -⟩, -⟩, -⟩, -⟩, -⟩, -⟩, -⟩, -⟩, f20⟩, -⟩
      simp only [puts, act_put, act_put_none, List.setIfInBounds_toArray, List.set_cons_zero, List.set_cons_succ, f20]
      rfl
    rintro vals ⟨⟨⟨⟨⟨⟨⟨⟨⟨⟨⟨⟨⟨⟨⟨⟨⟨⟨⟨⟨⟨⟨-, -⟩, -⟩, -⟩, -⟩, -⟩, -⟩, -⟩, -⟩, -⟩, -⟩, -⟩, -⟩, -⟩, -⟩, -⟩, -⟩, -⟩, -⟩, -⟩, -⟩, f20⟩, -⟩ w1 hC1 E hE
    dsimp only at hE ⊢
    simp only [puts, act_put, act_put_none, List.setIfInBounds_toArray, List.set_cons_zero, List.set_cons_succ, f20] at hE ⊢
    clear f20
    go_wp2_with fail
    refine calls_then (C0.out _) ?_
    rintro e w2 ⟨rfl, hb2⟩
    go_wp2_with fail
    exact .mk (hE _ (hC1.next hb2))
  apply DetL.next
  · -- 23: Op.call { callee := Callee.value (Operand.func 12), args := #[Operand.tmp 30, Operand.tmp 31], argTypes := #[2
    apply detStep_yes [(21, some 30), (22, some 31), (22, some 31), (20, some 29)] (g := 20) (t := 29) (want := true)
    exact fun _ => rfl
    rfl
    rfl
    · rintro vals ⟨⟨⟨⟨⟨⟨⟨⟨⟨⟨⟨⟨⟨⟨⟨⟨⟨⟨⟨⟨⟨⟨⟨-, -⟩, -⟩, -⟩, -⟩, -⟩, -⟩, -⟩, -⟩, -⟩, -⟩, -⟩, -⟩, -⟩, -⟩, -⟩, -⟩, -⟩, -⟩, -⟩, -⟩, f20⟩, f21⟩, f22⟩
      simp only [puts, act_put, act_put_none, List.setIfInBounds_toArray, List.set_cons_zero, List.set_cons_succ, f20, f21, f22]
      rfl
    rintro vals ⟨⟨⟨⟨⟨⟨⟨⟨⟨⟨⟨⟨⟨⟨⟨⟨⟨⟨⟨⟨⟨⟨⟨-, -⟩, -⟩, -⟩, -⟩, -⟩, -⟩, -⟩, -⟩, -⟩, -⟩, -⟩, -⟩, -⟩, -⟩, -⟩, -⟩, -⟩, -⟩, -⟩, -⟩, f20⟩, f21⟩, f22⟩ w1 hC1 E hE
    dsimp only at hE ⊢
    simp only [puts, act_put, act_put_none, List.setIfInBounds_toArray, List.set_cons_zero, List.set_cons_succ, f20, f21, f22] at hE ⊢
    clear f20 f21 f22
    go_wp2_with fail
    refine calls_then (CZ.out _) ?_
    rintro e w2 ⟨rfl, hb2⟩
    go_wp2_with fail
    exact .mk (hE _ (hC1.next hb2))
  apply DetL.next
  · -- 24: Op.unOp UnOp.not 4 (Operand.tmp 32)
    apply detStep_yes [(23, some 32), (20, some 29)] (g := 20) (t := 29) (want := true)
    exact fun _ => rfl
    rfl
    rfl
    · rintro vals ⟨⟨⟨⟨⟨⟨⟨⟨⟨⟨⟨⟨⟨⟨⟨⟨⟨⟨⟨⟨⟨⟨⟨⟨-, -⟩, -⟩, -⟩, -⟩, -⟩, -⟩, -⟩, -⟩, -⟩, -⟩, -⟩, -⟩, -⟩, -⟩, -⟩, -⟩, -⟩, -⟩, -⟩, -⟩, f20⟩, -⟩, -⟩, f23⟩
      simp only [puts, act_put, act_put_none, List.setIfInBounds_toArray, List.set_cons_zero, List.set_cons_succ, f20, f23]
      rfl
    rintro vals ⟨⟨⟨⟨⟨⟨⟨⟨⟨⟨⟨⟨⟨⟨⟨⟨⟨⟨⟨⟨⟨⟨⟨⟨-, -⟩, -⟩, -⟩, -⟩, -⟩, -⟩, -⟩, -⟩, -⟩, -⟩, -⟩, -⟩, -⟩, -⟩, -⟩, -⟩, -⟩, -⟩, -⟩, -⟩, f20⟩, -⟩, -⟩, f23⟩ w1 hC1 E hE
    dsimp only at hE ⊢
    simp only [puts, act_put, act_put_none, List.setIfInBounds_toArray, List.set_cons_zero, List.set_cons_succ, f20, f23] at hE ⊢
    clear f20 f23
    go_wp2
    exact .mk (hE _ hC1)
  apply DetL.next
  · -- 25: Op.pick (Operand.tmp 29) (Operand.tmp 33) (Operand.const (Value.bool false))
    apply detStep_plain [(20, some 29), (24, some 33)]
    exact fun _ => rfl
    rfl
    rintro vals ⟨⟨⟨⟨⟨⟨⟨⟨⟨⟨⟨⟨⟨⟨⟨⟨⟨⟨⟨⟨⟨⟨⟨⟨⟨-, -⟩, -⟩, -⟩, -⟩, -⟩, -⟩, -⟩, -⟩, -⟩, -⟩, -⟩, -⟩, -⟩, -⟩, -⟩, -⟩, -⟩, -⟩, -⟩, -⟩, f20⟩, -⟩, -⟩, -⟩, f24⟩ w1 hC1 E hE
    simp only [puts, act_put, act_put_none, List.setIfInBounds_toArray, List.set_cons_zero, List.set_cons_succ, f20, f24] at hE ⊢
    clear f20 f24
    go_wp2
    exact .mk (hE _ hC1)
  apply DetL.last
  · -- 26: Op.assign (Operand.tmp 34)
    apply detStep_plain [(25, some 34), (23, some 32), (0, some 9), (1, some 10), (2, some 11), (3, some 12), (4, some 13), (5, some 14), (6, some 15), (7, some 16), (8, some 17), (9, some 18), (10, some 19), (11, some 20), (12, some 21), (13, some 22), (14, some 23), (15, some 24), (16, some 25), (17, some 26), (18, some 27), (19, some 28), (20, some 29), (21, some 30), (22, some 31), (23, some 32), (24, some 33), (25, some 34)]
    exact fun _ => rfl
    rfl
    rintro vals ⟨⟨⟨⟨⟨⟨⟨⟨⟨⟨⟨⟨⟨⟨⟨⟨⟨⟨⟨⟨⟨⟨⟨⟨⟨⟨-, f0⟩, f1⟩, f2⟩, f3⟩, f4⟩, f5⟩, f6⟩, f7⟩, f8⟩, f9⟩, f10⟩, f11⟩, f12⟩, f13⟩, f14⟩, f15⟩, f16⟩, f17⟩, f18⟩, f19⟩, f20⟩, f21⟩, f22⟩, f23⟩, f24⟩, f25⟩ w1 hC1 E hE
    simp only [puts, act_put, act_put_none, List.setIfInBounds_toArray, List.set_cons_zero, List.set_cons_succ, f0, f1, f2, f3, f4, f5, f6, f7, f8, f9, f10, f11, f12, f13, f14, f15, f16, f17, f18, f19, f20, f21, f22, f23, f24, f25] at hE ⊢
    clear f0 f1 f2 f3 f4 f5 f6 f7 f8 f9 f10 f11 f12 f13 f14 f15 f16 f17 f18 f19 f20 f21 f22 f23 f24 f25
    go_wp2
    exact .mk (hE _ hC1)
  rintro vals ⟨⟨⟨⟨⟨⟨⟨⟨⟨⟨⟨⟨⟨⟨⟨⟨⟨⟨⟨⟨⟨⟨⟨⟨⟨⟨⟨-, f0⟩, f1⟩, f2⟩, f3⟩, f4⟩, f5⟩, f6⟩, f7⟩, f8⟩, f9⟩, f10⟩, f11⟩, f12⟩, f13⟩, f14⟩, f15⟩, f16⟩, f17⟩, f18⟩, f19⟩, f20⟩, f21⟩, f22⟩, f23⟩, f24⟩, f25⟩, f26⟩ w1 hC1
  simp only [puts, act_put, act_put_none, List.setIfInBounds_toArray, List.set_cons_zero, List.set_cons_succ, f0, f1, f2, f3, f4, f5, f6, f7, f8, f9, f10, f11, f12, f13, f14, f15, f16, f17, f18, f19, f20, f21, f22, f23, f24, f25, f26]
  clear f0 f1 f2 f3 f4 f5 f6 f7 f8 f9 f10 f11 f12 f13 f14 f15 f16 f17 f18 f19 f20 f21 f22 f23 f24 f25 f26
  go_wp2_with fail
  go_ret
  exact ⟨rfl, hC1.bel⟩
end Go.Proofs.Ytngecbnbddoldaa
