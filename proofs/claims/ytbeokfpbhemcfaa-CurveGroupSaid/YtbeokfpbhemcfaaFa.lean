/-
  Walks: the field's Add and Sub.
-/
import Derived.Test.YtbeokfpbhemcfaaFw
namespace Go.Proofs.Ytbeokfpbhemcfaa
set_option linter.unusedSimpArgs false
set_option linter.unusedVariables false
open Go.RowKit

def rawAdd (x y : E5) : E5 := ⟨x.a + y.a, x.b + y.b, x.c + y.c, x.d + y.d, x.e + y.e⟩
theorem rawAdd_at (x y : E5) (k : Nat) (h : k < 5) : (limbs (rawAdd x y)).getD k 0 = (limbs x).getD k 0 + (limbs y).getD k 0 := by
  match k, h with
  | 0, _ => rfl
  | 1, _ => rfl
  | 2, _ => rfl
  | 3, _ => rfl
  | 4, _ => rfl
def rawSub (x z : E5) : E5 := ⟨x.a + (4503599627370458 - z.a), x.b + (4503599627370494 - z.b), x.c + (4503599627370494 - z.c), x.d + (4503599627370494 - z.d), x.e + (4503599627370494 - z.e)⟩
theorem rawSub_at (x y : E5) (k : Nat) (h : k < 5) : (limbs (rawSub x y)).getD k 0 = (limbs x).getD k 0 + ((if k = 0 then 4503599627370458 else 4503599627370494) - (limbs y).getD k 0) := by
  match k, h with
  | 0, _ => rfl
  | 1, _ => rfl
  | 2, _ => rfl
  | 3, _ => rfl
  | 4, _ => rfl
/-- two elements that came in, the result's place -/
structure G3 (w0 : World) (g h r : Nat) (x y z : Array Value) (u : World) : Prop where
  bel : Below w0.heap.size w0 u
  x : Blk u g 26 x
  y : Blk u h 26 y
  z : Blk u r 26 z
  lg : w0.heap.size ≤ g
  lh : w0.heap.size ≤ h
  lr : w0.heap.size ≤ r
  gh : g ≠ h
  gr : g ≠ r
  hr : h ≠ r
theorem G3.putX {w0 u u' : World} {g h r : Nat} {x y z x' : Array Value} (k : G3 w0 g h r x y z u) (hw : Wrote g u u') (hb : Blk u' g 26 x') : G3 w0 g h r x' y z u' :=
  ⟨hw.below k.bel k.lg k.bel.size, hb, hw.blk k.y (Ne.symm k.gh), hw.blk k.z (Ne.symm k.gr), k.lg, k.lh, k.lr, k.gh, k.gr, k.hr⟩
theorem G3.putY {w0 u u' : World} {g h r : Nat} {x y z y' : Array Value} (k : G3 w0 g h r x y z u) (hw : Wrote h u u') (hb : Blk u' h 26 y') : G3 w0 g h r x y' z u' :=
  ⟨hw.below k.bel k.lh k.bel.size, hw.blk k.x k.gh, hb, hw.blk k.z (Ne.symm k.hr), k.lg, k.lh, k.lr, k.gh, k.gr, k.hr⟩
theorem G3.drew {w0 u : World} {g h r : Nat} {x y z : Array Value} (k : G3 w0 g h r x y z u) : G3 w0 g h r x y z u.drew :=
  ⟨k.bel.drew, k.x, k.y, k.z, k.lg, k.lh, k.lr, k.gh, k.gr, k.hr⟩
theorem G3.next {w0 u u' : World} {g h r : Nat} {x y z : Array Value} (k : G3 w0 g h r x y z u) (hb : Below u.heap.size u u') : G3 w0 g h r x y z u' :=
  ⟨k.bel.trans (hb.mono k.bel.size), k.x.below hb k.x.lt, k.y.below hb k.y.lt, k.z.below hb k.z.lt, k.lg, k.lh, k.lr, k.gh, k.gr, k.hr⟩
theorem g3_new (w : World) (x y z : Array Value) : G3 w w.heap.size (w.heap.size + 1) (w.heap.size + 1 + 1) x y z (((w.alloc (.cells x 26)).alloc (.cells y 26)).alloc (.cells z 26)) :=
  ⟨((below_new _ _).alloc (by simp) _).alloc (by simp; try omega) _, ((Blk.new _ _ _).alloc _).alloc _, (Blk.newAt (by simp)).alloc _, Blk.newAt (by simp), Nat.le_refl _, by omega, by omega, by omega, by omega, by omega⟩
theorem add_w64' (a b : Nat) (h : a + b < 18446744073709551616) : IntKind.u64.wrap ((a : Int) + (b : Int)) = ((a + b : Nat) : Int) := by
  rw [IntKind.wrap_u64]; omega
theorem sub_w64' (a b : Nat) (h : b ≤ a) (ha : a < 18446744073709551616) : IntKind.u64.wrap ((a : Int) - (b : Int)) = ((a - b : Nat) : Int) := by
  rw [IntKind.wrap_u64]; omega
set_option maxRecDepth 100000 in
set_option maxHeartbeats 2000000 in
theorem add_any (x y : E5) (w : World) (hx : x.Lt 9223372036854775808) (hy : y.Lt 9223372036854775808) : Calls Try.prog 32 #[.agg (eV x), .agg (eV y)] w (ElemPost (addE x y) w) := by
  have hu := Try.underlying26
  have hst0 : G3 w w.heap.size (w.heap.size + 1) (w.heap.size + 1 + 1) (mixV (rawAdd x y) x 0) (eV y) (eV zE) _ := g3_new w (eV x) (eV y) (eV zE)
  have HX := Lib.hid hx
  have HY := Lib.hid hy
  have HST0 := Lib.hid hst0
  clear hx hy hst0
  go_enter Try.func32, Try.ntmps32
  go_wp2_with fail
  generalize hr : w.heap.size + 1 + 1 = r at *
  generalize hh : w.heap.size + 1 = h at *
  generalize hg : w.heap.size = g at *
  have HR := Lib.hid hr
  have HH := Lib.hid hh
  have HG := Lib.hid hg
  clear hr hh hg
  go_loopw [6] (fun i wr => ∃ k : Nat, k ≤ 5 ∧ i = .int .i64 k ∧ G3 w g h r (mixV (rawAdd x y) x k) (eV y) (eV zE) wr) (fun i _ => 5 - (intOf i).toNat)
  case atStart => exact ⟨0, by omega, rfl, HST0.out⟩
  case round =>
    clear HST0
    obtain ⟨k, hk, rfl, hst⟩ := hrel
    by_cases hlt : k < 5
    · have hlt' : (k : Int) < 5 := by omega
      obtain ⟨l, hl⟩ : ∃ l, l = (limbs x).getD k 0 := ⟨_, rfl⟩
      obtain ⟨m, hm⟩ : ∃ m, m = (limbs y).getD k 0 := ⟨_, rfl⟩
      have hll : l < 9223372036854775808 := by rw [hl]; exact limb_lt HX.out (by decide) k
      have hml : m < 9223372036854775808 := by rw [hm]; exact limb_lt HY.out (by decide) k
      have hset := mixV_set (rawAdd x y) x k hlt
      rw [rawAdd_at _ _ _ hlt, ← hl, ← hm] at hset
      have ex : (mixV (rawAdd x y) x k)[k]? = some (.int .u64 (l : Int)) := by rw [hl]; exact mixV_at _ _ _ hlt
      have ey : (eV y)[k]? = some (.int .u64 (m : Int)) := by rw [hm]; exact eV_at _ _ hlt
      have HSET := Lib.hid hset
      have EX := Lib.hid ex
      have EY := Lib.hid ey
      have HLL := Lib.hid hll
      have HML := Lib.hid hml
      have HC0 := hst.drew
      clear hset ex ey hst hl hm hll hml
      go_wp2_with fail
      refine wp_region_det (fun u => G3 w g h r (mixV (rawAdd x y) x k) (eV y) (eV zE) u) (fun u => G3 w g h r (mixV (rawAdd x y) x (k + 1)) (eV y) (eV zE) u) [(0, some 9), (1, some 10), (2, some 11), (3, some 12), (4, some 13), (5, some 14), (6, some 15), (7, some 16), (8, some 17), (9, some 18), (10, some 19), (11, none)] (by kernel_rfl) (by kernel_rfl) (by decide) (by kernel_rfl) (fun _ => rfl) HC0 ?_
      apply DetL.next
      · -- 0: Op.move (Operand.tmp 5)
        apply detStep_plain []
        exact fun _ => rfl
        rfl
        rintro vals - w1 hC1 E hE
        simp only [puts, act_put, act_put_none, List.setIfInBounds_toArray, List.set_cons_zero, List.set_cons_succ] at hE ⊢
        go_wp2
        exact .mk (hE _ hC1)
      apply DetL.next
      · -- 1: Op.fieldAddr 26 (Operand.tmp 2) 0
        apply detStep_plain []
        exact fun _ => rfl
        rfl
        rintro vals ⟨-, -⟩ w1 hC1 E hE
        simp only [puts, act_put, act_put_none, List.setIfInBounds_toArray, List.set_cons_zero, List.set_cons_succ] at hE ⊢
        go_wp2
        exact .mk (hE _ hC1)
      apply DetL.next
      · -- 2: Op.indexAddr 24 (Operand.tmp 10) (Operand.tmp 9)
        apply detStep_plain [(1, some 10), (0, some 9)]
        exact fun _ => rfl
        rfl
        rintro vals ⟨⟨-, f0⟩, f1⟩ w1 hC1 E hE
        simp only [puts, act_put, act_put_none, List.setIfInBounds_toArray, List.set_cons_zero, List.set_cons_succ, f0, f1] at hE ⊢
        clear f0 f1
        go_wp2
        exact .mk (hE _ hC1)
      apply DetL.next
      · -- 3: Op.load 23 (Operand.tmp 11)
        apply detStep_plain [(2, some 11)]
        exact fun _ => rfl
        rfl
        rintro vals ⟨⟨⟨-, -⟩, -⟩, f2⟩ w1 hC1 E hE
        have d0 := hC1.x.cell k
        rw [EX.out] at d0
        simp only [puts, act_put, act_put_none, List.setIfInBounds_toArray, List.set_cons_zero, List.set_cons_succ, f2] at hE ⊢
        clear f2
        go_wp2
        exact .mk (hE _ hC1)
      apply DetL.next
      · -- 4: Op.move (Operand.tmp 5)
        apply detStep_plain []
        exact fun _ => rfl
        rfl
        rintro vals ⟨⟨⟨⟨-, -⟩, -⟩, -⟩, -⟩ w1 hC1 E hE
        simp only [puts, act_put, act_put_none, List.setIfInBounds_toArray, List.set_cons_zero, List.set_cons_succ] at hE ⊢
        go_wp2
        exact .mk (hE _ hC1)
      apply DetL.next
      · -- 5: Op.fieldAddr 26 (Operand.tmp 3) 0
        apply detStep_plain []
        exact fun _ => rfl
        rfl
        rintro vals ⟨⟨⟨⟨⟨-, -⟩, -⟩, -⟩, -⟩, -⟩ w1 hC1 E hE
        simp only [puts, act_put, act_put_none, List.setIfInBounds_toArray, List.set_cons_zero, List.set_cons_succ] at hE ⊢
        go_wp2
        exact .mk (hE _ hC1)
      apply DetL.next
      · -- 6: Op.indexAddr 24 (Operand.tmp 14) (Operand.tmp 13)
        apply detStep_plain [(5, some 14), (4, some 13)]
        exact fun _ => rfl
        rfl
        rintro vals ⟨⟨⟨⟨⟨⟨-, -⟩, -⟩, -⟩, -⟩, f4⟩, f5⟩ w1 hC1 E hE
        simp only [puts, act_put, act_put_none, List.setIfInBounds_toArray, List.set_cons_zero, List.set_cons_succ, f4, f5] at hE ⊢
        clear f4 f5
        go_wp2
        exact .mk (hE _ hC1)
      apply DetL.next
      · -- 7: Op.load 23 (Operand.tmp 15)
        apply detStep_plain [(6, some 15)]
        exact fun _ => rfl
        rfl
        rintro vals ⟨⟨⟨⟨⟨⟨⟨-, -⟩, -⟩, -⟩, -⟩, -⟩, -⟩, f6⟩ w1 hC1 E hE
        have d0 := hC1.y.cell k
        rw [EY.out] at d0
        simp only [puts, act_put, act_put_none, List.setIfInBounds_toArray, List.set_cons_zero, List.set_cons_succ, f6] at hE ⊢
        clear f6
        go_wp2
        exact .mk (hE _ hC1)
      apply DetL.next
      · -- 8: Op.binOp BinOp.add 23 (Operand.tmp 12) (Operand.tmp 16) 23
        apply detStep_plain [(3, some 12), (7, some 16)]
        exact fun _ => rfl
        rfl
        rintro vals ⟨⟨⟨⟨⟨⟨⟨⟨-, -⟩, -⟩, -⟩, f3⟩, -⟩, -⟩, -⟩, f7⟩ w1 hC1 E hE
        simp only [puts, act_put, act_put_none, List.setIfInBounds_toArray, List.set_cons_zero, List.set_cons_succ, f3, f7] at hE ⊢
        clear f3 f7
        go_wp2
        rw [add_w64' l m (by have := HLL.out; have := HML.out; omega)]
        exact .mk (hE _ hC1)
      apply DetL.next
      · -- 9: Op.fieldAddr 26 (Operand.tmp 2) 0
        apply detStep_plain []
        exact fun _ => rfl
        rfl
        rintro vals ⟨⟨⟨⟨⟨⟨⟨⟨⟨-, -⟩, -⟩, -⟩, -⟩, -⟩, -⟩, -⟩, -⟩, -⟩ w1 hC1 E hE
        simp only [puts, act_put, act_put_none, List.setIfInBounds_toArray, List.set_cons_zero, List.set_cons_succ] at hE ⊢
        go_wp2
        exact .mk (hE _ hC1)
      apply DetL.next
      · -- 10: Op.indexAddr 24 (Operand.tmp 18) (Operand.tmp 9)
        apply detStep_plain [(9, some 18), (0, some 9), (0, some 9), (1, some 10), (2, some 11), (3, some 12), (4, some 13), (5, some 14), (6, some 15), (7, some 16), (8, some 17)]
        exact fun _ => rfl
        rfl
        rintro vals ⟨⟨⟨⟨⟨⟨⟨⟨⟨⟨-, f0⟩, f1⟩, f2⟩, f3⟩, f4⟩, f5⟩, f6⟩, f7⟩, f8⟩, f9⟩ w1 hC1 E hE
        simp only [puts, act_put, act_put_none, List.setIfInBounds_toArray, List.set_cons_zero, List.set_cons_succ, f0, f1, f2, f3, f4, f5, f6, f7, f8, f9] at hE ⊢
        clear f0 f1 f2 f3 f4 f5 f6 f7 f8 f9
        go_wp2
        exact .mk (hE _ hC1)
      apply DetL.last (v := undef)
      · -- 11: Op.store 23 (Operand.tmp 19) (Operand.tmp 17)
        apply detStep_plain [(10, some 19), (8, some 17), (0, some 9), (1, some 10), (2, some 11), (3, some 12), (4, some 13), (5, some 14), (6, some 15), (7, some 16), (8, some 17)]
        exact fun _ => rfl
        rfl
        rintro vals ⟨⟨⟨⟨⟨⟨⟨⟨⟨⟨⟨-, f0⟩, f1⟩, f2⟩, f3⟩, f4⟩, f5⟩, f6⟩, f7⟩, f8⟩, -⟩, f10⟩ w1 hC1 E hE
        have d0 := hC1.x.cell k
        rw [EX.out] at d0
        have q0 := hC1.x.free k
        simp only [puts, act_put, act_put_none, List.setIfInBounds_toArray, List.set_cons_zero, List.set_cons_succ, f0, f1, f2, f3, f4, f5, f6, f7, f8, f10] at hE ⊢
        clear f0 f1 f2 f3 f4 f5 f6 f7 f8 f10
        go_wp2
        refine .mk (hE _ (hC1.putX (wrote_setCell_at _ _ _ _) ?_))
        have h := blk_setCell_at (i := k) hC1.x (.int .u64 ((l + m : Nat) : Int))
        rw [HSET.out] at h
        exact h
      rintro vals ⟨⟨⟨⟨⟨⟨⟨⟨⟨⟨⟨⟨-, f0⟩, f1⟩, f2⟩, f3⟩, f4⟩, f5⟩, f6⟩, f7⟩, f8⟩, f9⟩, f10⟩, f11⟩ w1 hC1
      simp only [puts, act_put, act_put_none, List.setIfInBounds_toArray, List.set_cons_zero, List.set_cons_succ, f0, f1, f2, f3, f4, f5, f6, f7, f8, f9, f10, f11]
      clear f0 f1 f2 f3 f4 f5 f6 f7 f8 f9 f10 f11
      clear HC0
      have HC1 := Lib.hid hC1
      clear hC1
      go_wp2_with fail
      exact ⟨⟨k + 1, by omega, by go_num, HC1.out⟩, by simp [intOf]; omega⟩
    · obtain rfl : k = 5 := by omega
      rw [mixV_end] at hst
      have HST := Lib.hid hst
      clear hst
      go_wp2_with (refine wpList_get_box (x := .tmp 2) HST.out.x rfl rfl rfl hu rfl elem_size ?_)
      refine calls_then (carried_any (rawAdd x y) _ ?_) ?_
      · obtain ⟨a1, a2, a3, a4, a5⟩ := HX.out
        obtain ⟨b1, b2, b3, b4, b5⟩ := HY.out
        constructor <;> simp only [rawAdd] <;> omega
      rintro e w2 ⟨rfl, hb2⟩
      have hs2 := HST.out.next hb2
      have HS2 := Lib.hid hs2
      clear HST hs2 hb2
      go_wp2_with (refine wpList_put_box (x := .tmp 4) (cells := eV (addE x y)) HS2.out.z rfl rfl rfl rfl elem_size rfl (by simp [eV, wV, limbs, Value.oneCell']) ?_; intro w5 hb5 hw5)
      refine bodyPost_ret (results_box (P := Try.prog) rfl rfl hb5 hu rfl elem_size) rfl ⟨rfl, ?_⟩
      exact hw5.below HS2.out.bel HS2.out.lr HS2.out.bel.size
end Go.Proofs.Ytbeokfpbhemcfaa
