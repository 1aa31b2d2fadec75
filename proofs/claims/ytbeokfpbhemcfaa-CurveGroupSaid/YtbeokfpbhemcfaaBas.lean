/-
  Walk: the curve's Base.
-/
import Derived.Test.YtbeokfpbhemcfaaPby
namespace Go.Proofs.Ytbeokfpbhemcfaa
set_option linter.unusedSimpArgs false
set_option linter.unusedVariables false
open Go.RowKit

def baseP : Pt4 := ofP (knownE bxL) (knownE byL)
theorem baseP_ok : baseP.Ok := ofP_ok (knownE_ok _) (knownE_ok _)
def fillB (k : Nat) : List Nat := List.replicate k 102 ++ List.replicate (32 - k) 0
theorem fillB_set : ∀ k, k < 32 → (fillB k).set k 102 = fillB (k + 1) := by decide
theorem fillB_len : ∀ k, k < 33 → (fillB k).length = 32 := by decide
theorem fillB_end : (fillB 32).set 31 88 = byL := by decide
theorem arr_size : (Try.prog.info? 57).map (·.size) = some 32 := by kernel_rfl
theorem arr_size0 : (Try.prog.info? 57).map (·.size) = some (bnV (fillB 0)).toArray.size := by rw [bnV_len]; exact arr_size
theorem fillB_cells : (bnV (fillB 0)).toArray.all (·.oneCell') = true := by simp [bnV, fillB, Value.oneCell']
structure BM (w0 : World) (r gx ga : Nat) (x : E5) (l : List Nat) (u : World) : Prop where
  bel : Below w0.heap.size w0 u
  z : Blk u r 28 (ptV zP)
  x : Blk u gx 26 (eV x)
  a : Blk u ga 57 (bnV l).toArray
  la : w0.heap.size ≤ ga
  lr : w0.heap.size ≤ r
  ra : r ≠ ga
  xa : gx ≠ ga
theorem BM.put {w0 u u' : World} {r gx ga : Nat} {x : E5} {l l' : List Nat} (k : BM w0 r gx ga x l u) (hw : Wrote ga u u') (hb : Blk u' ga 57 (bnV l').toArray) : BM w0 r gx ga x l' u' :=
  ⟨hw.below k.bel k.la k.bel.size, hw.blk k.z k.ra, hw.blk k.x k.xa, hb, k.la, k.lr, k.ra, k.xa⟩
theorem BM.next {w0 u u' : World} {r gx ga : Nat} {x : E5} {l : List Nat} (k : BM w0 r gx ga x l u) (hb : Below u.heap.size u u') : BM w0 r gx ga x l u' :=
  ⟨k.bel.trans (hb.mono k.bel.size), k.z.below hb k.z.lt, k.x.below hb k.x.lt, k.a.below hb k.a.lt, k.la, k.lr, k.ra, k.xa⟩
theorem BM.drew {w0 u : World} {r gx ga : Nat} {x : E5} {l : List Nat} (k : BM w0 r gx ga x l u) : BM w0 r gx ga x l u.drew := ⟨k.bel.drew, k.z, k.x, k.a, k.la, k.lr, k.ra, k.xa⟩
set_option maxRecDepth 100000 in
set_option maxHeartbeats 2000000 in
theorem base_any (w : World) : Calls Try.prog 10 #[] w (PtPost baseP w) := by
  have hu := Try.underlying26
  have hp := Try.underlying28
  have hua := Try.underlying57
  obtain ⟨X, hX⟩ : ∃ X, X = knownE bxL := ⟨_, rfl⟩
  obtain ⟨Y, hY⟩ : ∃ Y, Y = knownE byL := ⟨_, rfl⟩
  have okX : X.Ok := by rw [hX]; exact knownE_ok _
  have okY : Y.Ok := by rw [hY]; exact knownE_ok _
  have hbase : baseP = ofP X Y := by rw [hX, hY]; rfl
  have CX := Lib.hid (show ∀ u, Calls Try.prog 29 #[.agg (bnV bxL).toArray] u (ElemPost X u) from fun u => by rw [hX]; exact bx_known u)
  have cy : ∀ u, Calls Try.prog 29 #[.agg (bnV byL).toArray] u (ElemPost Y u) := fun u => by rw [hY]; exact by_known u
  have hsz : (Try.prog.info? 57).map (·.size) = some (bnV byL).toArray.size := by rw [bnV_len]; exact arr_size
  have HSZ := Lib.hid hsz
  have CY := Lib.hid cy
  have CO := Lib.hid (fun u => pof_any X Y okX okY u)
  have HBASE := Lib.hid hbase
  have HX0 := Lib.hid (Blk.new w 28 (ptV zP))
  have HB0 := Lib.hid (below_new w (.cells (ptV zP) 28))
  clear hX hY okX okY hbase cy hsz
  go_enter Try.func10, Try.ntmps10
  go_wp2_with fail
  refine calls_then (CX.out _) ?_
  rintro e w1 ⟨rfl, hb1⟩
  have HX1 := Lib.hid (HX0.out.below hb1 HX0.out.lt)
  have HB1 := Lib.hid (HB0.out.trans (hb1.mono HB0.out.size))
  clear hb1 HX0 HB0
  go_wp2_with (first
    | (refine wpList_put_box (x := .tmp 1) (cells := eV X) (Blk.new _ _ _) rfl rfl rfl rfl elem_size rfl (by simp [eV, wV, limbs, Value.oneCell']) ?_; intro w2 hb2 hw2; have hk2 := box_low hw2; have HE2 := Lib.hid hb2; have HX2 := Lib.hid (HX1.out.below hk2 HX1.out.lt); have HB2 := Lib.hid (HB1.out.trans (hk2.mono HB1.out.size)); clear hb2 hw2 hk2 HB1)
    | (refine wpList_put_box (x := .tmp 2) (cells := (bnV (fillB 0)).toArray) (Blk.new _ _ _) rfl rfl rfl rfl arr_size0 rfl fillB_cells ?_; intro w3 hb3 hw3; have hk3 := box_low hw3; have HST := Lib.hid (show BM w w.heap.size w1.heap.size w2.heap.size X (fillB 0) w3 from ⟨HB2.out.trans (hk3.mono HB2.out.size), HX2.out.below hk3 HX2.out.lt, HE2.out.below hk3 HE2.out.lt, hb3, HB2.out.size, Nat.le_refl _, Nat.ne_of_lt HX2.out.lt, Nat.ne_of_lt HE2.out.lt⟩); clear hb3 hw3 hk3 HB2 HX2 HE2))
  generalize w2.heap.size = ga at *
  generalize w1.heap.size = gx at *
  generalize w.heap.size = r at HST ⊢
  go_loopw [7] (fun i wr => ∃ k : Nat, k ≤ 32 ∧ i = .int .i64 k ∧ BM w r gx ga X (fillB k) wr) (fun i _ => 32 - (intOf i).toNat)
  case atStart => exact ⟨0, by omega, rfl, HST.out⟩
  case round =>
    clear HST
    obtain ⟨k, hk, rfl, hst⟩ := hrel
    by_cases hlt : k < 32
    · have hlt' : (k : Int) < 32 := by omega
      have HST := Lib.hid hst
      clear hst
      go_wp2_with (refine wpList_put_cell (x := .tmp 11) (i := k) (v := .int .u8 102) HST.out.a rfl rfl rfl rfl u8_size (by rw [bnV_len, fillB_len k (by omega)]; exact hlt) rfl ?_; intro w5 hb5 hw5; have hst5 := HST.out.put (l' := fillB (k + 1)) hw5 (by rw [show (Value.int IntKind.u8 102) = .int .u8 ((102 : Nat) : Int) from rfl, bnV_set, fillB_set k hlt] at hb5; exact hb5); have HST5 := Lib.hid hst5; clear hst5 hb5 hw5)
      exact ⟨⟨k + 1, by omega, by go_num, HST5.out⟩, by simp [intOf]; omega⟩
    · obtain rfl : k = 32 := by omega
      have HST := Lib.hid hst
      clear hst hlt hk
      go_wp2_with (refine wpList_put_cell (x := .tmp 13) (i := 31) (v := .int .u8 88) HST.out.a rfl rfl rfl rfl u8_size (by rw [bnV_len, fillB_len 32 (by omega)]; decide) rfl ?_; intro w5 hb5 hw5; have hst5 := HST.out.put (l' := byL) hw5 (by rw [show (Value.int IntKind.u8 88) = .int .u8 ((88 : Nat) : Int) from rfl, bnV_set, fillB_end] at hb5; exact hb5); have HST5 := Lib.hid hst5; clear hst5 hb5 hw5)
      have HC0 := HST5.out.drew
      clear HST HST5
      refine wp_region_det (fun u => BM w r gx ga X byL u) (fun u => Blk u r 28 (ptV (ofP X Y)) ∧ Below w.heap.size w u) [(0, some 14), (1, some 15), (2, some 16), (3, some 17), (4, none)] (by kernel_rfl) (by kernel_rfl) (by decide) (by kernel_rfl) (fun _ => rfl) HC0 ?_
      apply DetL.next
      · -- 0: Op.load 26 (Operand.tmp 1)
        apply detStep_plain []
        exact fun _ => rfl
        rfl
        rintro vals - w1 hC1 E hE
        simp only [puts, act_put, act_put_none, List.setIfInBounds_toArray, List.set_cons_zero, List.set_cons_succ] at hE ⊢
        refine wpList_get_box hC1.x rfl rfl rfl hu rfl elem_size ?_
        go_wp2_with fail
        exact .mk (hE _ hC1)
      apply DetL.next
      · -- 1: Op.load 57 (Operand.tmp 2)
        apply detStep_plain []
        exact fun _ => rfl
        rfl
        rintro vals ⟨-, -⟩ w1 hC1 E hE
        simp only [puts, act_put, act_put_none, List.setIfInBounds_toArray, List.set_cons_zero, List.set_cons_succ] at hE ⊢
        refine wpList_get_box hC1.a rfl rfl rfl hua rfl HSZ.out ?_
        go_wp2_with fail
        exact .mk (hE _ hC1)
      apply DetL.next
      · -- 2: Op.call { callee := Callee.value (Operand.func 29), args := #[Operand.tmp 15], argTypes := #[57] }
        apply detStep_plain [(1, some 15)]
        exact fun _ => rfl
        rfl
        rintro vals ⟨⟨-, -⟩, f1⟩ w1 hC1 E hE
        simp only [puts, act_put, act_put_none, List.setIfInBounds_toArray, List.set_cons_zero, List.set_cons_succ, f1] at hE ⊢
        clear f1
        go_wp2_with fail
        refine calls_then (CY.out _) ?_
        rintro e w2 ⟨rfl, hb2⟩
        go_wp2_with fail
        exact .mk (hE _ (hC1.next hb2))
      apply DetL.next
      · -- 3: Op.call { callee := Callee.value (Operand.func 30), args := #[Operand.tmp 14, Operand.tmp 16], argTypes := #[2
        apply detStep_plain [(0, some 14), (2, some 16), (2, some 16)]
        exact fun _ => rfl
        rfl
        rintro vals ⟨⟨⟨-, f0⟩, -⟩, f2⟩ w1 hC1 E hE
        simp only [puts, act_put, act_put_none, List.setIfInBounds_toArray, List.set_cons_zero, List.set_cons_succ, f0, f2] at hE ⊢
        clear f0 f2
        go_wp2_with fail
        refine calls_then (CO.out _) ?_
        rintro e w2 ⟨rfl, hb2⟩
        go_wp2_with fail
        exact .mk (hE _ (hC1.next hb2))
      apply DetL.last (v := undef)
      · -- 4: Op.store 28 (Operand.tmp 0) (Operand.tmp 17)
        apply detStep_plain [(3, some 17), (3, some 17), (0, some 14), (1, some 15), (2, some 16), (3, some 17)]
        exact fun _ => rfl
        rfl
        rintro vals ⟨⟨⟨⟨-, f0⟩, f1⟩, f2⟩, f3⟩ w1 hC1 E hE
        simp only [puts, act_put, act_put_none, List.setIfInBounds_toArray, List.set_cons_zero, List.set_cons_succ, f0, f1, f2, f3] at hE ⊢
        clear f0 f1 f2 f3
        refine wpList_put_box (cells := ptV (ofP X Y)) hC1.z rfl rfl rfl rfl point_size rfl (by simp [ptV, wV, limbs, Value.oneCell']) ?_
        intro w6 hb6 hw6
        go_wp2_with fail
        exact .mk (hE _ ⟨hb6, hw6.below hC1.bel hC1.lr hC1.bel.size⟩)
      rintro vals ⟨⟨⟨⟨⟨-, f0⟩, f1⟩, f2⟩, f3⟩, f4⟩ w1 hC1
      simp only [puts, act_put, act_put_none, List.setIfInBounds_toArray, List.set_cons_zero, List.set_cons_succ, f0, f1, f2, f3, f4]
      clear f0 f1 f2 f3 f4
      clear HC0
      go_wp2_with fail
      refine bodyPost_ret (results_box (P := Try.prog) rfl rfl hC1.1 hp rfl point_size) rfl ⟨by rw [HBASE.out], hC1.2⟩
end Go.Proofs.Ytbeokfpbhemcfaa
