/-
  Joined texts: Pby Bas Few Prime Ptn Cliv NegW Ed Ex.
-/
import Derived.Test.YtbeokfpbhemcfaaJ6
import Derived.Test.YtbeokfpbhemcfaaJ4
import Derived.Test.YtbeokfpbhemcfaaJ1
/-
  Walk: a point's bytes.
-/
namespace Go.Proofs.Ytbeokfpbhemcfaa
set_option linter.unusedSimpArgs false
set_option linter.unusedVariables false
open Go.RowKit

/-- is a point's x odd? -/
def oddP (p : Pt4) : Bool := decide ((mulE p.x (invE p.z)).val % PN % 2 = 1)
/-- a point's bytes -/
def bytP (p : Pt4) : List Nat :=
  let l := byN (leastE (mulE p.y (invE p.z))).val
  if oddP p then l.set 31 (l.getD 31 0 ||| 128) else l
def PbyPost (p : Pt4) (w : World) (e : Ending) (w' : World) : Prop :=
  ∃ o, e = .returned (.slice (some ⟨o, 0, none⟩) 32 32) ∧ w.heap.size ≤ o ∧ Blk w' o 5 (bnV (bytP p)).toArray ∧ Below w.heap.size w w'
theorem byN_31 (N : Nat) : (byN N).getD 31 0 < 256 := dg_getD (byN_lt N) 31
set_option maxRecDepth 100000 in
set_option maxHeartbeats 2000000 in
theorem pbytes_any (p : Pt4) (hkp : p.Ok) (w : World) : Calls Try.prog 14 #[.agg (ptV p)] w (PbyPost p w) := by
  have hu := Try.underlying26
  have hp := Try.underlying28
  obtain ⟨I, hI⟩ : ∃ I, I = invE p.z := ⟨_, rfl⟩
  have okI : I.Ok := by rw [hI]; exact invE_ok hkp.z
  obtain ⟨V, hV⟩ : ∃ V, V = (leastE (mulE p.y I)).val := ⟨_, rfl⟩
  obtain ⟨ob, hob⟩ : ∃ ob, ob = oddP p := ⟨_, rfl⟩
  have hres : bytP p = if ob then (byN V).set 31 ((byN V).getD 31 0 ||| 128) else byN V := by rw [hob, hV, hI]; rfl
  have cI : ∀ u, Calls Try.prog 37 #[.agg (eV p.z)] u (ElemPost I u) := fun u => by rw [hI]; exact inv_any p.z hkp.z u
  have cB : ∀ u, Calls Try.prog 39 #[.agg (eV (mulE p.y I))] u (BytesPost V u) := fun u => by rw [hV]; exact bytes_any _ u (mul_ok hkp.y okI).big
  have cO : ∀ u, Calls Try.prog 40 #[.agg (eV (mulE p.x I))] u (BoolPost ob u) := fun u => by
    have h := odd_c (mulE p.x I) (mul_ok hkp.x okI) u
    rw [show decide ((mulE p.x I).val % PN % 2 = 1) = ob by rw [hob, hI]; rfl] at h
    exact h
  have CI := Lib.hid cI
  have CB := Lib.hid cB
  have CO := Lib.hid cO
  have HRES := Lib.hid hres
  have CY := Lib.hid (fun u => mul_c p.y I u hkp.y okI)
  have CX := Lib.hid (fun u => mul_c p.x I u hkp.x okI)
  have HX0 := Lib.hid (Blk.new w 28 (ptV p))
  have HB0 := Lib.hid (below_new w (.cells (ptV p) 28))
  clear hI okI hV hob hres cI cB cO hkp
  go_enter Try.func14, Try.ntmps14
  go_wp2_with (refine wpList_get_part (x := .tmp 5) (n := 5) (r := eV p.z) HX0.out (by rw [ptV_size]; decide) rfl rfl rfl rfl hu rfl elem_size ?_)
  refine calls_then (CI.out _) ?_
  rintro e w1 ⟨rfl, hb1⟩
  have HX1 := Lib.hid (HX0.out.below hb1 HX0.out.lt)
  have HB1 := Lib.hid (HB0.out.trans (hb1.mono HB0.out.size))
  clear hb1 HX0 HB0
  go_wp2_with (first
    | (refine wpList_put_box (x := .tmp 3) (cells := eV I) (Blk.new _ _ _) rfl rfl rfl rfl elem_size rfl (by simp [eV, wV, limbs, Value.oneCell']) ?_; intro w2 hb2 hw2; have hk2 := box_low hw2; have HI2 := Lib.hid hb2; have HX2 := Lib.hid (HX1.out.below hk2 HX1.out.lt); have HB2 := Lib.hid (HB1.out.trans (hk2.mono HB1.out.size)); clear hb2 hw2 hk2 HX1 HB1)
    | (refine wpList_get_part (x := .tmp 8) (n := 5) (r := eV p.y) HX2.out (by rw [ptV_size]; decide) rfl rfl rfl rfl hu rfl elem_size ?_)
    | (refine wpList_get_box (x := .tmp 3) HI2.out rfl rfl rfl hu rfl elem_size ?_))
  refine calls_then (CY.out _) ?_
  rintro e w3 ⟨rfl, hb3⟩
  have HX3 := Lib.hid (HX2.out.below hb3 HX2.out.lt)
  have HI3 := Lib.hid (HI2.out.below hb3 HI2.out.lt)
  have HB3 := Lib.hid (HB2.out.trans (hb3.mono HB2.out.size))
  clear hb3 HX2 HB2 HI2
  generalize w1.heap.size = gi at *
  go_wp2_with fail
  refine calls_then (CB.out _) ?_
  rintro e w4 ⟨o, rfl, hlo, hblk, hb4⟩
  have HX4 := Lib.hid (HX3.out.below hb4 HX3.out.lt)
  have HI4 := Lib.hid (HI3.out.below hb4 HI3.out.lt)
  have HLO := Lib.hid (Nat.le_trans HB3.out.size hlo)
  have HB4 := Lib.hid (HB3.out.trans (hb4.mono HB3.out.size))
  have HO4 := Lib.hid hblk
  clear hb4 hlo hblk HX3 HI3 HB3
  go_wp2_with (first
    | (refine wpList_get_part (x := .tmp 13) (n := 5) (r := eV p.x) HX4.out (by rw [ptV_size]; decide) rfl rfl rfl rfl hu rfl elem_size ?_)
    | (refine wpList_get_box (x := .tmp 3) HI4.out rfl rfl rfl hu rfl elem_size ?_))
  refine calls_then (CX.out _) ?_
  rintro e w5 ⟨rfl, hb5⟩
  have HLO5 := Lib.hid HLO.out
  have HO5 := Lib.hid (HO4.out.below hb5 HO4.out.lt)
  have HB5 := Lib.hid (HB4.out.trans (hb5.mono HB4.out.size))
  clear hb5 HX4 HI4 HB4 HO4
  go_wp2_with fail
  refine calls_then (CO.out _) ?_
  rintro e w6 ⟨rfl, hb6⟩
  have HO6 := Lib.hid (HO5.out.below hb6 HO5.out.lt)
  have HB6 := Lib.hid (HB5.out.trans (hb6.mono HB5.out.size))
  clear hb6 HB5 HO5
  obtain ⟨x, hx⟩ : ∃ x, x = (byN V).getD 31 0 := ⟨_, rfl⟩
  have hxl : x < 256 := by rw [hx]; exact byN_31 V
  have hor := or8 (a := x) (b := 128) hxl (by decide)
  have hc := bnV_get (l := byN V) (k := 31) (by rw [byN_length]; decide)
  rw [← hx] at hc
  have d0 := HO6.out.cell 31
  rw [hc] at d0
  have q0 := HO6.out.free 31
  rw [← hx] at HRES
  obtain ⟨y, hy⟩ : ∃ y, y = x ||| 128 := ⟨_, rfl⟩
  rw [← hy] at hor HRES
  have hor' : bits .or .u8 (x : Int) 128 = (y : Int) := hor
  have hx256 : (x : Int) < 256 := by omega
  clear hx hxl hc hy hor
  cases ob
  · go_wp2_with fail
    go_ret
    refine ⟨o, rfl, HLO5.out, ?_, HB6.out⟩
    rw [HRES.out]
    exact HO6.out
  · go_wp2_with fail
    go_ret
    have h := blk_setCell_at (i := 31) HO6.out (.int .u8 (y : Int))
    rw [bnV_set] at h
    refine ⟨o, rfl, HLO5.out, ?_, (wrote_setCell_at _ _ _ _).below HB6.out HLO5.out HB6.out.size⟩
    rw [HRES.out]
    exact h
end Go.Proofs.Ytbeokfpbhemcfaa
/-
  Walk: the curve's Base.
-/
namespace Go.Proofs.Ytbeokfpbhemcfaa
set_option linter.unusedSimpArgs false
set_option linter.unusedVariables false
open Go.RowKit

def baseP : Pt4 := ofP (knownE bxL) (knownE byL)
theorem baseP_ok : baseP.Ok := ofP_ok (knownE_ok _) (knownE_ok _)
def fillB (k : Nat) : List Nat := List.replicate k 102 ++ List.replicate (32 - k) 0
theorem fillB_set : ∀ k, k < 32 → (fillB k).set k 102 = fillB (k + 1) := by decide
theorem fillB_len : ∀ k, k < 33 → (fillB k).length = 32 := by decide
theorem fillB_end : (fillB 32).set 31 88 = byL := by decide
theorem arr_size : (Try.prog.info? 57).map (·.size) = some 32 := by kernel_rfl
theorem arr_size0 : (Try.prog.info? 57).map (·.size) = some (bnV (fillB 0)).toArray.size := by rw [bnV_len]; exact arr_size
theorem fillB_cells : (bnV (fillB 0)).toArray.all (·.oneCell') = true := by simp [bnV, fillB, Value.oneCell']
structure BM (w0 : World) (r gx ga : Nat) (x : E5) (l : List Nat) (u : World) : Prop where
  bel : Below w0.heap.size w0 u
  z : Blk u r 28 (ptV zP)
  x : Blk u gx 26 (eV x)
  a : Blk u ga 57 (bnV l).toArray
  la : w0.heap.size ≤ ga
  lr : w0.heap.size ≤ r
  ra : r ≠ ga
  xa : gx ≠ ga
theorem BM.put {w0 u u' : World} {r gx ga : Nat} {x : E5} {l l' : List Nat} (k : BM w0 r gx ga x l u) (hw : Wrote ga u u') (hb : Blk u' ga 57 (bnV l').toArray) : BM w0 r gx ga x l' u' :=
  ⟨hw.below k.bel k.la k.bel.size, hw.blk k.z k.ra, hw.blk k.x k.xa, hb, k.la, k.lr, k.ra, k.xa⟩
theorem BM.next {w0 u u' : World} {r gx ga : Nat} {x : E5} {l : List Nat} (k : BM w0 r gx ga x l u) (hb : Below u.heap.size u u') : BM w0 r gx ga x l u' :=
  ⟨k.bel.trans (hb.mono k.bel.size), k.z.below hb k.z.lt, k.x.below hb k.x.lt, k.a.below hb k.a.lt, k.la, k.lr, k.ra, k.xa⟩
theorem BM.drew {w0 u : World} {r gx ga : Nat} {x : E5} {l : List Nat} (k : BM w0 r gx ga x l u) : BM w0 r gx ga x l u.drew := ⟨k.bel.drew, k.z, k.x, k.a, k.la, k.lr, k.ra, k.xa⟩
set_option maxRecDepth 100000 in
set_option maxHeartbeats 2000000 in
theorem base_any (w : World) : Calls Try.prog 10 #[] w (PtPost baseP w) := by
  have hu := Try.underlying26
  have hp := Try.underlying28
  have hua := Try.underlying57
  obtain ⟨X, hX⟩ : ∃ X, X = knownE bxL := ⟨_, rfl⟩
  obtain ⟨Y, hY⟩ : ∃ Y, Y = knownE byL := ⟨_, rfl⟩
  have okX : X.Ok := by rw [hX]; exact knownE_ok _
  have okY : Y.Ok := by rw [hY]; exact knownE_ok _
  have hbase : baseP = ofP X Y := by rw [hX, hY]; rfl
  have CX := Lib.hid (show ∀ u, Calls Try.prog 29 #[.agg (bnV bxL).toArray] u (ElemPost X u) from fun u => by rw [hX]; exact bx_known u)
  have cy : ∀ u, Calls Try.prog 29 #[.agg (bnV byL).toArray] u (ElemPost Y u) := fun u => by rw [hY]; exact by_known u
  have hsz : (Try.prog.info? 57).map (·.size) = some (bnV byL).toArray.size := by rw [bnV_len]; exact arr_size
  have HSZ := Lib.hid hsz
  have CY := Lib.hid cy
  have CO := Lib.hid (fun u => pof_any X Y okX okY u)
  have HBASE := Lib.hid hbase
  have HX0 := Lib.hid (Blk.new w 28 (ptV zP))
  have HB0 := Lib.hid (below_new w (.cells (ptV zP) 28))
  clear hX hY okX okY hbase cy hsz
  go_enter Try.func10, Try.ntmps10
  go_wp2_with fail
  refine calls_then (CX.out _) ?_
  rintro e w1 ⟨rfl, hb1⟩
  have HX1 := Lib.hid (HX0.out.below hb1 HX0.out.lt)
  have HB1 := Lib.hid (HB0.out.trans (hb1.mono HB0.out.size))
  clear hb1 HX0 HB0
  go_wp2_with (first
    | (refine wpList_put_box (x := .tmp 1) (cells := eV X) (Blk.new _ _ _) rfl rfl rfl rfl elem_size rfl (by simp [eV, wV, limbs, Value.oneCell']) ?_; intro w2 hb2 hw2; have hk2 := box_low hw2; have HE2 := Lib.hid hb2; have HX2 := Lib.hid (HX1.out.below hk2 HX1.out.lt); have HB2 := Lib.hid (HB1.out.trans (hk2.mono HB1.out.size)); clear hb2 hw2 hk2 HB1)
    | (refine wpList_put_box (x := .tmp 2) (cells := (bnV (fillB 0)).toArray) (Blk.new _ _ _) rfl rfl rfl rfl arr_size0 rfl fillB_cells ?_; intro w3 hb3 hw3; have hk3 := box_low hw3; have HST := Lib.hid (show BM w w.heap.size w1.heap.size w2.heap.size X (fillB 0) w3 from ⟨HB2.out.trans (hk3.mono HB2.out.size), HX2.out.below hk3 HX2.out.lt, HE2.out.below hk3 HE2.out.lt, hb3, HB2.out.size, Nat.le_refl _, Nat.ne_of_lt HX2.out.lt, Nat.ne_of_lt HE2.out.lt⟩); clear hb3 hw3 hk3 HB2 HX2 HE2))
  generalize w2.heap.size = ga at *
  generalize w1.heap.size = gx at *
  generalize w.heap.size = r at HST ⊢
  go_loopw [7] (fun i wr => ∃ k : Nat, k ≤ 32 ∧ i = .int .i64 k ∧ BM w r gx ga X (fillB k) wr) (fun i _ => 32 - (intOf i).toNat)
  case atStart => exact ⟨0, by omega, rfl, HST.out⟩
  case round =>
    clear HST
    obtain ⟨k, hk, rfl, hst⟩ := hrel
    by_cases hlt : k < 32
    · have hlt' : (k : Int) < 32 := by omega
      have HST := Lib.hid hst
      clear hst
      go_wp2_with (refine wpList_put_cell (x := .tmp 11) (i := k) (v := .int .u8 102) HST.out.a rfl rfl rfl rfl u8_size (by rw [bnV_len, fillB_len k (by omega)]; exact hlt) rfl ?_; intro w5 hb5 hw5; have hst5 := HST.out.put (l' := fillB (k + 1)) hw5 (by rw [show (Value.int IntKind.u8 102) = .int .u8 ((102 : Nat) : Int) from rfl, bnV_set, fillB_set k hlt] at hb5; exact hb5); have HST5 := Lib.hid hst5; clear hst5 hb5 hw5)
      exact ⟨⟨k + 1, by omega, by go_num, HST5.out⟩, by simp [intOf]; omega⟩
    · obtain rfl : k = 32 := by omega
      have HST := Lib.hid hst
      clear hst hlt hk
      go_wp2_with (refine wpList_put_cell (x := .tmp 13) (i := 31) (v := .int .u8 88) HST.out.a rfl rfl rfl rfl u8_size (by rw [bnV_len, fillB_len 32 (by omega)]; decide) rfl ?_; intro w5 hb5 hw5; have hst5 := HST.out.put (l' := byL) hw5 (by rw [show (Value.int IntKind.u8 88) = .int .u8 ((88 : Nat) : Int) from rfl, bnV_set, fillB_end] at hb5; exact hb5); have HST5 := Lib.hid hst5; clear hst5 hb5 hw5)
      have HC0 := HST5.out.drew
      clear HST HST5
      refine wp_region_det (fun u => BM w r gx ga X byL u) (fun u => Blk u r 28 (ptV (ofP X Y)) ∧ Below w.heap.size w u) [(0, some 14), (1, some 15), (2, some 16), (3, some 17), (4, none)] (by kernel_rfl) (by kernel_rfl) (by decide) (by kernel_rfl) (fun _ => rfl) HC0 ?_
      apply DetL.next
      · -- 0: Op.load 26 (Operand.tmp 1)
        apply detStep_plain []
        exact fun _ => rfl
        rfl
        rintro vals - w1 hC1 E hE
        simp only [puts, act_put, act_put_none, List.setIfInBounds_toArray, List.set_cons_zero, List.set_cons_succ] at hE ⊢
        refine wpList_get_box hC1.x rfl rfl rfl hu rfl elem_size ?_
        go_wp2_with fail
        exact .mk (hE _ hC1)
      apply DetL.next
      · -- 1: Op.load 57 (Operand.tmp 2)
        apply detStep_plain []
        exact fun _ => rfl
        rfl
        rintro vals ⟨-, -⟩ w1 hC1 E hE
        simp only [puts, act_put, act_put_none, List.setIfInBounds_toArray, List.set_cons_zero, List.set_cons_succ] at hE ⊢
        refine wpList_get_box hC1.a rfl rfl rfl hua rfl HSZ.out ?_
        go_wp2_with fail
        exact .mk (hE _ hC1)
      apply DetL.next
      · -- 2: Op.call { callee := Callee.value (Operand.func 29), args := #[Operand.tmp 15], argTypes := #[57] }
        apply detStep_plain [(1, some 15)]
        exact fun _ => rfl
        rfl
        rintro vals ⟨⟨-, -⟩, f1⟩ w1 hC1 E hE
        simp only [puts, act_put, act_put_none, List.setIfInBounds_toArray, List.set_cons_zero, List.set_cons_succ, f1] at hE ⊢
        clear f1
        go_wp2_with fail
        refine calls_then (CY.out _) ?_
        rintro e w2 ⟨rfl, hb2⟩
        go_wp2_with fail
        exact .mk (hE _ (hC1.next hb2))
      apply DetL.next
      · -- 3: Op.call { callee := Callee.value (Operand.func 30), args := #[Operand.tmp 14, Operand.tmp 16], argTypes := #[2
        apply detStep_plain [(0, some 14), (2, some 16), (2, some 16)]
        exact fun _ => rfl
        rfl
        rintro vals ⟨⟨⟨-, f0⟩, -⟩, f2⟩ w1 hC1 E hE
        simp only [puts, act_put, act_put_none, List.setIfInBounds_toArray, List.set_cons_zero, List.set_cons_succ, f0, f2] at hE ⊢
        clear f0 f2
        go_wp2_with fail
        refine calls_then (CO.out _) ?_
        rintro e w2 ⟨rfl, hb2⟩
        go_wp2_with fail
        exact .mk (hE _ (hC1.next hb2))
      apply DetL.last (v := undef)
      · -- 4: Op.store 28 (Operand.tmp 0) (Operand.tmp 17)
        apply detStep_plain [(3, some 17), (3, some 17), (0, some 14), (1, some 15), (2, some 16), (3, some 17)]
        exact fun _ => rfl
        rfl
        rintro vals ⟨⟨⟨⟨-, f0⟩, f1⟩, f2⟩, f3⟩ w1 hC1 E hE
        simp only [puts, act_put, act_put_none, List.setIfInBounds_toArray, List.set_cons_zero, List.set_cons_succ, f0, f1, f2, f3] at hE ⊢
        clear f0 f1 f2 f3
        refine wpList_put_box (cells := ptV (ofP X Y)) hC1.z rfl rfl rfl rfl point_size rfl (by simp [ptV, wV, limbs, Value.oneCell']) ?_
        intro w6 hb6 hw6
        go_wp2_with fail
        exact .mk (hE _ ⟨hb6, hw6.below hC1.bel hC1.lr hC1.bel.size⟩)
      rintro vals ⟨⟨⟨⟨⟨-, f0⟩, f1⟩, f2⟩, f3⟩, f4⟩ w1 hC1
      simp only [puts, act_put, act_put_none, List.setIfInBounds_toArray, List.set_cons_zero, List.set_cons_succ, f0, f1, f2, f3, f4]
      clear f0 f1 f2 f3 f4
      clear HC0
      go_wp2_with fail
      refine bodyPost_ret (results_box (P := Try.prog) rfl rfl hC1.1 hp rfl point_size) rfl ⟨by rw [HBASE.out], hC1.2⟩
end Go.Proofs.Ytbeokfpbhemcfaa
/-
  Walk: the law's few.
-/
namespace Go.Proofs.Ytbeokfpbhemcfaa
set_option linter.unusedSimpArgs false
set_option linter.unusedVariables false
open Go.RowKit

theorem nil_len' {l : List UInt8} {A : Option Addr} {w : World} (hr : Rd w w.heap.size A (bytesV l)) : A = none → l.length = 0 := fun h => by
  by_cases h0 : 0 < l.length
  · obtain ⟨ad, h1, _⟩ := hr.at_ (k := 0) (by rw [bytesV_length]; exact h0)
    rw [h] at h1; cases h1
  · omega
set_option maxRecDepth 100000 in
set_option maxHeartbeats 1000000 in
theorem few_any (l : List UInt8) (m : Nat) (hm : m ≤ 1000) (A : Option Addr) (c : Nat) (w : World) (hnil : A = none → l.length = 0) (hc : l.length ≤ c) :
    Calls Try.prog 12 #[.slice A l.length c, .int .i64 (m : Int)] w (fun e w' => e = .returned (.slice A (l.take m).length c) ∧ w' = w) := by
  have hlt2 : (l.take m).length = min m l.length := List.length_take
  rw [hlt2]
  generalize l.length = n at *
  have hmb : (m : Int) ≤ 1000 := by omega
  by_cases hlt : m < n
  · obtain ⟨ad, rfl⟩ : ∃ ad, A = some ad := by
      cases A with
      | none => have := hnil rfl; omega
      | some ad => exact ⟨ad, rfl⟩
    have hgt : (n : Int) > (m : Int) := by omega
    have hmc : (m : Int) ≤ (c : Int) := by omega
    have hmin : min m n = m := by omega
    rw [hmin]
    clear hlt hmin hlt2 hnil hm hc
    go_enter Try.func12, Try.ntmps12
    go_wp2_with fail
    go_ret
    exact ⟨rfl, rfl⟩
  · have hgt : ¬ (n : Int) > (m : Int) := by omega
    have hmin : min m n = n := by omega
    rw [hmin]
    clear hlt hmin hlt2 hnil hm hc
    go_enter Try.func12, Try.ntmps12
    go_wp2_with fail
    go_ret
    exact ⟨rfl, rfl⟩
end Go.Proofs.Ytbeokfpbhemcfaa
/-
  Plain: p is prime; the powers of p - 1 are 1.
-/
namespace Go.Proofs.Ytbeokfpbhemcfaa
set_option linter.unusedSimpArgs false
set_option linter.unusedVariables false
open Go.RowKit

/-- prime -/
def Pr (p : Nat) : Prop := 2 ≤ p ∧ ∀ d, d ∣ p → d = 1 ∨ d = p
theorem pr_ex : ∀ n, 2 ≤ n → ∃ r, Pr r ∧ r ∣ n := fun n => Nat.strongRecOn n fun n ih hn => by
  by_cases h : ∀ d, d ∣ n → d = 1 ∨ d = n
  · exact ⟨n, ⟨hn, h⟩, Nat.dvd_refl n⟩
  · obtain ⟨d, hd⟩ := Classical.not_forall.1 h
    obtain ⟨h1, h2⟩ := Classical.not_imp.1 hd
    have h3 : 0 < d := Nat.pos_of_dvd_of_pos h1 (by omega)
    have h4 := Nat.le_of_dvd (by omega) h1
    obtain ⟨r, hr, hrd⟩ := ih d (by omega) (by omega)
    exact ⟨r, hr, Nat.dvd_trans hrd h1⟩
theorem pr_cop {p a : Nat} (hp : Pr p) (h : ¬ p ∣ a) : Nat.gcd p a = 1 := by
  rcases hp.2 _ (Nat.gcd_dvd_left p a) with h1 | h1
  · exact h1
  · exact absurd (h1 ▸ Nat.gcd_dvd_right p a) h
theorem pr_dvd {p a b : Nat} (hp : Pr p) (h : p ∣ a * b) : p ∣ a ∨ p ∣ b := by
  by_cases ha : p ∣ a
  · exact .inl ha
  · exact .inr (Nat.Coprime.dvd_of_dvd_mul_left (pr_cop hp ha) h)
/-- binomials -/
def ch : Nat → Nat → Nat
  | _, 0 => 1
  | 0, _ + 1 => 0
  | n + 1, k + 1 => ch n k + ch n (k + 1)
theorem ch_gt : ∀ n k, n < k → ch n k = 0
  | _, 0, h => absurd h (Nat.not_lt_zero _)
  | 0, _ + 1, _ => rfl
  | n + 1, k + 1, h => by rw [ch, ch_gt n k (by omega), ch_gt n (k + 1) (by omega)]
theorem ch_self : ∀ n, ch n n = 1
  | 0 => rfl
  | n + 1 => by rw [ch, ch_self n, ch_gt n (n + 1) (by omega)]
theorem ch_mul : ∀ n k, (k + 1) * ch (n + 1) (k + 1) = (n + 1) * ch n k
  | 0, 0 => rfl
  | 0, k + 1 => by simp [ch]
  | n + 1, 0 => by
    have h := ch_mul n 0
    rw [ch, ch] at *
    simp only [ch] at h ⊢
    omega
  | n + 1, k + 1 => by
    have h1 := ch_mul n k
    have h2 := ch_mul n (k + 1)
    have e : ch (n + 1 + 1) (k + 1 + 1) = ch (n + 1) (k + 1) + ch (n + 1) (k + 1 + 1) := rfl
    have e2 : ch (n + 1) (k + 1) = ch n k + ch n (k + 1) := rfl
    rw [e, Nat.mul_add, h2]
    have e3 : (k + 1 + 1) * ch (n + 1) (k + 1) = (n + 1) * ch n k + ch (n + 1) (k + 1) := by rw [Nat.add_mul, h1, Nat.one_mul]
    have e4 : (n + 1 + 1) * ch (n + 1) (k + 1) = (n + 1) * ch n k + (n + 1) * ch n (k + 1) + ch (n + 1) (k + 1) := by
      rw [Nat.add_mul, Nat.one_mul]
      conv => lhs; lhs; rw [e2]
      rw [Nat.mul_add]
    rw [e3, e4]
    omega
def bs (n a : Nat) : Nat → Nat
  | 0 => 0
  | k + 1 => bs n a k + ch n k * a ^ k
theorem bs_step (n a : Nat) : ∀ k, bs (n + 1) a (k + 1) = bs n a (k + 1) + a * bs n a k
  | 0 => by cases n <;> simp [bs, ch]
  | k + 1 => by
    have ih := bs_step n a k
    have e1 : bs (n + 1) a (k + 1 + 1) = bs (n + 1) a (k + 1) + (ch n k + ch n (k + 1)) * a ^ (k + 1) := rfl
    have e2 : bs n a (k + 1 + 1) = bs n a (k + 1) + ch n (k + 1) * a ^ (k + 1) := rfl
    have e3 : bs n a (k + 1) = bs n a k + ch n k * a ^ k := rfl
    have e4 : a * (ch n k * a ^ k) = ch n k * a ^ (k + 1) := by rw [Nat.pow_succ, Nat.mul_left_comm, Nat.mul_comm a]
    have e5 : a * bs n a (k + 1) = a * bs n a k + ch n k * a ^ (k + 1) := by rw [e3, Nat.mul_add, e4]
    rw [e1, ih, e2, Nat.add_mul, e5]
    omega
theorem bs_pow (a : Nat) : ∀ n, (a + 1) ^ n = bs n a (n + 1)
  | 0 => by simp [bs, ch]
  | n + 1 => by
    have ih := bs_pow a n
    have e : bs n a (n + 1 + 1) = bs n a (n + 1) := by rw [bs, ch_gt n (n + 1) (by omega)]; simp
    rw [Nat.pow_succ, ih, bs_step, e, Nat.mul_add, Nat.mul_one, Nat.mul_comm]
    omega
theorem ch_dvd {p : Nat} (hp : Pr p) (k : Nat) (h1 : 0 < k) (h2 : k < p) : p ∣ ch p k := by
  obtain ⟨q, rfl⟩ : ∃ q, p = q + 1 := ⟨p - 1, by have := hp.1; omega⟩
  obtain ⟨j, rfl⟩ : ∃ j, k = j + 1 := ⟨k - 1, by omega⟩
  have h := ch_mul q j
  rcases pr_dvd hp (show q + 1 ∣ (j + 1) * ch (q + 1) (j + 1) from ⟨_, h⟩) with h3 | h3
  · exact absurd (Nat.le_of_dvd (by omega) h3) (by omega)
  · exact h3
theorem bs_mod {p : Nat} (hp : Pr p) (a : Nat) : ∀ k, k < p → bs p a (k + 1) % p = 1
  | 0, _ => by
    have h2 := hp.1
    rw [bs, bs]
    simp only [ch, Nat.pow_zero]
    exact Nat.mod_eq_of_lt (by omega)
  | k + 1, h => by
    have ih := bs_mod hp a k (by omega)
    obtain ⟨c, hc⟩ := ch_dvd hp (k + 1) (by omega) h
    have e : bs p a (k + 1 + 1) = bs p a (k + 1) + ch p (k + 1) * a ^ (k + 1) := rfl
    rw [e, hc, Nat.mul_assoc, Nat.add_mul_mod_self_left]
    exact ih
theorem pow_succ_mod {p : Nat} (hp : Pr p) (a : Nat) : (a + 1) ^ p % p = (a ^ p + 1) % p := by
  have h2 := hp.1
  obtain ⟨q, hq⟩ : ∃ q, p = q + 1 := ⟨p - 1, by omega⟩
  have h := bs_mod hp a q (by omega)
  rw [← hq] at h
  have e : bs p a (p + 1) = bs p a p + ch p p * a ^ p := rfl
  rw [bs_pow, e, ch_self, Nat.one_mul, Nat.add_mod, h, Nat.add_comm, ← Nat.add_mod_mod, Nat.mod_eq_of_lt (show 1 < p by omega), Nat.mod_add_mod]
theorem fermat0 {p : Nat} (hp : Pr p) : ∀ a, a ^ p % p = a % p
  | 0 => by rw [Nat.zero_pow (by have := hp.1; omega)]
  | a + 1 => by rw [pow_succ_mod hp, Nat.add_mod, fermat0 hp a, ← Nat.add_mod]
theorem fermat {p : Nat} (hp : Pr p) (a : Nat) (h : ¬ p ∣ a) : a ^ (p - 1) % p = 1 := by
  have h2 := hp.1
  have h0 := fermat0 hp a
  obtain ⟨q, rfl⟩ : ∃ q, p = q + 1 := ⟨p - 1, by omega⟩
  rw [Nat.add_sub_cancel]
  have ha : 0 < a := Nat.pos_of_ne_zero fun e => h (e ▸ Nat.dvd_zero _)
  have hpos : 0 < a ^ q := Nat.pow_pos ha
  have hd : q + 1 ∣ a * (a ^ q - 1) := by
    have h1 := Nat.sub_mod_eq_zero_of_mod_eq h0
    rw [Nat.pow_succ, Nat.mul_comm] at h1
    rw [Nat.mul_sub, Nat.mul_one]
    exact Nat.dvd_of_mod_eq_zero h1
  rcases pr_dvd hp hd with h3 | h3
  · exact absurd h3 h
  · obtain ⟨c, hc⟩ := h3
    rw [show a ^ q = 1 + (q + 1) * c by omega, Nat.add_mul_mod_self_left]
    exact Nat.mod_eq_of_lt (by omega)
theorem pw_gcd {r c : Nat} (hr : 2 ≤ r) : ∀ m n, c ^ m % r = 1 → c ^ n % r = 1 → c ^ Nat.gcd m n % r = 1 := fun m n => by
  refine Nat.gcd.induction (P := fun m n => c ^ m % r = 1 → c ^ n % r = 1 → c ^ Nat.gcd m n % r = 1) m n ?_ ?_
  · intro n _ h
    rw [Nat.gcd_zero_left]; exact h
  · intro m n _ ih h1 h2
    rw [Nat.gcd_rec]
    refine ih ?_ h1
    have e : c ^ n = (c ^ m) ^ (n / m) * c ^ (n % m) := by rw [← Nat.pow_mul, ← Nat.pow_add, Nat.div_add_mod]
    rw [e, Nat.mul_mod, Nat.pow_mod, h1, Nat.one_pow, Nat.mod_eq_of_lt (show 1 < r by omega), Nat.one_mul, Nat.mod_mod] at h2
    exact h2
theorem pock_dvd {q A N r : Nat} (hq : Pr q) (hN : N = q * A + 1) (h1 : 2 ^ (q * A) % N = 1) (hg : Nat.gcd (2 ^ A % N + (N - 1)) N = 1) (hr : Pr r) (hd : r ∣ N) : q ∣ r - 1 := by
  have hr2 := hr.1
  have hq2 := hq.1
  obtain ⟨c, hc⟩ : ∃ c, c = 2 ^ A := ⟨_, rfl⟩
  have e1 : c ^ q % r = 1 := by
    rw [hc, ← Nat.pow_mul, Nat.mul_comm, ← Nat.mod_mod_of_dvd _ hd, h1, Nat.mod_eq_of_lt (by omega)]
  have hne : c % r ≠ 1 := fun h => by
    have h3 : r ∣ 2 ^ A % N + (N - 1) := by
      apply Nat.dvd_of_mod_eq_zero
      have h5 : 2 ^ A % N % r = 1 := by rw [Nat.mod_mod_of_dvd _ hd, ← hc]; exact h
      have h4 : (1 + (N - 1)) % r = 0 := by rw [show 1 + (N - 1) = N by omega]; exact Nat.mod_eq_zero_of_dvd hd
      rw [← Nat.mod_add_mod, h5]
      exact h4
    have h5 := Nat.dvd_gcd h3 hd
    rw [hg] at h5
    have := Nat.le_of_dvd (by omega) h5
    omega
  have hnd : ¬ r ∣ c := fun h => by
    have h3 : c ^ q % r = 0 := by rw [Nat.pow_mod, Nat.mod_eq_zero_of_dvd h, Nat.zero_pow (by omega)]; exact Nat.zero_mod r
    omega
  have e2 := fermat hr c hnd
  apply Classical.byContradiction
  intro hn
  have h3 := pw_gcd hr2 q (r - 1) e1 e2
  rw [pr_cop hq hn, Nat.pow_one] at h3
  exact hne h3
theorem pock {q A N : Nat} (hq : Pr q) (hN : N = q * A + 1) (hN2 : 2 ≤ N) (h1 : 2 ^ (q * A) % N = 1) (hg : Nat.gcd (2 ^ A % N + (N - 1)) N = 1) (hB : A / q = 0 ∨ A / q + 1 < A % q) : Pr N := by
  have hq2 := hq.1
  obtain ⟨r, hr, hd⟩ := pr_ex N hN2
  obtain ⟨s, hs⟩ := pock_dvd hq hN h1 hg hr hd
  have hr2 := hr.1
  have hrs : r = q * s + 1 := by omega
  obtain ⟨m, hm⟩ := hd
  have e : q * A + 1 = q * (s * m) + m := by
    rw [← hN, hm, hrs, Nat.add_mul, Nat.one_mul, Nat.mul_assoc]
  have hle : s * m ≤ A := by
    apply Nat.le_of_not_lt
    intro h
    have h2 : q * (A + 1) ≤ q * (s * m) := Nat.mul_le_mul_left q h
    rw [Nat.mul_add] at h2
    omega
  obtain ⟨t, ht⟩ : ∃ t, A = s * m + t := ⟨A - s * m, by omega⟩
  have hmt : m = q * t + 1 := by rw [ht, Nat.mul_add] at e; omega
  by_cases ht0 : t = 0
  · rw [ht0, Nat.mul_zero, Nat.zero_add] at hmt
    rw [hm, hmt, Nat.mul_one]; exact hr
  · exfalso
    have hs0 : s ≠ 0 := fun h => by rw [h, Nat.mul_zero] at hrs; omega
    have eA : A = (s + t) + q * (s * t) := by
      rw [ht, hmt, Nat.mul_add, Nat.mul_one, Nat.mul_left_comm]; omega
    have hst : s + t ≤ s * t + 1 := by
      obtain ⟨s', rfl⟩ : ∃ s', s = s' + 1 := ⟨s - 1, by omega⟩
      obtain ⟨t', rfl⟩ : ∃ t', t = t' + 1 := ⟨t - 1, by omega⟩
      rw [Nat.add_mul, Nat.mul_add]
      omega
    have hpos : 0 < s * t := Nat.mul_pos (Nat.pos_of_ne_zero hs0) (Nat.pos_of_ne_zero ht0)
    have hdiv : A / q = (s + t) / q + s * t := by rw [eA, Nat.add_mul_div_left _ _ (by omega)]
    have hmod : A % q = (s + t) % q := by rw [eA, Nat.add_mul_mod_self_left]
    have hlt : A % q < q := Nat.mod_lt _ (by omega)
    generalize (s + t) / q = z1 at hdiv
    generalize A / q = z2 at hdiv hB
    generalize A % q = z3 at hmod hB hlt
    generalize s * t = z4 at hst hpos hdiv
    rcases hB with h | h
    · omega
    · have h3 : s + t < q := by omega
      rw [Nat.mod_eq_of_lt h3] at hmod
      omega
theorem pr_trial (n k : Nat) (h2 : 2 ≤ n) (hk : n < k * k) (h : ∀ d, d < k → 2 ≤ d → n % d ≠ 0) : Pr n := by
  refine ⟨h2, fun d hd => ?_⟩
  apply Classical.byContradiction
  intro hn
  obtain ⟨e, he⟩ := hd
  have hd0 : d ≠ 0 := fun h => by rw [h, Nat.zero_mul] at he; omega
  have hd1 : d ≠ 1 := fun h => hn (.inl h)
  have he0 : e ≠ 0 := fun h => by rw [h, Nat.mul_zero] at he; omega
  have he1 : e ≠ 1 := fun h => hn (.inr (by rw [he, h, Nat.mul_one]))
  by_cases hdk : d < k
  · exact h d hdk (by omega) (by rw [he]; exact Nat.mul_mod_right d e)
  · by_cases hek : e < k
    · exact h e hek (by omega) (by rw [he]; exact Nat.mul_mod_left d e)
    · have := Nat.mul_le_mul (Nat.le_of_not_lt hdk) (Nat.le_of_not_lt hek)
      omega
theorem two_pow {N E : Nat} (k : Nat) (hk : E < 256 ^ k) : 2 ^ E % N = pm N 2 ((List.range k).map fun j => E / 256 ^ j % 256) := by
  rw [pm_eq, leV_mod, Nat.mod_eq_of_lt hk]
theorem pockD {q A N : Nat} (k l : Nat) (hq : Pr q) (hN : N = q * A + 1) (hN2 : 2 ≤ N) (hk : N < 256 ^ k) (hl : A < 256 ^ l) (h1 : pm N 2 ((List.range k).map fun j => (N - 1) / 256 ^ j % 256) = 1) (hg : Nat.gcd (pm N 2 ((List.range l).map fun j => A / 256 ^ j % 256) + (N - 1)) N = 1) (hB : A / q = 0 ∨ A / q + 1 < A % q) : Pr N := by
  refine pock hq hN hN2 ?_ ?_ hB
  · rw [show q * A = N - 1 by omega, two_pow k (by omega)]; exact h1
  · rw [two_pow l hl]; exact hg
theorem prime1 : Pr 991 := pr_trial 991 32 (by decide) (by decide) (by decide)
theorem prime2 : Pr 8574133 := pockD (A := 8652) 3 3 prime1 (by decide) (by decide) (by decide) (by decide) (by decide) (by decide) (by decide)
theorem prime3 : Pr 1919519569386763 := pockD (A := 223873314) 7 4 prime2 (by decide) (by decide) (by decide) (by decide) (by decide) (by decide) (by decide)
theorem prime4 : Pr 75445702479781427272750846543864801 := pockD (A := 39304471641247389600) 15 9 prime3 (by decide) (by decide) (by decide) (by decide) (by decide) (by decide) (by decide)
theorem prime5 : Pr 74058212732561358302231226437062788676166966415465897661863160754340907 := pockD (A := 981609426360740691344999861639072106) 30 15 prime4 (by decide) (by decide) (by decide) (by decide) (by decide) (by decide) (by decide)
theorem prime6 : Pr PN := pockD (A := 781764) 32 3 prime5 (by decide) (by decide) (by decide) (by decide) (by decide) (by decide) (by decide)
theorem fermatP (a : Nat) (h : a % PN ≠ 0) : a ^ (PN - 1) % PN = 1 := fermat prime6 a fun hd => h (Nat.mod_eq_zero_of_dvd hd)
end Go.Proofs.Ytbeokfpbhemcfaa
/-
  Plain: points as four numbers modulo p.
-/
namespace Go.Proofs.Ytbeokfpbhemcfaa
set_option linter.unusedSimpArgs false
set_option linter.unusedVariables false
open Go.RowKit

structure PtN where
  x : Nat
  y : Nat
  z : Nat
  t : Nat
deriving DecidableEq
def sN (a b : Nat) : Nat := (a + b) % PN
def uN (a b : Nat) : Nat := (a + (PN - b % PN)) % PN
def mN (a b : Nat) : Nat := a * b % PN
theorem uN_sm (a b : Nat) : Sm (uN a b + b) a := by
  unfold Sm uN
  simp only [PN]
  omega
def Rp (x : E5) (n : Nat) : Prop := Sm x.val n
theorem Rp.add {x y : E5} {a b : Nat} (h : Rp x a) (k : Rp y b) : Rp (addE x y) (sN a b) := (sm_add x y).trans (Sm.trans (Sm.add h k) (show Sm (a + b) (sN a b) from (Nat.mod_mod _ _).symm))
theorem Rp.mul {x y : E5} {a b : Nat} (h : Rp x a) (k : Rp y b) : Rp (mulE x y) (mN a b) := (sm_mul x y).trans (Sm.trans (Sm.mul h k) (show Sm (a * b) (mN a b) from (Nat.mod_mod _ _).symm))
theorem Rp.sub {x y : E5} {a b : Nat} (hy : y.Ok) (h : Rp x a) (k : Rp y b) : Rp (subE x y) (uN a b) := by
  refine Sm.back (c := b) ?_
  exact (((Sm.refl _).add k.symm).trans (sm_sub hy)).trans (h.trans (uN_sm a b).symm)
def sumN (p q : PtN) (w : Nat) : PtN :=
  let a := mN (uN p.y p.x) (uN q.y q.x)
  let b := mN (sN p.y p.x) (sN q.y q.x)
  let c := mN (mN p.t w) q.t
  let z := mN p.z q.z
  let e := uN b a
  let h := sN b a
  let f := uN (sN z z) c
  let g := sN (sN z z) c
  ⟨mN e f, mN g h, mN f g, mN e h⟩
structure Rep (p : Pt4) (n : PtN) : Prop where
  x : Rp p.x n.x
  y : Rp p.y n.y
  z : Rp p.z n.z
  t : Rp p.t n.t
theorem Rep.sum {p q : Pt4} {tw : E5} {m n : PtN} {w : Nat} (hp : p.Ok) (hq : q.Ok) (hw : tw.Ok) (h : Rep p m) (k : Rep q n) (l : Rp tw w) : Rep (sumP p q tw) (sumN m n w) := by
  have okA := mul_ok (sub_ok hp.y hp.x) (sub_ok hq.y hq.x)
  have okC := mul_ok (mul_ok hp.t hw) hq.t
  have a := (h.y.sub hp.x h.x).mul (k.y.sub hq.x k.x)
  have b := (h.y.add h.x).mul (k.y.add k.x)
  have c := (h.t.mul l).mul k.t
  have z := h.z.mul k.z
  have e := b.sub okA a
  have hh := b.add a
  have f := (z.add z).sub okC c
  have g := (z.add z).add c
  exact ⟨e.mul f, g.mul hh, f.mul g, e.mul hh⟩
def eqN (p q : PtN) : Bool := decide (mN p.x q.z = mN q.x p.z) && decide (mN p.y q.z = mN q.y p.z)
theorem eqB_rp {x y : E5} {a b : Nat} (hx : x.Ok) (hy : y.Ok) (h : Rp x a) (k : Rp y b) : eqB x y = decide (a % PN = b % PN) := by
  rw [eqB, eqE hx.big hy.big, show x.val % PN = a % PN from h, show y.val % PN = b % PN from k]
theorem eqB_mul {x y u v : E5} {a b c d : Nat} (hx : x.Ok) (hy : y.Ok) (hu : u.Ok) (hv : v.Ok) (h : Rp x a) (k : Rp y b) (l : Rp u c) (m : Rp v d) : eqB (mulE x y) (mulE u v) = decide (mN a b = mN c d) := by
  rw [eqB_rp (mul_ok hx hy) (mul_ok hu hv) (h.mul k) (l.mul m)]
  exact decide_eq_decide.mpr (by rw [mN, mN, Nat.mod_mod, Nat.mod_mod])
theorem eqP_rep {p q : Pt4} {m n : PtN} (hp : p.Ok) (hq : q.Ok) (h : Rep p m) (k : Rep q n) : eqP p q = eqN m n := by
  rw [eqP, eqN, eqB_mul hp.x hq.z hq.x hp.z h.x k.z k.x h.z, eqB_mul hp.y hq.z hq.y hp.z h.y k.z k.y h.z]
/-- the numbers of the curve's constants -/
def dN : Nat := 37095705934669439343138083508754565189542113879843219016388785533085940283555
def bxN : Nat := 15112221349535400772501151409588531511454012693041857206046113283949847762202
def byNN : Nat := 46316835694926478169428394003475163141307993866256225615783033603165251855960
theorem known_val {l : List Nat} {n : Nat} (h1 : mayR (toB (revS l 16)) = true) (h2 : leV (digs (toB (revS l 16))) = n) (h3 : n < 2 ^ 255) : (knownE l).val = n := by
  rw [knownE, readE, if_pos h1, ofN_val, h2, Nat.mod_eq_of_lt h3]
theorem dE_val : dE.val = dN := known_val (by decide) (by decide) (by decide)
theorem bx_val : (knownE bxL).val = bxN := known_val (by decide) (by decide) (by decide)
theorem by_val : (knownE byL).val = byNN := known_val (by decide) (by decide) (by decide)
def pmSN (T : Nat) (p out : PtN) (bit : Nat) : PtN := if bit = 1 then sumN (sumN out out T) p T else sumN out out T
def pmBN (T : Nat) (p out : PtN) (b : Nat) : Nat → PtN
  | 0 => out
  | j + 1 => pmSN T p (pmBN T p out b j) (b / 2 ^ (7 - j) % 2)
def zeroN : PtN := ⟨0, 1, 1, 0⟩
def pmLN (T : Nat) (p : PtN) (l : List Nat) : Nat → PtN
  | 0 => zeroN
  | j + 1 => pmBN T p (pmLN T p l j) (l.getD (l.length - 1 - j) 0) 8
theorem rp_nat (n : Nat) : Rp (natE n) n := by rw [Rp, natE_val]; exact Sm.refl n
theorem rp_int (n : Nat) : Rp (intE (n : Int)) n := by rw [intE_nat]; exact rp_nat n
theorem rep_of {x y : E5} {a b : Nat} (h : Rp x a) (k : Rp y b) : Rep (ofP x y) ⟨a, b, 1, mN a b⟩ := ⟨h, k, rp_int 1, h.mul k⟩
theorem rep_zero : Rep zeroP zeroN := rep_of (rp_int 0) (rp_int 1)
section
variable {T : E5} {w : Nat} {p out : Pt4} {m n : PtN} (hT : T.Ok) (hw : Rp T w) (hp : p.Ok) (h : Rep p m)
include hT hw hp h
theorem rep_S (ho : out.Ok) (k : Rep out n) (bit : Nat) : Rep (pmS T p out bit) (pmSN w m n bit) := by
  unfold pmS pmSN
  split
  · exact Rep.sum (sumP_ok ho ho hT) hp hT (Rep.sum ho ho hT k k hw) h hw
  · exact Rep.sum ho ho hT k k hw
theorem rep_B (ho : out.Ok) (k : Rep out n) (b : Nat) : ∀ j, Rep (pmB T p out b j) (pmBN w m n b j)
  | 0 => k
  | j + 1 => rep_S hT hw hp h (pmB_ok hT hp ho b j) (rep_B ho k b j) _
theorem rep_L (l : List Nat) : ∀ j, Rep (pmL T p l j) (pmLN w m l j)
  | 0 => rep_zero
  | j + 1 => rep_B hT hw hp h (pmL_ok hT hp l j) (rep_L l j) _ 8
end
def d2N : Nat := sN dN dN
theorem rp_d2 : Rp (addE dE dE) d2N := by
  have h : Rp dE dN := by rw [Rp, dE_val]; exact Sm.refl _
  exact h.add h
def baseN : PtN := ⟨bxN, byNN, 1, mN bxN byNN⟩
theorem rep_base : Rep baseP baseN := rep_of (by rw [Rp, bx_val]; exact Sm.refl _) (by rw [Rp, by_val]; exact Sm.refl _)
def mulN (p : PtN) (l : List UInt8) : PtN := pmLN d2N p (digs (l.take 32)) (min l.length 32)
theorem rep_mul {p : Pt4} {m : PtN} (hp : p.Ok) (h : Rep p m) (l : List UInt8) : Rep (mulP p l) (mulN m l) := rep_L d2_ok rp_d2 hp h _ _
theorem base_one : eqP (mulP baseP [1]) baseP = true := by
  rw [eqP_rep (mulP_ok baseP_ok _) baseP_ok (rep_mul baseP_ok rep_base _) rep_base]
  decide
theorem base_zero : eqP baseP zeroP = false := by
  rw [eqP_rep baseP_ok zeroP_ok rep_base rep_zero]
  decide
end Go.Proofs.Ytbeokfpbhemcfaa
/-
  Walk: the law's lives.
-/
namespace Go.Proofs.Ytbeokfpbhemcfaa
set_option linter.unusedSimpArgs false
set_option linter.unusedVariables false
open Go.RowKit

theorem one_val : (intE 1).val = 1 := by rw [show intE 1 = natE 1 from intE_nat 1, natE_val]
theorem mul_inv_one (x : E5) : Sm (mulE x (invE (intE 1))).val x.val := by
  have h : Sm (invE (intE 1)).val 1 := by
    show (invE (intE 1)).val % PN = 1 % PN
    rw [invE_val, one_val, Nat.one_pow]
  exact (sm_mul _ _).trans (((Sm.refl _).mul h).trans (Sm.of (Nat.mul_one _)))
theorem ofP_x (x y : E5) : (ofP x y).x = x := rfl
theorem ofP_y (x y : E5) : (ofP x y).y = y := rfl
theorem ofP_z (x y : E5) : (ofP x y).z = intE 1 := rfl
theorem baseP_z : baseP.z = intE 1 := by rw [baseP, ofP_z]
theorem baseP_x : baseP.x = knownE bxL := by rw [baseP, ofP_x]
theorem baseP_y : baseP.y = knownE byL := by rw [baseP, ofP_y]
theorem bytP_base : bytP baseP = byN byNN := by
  have hy : (leastE (mulE baseP.y (invE baseP.z))).val = byNN := by
    rw [least_val (mul_ok baseP_ok.y (invE_ok baseP_ok.z)).big]
    rw [baseP_z]
    have h : (mulE baseP.y (invE (intE 1))).val % PN = baseP.y.val % PN := mul_inv_one baseP.y
    rw [h, baseP_y, by_val]
    decide
  have hx : oddP baseP = false := by
    rw [oddP, baseP_z]
    have h : (mulE baseP.x (invE (intE 1))).val % PN = baseP.x.val % PN := mul_inv_one baseP.x
    rw [h, baseP_x, bx_val]
    decide
  rw [bytP, hy, hx]
  rfl
theorem base_b0 : (byN byNN)[0]? = some 88 := by decide
theorem base_b1 : (byN byNN)[1]? = some 102 := by decide
theorem base_b31 : (byN byNN)[31]? = some 102 := by decide
set_option maxRecDepth 100000 in
set_option maxHeartbeats 2000000 in
theorem clives_any (w : World) : Calls Try.prog 18 #[] w (BoolPost true w) := by
  obtain ⟨B, hB⟩ : ∃ B, B = baseP := ⟨_, rfl⟩
  obtain ⟨Z, hZ⟩ : ∃ Z, Z = zeroP := ⟨_, rfl⟩
  obtain ⟨M, hM⟩ : ∃ M, M = mulP B [1] := ⟨_, rfl⟩
  have okB : B.Ok := by rw [hB]; exact baseP_ok
  have okZ : Z.Ok := by rw [hZ]; exact zeroP_ok
  have okM : M.Ok := by rw [hM]; exact mulP_ok okB _
  have CB := Lib.hid (show ∀ u, Calls Try.prog 10 #[] u (PtPost B u) from fun u => by rw [hB]; exact base_any u)
  have CZ := Lib.hid (show ∀ u, Calls Try.prog 26 #[] u (PtPost Z u) from fun u => by rw [hZ]; exact zero_any u)
  have CM := Lib.hid (show ∀ u A, Rd u u.heap.size A (bytesV [1]) → Calls Try.prog 11 #[.agg (ptV B), .slice A 1 1] u (PtPost M u) from fun u A h => by rw [hM]; exact pmul_any B okB [1] A 1 u h (Nat.le_refl _))
  have CE := Lib.hid (show ∀ u, Calls Try.prog 22 #[.agg (ptV M), .agg (ptV B)] u (BoolPost true u) from fun u => by
    have h := pequal_any M B u okM okB
    rw [show eqP M B = true by rw [hM, hB]; exact base_one] at h
    exact h)
  have CN := Lib.hid (show ∀ u, Calls Try.prog 22 #[.agg (ptV B), .agg (ptV Z)] u (BoolPost false u) from fun u => by
    have h := pequal_any B Z u okB okZ
    rw [show eqP B Z = false by rw [hB, hZ]; exact base_zero] at h
    exact h)
  have CP := Lib.hid (show ∀ u, Calls Try.prog 14 #[.agg (ptV B)] u (PbyPost B u) from fun u => pbytes_any B okB u)
  have HBY := Lib.hid (show bytP B = byN byNN by rw [hB]; exact bytP_base)
  clear hB hZ hM okB okZ okM
  go_enter Try.func18, Try.ntmps18
  go_wp2_with fail
  refine calls_then (CB.out _) ?_
  rintro e w1 ⟨rfl, hb1⟩
  have HB1 := Lib.hid hb1
  clear hb1
  go_wp2_with fail
  refine calls_then (CP.out _) ?_
  rintro e w2 ⟨o, rfl, hlo, hblk, hb2⟩
  rw [HBY.out] at hblk
  have HB2 := Lib.hid (HB1.out.trans (hb2.mono HB1.out.size))
  have d0 := hblk.cell 0
  rw [bnV_at base_b0] at d0
  have d1 := hblk.cell 1
  rw [bnV_at base_b1] at d1
  have d31 := hblk.cell 31
  rw [bnV_at base_b31] at d31
  clear hb2 hlo hblk HB1
  go_wp2_with fail
  refine calls_then (CB.out _) ?_
  rintro e w3 ⟨rfl, hb3⟩
  have HB3 := Lib.hid (HB2.out.trans (hb3.mono HB2.out.size))
  clear hb3 d0 d1 d31 HB2
  have hnew := Blk.new w3 5 (bytesV [1]).toArray
  have HB4 := Lib.hid (HB3.out.alloc HB3.out.size (.cells (bytesV [1]).toArray 5))
  have HCM := Lib.hid (CM.out (w3.alloc (.cells (bytesV [1]).toArray 5)) (some ⟨w3.heap.size, 0, none⟩) (Rd.of_blk hnew hnew.lt))
  clear hnew
  go_wp2_with fail
  refine calls_then HCM.out ?_
  rintro e w4 ⟨rfl, hb4⟩
  have HB5 := Lib.hid (HB4.out.trans (hb4.mono HB4.out.size))
  clear hb4 HCM HB4 HB3
  go_wp2_with fail
  refine calls_then (CB.out _) ?_
  rintro e w5 ⟨rfl, hb5⟩
  have HB6 := Lib.hid (HB5.out.trans (hb5.mono HB5.out.size))
  clear hb5 HB5
  go_wp2_with fail
  refine calls_then (CE.out _) ?_
  rintro e w6 ⟨rfl, hb6⟩
  have HB7 := Lib.hid (HB6.out.trans (hb6.mono HB6.out.size))
  clear hb6 HB6
  go_wp2_with fail
  refine calls_then (CB.out _) ?_
  rintro e w7 ⟨rfl, hb7⟩
  have HB8 := Lib.hid (HB7.out.trans (hb7.mono HB7.out.size))
  clear hb7 HB7
  go_wp2_with fail
  refine calls_then (CZ.out _) ?_
  rintro e w8 ⟨rfl, hb8⟩
  have HB9 := Lib.hid (HB8.out.trans (hb8.mono HB8.out.size))
  clear hb8 HB8
  go_wp2_with fail
  refine calls_then (CN.out _) ?_
  rintro e w9 ⟨rfl, hb9⟩
  have HB10 := Lib.hid (HB9.out.trans (hb9.mono HB9.out.size))
  clear hb9 HB9
  go_wp2_with fail
  go_ret
  exact ⟨rfl, HB10.out⟩
end Go.Proofs.Ytbeokfpbhemcfaa
/-
  The law CurveNeg: plain, and its walk.
-/
namespace Go.Proofs.Ytbeokfpbhemcfaa
set_option linter.unusedSimpArgs false
set_option linter.unusedVariables false
open Go.RowKit

theorem pn_dvd {a b : Nat} (h : a * b % PN = 0) : a % PN = 0 ∨ b % PN = 0 := by
  rcases pr_dvd prime6 (Nat.dvd_of_mod_eq_zero h) with h1 | h1
  · exact .inl (Nat.mod_eq_zero_of_dvd h1)
  · exact .inr (Nat.mod_eq_zero_of_dvd h1)
theorem mul_zero_mod {a b : Nat} (h : a % PN = 0 ∨ b % PN = 0) : a * b % PN = 0 := by
  rcases h with h | h
  · rw [Nat.mul_mod, h, Nat.zero_mul, Nat.zero_mod]
  · rw [Nat.mul_mod, h, Nat.mul_zero, Nat.zero_mod]
theorem pow_zero_mod {a : Nat} : ∀ n, a ^ n % PN = 0 → a % PN = 0
  | 0, h => by rw [Nat.pow_zero] at h; exact absurd h (by decide)
  | n + 1, h => by
    rw [Nat.pow_succ] at h
    rcases pn_dvd h with h1 | h1
    · exact pow_zero_mod n h1
    · exact h1
theorem inv_zero_iff (z : E5) : (invE z).val % PN = 0 ↔ z.val % PN = 0 := by
  rw [invE_val]
  constructor
  · exact pow_zero_mod _
  · intro h
    rw [Nat.pow_mod, h, Nat.zero_pow (by decide)]
    rfl
/-- a point's x, reckoned -/
def axN (p : Pt4) : Nat := (mulE p.x (invE p.z)).val % PN
theorem axN_zero (p : Pt4) : axN p = 0 ↔ p.x.val * p.z.val % PN = 0 := by
  have h : axN p = p.x.val * (invE p.z).val % PN := mul_val _ _
  rw [h]
  constructor
  · intro h
    rcases pn_dvd h with h1 | h1
    · exact mul_zero_mod (.inl h1)
    · exact mul_zero_mod (.inr ((inv_zero_iff _).1 h1))
  · intro h
    rcases pn_dvd h with h1 | h1
    · exact mul_zero_mod (.inl h1)
    · exact mul_zero_mod (.inr ((inv_zero_iff _).2 h1))
theorem sm_neg {x : E5} (hx : x.Ok) : Sm ((subE zE x).val + x.val) 0 := sm_sub hx
theorem axN_neg {p : Pt4} (hp : p.Ok) : (axN (negP p) + axN p) % PN = 0 := by
  have h1 : Sm (mulE (subE zE p.x) (invE p.z)).val ((subE zE p.x).val * (invE p.z).val) := sm_mul _ _
  have h2 : Sm (mulE p.x (invE p.z)).val (p.x.val * (invE p.z).val) := sm_mul _ _
  have h3 : Sm ((mulE (subE zE p.x) (invE p.z)).val + (mulE p.x (invE p.z)).val) (((subE zE p.x).val + p.x.val) * (invE p.z).val) := (h1.add h2).trans (Sm.of (Nat.add_mul _ _ _).symm)
  have h4 : Sm (((subE zE p.x).val + p.x.val) * (invE p.z).val) (0 * (invE p.z).val) := (sm_neg hp.x).mul (Sm.refl _)
  rw [Nat.zero_mul] at h4
  have h5 := h3.trans h4
  show ((mulE (subE zE p.x) (invE p.z)).val % PN + (mulE p.x (invE p.z)).val % PN) % PN = 0
  rw [← Nat.add_mod]
  exact h5
theorem oddP_ax (p : Pt4) : oddP p = decide (axN p % 2 = 1) := rfl
theorem two_sum {P a b : Nat} (ha : a < P) (hb : b < P) (h : (b + a) % P = 0) : b + a = 0 ∨ b + a = P := by
  by_cases hlt : b + a < P
  · rw [Nat.mod_eq_of_lt hlt] at h; exact .inl h
  · rw [Nat.mod_eq_sub_mod (Nat.le_of_not_lt hlt), Nat.mod_eq_of_lt (by omega)] at h
    omega
theorem half_zero' {P a b : Nat} (hP : 0 < P) (ho : P % 2 = 1) (h : (b + a) % P = 0) : (a % P = b % P) ↔ a % P = 0 := by
  have ha := Nat.mod_lt a hP
  have hb := Nat.mod_lt b hP
  rw [Nat.add_mod] at h
  generalize a % P = a' at *
  generalize b % P = b' at *
  have := two_sum ha hb h
  omega
theorem half_zero {a b : Nat} (h : (b + a) % PN = 0 % PN) : (a % PN = b % PN) ↔ a % PN = 0 :=
  half_zero' (by decide) (by decide) (h.trans (Nat.zero_mod _))
theorem eqP_neg {p : Pt4} (hp : p.Ok) : eqP p (negP p) = decide (axN p = 0) := by
  have e2 : eqB (mulE p.y (negP p).z) (mulE (negP p).y p.z) = true := by
    show eqB (mulE p.y p.z) (mulE p.y p.z) = true
    generalize mulE p.y p.z = v
    exact beq_self_eq_true (limbs (leastE v))
  have h1 : Sm (mulE p.x p.z).val (p.x.val * p.z.val) := sm_mul _ _
  have h2 : Sm (mulE (subE zE p.x) p.z).val ((subE zE p.x).val * p.z.val) := sm_mul _ _
  have h3 : Sm ((mulE (subE zE p.x) p.z).val + (mulE p.x p.z).val) 0 := by
    refine (h2.add h1).trans ?_
    refine (Sm.of (Nat.add_mul _ _ _).symm).trans ?_
    have h4 := (sm_neg hp.x).mul (Sm.refl p.z.val)
    rw [Nat.zero_mul] at h4
    exact h4
  rw [eqP, e2, Bool.and_true]
  show eqB (mulE p.x p.z) (mulE (subE zE p.x) p.z) = _
  rw [eqB, eqE (mul_ok hp.x hp.z).big (mul_ok (sub_ok zE_ok hp.x) hp.z).big]
  refine decide_eq_decide.mpr ?_
  rw [axN_zero]
  have h1' : (mulE p.x p.z).val % PN = p.x.val * p.z.val % PN := h1
  rw [← h1']
  exact half_zero h3
theorem xor_or : ∀ x, x < 128 → x ^^^ 128 = x ||| 128 := by decide
theorem or_xor : ∀ x, x < 128 → (x ||| 128) ^^^ 128 = x := by decide
theorem byN_top {V : Nat} (h : V < PN) : (byN V).getD 31 0 < 128 := by
  have e := byN_at V 31 (by decide)
  rw [List.getD_eq_getElem?_getD, e]
  show V / 256 ^ 31 % 256 < 128
  have h2 : V / 256 ^ 31 < 128 := Nat.div_lt_of_lt_mul (Nat.lt_trans h (by decide))
  omega
theorem set_self {l : List Nat} {k : Nat} (h : k < l.length) : l.set k (l.getD k 0) = l := by
  rw [List.getD_eq_getElem?_getD, List.getElem?_eq_getElem h]
  exact List.set_getElem_self h
/-- the y of a point and of its negative -/
def ayN (p : Pt4) : Nat := (leastE (mulE p.y (invE p.z))).val
theorem ayN_lt {p : Pt4} (hp : p.Ok) : ayN p < PN := by
  rw [ayN, least_val (mul_ok hp.y (invE_ok hp.z)).big]
  exact Nat.mod_lt _ (by decide)
theorem bytP_ax (p : Pt4) : bytP p = if oddP p then (byN (ayN p)).set 31 ((byN (ayN p)).getD 31 0 ||| 128) else byN (ayN p) := rfl
theorem ayN_neg (p : Pt4) : ayN (negP p) = ayN p := rfl
theorem neg_same {p : Pt4} (hp : p.Ok) (h : axN p = 0) : bytP (negP p) = bytP p := by
  have h1 := axN_neg hp
  rw [h, Nat.add_zero] at h1
  have h2 : axN (negP p) = 0 := by
    have h3 : axN (negP p) < PN := Nat.mod_lt _ (by decide)
    rwa [Nat.mod_eq_of_lt h3] at h1
  rw [bytP_ax, bytP_ax, ayN_neg, oddP_ax, oddP_ax, h, h2]
theorem odd_flip' {P a b : Nat} (ho : P % 2 = 1) (h : a ≠ 0) (h1 : (b + a) % P = 0) (ha : a < P) (hb : b < P) : b % 2 = 1 ↔ ¬ a % 2 = 1 := by
  have := two_sum ha hb h1
  omega
theorem odd_flip {a b : Nat} (h : a ≠ 0) (h1 : (b + a) % PN = 0) (ha : a < PN) (hb : b < PN) : b % 2 = 1 ↔ ¬ a % 2 = 1 :=
  odd_flip' (by decide) h h1 ha hb
theorem flip_list (L : List Nat) (hl : 31 < L.length) (hx : L.getD 31 0 < 128) (o : Bool) :
    (if o then L.set 31 (L.getD 31 0 ||| 128) else L).set 31 ((if o then L.set 31 (L.getD 31 0 ||| 128) else L).getD 31 0 ^^^ 128) = if !o then L.set 31 (L.getD 31 0 ||| 128) else L := by
  cases o
  · show L.set 31 (L.getD 31 0 ^^^ 128) = L.set 31 (L.getD 31 0 ||| 128)
    rw [xor_or _ hx]
  · show (L.set 31 (L.getD 31 0 ||| 128)).set 31 ((L.set 31 (L.getD 31 0 ||| 128)).getD 31 0 ^^^ 128) = L
    have e : (L.set 31 (L.getD 31 0 ||| 128)).getD 31 0 = L.getD 31 0 ||| 128 := by
      rw [List.getD_eq_getElem?_getD, List.getElem?_set_self hl]; rfl
    rw [e, or_xor _ hx, List.set_set, set_self hl]
theorem neg_flip {p : Pt4} (hp : p.Ok) (h : axN p ≠ 0) : (bytP p).set 31 ((bytP p).getD 31 0 ^^^ 128) = bytP (negP p) := by
  have h1 := axN_neg hp
  have ha : axN p < PN := Nat.mod_lt _ (by decide)
  have hb : axN (negP p) < PN := Nat.mod_lt _ (by decide)
  have hodd : oddP (negP p) = !oddP p := by
    rw [oddP_ax, oddP_ax, ← decide_not]
    exact decide_eq_decide.mpr (odd_flip h h1 ha hb)
  have hx := byN_top (ayN_lt hp)
  have hl : 31 < (byN (ayN p)).length := by rw [byN_length]; decide
  rw [bytP_ax, bytP_ax, ayN_neg, hodd]
  exact flip_list _ hl hx _
theorem bytP_dg (p : Pt4) : Dg (bytP p) := by
  rw [bytP_ax]
  split
  · exact dg_set (byN_lt _) _ _ (Nat.or_lt_two_pow (n := 8) (byN_31 _) (by decide))
  · exact byN_lt _
theorem bytP_length (p : Pt4) : (bytP p).length = 32 := by
  rw [bytP_ax]
  split
  · rw [List.length_set, byN_length]
  · exact byN_length _
end Go.Proofs.Ytbeokfpbhemcfaa
/-
  Plain: the points of a twisted curve go together under the sum, over any field of numbers modulo n.
-/
namespace Go.Proofs.Ytbeokfpbhemcfaa.Ed
set_option linter.unusedSimpArgs false
set_option linter.unusedVariables false
variable {n : Nat} [NeZero n]
/-- a field of numbers modulo n, in which -1 is a square and d is none -/
structure Fld (n : Nat) [NeZero n] (d : Fin n) (iv : Fin n → Fin n) : Prop where
  iv1 : ∀ a : Fin n, a ≠ 0 → a * iv a = 1
  one : (1 : Fin n) ≠ 0
  two : (2 : Fin n) ≠ 0
  i : ∃ i : Fin n, i * i = -1
  ns : ∀ w : Fin n, w * w ≠ d
theorem Fld.inv {d : Fin n} {iv : Fin n → Fin n} (F : Fld n d iv) (a : Fin n) (h : a ≠ 0) : ∃ b, a * b = 1 := ⟨iv a, F.iv1 a h⟩
theorem mul_ne {d : Fin n} {iv : Fin n → Fin n} (F : Fld n d iv) {a b : Fin n} (ha : a ≠ 0) (hb : b ≠ 0) : a * b ≠ 0 := by
  intro h
  obtain ⟨a', h1⟩ := F.inv a ha
  obtain ⟨b', h2⟩ := F.inv b hb
  apply F.one
  grind
theorem cancel {d : Fin n} {iv : Fin n → Fin n} (F : Fld n d iv) {a b c : Fin n} (hc : c ≠ 0) (h : a * c = b * c) : a = b := by
  obtain ⟨c', h1⟩ := F.inv c hc
  grind
/-- a pair is a point -/
def On (d x y : Fin n) : Prop := y * y - x * x = 1 + d * x * x * y * y
theorem no_sq {d : Fin n} {iv : Fin n → Fin n} (F : Fld n d iv) {u v : Fin n} (hv : v ≠ 0) (h : u * u = d * (v * v)) : False := by
  obtain ⟨v', h1⟩ := F.inv v hv
  apply F.ns (u * v')
  grind
theorem complete {d : Fin n} {iv : Fin n → Fin n} (F : Fld n d iv) {x1 y1 x2 y2 e : Fin n} (h1 : On d x1 y1) (h2 : On d x2 y2) (he : e * e = 1) (hk : d * x1 * x2 * y1 * y2 = e) : False := by
  obtain ⟨i, hi⟩ := F.i
  unfold On at h1 h2
  have he0 : e ≠ 0 := by intro h; apply F.one; grind
  have hx1 : x1 ≠ 0 := by intro h; apply he0; grind
  have hy1 : y1 ≠ 0 := by intro h; apply he0; grind
  have hy2 : y2 ≠ 0 := by intro h; apply he0; grind
  have a1 : (i * x1 + e * y1) * (i * x1 + e * y1) = d * ((x1 * y1 * (i * x2 + y2)) * (x1 * y1 * (i * x2 + y2))) := by grind
  have a2 : (i * x1 - e * y1) * (i * x1 - e * y1) = d * ((x1 * y1 * (i * x2 - y2)) * (x1 * y1 * (i * x2 - y2))) := by grind
  by_cases z1 : i * x2 + y2 = 0
  · by_cases z2 : i * x2 - y2 = 0
    · apply mul_ne F F.two hy2; grind
    · exact no_sq F (mul_ne F (mul_ne F hx1 hy1) z2) a2
  · exact no_sq F (mul_ne F (mul_ne F hx1 hy1) z1) a1
theorem den_p {d : Fin n} {iv : Fin n → Fin n} (F : Fld n d iv) {x1 y1 x2 y2 : Fin n} (h1 : On d x1 y1) (h2 : On d x2 y2) : 1 + d * x1 * x2 * y1 * y2 ≠ 0 := by
  intro h
  exact complete F h1 h2 (e := -1) (by grind) (by grind)
theorem den_m {d : Fin n} {iv : Fin n → Fin n} (F : Fld n d iv) {x1 y1 x2 y2 : Fin n} (h1 : On d x1 y1) (h2 : On d x2 y2) : 1 - d * x1 * x2 * y1 * y2 ≠ 0 := by
  intro h
  exact complete F h1 h2 (e := 1) (by grind) (by grind)
/-- a third pair is the sum of two -/
structure Sum (d x1 y1 x2 y2 x y : Fin n) : Prop where
  x : x * (1 + d * x1 * x2 * y1 * y2) = x1 * y2 + y1 * x2
  y : y * (1 - d * x1 * x2 * y1 * y2) = y1 * y2 + x1 * x2
theorem sum_ex {d : Fin n} {iv : Fin n → Fin n} (F : Fld n d iv) {x1 y1 x2 y2 : Fin n} (h1 : On d x1 y1) (h2 : On d x2 y2) : ∃ x y, Sum d x1 y1 x2 y2 x y := by
  obtain ⟨a, ha⟩ := F.inv _ (den_p F h1 h2)
  obtain ⟨b, hb⟩ := F.inv _ (den_m F h1 h2)
  exact ⟨(x1 * y2 + y1 * x2) * a, (y1 * y2 + x1 * x2) * b, by grind, by grind⟩
theorem on_key {d x1 y1 x2 y2 : Fin n} (h1 : y1 * y1 - x1 * x1 = 1 + d * x1 * x1 * y1 * y1) (h2 : y2 * y2 - x2 * x2 = 1 + d * x2 * x2 * y2 * y2) :
  (y1 * y2 + x1 * x2) * (y1 * y2 + x1 * x2) * ((1 + d * x1 * x2 * y1 * y2) * (1 + d * x1 * x2 * y1 * y2)) - (x1 * y2 + y1 * x2) * (x1 * y2 + y1 * x2) * ((1 - d * x1 * x2 * y1 * y2) * (1 - d * x1 * x2 * y1 * y2)) = (1 + d * x1 * x2 * y1 * y2) * (1 + d * x1 * x2 * y1 * y2) * ((1 - d * x1 * x2 * y1 * y2) * (1 - d * x1 * x2 * y1 * y2)) + d * (x1 * y2 + y1 * x2) * (x1 * y2 + y1 * x2) * (y1 * y2 + x1 * x2) * (y1 * y2 + x1 * x2) := by grind -lia
theorem sum_on {d : Fin n} {iv : Fin n → Fin n} (F : Fld n d iv) {x1 y1 x2 y2 x y : Fin n} (h1 : On d x1 y1) (h2 : On d x2 y2) (s : Sum d x1 y1 x2 y2 x y) : On d x y := by
  have p := den_p F h1 h2
  have m := den_m F h1 h2
  obtain ⟨sx, sy⟩ := s
  have key := on_key h1 h2
  unfold On
  generalize hk : d * x1 * x2 * y1 * y2 = k at *
  generalize hX : x1 * y2 + y1 * x2 = X at *
  generalize hY : y1 * y2 + x1 * x2 = Y at *
  refine cancel F (c := (1 + k) * (1 + k) * ((1 - k) * (1 - k))) (mul_ne F (mul_ne F p p) (mul_ne F m m)) ?_
  clear h1 h2 hk hX hY p m
  grind -lia
theorem assoc_x {d x1 y1 x2 y2 x3 y3 : Fin n}
  (e1 : On d x1 y1) (e2 : On d x2 y2) (e3 : On d x3 y3) :
  ((x1*y2+y1*x2)*(1 - d*x1*x2*y1*y2)*y3 + (y1*y2+x1*x2)*(1 + d*x1*x2*y1*y2)*x3) * ((1 - d*x2*x3*y2*y3)*(1 + d*x2*x3*y2*y3) + d*x1*y1*(x2*y3+y2*x3)*(y2*y3+x2*x3))
  = (x1*(y2*y3+x2*x3)*(1 + d*x2*x3*y2*y3) + y1*(x2*y3+y2*x3)*(1 - d*x2*x3*y2*y3)) * ((1 - d*x1*x2*y1*y2)*(1 + d*x1*x2*y1*y2) + d*(x1*y2+y1*x2)*(y1*y2+x1*x2)*x3*y3) := by
  unfold On at *
  grind
theorem assoc_y {d x1 y1 x2 y2 x3 y3 : Fin n}
  (e1 : On d x1 y1) (e2 : On d x2 y2) (e3 : On d x3 y3) :
  ((y1*y2+x1*x2)*(1 + d*x1*x2*y1*y2)*y3 + (x1*y2+y1*x2)*(1 - d*x1*x2*y1*y2)*x3) * ((1 - d*x2*x3*y2*y3)*(1 + d*x2*x3*y2*y3) - d*x1*y1*(x2*y3+y2*x3)*(y2*y3+x2*x3))
  = (y1*(y2*y3+x2*x3)*(1 + d*x2*x3*y2*y3) + x1*(x2*y3+y2*x3)*(1 - d*x2*x3*y2*y3)) * ((1 - d*x1*x2*y1*y2)*(1 + d*x1*x2*y1*y2) - d*(x1*y2+y1*x2)*(y1*y2+x1*x2)*x3*y3) := by
  unfold On at *
  grind


theorem fac {d : Fin n} {iv : Fin n → Fin n} (F : Fld n d iv) {a b : Fin n} (h : a * b = 0) (hb : b ≠ 0) : a = 0 := cancel F hb (by grind)
/-- the sum is the same whichever two are added first -/
theorem sum_assoc {d : Fin n} {iv : Fin n → Fin n} (F : Fld n d iv) {x1 y1 x2 y2 x3 y3 xs ys xt yt x y x' y' : Fin n} (h1 : On d x1 y1) (h2 : On d x2 y2) (h3 : On d x3 y3)
    (s : Sum d x1 y1 x2 y2 xs ys) (l : Sum d xs ys x3 y3 x y) (t : Sum d x2 y2 x3 y3 xt yt) (r : Sum d x1 y1 xt yt x' y') : x = x' ∧ y = y' := by
  have ax := assoc_x h1 h2 h3
  have ay := assoc_y h1 h2 h3
  have hs := sum_on F h1 h2 s
  have ht := sum_on F h2 h3 t
  have p1 := den_p F h1 h2
  have m1 := den_m F h1 h2
  have p2 := den_p F h2 h3
  have m2 := den_m F h2 h3
  have pl := den_p F hs h3
  have ml := den_m F hs h3
  have pr := den_p F h1 ht
  have mr := den_m F h1 ht
  obtain ⟨sx, sy⟩ := s
  obtain ⟨lx, ly⟩ := l
  obtain ⟨tx, ty⟩ := t
  obtain ⟨rx, ry⟩ := r
  clear h1 h2 h3 hs ht
  have c1 := mul_ne F p1 m1
  have c2 := mul_ne F p2 m2
  have e1 : (1 + d * x1 * x2 * y1 * y2) * (1 - d * x1 * x2 * y1 * y2) * (1 + d * xs * x3 * ys * y3) = (1 - d*x1*x2*y1*y2)*(1 + d*x1*x2*y1*y2) + d*(x1*y2+y1*x2)*(y1*y2+x1*x2)*x3*y3 := by
    rw [← sx, ← sy]; grind -lia
  have e2 : (1 + d * x1 * x2 * y1 * y2) * (1 - d * x1 * x2 * y1 * y2) * (1 - d * xs * x3 * ys * y3) = (1 - d*x1*x2*y1*y2)*(1 + d*x1*x2*y1*y2) - d*(x1*y2+y1*x2)*(y1*y2+x1*x2)*x3*y3 := by
    rw [← sx, ← sy]; grind -lia
  have e3 : (1 + d * x2 * x3 * y2 * y3) * (1 - d * x2 * x3 * y2 * y3) * (1 + d * x1 * xt * y1 * yt) = (1 - d*x2*x3*y2*y3)*(1 + d*x2*x3*y2*y3) + d*x1*y1*(x2*y3+y2*x3)*(y2*y3+x2*x3) := by
    rw [← tx, ← ty]; grind -lia
  have e4 : (1 + d * x2 * x3 * y2 * y3) * (1 - d * x2 * x3 * y2 * y3) * (1 - d * x1 * xt * y1 * yt) = (1 - d*x2*x3*y2*y3)*(1 + d*x2*x3*y2*y3) - d*x1*y1*(x2*y3+y2*x3)*(y2*y3+x2*x3) := by
    rw [← tx, ← ty]; grind -lia
  rw [← e1, ← e3, ← sx, ← sy, ← tx, ← ty] at ax
  rw [← e2, ← e4, ← sx, ← sy, ← tx, ← ty] at ay
  clear e1 e2 e3 e4 sx sy tx ty
  generalize 1 + d * x1 * x2 * y1 * y2 = u1 at *
  generalize 1 - d * x1 * x2 * y1 * y2 = v1 at *
  generalize 1 + d * x2 * x3 * y2 * y3 = u2 at *
  generalize 1 - d * x2 * x3 * y2 * y3 = v2 at *
  generalize 1 + d * xs * x3 * ys * y3 = u3 at *
  generalize 1 - d * xs * x3 * ys * y3 = v3 at *
  generalize 1 + d * x1 * xt * y1 * yt = u4 at *
  generalize 1 - d * x1 * xt * y1 * yt = v4 at *
  have q1 : ((xs * y3 + ys * x3) * (u1 * v1)) * (u2 * v2 * u4) = ((x1 * yt + y1 * xt) * (u2 * v2)) * (u1 * v1 * u3) := by grind -lia
  have q2 : ((ys * y3 + xs * x3) * (u1 * v1)) * (u2 * v2 * v4) = ((y1 * yt + x1 * xt) * (u2 * v2)) * (u1 * v1 * v3) := by grind -lia
  rw [← lx, ← rx] at q1
  rw [← ly, ← ry] at q2
  constructor
  · refine cancel F (c := (u1 * v1) * (u2 * v2) * (u3 * u4)) (mul_ne F (mul_ne F c1 c2) (mul_ne F pl pr)) ?_
    clear ax ay q2 lx ly rx ry
    grind -lia
  · refine cancel F (c := (u1 * v1) * (u2 * v2) * (v3 * v4)) (mul_ne F (mul_ne F c1 c2) (mul_ne F ml mr)) ?_
    clear ax ay q1 lx ly rx ry
    grind -lia
theorem sum_one {d : Fin n} {iv : Fin n → Fin n} (F : Fld n d iv) {x1 y1 x2 y2 x y x' y' : Fin n} (h1 : On d x1 y1) (h2 : On d x2 y2) (s : Sum d x1 y1 x2 y2 x y) (t : Sum d x1 y1 x2 y2 x' y') : x = x' ∧ y = y' :=
  ⟨cancel F (den_p F h1 h2) (s.x.trans t.x.symm), cancel F (den_m F h1 h2) (s.y.trans t.y.symm)⟩
theorem sum_comm {d x1 y1 x2 y2 x y : Fin n} (s : Sum d x1 y1 x2 y2 x y) : Sum d x2 y2 x1 y1 x y := by
  obtain ⟨sx, sy⟩ := s
  constructor
  · grind -lia
  · grind -lia
theorem zero_on (d : Fin n) : On d 0 1 := by unfold On; grind -lia
theorem neg_on {d x y : Fin n} (h : On d x y) : On d (-x) y := by unfold On at *; grind -lia
theorem sum_zero (d x y : Fin n) : Sum d x y 0 1 x y := by constructor <;> grind -lia
theorem sum_neg {d x y : Fin n} (h : On d x y) : Sum d x y (-x) y 0 1 := by unfold On at h; constructor <;> grind -lia

/-- a point -/
structure Pn (n : Nat) [NeZero n] (d : Fin n) where
  x : Fin n
  y : Fin n
  on : On d x y
theorem Pn.eq {d : Fin n} {P Q : Pn n d} (h : P.x = Q.x) (k : P.y = Q.y) : P = Q := by
  cases P; cases Q; subst h; subst k; rfl
def sumX (d : Fin n) (iv : Fin n → Fin n) (x1 y1 x2 y2 : Fin n) : Fin n := (x1 * y2 + y1 * x2) * iv (1 + d * x1 * x2 * y1 * y2)
def sumY (d : Fin n) (iv : Fin n → Fin n) (x1 y1 x2 y2 : Fin n) : Fin n := (y1 * y2 + x1 * x2) * iv (1 - d * x1 * x2 * y1 * y2)
theorem sum_is {d : Fin n} {iv : Fin n → Fin n} (F : Fld n d iv) {x1 y1 x2 y2 : Fin n} (h1 : On d x1 y1) (h2 : On d x2 y2) : Sum d x1 y1 x2 y2 (sumX d iv x1 y1 x2 y2) (sumY d iv x1 y1 x2 y2) := by
  have ha := F.iv1 _ (den_p F h1 h2)
  have hb := F.iv1 _ (den_m F h1 h2)
  constructor
  · unfold sumX; generalize iv (1 + d * x1 * x2 * y1 * y2) = v at *; grind -lia
  · unfold sumY; generalize iv (1 - d * x1 * x2 * y1 * y2) = v at *; grind -lia
section
variable {d : Fin n} {iv : Fin n → Fin n} (F : Fld n d iv)
def add (P Q : Pn n d) : Pn n d := ⟨sumX d iv P.x P.y Q.x Q.y, sumY d iv P.x P.y Q.x Q.y, sum_on F P.on Q.on (sum_is F P.on Q.on)⟩
theorem add_sum (P Q : Pn n d) : Sum d P.x P.y Q.x Q.y (add F P Q).x (add F P Q).y := sum_is F P.on Q.on
theorem add_eq {P Q R : Pn n d} (h : Sum d P.x P.y Q.x Q.y R.x R.y) : add F P Q = R := Pn.eq (sum_one F P.on Q.on (add_sum F P Q) h).1 (sum_one F P.on Q.on (add_sum F P Q) h).2
def zero (d : Fin n) : Pn n d := ⟨0, 1, zero_on d⟩
def neg (P : Pn n d) : Pn n d := ⟨-P.x, P.y, neg_on P.on⟩
theorem add_assoc (P Q R : Pn n d) : add F (add F P Q) R = add F P (add F Q R) :=
  have h := sum_assoc F P.on Q.on R.on (add_sum F P Q) (add_sum F (add F P Q) R) (add_sum F Q R) (add_sum F P (add F Q R))
  Pn.eq h.1 h.2
theorem add_comm (P Q : Pn n d) : add F P Q = add F Q P := add_eq F (sum_comm (add_sum F Q P))
theorem add_zero (P : Pn n d) : add F P (zero d) = P := add_eq F (sum_zero d P.x P.y)
theorem zero_add (P : Pn n d) : add F (zero d) P = P := by rw [add_comm, add_zero]
theorem add_neg (P : Pn n d) : add F P (neg P) = zero d := add_eq F (sum_neg P.on)
theorem add_right {P Q R : Pn n d} (h : add F P R = add F Q R) : P = Q := by
  rw [← add_zero F P, ← add_zero F Q, ← add_neg F R, ← add_assoc, ← add_assoc, h]
theorem neg_eq {P Q : Pn n d} (h : add F P Q = zero d) : P = neg Q := add_right F (h.trans ((add_comm F _ _).trans (add_neg F Q)).symm)
include F in
theorem neg_neg (P : Pn n d) : neg (neg P) = P := (neg_eq F (add_neg F P)).symm
/-- so many of a point -/
def mul (P : Pn n d) : Nat → Pn n d
  | 0 => zero d
  | k + 1 => add F (mul P k) P
theorem mul_add (P : Pn n d) (a : Nat) : ∀ b, mul F P (a + b) = add F (mul F P a) (mul F P b)
  | 0 => (add_zero F _).symm
  | b + 1 => by
    show add F (mul F P (a + b)) P = add F (mul F P a) (add F (mul F P b) P)
    rw [mul_add P a b, add_assoc]
theorem mul_one (P : Pn n d) : mul F P 1 = P := zero_add F P
theorem mul_two (P : Pn n d) (k : Nat) : mul F P (2 * k) = add F (mul F P k) (mul F P k) := by rw [Nat.two_mul, mul_add]
theorem mul_mul (P : Pn n d) (a : Nat) : ∀ b, mul F P (a * b) = mul F (mul F P a) b
  | 0 => rfl
  | b + 1 => by rw [Nat.mul_succ, mul_add, mul_mul P a b]; rfl
theorem mul_zero : ∀ b : Nat, mul F (zero d) b = zero d
  | 0 => rfl
  | b + 1 => (add_zero F _).trans (mul_zero b)
end
/-- the four numbers of a sum, as the program reckons them -/
theorem four {d : Fin n} {iv : Fin n → Fin n} (F : Fld n d iv) {x1 y1 z1 x2 y2 z2 x y a b c z e f g h X1 Y1 T1 X2 Y2 T2 tw : Fin n} (h1 : On d x1 y1) (h2 : On d x2 y2) (s : Sum d x1 y1 x2 y2 x y)
    (hz1 : z1 ≠ 0) (hz2 : z2 ≠ 0) (hX1 : X1 = x1 * z1) (hY1 : Y1 = y1 * z1) (hT1 : T1 = x1 * y1 * z1) (hX2 : X2 = x2 * z2) (hY2 : Y2 = y2 * z2) (hT2 : T2 = x2 * y2 * z2) (htw : tw = d + d)
    (ha : a = (Y1 - X1) * (Y2 - X2)) (hb : b = (Y1 + X1) * (Y2 + X2)) (hc : c = T1 * tw * T2) (hz : z = z1 * z2) (he : e = b - a) (hh : h = b + a) (hf : f = z + z - c) (hg : g = z + z + c) :
    f * g ≠ 0 ∧ e * f = x * (f * g) ∧ g * h = y * (f * g) ∧ e * h = x * y * (f * g) := by
  have p := den_p F h1 h2
  have m := den_m F h1 h2
  have h2z := mul_ne F F.two (mul_ne F hz1 hz2)
  obtain ⟨sx, sy⟩ := s
  subst ha hb hc hz he hh hf hg hX1 hY1 hT1 hX2 hY2 hT2 htw
  have f1 : z1 * z2 + z1 * z2 - x1 * y1 * z1 * (d + d) * (x2 * y2 * z2) = 2 * (z1 * z2) * (1 - d * x1 * x2 * y1 * y2) := by clear sx sy p m h2z; grind -lia
  have g1 : z1 * z2 + z1 * z2 + x1 * y1 * z1 * (d + d) * (x2 * y2 * z2) = 2 * (z1 * z2) * (1 + d * x1 * x2 * y1 * y2) := by clear sx sy p m h2z; grind -lia
  have e1 : (y1 * z1 + x1 * z1) * (y2 * z2 + x2 * z2) - (y1 * z1 - x1 * z1) * (y2 * z2 - x2 * z2) = 2 * (z1 * z2) * (x * (1 + d * x1 * x2 * y1 * y2)) := by rw [sx]; clear sx sy p m h2z; grind -lia
  have i1 : (y1 * z1 + x1 * z1) * (y2 * z2 + x2 * z2) + (y1 * z1 - x1 * z1) * (y2 * z2 - x2 * z2) = 2 * (z1 * z2) * (y * (1 - d * x1 * x2 * y1 * y2)) := by rw [sy]; clear sx sy p m h2z; grind -lia
  rw [f1, g1, e1, i1]
  clear sx sy f1 g1 e1 i1 h1 h2
  generalize 1 + d * x1 * x2 * y1 * y2 = u at *
  generalize 1 - d * x1 * x2 * y1 * y2 = v at *
  refine ⟨mul_ne F (mul_ne F h2z m) (mul_ne F h2z p), ?_, ?_, ?_⟩ <;> clear F h2z m p hz1 hz2 <;> grind -lia
end Go.Proofs.Ytbeokfpbhemcfaa.Ed
/-
  Plain: a point's four elements stand for a pair of numbers modulo p on the curve.
-/
namespace Go.Proofs.Ytbeokfpbhemcfaa
set_option linter.unusedSimpArgs false
set_option linter.unusedVariables false
open Go.RowKit

section
variable {n : Nat} [NeZero n]
theorem gn_add (a b : Nat) : Fin.ofNat n (a + b) = Fin.ofNat n a + Fin.ofNat n b := by
  apply Fin.ext
  rw [Fin.val_add]
  simp only [Fin.ofNat]
  rw [← Nat.add_mod]
theorem gn_mul (a b : Nat) : Fin.ofNat n (a * b) = Fin.ofNat n a * Fin.ofNat n b := by
  apply Fin.ext
  rw [Fin.val_mul]
  simp only [Fin.ofNat]
  rw [← Nat.mul_mod]
theorem gn_eq {a b : Nat} : Fin.ofNat n a = Fin.ofNat n b ↔ a % n = b % n := by
  constructor
  · intro h
    have := congrArg Fin.val h
    simpa only [Fin.ofNat] using this
  · intro h
    apply Fin.ext
    simpa only [Fin.ofNat] using h
theorem gn_val (x : Fin n) : Fin.ofNat n x.val = x := Fin.ext (Nat.mod_eq_of_lt x.isLt)
theorem gn_mod (a : Nat) : Fin.ofNat n (a % n) = Fin.ofNat n a := gn_eq.2 (Nat.mod_mod _ _)
theorem gn_sub {a b c : Nat} (h : (a + b) % n = c % n) : Fin.ofNat n a = Fin.ofNat n c - Fin.ofNat n b := by
  have h1 : Fin.ofNat n a + Fin.ofNat n b = Fin.ofNat n c := by rw [← gn_add]; exact gn_eq.2 h
  rw [← h1]
  generalize Fin.ofNat n a = x
  generalize Fin.ofNat n b = y
  grind -lia
end
instance : NeZero PN := ⟨by decide⟩
abbrev FP := Fin PN
def fn (a : Nat) : FP := Fin.ofNat PN a
theorem fn_add (a b : Nat) : fn (a + b) = fn a + fn b := gn_add a b
theorem fn_mul (a b : Nat) : fn (a * b) = fn a * fn b := gn_mul a b
theorem fn_eq {a b : Nat} : fn a = fn b ↔ a % PN = b % PN := gn_eq
theorem fn_val (x : FP) : fn x.val = x := gn_val x
theorem fn_mod (a : Nat) : fn (a % PN) = fn a := gn_mod a
theorem val_fn (a : Nat) : (fn a).val = a % PN := rfl
theorem fn_one : fn 1 = 1 := rfl
theorem fn_zero : fn 0 = 0 := rfl
theorem fn_ne {a : Nat} : fn a ≠ 0 ↔ a % PN ≠ 0 := by
  rw [← fn_zero, Ne, fn_eq, Nat.zero_mod]
def dF : FP := fn dN
def ivF (a : FP) : FP := fn (a.val ^ (PN - 2))
theorem iv_one (a : FP) (h : a ≠ 0) : a * ivF a = 1 := by
  obtain ⟨e, he⟩ : ∃ e, e = PN - 2 := ⟨_, rfl⟩
  have he1 : PN - 1 = e + 1 := by rw [he]; decide
  have h1 : a.val % PN ≠ 0 := by rw [← fn_ne, fn_val]; exact h
  have h2 := fermatP a.val h1
  rw [he1, Nat.pow_succ] at h2
  rw [ivF, ← he]
  conv => lhs; lhs; rw [← fn_val a]
  rw [← fn_mul, ← fn_one, fn_eq, Nat.mul_comm, h2]
  decide
def rootN : Nat := 19681161376707505956807079304988542015446066515923890162744021073123829784752
def halfL : List Nat := (List.range 32).map fun j => (PN - 1) / 2 / 256 ^ j % 256
theorem half_val : leV halfL = (PN - 1) / 2 := by decide
theorem d_half : dN ^ ((PN - 1) / 2) % PN = PN - 1 := by
  rw [← half_val, ← pm_eq]
  decide
theorem d_none (w : FP) : w * w ≠ dF := by
  intro h
  obtain ⟨k, hk⟩ : ∃ k, k = (PN - 1) / 2 := ⟨_, rfl⟩
  have hk2 : PN - 1 = k + k := by rw [hk]; decide
  have hd := d_half
  rw [← hk] at hd
  have h1 : w.val * w.val % PN = dN % PN := by rw [← fn_eq, fn_mul, fn_val]; exact h
  by_cases hw : w.val % PN = 0
  · rw [Nat.mul_mod, hw] at h1
    exact absurd h1 (by decide)
  · have h2 := fermatP w.val hw
    rw [hk2, Nat.pow_add, ← Nat.mul_pow, Nat.pow_mod, h1, ← Nat.pow_mod, hd] at h2
    exact absurd h2 (by decide)
theorem FF : Ed.Fld PN dF ivF where
  iv1 := iv_one
  one := by decide
  two := by decide
  i := ⟨fn rootN, by decide⟩
  ns := d_none
abbrev PtF := Ed.Pn PN dF
def fv (x : E5) : FP := fn x.val
theorem fv_add (x y : E5) : fv (addE x y) = fv x + fv y := by rw [fv, fv, fv, ← fn_add]; exact fn_eq.2 (sm_add x y)
theorem fv_mul (x y : E5) : fv (mulE x y) = fv x * fv y := by rw [fv, fv, fv, ← fn_mul]; exact fn_eq.2 (sm_mul x y)
theorem fv_sub {x y : E5} (hy : y.Ok) : fv (subE x y) = fv x - fv y := gn_sub (sm_sub hy)
theorem fv_inv (x : E5) : fv (invE x) = ivF (fv x) := by
  rw [fv, fv, ivF]
  refine fn_eq.2 ?_
  rw [invE_val, val_fn]
  generalize PN - 2 = e
  rw [Nat.pow_mod]
theorem fv_int (n : Nat) : fv (intE (n : Int)) = fn n := by rw [fv, intE_nat, natE_val]
theorem fv_z : fv zE = 0 := rfl
structure Is (p : Pt4) (P : PtF) : Prop where
  z : fv p.z ≠ 0
  x : fv p.x = P.x * fv p.z
  y : fv p.y = P.y * fv p.z
  t : fv p.t = P.x * P.y * fv p.z
def plus (P Q : PtF) : PtF := Ed.add FF P Q
def times (P : PtF) (k : Nat) : PtF := Ed.mul FF P k
def zeroF : PtF := Ed.zero dF
theorem Is.sum {p q : Pt4} {P Q : PtF} {tw : E5} (hp : p.Ok) (hq : q.Ok) (hw : tw.Ok) (ht : fv tw = dF + dF) (h : Is p P) (k : Is q Q) : Is (sumP p q tw) (plus P Q) := by
  have okA := mul_ok (sub_ok hp.y hp.x) (sub_ok hq.y hq.x)
  have okC := mul_ok (mul_ok hp.t hw) hq.t
  obtain ⟨r1, r2, r3, r4⟩ := Ed.four FF P.on Q.on (Ed.add_sum FF P Q) h.z k.z h.x h.y h.t k.x k.y k.t ht rfl rfl rfl rfl rfl rfl rfl rfl
  rw [← fv_sub hp.x, ← fv_sub hq.x, ← fv_add, ← fv_add, ← fv_mul, ← fv_mul, ← fv_mul, ← fv_mul, ← fv_mul, ← fv_sub okA, ← fv_add, ← fv_add, ← fv_sub okC, ← fv_add] at *
  exact ⟨by rw [sumP, fv_mul]; exact r1, by rw [sumP, fv_mul, fv_mul]; exact r2, by rw [sumP, fv_mul, fv_mul]; exact r3, by rw [sumP, fv_mul, fv_mul]; exact r4⟩
theorem Is.neg {p : Pt4} {P : PtF} (hp : p.Ok) (h : Is p P) : Is (negP p) (Ed.neg P) := by
  refine ⟨h.z, ?_, h.y, ?_⟩
  · show fv (subE zE p.x) = -P.x * fv p.z
    rw [fv_sub hp.x, fv_z, h.x]
    grind -lia
  · show fv (subE zE p.t) = -P.x * P.y * fv p.z
    rw [fv_sub hp.t, fv_z, h.t]
    grind -lia
theorem is_of {x y : E5} {P : PtF} (hx : fv x = P.x) (hy : fv y = P.y) : Is (ofP x y) P := by
  have h1 : fv (intE 1) = 1 := fv_int 1
  refine ⟨?_, ?_, ?_, ?_⟩
  · show fv (intE 1) ≠ 0
    rw [h1]; exact FF.one
  · show fv x = P.x * fv (intE 1)
    rw [h1, hx]; grind -lia
  · show fv y = P.y * fv (intE 1)
    rw [h1, hy]; grind -lia
  · show fv (mulE x y) = P.x * P.y * fv (intE 1)
    rw [h1, fv_mul, hx, hy]; grind -lia
theorem is_zero : Is zeroP zeroF := is_of (fv_int 0) (fv_int 1)
theorem base_on : Ed.On dF (fn bxN) (fn byNN) := by unfold Ed.On; decide
def baseF : PtF := ⟨fn bxN, fn byNN, base_on⟩
theorem is_base : Is baseP baseF := by
  have h : ∀ x y, fn x.val = baseF.x → fn y.val = baseF.y → Is (ofP x y) baseF := fun x y hx hy => is_of hx hy
  exact h _ _ (by rw [bx_val]; rfl) (by rw [by_val]; rfl)
theorem fv_d : fv dE = dF := by rw [fv, dE_val, dF]
theorem fv_d2 : fv (addE dE dE) = dF + dF := by rw [fv_add, fv_d]
theorem Is.add {p q : Pt4} {P Q : PtF} (hp : p.Ok) (hq : q.Ok) (h : Is p P) (k : Is q Q) : Is (addP p q) (plus P Q) := Is.sum hp hq d2_ok fv_d2 h k
section
variable {p : Pt4} {P : PtF} {T : E5} (hT : T.Ok) (ht : fv T = dF + dF) (hp : p.Ok) (h : Is p P)
include hT ht hp h
theorem is_S {out : Pt4} {n bit : Nat} (ho : out.Ok) (k : Is out (times P n)) (hb : bit < 2) : Is (pmS T p out bit) (times P (2 * n + bit)) := by
  have h2 : Is (sumP out out T) (times P (2 * n)) := by
    have := Is.sum ho ho hT ht k k
    rwa [show plus (times P n) (times P n) = times P (2 * n) from (Ed.mul_two FF P n).symm] at this
  unfold pmS
  split
  · next e =>
    rw [e]
    exact Is.sum (sumP_ok ho ho hT) hp hT ht h2 h
  · next e =>
    obtain rfl : bit = 0 := by omega
    exact h2
theorem is_B {out : Pt4} {n : Nat} (ho : out.Ok) (k : Is out (times P n)) (b : Nat) : ∀ j, j ≤ 8 → Is (pmB T p out b j) (times P (n * 2 ^ j + b % 256 / 2 ^ (8 - j)))
  | 0, _ => by
    have e : b % 256 / 2 ^ (8 - 0) = 0 := Nat.div_eq_of_lt (Nat.mod_lt _ (by decide))
    rw [e, Nat.pow_zero, Nat.mul_one, Nat.add_zero]
    exact k
  | j + 1, hj => by
    have ih := is_B ho k b j (by omega)
    have e := is_S hT ht hp h (bit := b / 2 ^ (7 - j) % 2) (pmB_ok hT hp ho b j) ih (Nat.mod_lt _ (by decide))
    rw [pmB]
    have hp : 2 ^ (8 - j) = 2 ^ (7 - j) * 2 := by rw [← Nat.pow_succ]; congr 1; omega
    have h1 : b % 256 / 2 ^ (8 - j) = b % 256 / 2 ^ (7 - j) / 2 := by rw [hp, Nat.div_div_eq_div_mul]
    have h2 : b / 2 ^ (7 - j) % 2 = b % 256 / 2 ^ (7 - j) % 2 := by
      obtain ⟨d, hd⟩ : ∃ d, 8 = (7 - j) + (1 + d) := ⟨j, by omega⟩
      have h8 : 2 ^ (7 - j) * (2 * 2 ^ d) = 256 := by
        have h9 : 2 ^ ((7 - j) + (1 + d)) = 256 := by rw [← hd]
        rw [Nat.pow_add, Nat.pow_add, Nat.pow_one] at h9
        exact h9
      obtain ⟨c, hc⟩ : ∃ c, c = b / 256 := ⟨_, rfl⟩
      have e4 : 2 ^ (7 - j) * (2 * (2 ^ d * c)) = 256 * c := by rw [← h8]; simp only [Nat.mul_assoc]
      have e3 : b = b % 256 + 2 ^ (7 - j) * (2 * (2 ^ d * c)) := by rw [e4, hc]; exact (Nat.mod_add_div b 256).symm
      conv => lhs; rw [e3, Nat.add_mul_div_left _ _ (Nat.two_pow_pos _), Nat.add_mul_mod_self_left]
    have e6 : 2 * (n * 2 ^ j + b % 256 / 2 ^ (8 - j)) + b / 2 ^ (7 - j) % 2 = n * 2 ^ (j + 1) + b % 256 / 2 ^ (8 - (j + 1)) := by
      rw [h1, h2, show 8 - (j + 1) = 7 - j by omega, Nat.pow_succ]
      have e5 : 2 * (n * 2 ^ j + b % 256 / 2 ^ (7 - j) / 2) = n * (2 ^ j * 2) + 2 * (b % 256 / 2 ^ (7 - j) / 2) := by
        rw [Nat.mul_add, ← Nat.mul_assoc n, Nat.mul_comm 2 (n * 2 ^ j)]
      rw [e5]
      omega
    rwa [e6] at e
theorem is_L (l : List Nat) (hl : ∀ d ∈ l, d < 256) : ∀ j, j ≤ l.length → Is (pmL T p l j) (times P (leV (l.drop (l.length - j))))
  | 0, _ => by
    rw [Nat.sub_zero, List.drop_length, leV, pmL]
    exact is_zero
  | j + 1, hj => by
    have hlt : l.length - 1 - j < l.length := by omega
    have hd : l.getD (l.length - 1 - j) 0 = l[l.length - 1 - j] := by rw [List.getD_eq_getElem?_getD, List.getElem?_eq_getElem hlt]; rfl
    have hb : l[l.length - 1 - j] < 256 := hl _ (List.getElem_mem hlt)
    have e := is_B hT ht hp h (pmL_ok hT hp l j) (is_L l hl j (by omega)) l[l.length - 1 - j] 8 (Nat.le_refl _)
    rw [pmL, hd, show l.length - (j + 1) = l.length - 1 - j by omega, List.drop_eq_getElem_cons hlt, leV, show l.length - 1 - j + 1 = l.length - j by omega]
    rw [Nat.mod_eq_of_lt hb, show 8 - 8 = 0 from rfl, Nat.pow_zero, Nat.div_one, show (2 : Nat) ^ 8 = 256 from rfl, Nat.mul_comm, Nat.add_comm] at e
    exact e
end
/-- a point's multiple is that by the number of the first 32 bytes -/
theorem Is.mul {p : Pt4} {P : PtF} (hp : p.Ok) (h : Is p P) (l : List UInt8) : Is (mulP p l) (times P (leV (digs (l.take 32)))) := by
  have e := is_L d2_ok fv_d2 hp h (digs (l.take 32)) (digs_lt _) (min l.length 32) (by rw [digs, List.length_map, List.length_take, Nat.min_comm]; exact Nat.le_refl _)
  rw [show (digs (l.take 32)).length - min l.length 32 = 0 by rw [digs, List.length_map, List.length_take, Nat.min_comm, Nat.sub_self], List.drop_zero] at e
  exact e
/-- two are told the same just if they are -/
theorem eqP_is {p q : Pt4} {P Q : PtF} (hp : p.Ok) (hq : q.Ok) (h : Is p P) (k : Is q Q) : eqP p q = true ↔ P = Q := by
  have e1 : ∀ a b c d : E5, a.Ok → b.Ok → c.Ok → d.Ok → (eqB (mulE a b) (mulE c d) = true ↔ fv a * fv b = fv c * fv d) := fun a b c d ha hb hc hd => by
    rw [eqB, eqE (mul_ok ha hb).big (mul_ok hc hd).big, decide_eq_true_iff, ← fn_eq, ← fv_mul, ← fv_mul]
    exact Iff.rfl
  rw [eqP, Bool.and_eq_true, e1 _ _ _ _ hp.x hq.z hq.x hp.z, e1 _ _ _ _ hp.y hq.z hq.y hp.z, h.x, h.y, k.x, k.y]
  have hz := Ed.mul_ne FF h.z k.z
  constructor
  · rintro ⟨h1, h2⟩
    refine Ed.Pn.eq (Ed.cancel FF hz ?_) (Ed.cancel FF hz ?_)
    · clear h2 hz
      generalize fv p.z = a at *
      generalize fv q.z = b at *
      grind -lia
    · clear h1 hz
      generalize fv p.z = a at *
      generalize fv q.z = b at *
      grind -lia
  · rintro rfl
    generalize fv p.z = a
    generalize fv q.z = b
    constructor <;> grind -lia
end Go.Proofs.Ytbeokfpbhemcfaa
