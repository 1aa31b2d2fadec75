/-
  Walk: the law FieldRing.
-/
import Derived.Test.YtngecbnbddoldaaRing
namespace Go.Proofs.Ytngecbnbddoldaa
set_option linter.unusedSimpArgs false
set_option linter.unusedVariables false
open Go.RowKit

theorem mul_c (x y : E5) (w : World) (hx : x.Ok) (hy : y.Ok) : Calls Try.prog 22 #[.agg (eV x), .agg (eV y)] w (ElemPost (mulE x y) w) := mul_any x y w hx hy
theorem add_c (x y : E5) (w : World) (hx : x.Ok) (hy : y.Ok) : Calls Try.prog 27 #[.agg (eV x), .agg (eV y)] w (ElemPost (addE x y) w) := add_any x y w (E5.Lt.mono hx (by decide)) (E5.Lt.mono hy (by decide))
theorem sub_c (x y : E5) (w : World) (hx : x.Ok) (hy : y.Ok) : Calls Try.prog 28 #[.agg (eV x), .agg (eV y)] w (ElemPost (subE x y) w) := sub_any x y w (E5.Lt.mono hx (by decide)) hy.big
def BoolPost (b : Bool) (w : World) (e : Ending) (w' : World) : Prop := e = .returned (.bool b) ∧ Below w.heap.size w w'
theorem equal_c (x y : E5) (w : World) (hx : x.Ok) (hy : y.Ok) : Calls Try.prog 12 #[.agg (eV x), .agg (eV y)] w (BoolPost (eqB x y) w) := equal_any x y w hx.big hy.big
theorem equal_t (x y : E5) (w : World) (hx : x.Ok) (hy : y.Ok) (h : eqB x y = true) : Calls Try.prog 12 #[.agg (eV x), .agg (eV y)] w (BoolPost true w) := by
  have h1 := equal_c x y w hx hy
  rw [h] at h1; exact h1
/-- a box that was laid, and what it leaves -/
theorem box_new {w0 u u' : World} {cs : Array Value} {o : Obj} (hbel : Below w0.heap.size w0 u) (hw : Wrote u.heap.size (u.alloc o) u') : Below w0.heap.size w0 u' :=
  hw.below (hbel.alloc hbel.size _) hbel.size (by simp; have := hbel.size; omega)
theorem box_keep {u u' : World} {g : Nat} {t : TypeId} {cs : Array Value} {o : Obj} (h : Blk u g t cs) (hw : Wrote u.heap.size (u.alloc o) u') : Blk u' g t cs :=
  hw.blk (h.alloc _) (Nat.ne_of_lt h.lt)
theorem ofE_ok (l : List UInt8) : (ofE l).Ok := ofN_ok _
structure R3 (w0 : World) (g h r : Nat) (x y z : Array Value) (u : World) : Prop where
  bel : Below w0.heap.size w0 u
  x : Blk u g 26 x
  y : Blk u h 26 y
  z : Blk u r 26 z
theorem R3.next {w0 u u' : World} {g h r : Nat} {x y z : Array Value} (k : R3 w0 g h r x y z u) (hb : Below u.heap.size u u') : R3 w0 g h r x y z u' :=
  ⟨k.bel.trans (hb.mono k.bel.size), k.x.below hb k.x.lt, k.y.below hb k.y.lt, k.z.below hb k.z.lt⟩
theorem R3.drew {w0 u : World} {g h r : Nat} {x y z : Array Value} (k : R3 w0 g h r x y z u) : R3 w0 g h r x y z u.drew := ⟨k.bel.drew, k.x, k.y, k.z⟩
set_option maxRecDepth 100000 in
set_option maxHeartbeats 4000000 in
theorem ring_any (l m k : List UInt8) (A B C : Option Addr) (c d f : Nat) (w : World) (hr : Rd w w.heap.size A (bytesV l)) (hs : Rd w w.heap.size B (bytesV m)) (ht : Rd w w.heap.size C (bytesV k)) (hc : l.length ≤ c) (hd : m.length ≤ d) (hf : k.length ≤ f) :
    Calls Try.prog 7 #[.slice A l.length c, .slice B m.length d, .slice C k.length f] w (BoolPost true w) := by
  have hu := Try.underlying26
  obtain ⟨n1, hn1⟩ : ∃ n, n = l.length := ⟨_, rfl⟩
  obtain ⟨n2, hn2⟩ : ∃ n, n = m.length := ⟨_, rfl⟩
  obtain ⟨n3, hn3⟩ : ∃ n, n = k.length := ⟨_, rfl⟩
  have c1 : ∀ u, Below w.heap.size w u → Calls Try.prog 19 #[.slice A n1 c] u (OfPost l u) := fun u hu => by
    rw [hn1]; exact of_any l A c u ((hr.below hu).mono hu.size) hc
  have c2 : ∀ u, Below w.heap.size w u → Calls Try.prog 19 #[.slice B n2 d] u (OfPost m u) := fun u hu => by
    rw [hn2]; exact of_any m B d u ((hs.below hu).mono hu.size) hd
  have c3 : ∀ u, Below w.heap.size w u → Calls Try.prog 19 #[.slice C n3 f] u (OfPost k u) := fun u hu => by
    rw [hn3]; exact of_any k C f u ((ht.below hu).mono hu.size) hf
  rw [← hn1, ← hn2, ← hn3]
  obtain ⟨X, hX⟩ : ∃ X, X = ofE l := ⟨_, rfl⟩
  obtain ⟨Y, hY⟩ : ∃ X, X = ofE m := ⟨_, rfl⟩
  obtain ⟨Z, hZ⟩ : ∃ X, X = ofE k := ⟨_, rfl⟩
  have okX : X.Ok := by rw [hX]; exact ofE_ok l
  have okY : Y.Ok := by rw [hY]; exact ofE_ok m
  have okZ : Z.Ok := by rw [hZ]; exact ofE_ok k
  have C1 := Lib.hid c1
  have C2 := Lib.hid c2
  have C3 := Lib.hid c3
  have EX := Lib.hid hX
  have EY := Lib.hid hY
  have EZ := Lib.hid hZ
  have R1 := Lib.hid (ring1 okX okY okZ)
  have R2 := Lib.hid (ring2 okX okY okZ)
  have R3' := Lib.hid (ring3 okX okY)
  have R4 := Lib.hid (ring4 okX okY okZ)
  have R5 := Lib.hid (ring5 okX okY)
  have R6 := Lib.hid (ring6 okX okY)
  have KX := Lib.hid okX
  have KY := Lib.hid okY
  have KZ := Lib.hid okZ
  clear hr hs ht hc hd hf hn1 hn2 hn3 c1 c2 c3 hX hY hZ okX okY okZ
  go_enter Try.func7, Try.ntmps7
  go_wp2_with fail
  refine calls_then (C1.out _ (Below.refl _ _)) ?_
  rintro e w1 ⟨v1, rfl, hrv1, hb1⟩
  rw [← EX.out]
  have HB1 := Lib.hid hb1
  clear hrv1 hb1
  go_wp2_with (refine wpList_put_box (x := .tmp 7) (cells := eV X) (Blk.new _ _ _) rfl rfl rfl rfl elem_size rfl (by simp [eV, wV, limbs, Value.oneCell']) ?_; intro w2 hb2 hw2; have HX2 := Lib.hid hb2; have HB2 := Lib.hid (box_new (cs := eV X) HB1.out hw2); clear hb2 hw2 HB1)
  refine calls_then (C2.out _ HB2.out) ?_
  rintro e w3 ⟨v3, rfl, hrv3, hb3⟩
  rw [← EY.out]
  have HB3 := Lib.hid (HB2.out.trans (hb3.mono HB2.out.size))
  have HX3 := Lib.hid (HX2.out.below hb3 HX2.out.lt)
  clear hrv3 hb3 HB2 HX2
  generalize w1.heap.size = g at *
  go_wp2_with (refine wpList_put_box (x := .tmp 9) (cells := eV Y) (Blk.new _ _ _) rfl rfl rfl rfl elem_size rfl (by simp [eV, wV, limbs, Value.oneCell']) ?_; intro w4 hb4 hw4; have HX4 := Lib.hid (box_keep HX3.out hw4); have HY4 := Lib.hid hb4; have HB4 := Lib.hid (box_new (cs := eV Y) HB3.out hw4); clear hb4 hw4 HB3 HX3)
  refine calls_then (C3.out _ HB4.out) ?_
  rintro e w5 ⟨v5, rfl, hrv5, hb5⟩
  rw [← EZ.out]
  have HB5 := Lib.hid (HB4.out.trans (hb5.mono HB4.out.size))
  have HX5 := Lib.hid (HX4.out.below hb5 HX4.out.lt)
  have HY5 := Lib.hid (HY4.out.below hb5 HY4.out.lt)
  clear hrv5 hb5 HB4 HX4 HY4
  generalize w3.heap.size = h at *
  go_wp2_with (refine wpList_put_box (x := .tmp 11) (cells := eV Z) (Blk.new _ _ _) rfl rfl rfl rfl elem_size rfl (by simp [eV, wV, limbs, Value.oneCell']) ?_; intro w6 hb6 hw6; have HST := Lib.hid (R3.mk (box_new (cs := eV Z) HB5.out hw6) (box_keep HX5.out hw6) (box_keep HY5.out hw6) hb6); clear hb6 hw6 HB5 HX5 HY5)
  generalize w5.heap.size = r at *
  have HC0 := HST.out.drew
  clear HST
  refine wp_region_det (fun u => R3 w g h r (eV X) (eV Y) (eV Z) u) (fun u => R3 w g h r (eV X) (eV Y) (eV Z) u) [(0, some 32), (1, some 33), (2, some 34), (3, some 35), (4, some 36), (5, some 37), (6, some 38), (7, some 39), (8, some 40), (9, some 41), (10, some 42), (11, some 43), (12, some 44), (13, some 13)] (by kernel_rfl) (by kernel_rfl) (by decide) (by kernel_rfl) (fun _ => rfl) HC0 ?_
  apply DetL.next
  · -- 0: Op.load 26 (Operand.tmp 7)
    apply detStep_plain []
    exact fun _ => rfl
    rfl
    rintro vals - w1 hC1 E hE
    simp only [puts, act_put, act_put_none, List.setIfInBounds_toArray, List.set_cons_zero, List.set_cons_succ] at hE ⊢
    refine wpList_get_box hC1.x rfl rfl rfl hu rfl elem_size ?_
    go_wp2_with fail
    exact .mk (hE _ hC1)
  apply DetL.next
  · -- 1: Op.load 26 (Operand.tmp 9)
    apply detStep_plain []
    exact fun _ => rfl
    rfl
    rintro vals ⟨-, -⟩ w1 hC1 E hE
    simp only [puts, act_put, act_put_none, List.setIfInBounds_toArray, List.set_cons_zero, List.set_cons_succ] at hE ⊢
    refine wpList_get_box hC1.y rfl rfl rfl hu rfl elem_size ?_
    go_wp2_with fail
    exact .mk (hE _ hC1)
  apply DetL.next
  · -- 2: Op.call { callee := Callee.value (Operand.func 27), args := #[Operand.tmp 32, Operand.tmp 33], argTypes := #[2
    apply detStep_plain [(0, some 32), (1, some 33)]
    exact fun _ => rfl
    rfl
    rintro vals ⟨⟨-, f0⟩, f1⟩ w1 hC1 E hE
    simp only [puts, act_put, act_put_none, List.setIfInBounds_toArray, List.set_cons_zero, List.set_cons_succ, f0, f1] at hE ⊢
    clear f0 f1
    go_wp2_with fail
    refine calls_then (add_c _ _ _ (by repeat (first | exact KX.out | exact KY.out | exact KZ.out | apply mul_ok | apply add_ok | apply sub_ok)) (by repeat (first | exact KX.out | exact KY.out | exact KZ.out | apply mul_ok | apply add_ok | apply sub_ok))) ?_
    rintro e w2 ⟨rfl, hb2⟩
    go_wp2_with fail
    exact .mk (hE _ (hC1.next hb2))
  apply DetL.next
  · -- 3: Op.load 26 (Operand.tmp 11)
    apply detStep_plain []
    exact fun _ => rfl
    rfl
    rintro vals ⟨⟨⟨-, -⟩, -⟩, -⟩ w1 hC1 E hE
    simp only [puts, act_put, act_put_none, List.setIfInBounds_toArray, List.set_cons_zero, List.set_cons_succ] at hE ⊢
    refine wpList_get_box hC1.z rfl rfl rfl hu rfl elem_size ?_
    go_wp2_with fail
    exact .mk (hE _ hC1)
  apply DetL.next
  · -- 4: Op.call { callee := Callee.value (Operand.func 22), args := #[Operand.tmp 34, Operand.tmp 35], argTypes := #[2
    apply detStep_plain [(2, some 34), (3, some 35), (2, some 34)]
    exact fun _ => rfl
    rfl
    rintro vals ⟨⟨⟨⟨-, -⟩, -⟩, f2⟩, f3⟩ w1 hC1 E hE
    simp only [puts, act_put, act_put_none, List.setIfInBounds_toArray, List.set_cons_zero, List.set_cons_succ, f2, f3] at hE ⊢
    clear f2 f3
    go_wp2_with fail
    refine calls_then (mul_c _ _ _ (by repeat (first | exact KX.out | exact KY.out | exact KZ.out | apply mul_ok | apply add_ok | apply sub_ok)) (by repeat (first | exact KX.out | exact KY.out | exact KZ.out | apply mul_ok | apply add_ok | apply sub_ok))) ?_
    rintro e w2 ⟨rfl, hb2⟩
    go_wp2_with fail
    exact .mk (hE _ (hC1.next hb2))
  apply DetL.next
  · -- 5: Op.load 26 (Operand.tmp 7)
    apply detStep_plain []
    exact fun _ => rfl
    rfl
    rintro vals ⟨⟨⟨⟨⟨-, -⟩, -⟩, -⟩, -⟩, -⟩ w1 hC1 E hE
    simp only [puts, act_put, act_put_none, List.setIfInBounds_toArray, List.set_cons_zero, List.set_cons_succ] at hE ⊢
    refine wpList_get_box hC1.x rfl rfl rfl hu rfl elem_size ?_
    go_wp2_with fail
    exact .mk (hE _ hC1)
  apply DetL.next
  · -- 6: Op.load 26 (Operand.tmp 11)
    apply detStep_plain []
    exact fun _ => rfl
    rfl
    rintro vals ⟨⟨⟨⟨⟨⟨-, -⟩, -⟩, -⟩, -⟩, -⟩, -⟩ w1 hC1 E hE
    simp only [puts, act_put, act_put_none, List.setIfInBounds_toArray, List.set_cons_zero, List.set_cons_succ] at hE ⊢
    refine wpList_get_box hC1.z rfl rfl rfl hu rfl elem_size ?_
    go_wp2_with fail
    exact .mk (hE _ hC1)
  apply DetL.next
  · -- 7: Op.call { callee := Callee.value (Operand.func 22), args := #[Operand.tmp 37, Operand.tmp 38], argTypes := #[2
    apply detStep_plain [(5, some 37), (6, some 38), (4, some 36)]
    exact fun _ => rfl
    rfl
    rintro vals ⟨⟨⟨⟨⟨⟨⟨-, -⟩, -⟩, -⟩, -⟩, f4⟩, f5⟩, f6⟩ w1 hC1 E hE
    simp only [puts, act_put, act_put_none, List.setIfInBounds_toArray, List.set_cons_zero, List.set_cons_succ, f4, f5, f6] at hE ⊢
    clear f4 f5 f6
    go_wp2_with fail
    refine calls_then (mul_c _ _ _ (by repeat (first | exact KX.out | exact KY.out | exact KZ.out | apply mul_ok | apply add_ok | apply sub_ok)) (by repeat (first | exact KX.out | exact KY.out | exact KZ.out | apply mul_ok | apply add_ok | apply sub_ok))) ?_
    rintro e w2 ⟨rfl, hb2⟩
    go_wp2_with fail
    exact .mk (hE _ (hC1.next hb2))
  apply DetL.next
  · -- 8: Op.load 26 (Operand.tmp 9)
    apply detStep_plain []
    exact fun _ => rfl
    rfl
    rintro vals ⟨⟨⟨⟨⟨⟨⟨⟨-, -⟩, -⟩, -⟩, -⟩, -⟩, -⟩, -⟩, -⟩ w1 hC1 E hE
    simp only [puts, act_put, act_put_none, List.setIfInBounds_toArray, List.set_cons_zero, List.set_cons_succ] at hE ⊢
    refine wpList_get_box hC1.y rfl rfl rfl hu rfl elem_size ?_
    go_wp2_with fail
    exact .mk (hE _ hC1)
  apply DetL.next
  · -- 9: Op.load 26 (Operand.tmp 11)
    apply detStep_plain []
    exact fun _ => rfl
    rfl
    rintro vals ⟨⟨⟨⟨⟨⟨⟨⟨⟨-, -⟩, -⟩, -⟩, -⟩, -⟩, -⟩, -⟩, -⟩, -⟩ w1 hC1 E hE
    simp only [puts, act_put, act_put_none, List.setIfInBounds_toArray, List.set_cons_zero, List.set_cons_succ] at hE ⊢
    refine wpList_get_box hC1.z rfl rfl rfl hu rfl elem_size ?_
    go_wp2_with fail
    exact .mk (hE _ hC1)
  apply DetL.next
  · -- 10: Op.call { callee := Callee.value (Operand.func 22), args := #[Operand.tmp 40, Operand.tmp 41], argTypes := #[2
    apply detStep_plain [(8, some 40), (9, some 41), (7, some 39)]
    exact fun _ => rfl
    rfl
    rintro vals ⟨⟨⟨⟨⟨⟨⟨⟨⟨⟨-, -⟩, -⟩, -⟩, -⟩, -⟩, -⟩, -⟩, f7⟩, f8⟩, f9⟩ w1 hC1 E hE
    simp only [puts, act_put, act_put_none, List.setIfInBounds_toArray, List.set_cons_zero, List.set_cons_succ, f7, f8, f9] at hE ⊢
    clear f7 f8 f9
    go_wp2_with fail
    refine calls_then (mul_c _ _ _ (by repeat (first | exact KX.out | exact KY.out | exact KZ.out | apply mul_ok | apply add_ok | apply sub_ok)) (by repeat (first | exact KX.out | exact KY.out | exact KZ.out | apply mul_ok | apply add_ok | apply sub_ok))) ?_
    rintro e w2 ⟨rfl, hb2⟩
    go_wp2_with fail
    exact .mk (hE _ (hC1.next hb2))
  apply DetL.next
  · -- 11: Op.call { callee := Callee.value (Operand.func 27), args := #[Operand.tmp 39, Operand.tmp 42], argTypes := #[2
    apply detStep_plain [(7, some 39), (10, some 42), (10, some 42)]
    exact fun _ => rfl
    rfl
    rintro vals ⟨⟨⟨⟨⟨⟨⟨⟨⟨⟨⟨-, -⟩, -⟩, -⟩, -⟩, -⟩, -⟩, -⟩, f7⟩, -⟩, -⟩, f10⟩ w1 hC1 E hE
    simp only [puts, act_put, act_put_none, List.setIfInBounds_toArray, List.set_cons_zero, List.set_cons_succ, f7, f10] at hE ⊢
    clear f7 f10
    go_wp2_with fail
    refine calls_then (add_c _ _ _ (by repeat (first | exact KX.out | exact KY.out | exact KZ.out | apply mul_ok | apply add_ok | apply sub_ok)) (by repeat (first | exact KX.out | exact KY.out | exact KZ.out | apply mul_ok | apply add_ok | apply sub_ok))) ?_
    rintro e w2 ⟨rfl, hb2⟩
    go_wp2_with fail
    exact .mk (hE _ (hC1.next hb2))
  apply DetL.next
  · -- 12: Op.call { callee := Callee.value (Operand.func 12), args := #[Operand.tmp 36, Operand.tmp 43], argTypes := #[2
    apply detStep_plain [(4, some 36), (11, some 43), (11, some 43)]
    exact fun _ => rfl
    rfl
    rintro vals ⟨⟨⟨⟨⟨⟨⟨⟨⟨⟨⟨⟨-, -⟩, -⟩, -⟩, -⟩, f4⟩, -⟩, -⟩, -⟩, -⟩, -⟩, -⟩, f11⟩ w1 hC1 E hE
    simp only [puts, act_put, act_put_none, List.setIfInBounds_toArray, List.set_cons_zero, List.set_cons_succ, f4, f11] at hE ⊢
    clear f4 f11
    go_wp2_with fail
    refine calls_then (equal_t _ _ _ (by repeat (first | exact KX.out | exact KY.out | exact KZ.out | apply mul_ok | apply add_ok | apply sub_ok)) (by repeat (first | exact KX.out | exact KY.out | exact KZ.out | apply mul_ok | apply add_ok | apply sub_ok)) (by first | exact R1.out)) ?_
    rintro e w2 ⟨rfl, hb2⟩
    go_wp2_with fail
    exact .mk (hE _ (hC1.next hb2))
  apply DetL.last
  · -- 13: Op.assign (Operand.tmp 44)
    apply detStep_plain [(12, some 44), (12, some 44), (0, some 32), (1, some 33), (2, some 34), (3, some 35), (4, some 36), (5, some 37), (6, some 38), (7, some 39), (8, some 40), (9, some 41), (10, some 42), (11, some 43), (12, some 44)]
    exact fun _ => rfl
    rfl
    rintro vals ⟨⟨⟨⟨⟨⟨⟨⟨⟨⟨⟨⟨⟨-, f0⟩, f1⟩, f2⟩, f3⟩, f4⟩, f5⟩, f6⟩, f7⟩, f8⟩, f9⟩, f10⟩, f11⟩, f12⟩ w1 hC1 E hE
    simp only [puts, act_put, act_put_none, List.setIfInBounds_toArray, List.set_cons_zero, List.set_cons_succ, f0, f1, f2, f3, f4, f5, f6, f7, f8, f9, f10, f11, f12] at hE ⊢
    clear f0 f1 f2 f3 f4 f5 f6 f7 f8 f9 f10 f11 f12
    go_wp2
    exact .mk (hE _ hC1)
  rintro vals ⟨⟨⟨⟨⟨⟨⟨⟨⟨⟨⟨⟨⟨⟨-, f0⟩, f1⟩, f2⟩, f3⟩, f4⟩, f5⟩, f6⟩, f7⟩, f8⟩, f9⟩, f10⟩, f11⟩, f12⟩, f13⟩ w1 hC1
  simp only [puts, act_put, act_put_none, List.setIfInBounds_toArray, List.set_cons_zero, List.set_cons_succ, f0, f1, f2, f3, f4, f5, f6, f7, f8, f9, f10, f11, f12, f13]
  clear f0 f1 f2 f3 f4 f5 f6 f7 f8 f9 f10 f11 f12 f13
  have HST := Lib.hid hC1
  clear hC1 HC0
  go_wp2_with fail
  have HC0 := HST.out.drew
  clear HST
  refine wp_region_det (fun u => R3 w g h r (eV X) (eV Y) (eV Z) u) (fun u => R3 w g h r (eV X) (eV Y) (eV Z) u) [(0, some 45), (1, some 46), (2, some 47), (3, some 48), (4, some 49), (5, some 50), (6, some 51), (7, some 52), (8, some 53), (9, some 54), (10, some 55), (11, some 56), (12, some 57), (13, some 58), (14, some 59), (15, some 60), (16, some 61), (17, some 62), (18, some 63), (19, some 64), (20, some 14)] (by kernel_rfl) (by kernel_rfl) (by decide) (by kernel_rfl) (fun _ => rfl) HC0 ?_
  apply DetL.next
  · -- 0: Op.load 26 (Operand.tmp 7)
    apply detStep_plain []
    exact fun _ => rfl
    rfl
    rintro vals - w1 hC1 E hE
    simp only [puts, act_put, act_put_none, List.setIfInBounds_toArray, List.set_cons_zero, List.set_cons_succ] at hE ⊢
    refine wpList_get_box hC1.x rfl rfl rfl hu rfl elem_size ?_
    go_wp2_with fail
    exact .mk (hE _ hC1)
  apply DetL.next
  · -- 1: Op.load 26 (Operand.tmp 9)
    apply detStep_plain []
    exact fun _ => rfl
    rfl
    rintro vals ⟨-, -⟩ w1 hC1 E hE
    simp only [puts, act_put, act_put_none, List.setIfInBounds_toArray, List.set_cons_zero, List.set_cons_succ] at hE ⊢
    refine wpList_get_box hC1.y rfl rfl rfl hu rfl elem_size ?_
    go_wp2_with fail
    exact .mk (hE _ hC1)
  apply DetL.next
  · -- 2: Op.call { callee := Callee.value (Operand.func 22), args := #[Operand.tmp 45, Operand.tmp 46], argTypes := #[2
    apply detStep_plain [(0, some 45), (1, some 46)]
    exact fun _ => rfl
    rfl
    rintro vals ⟨⟨-, f0⟩, f1⟩ w1 hC1 E hE
    simp only [puts, act_put, act_put_none, List.setIfInBounds_toArray, List.set_cons_zero, List.set_cons_succ, f0, f1] at hE ⊢
    clear f0 f1
    go_wp2_with fail
    refine calls_then (mul_c _ _ _ (by repeat (first | exact KX.out | exact KY.out | exact KZ.out | apply mul_ok | apply add_ok | apply sub_ok)) (by repeat (first | exact KX.out | exact KY.out | exact KZ.out | apply mul_ok | apply add_ok | apply sub_ok))) ?_
    rintro e w2 ⟨rfl, hb2⟩
    go_wp2_with fail
    exact .mk (hE _ (hC1.next hb2))
  apply DetL.next
  · -- 3: Op.load 26 (Operand.tmp 11)
    apply detStep_plain []
    exact fun _ => rfl
    rfl
    rintro vals ⟨⟨⟨-, -⟩, -⟩, -⟩ w1 hC1 E hE
    simp only [puts, act_put, act_put_none, List.setIfInBounds_toArray, List.set_cons_zero, List.set_cons_succ] at hE ⊢
    refine wpList_get_box hC1.z rfl rfl rfl hu rfl elem_size ?_
    go_wp2_with fail
    exact .mk (hE _ hC1)
  apply DetL.next
  · -- 4: Op.call { callee := Callee.value (Operand.func 22), args := #[Operand.tmp 47, Operand.tmp 48], argTypes := #[2
    apply detStep_plain [(2, some 47), (3, some 48), (2, some 47)]
    exact fun _ => rfl
    rfl
    rintro vals ⟨⟨⟨⟨-, -⟩, -⟩, f2⟩, f3⟩ w1 hC1 E hE
    simp only [puts, act_put, act_put_none, List.setIfInBounds_toArray, List.set_cons_zero, List.set_cons_succ, f2, f3] at hE ⊢
    clear f2 f3
    go_wp2_with fail
    refine calls_then (mul_c _ _ _ (by repeat (first | exact KX.out | exact KY.out | exact KZ.out | apply mul_ok | apply add_ok | apply sub_ok)) (by repeat (first | exact KX.out | exact KY.out | exact KZ.out | apply mul_ok | apply add_ok | apply sub_ok))) ?_
    rintro e w2 ⟨rfl, hb2⟩
    go_wp2_with fail
    exact .mk (hE _ (hC1.next hb2))
  apply DetL.next
  · -- 5: Op.load 26 (Operand.tmp 7)
    apply detStep_plain []
    exact fun _ => rfl
    rfl
    rintro vals ⟨⟨⟨⟨⟨-, -⟩, -⟩, -⟩, -⟩, -⟩ w1 hC1 E hE
    simp only [puts, act_put, act_put_none, List.setIfInBounds_toArray, List.set_cons_zero, List.set_cons_succ] at hE ⊢
    refine wpList_get_box hC1.x rfl rfl rfl hu rfl elem_size ?_
    go_wp2_with fail
    exact .mk (hE _ hC1)
  apply DetL.next
  · -- 6: Op.load 26 (Operand.tmp 9)
    apply detStep_plain []
    exact fun _ => rfl
    rfl
    rintro vals ⟨⟨⟨⟨⟨⟨-, -⟩, -⟩, -⟩, -⟩, -⟩, -⟩ w1 hC1 E hE
    simp only [puts, act_put, act_put_none, List.setIfInBounds_toArray, List.set_cons_zero, List.set_cons_succ] at hE ⊢
    refine wpList_get_box hC1.y rfl rfl rfl hu rfl elem_size ?_
    go_wp2_with fail
    exact .mk (hE _ hC1)
  apply DetL.next
  · -- 7: Op.load 26 (Operand.tmp 11)
    apply detStep_plain []
    exact fun _ => rfl
    rfl
    rintro vals ⟨⟨⟨⟨⟨⟨⟨-, -⟩, -⟩, -⟩, -⟩, -⟩, -⟩, -⟩ w1 hC1 E hE
    simp only [puts, act_put, act_put_none, List.setIfInBounds_toArray, List.set_cons_zero, List.set_cons_succ] at hE ⊢
    refine wpList_get_box hC1.z rfl rfl rfl hu rfl elem_size ?_
    go_wp2_with fail
    exact .mk (hE _ hC1)
  apply DetL.next
  · -- 8: Op.call { callee := Callee.value (Operand.func 22), args := #[Operand.tmp 51, Operand.tmp 52], argTypes := #[2
    apply detStep_plain [(6, some 51), (7, some 52), (4, some 49)]
    exact fun _ => rfl
    rfl
    rintro vals ⟨⟨⟨⟨⟨⟨⟨⟨-, -⟩, -⟩, -⟩, -⟩, f4⟩, -⟩, f6⟩, f7⟩ w1 hC1 E hE
    simp only [puts, act_put, act_put_none, List.setIfInBounds_toArray, List.set_cons_zero, List.set_cons_succ, f4, f6, f7] at hE ⊢
    clear f4 f6 f7
    go_wp2_with fail
    refine calls_then (mul_c _ _ _ (by repeat (first | exact KX.out | exact KY.out | exact KZ.out | apply mul_ok | apply add_ok | apply sub_ok)) (by repeat (first | exact KX.out | exact KY.out | exact KZ.out | apply mul_ok | apply add_ok | apply sub_ok))) ?_
    rintro e w2 ⟨rfl, hb2⟩
    go_wp2_with fail
    exact .mk (hE _ (hC1.next hb2))
  apply DetL.next
  · -- 9: Op.call { callee := Callee.value (Operand.func 22), args := #[Operand.tmp 50, Operand.tmp 53], argTypes := #[2
    apply detStep_plain [(5, some 50), (8, some 53), (8, some 53)]
    exact fun _ => rfl
    rfl
    rintro vals ⟨⟨⟨⟨⟨⟨⟨⟨⟨-, -⟩, -⟩, -⟩, -⟩, -⟩, f5⟩, -⟩, -⟩, f8⟩ w1 hC1 E hE
    simp only [puts, act_put, act_put_none, List.setIfInBounds_toArray, List.set_cons_zero, List.set_cons_succ, f5, f8] at hE ⊢
    clear f5 f8
    go_wp2_with fail
    refine calls_then (mul_c _ _ _ (by repeat (first | exact KX.out | exact KY.out | exact KZ.out | apply mul_ok | apply add_ok | apply sub_ok)) (by repeat (first | exact KX.out | exact KY.out | exact KZ.out | apply mul_ok | apply add_ok | apply sub_ok))) ?_
    rintro e w2 ⟨rfl, hb2⟩
    go_wp2_with fail
    exact .mk (hE _ (hC1.next hb2))
  apply DetL.next
  · -- 10: Op.call { callee := Callee.value (Operand.func 12), args := #[Operand.tmp 49, Operand.tmp 54], argTypes := #[2
    apply detStep_plain [(4, some 49), (9, some 54), (9, some 54)]
    exact fun _ => rfl
    rfl
    rintro vals ⟨⟨⟨⟨⟨⟨⟨⟨⟨⟨-, -⟩, -⟩, -⟩, -⟩, f4⟩, -⟩, -⟩, -⟩, -⟩, f9⟩ w1 hC1 E hE
    simp only [puts, act_put, act_put_none, List.setIfInBounds_toArray, List.set_cons_zero, List.set_cons_succ, f4, f9] at hE ⊢
    clear f4 f9
    go_wp2_with fail
    refine calls_then (equal_t _ _ _ (by repeat (first | exact KX.out | exact KY.out | exact KZ.out | apply mul_ok | apply add_ok | apply sub_ok)) (by repeat (first | exact KX.out | exact KY.out | exact KZ.out | apply mul_ok | apply add_ok | apply sub_ok)) (by first | exact R2.out | exact R3'.out)) ?_
    rintro e w2 ⟨rfl, hb2⟩
    go_wp2_with fail
    exact .mk (hE _ (hC1.next hb2))
  apply DetL.next
  · -- 11: Op.move (Operand.tmp 55)
    apply detStep_plain [(10, some 55), (10, some 55)]
    exact fun _ => rfl
    rfl
    rintro vals ⟨⟨⟨⟨⟨⟨⟨⟨⟨⟨⟨-, -⟩, -⟩, -⟩, -⟩, -⟩, -⟩, -⟩, -⟩, -⟩, -⟩, f10⟩ w1 hC1 E hE
    simp only [puts, act_put, act_put_none, List.setIfInBounds_toArray, List.set_cons_zero, List.set_cons_succ, f10] at hE ⊢
    clear f10
    go_wp2
    exact .mk (hE _ hC1)
  apply DetL.next
  · -- 12: Op.load 26 (Operand.tmp 7)
    apply detStep_yes [(11, some 56)] (g := 11) (t := 56) (want := true)
    exact fun _ => rfl
    rfl
    rfl
    · rintro vals ⟨⟨⟨⟨⟨⟨⟨⟨⟨⟨⟨⟨-, -⟩, -⟩, -⟩, -⟩, -⟩, -⟩, -⟩, -⟩, -⟩, -⟩, -⟩, f11⟩
      simp only [puts, act_put, act_put_none, List.setIfInBounds_toArray, List.set_cons_zero, List.set_cons_succ, f11]
      rfl
    rintro vals ⟨⟨⟨⟨⟨⟨⟨⟨⟨⟨⟨⟨-, -⟩, -⟩, -⟩, -⟩, -⟩, -⟩, -⟩, -⟩, -⟩, -⟩, -⟩, f11⟩ w1 hC1 E hE
    dsimp only at hE ⊢
    simp only [puts, act_put, act_put_none, List.setIfInBounds_toArray, List.set_cons_zero, List.set_cons_succ, f11] at hE ⊢
    clear f11
    refine wpList_get_box hC1.x rfl rfl rfl hu rfl elem_size ?_
    go_wp2_with fail
    exact .mk (hE _ hC1)
  apply DetL.next
  · -- 13: Op.load 26 (Operand.tmp 9)
    apply detStep_yes [(11, some 56)] (g := 11) (t := 56) (want := true)
    exact fun _ => rfl
    rfl
    rfl
    · rintro vals ⟨⟨⟨⟨⟨⟨⟨⟨⟨⟨⟨⟨⟨-, -⟩, -⟩, -⟩, -⟩, -⟩, -⟩, -⟩, -⟩, -⟩, -⟩, -⟩, f11⟩, -⟩
      simp only [puts, act_put, act_put_none, List.setIfInBounds_toArray, List.set_cons_zero, List.set_cons_succ, f11]
      rfl
    rintro vals ⟨⟨⟨⟨⟨⟨⟨⟨⟨⟨⟨⟨⟨-, -⟩, -⟩, -⟩, -⟩, -⟩, -⟩, -⟩, -⟩, -⟩, -⟩, -⟩, f11⟩, -⟩ w1 hC1 E hE
    dsimp only at hE ⊢
    simp only [puts, act_put, act_put_none, List.setIfInBounds_toArray, List.set_cons_zero, List.set_cons_succ, f11] at hE ⊢
    clear f11
    refine wpList_get_box hC1.y rfl rfl rfl hu rfl elem_size ?_
    go_wp2_with fail
    exact .mk (hE _ hC1)
  apply DetL.next
  · -- 14: Op.call { callee := Callee.value (Operand.func 22), args := #[Operand.tmp 57, Operand.tmp 58], argTypes := #[2
    apply detStep_yes [(12, some 57), (13, some 58), (11, some 56), (11, some 56)] (g := 11) (t := 56) (want := true)
    exact fun _ => rfl
    rfl
    rfl
    · rintro vals ⟨⟨⟨⟨⟨⟨⟨⟨⟨⟨⟨⟨⟨⟨-, -⟩, -⟩, -⟩, -⟩, -⟩, -⟩, -⟩, -⟩, -⟩, -⟩, -⟩, f11⟩, f12⟩, f13⟩
      simp only [puts, act_put, act_put_none, List.setIfInBounds_toArray, List.set_cons_zero, List.set_cons_succ, f11, f12, f13]
      rfl
    rintro vals ⟨⟨⟨⟨⟨⟨⟨⟨⟨⟨⟨⟨⟨⟨-, -⟩, -⟩, -⟩, -⟩, -⟩, -⟩, -⟩, -⟩, -⟩, -⟩, -⟩, f11⟩, f12⟩, f13⟩ w1 hC1 E hE
    dsimp only at hE ⊢
    simp only [puts, act_put, act_put_none, List.setIfInBounds_toArray, List.set_cons_zero, List.set_cons_succ, f11, f12, f13] at hE ⊢
    clear f11 f12 f13
    go_wp2_with fail
    refine calls_then (mul_c _ _ _ (by repeat (first | exact KX.out | exact KY.out | exact KZ.out | apply mul_ok | apply add_ok | apply sub_ok)) (by repeat (first | exact KX.out | exact KY.out | exact KZ.out | apply mul_ok | apply add_ok | apply sub_ok))) ?_
    rintro e w2 ⟨rfl, hb2⟩
    go_wp2_with fail
    exact .mk (hE _ (hC1.next hb2))
  apply DetL.next
  · -- 15: Op.load 26 (Operand.tmp 9)
    apply detStep_yes [(11, some 56)] (g := 11) (t := 56) (want := true)
    exact fun _ => rfl
    rfl
    rfl
    · rintro vals ⟨⟨⟨⟨⟨⟨⟨⟨⟨⟨⟨⟨⟨⟨⟨-, -⟩, -⟩, -⟩, -⟩, -⟩, -⟩, -⟩, -⟩, -⟩, -⟩, -⟩, f11⟩, -⟩, -⟩, -⟩
      simp only [puts, act_put, act_put_none, List.setIfInBounds_toArray, List.set_cons_zero, List.set_cons_succ, f11]
      rfl
    rintro vals ⟨⟨⟨⟨⟨⟨⟨⟨⟨⟨⟨⟨⟨⟨⟨-, -⟩, -⟩, -⟩, -⟩, -⟩, -⟩, -⟩, -⟩, -⟩, -⟩, -⟩, f11⟩, -⟩, -⟩, -⟩ w1 hC1 E hE
    dsimp only at hE ⊢
    simp only [puts, act_put, act_put_none, List.setIfInBounds_toArray, List.set_cons_zero, List.set_cons_succ, f11] at hE ⊢
    clear f11
    refine wpList_get_box hC1.y rfl rfl rfl hu rfl elem_size ?_
    go_wp2_with fail
    exact .mk (hE _ hC1)
  apply DetL.next
  · -- 16: Op.load 26 (Operand.tmp 7)
    apply detStep_yes [(11, some 56)] (g := 11) (t := 56) (want := true)
    exact fun _ => rfl
    rfl
    rfl
    · rintro vals ⟨⟨⟨⟨⟨⟨⟨⟨⟨⟨⟨⟨⟨⟨⟨⟨-, -⟩, -⟩, -⟩, -⟩, -⟩, -⟩, -⟩, -⟩, -⟩, -⟩, -⟩, f11⟩, -⟩, -⟩, -⟩, -⟩
      simp only [puts, act_put, act_put_none, List.setIfInBounds_toArray, List.set_cons_zero, List.set_cons_succ, f11]
      rfl
    rintro vals ⟨⟨⟨⟨⟨⟨⟨⟨⟨⟨⟨⟨⟨⟨⟨⟨-, -⟩, -⟩, -⟩, -⟩, -⟩, -⟩, -⟩, -⟩, -⟩, -⟩, -⟩, f11⟩, -⟩, -⟩, -⟩, -⟩ w1 hC1 E hE
    dsimp only at hE ⊢
    simp only [puts, act_put, act_put_none, List.setIfInBounds_toArray, List.set_cons_zero, List.set_cons_succ, f11] at hE ⊢
    clear f11
    refine wpList_get_box hC1.x rfl rfl rfl hu rfl elem_size ?_
    go_wp2_with fail
    exact .mk (hE _ hC1)
  apply DetL.next
  · -- 17: Op.call { callee := Callee.value (Operand.func 22), args := #[Operand.tmp 60, Operand.tmp 61], argTypes := #[2
    apply detStep_yes [(15, some 60), (16, some 61), (14, some 59), (11, some 56)] (g := 11) (t := 56) (want := true)
    exact fun _ => rfl
    rfl
    rfl
    · rintro vals ⟨⟨⟨⟨⟨⟨⟨⟨⟨⟨⟨⟨⟨⟨⟨⟨⟨-, -⟩, -⟩, -⟩, -⟩, -⟩, -⟩, -⟩, -⟩, -⟩, -⟩, -⟩, f11⟩, -⟩, -⟩, f14⟩, f15⟩, f16⟩
      simp only [puts, act_put, act_put_none, List.setIfInBounds_toArray, List.set_cons_zero, List.set_cons_succ, f11, f14, f15, f16]
      rfl
    rintro vals ⟨⟨⟨⟨⟨⟨⟨⟨⟨⟨⟨⟨⟨⟨⟨⟨⟨-, -⟩, -⟩, -⟩, -⟩, -⟩, -⟩, -⟩, -⟩, -⟩, -⟩, -⟩, f11⟩, -⟩, -⟩, f14⟩, f15⟩, f16⟩ w1 hC1 E hE
    dsimp only at hE ⊢
    simp only [puts, act_put, act_put_none, List.setIfInBounds_toArray, List.set_cons_zero, List.set_cons_succ, f11, f14, f15, f16] at hE ⊢
    clear f11 f14 f15 f16
    go_wp2_with fail
    refine calls_then (mul_c _ _ _ (by repeat (first | exact KX.out | exact KY.out | exact KZ.out | apply mul_ok | apply add_ok | apply sub_ok)) (by repeat (first | exact KX.out | exact KY.out | exact KZ.out | apply mul_ok | apply add_ok | apply sub_ok))) ?_
    rintro e w2 ⟨rfl, hb2⟩
    go_wp2_with fail
    exact .mk (hE _ (hC1.next hb2))
  apply DetL.next
  · -- 18: Op.call { callee := Callee.value (Operand.func 12), args := #[Operand.tmp 59, Operand.tmp 62], argTypes := #[2
    apply detStep_yes [(14, some 59), (17, some 62), (17, some 62), (11, some 56)] (g := 11) (t := 56) (want := true)
    exact fun _ => rfl
    rfl
    rfl
    · rintro vals ⟨⟨⟨⟨⟨⟨⟨⟨⟨⟨⟨⟨⟨⟨⟨⟨⟨⟨-, -⟩, -⟩, -⟩, -⟩, -⟩, -⟩, -⟩, -⟩, -⟩, -⟩, -⟩, f11⟩, -⟩, -⟩, f14⟩, -⟩, -⟩, f17⟩
      simp only [puts, act_put, act_put_none, List.setIfInBounds_toArray, List.set_cons_zero, List.set_cons_succ, f11, f14, f17]
      rfl
    rintro vals ⟨⟨⟨⟨⟨⟨⟨⟨⟨⟨⟨⟨⟨⟨⟨⟨⟨⟨-, -⟩, -⟩, -⟩, -⟩, -⟩, -⟩, -⟩, -⟩, -⟩, -⟩, -⟩, f11⟩, -⟩, -⟩, f14⟩, -⟩, -⟩, f17⟩ w1 hC1 E hE
    dsimp only at hE ⊢
    simp only [puts, act_put, act_put_none, List.setIfInBounds_toArray, List.set_cons_zero, List.set_cons_succ, f11, f14, f17] at hE ⊢
    clear f11 f14 f17
    go_wp2_with fail
    refine calls_then (equal_t _ _ _ (by repeat (first | exact KX.out | exact KY.out | exact KZ.out | apply mul_ok | apply add_ok | apply sub_ok)) (by repeat (first | exact KX.out | exact KY.out | exact KZ.out | apply mul_ok | apply add_ok | apply sub_ok)) (by first | exact R2.out | exact R3'.out)) ?_
    rintro e w2 ⟨rfl, hb2⟩
    go_wp2_with fail
    exact .mk (hE _ (hC1.next hb2))
  apply DetL.next
  · -- 19: Op.pick (Operand.tmp 56) (Operand.tmp 63) (Operand.const (Value.bool false))
    apply detStep_plain [(11, some 56), (18, some 63)]
    exact fun _ => rfl
    rfl
    rintro vals ⟨⟨⟨⟨⟨⟨⟨⟨⟨⟨⟨⟨⟨⟨⟨⟨⟨⟨⟨-, -⟩, -⟩, -⟩, -⟩, -⟩, -⟩, -⟩, -⟩, -⟩, -⟩, -⟩, f11⟩, -⟩, -⟩, -⟩, -⟩, -⟩, -⟩, f18⟩ w1 hC1 E hE
    simp only [puts, act_put, act_put_none, List.setIfInBounds_toArray, List.set_cons_zero, List.set_cons_succ, f11, f18] at hE ⊢
    clear f11 f18
    go_wp2
    exact .mk (hE _ hC1)
  apply DetL.last
  · -- 20: Op.assign (Operand.tmp 64)
    apply detStep_plain [(19, some 64), (18, some 63), (0, some 45), (1, some 46), (2, some 47), (3, some 48), (4, some 49), (5, some 50), (6, some 51), (7, some 52), (8, some 53), (9, some 54), (10, some 55), (11, some 56), (12, some 57), (13, some 58), (14, some 59), (15, some 60), (16, some 61), (17, some 62), (18, some 63), (19, some 64)]
    exact fun _ => rfl
    rfl
    rintro vals ⟨⟨⟨⟨⟨⟨⟨⟨⟨⟨⟨⟨⟨⟨⟨⟨⟨⟨⟨⟨-, f0⟩, f1⟩, f2⟩, f3⟩, f4⟩, f5⟩, f6⟩, f7⟩, f8⟩, f9⟩, f10⟩, f11⟩, f12⟩, f13⟩, f14⟩, f15⟩, f16⟩, f17⟩, f18⟩, f19⟩ w1 hC1 E hE
    simp only [puts, act_put, act_put_none, List.setIfInBounds_toArray, List.set_cons_zero, List.set_cons_succ, f0, f1, f2, f3, f4, f5, f6, f7, f8, f9, f10, f11, f12, f13, f14, f15, f16, f17, f18, f19] at hE ⊢
    clear f0 f1 f2 f3 f4 f5 f6 f7 f8 f9 f10 f11 f12 f13 f14 f15 f16 f17 f18 f19
    go_wp2
    exact .mk (hE _ hC1)
  rintro vals ⟨⟨⟨⟨⟨⟨⟨⟨⟨⟨⟨⟨⟨⟨⟨⟨⟨⟨⟨⟨⟨-, f0⟩, f1⟩, f2⟩, f3⟩, f4⟩, f5⟩, f6⟩, f7⟩, f8⟩, f9⟩, f10⟩, f11⟩, f12⟩, f13⟩, f14⟩, f15⟩, f16⟩, f17⟩, f18⟩, f19⟩, f20⟩ w1 hC1
  simp only [puts, act_put, act_put_none, List.setIfInBounds_toArray, List.set_cons_zero, List.set_cons_succ, f0, f1, f2, f3, f4, f5, f6, f7, f8, f9, f10, f11, f12, f13, f14, f15, f16, f17, f18, f19, f20]
  clear f0 f1 f2 f3 f4 f5 f6 f7 f8 f9 f10 f11 f12 f13 f14 f15 f16 f17 f18 f19 f20
  have HST := Lib.hid hC1
  clear hC1 HC0
  go_wp2_with fail
  have HC0 := HST.out.drew
  clear HST
  refine wp_region_det (fun u => R3 w g h r (eV X) (eV Y) (eV Z) u) (fun u => R3 w g h r (eV X) (eV Y) (eV Z) u) [(0, some 65), (1, some 66), (2, some 67), (3, some 68), (4, some 69), (5, some 70), (6, some 71), (7, some 72), (8, some 73), (9, some 74), (10, some 75), (11, some 76), (12, some 77), (13, some 78), (14, some 79), (15, some 80), (16, some 81), (17, some 82), (18, some 83), (19, some 84), (20, some 15)] (by kernel_rfl) (by kernel_rfl) (by decide) (by kernel_rfl) (fun _ => rfl) HC0 ?_
  apply DetL.next
  · -- 0: Op.load 26 (Operand.tmp 7)
    apply detStep_plain []
    exact fun _ => rfl
    rfl
    rintro vals - w1 hC1 E hE
    simp only [puts, act_put, act_put_none, List.setIfInBounds_toArray, List.set_cons_zero, List.set_cons_succ] at hE ⊢
    refine wpList_get_box hC1.x rfl rfl rfl hu rfl elem_size ?_
    go_wp2_with fail
    exact .mk (hE _ hC1)
  apply DetL.next
  · -- 1: Op.load 26 (Operand.tmp 9)
    apply detStep_plain []
    exact fun _ => rfl
    rfl
    rintro vals ⟨-, -⟩ w1 hC1 E hE
    simp only [puts, act_put, act_put_none, List.setIfInBounds_toArray, List.set_cons_zero, List.set_cons_succ] at hE ⊢
    refine wpList_get_box hC1.y rfl rfl rfl hu rfl elem_size ?_
    go_wp2_with fail
    exact .mk (hE _ hC1)
  apply DetL.next
  · -- 2: Op.call { callee := Callee.value (Operand.func 27), args := #[Operand.tmp 65, Operand.tmp 66], argTypes := #[2
    apply detStep_plain [(0, some 65), (1, some 66)]
    exact fun _ => rfl
    rfl
    rintro vals ⟨⟨-, f0⟩, f1⟩ w1 hC1 E hE
    simp only [puts, act_put, act_put_none, List.setIfInBounds_toArray, List.set_cons_zero, List.set_cons_succ, f0, f1] at hE ⊢
    clear f0 f1
    go_wp2_with fail
    refine calls_then (add_c _ _ _ (by repeat (first | exact KX.out | exact KY.out | exact KZ.out | apply mul_ok | apply add_ok | apply sub_ok)) (by repeat (first | exact KX.out | exact KY.out | exact KZ.out | apply mul_ok | apply add_ok | apply sub_ok))) ?_
    rintro e w2 ⟨rfl, hb2⟩
    go_wp2_with fail
    exact .mk (hE _ (hC1.next hb2))
  apply DetL.next
  · -- 3: Op.load 26 (Operand.tmp 11)
    apply detStep_plain []
    exact fun _ => rfl
    rfl
    rintro vals ⟨⟨⟨-, -⟩, -⟩, -⟩ w1 hC1 E hE
    simp only [puts, act_put, act_put_none, List.setIfInBounds_toArray, List.set_cons_zero, List.set_cons_succ] at hE ⊢
    refine wpList_get_box hC1.z rfl rfl rfl hu rfl elem_size ?_
    go_wp2_with fail
    exact .mk (hE _ hC1)
  apply DetL.next
  · -- 4: Op.call { callee := Callee.value (Operand.func 27), args := #[Operand.tmp 67, Operand.tmp 68], argTypes := #[2
    apply detStep_plain [(2, some 67), (3, some 68), (2, some 67)]
    exact fun _ => rfl
    rfl
    rintro vals ⟨⟨⟨⟨-, -⟩, -⟩, f2⟩, f3⟩ w1 hC1 E hE
    simp only [puts, act_put, act_put_none, List.setIfInBounds_toArray, List.set_cons_zero, List.set_cons_succ, f2, f3] at hE ⊢
    clear f2 f3
    go_wp2_with fail
    refine calls_then (add_c _ _ _ (by repeat (first | exact KX.out | exact KY.out | exact KZ.out | apply mul_ok | apply add_ok | apply sub_ok)) (by repeat (first | exact KX.out | exact KY.out | exact KZ.out | apply mul_ok | apply add_ok | apply sub_ok))) ?_
    rintro e w2 ⟨rfl, hb2⟩
    go_wp2_with fail
    exact .mk (hE _ (hC1.next hb2))
  apply DetL.next
  · -- 5: Op.load 26 (Operand.tmp 7)
    apply detStep_plain []
    exact fun _ => rfl
    rfl
    rintro vals ⟨⟨⟨⟨⟨-, -⟩, -⟩, -⟩, -⟩, -⟩ w1 hC1 E hE
    simp only [puts, act_put, act_put_none, List.setIfInBounds_toArray, List.set_cons_zero, List.set_cons_succ] at hE ⊢
    refine wpList_get_box hC1.x rfl rfl rfl hu rfl elem_size ?_
    go_wp2_with fail
    exact .mk (hE _ hC1)
  apply DetL.next
  · -- 6: Op.load 26 (Operand.tmp 9)
    apply detStep_plain []
    exact fun _ => rfl
    rfl
    rintro vals ⟨⟨⟨⟨⟨⟨-, -⟩, -⟩, -⟩, -⟩, -⟩, -⟩ w1 hC1 E hE
    simp only [puts, act_put, act_put_none, List.setIfInBounds_toArray, List.set_cons_zero, List.set_cons_succ] at hE ⊢
    refine wpList_get_box hC1.y rfl rfl rfl hu rfl elem_size ?_
    go_wp2_with fail
    exact .mk (hE _ hC1)
  apply DetL.next
  · -- 7: Op.load 26 (Operand.tmp 11)
    apply detStep_plain []
    exact fun _ => rfl
    rfl
    rintro vals ⟨⟨⟨⟨⟨⟨⟨-, -⟩, -⟩, -⟩, -⟩, -⟩, -⟩, -⟩ w1 hC1 E hE
    simp only [puts, act_put, act_put_none, List.setIfInBounds_toArray, List.set_cons_zero, List.set_cons_succ] at hE ⊢
    refine wpList_get_box hC1.z rfl rfl rfl hu rfl elem_size ?_
    go_wp2_with fail
    exact .mk (hE _ hC1)
  apply DetL.next
  · -- 8: Op.call { callee := Callee.value (Operand.func 27), args := #[Operand.tmp 71, Operand.tmp 72], argTypes := #[2
    apply detStep_plain [(6, some 71), (7, some 72), (4, some 69)]
    exact fun _ => rfl
    rfl
    rintro vals ⟨⟨⟨⟨⟨⟨⟨⟨-, -⟩, -⟩, -⟩, -⟩, f4⟩, -⟩, f6⟩, f7⟩ w1 hC1 E hE
    simp only [puts, act_put, act_put_none, List.setIfInBounds_toArray, List.set_cons_zero, List.set_cons_succ, f4, f6, f7] at hE ⊢
    clear f4 f6 f7
    go_wp2_with fail
    refine calls_then (add_c _ _ _ (by repeat (first | exact KX.out | exact KY.out | exact KZ.out | apply mul_ok | apply add_ok | apply sub_ok)) (by repeat (first | exact KX.out | exact KY.out | exact KZ.out | apply mul_ok | apply add_ok | apply sub_ok))) ?_
    rintro e w2 ⟨rfl, hb2⟩
    go_wp2_with fail
    exact .mk (hE _ (hC1.next hb2))
  apply DetL.next
  · -- 9: Op.call { callee := Callee.value (Operand.func 27), args := #[Operand.tmp 70, Operand.tmp 73], argTypes := #[2
    apply detStep_plain [(5, some 70), (8, some 73), (8, some 73)]
    exact fun _ => rfl
    rfl
    rintro vals ⟨⟨⟨⟨⟨⟨⟨⟨⟨-, -⟩, -⟩, -⟩, -⟩, -⟩, f5⟩, -⟩, -⟩, f8⟩ w1 hC1 E hE
    simp only [puts, act_put, act_put_none, List.setIfInBounds_toArray, List.set_cons_zero, List.set_cons_succ, f5, f8] at hE ⊢
    clear f5 f8
    go_wp2_with fail
    refine calls_then (add_c _ _ _ (by repeat (first | exact KX.out | exact KY.out | exact KZ.out | apply mul_ok | apply add_ok | apply sub_ok)) (by repeat (first | exact KX.out | exact KY.out | exact KZ.out | apply mul_ok | apply add_ok | apply sub_ok))) ?_
    rintro e w2 ⟨rfl, hb2⟩
    go_wp2_with fail
    exact .mk (hE _ (hC1.next hb2))
  apply DetL.next
  · -- 10: Op.call { callee := Callee.value (Operand.func 12), args := #[Operand.tmp 69, Operand.tmp 74], argTypes := #[2
    apply detStep_plain [(4, some 69), (9, some 74), (9, some 74)]
    exact fun _ => rfl
    rfl
    rintro vals ⟨⟨⟨⟨⟨⟨⟨⟨⟨⟨-, -⟩, -⟩, -⟩, -⟩, f4⟩, -⟩, -⟩, -⟩, -⟩, f9⟩ w1 hC1 E hE
    simp only [puts, act_put, act_put_none, List.setIfInBounds_toArray, List.set_cons_zero, List.set_cons_succ, f4, f9] at hE ⊢
    clear f4 f9
    go_wp2_with fail
    refine calls_then (equal_t _ _ _ (by repeat (first | exact KX.out | exact KY.out | exact KZ.out | apply mul_ok | apply add_ok | apply sub_ok)) (by repeat (first | exact KX.out | exact KY.out | exact KZ.out | apply mul_ok | apply add_ok | apply sub_ok)) (by first | exact R4.out | exact R5.out)) ?_
    rintro e w2 ⟨rfl, hb2⟩
    go_wp2_with fail
    exact .mk (hE _ (hC1.next hb2))
  apply DetL.next
  · -- 11: Op.move (Operand.tmp 75)
    apply detStep_plain [(10, some 75), (10, some 75)]
    exact fun _ => rfl
    rfl
    rintro vals ⟨⟨⟨⟨⟨⟨⟨⟨⟨⟨⟨-, -⟩, -⟩, -⟩, -⟩, -⟩, -⟩, -⟩, -⟩, -⟩, -⟩, f10⟩ w1 hC1 E hE
    simp only [puts, act_put, act_put_none, List.setIfInBounds_toArray, List.set_cons_zero, List.set_cons_succ, f10] at hE ⊢
    clear f10
    go_wp2
    exact .mk (hE _ hC1)
  apply DetL.next
  · -- 12: Op.load 26 (Operand.tmp 7)
    apply detStep_yes [(11, some 76)] (g := 11) (t := 76) (want := true)
    exact fun _ => rfl
    rfl
    rfl
    · rintro vals ⟨⟨⟨⟨⟨⟨⟨⟨⟨⟨⟨⟨-, -⟩, -⟩, -⟩, -⟩, -⟩, -⟩, -⟩, -⟩, -⟩, -⟩, -⟩, f11⟩
      simp only [puts, act_put, act_put_none, List.setIfInBounds_toArray, List.set_cons_zero, List.set_cons_succ, f11]
      rfl
    rintro vals ⟨⟨⟨⟨⟨⟨⟨⟨⟨⟨⟨⟨-, -⟩, -⟩, -⟩, -⟩, -⟩, -⟩, -⟩, -⟩, -⟩, -⟩, -⟩, f11⟩ w1 hC1 E hE
    dsimp only at hE ⊢
    simp only [puts, act_put, act_put_none, List.setIfInBounds_toArray, List.set_cons_zero, List.set_cons_succ, f11] at hE ⊢
    clear f11
    refine wpList_get_box hC1.x rfl rfl rfl hu rfl elem_size ?_
    go_wp2_with fail
    exact .mk (hE _ hC1)
  apply DetL.next
  · -- 13: Op.load 26 (Operand.tmp 9)
    apply detStep_yes [(11, some 76)] (g := 11) (t := 76) (want := true)
    exact fun _ => rfl
    rfl
    rfl
    · rintro vals ⟨⟨⟨⟨⟨⟨⟨⟨⟨⟨⟨⟨⟨-, -⟩, -⟩, -⟩, -⟩, -⟩, -⟩, -⟩, -⟩, -⟩, -⟩, -⟩, f11⟩, -⟩
      simp only [puts, act_put, act_put_none, List.setIfInBounds_toArray, List.set_cons_zero, List.set_cons_succ, f11]
      rfl
    rintro vals ⟨⟨⟨⟨⟨⟨⟨⟨⟨⟨⟨⟨⟨-, -⟩, -⟩, -⟩, -⟩, -⟩, -⟩, -⟩, -⟩, -⟩, -⟩, -⟩, f11⟩, -⟩ w1 hC1 E hE
    dsimp only at hE ⊢
    simp only [puts, act_put, act_put_none, List.setIfInBounds_toArray, List.set_cons_zero, List.set_cons_succ, f11] at hE ⊢
    clear f11
    refine wpList_get_box hC1.y rfl rfl rfl hu rfl elem_size ?_
    go_wp2_with fail
    exact .mk (hE _ hC1)
  apply DetL.next
  · -- 14: Op.call { callee := Callee.value (Operand.func 28), args := #[Operand.tmp 77, Operand.tmp 78], argTypes := #[2
    apply detStep_yes [(12, some 77), (13, some 78), (11, some 76), (11, some 76)] (g := 11) (t := 76) (want := true)
    exact fun _ => rfl
    rfl
    rfl
    · rintro vals ⟨⟨⟨⟨⟨⟨⟨⟨⟨⟨⟨⟨⟨⟨-, -⟩, -⟩, -⟩, -⟩, -⟩, -⟩, -⟩, -⟩, -⟩, -⟩, -⟩, f11⟩, f12⟩, f13⟩
      simp only [puts, act_put, act_put_none, List.setIfInBounds_toArray, List.set_cons_zero, List.set_cons_succ, f11, f12, f13]
      rfl
    rintro vals ⟨⟨⟨⟨⟨⟨⟨⟨⟨⟨⟨⟨⟨⟨-, -⟩, -⟩, -⟩, -⟩, -⟩, -⟩, -⟩, -⟩, -⟩, -⟩, -⟩, f11⟩, f12⟩, f13⟩ w1 hC1 E hE
    dsimp only at hE ⊢
    simp only [puts, act_put, act_put_none, List.setIfInBounds_toArray, List.set_cons_zero, List.set_cons_succ, f11, f12, f13] at hE ⊢
    clear f11 f12 f13
    go_wp2_with fail
    refine calls_then (sub_c _ _ _ (by repeat (first | exact KX.out | exact KY.out | exact KZ.out | apply mul_ok | apply add_ok | apply sub_ok)) (by repeat (first | exact KX.out | exact KY.out | exact KZ.out | apply mul_ok | apply add_ok | apply sub_ok))) ?_
    rintro e w2 ⟨rfl, hb2⟩
    go_wp2_with fail
    exact .mk (hE _ (hC1.next hb2))
  apply DetL.next
  · -- 15: Op.load 26 (Operand.tmp 9)
    apply detStep_yes [(11, some 76)] (g := 11) (t := 76) (want := true)
    exact fun _ => rfl
    rfl
    rfl
    · rintro vals ⟨⟨⟨⟨⟨⟨⟨⟨⟨⟨⟨⟨⟨⟨⟨-, -⟩, -⟩, -⟩, -⟩, -⟩, -⟩, -⟩, -⟩, -⟩, -⟩, -⟩, f11⟩, -⟩, -⟩, -⟩
      simp only [puts, act_put, act_put_none, List.setIfInBounds_toArray, List.set_cons_zero, List.set_cons_succ, f11]
      rfl
    rintro vals ⟨⟨⟨⟨⟨⟨⟨⟨⟨⟨⟨⟨⟨⟨⟨-, -⟩, -⟩, -⟩, -⟩, -⟩, -⟩, -⟩, -⟩, -⟩, -⟩, -⟩, f11⟩, -⟩, -⟩, -⟩ w1 hC1 E hE
    dsimp only at hE ⊢
    simp only [puts, act_put, act_put_none, List.setIfInBounds_toArray, List.set_cons_zero, List.set_cons_succ, f11] at hE ⊢
    clear f11
    refine wpList_get_box hC1.y rfl rfl rfl hu rfl elem_size ?_
    go_wp2_with fail
    exact .mk (hE _ hC1)
  apply DetL.next
  · -- 16: Op.call { callee := Callee.value (Operand.func 27), args := #[Operand.tmp 79, Operand.tmp 80], argTypes := #[2
    apply detStep_yes [(14, some 79), (15, some 80), (14, some 79), (11, some 76)] (g := 11) (t := 76) (want := true)
    exact fun _ => rfl
    rfl
    rfl
    · rintro vals ⟨⟨⟨⟨⟨⟨⟨⟨⟨⟨⟨⟨⟨⟨⟨⟨-, -⟩, -⟩, -⟩, -⟩, -⟩, -⟩, -⟩, -⟩, -⟩, -⟩, -⟩, f11⟩, -⟩, -⟩, f14⟩, f15⟩
      simp only [puts, act_put, act_put_none, List.setIfInBounds_toArray, List.set_cons_zero, List.set_cons_succ, f11, f14, f15]
      rfl
    rintro vals ⟨⟨⟨⟨⟨⟨⟨⟨⟨⟨⟨⟨⟨⟨⟨⟨-, -⟩, -⟩, -⟩, -⟩, -⟩, -⟩, -⟩, -⟩, -⟩, -⟩, -⟩, f11⟩, -⟩, -⟩, f14⟩, f15⟩ w1 hC1 E hE
    dsimp only at hE ⊢
    simp only [puts, act_put, act_put_none, List.setIfInBounds_toArray, List.set_cons_zero, List.set_cons_succ, f11, f14, f15] at hE ⊢
    clear f11 f14 f15
    go_wp2_with fail
    refine calls_then (add_c _ _ _ (by repeat (first | exact KX.out | exact KY.out | exact KZ.out | apply mul_ok | apply add_ok | apply sub_ok)) (by repeat (first | exact KX.out | exact KY.out | exact KZ.out | apply mul_ok | apply add_ok | apply sub_ok))) ?_
    rintro e w2 ⟨rfl, hb2⟩
    go_wp2_with fail
    exact .mk (hE _ (hC1.next hb2))
  apply DetL.next
  · -- 17: Op.load 26 (Operand.tmp 7)
    apply detStep_yes [(11, some 76)] (g := 11) (t := 76) (want := true)
    exact fun _ => rfl
    rfl
    rfl
    · rintro vals ⟨⟨⟨⟨⟨⟨⟨⟨⟨⟨⟨⟨⟨⟨⟨⟨⟨-, -⟩, -⟩, -⟩, -⟩, -⟩, -⟩, -⟩, -⟩, -⟩, -⟩, -⟩, f11⟩, -⟩, -⟩, -⟩, -⟩, -⟩
      simp only [puts, act_put, act_put_none, List.setIfInBounds_toArray, List.set_cons_zero, List.set_cons_succ, f11]
      rfl
    rintro vals ⟨⟨⟨⟨⟨⟨⟨⟨⟨⟨⟨⟨⟨⟨⟨⟨⟨-, -⟩, -⟩, -⟩, -⟩, -⟩, -⟩, -⟩, -⟩, -⟩, -⟩, -⟩, f11⟩, -⟩, -⟩, -⟩, -⟩, -⟩ w1 hC1 E hE
    dsimp only at hE ⊢
    simp only [puts, act_put, act_put_none, List.setIfInBounds_toArray, List.set_cons_zero, List.set_cons_succ, f11] at hE ⊢
    clear f11
    refine wpList_get_box hC1.x rfl rfl rfl hu rfl elem_size ?_
    go_wp2_with fail
    exact .mk (hE _ hC1)
  apply DetL.next
  · -- 18: Op.call { callee := Callee.value (Operand.func 12), args := #[Operand.tmp 81, Operand.tmp 82], argTypes := #[2
    apply detStep_yes [(16, some 81), (17, some 82), (16, some 81), (11, some 76)] (g := 11) (t := 76) (want := true)
    exact fun _ => rfl
    rfl
    rfl
    · rintro vals ⟨⟨⟨⟨⟨⟨⟨⟨⟨⟨⟨⟨⟨⟨⟨⟨⟨⟨-, -⟩, -⟩, -⟩, -⟩, -⟩, -⟩, -⟩, -⟩, -⟩, -⟩, -⟩, f11⟩, -⟩, -⟩, -⟩, -⟩, f16⟩, f17⟩
      simp only [puts, act_put, act_put_none, List.setIfInBounds_toArray, List.set_cons_zero, List.set_cons_succ, f11, f16, f17]
      rfl
    rintro vals ⟨⟨⟨⟨⟨⟨⟨⟨⟨⟨⟨⟨⟨⟨⟨⟨⟨⟨-, -⟩, -⟩, -⟩, -⟩, -⟩, -⟩, -⟩, -⟩, -⟩, -⟩, -⟩, f11⟩, -⟩, -⟩, -⟩, -⟩, f16⟩, f17⟩ w1 hC1 E hE
    dsimp only at hE ⊢
    simp only [puts, act_put, act_put_none, List.setIfInBounds_toArray, List.set_cons_zero, List.set_cons_succ, f11, f16, f17] at hE ⊢
    clear f11 f16 f17
    go_wp2_with fail
    refine calls_then (equal_t _ _ _ (by repeat (first | exact KX.out | exact KY.out | exact KZ.out | apply mul_ok | apply add_ok | apply sub_ok)) (by repeat (first | exact KX.out | exact KY.out | exact KZ.out | apply mul_ok | apply add_ok | apply sub_ok)) (by first | exact R4.out | exact R5.out)) ?_
    rintro e w2 ⟨rfl, hb2⟩
    go_wp2_with fail
    exact .mk (hE _ (hC1.next hb2))
  apply DetL.next
  · -- 19: Op.pick (Operand.tmp 76) (Operand.tmp 83) (Operand.const (Value.bool false))
    apply detStep_plain [(11, some 76), (18, some 83)]
    exact fun _ => rfl
    rfl
    rintro vals ⟨⟨⟨⟨⟨⟨⟨⟨⟨⟨⟨⟨⟨⟨⟨⟨⟨⟨⟨-, -⟩, -⟩, -⟩, -⟩, -⟩, -⟩, -⟩, -⟩, -⟩, -⟩, -⟩, f11⟩, -⟩, -⟩, -⟩, -⟩, -⟩, -⟩, f18⟩ w1 hC1 E hE
    simp only [puts, act_put, act_put_none, List.setIfInBounds_toArray, List.set_cons_zero, List.set_cons_succ, f11, f18] at hE ⊢
    clear f11 f18
    go_wp2
    exact .mk (hE _ hC1)
  apply DetL.last
  · -- 20: Op.assign (Operand.tmp 84)
    apply detStep_plain [(19, some 84), (18, some 83), (0, some 65), (1, some 66), (2, some 67), (3, some 68), (4, some 69), (5, some 70), (6, some 71), (7, some 72), (8, some 73), (9, some 74), (10, some 75), (11, some 76), (12, some 77), (13, some 78), (14, some 79), (15, some 80), (16, some 81), (17, some 82), (18, some 83), (19, some 84)]
    exact fun _ => rfl
    rfl
    rintro vals ⟨⟨⟨⟨⟨⟨⟨⟨⟨⟨⟨⟨⟨⟨⟨⟨⟨⟨⟨⟨-, f0⟩, f1⟩, f2⟩, f3⟩, f4⟩, f5⟩, f6⟩, f7⟩, f8⟩, f9⟩, f10⟩, f11⟩, f12⟩, f13⟩, f14⟩, f15⟩, f16⟩, f17⟩, f18⟩, f19⟩ w1 hC1 E hE
    simp only [puts, act_put, act_put_none, List.setIfInBounds_toArray, List.set_cons_zero, List.set_cons_succ, f0, f1, f2, f3, f4, f5, f6, f7, f8, f9, f10, f11, f12, f13, f14, f15, f16, f17, f18, f19] at hE ⊢
    clear f0 f1 f2 f3 f4 f5 f6 f7 f8 f9 f10 f11 f12 f13 f14 f15 f16 f17 f18 f19
    go_wp2
    exact .mk (hE _ hC1)
  rintro vals ⟨⟨⟨⟨⟨⟨⟨⟨⟨⟨⟨⟨⟨⟨⟨⟨⟨⟨⟨⟨⟨-, f0⟩, f1⟩, f2⟩, f3⟩, f4⟩, f5⟩, f6⟩, f7⟩, f8⟩, f9⟩, f10⟩, f11⟩, f12⟩, f13⟩, f14⟩, f15⟩, f16⟩, f17⟩, f18⟩, f19⟩, f20⟩ w1 hC1
  simp only [puts, act_put, act_put_none, List.setIfInBounds_toArray, List.set_cons_zero, List.set_cons_succ, f0, f1, f2, f3, f4, f5, f6, f7, f8, f9, f10, f11, f12, f13, f14, f15, f16, f17, f18, f19, f20]
  clear f0 f1 f2 f3 f4 f5 f6 f7 f8 f9 f10 f11 f12 f13 f14 f15 f16 f17 f18 f19 f20
  have HST := Lib.hid hC1
  clear hC1 HC0
  go_wp2_with fail
  have HC0 := HST.out.drew
  clear HST
  refine wp_region_det (fun u => R3 w g h r (eV X) (eV Y) (eV Z) u) (fun u => R3 w g h r (eV X) (eV Y) (eV Z) u) [(0, some 85), (1, some 86), (2, some 87), (3, some 88), (4, some 89), (5, some 90), (6, some 91), (7, some 92), (8, some 93), (9, some 94), (10, some 95), (11, some 96), (12, some 97), (13, some 98), (14, some 99), (15, some 16)] (by kernel_rfl) (by kernel_rfl) (by decide) (by kernel_rfl) (fun _ => rfl) HC0 ?_
  apply DetL.next
  · -- 0: Op.load 26 (Operand.tmp 7)
    apply detStep_plain []
    exact fun _ => rfl
    rfl
    rintro vals - w1 hC1 E hE
    simp only [puts, act_put, act_put_none, List.setIfInBounds_toArray, List.set_cons_zero, List.set_cons_succ] at hE ⊢
    refine wpList_get_box hC1.x rfl rfl rfl hu rfl elem_size ?_
    go_wp2_with fail
    exact .mk (hE _ hC1)
  apply DetL.next
  · -- 1: Op.load 26 (Operand.tmp 9)
    apply detStep_plain []
    exact fun _ => rfl
    rfl
    rintro vals ⟨-, -⟩ w1 hC1 E hE
    simp only [puts, act_put, act_put_none, List.setIfInBounds_toArray, List.set_cons_zero, List.set_cons_succ] at hE ⊢
    refine wpList_get_box hC1.y rfl rfl rfl hu rfl elem_size ?_
    go_wp2_with fail
    exact .mk (hE _ hC1)
  apply DetL.next
  · -- 2: Op.call { callee := Callee.value (Operand.func 28), args := #[Operand.tmp 85, Operand.tmp 86], argTypes := #[2
    apply detStep_plain [(0, some 85), (1, some 86)]
    exact fun _ => rfl
    rfl
    rintro vals ⟨⟨-, f0⟩, f1⟩ w1 hC1 E hE
    simp only [puts, act_put, act_put_none, List.setIfInBounds_toArray, List.set_cons_zero, List.set_cons_succ, f0, f1] at hE ⊢
    clear f0 f1
    go_wp2_with fail
    refine calls_then (sub_c _ _ _ (by repeat (first | exact KX.out | exact KY.out | exact KZ.out | apply mul_ok | apply add_ok | apply sub_ok)) (by repeat (first | exact KX.out | exact KY.out | exact KZ.out | apply mul_ok | apply add_ok | apply sub_ok))) ?_
    rintro e w2 ⟨rfl, hb2⟩
    go_wp2_with fail
    exact .mk (hE _ (hC1.next hb2))
  apply DetL.next
  · -- 3: Op.load 26 (Operand.tmp 7)
    apply detStep_plain []
    exact fun _ => rfl
    rfl
    rintro vals ⟨⟨⟨-, -⟩, -⟩, -⟩ w1 hC1 E hE
    simp only [puts, act_put, act_put_none, List.setIfInBounds_toArray, List.set_cons_zero, List.set_cons_succ] at hE ⊢
    refine wpList_get_box hC1.x rfl rfl rfl hu rfl elem_size ?_
    go_wp2_with fail
    exact .mk (hE _ hC1)
  apply DetL.next
  · -- 4: Op.load 26 (Operand.tmp 9)
    apply detStep_plain []
    exact fun _ => rfl
    rfl
    rintro vals ⟨⟨⟨⟨-, -⟩, -⟩, -⟩, -⟩ w1 hC1 E hE
    simp only [puts, act_put, act_put_none, List.setIfInBounds_toArray, List.set_cons_zero, List.set_cons_succ] at hE ⊢
    refine wpList_get_box hC1.y rfl rfl rfl hu rfl elem_size ?_
    go_wp2_with fail
    exact .mk (hE _ hC1)
  apply DetL.next
  · -- 5: Op.call { callee := Callee.value (Operand.func 27), args := #[Operand.tmp 88, Operand.tmp 89], argTypes := #[2
    apply detStep_plain [(3, some 88), (4, some 89), (2, some 87)]
    exact fun _ => rfl
    rfl
    rintro vals ⟨⟨⟨⟨⟨-, -⟩, -⟩, f2⟩, f3⟩, f4⟩ w1 hC1 E hE
    simp only [puts, act_put, act_put_none, List.setIfInBounds_toArray, List.set_cons_zero, List.set_cons_succ, f2, f3, f4] at hE ⊢
    clear f2 f3 f4
    go_wp2_with fail
    refine calls_then (add_c _ _ _ (by repeat (first | exact KX.out | exact KY.out | exact KZ.out | apply mul_ok | apply add_ok | apply sub_ok)) (by repeat (first | exact KX.out | exact KY.out | exact KZ.out | apply mul_ok | apply add_ok | apply sub_ok))) ?_
    rintro e w2 ⟨rfl, hb2⟩
    go_wp2_with fail
    exact .mk (hE _ (hC1.next hb2))
  apply DetL.next
  · -- 6: Op.call { callee := Callee.value (Operand.func 22), args := #[Operand.tmp 87, Operand.tmp 90], argTypes := #[2
    apply detStep_plain [(2, some 87), (5, some 90), (5, some 90)]
    exact fun _ => rfl
    rfl
    rintro vals ⟨⟨⟨⟨⟨⟨-, -⟩, -⟩, f2⟩, -⟩, -⟩, f5⟩ w1 hC1 E hE
    simp only [puts, act_put, act_put_none, List.setIfInBounds_toArray, List.set_cons_zero, List.set_cons_succ, f2, f5] at hE ⊢
    clear f2 f5
    go_wp2_with fail
    refine calls_then (mul_c _ _ _ (by repeat (first | exact KX.out | exact KY.out | exact KZ.out | apply mul_ok | apply add_ok | apply sub_ok)) (by repeat (first | exact KX.out | exact KY.out | exact KZ.out | apply mul_ok | apply add_ok | apply sub_ok))) ?_
    rintro e w2 ⟨rfl, hb2⟩
    go_wp2_with fail
    exact .mk (hE _ (hC1.next hb2))
  apply DetL.next
  · -- 7: Op.load 26 (Operand.tmp 7)
    apply detStep_plain []
    exact fun _ => rfl
    rfl
    rintro vals ⟨⟨⟨⟨⟨⟨⟨-, -⟩, -⟩, -⟩, -⟩, -⟩, -⟩, -⟩ w1 hC1 E hE
    simp only [puts, act_put, act_put_none, List.setIfInBounds_toArray, List.set_cons_zero, List.set_cons_succ] at hE ⊢
    refine wpList_get_box hC1.x rfl rfl rfl hu rfl elem_size ?_
    go_wp2_with fail
    exact .mk (hE _ hC1)
  apply DetL.next
  · -- 8: Op.load 26 (Operand.tmp 7)
    apply detStep_plain []
    exact fun _ => rfl
    rfl
    rintro vals ⟨⟨⟨⟨⟨⟨⟨⟨-, -⟩, -⟩, -⟩, -⟩, -⟩, -⟩, -⟩, -⟩ w1 hC1 E hE
    simp only [puts, act_put, act_put_none, List.setIfInBounds_toArray, List.set_cons_zero, List.set_cons_succ] at hE ⊢
    refine wpList_get_box hC1.x rfl rfl rfl hu rfl elem_size ?_
    go_wp2_with fail
    exact .mk (hE _ hC1)
  apply DetL.next
  · -- 9: Op.call { callee := Callee.value (Operand.func 22), args := #[Operand.tmp 92, Operand.tmp 93], argTypes := #[2
    apply detStep_plain [(7, some 92), (8, some 93), (6, some 91)]
    exact fun _ => rfl
    rfl
    rintro vals ⟨⟨⟨⟨⟨⟨⟨⟨⟨-, -⟩, -⟩, -⟩, -⟩, -⟩, -⟩, f6⟩, f7⟩, f8⟩ w1 hC1 E hE
    simp only [puts, act_put, act_put_none, List.setIfInBounds_toArray, List.set_cons_zero, List.set_cons_succ, f6, f7, f8] at hE ⊢
    clear f6 f7 f8
    go_wp2_with fail
    refine calls_then (mul_c _ _ _ (by repeat (first | exact KX.out | exact KY.out | exact KZ.out | apply mul_ok | apply add_ok | apply sub_ok)) (by repeat (first | exact KX.out | exact KY.out | exact KZ.out | apply mul_ok | apply add_ok | apply sub_ok))) ?_
    rintro e w2 ⟨rfl, hb2⟩
    go_wp2_with fail
    exact .mk (hE _ (hC1.next hb2))
  apply DetL.next
  · -- 10: Op.load 26 (Operand.tmp 9)
    apply detStep_plain []
    exact fun _ => rfl
    rfl
    rintro vals ⟨⟨⟨⟨⟨⟨⟨⟨⟨⟨-, -⟩, -⟩, -⟩, -⟩, -⟩, -⟩, -⟩, -⟩, -⟩, -⟩ w1 hC1 E hE
    simp only [puts, act_put, act_put_none, List.setIfInBounds_toArray, List.set_cons_zero, List.set_cons_succ] at hE ⊢
    refine wpList_get_box hC1.y rfl rfl rfl hu rfl elem_size ?_
    go_wp2_with fail
    exact .mk (hE _ hC1)
  apply DetL.next
  · -- 11: Op.load 26 (Operand.tmp 9)
    apply detStep_plain []
    exact fun _ => rfl
    rfl
    rintro vals ⟨⟨⟨⟨⟨⟨⟨⟨⟨⟨⟨-, -⟩, -⟩, -⟩, -⟩, -⟩, -⟩, -⟩, -⟩, -⟩, -⟩, -⟩ w1 hC1 E hE
    simp only [puts, act_put, act_put_none, List.setIfInBounds_toArray, List.set_cons_zero, List.set_cons_succ] at hE ⊢
    refine wpList_get_box hC1.y rfl rfl rfl hu rfl elem_size ?_
    go_wp2_with fail
    exact .mk (hE _ hC1)
  apply DetL.next
  · -- 12: Op.call { callee := Callee.value (Operand.func 22), args := #[Operand.tmp 95, Operand.tmp 96], argTypes := #[2
    apply detStep_plain [(10, some 95), (11, some 96), (9, some 94)]
    exact fun _ => rfl
    rfl
    rintro vals ⟨⟨⟨⟨⟨⟨⟨⟨⟨⟨⟨⟨-, -⟩, -⟩, -⟩, -⟩, -⟩, -⟩, -⟩, -⟩, -⟩, f9⟩, f10⟩, f11⟩ w1 hC1 E hE
    simp only [puts, act_put, act_put_none, List.setIfInBounds_toArray, List.set_cons_zero, List.set_cons_succ, f9, f10, f11] at hE ⊢
    clear f9 f10 f11
    go_wp2_with fail
    refine calls_then (mul_c _ _ _ (by repeat (first | exact KX.out | exact KY.out | exact KZ.out | apply mul_ok | apply add_ok | apply sub_ok)) (by repeat (first | exact KX.out | exact KY.out | exact KZ.out | apply mul_ok | apply add_ok | apply sub_ok))) ?_
    rintro e w2 ⟨rfl, hb2⟩
    go_wp2_with fail
    exact .mk (hE _ (hC1.next hb2))
  apply DetL.next
  · -- 13: Op.call { callee := Callee.value (Operand.func 28), args := #[Operand.tmp 94, Operand.tmp 97], argTypes := #[2
    apply detStep_plain [(9, some 94), (12, some 97), (12, some 97)]
    exact fun _ => rfl
    rfl
    rintro vals ⟨⟨⟨⟨⟨⟨⟨⟨⟨⟨⟨⟨⟨-, -⟩, -⟩, -⟩, -⟩, -⟩, -⟩, -⟩, -⟩, -⟩, f9⟩, -⟩, -⟩, f12⟩ w1 hC1 E hE
    simp only [puts, act_put, act_put_none, List.setIfInBounds_toArray, List.set_cons_zero, List.set_cons_succ, f9, f12] at hE ⊢
    clear f9 f12
    go_wp2_with fail
    refine calls_then (sub_c _ _ _ (by repeat (first | exact KX.out | exact KY.out | exact KZ.out | apply mul_ok | apply add_ok | apply sub_ok)) (by repeat (first | exact KX.out | exact KY.out | exact KZ.out | apply mul_ok | apply add_ok | apply sub_ok))) ?_
    rintro e w2 ⟨rfl, hb2⟩
    go_wp2_with fail
    exact .mk (hE _ (hC1.next hb2))
  apply DetL.next
  · -- 14: Op.call { callee := Callee.value (Operand.func 12), args := #[Operand.tmp 91, Operand.tmp 98], argTypes := #[2
    apply detStep_plain [(6, some 91), (13, some 98), (13, some 98)]
    exact fun _ => rfl
    rfl
    rintro vals ⟨⟨⟨⟨⟨⟨⟨⟨⟨⟨⟨⟨⟨⟨-, -⟩, -⟩, -⟩, -⟩, -⟩, -⟩, f6⟩, -⟩, -⟩, -⟩, -⟩, -⟩, -⟩, f13⟩ w1 hC1 E hE
    simp only [puts, act_put, act_put_none, List.setIfInBounds_toArray, List.set_cons_zero, List.set_cons_succ, f6, f13] at hE ⊢
    clear f6 f13
    go_wp2_with fail
    refine calls_then (equal_t _ _ _ (by repeat (first | exact KX.out | exact KY.out | exact KZ.out | apply mul_ok | apply add_ok | apply sub_ok)) (by repeat (first | exact KX.out | exact KY.out | exact KZ.out | apply mul_ok | apply add_ok | apply sub_ok)) (by first | exact R6.out)) ?_
    rintro e w2 ⟨rfl, hb2⟩
    go_wp2_with fail
    exact .mk (hE _ (hC1.next hb2))
  apply DetL.last
  · -- 15: Op.assign (Operand.tmp 99)
    apply detStep_plain [(14, some 99), (14, some 99), (0, some 85), (1, some 86), (2, some 87), (3, some 88), (4, some 89), (5, some 90), (6, some 91), (7, some 92), (8, some 93), (9, some 94), (10, some 95), (11, some 96), (12, some 97), (13, some 98), (14, some 99)]
    exact fun _ => rfl
    rfl
    rintro vals ⟨⟨⟨⟨⟨⟨⟨⟨⟨⟨⟨⟨⟨⟨⟨-, f0⟩, f1⟩, f2⟩, f3⟩, f4⟩, f5⟩, f6⟩, f7⟩, f8⟩, f9⟩, f10⟩, f11⟩, f12⟩, f13⟩, f14⟩ w1 hC1 E hE
    simp only [puts, act_put, act_put_none, List.setIfInBounds_toArray, List.set_cons_zero, List.set_cons_succ, f0, f1, f2, f3, f4, f5, f6, f7, f8, f9, f10, f11, f12, f13, f14] at hE ⊢
    clear f0 f1 f2 f3 f4 f5 f6 f7 f8 f9 f10 f11 f12 f13 f14
    go_wp2
    exact .mk (hE _ hC1)
  rintro vals ⟨⟨⟨⟨⟨⟨⟨⟨⟨⟨⟨⟨⟨⟨⟨⟨-, f0⟩, f1⟩, f2⟩, f3⟩, f4⟩, f5⟩, f6⟩, f7⟩, f8⟩, f9⟩, f10⟩, f11⟩, f12⟩, f13⟩, f14⟩, f15⟩ w1 hC1
  simp only [puts, act_put, act_put_none, List.setIfInBounds_toArray, List.set_cons_zero, List.set_cons_succ, f0, f1, f2, f3, f4, f5, f6, f7, f8, f9, f10, f11, f12, f13, f14, f15]
  clear f0 f1 f2 f3 f4 f5 f6 f7 f8 f9 f10 f11 f12 f13 f14 f15
  have HST := Lib.hid hC1
  clear hC1 HC0
  go_wp2_with fail
  refine calls_then (lives_any _) ?_
  rintro e w9 ⟨rfl, hb9⟩
  have HB9 := Lib.hid (HST.out.bel.trans (hb9.mono HST.out.bel.size))
  clear hb9
  go_wp2_with fail
  go_ret
  exact ⟨rfl, HB9.out⟩
end Go.Proofs.Ytngecbnbddoldaa
