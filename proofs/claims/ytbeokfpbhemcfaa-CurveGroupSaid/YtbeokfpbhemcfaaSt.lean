/-
  What lies in memory, as a list; points of four elements.
-/
import Derived.Test.YtbeokfpbhemcfaaSmc
namespace Go.Proofs.Ytbeokfpbhemcfaa
set_option linter.unusedSimpArgs false
set_option linter.unusedVariables false
open Go.RowKit

/-- what is known of a place -/
inductive Fc where
  | box (g : Nat) (t : TypeId) (cs : Array Value)
  | rd (A : Option Addr) (xs : List Value)
def Fc.holds : Fc → World → Prop
  | .box g t cs, u => Blk u g t cs
  | .rd A xs, u => Rd u u.heap.size A xs
def St : List Fc → World → Prop
  | [], _ => True
  | f :: r, u => f.holds u ∧ St r u
theorem Fc.next {f : Fc} {u u' : World} (h : f.holds u) (hb : Below u.heap.size u u') : f.holds u' := by
  cases f with
  | box g t cs => exact Blk.below h hb (Blk.lt h)
  | rd A xs => exact (Rd.below h hb).mono hb.size
theorem St.next : ∀ {fs : List Fc} {u u' : World}, St fs u → Below u.heap.size u u' → St fs u'
  | [], _, _, _, _ => trivial
  | f :: _, _, _, h, hb => ⟨Fc.next (f := f) h.1 hb, St.next h.2 hb⟩
/-- a block that was made since -/
def NewBox (B : Nat) (t : TypeId) (cs : Array Value) (v : Value) (u : World) : Prop := ∃ o, v = .pointer (some ⟨o, 0, none⟩) ∧ B ≤ o ∧ Blk u o t cs
theorem NewBox.next {B : Nat} {t : TypeId} {cs : Array Value} {v : Value} {u u' : World} (h : NewBox B t cs v u) (hb : Below u.heap.size u u') : NewBox B t cs v u' := by
  obtain ⟨o, h1, h2, h3⟩ := h
  exact ⟨o, h1, h2, h3.below hb h3.lt⟩
theorem NewBox.wrote {B g : Nat} {t : TypeId} {cs : Array Value} {v : Value} {u u' : World} (h : NewBox B t cs v u) (hw : Wrote g u u') (hne : v ≠ .pointer (some ⟨g, 0, none⟩)) : NewBox B t cs v u' := by
  obtain ⟨o, h1, h2, h3⟩ := h
  exact ⟨o, h1, h2, hw.blk h3 fun e => hne (by rw [h1, e])⟩
theorem NewBox.of {B : Nat} {t : TypeId} {cs : Array Value} {u : World} (hB : B ≤ u.heap.size) : NewBox B t cs (.pointer (some ⟨u.heap.size, 0, none⟩)) (u.alloc (.cells cs t)) :=
  ⟨_, rfl, hB, Blk.new _ _ _⟩
theorem box_low {u u' : World} {o : Obj} (hw : Wrote u.heap.size (u.alloc o) u') : Below u.heap.size u u' :=
  hw.below (below_new _ _) (Nat.le_refl _) (by simp)
/-- four elements -/
structure Pt4 where
  x : E5
  y : E5
  z : E5
  t : E5
structure Pt4.Ok (p : Pt4) : Prop where
  x : p.x.Ok
  y : p.y.Ok
  z : p.z.Ok
  t : p.t.Ok
def ptV (p : Pt4) : Array Value := wV (limbs p.x ++ limbs p.y ++ limbs p.z ++ limbs p.t)
theorem ptV_size (p : Pt4) : (ptV p).size = 20 := rfl
theorem ptV_x (p : Pt4) : (((ptV p).toList.drop 0).take 5).toArray = eV p.x := rfl
theorem ptV_y (p : Pt4) : (((ptV p).toList.drop 5).take 5).toArray = eV p.y := rfl
theorem ptV_z (p : Pt4) : (((ptV p).toList.drop 10).take 5).toArray = eV p.z := rfl
theorem ptV_t (p : Pt4) : (((ptV p).toList.drop 15).take 5).toArray = eV p.t := rfl
theorem point_size : (Try.prog.info? 28).map (·.size) = some 20 := by kernel_rfl
def zP : Pt4 := ⟨zE, zE, zE, zE⟩
def PtPost (p : Pt4) (w : World) (e : Ending) (w' : World) : Prop := e = .returned (.agg (ptV p)) ∧ Below w.heap.size w w'
/-- the sum, by twice the curve's number -/
def sumP (p q : Pt4) (w : E5) : Pt4 :=
  let a := mulE (subE p.y p.x) (subE q.y q.x)
  let b := mulE (addE p.y p.x) (addE q.y q.x)
  let c := mulE (mulE p.t w) q.t
  let z := mulE p.z q.z
  let e := subE b a
  let h := addE b a
  let f := subE (addE z z) c
  let g := addE (addE z z) c
  ⟨mulE e f, mulE g h, mulE f g, mulE e h⟩
theorem sumP_ok {p q : Pt4} {w : E5} (hp : p.Ok) (hq : q.Ok) (hw : w.Ok) : (sumP p q w).Ok := by
  have a := mul_ok (sub_ok hp.y hp.x) (sub_ok hq.y hq.x)
  have b := mul_ok (add_ok hp.y hp.x) (add_ok hq.y hq.x)
  have c := mul_ok (mul_ok hp.t hw) hq.t
  have z := mul_ok hp.z hq.z
  exact ⟨mul_ok (sub_ok b a) (sub_ok (add_ok z z) c), mul_ok (add_ok (add_ok z z) c) (add_ok b a), mul_ok (sub_ok (add_ok z z) c) (add_ok (add_ok z z) c), mul_ok (sub_ok b a) (add_ok b a)⟩
def ofP (x y : E5) : Pt4 := ⟨x, y, intE 1, mulE x y⟩
theorem one_ok : (intE 1).Ok := intE_ok (by decide) (by decide)
theorem ofP_ok {x y : E5} (hx : x.Ok) (hy : y.Ok) : (ofP x y).Ok := ⟨hx, hy, one_ok, mul_ok hx hy⟩
def negP (p : Pt4) : Pt4 := ⟨subE zE p.x, p.y, p.z, subE zE p.t⟩
theorem negP_ok {p : Pt4} (hp : p.Ok) : (negP p).Ok := ⟨sub_ok zE_ok hp.x, hp.y, hp.z, sub_ok zE_ok hp.t⟩
theorem sub_z (x : E5) (hx : x.Ok) (u : World) : Calls Try.prog 48 #[.agg #[.int .u64 0, .int .u64 0, .int .u64 0, .int .u64 0, .int .u64 0], .agg (eV x)] u (ElemPost (subE zE x) u) := sub_c zE x u zE_ok hx
theorem int1_c (u : World) : Calls Try.prog 50 #[.int .i64 1] u (ElemPost (intE 1) u) := int_any 1 (by decide) (by decide) u
theorem int0_c (u : World) : Calls Try.prog 50 #[.int .i64 0] u (ElemPost (intE 0) u) := int_any 0 (by decide) (by decide) u
theorem build_pt (a b c d : E5) (u : World) : (Instr.build 28 #[(0, .agg (eV a)), (1, .agg (eV b)), (2, .agg (eV c)), (3, .agg (eV d))]).run Try.prog u = .ok (.agg (ptV ⟨a, b, c, d⟩)) u := by kernel_rfl
/-- a point of four elements -/
theorem wpList_build_pt {w : World} {ops : Array Oper} {rest : List Oper} {o : Oper} {a : Act} {Q : Exit → Act → World → Prop} {x0 x1 x2 x3 : Operand} (A B C D : E5)
    (hgd : o.guard = none) (ho : o.op = .build 28 #[(0, x0), (1, x1), (2, x2), (3, x3)]) (h0 : a.eval x0 = .agg (eV A)) (h1 : a.eval x1 = .agg (eV B)) (h2 : a.eval x2 = .agg (eV C)) (h3 : a.eval x3 = .agg (eV D))
    (h : wpList Try.prog ops Q rest (a.put o.dst (.agg (ptV ⟨A, B, C, D⟩))) w) : wpList Try.prog ops Q (o :: rest) a w := by
  refine wpList_plain hgd fun K hK => ?_
  unfold Oper.wp execOp
  simp only [ho, List.map_toArray, List.map_cons, List.map_nil, h0, h1, h2, h3, Sem.run_bind, Sem.run_pure, Result.andThen_ok, build_pt]
  exact hK _ _ h
/-- the list holds, and what was before the call is as it was -/
def Cs (fs : List Fc) (w u : World) : Prop := St fs u ∧ Below w.heap.size w u
theorem Cs.next {fs : List Fc} {w u u' : World} (h : Cs fs w u) (hb : Below u.heap.size u u') : Cs fs w u' := ⟨h.1.next hb, h.2.trans (hb.mono h.2.size)⟩
theorem St.drew : ∀ {fs : List Fc} {u : World}, St fs u → St fs u.drew
  | [], _, _ => trivial
  | f :: _, _, h => ⟨(by cases f with
    | box g t cs => exact h.1
    | rd A xs => exact h.1), St.drew h.2⟩
theorem Cs.drew {fs : List Fc} {w u : World} (h : Cs fs w u) : Cs fs w u.drew := ⟨h.1.drew, h.2.drew⟩
set_option maxRecDepth 100000 in
set_option maxHeartbeats 2000000 in
theorem pof_any (x y : E5) (hx : x.Ok) (hy : y.Ok) (w : World) : Calls Try.prog 30 #[.agg (eV x), .agg (eV y)] w (PtPost (ofP x y) w) := by
  have hu := Try.underlying26
  have hp := Try.underlying28
  have KX := Lib.hid hx
  have KY := Lib.hid hy
  obtain ⟨w0, hw0⟩ : ∃ w0, w0 = ((w.alloc (.cells (eV x) 26)).alloc (.cells (eV y) 26)).alloc (.cells (ptV zP) 28) := ⟨_, rfl⟩
  have hst : Cs [.box w.heap.size 26 (eV x), .box (w.heap.size + 1) 26 (eV y), .box (w.heap.size + 1 + 1) 28 (ptV zP)] w w0 := by
    rw [hw0]
    exact ⟨⟨((Blk.new _ _ _).alloc _).alloc _, (Blk.newAt (by simp)).alloc _, Blk.newAt (by simp), trivial⟩, ((below_new _ _).alloc (by simp) _).alloc (by simp; try omega) _⟩
  have HLR := Lib.hid (show w.heap.size ≤ w.heap.size + 1 + 1 by omega)
  clear hx hy
  have HW := Lib.hid hw0
  have HC0' := Lib.hid hst
  clear hw0 hst
  go_enter Try.func30, Try.ntmps30
  go_wp2_with fail
  show Code.wp Try.prog _ _ _ (((w.alloc (.cells (eV x) _)).alloc (.cells (eV y) _)).alloc (.cells (ptV zP) _))
  rw [← HW.out]
  generalize hgr : w.heap.size + 1 + 1 = r at *
  generalize hgh : w.heap.size + 1 = h at *
  generalize hgg : w.heap.size = g at *
  have HG := Lib.hid hgg
  clear hgr hgh hgg
  have HC0 := HC0'.out.drew
  clear HC0' HW
  refine wp_region_det (fun u => Cs [.box g 26 (eV x), .box h 26 (eV y), .box r 28 (ptV zP)] w u) (fun u => Blk u r 28 (ptV (ofP x y)) ∧ Below w.heap.size w u) [(0, some 5), (1, some 6), (2, some 7), (3, some 8), (4, some 9), (5, some 10), (6, some 11), (7, none)] (by kernel_rfl) (by kernel_rfl) (by decide) (by kernel_rfl) (fun _ => rfl) HC0 ?_
  apply DetL.next
  · -- 0: Op.load 26 (Operand.tmp 2)
    apply detStep_plain []
    exact fun _ => rfl
    rfl
    rintro vals - w1 hC1 E hE
    simp only [puts, act_put, act_put_none, List.setIfInBounds_toArray, List.set_cons_zero, List.set_cons_succ] at hE ⊢
    refine wpList_get_box ((hC1.1).1) rfl rfl rfl hu rfl elem_size ?_
    go_wp2_with fail
    exact .mk (hE _ hC1)
  apply DetL.next
  · -- 1: Op.load 26 (Operand.tmp 3)
    apply detStep_plain []
    exact fun _ => rfl
    rfl
    rintro vals ⟨-, -⟩ w1 hC1 E hE
    simp only [puts, act_put, act_put_none, List.setIfInBounds_toArray, List.set_cons_zero, List.set_cons_succ] at hE ⊢
    refine wpList_get_box ((hC1.1).2.1) rfl rfl rfl hu rfl elem_size ?_
    go_wp2_with fail
    exact .mk (hE _ hC1)
  apply DetL.next
  · -- 2: Op.call { callee := Callee.value (Operand.func 50), args := #[Operand.const (Value.int IntKind.i64 1)], argTyp
    apply detStep_plain []
    exact fun _ => rfl
    rfl
    rintro vals ⟨⟨-, -⟩, -⟩ w1 hC1 E hE
    simp only [puts, act_put, act_put_none, List.setIfInBounds_toArray, List.set_cons_zero, List.set_cons_succ] at hE ⊢
    go_wp2_with fail
    refine calls_then (int1_c _) ?_
    rintro e w2 ⟨rfl, hb2⟩
    go_wp2_with fail
    exact .mk (hE _ (hC1.next hb2))
  apply DetL.next
  · -- 3: Op.load 26 (Operand.tmp 2)
    apply detStep_plain []
    exact fun _ => rfl
    rfl
    rintro vals ⟨⟨⟨-, -⟩, -⟩, -⟩ w1 hC1 E hE
    simp only [puts, act_put, act_put_none, List.setIfInBounds_toArray, List.set_cons_zero, List.set_cons_succ] at hE ⊢
    refine wpList_get_box ((hC1.1).1) rfl rfl rfl hu rfl elem_size ?_
    go_wp2_with fail
    exact .mk (hE _ hC1)
  apply DetL.next
  · -- 4: Op.load 26 (Operand.tmp 3)
    apply detStep_plain []
    exact fun _ => rfl
    rfl
    rintro vals ⟨⟨⟨⟨-, -⟩, -⟩, -⟩, -⟩ w1 hC1 E hE
    simp only [puts, act_put, act_put_none, List.setIfInBounds_toArray, List.set_cons_zero, List.set_cons_succ] at hE ⊢
    refine wpList_get_box ((hC1.1).2.1) rfl rfl rfl hu rfl elem_size ?_
    go_wp2_with fail
    exact .mk (hE _ hC1)
  apply DetL.next
  · -- 5: Op.call { callee := Callee.value (Operand.func 38), args := #[Operand.tmp 8, Operand.tmp 9], argTypes := #[26,
    apply detStep_plain [(3, some 8), (4, some 9), (2, some 7)]
    exact fun _ => rfl
    rfl
    rintro vals ⟨⟨⟨⟨⟨-, -⟩, -⟩, f2⟩, f3⟩, f4⟩ w1 hC1 E hE
    simp only [puts, act_put, act_put_none, List.setIfInBounds_toArray, List.set_cons_zero, List.set_cons_succ, f2, f3, f4] at hE ⊢
    clear f2 f3 f4
    go_wp2_with fail
    refine calls_then (mul_c x y _ KX.out KY.out) ?_
    rintro e w2 ⟨rfl, hb2⟩
    go_wp2_with fail
    exact .mk (hE _ (hC1.next hb2))
  apply DetL.next
  · -- 6: Op.build 28 #[(0, Operand.tmp 5), (1, Operand.tmp 6), (2, Operand.tmp 7), (3, Operand.tmp 10)]
    apply detStep_plain [(0, some 5), (1, some 6), (2, some 7), (5, some 10)]
    exact fun _ => rfl
    rfl
    rintro vals ⟨⟨⟨⟨⟨⟨-, f0⟩, f1⟩, f2⟩, -⟩, -⟩, f5⟩ w1 hC1 E hE
    simp only [puts, act_put, act_put_none, List.setIfInBounds_toArray, List.set_cons_zero, List.set_cons_succ, f0, f1, f2, f5] at hE ⊢
    clear f0 f1 f2 f5
    refine wpList_build_pt x y (intE 1) (mulE x y) rfl rfl rfl rfl rfl rfl ?_
    go_wp2_with fail
    exact .mk (hE _ hC1)
  apply DetL.last (v := undef)
  · -- 7: Op.store 28 (Operand.tmp 4) (Operand.tmp 11)
    apply detStep_plain [(6, some 11), (5, some 10), (0, some 5), (1, some 6), (2, some 7), (3, some 8), (4, some 9), (5, some 10), (6, some 11)]
    exact fun _ => rfl
    rfl
    rintro vals ⟨⟨⟨⟨⟨⟨⟨-, f0⟩, f1⟩, f2⟩, f3⟩, f4⟩, f5⟩, f6⟩ w1 hC1 E hE
    have hlr := HLR.out
    simp only [puts, act_put, act_put_none, List.setIfInBounds_toArray, List.set_cons_zero, List.set_cons_succ, f0, f1, f2, f3, f4, f5, f6] at hE ⊢
    clear f0 f1 f2 f3 f4 f5 f6
    refine wpList_put_box (cells := ptV (ofP x y)) hC1.1.2.2.1 rfl rfl rfl rfl point_size rfl (by simp [eV, ptV, wV, limbs, Value.oneCell']) ?_
    intro w6 hb6 hw6
    go_wp2_with fail
    exact .mk (hE _ ⟨hb6, hw6.below hC1.2 (by rw [HG.out]; exact hlr) hC1.2.size⟩)
  rintro vals ⟨⟨⟨⟨⟨⟨⟨⟨-, f0⟩, f1⟩, f2⟩, f3⟩, f4⟩, f5⟩, f6⟩, f7⟩ w1 hC1
  simp only [puts, act_put, act_put_none, List.setIfInBounds_toArray, List.set_cons_zero, List.set_cons_succ, f0, f1, f2, f3, f4, f5, f6, f7]
  clear f0 f1 f2 f3 f4 f5 f6 f7
  go_wp2_with fail
  refine bodyPost_ret (results_box (P := Try.prog) rfl rfl hC1.1 hp rfl point_size) rfl ⟨rfl, hC1.2⟩
end Go.Proofs.Ytbeokfpbhemcfaa
