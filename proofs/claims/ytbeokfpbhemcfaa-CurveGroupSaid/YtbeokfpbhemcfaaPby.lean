/-
  Walk: a point's bytes.
-/
import Derived.Test.YtbeokfpbhemcfaaPmul
namespace Go.Proofs.Ytbeokfpbhemcfaa
set_option linter.unusedSimpArgs false
set_option linter.unusedVariables false
open Go.RowKit

/-- is a point's x odd? -/
def oddP (p : Pt4) : Bool := decide ((mulE p.x (invE p.z)).val % PN % 2 = 1)
/-- a point's bytes -/
def bytP (p : Pt4) : List Nat :=
  let l := byN (leastE (mulE p.y (invE p.z))).val
  if oddP p then l.set 31 (l.getD 31 0 ||| 128) else l
def PbyPost (p : Pt4) (w : World) (e : Ending) (w' : World) : Prop :=
  ∃ o, e = .returned (.slice (some ⟨o, 0, none⟩) 32 32) ∧ w.heap.size ≤ o ∧ Blk w' o 5 (bnV (bytP p)).toArray ∧ Below w.heap.size w w'
theorem byN_31 (N : Nat) : (byN N).getD 31 0 < 256 := dg_getD (byN_lt N) 31
set_option maxRecDepth 100000 in
set_option maxHeartbeats 2000000 in
theorem pbytes_any (p : Pt4) (hkp : p.Ok) (w : World) : Calls Try.prog 14 #[.agg (ptV p)] w (PbyPost p w) := by
  have hu := Try.underlying26
  have hp := Try.underlying28
  obtain ⟨I, hI⟩ : ∃ I, I = invE p.z := ⟨_, rfl⟩
  have okI : I.Ok := by rw [hI]; exact invE_ok hkp.z
  obtain ⟨V, hV⟩ : ∃ V, V = (leastE (mulE p.y I)).val := ⟨_, rfl⟩
  obtain ⟨ob, hob⟩ : ∃ ob, ob = oddP p := ⟨_, rfl⟩
  have hres : bytP p = if ob then (byN V).set 31 ((byN V).getD 31 0 ||| 128) else byN V := by rw [hob, hV, hI]; rfl
  have cI : ∀ u, Calls Try.prog 37 #[.agg (eV p.z)] u (ElemPost I u) := fun u => by rw [hI]; exact inv_any p.z hkp.z u
  have cB : ∀ u, Calls Try.prog 39 #[.agg (eV (mulE p.y I))] u (BytesPost V u) := fun u => by rw [hV]; exact bytes_any _ u (mul_ok hkp.y okI).big
  have cO : ∀ u, Calls Try.prog 40 #[.agg (eV (mulE p.x I))] u (BoolPost ob u) := fun u => by
    have h := odd_c (mulE p.x I) (mul_ok hkp.x okI) u
    rw [show decide ((mulE p.x I).val % PN % 2 = 1) = ob by rw [hob, hI]; rfl] at h
    exact h
  have CI := Lib.hid cI
  have CB := Lib.hid cB
  have CO := Lib.hid cO
  have HRES := Lib.hid hres
  have CY := Lib.hid (fun u => mul_c p.y I u hkp.y okI)
  have CX := Lib.hid (fun u => mul_c p.x I u hkp.x okI)
  have HX0 := Lib.hid (Blk.new w 28 (ptV p))
  have HB0 := Lib.hid (below_new w (.cells (ptV p) 28))
  clear hI okI hV hob hres cI cB cO hkp
  go_enter Try.func14, Try.ntmps14
  go_wp2_with (refine wpList_get_part (x := .tmp 5) (n := 5) (r := eV p.z) HX0.out (by rw [ptV_size]; decide) rfl rfl rfl rfl hu rfl elem_size ?_)
  refine calls_then (CI.out _) ?_
  rintro e w1 ⟨rfl, hb1⟩
  have HX1 := Lib.hid (HX0.out.below hb1 HX0.out.lt)
  have HB1 := Lib.hid (HB0.out.trans (hb1.mono HB0.out.size))
  clear hb1 HX0 HB0
  go_wp2_with (first
    | (refine wpList_put_box (x := .tmp 3) (cells := eV I) (Blk.new _ _ _) rfl rfl rfl rfl elem_size rfl (by simp [eV, wV, limbs, Value.oneCell']) ?_; intro w2 hb2 hw2; have hk2 := box_low hw2; have HI2 := Lib.hid hb2; have HX2 := Lib.hid (HX1.out.below hk2 HX1.out.lt); have HB2 := Lib.hid (HB1.out.trans (hk2.mono HB1.out.size)); clear hb2 hw2 hk2 HX1 HB1)
    | (refine wpList_get_part (x := .tmp 8) (n := 5) (r := eV p.y) HX2.out (by rw [ptV_size]; decide) rfl rfl rfl rfl hu rfl elem_size ?_)
    | (refine wpList_get_box (x := .tmp 3) HI2.out rfl rfl rfl hu rfl elem_size ?_))
  refine calls_then (CY.out _) ?_
  rintro e w3 ⟨rfl, hb3⟩
  have HX3 := Lib.hid (HX2.out.below hb3 HX2.out.lt)
  have HI3 := Lib.hid (HI2.out.below hb3 HI2.out.lt)
  have HB3 := Lib.hid (HB2.out.trans (hb3.mono HB2.out.size))
  clear hb3 HX2 HB2 HI2
  generalize w1.heap.size = gi at *
  go_wp2_with fail
  refine calls_then (CB.out _) ?_
  rintro e w4 ⟨o, rfl, hlo, hblk, hb4⟩
  have HX4 := Lib.hid (HX3.out.below hb4 HX3.out.lt)
  have HI4 := Lib.hid (HI3.out.below hb4 HI3.out.lt)
  have HLO := Lib.hid (Nat.le_trans HB3.out.size hlo)
  have HB4 := Lib.hid (HB3.out.trans (hb4.mono HB3.out.size))
  have HO4 := Lib.hid hblk
  clear hb4 hlo hblk HX3 HI3 HB3
  go_wp2_with (first
    | (refine wpList_get_part (x := .tmp 13) (n := 5) (r := eV p.x) HX4.out (by rw [ptV_size]; decide) rfl rfl rfl rfl hu rfl elem_size ?_)
    | (refine wpList_get_box (x := .tmp 3) HI4.out rfl rfl rfl hu rfl elem_size ?_))
  refine calls_then (CX.out _) ?_
  rintro e w5 ⟨rfl, hb5⟩
  have HLO5 := Lib.hid HLO.out
  have HO5 := Lib.hid (HO4.out.below hb5 HO4.out.lt)
  have HB5 := Lib.hid (HB4.out.trans (hb5.mono HB4.out.size))
  clear hb5 HX4 HI4 HB4 HO4
  go_wp2_with fail
  refine calls_then (CO.out _) ?_
  rintro e w6 ⟨rfl, hb6⟩
  have HO6 := Lib.hid (HO5.out.below hb6 HO5.out.lt)
  have HB6 := Lib.hid (HB5.out.trans (hb6.mono HB5.out.size))
  clear hb6 HB5 HO5
  obtain ⟨x, hx⟩ : ∃ x, x = (byN V).getD 31 0 := ⟨_, rfl⟩
  have hxl : x < 256 := by rw [hx]; exact byN_31 V
  have hor := or8 (a := x) (b := 128) hxl (by decide)
  have hc := bnV_get (l := byN V) (k := 31) (by rw [byN_length]; decide)
  rw [← hx] at hc
  have d0 := HO6.out.cell 31
  rw [hc] at d0
  have q0 := HO6.out.free 31
  rw [← hx] at HRES
  obtain ⟨y, hy⟩ : ∃ y, y = x ||| 128 := ⟨_, rfl⟩
  rw [← hy] at hor HRES
  have hor' : bits .or .u8 (x : Int) 128 = (y : Int) := hor
  have hx256 : (x : Int) < 256 := by omega
  clear hx hxl hc hy hor
  cases ob
  · go_wp2_with fail
    go_ret
    refine ⟨o, rfl, HLO5.out, ?_, HB6.out⟩
    rw [HRES.out]
    exact HO6.out
  · go_wp2_with fail
    go_ret
    have h := blk_setCell_at (i := 31) HO6.out (.int .u8 (y : Int))
    rw [bnV_set] at h
    refine ⟨o, rfl, HLO5.out, ?_, (wrote_setCell_at _ _ _ _).below HB6.out HLO5.out HB6.out.size⟩
    rw [HRES.out]
    exact h
end Go.Proofs.Ytbeokfpbhemcfaa
