/-
  Walk: sha's mix, words of 64 bits.
-/
import Derived.Test.YtfpbcihpjcocmaaDoorRow64
import Derived.Test.YtfpbcihpjcocmaaDoorShaX
namespace Go.Proofs.YtfpbcihpjcocmaaDoor
set_option linter.unusedSimpArgs false
set_option linter.unusedVariables false
open Go.RowKit

theorem eight64_size : (Tryd.prog.info? 42).map (·.size) = some 8 := by kernel_rfl
/-- the state of mixing -/
structure MixSt64 (w0 : World) (gf gr : Nat) (s : S8) (r : Array Value) (v : Array Value) (u : World) : Prop where
  bel : Below gf w0 u
  form : Blk u gf 34 f64C
  s : Blk u (gf + 1) 42 (s8V .u64 s)
  res : Blk u (gf + 1 + 1) 42 (s8V .u64 ⟨0, 0, 0, 0, 0, 0, 0, 0⟩)
  v : Blk u (gf + 1 + 1 + 1) 42 v
  row : Blk u gr 40 r
  lr : gf + 1 + 1 + 1 < gr
theorem MixSt64.next {w0 : World} {gf gr : Nat} {s : S8} {r v : Array Value} {u u' : World} (h : MixSt64 w0 gf gr s r v u) (hb : Below u.heap.size u u') : MixSt64 w0 gf gr s r v u' :=
  ⟨h.bel.trans (hb.mono (by have := h.form.lt; omega)), h.form.below hb h.form.lt, h.s.below hb h.s.lt, h.res.below hb h.res.lt, h.v.below hb h.v.lt, h.row.below hb h.row.lt, h.lr⟩
theorem MixSt64.drew {w0 : World} {gf gr : Nat} {s : S8} {r v : Array Value} {u : World} (h : MixSt64 w0 gf gr s r v u) : MixSt64 w0 gf gr s r v u.drew :=
  ⟨h.bel.drew, h.form, h.s, h.res, h.v, h.row, h.lr⟩
theorem MixSt64.put {w0 : World} {gf gr : Nat} {s : S8} {r v v' : Array Value} {u u' : World} (h : MixSt64 w0 gf gr s r v u) (hw : Wrote (gf + 1 + 1 + 1) u u') (hb : Blk u' (gf + 1 + 1 + 1) 42 v') : MixSt64 w0 gf gr s r v' u' :=
  ⟨hw.below h.bel (by omega) (by have := h.form.lt; omega), hw.blk h.form (by omega), hw.blk h.s (by omega), hw.blk h.res (by omega), hb, hw.blk h.row (by have := h.lr; omega), h.lr⟩
def MixPost64 (s : S8) (blk : List UInt8) (w : World) (e : Ending) (w' : World) : Prop :=
  e = .returned (.agg (s8V .u64 (mixS F64 s blk))) ∧ Below w.heap.size w w'

set_option maxRecDepth 100000 in
set_option maxHeartbeats 4000000 in
theorem mix64_any (s : S8) (blk : List UInt8) (A : Option Addr) (c B : Nat) (w : World) (hr : Rd w B A (bytesV blk)) (hB : B ≤ w.heap.size) (hl : blk.length = 128) (hc : blk.length ≤ c) (hcm : c ≤ 9223372036854775807) (hs : s.Lt (2 ^ 64)) (hG : TabG w) :
    Calls Tryd.prog 29 #[.agg f64C, .agg (s8V .u64 s), .slice A blk.length c] w (MixPost64 s blk w) := by
  obtain ⟨W0, hW0⟩ : ∃ W0, W0 = ((w.alloc (.cells f64C 34)).alloc (.cells (s8V .u64 s) 42)).alloc (.cells (s8V .u64 ⟨0, 0, 0, 0, 0, 0, 0, 0⟩) 42) := ⟨_, rfl⟩
  have hb0 : Below w.heap.size w W0 := by rw [hW0]; exact ((below_new _ _).alloc (by simp) _).alloc (by simp; omega) _
  have hs0 : W0.heap.size = w.heap.size + 1 + 1 + 1 := by rw [hW0]; simp
  have hf0 : Blk W0 w.heap.size 34 f64C := by rw [hW0]; exact ((Blk.new _ _ _).alloc _).alloc _
  have hbs0 : Blk W0 (w.heap.size + 1) 42 (s8V .u64 s) := by
    have := (Blk.new (w.alloc (.cells f64C 34)) 42 (s8V .u64 s)).alloc (.cells (s8V .u64 ⟨0, 0, 0, 0, 0, 0, 0, 0⟩) 42)
    rw [hW0]; simpa using this
  have hbr0 : Blk W0 (w.heap.size + 1 + 1) 42 (s8V .u64 ⟨0, 0, 0, 0, 0, 0, 0, 0⟩) := by
    have := Blk.new ((w.alloc (.cells f64C 34)).alloc (.cells (s8V .u64 s) 42)) 42 (s8V .u64 ⟨0, 0, 0, 0, 0, 0, 0, 0⟩)
    rw [hW0]; simpa using this
  have hbv0 : Blk (W0.alloc (.cells (s8V .u64 ⟨0, 0, 0, 0, 0, 0, 0, 0⟩) 42)) (w.heap.size + 1 + 1 + 1) 42 (s8V .u64 ⟨0, 0, 0, 0, 0, 0, 0, 0⟩) := by
    have := Blk.new W0 42 (s8V .u64 ⟨0, 0, 0, 0, 0, 0, 0, 0⟩)
    rwa [hs0] at this
  have hbs1 := hbs0
  rw [hW0] at hbs1
  have HB0 := Lib.hid hb0
  have HS0 := Lib.hid hs0
  have HF0 := Lib.hid hf0
  have HBS0 := Lib.hid hbs0
  have HBR0 := Lib.hid hbr0
  have HR := Lib.hid (hr.mono hB)
  have HL := Lib.hid hl
  have HG := Lib.hid hG
  have HSL := Lib.hid hs
  have hu8 := Tryd.underlying42
  have hu := Tryd.underlying34
  have hu3 := Tryd.underlying30
  have hc2 : 128 ≤ c := by omega
  rw [hW0] at hbv0
  have HW := Lib.hid hW0
  rw [HL.out]
  clear hb0 hs0 hf0 hbs0 hbr0 hr hl hG hs hc hW0
  go_enter Tryd.func29, Tryd.ntmps29
  go_wp2_with (first
    | (refine wpList_get_box (x := .tmp 4) (o := ⟨some 16, _, _, _, _, _⟩) (hbs1) rfl rfl rfl hu8 rfl eight64_size ?_)
    | (refine wpList_put_box (x := .tmp 7) hbv0 rfl rfl rfl rfl eight64_size rfl (by simp [s8V, Value.oneCell']) ?_; intro w1 hb1 hw1)
    | (refine wpList_get_box (x := .tmp 3) (hw1.blk (((Blk.new w 34 f64C).alloc _).alloc _ |>.alloc _) (by omega)) rfl rfl rfl hu rfl form_size ?_))
  have hf1 := hw1.blk (((Blk.new w 34 f64C).alloc (.cells (s8V .u64 s) 42)).alloc (.cells (s8V .u64 ⟨0, 0, 0, 0, 0, 0, 0, 0⟩) 42) |>.alloc (.cells (s8V .u64 ⟨0, 0, 0, 0, 0, 0, 0, 0⟩) 42)) (by omega)
  have hs1 : Blk w1 (w.heap.size + 1) 42 (s8V .u64 s) := hw1.blk (by have := HBS0.out.alloc (.cells (s8V .u64 ⟨0, 0, 0, 0, 0, 0, 0, 0⟩) 42); rwa [HW.out] at this) (by omega)
  have hr1 : Blk w1 (w.heap.size + 1 + 1) 42 (s8V .u64 ⟨0, 0, 0, 0, 0, 0, 0, 0⟩) := hw1.blk (by have := HBR0.out.alloc (.cells (s8V .u64 ⟨0, 0, 0, 0, 0, 0, 0, 0⟩) 42); rwa [HW.out] at this) (by omega)
  have hbel1 : Below w.heap.size w w1 := hw1.below (by have := HB0.out.alloc HB0.out.size (.cells (s8V .u64 ⟨0, 0, 0, 0, 0, 0, 0, 0⟩) 42); rwa [HW.out] at this) (by omega) (by simp; omega)
  have hz1 : w1.heap.size = w.heap.size + 1 + 1 + 1 + 1 := by rw [hw1.size]; simp
  have HF1 := Lib.hid hf1
  have HS1 := Lib.hid hs1
  have HR1 := Lib.hid hr1
  have HV1 := Lib.hid hb1
  have HBEL1 := Lib.hid hbel1
  have HZ1 := Lib.hid hz1
  have hrow := row64_any blk A c w1.heap.size w1 ((HR.out.below hbel1).mono hbel1.size) (Nat.le_refl _) HL.out (by rw [HL.out]; exact hc2) hcm
  rw [HL.out] at hrow
  clear hf1 hs1 hr1 hb1 hbel1 hz1 hw1 hbv0 hbs1 HB0 HS0 HF0 HBS0 HBR0 HW W0
  refine calls_then hrow ?_
  rintro e w2 ⟨gr, rfl, hgl, hbr, hbw⟩
  clear hrow
  obtain ⟨RW, hRW⟩ : ∃ x, x = rowW F64 blk 80 := ⟨_, rfl⟩
  rw [← hRW] at hbr
  have hst0 : MixSt64 w w.heap.size gr s (rowC .u64 RW 0) (s8V .u64 s) w2 :=
    ⟨HBEL1.out.trans (hbw.mono HBEL1.out.size), HF1.out.below hbw HF1.out.lt, HS1.out.below hbw HS1.out.lt, HR1.out.below hbw HR1.out.lt, HV1.out.below hbw HV1.out.lt, hbr, by rw [HZ1.out] at hgl; omega⟩
  have HGP := Lib.hid HG.out.size
  have HRW := Lib.hid hRW
  clear hbr hbw hgl hRW HF1 HS1 HR1 HV1 HBEL1 HZ1 HR
  generalize hgf : w.heap.size = gf at *
  have HGF := Lib.hid hgf
  clear hgf
  go_wp2_with fail
  go_loopw [21] (fun i wr => ∃ k : Nat, k ≤ 80 ∧ i = .int .i64 k ∧ MixSt64 w gf gr s (rowC .u64 RW 0) (s8V .u64 (mixTo F64 RW s k)) wr) (fun i _ => 80 - (intOf i).toNat)
  case atStart => exact ⟨0, by omega, rfl, hst0⟩
  case round =>
    obtain ⟨k, hk, rfl, hst⟩ := hrel
    clear hst0
    by_cases hlt : k < 80
    · have hlt' : (k : Int) < 80 := by omega
      obtain ⟨vv, hvv⟩ : ∃ x, x = mixTo F64 RW s k := ⟨_, rfl⟩
      have hvl : vv.Lt (2 ^ 64) := by rw [hvv]; exact mixTo_lt HSL.out k
      rw [← hvv] at hst
      have HVV := Lib.hid hvv
      obtain ⟨va, vb, vc, vd, ve, vf, vg, vh⟩ := vv
      obtain ⟨la, lb, lc, ld, le_, lf, lg, lh⟩ := hvl
      dsimp only at la lb lc ld le_ lf lg lh
      obtain ⟨wk, hwk⟩ : ∃ x, x = RW.getD k 0 := ⟨_, rfl⟩
      obtain ⟨kk, hkk⟩ : ∃ x, x = stepsN.getD k 0 := ⟨_, rfl⟩
      have hRL : RW.length = 80 := by rw [HRW.out]; exact rowW_length _ _ _
      have hwl : wk < 2 ^ 64 := by rw [hwk, HRW.out]; exact getD_lt (rowW_lt F64 (by decide) blk 80) (by decide) k
      have hkl : kk < 18446744073709551616 := by rw [hkk]; exact stepsN_lt k
      have hcr : (rowC .u64 RW 0)[k]? = some (.int .u64 (wk : Int)) := by rw [rowC_get _ _ _ _ (by rw [hRL]; exact hlt), hwk]
      have HGC : Hid (∀ u, Below gf w u → u.cell? ⟨0, k, none⟩ = some (.int .u64 (kk : Int))) := Lib.hid fun u hu => by
        rw [hkk]; exact (HG.out.below hu HGP.out).cell k (by omega)
      have crow := hst.row.cell k
      rw [hcr] at crow
      have iwk : (wk : Int) < 18446744073709551616 := by omega
      have ikk : (kk : Int) < 18446744073709551616 := by omega
      have HWK := Lib.hid hwk
      have HKK := Lib.hid hkk
      have HL8 := Lib.hid (show S8.Lt ⟨va, vb, vc, vd, ve, vf, vg, vh⟩ (2 ^ 64) from ⟨la, lb, lc, ld, le_, lf, lg, lh⟩)
      have HWL := Lib.hid hwl
      have HKL := Lib.hid hkl
      clear hvv la lb lc ld le_ lf lg lh hwk hkk hRL hwl hkl hcr
      have HST := Lib.hid hst
      clear hst
      go_wp2_with fail
      obtain ⟨kn, hkn⟩ : ∃ x, x = kN F64 k := ⟨_, rfl⟩
      have hkn2 : kn = kk := by rw [hkn, kN, ← HKK.out]; show kk / 1 % 18446744073709551616 = kk; have := HKL.out; omega
      have hknl : kn < 2 ^ 64 := by rw [hkn]; exact Nat.mod_lt _ (by decide)
      subst hkn2
      have hkn2 : kn < 2 ^ 64 := hknl
      have HKN := Lib.hid hkn2
      have HKNE := Lib.hid hkn
      have HKNL := Lib.hid hknl
      clear hkn2 hkn hknl
      have HC0 := HST.out.drew
      refine wp_region_det (fun u => MixSt64 w gf gr s (rowC .u64 RW 0) (s8V .u64 ⟨va, vb, vc, vd, ve, vf, vg, vh⟩) u) (fun u => MixSt64 w gf gr s (rowC .u64 RW 0) (s8V .u64 ⟨va, vb, vc, vd, ve, vf, vg, vh⟩) u) [(0, some 26), (1, some 27), (2, some 28), (3, some 29), (4, some 30), (5, some 31), (6, some 32), (7, some 33), (8, some 10)] (by kernel_rfl) (by kernel_rfl) (by decide) (by kernel_rfl) (fun _ => rfl) HC0 ?_
      apply DetL.next
      · -- 0: Op.move (Operand.tmp 8)
        apply detStep_plain []
        exact fun _ => rfl
        rfl
        rintro vals - w1 hC1 E hE
        simp only [puts, act_put, act_put_none, List.setIfInBounds_toArray, List.set_cons_zero, List.set_cons_succ] at hE ⊢
        go_wp2
        exact .mk (hE _ hC1)
      apply DetL.next
      · -- 1: Op.indexAddr 54 (Operand.global 0) (Operand.tmp 26)
        apply detStep_plain [(0, some 26)]
        exact fun _ => rfl
        rfl
        rintro vals ⟨-, f0⟩ w1 hC1 E hE
        simp only [puts, act_put, act_put_none, List.setIfInBounds_toArray, List.set_cons_zero, List.set_cons_succ, f0] at hE ⊢
        clear f0
        go_wp2
        exact .mk (hE _ hC1)
      apply DetL.next
      · -- 2: Op.load 40 (Operand.tmp 27)
        apply detStep_plain [(1, some 27)]
        exact fun _ => rfl
        rfl
        rintro vals ⟨⟨-, -⟩, f1⟩ w1 hC1 E hE
        have d0 := HGC.out _ hC1.bel
        simp only [puts, act_put, act_put_none, List.setIfInBounds_toArray, List.set_cons_zero, List.set_cons_succ, f1] at hE ⊢
        clear f1
        go_wp2
        exact .mk (hE _ hC1)
      apply DetL.next
      · -- 3: Op.fieldAddr 34 (Operand.tmp 3) 0
        apply detStep_plain []
        exact fun _ => rfl
        rfl
        rintro vals ⟨⟨⟨-, -⟩, -⟩, -⟩ w1 hC1 E hE
        simp only [puts, act_put, act_put_none, List.setIfInBounds_toArray, List.set_cons_zero, List.set_cons_succ] at hE ⊢
        go_wp2
        exact .mk (hE _ hC1)
      apply DetL.next
      · -- 4: Op.load 3 (Operand.tmp 29)
        apply detStep_plain [(3, some 29)]
        exact fun _ => rfl
        rfl
        rintro vals ⟨⟨⟨⟨-, -⟩, -⟩, -⟩, f3⟩ w1 hC1 E hE
        have d0 := hC1.form.cell 0
        simp [f64C] at d0
        simp only [puts, act_put, act_put_none, List.setIfInBounds_toArray, List.set_cons_zero, List.set_cons_succ, f3] at hE ⊢
        clear f3
        go_wp2
        exact .mk (hE _ hC1)
      apply DetL.next
      · -- 5: Op.binOp BinOp.sub 3 (Operand.const (Value.int IntKind.i64 64)) (Operand.tmp 30) 3
        apply detStep_plain [(4, some 30)]
        exact fun _ => rfl
        rfl
        rintro vals ⟨⟨⟨⟨⟨-, -⟩, -⟩, -⟩, -⟩, f4⟩ w1 hC1 E hE
        simp only [puts, act_put, act_put_none, List.setIfInBounds_toArray, List.set_cons_zero, List.set_cons_succ, f4] at hE ⊢
        clear f4
        go_wp2
        exact .mk (hE _ hC1)
      apply DetL.next
      · -- 6: Op.binOp BinOp.shr 40 (Operand.tmp 28) (Operand.tmp 31) 3
        apply detStep_plain [(2, some 28), (5, some 31)]
        exact fun _ => rfl
        rfl
        rintro vals ⟨⟨⟨⟨⟨⟨-, -⟩, -⟩, f2⟩, -⟩, -⟩, f5⟩ w1 hC1 E hE
        simp only [puts, act_put, act_put_none, List.setIfInBounds_toArray, List.set_cons_zero, List.set_cons_succ, f2, f5] at hE ⊢
        clear f2 f5
        go_wp2
        exact .mk (hE _ hC1)
      apply DetL.next
      · -- 7: Op.call { callee := Callee.value (Operand.func 28), args := #[Operand.tmp 32], argTypes := #[40] }
        apply detStep_plain [(6, some 32)]
        exact fun _ => rfl
        rfl
        rintro vals ⟨⟨⟨⟨⟨⟨⟨-, -⟩, -⟩, -⟩, -⟩, -⟩, -⟩, f6⟩ w1 hC1 E hE
        simp only [puts, act_put, act_put_none, List.setIfInBounds_toArray, List.set_cons_zero, List.set_cons_succ, f6] at hE ⊢
        clear f6
        go_wp2_with fail
        skip
        refine calls_then (cut64_any _ _ (by have := HKL.out; omega)) ?_
        rintro e w2 ⟨rfl, rfl⟩
        skip
        go_wp2_with fail
        exact .mk (hE _ hC1)
      apply DetL.last
      · -- 8: Op.assign (Operand.tmp 33)
        apply detStep_plain [(7, some 33), (7, some 33), (0, some 26), (1, some 27), (2, some 28), (3, some 29), (4, some 30), (5, some 31), (6, some 32), (7, some 33)]
        exact fun _ => rfl
        rfl
        rintro vals ⟨⟨⟨⟨⟨⟨⟨⟨-, f0⟩, f1⟩, f2⟩, f3⟩, f4⟩, f5⟩, f6⟩, f7⟩ w1 hC1 E hE
        simp only [puts, act_put, act_put_none, List.setIfInBounds_toArray, List.set_cons_zero, List.set_cons_succ, f0, f1, f2, f3, f4, f5, f6, f7] at hE ⊢
        clear f0 f1 f2 f3 f4 f5 f6 f7
        go_wp2
        exact .mk (hE _ hC1)
      rintro vals ⟨⟨⟨⟨⟨⟨⟨⟨⟨-, f0⟩, f1⟩, f2⟩, f3⟩, f4⟩, f5⟩, f6⟩, f7⟩, f8⟩ w1 hC1
      simp only [puts, act_put, act_put_none, List.setIfInBounds_toArray, List.set_cons_zero, List.set_cons_succ, f0, f1, f2, f3, f4, f5, f6, f7, f8]
      clear f0 f1 f2 f3 f4 f5 f6 f7 f8
      clear HC0 crow
      go_wp2_with fail
      have HC0 := hC1.drew
      clear hC1
      refine wp_region_det (fun u => MixSt64 w gf gr s (rowC .u64 RW 0) (s8V .u64 ⟨va, vb, vc, vd, ve, vf, vg, vh⟩) u) (fun u => MixSt64 w gf gr s (rowC .u64 RW 0) (s8V .u64 ⟨va, vb, vc, vd, ve, vf, vg, vh⟩) u) [(0, some 34), (1, some 35), (2, some 36), (3, some 37), (4, some 11), (5, some 12)] (by kernel_rfl) (by kernel_rfl) (by decide) (by kernel_rfl) (fun _ => rfl) HC0 ?_
      apply DetL.next
      · -- 0: Op.indexAddr 42 (Operand.tmp 7) (Operand.const (Value.int IntKind.i64 0))
        apply detStep_plain []
        exact fun _ => rfl
        rfl
        rintro vals - w1 hC1 E hE
        simp only [puts, act_put, act_put_none, List.setIfInBounds_toArray, List.set_cons_zero, List.set_cons_succ] at hE ⊢
        go_wp2
        exact .mk (hE _ hC1)
      apply DetL.next
      · -- 1: Op.load 40 (Operand.tmp 34)
        apply detStep_plain [(0, some 34)]
        exact fun _ => rfl
        rfl
        rintro vals ⟨-, f0⟩ w1 hC1 E hE
        have d0 := hC1.v.cell 0
        simp [s8V] at d0
        simp only [puts, act_put, act_put_none, List.setIfInBounds_toArray, List.set_cons_zero, List.set_cons_succ, f0] at hE ⊢
        clear f0
        go_wp2
        exact .mk (hE _ hC1)
      apply DetL.next
      · -- 2: Op.indexAddr 42 (Operand.tmp 7) (Operand.const (Value.int IntKind.i64 4))
        apply detStep_plain []
        exact fun _ => rfl
        rfl
        rintro vals ⟨⟨-, -⟩, -⟩ w1 hC1 E hE
        simp only [puts, act_put, act_put_none, List.setIfInBounds_toArray, List.set_cons_zero, List.set_cons_succ] at hE ⊢
        go_wp2
        exact .mk (hE _ hC1)
      apply DetL.next
      · -- 3: Op.load 40 (Operand.tmp 36)
        apply detStep_plain [(2, some 36)]
        exact fun _ => rfl
        rfl
        rintro vals ⟨⟨⟨-, -⟩, -⟩, f2⟩ w1 hC1 E hE
        have d0 := hC1.v.cell 4
        simp [s8V] at d0
        simp only [puts, act_put, act_put_none, List.setIfInBounds_toArray, List.set_cons_zero, List.set_cons_succ, f2] at hE ⊢
        clear f2
        go_wp2
        exact .mk (hE _ hC1)
      apply DetL.next
      · -- 4: Op.assign (Operand.tmp 35)
        apply detStep_plain [(1, some 35), (0, some 34), (1, some 35)]
        exact fun _ => rfl
        rfl
        rintro vals ⟨⟨⟨⟨-, f0⟩, f1⟩, -⟩, -⟩ w1 hC1 E hE
        simp only [puts, act_put, act_put_none, List.setIfInBounds_toArray, List.set_cons_zero, List.set_cons_succ, f0, f1] at hE ⊢
        clear f0 f1
        go_wp2
        exact .mk (hE _ hC1)
      apply DetL.last
      · -- 5: Op.assign (Operand.tmp 37)
        apply detStep_plain [(3, some 37), (4, some 11), (0, some 34), (1, some 35), (2, some 36), (3, some 37), (4, some 11)]
        exact fun _ => rfl
        rfl
        rintro vals ⟨⟨⟨⟨⟨-, f0⟩, f1⟩, f2⟩, f3⟩, f4⟩ w1 hC1 E hE
        simp only [puts, act_put, act_put_none, List.setIfInBounds_toArray, List.set_cons_zero, List.set_cons_succ, f0, f1, f2, f3, f4] at hE ⊢
        clear f0 f1 f2 f3 f4
        go_wp2
        exact .mk (hE _ hC1)
      rintro vals ⟨⟨⟨⟨⟨⟨-, f0⟩, f1⟩, f2⟩, f3⟩, f4⟩, f5⟩ w1 hC1
      simp only [puts, act_put, act_put_none, List.setIfInBounds_toArray, List.set_cons_zero, List.set_cons_succ, f0, f1, f2, f3, f4, f5]
      clear f0 f1 f2 f3 f4 f5
      clear HC0
      have ive : (ve : Int) < 18446744073709551616 := by have := HL8.out.e; dsimp only at this; omega
      have iva : (va : Int) < 18446744073709551616 := by have := HL8.out.a; dsimp only at this; omega
      go_wp2_with fail
      have HC0 := hC1.drew
      clear hC1
      obtain ⟨ca, hXA⟩ : ∃ x, x = allN 64 ve 14 18 41 false := ⟨_, rfl⟩
      have lXA : ca < 18446744073709551616 := by rw [hXA]; exact allN_lt (by have := HL8.out.e; dsimp only at this; omega)
      obtain ⟨af, haf⟩ : ∃ x, x = ve &&& vf := ⟨_, rfl⟩
      obtain ⟨ne, hne⟩ : ∃ x, x = 18446744073709551615 - ve := ⟨_, rfl⟩
      obtain ⟨ng, hng⟩ : ∃ x, x = ne &&& vg := ⟨_, rfl⟩
      obtain ⟨ch, hch⟩ : ∃ x, x = af ^^^ ng := ⟨_, rfl⟩
      obtain ⟨p1, hp1⟩ : ∃ x, x = (vh + ca) % 2 ^ 64 := ⟨_, rfl⟩
      obtain ⟨p2, hp2⟩ : ∃ x, x = (p1 + ch) % 2 ^ 64 := ⟨_, rfl⟩
      obtain ⟨p3, hp3⟩ : ∃ x, x = (p2 + kn) % 2 ^ 64 := ⟨_, rfl⟩
      obtain ⟨xx, hxx⟩ : ∃ x, x = (p3 + wk) % 2 ^ 64 := ⟨_, rfl⟩
      have HP1 := Lib.hid hp1
      have HP2 := Lib.hid hp2
      have HP3 := Lib.hid hp3
      have HXA := Lib.hid hXA
      have LXA := Lib.hid lXA
      have HAF := Lib.hid haf
      have HNE := Lib.hid hne
      have HNG := Lib.hid hng
      have HCH := Lib.hid hch
      have AFL : Hid (af < 2 ^ 64) := Lib.hid (by rw [haf]; exact and_lt HL8.out.e)
      have NEL : Hid (ne < 2 ^ 64) := Lib.hid (by rw [hne]; omega)
      have NGL : Hid (ng < 2 ^ 64) := Lib.hid (by rw [hng]; exact and_lt NEL.out)
      have HXX := Lib.hid hxx
      clear hXA lXA haf hne hng hch hxx hp1 hp2 hp3
      refine wp_region_det (fun u => MixSt64 w gf gr s (rowC .u64 RW 0) (s8V .u64 ⟨va, vb, vc, vd, ve, vf, vg, vh⟩) u) (fun u => MixSt64 w gf gr s (rowC .u64 RW 0) (s8V .u64 ⟨va, vb, vc, vd, ve, vf, vg, vh⟩) u) [(0, some 38), (1, some 39), (2, some 40), (3, some 41), (4, some 42), (5, some 43), (6, some 44), (7, some 45), (8, some 46), (9, some 47), (10, some 48), (11, some 49), (12, some 50), (13, some 51), (14, some 52), (15, some 53), (16, some 54), (17, some 55), (18, some 56), (19, some 57), (20, some 58), (21, some 59), (22, some 60), (23, some 61), (24, some 62), (25, some 13)] (by kernel_rfl) (by kernel_rfl) (by decide) (by kernel_rfl) (fun _ => rfl) HC0 ?_
      apply DetL.next
      · -- 0: Op.indexAddr 42 (Operand.tmp 7) (Operand.const (Value.int IntKind.i64 7))
        apply detStep_plain []
        exact fun _ => rfl
        rfl
        rintro vals - w1 hC1 E hE
        simp only [puts, act_put, act_put_none, List.setIfInBounds_toArray, List.set_cons_zero, List.set_cons_succ] at hE ⊢
        go_wp2
        exact .mk (hE _ hC1)
      apply DetL.next
      · -- 1: Op.load 40 (Operand.tmp 38)
        apply detStep_plain [(0, some 38)]
        exact fun _ => rfl
        rfl
        rintro vals ⟨-, f0⟩ w1 hC1 E hE
        have d0 := hC1.v.cell 7
        simp [s8V] at d0
        simp only [puts, act_put, act_put_none, List.setIfInBounds_toArray, List.set_cons_zero, List.set_cons_succ, f0] at hE ⊢
        clear f0
        go_wp2
        exact .mk (hE _ hC1)
      apply DetL.next
      · -- 2: Op.load 34 (Operand.tmp 3)
        apply detStep_plain []
        exact fun _ => rfl
        rfl
        rintro vals ⟨⟨-, -⟩, -⟩ w1 hC1 E hE
        simp only [puts, act_put, act_put_none, List.setIfInBounds_toArray, List.set_cons_zero, List.set_cons_succ] at hE ⊢
        refine wpList_get_box hC1.form rfl rfl rfl hu rfl form_size ?_
        go_wp2_with fail
        exact .mk (hE _ hC1)
      apply DetL.next
      · -- 3: Op.move (Operand.tmp 12)
        apply detStep_plain []
        exact fun _ => rfl
        rfl
        rintro vals ⟨⟨⟨-, -⟩, -⟩, -⟩ w1 hC1 E hE
        simp only [puts, act_put, act_put_none, List.setIfInBounds_toArray, List.set_cons_zero, List.set_cons_succ] at hE ⊢
        go_wp2
        exact .mk (hE _ hC1)
      apply DetL.next
      · -- 4: Op.fieldAddr 34 (Operand.tmp 3) 2
        apply detStep_plain []
        exact fun _ => rfl
        rfl
        rintro vals ⟨⟨⟨⟨-, -⟩, -⟩, -⟩, -⟩ w1 hC1 E hE
        simp only [puts, act_put, act_put_none, List.setIfInBounds_toArray, List.set_cons_zero, List.set_cons_succ] at hE ⊢
        go_wp2
        exact .mk (hE _ hC1)
      apply DetL.next
      · -- 5: Op.fieldAddr 32 (Operand.tmp 42) 1
        apply detStep_plain [(4, some 42)]
        exact fun _ => rfl
        rfl
        rintro vals ⟨⟨⟨⟨⟨-, -⟩, -⟩, -⟩, -⟩, f4⟩ w1 hC1 E hE
        simp only [puts, act_put, act_put_none, List.setIfInBounds_toArray, List.set_cons_zero, List.set_cons_succ, f4] at hE ⊢
        clear f4
        go_wp2
        exact .mk (hE _ hC1)
      apply DetL.next
      · -- 6: Op.load 30 (Operand.tmp 43)
        apply detStep_plain [(5, some 43)]
        exact fun _ => rfl
        rfl
        rintro vals ⟨⟨⟨⟨⟨⟨-, -⟩, -⟩, -⟩, -⟩, -⟩, f5⟩ w1 hC1 E hE
        simp only [puts, act_put, act_put_none, List.setIfInBounds_toArray, List.set_cons_zero, List.set_cons_succ, f5] at hE ⊢
        clear f5
        refine wpList_get_part (n := 3) (r := #[.int .i64 14, .int .i64 18, .int .i64 41]) hC1.form (by decide) rfl rfl rfl rfl hu3 rfl tri64_size ?_
        go_wp2_with fail
        exact .mk (hE _ hC1)
      apply DetL.next
      · -- 7: Op.call { callee := Callee.value (Operand.func 31), args := #[Operand.tmp 40, Operand.tmp 41, Operand.tmp 44, 
        apply detStep_plain [(2, some 40), (3, some 41), (6, some 44)]
        exact fun _ => rfl
        rfl
        rintro vals ⟨⟨⟨⟨⟨⟨⟨-, -⟩, -⟩, f2⟩, f3⟩, -⟩, -⟩, f6⟩ w1 hC1 E hE
        simp only [puts, act_put, act_put_none, List.setIfInBounds_toArray, List.set_cons_zero, List.set_cons_succ, f2, f3, f6] at hE ⊢
        clear f2 f3 f6
        go_wp2_with fail
        refine calls_then (all64_any ve 14 18 41 false _ (by have := HL8.out.e; dsimp only at this; omega) (by decide) (by decide) (by decide)) ?_
        rintro e w2 ⟨rfl, hb2⟩
        rw [← HXA.out]
        go_wp2_with fail
        exact .mk (hE _ (hC1.next hb2))
      apply DetL.next
      · -- 8: Op.call { callee := Callee.value (Operand.func 28), args := #[Operand.tmp 45], argTypes := #[40] }
        apply detStep_plain [(7, some 45), (7, some 45)]
        exact fun _ => rfl
        rfl
        rintro vals ⟨⟨⟨⟨⟨⟨⟨⟨-, -⟩, -⟩, -⟩, -⟩, -⟩, -⟩, -⟩, f7⟩ w1 hC1 E hE
        simp only [puts, act_put, act_put_none, List.setIfInBounds_toArray, List.set_cons_zero, List.set_cons_succ, f7] at hE ⊢
        clear f7
        go_wp2_with fail
        refine calls_then (cut64_any ca _ LXA.out) ?_
        rintro e w2 ⟨rfl, rfl⟩
        skip
        go_wp2_with fail
        exact .mk (hE _ hC1)
      apply DetL.next
      · -- 9: Op.binOp BinOp.add 40 (Operand.tmp 39) (Operand.tmp 46) 40
        apply detStep_plain [(1, some 39), (8, some 46)]
        exact fun _ => rfl
        rfl
        rintro vals ⟨⟨⟨⟨⟨⟨⟨⟨⟨-, -⟩, f1⟩, -⟩, -⟩, -⟩, -⟩, -⟩, -⟩, f8⟩ w1 hC1 E hE
        simp only [puts, act_put, act_put_none, List.setIfInBounds_toArray, List.set_cons_zero, List.set_cons_succ, f1, f8] at hE ⊢
        clear f1 f8
        go_wp2
        rw [add2_64 vh ca, ← HP1.out]
        exact .mk (hE _ hC1)
      apply DetL.next
      · -- 10: Op.move (Operand.tmp 12)
        apply detStep_plain []
        exact fun _ => rfl
        rfl
        rintro vals ⟨⟨⟨⟨⟨⟨⟨⟨⟨⟨-, -⟩, -⟩, -⟩, -⟩, -⟩, -⟩, -⟩, -⟩, -⟩, -⟩ w1 hC1 E hE
        simp only [puts, act_put, act_put_none, List.setIfInBounds_toArray, List.set_cons_zero, List.set_cons_succ] at hE ⊢
        go_wp2
        exact .mk (hE _ hC1)
      apply DetL.next
      · -- 11: Op.indexAddr 42 (Operand.tmp 7) (Operand.const (Value.int IntKind.i64 5))
        apply detStep_plain []
        exact fun _ => rfl
        rfl
        rintro vals ⟨⟨⟨⟨⟨⟨⟨⟨⟨⟨⟨-, -⟩, -⟩, -⟩, -⟩, -⟩, -⟩, -⟩, -⟩, -⟩, -⟩, -⟩ w1 hC1 E hE
        simp only [puts, act_put, act_put_none, List.setIfInBounds_toArray, List.set_cons_zero, List.set_cons_succ] at hE ⊢
        go_wp2
        exact .mk (hE _ hC1)
      apply DetL.next
      · -- 12: Op.load 40 (Operand.tmp 49)
        apply detStep_plain [(11, some 49)]
        exact fun _ => rfl
        rfl
        rintro vals ⟨⟨⟨⟨⟨⟨⟨⟨⟨⟨⟨⟨-, -⟩, -⟩, -⟩, -⟩, -⟩, -⟩, -⟩, -⟩, -⟩, -⟩, -⟩, f11⟩ w1 hC1 E hE
        have d0 := hC1.v.cell 5
        simp [s8V] at d0
        simp only [puts, act_put, act_put_none, List.setIfInBounds_toArray, List.set_cons_zero, List.set_cons_succ, f11] at hE ⊢
        clear f11
        go_wp2
        exact .mk (hE _ hC1)
      apply DetL.next
      · -- 13: Op.binOp BinOp.and 40 (Operand.tmp 48) (Operand.tmp 50) 40
        apply detStep_plain [(10, some 48), (12, some 50)]
        exact fun _ => rfl
        rfl
        rintro vals ⟨⟨⟨⟨⟨⟨⟨⟨⟨⟨⟨⟨⟨-, -⟩, -⟩, -⟩, -⟩, -⟩, -⟩, -⟩, -⟩, -⟩, -⟩, f10⟩, -⟩, f12⟩ w1 hC1 E hE
        simp only [puts, act_put, act_put_none, List.setIfInBounds_toArray, List.set_cons_zero, List.set_cons_succ, f10, f12] at hE ⊢
        clear f10 f12
        go_wp2
        rw [and64 ve vf HL8.out.e HL8.out.f, ← HAF.out]
        exact .mk (hE _ hC1)
      apply DetL.next
      · -- 14: Op.move (Operand.tmp 12)
        apply detStep_plain []
        exact fun _ => rfl
        rfl
        rintro vals ⟨⟨⟨⟨⟨⟨⟨⟨⟨⟨⟨⟨⟨⟨-, -⟩, -⟩, -⟩, -⟩, -⟩, -⟩, -⟩, -⟩, -⟩, -⟩, -⟩, -⟩, -⟩, -⟩ w1 hC1 E hE
        simp only [puts, act_put, act_put_none, List.setIfInBounds_toArray, List.set_cons_zero, List.set_cons_succ] at hE ⊢
        go_wp2
        exact .mk (hE _ hC1)
      apply DetL.next
      · -- 15: Op.unOp UnOp.xor 40 (Operand.tmp 52)
        apply detStep_plain [(14, some 52)]
        exact fun _ => rfl
        rfl
        rintro vals ⟨⟨⟨⟨⟨⟨⟨⟨⟨⟨⟨⟨⟨⟨⟨-, -⟩, -⟩, -⟩, -⟩, -⟩, -⟩, -⟩, -⟩, -⟩, -⟩, -⟩, -⟩, -⟩, -⟩, f14⟩ w1 hC1 E hE
        simp only [puts, act_put, act_put_none, List.setIfInBounds_toArray, List.set_cons_zero, List.set_cons_succ, f14] at hE ⊢
        clear f14
        refine wpList_unary (run_not64 ve HL8.out.e) rfl rfl rfl ?_
        rw [← HNE.out]
        go_wp2_with fail
        exact .mk (hE _ hC1)
      apply DetL.next
      · -- 16: Op.indexAddr 42 (Operand.tmp 7) (Operand.const (Value.int IntKind.i64 6))
        apply detStep_plain []
        exact fun _ => rfl
        rfl
        rintro vals ⟨⟨⟨⟨⟨⟨⟨⟨⟨⟨⟨⟨⟨⟨⟨⟨-, -⟩, -⟩, -⟩, -⟩, -⟩, -⟩, -⟩, -⟩, -⟩, -⟩, -⟩, -⟩, -⟩, -⟩, -⟩, -⟩ w1 hC1 E hE
        simp only [puts, act_put, act_put_none, List.setIfInBounds_toArray, List.set_cons_zero, List.set_cons_succ] at hE ⊢
        go_wp2
        exact .mk (hE _ hC1)
      apply DetL.next
      · -- 17: Op.load 40 (Operand.tmp 54)
        apply detStep_plain [(16, some 54)]
        exact fun _ => rfl
        rfl
        rintro vals ⟨⟨⟨⟨⟨⟨⟨⟨⟨⟨⟨⟨⟨⟨⟨⟨⟨-, -⟩, -⟩, -⟩, -⟩, -⟩, -⟩, -⟩, -⟩, -⟩, -⟩, -⟩, -⟩, -⟩, -⟩, -⟩, -⟩, f16⟩ w1 hC1 E hE
        have d0 := hC1.v.cell 6
        simp [s8V] at d0
        simp only [puts, act_put, act_put_none, List.setIfInBounds_toArray, List.set_cons_zero, List.set_cons_succ, f16] at hE ⊢
        clear f16
        go_wp2
        exact .mk (hE _ hC1)
      apply DetL.next
      · -- 18: Op.binOp BinOp.and 40 (Operand.tmp 53) (Operand.tmp 55) 40
        apply detStep_plain [(15, some 53), (17, some 55)]
        exact fun _ => rfl
        rfl
        rintro vals ⟨⟨⟨⟨⟨⟨⟨⟨⟨⟨⟨⟨⟨⟨⟨⟨⟨⟨-, -⟩, -⟩, -⟩, -⟩, -⟩, -⟩, -⟩, -⟩, -⟩, -⟩, -⟩, -⟩, -⟩, -⟩, -⟩, f15⟩, -⟩, f17⟩ w1 hC1 E hE
        simp only [puts, act_put, act_put_none, List.setIfInBounds_toArray, List.set_cons_zero, List.set_cons_succ, f15, f17] at hE ⊢
        clear f15 f17
        go_wp2
        rw [and64 ne vg NEL.out HL8.out.g, ← HNG.out]
        exact .mk (hE _ hC1)
      apply DetL.next
      · -- 19: Op.binOp BinOp.xor 40 (Operand.tmp 51) (Operand.tmp 56) 40
        apply detStep_plain [(13, some 51), (18, some 56)]
        exact fun _ => rfl
        rfl
        rintro vals ⟨⟨⟨⟨⟨⟨⟨⟨⟨⟨⟨⟨⟨⟨⟨⟨⟨⟨⟨-, -⟩, -⟩, -⟩, -⟩, -⟩, -⟩, -⟩, -⟩, -⟩, -⟩, -⟩, -⟩, -⟩, f13⟩, -⟩, -⟩, -⟩, -⟩, f18⟩ w1 hC1 E hE
        simp only [puts, act_put, act_put_none, List.setIfInBounds_toArray, List.set_cons_zero, List.set_cons_succ, f13, f18] at hE ⊢
        clear f13 f18
        go_wp2
        rw [xor64 af ng AFL.out NGL.out, ← HCH.out]
        exact .mk (hE _ hC1)
      apply DetL.next
      · -- 20: Op.binOp BinOp.add 40 (Operand.tmp 47) (Operand.tmp 57) 40
        apply detStep_plain [(9, some 47), (19, some 57)]
        exact fun _ => rfl
        rfl
        rintro vals ⟨⟨⟨⟨⟨⟨⟨⟨⟨⟨⟨⟨⟨⟨⟨⟨⟨⟨⟨⟨-, -⟩, -⟩, -⟩, -⟩, -⟩, -⟩, -⟩, -⟩, -⟩, f9⟩, -⟩, -⟩, -⟩, -⟩, -⟩, -⟩, -⟩, -⟩, -⟩, f19⟩ w1 hC1 E hE
        simp only [puts, act_put, act_put_none, List.setIfInBounds_toArray, List.set_cons_zero, List.set_cons_succ, f9, f19] at hE ⊢
        clear f9 f19
        go_wp2
        rw [add2_64 p1 ch, ← HP2.out]
        exact .mk (hE _ hC1)
      apply DetL.next
      · -- 21: Op.move (Operand.tmp 10)
        apply detStep_plain []
        exact fun _ => rfl
        rfl
        rintro vals ⟨⟨⟨⟨⟨⟨⟨⟨⟨⟨⟨⟨⟨⟨⟨⟨⟨⟨⟨⟨⟨-, -⟩, -⟩, -⟩, -⟩, -⟩, -⟩, -⟩, -⟩, -⟩, -⟩, -⟩, -⟩, -⟩, -⟩, -⟩, -⟩, -⟩, -⟩, -⟩, -⟩, -⟩ w1 hC1 E hE
        simp only [puts, act_put, act_put_none, List.setIfInBounds_toArray, List.set_cons_zero, List.set_cons_succ] at hE ⊢
        go_wp2
        exact .mk (hE _ hC1)
      apply DetL.next
      · -- 22: Op.binOp BinOp.add 40 (Operand.tmp 58) (Operand.tmp 59) 40
        apply detStep_plain [(20, some 58), (21, some 59)]
        exact fun _ => rfl
        rfl
        rintro vals ⟨⟨⟨⟨⟨⟨⟨⟨⟨⟨⟨⟨⟨⟨⟨⟨⟨⟨⟨⟨⟨⟨-, -⟩, -⟩, -⟩, -⟩, -⟩, -⟩, -⟩, -⟩, -⟩, -⟩, -⟩, -⟩, -⟩, -⟩, -⟩, -⟩, -⟩, -⟩, -⟩, -⟩, f20⟩, f21⟩ w1 hC1 E hE
        simp only [puts, act_put, act_put_none, List.setIfInBounds_toArray, List.set_cons_zero, List.set_cons_succ, f20, f21] at hE ⊢
        clear f20 f21
        go_wp2
        rw [add2_64 p2 kn, ← HP3.out]
        exact .mk (hE _ hC1)
      apply DetL.next
      · -- 23: Op.move (Operand.tmp 9)
        apply detStep_plain []
        exact fun _ => rfl
        rfl
        rintro vals ⟨⟨⟨⟨⟨⟨⟨⟨⟨⟨⟨⟨⟨⟨⟨⟨⟨⟨⟨⟨⟨⟨⟨-, -⟩, -⟩, -⟩, -⟩, -⟩, -⟩, -⟩, -⟩, -⟩, -⟩, -⟩, -⟩, -⟩, -⟩, -⟩, -⟩, -⟩, -⟩, -⟩, -⟩, -⟩, -⟩, -⟩ w1 hC1 E hE
        simp only [puts, act_put, act_put_none, List.setIfInBounds_toArray, List.set_cons_zero, List.set_cons_succ] at hE ⊢
        go_wp2
        exact .mk (hE _ hC1)
      apply DetL.next
      · -- 24: Op.binOp BinOp.add 40 (Operand.tmp 60) (Operand.tmp 61) 40
        apply detStep_plain [(22, some 60), (23, some 61)]
        exact fun _ => rfl
        rfl
        rintro vals ⟨⟨⟨⟨⟨⟨⟨⟨⟨⟨⟨⟨⟨⟨⟨⟨⟨⟨⟨⟨⟨⟨⟨⟨-, -⟩, -⟩, -⟩, -⟩, -⟩, -⟩, -⟩, -⟩, -⟩, -⟩, -⟩, -⟩, -⟩, -⟩, -⟩, -⟩, -⟩, -⟩, -⟩, -⟩, -⟩, -⟩, f22⟩, f23⟩ w1 hC1 E hE
        simp only [puts, act_put, act_put_none, List.setIfInBounds_toArray, List.set_cons_zero, List.set_cons_succ, f22, f23] at hE ⊢
        clear f22 f23
        go_wp2
        rw [add2_64 p3 wk, ← HXX.out]
        exact .mk (hE _ hC1)
      apply DetL.last
      · -- 25: Op.assign (Operand.tmp 62)
        apply detStep_plain [(24, some 62), (8, some 46), (0, some 38), (1, some 39), (2, some 40), (3, some 41), (4, some 42), (5, some 43), (6, some 44), (7, some 45), (8, some 46), (9, some 47), (10, some 48), (11, some 49), (12, some 50), (13, some 51), (14, some 52), (15, some 53), (16, some 54), (17, some 55), (18, some 56), (19, some 57), (20, some 58), (21, some 59), (22, some 60), (23, some 61), (24, some 62)]
        exact fun _ => rfl
        rfl
        rintro vals ⟨⟨⟨⟨⟨⟨⟨⟨⟨⟨⟨⟨⟨⟨⟨⟨⟨⟨⟨⟨⟨⟨⟨⟨⟨-, f0⟩, f1⟩, f2⟩, f3⟩, f4⟩, f5⟩, f6⟩, f7⟩, f8⟩, f9⟩, f10⟩, f11⟩, f12⟩, f13⟩, f14⟩, f15⟩, f16⟩, f17⟩, f18⟩, f19⟩, f20⟩, f21⟩, f22⟩, f23⟩, f24⟩ w1 hC1 E hE
        simp only [puts, act_put, act_put_none, List.setIfInBounds_toArray, List.set_cons_zero, List.set_cons_succ, f0, f1, f2, f3, f4, f5, f6, f7, f8, f9, f10, f11, f12, f13, f14, f15, f16, f17, f18, f19, f20, f21, f22, f23, f24] at hE ⊢
        clear f0 f1 f2 f3 f4 f5 f6 f7 f8 f9 f10 f11 f12 f13 f14 f15 f16 f17 f18 f19 f20 f21 f22 f23 f24
        go_wp2
        exact .mk (hE _ hC1)
      rintro vals ⟨⟨⟨⟨⟨⟨⟨⟨⟨⟨⟨⟨⟨⟨⟨⟨⟨⟨⟨⟨⟨⟨⟨⟨⟨⟨-, f0⟩, f1⟩, f2⟩, f3⟩, f4⟩, f5⟩, f6⟩, f7⟩, f8⟩, f9⟩, f10⟩, f11⟩, f12⟩, f13⟩, f14⟩, f15⟩, f16⟩, f17⟩, f18⟩, f19⟩, f20⟩, f21⟩, f22⟩, f23⟩, f24⟩, f25⟩ w1 hC1
      simp only [puts, act_put, act_put_none, List.setIfInBounds_toArray, List.set_cons_zero, List.set_cons_succ, f0, f1, f2, f3, f4, f5, f6, f7, f8, f9, f10, f11, f12, f13, f14, f15, f16, f17, f18, f19, f20, f21, f22, f23, f24, f25]
      clear f0 f1 f2 f3 f4 f5 f6 f7 f8 f9 f10 f11 f12 f13 f14 f15 f16 f17 f18 f19 f20 f21 f22 f23 f24 f25
      clear HC0
      go_wp2_with fail
      have HC0 := hC1.drew
      clear hC1
      obtain ⟨cy, hYA⟩ : ∃ x, x = allN 64 va 28 34 39 false := ⟨_, rfl⟩
      have lYA : cy < 18446744073709551616 := by rw [hYA]; exact allN_lt (by have := HL8.out.a; dsimp only at this; omega)
      obtain ⟨ab, hab⟩ : ∃ x, x = va &&& vb := ⟨_, rfl⟩
      obtain ⟨ac, hac⟩ : ∃ x, x = va &&& vc := ⟨_, rfl⟩
      obtain ⟨bc, hbc⟩ : ∃ x, x = vb &&& vc := ⟨_, rfl⟩
      obtain ⟨x1, hx1⟩ : ∃ x, x = ab ^^^ ac := ⟨_, rfl⟩
      obtain ⟨mj, hmj⟩ : ∃ x, x = x1 ^^^ bc := ⟨_, rfl⟩
      obtain ⟨yy, hyy⟩ : ∃ x, x = (cy + mj) % 2 ^ 64 := ⟨_, rfl⟩
      have HYA := Lib.hid hYA
      have LYA := Lib.hid lYA
      have HAB := Lib.hid hab
      have HAC := Lib.hid hac
      have HBC := Lib.hid hbc
      have HX1 := Lib.hid hx1
      have HMJ := Lib.hid hmj
      have HYY := Lib.hid hyy
      have ABL : Hid (ab < 2 ^ 64) := Lib.hid (by rw [hab]; exact and_lt HL8.out.a)
      have ACL : Hid (ac < 2 ^ 64) := Lib.hid (by rw [hac]; exact and_lt HL8.out.a)
      have BCL : Hid (bc < 2 ^ 64) := Lib.hid (by rw [hbc]; exact and_lt HL8.out.b)
      have X1L : Hid (x1 < 2 ^ 64) := Lib.hid (by rw [hx1]; exact Nat.xor_lt_two_pow ABL.out ACL.out)
      clear hYA lYA hab hac hbc hx1 hmj hyy
      refine wp_region_det (fun u => MixSt64 w gf gr s (rowC .u64 RW 0) (s8V .u64 ⟨va, vb, vc, vd, ve, vf, vg, vh⟩) u) (fun u => MixSt64 w gf gr s (rowC .u64 RW 0) (s8V .u64 ⟨va, vb, vc, vd, ve, vf, vg, vh⟩) u) [(0, some 63), (1, some 64), (2, some 65), (3, some 66), (4, some 67), (5, some 68), (6, some 69), (7, some 70), (8, some 71), (9, some 72), (10, some 73), (11, some 74), (12, some 75), (13, some 76), (14, some 77), (15, some 78), (16, some 79), (17, some 80), (18, some 81), (19, some 82), (20, some 83), (21, some 84), (22, some 85), (23, some 14)] (by kernel_rfl) (by kernel_rfl) (by decide) (by kernel_rfl) (fun _ => rfl) HC0 ?_
      apply DetL.next
      · -- 0: Op.load 34 (Operand.tmp 3)
        apply detStep_plain []
        exact fun _ => rfl
        rfl
        rintro vals - w1 hC1 E hE
        simp only [puts, act_put, act_put_none, List.setIfInBounds_toArray, List.set_cons_zero, List.set_cons_succ] at hE ⊢
        refine wpList_get_box hC1.form rfl rfl rfl hu rfl form_size ?_
        go_wp2_with fail
        exact .mk (hE _ hC1)
      apply DetL.next
      · -- 1: Op.move (Operand.tmp 11)
        apply detStep_plain []
        exact fun _ => rfl
        rfl
        rintro vals ⟨-, -⟩ w1 hC1 E hE
        simp only [puts, act_put, act_put_none, List.setIfInBounds_toArray, List.set_cons_zero, List.set_cons_succ] at hE ⊢
        go_wp2
        exact .mk (hE _ hC1)
      apply DetL.next
      · -- 2: Op.fieldAddr 34 (Operand.tmp 3) 2
        apply detStep_plain []
        exact fun _ => rfl
        rfl
        rintro vals ⟨⟨-, -⟩, -⟩ w1 hC1 E hE
        simp only [puts, act_put, act_put_none, List.setIfInBounds_toArray, List.set_cons_zero, List.set_cons_succ] at hE ⊢
        go_wp2
        exact .mk (hE _ hC1)
      apply DetL.next
      · -- 3: Op.fieldAddr 32 (Operand.tmp 65) 0
        apply detStep_plain [(2, some 65)]
        exact fun _ => rfl
        rfl
        rintro vals ⟨⟨⟨-, -⟩, -⟩, f2⟩ w1 hC1 E hE
        simp only [puts, act_put, act_put_none, List.setIfInBounds_toArray, List.set_cons_zero, List.set_cons_succ, f2] at hE ⊢
        clear f2
        go_wp2
        exact .mk (hE _ hC1)
      apply DetL.next
      · -- 4: Op.load 30 (Operand.tmp 66)
        apply detStep_plain [(3, some 66)]
        exact fun _ => rfl
        rfl
        rintro vals ⟨⟨⟨⟨-, -⟩, -⟩, -⟩, f3⟩ w1 hC1 E hE
        simp only [puts, act_put, act_put_none, List.setIfInBounds_toArray, List.set_cons_zero, List.set_cons_succ, f3] at hE ⊢
        clear f3
        refine wpList_get_part (n := 3) (r := #[.int .i64 28, .int .i64 34, .int .i64 39]) hC1.form (by decide) rfl rfl rfl rfl hu3 rfl tri64_size ?_
        go_wp2_with fail
        exact .mk (hE _ hC1)
      apply DetL.next
      · -- 5: Op.call { callee := Callee.value (Operand.func 31), args := #[Operand.tmp 63, Operand.tmp 64, Operand.tmp 67, 
        apply detStep_plain [(0, some 63), (1, some 64), (4, some 67)]
        exact fun _ => rfl
        rfl
        rintro vals ⟨⟨⟨⟨⟨-, f0⟩, f1⟩, -⟩, -⟩, f4⟩ w1 hC1 E hE
        simp only [puts, act_put, act_put_none, List.setIfInBounds_toArray, List.set_cons_zero, List.set_cons_succ, f0, f1, f4] at hE ⊢
        clear f0 f1 f4
        go_wp2_with fail
        refine calls_then (all64_any va 28 34 39 false _ (by have := HL8.out.a; dsimp only at this; omega) (by decide) (by decide) (by decide)) ?_
        rintro e w2 ⟨rfl, hb2⟩
        rw [← HYA.out]
        go_wp2_with fail
        exact .mk (hE _ (hC1.next hb2))
      apply DetL.next
      · -- 6: Op.call { callee := Callee.value (Operand.func 28), args := #[Operand.tmp 68], argTypes := #[40] }
        apply detStep_plain [(5, some 68), (5, some 68)]
        exact fun _ => rfl
        rfl
        rintro vals ⟨⟨⟨⟨⟨⟨-, -⟩, -⟩, -⟩, -⟩, -⟩, f5⟩ w1 hC1 E hE
        simp only [puts, act_put, act_put_none, List.setIfInBounds_toArray, List.set_cons_zero, List.set_cons_succ, f5] at hE ⊢
        clear f5
        go_wp2_with fail
        refine calls_then (cut64_any cy _ LYA.out) ?_
        rintro e w2 ⟨rfl, rfl⟩
        skip
        go_wp2_with fail
        exact .mk (hE _ hC1)
      apply DetL.next
      · -- 7: Op.move (Operand.tmp 11)
        apply detStep_plain []
        exact fun _ => rfl
        rfl
        rintro vals ⟨⟨⟨⟨⟨⟨⟨-, -⟩, -⟩, -⟩, -⟩, -⟩, -⟩, -⟩ w1 hC1 E hE
        simp only [puts, act_put, act_put_none, List.setIfInBounds_toArray, List.set_cons_zero, List.set_cons_succ] at hE ⊢
        go_wp2
        exact .mk (hE _ hC1)
      apply DetL.next
      · -- 8: Op.indexAddr 42 (Operand.tmp 7) (Operand.const (Value.int IntKind.i64 1))
        apply detStep_plain []
        exact fun _ => rfl
        rfl
        rintro vals ⟨⟨⟨⟨⟨⟨⟨⟨-, -⟩, -⟩, -⟩, -⟩, -⟩, -⟩, -⟩, -⟩ w1 hC1 E hE
        simp only [puts, act_put, act_put_none, List.setIfInBounds_toArray, List.set_cons_zero, List.set_cons_succ] at hE ⊢
        go_wp2
        exact .mk (hE _ hC1)
      apply DetL.next
      · -- 9: Op.load 40 (Operand.tmp 71)
        apply detStep_plain [(8, some 71)]
        exact fun _ => rfl
        rfl
        rintro vals ⟨⟨⟨⟨⟨⟨⟨⟨⟨-, -⟩, -⟩, -⟩, -⟩, -⟩, -⟩, -⟩, -⟩, f8⟩ w1 hC1 E hE
        have d0 := hC1.v.cell 1
        simp [s8V] at d0
        simp only [puts, act_put, act_put_none, List.setIfInBounds_toArray, List.set_cons_zero, List.set_cons_succ, f8] at hE ⊢
        clear f8
        go_wp2
        exact .mk (hE _ hC1)
      apply DetL.next
      · -- 10: Op.binOp BinOp.and 40 (Operand.tmp 70) (Operand.tmp 72) 40
        apply detStep_plain [(7, some 70), (9, some 72)]
        exact fun _ => rfl
        rfl
        rintro vals ⟨⟨⟨⟨⟨⟨⟨⟨⟨⟨-, -⟩, -⟩, -⟩, -⟩, -⟩, -⟩, -⟩, f7⟩, -⟩, f9⟩ w1 hC1 E hE
        simp only [puts, act_put, act_put_none, List.setIfInBounds_toArray, List.set_cons_zero, List.set_cons_succ, f7, f9] at hE ⊢
        clear f7 f9
        go_wp2
        rw [and64 va vb HL8.out.a HL8.out.b, ← HAB.out]
        exact .mk (hE _ hC1)
      apply DetL.next
      · -- 11: Op.move (Operand.tmp 11)
        apply detStep_plain []
        exact fun _ => rfl
        rfl
        rintro vals ⟨⟨⟨⟨⟨⟨⟨⟨⟨⟨⟨-, -⟩, -⟩, -⟩, -⟩, -⟩, -⟩, -⟩, -⟩, -⟩, -⟩, -⟩ w1 hC1 E hE
        simp only [puts, act_put, act_put_none, List.setIfInBounds_toArray, List.set_cons_zero, List.set_cons_succ] at hE ⊢
        go_wp2
        exact .mk (hE _ hC1)
      apply DetL.next
      · -- 12: Op.indexAddr 42 (Operand.tmp 7) (Operand.const (Value.int IntKind.i64 2))
        apply detStep_plain []
        exact fun _ => rfl
        rfl
        rintro vals ⟨⟨⟨⟨⟨⟨⟨⟨⟨⟨⟨⟨-, -⟩, -⟩, -⟩, -⟩, -⟩, -⟩, -⟩, -⟩, -⟩, -⟩, -⟩, -⟩ w1 hC1 E hE
        simp only [puts, act_put, act_put_none, List.setIfInBounds_toArray, List.set_cons_zero, List.set_cons_succ] at hE ⊢
        go_wp2
        exact .mk (hE _ hC1)
      apply DetL.next
      · -- 13: Op.load 40 (Operand.tmp 75)
        apply detStep_plain [(12, some 75)]
        exact fun _ => rfl
        rfl
        rintro vals ⟨⟨⟨⟨⟨⟨⟨⟨⟨⟨⟨⟨⟨-, -⟩, -⟩, -⟩, -⟩, -⟩, -⟩, -⟩, -⟩, -⟩, -⟩, -⟩, -⟩, f12⟩ w1 hC1 E hE
        have d0 := hC1.v.cell 2
        simp [s8V] at d0
        simp only [puts, act_put, act_put_none, List.setIfInBounds_toArray, List.set_cons_zero, List.set_cons_succ, f12] at hE ⊢
        clear f12
        go_wp2
        exact .mk (hE _ hC1)
      apply DetL.next
      · -- 14: Op.binOp BinOp.and 40 (Operand.tmp 74) (Operand.tmp 76) 40
        apply detStep_plain [(11, some 74), (13, some 76)]
        exact fun _ => rfl
        rfl
        rintro vals ⟨⟨⟨⟨⟨⟨⟨⟨⟨⟨⟨⟨⟨⟨-, -⟩, -⟩, -⟩, -⟩, -⟩, -⟩, -⟩, -⟩, -⟩, -⟩, -⟩, f11⟩, -⟩, f13⟩ w1 hC1 E hE
        simp only [puts, act_put, act_put_none, List.setIfInBounds_toArray, List.set_cons_zero, List.set_cons_succ, f11, f13] at hE ⊢
        clear f11 f13
        go_wp2
        rw [and64 va vc HL8.out.a HL8.out.c, ← HAC.out]
        exact .mk (hE _ hC1)
      apply DetL.next
      · -- 15: Op.binOp BinOp.xor 40 (Operand.tmp 73) (Operand.tmp 77) 40
        apply detStep_plain [(10, some 73), (14, some 77)]
        exact fun _ => rfl
        rfl
        rintro vals ⟨⟨⟨⟨⟨⟨⟨⟨⟨⟨⟨⟨⟨⟨⟨-, -⟩, -⟩, -⟩, -⟩, -⟩, -⟩, -⟩, -⟩, -⟩, -⟩, f10⟩, -⟩, -⟩, -⟩, f14⟩ w1 hC1 E hE
        simp only [puts, act_put, act_put_none, List.setIfInBounds_toArray, List.set_cons_zero, List.set_cons_succ, f10, f14] at hE ⊢
        clear f10 f14
        go_wp2
        rw [xor64 ab ac ABL.out ACL.out, ← HX1.out]
        exact .mk (hE _ hC1)
      apply DetL.next
      · -- 16: Op.indexAddr 42 (Operand.tmp 7) (Operand.const (Value.int IntKind.i64 1))
        apply detStep_plain []
        exact fun _ => rfl
        rfl
        rintro vals ⟨⟨⟨⟨⟨⟨⟨⟨⟨⟨⟨⟨⟨⟨⟨⟨-, -⟩, -⟩, -⟩, -⟩, -⟩, -⟩, -⟩, -⟩, -⟩, -⟩, -⟩, -⟩, -⟩, -⟩, -⟩, -⟩ w1 hC1 E hE
        simp only [puts, act_put, act_put_none, List.setIfInBounds_toArray, List.set_cons_zero, List.set_cons_succ] at hE ⊢
        go_wp2
        exact .mk (hE _ hC1)
      apply DetL.next
      · -- 17: Op.load 40 (Operand.tmp 79)
        apply detStep_plain [(16, some 79)]
        exact fun _ => rfl
        rfl
        rintro vals ⟨⟨⟨⟨⟨⟨⟨⟨⟨⟨⟨⟨⟨⟨⟨⟨⟨-, -⟩, -⟩, -⟩, -⟩, -⟩, -⟩, -⟩, -⟩, -⟩, -⟩, -⟩, -⟩, -⟩, -⟩, -⟩, -⟩, f16⟩ w1 hC1 E hE
        have d0 := hC1.v.cell 1
        simp [s8V] at d0
        simp only [puts, act_put, act_put_none, List.setIfInBounds_toArray, List.set_cons_zero, List.set_cons_succ, f16] at hE ⊢
        clear f16
        go_wp2
        exact .mk (hE _ hC1)
      apply DetL.next
      · -- 18: Op.indexAddr 42 (Operand.tmp 7) (Operand.const (Value.int IntKind.i64 2))
        apply detStep_plain []
        exact fun _ => rfl
        rfl
        rintro vals ⟨⟨⟨⟨⟨⟨⟨⟨⟨⟨⟨⟨⟨⟨⟨⟨⟨⟨-, -⟩, -⟩, -⟩, -⟩, -⟩, -⟩, -⟩, -⟩, -⟩, -⟩, -⟩, -⟩, -⟩, -⟩, -⟩, -⟩, -⟩, -⟩ w1 hC1 E hE
        simp only [puts, act_put, act_put_none, List.setIfInBounds_toArray, List.set_cons_zero, List.set_cons_succ] at hE ⊢
        go_wp2
        exact .mk (hE _ hC1)
      apply DetL.next
      · -- 19: Op.load 40 (Operand.tmp 81)
        apply detStep_plain [(18, some 81)]
        exact fun _ => rfl
        rfl
        rintro vals ⟨⟨⟨⟨⟨⟨⟨⟨⟨⟨⟨⟨⟨⟨⟨⟨⟨⟨⟨-, -⟩, -⟩, -⟩, -⟩, -⟩, -⟩, -⟩, -⟩, -⟩, -⟩, -⟩, -⟩, -⟩, -⟩, -⟩, -⟩, -⟩, -⟩, f18⟩ w1 hC1 E hE
        have d0 := hC1.v.cell 2
        simp [s8V] at d0
        simp only [puts, act_put, act_put_none, List.setIfInBounds_toArray, List.set_cons_zero, List.set_cons_succ, f18] at hE ⊢
        clear f18
        go_wp2
        exact .mk (hE _ hC1)
      apply DetL.next
      · -- 20: Op.binOp BinOp.and 40 (Operand.tmp 80) (Operand.tmp 82) 40
        apply detStep_plain [(17, some 80), (19, some 82)]
        exact fun _ => rfl
        rfl
        rintro vals ⟨⟨⟨⟨⟨⟨⟨⟨⟨⟨⟨⟨⟨⟨⟨⟨⟨⟨⟨⟨-, -⟩, -⟩, -⟩, -⟩, -⟩, -⟩, -⟩, -⟩, -⟩, -⟩, -⟩, -⟩, -⟩, -⟩, -⟩, -⟩, -⟩, f17⟩, -⟩, f19⟩ w1 hC1 E hE
        simp only [puts, act_put, act_put_none, List.setIfInBounds_toArray, List.set_cons_zero, List.set_cons_succ, f17, f19] at hE ⊢
        clear f17 f19
        go_wp2
        rw [and64 vb vc HL8.out.b HL8.out.c, ← HBC.out]
        exact .mk (hE _ hC1)
      apply DetL.next
      · -- 21: Op.binOp BinOp.xor 40 (Operand.tmp 78) (Operand.tmp 83) 40
        apply detStep_plain [(15, some 78), (20, some 83)]
        exact fun _ => rfl
        rfl
        rintro vals ⟨⟨⟨⟨⟨⟨⟨⟨⟨⟨⟨⟨⟨⟨⟨⟨⟨⟨⟨⟨⟨-, -⟩, -⟩, -⟩, -⟩, -⟩, -⟩, -⟩, -⟩, -⟩, -⟩, -⟩, -⟩, -⟩, -⟩, -⟩, f15⟩, -⟩, -⟩, -⟩, -⟩, f20⟩ w1 hC1 E hE
        simp only [puts, act_put, act_put_none, List.setIfInBounds_toArray, List.set_cons_zero, List.set_cons_succ, f15, f20] at hE ⊢
        clear f15 f20
        go_wp2
        rw [xor64 x1 bc X1L.out BCL.out, ← HMJ.out]
        exact .mk (hE _ hC1)
      apply DetL.next
      · -- 22: Op.binOp BinOp.add 40 (Operand.tmp 69) (Operand.tmp 84) 40
        apply detStep_plain [(6, some 69), (21, some 84)]
        exact fun _ => rfl
        rfl
        rintro vals ⟨⟨⟨⟨⟨⟨⟨⟨⟨⟨⟨⟨⟨⟨⟨⟨⟨⟨⟨⟨⟨⟨-, -⟩, -⟩, -⟩, -⟩, -⟩, -⟩, f6⟩, -⟩, -⟩, -⟩, -⟩, -⟩, -⟩, -⟩, -⟩, -⟩, -⟩, -⟩, -⟩, -⟩, -⟩, f21⟩ w1 hC1 E hE
        simp only [puts, act_put, act_put_none, List.setIfInBounds_toArray, List.set_cons_zero, List.set_cons_succ, f6, f21] at hE ⊢
        clear f6 f21
        go_wp2
        rw [add2_64 cy mj, ← HYY.out]
        exact .mk (hE _ hC1)
      apply DetL.last
      · -- 23: Op.assign (Operand.tmp 85)
        apply detStep_plain [(22, some 85), (6, some 69), (0, some 63), (1, some 64), (2, some 65), (3, some 66), (4, some 67), (5, some 68), (6, some 69), (7, some 70), (8, some 71), (9, some 72), (10, some 73), (11, some 74), (12, some 75), (13, some 76), (14, some 77), (15, some 78), (16, some 79), (17, some 80), (18, some 81), (19, some 82), (20, some 83), (21, some 84), (22, some 85)]
        exact fun _ => rfl
        rfl
        rintro vals ⟨⟨⟨⟨⟨⟨⟨⟨⟨⟨⟨⟨⟨⟨⟨⟨⟨⟨⟨⟨⟨⟨⟨-, f0⟩, f1⟩, f2⟩, f3⟩, f4⟩, f5⟩, f6⟩, f7⟩, f8⟩, f9⟩, f10⟩, f11⟩, f12⟩, f13⟩, f14⟩, f15⟩, f16⟩, f17⟩, f18⟩, f19⟩, f20⟩, f21⟩, f22⟩ w1 hC1 E hE
        simp only [puts, act_put, act_put_none, List.setIfInBounds_toArray, List.set_cons_zero, List.set_cons_succ, f0, f1, f2, f3, f4, f5, f6, f7, f8, f9, f10, f11, f12, f13, f14, f15, f16, f17, f18, f19, f20, f21, f22] at hE ⊢
        clear f0 f1 f2 f3 f4 f5 f6 f7 f8 f9 f10 f11 f12 f13 f14 f15 f16 f17 f18 f19 f20 f21 f22
        go_wp2
        exact .mk (hE _ hC1)
      rintro vals ⟨⟨⟨⟨⟨⟨⟨⟨⟨⟨⟨⟨⟨⟨⟨⟨⟨⟨⟨⟨⟨⟨⟨⟨-, f0⟩, f1⟩, f2⟩, f3⟩, f4⟩, f5⟩, f6⟩, f7⟩, f8⟩, f9⟩, f10⟩, f11⟩, f12⟩, f13⟩, f14⟩, f15⟩, f16⟩, f17⟩, f18⟩, f19⟩, f20⟩, f21⟩, f22⟩, f23⟩ w1 hC1
      simp only [puts, act_put, act_put_none, List.setIfInBounds_toArray, List.set_cons_zero, List.set_cons_succ, f0, f1, f2, f3, f4, f5, f6, f7, f8, f9, f10, f11, f12, f13, f14, f15, f16, f17, f18, f19, f20, f21, f22, f23]
      clear f0 f1 f2 f3 f4 f5 f6 f7 f8 f9 f10 f11 f12 f13 f14 f15 f16 f17 f18 f19 f20 f21 f22 f23
      clear HC0
      go_wp2_with fail
      have HC0 := hC1.drew
      clear hC1
      refine wp_region_det (fun u => MixSt64 w gf gr s (rowC .u64 RW 0) (s8V .u64 ⟨va, vb, vc, vd, ve, vf, vg, vh⟩) u) (fun u => MixSt64 w gf gr s (rowC .u64 RW 0) (s8V .u64 ⟨va, va, vb, vc, vd, ve, vf, vg⟩) u) [(0, some 86), (1, some 87), (2, some 88)] (by kernel_rfl) (by kernel_rfl) (by decide) (by kernel_rfl) (fun _ => rfl) HC0 ?_
      apply DetL.next
      · -- 0: Op.slice 42 (Operand.tmp 7) (some (Operand.const (Value.int IntKind.i64 1))) none none
        apply detStep_plain []
        exact fun _ => rfl
        rfl
        rintro vals - w1 hC1 E hE
        simp only [puts, act_put, act_put_none, List.setIfInBounds_toArray, List.set_cons_zero, List.set_cons_succ] at hE ⊢
        go_wp2
        exact .mk (hE _ hC1)
      apply DetL.next
      · -- 1: Op.slice 42 (Operand.tmp 7) none (some (Operand.const (Value.int IntKind.i64 7))) none
        apply detStep_plain []
        exact fun _ => rfl
        rfl
        rintro vals ⟨-, -⟩ w1 hC1 E hE
        simp only [puts, act_put, act_put_none, List.setIfInBounds_toArray, List.set_cons_zero, List.set_cons_succ] at hE ⊢
        go_wp2
        exact .mk (hE _ hC1)
      apply DetL.last
      · -- 2: Op.call { callee := Callee.builtin Builtin.copy, args := #[Operand.tmp 86, Operand.tmp 87], argTypes := #[36, 
        apply detStep_plain [(0, some 86), (1, some 87)]
        exact fun _ => rfl
        rfl
        rintro vals ⟨⟨-, f0⟩, f1⟩ w1 hC1 E hE
        simp only [puts, act_put, act_put_none, List.setIfInBounds_toArray, List.set_cons_zero, List.set_cons_succ, f0, f1] at hE ⊢
        clear f0 f1
        refine wpList_copy_blk ((s8V .u64 ⟨va, vb, vc, vd, ve, vf, vg, vh⟩).toList.take 7) (new := s8V .u64 ⟨va, va, vb, vc, vd, ve, vf, vg⟩) hC1.v rfl rfl Tryd.underlying36 one64 rfl rfl rfl (blk_src hC1.v 7) (by simp [s8V]) (by simp [s8V, Value.oneCell']) rfl ?_
        intro w2 hb2 hw2
        go_wp2_with fail
        exact .mk (hE _ (hC1.put hw2 hb2))
      rintro vals ⟨⟨⟨-, f0⟩, f1⟩, f2⟩ w1 hC1
      simp only [puts, act_put, act_put_none, List.setIfInBounds_toArray, List.set_cons_zero, List.set_cons_succ, f0, f1, f2]
      clear f0 f1 f2
      clear HC0
      have d4 := hC1.v.cell 4
      simp [s8V] at d4
      have d0 := hC1.v.cell 0
      simp [s8V] at d0
      have g4 := hC1.v.free 4
      have g0 := hC1.v.free 0
      have HC1 := Lib.hid hC1
      clear hC1 iwk ikk ive iva
      have hu8' := Lib.hid hu8
      have hu' := Lib.hid hu
      have hu3' := Lib.hid hu3
      clear hu8 hu hu3
      obtain ⟨dx, hdx⟩ : ∃ x, x = (vd + xx) % 2 ^ 64 := ⟨_, rfl⟩
      obtain ⟨xy, hxy⟩ : ∃ x, x = (xx + yy) % 2 ^ 64 := ⟨_, rfl⟩
      have HDX := Lib.hid hdx
      have HXY := Lib.hid hxy
      clear hdx hxy
      have hfin : ∀ u, u = (w1.setCell ⟨gf + 1 + 1 + 1, 4, none⟩ (.int .u64 (dx : Int))).setCell ⟨gf + 1 + 1 + 1, 0, none⟩ (.int .u64 (xy : Int)) → MixSt64 w gf gr s (rowC .u64 RW 0) (s8V .u64 (mixTo F64 RW s (k + 1))) u := by
        intro u hu
        rw [hu, mixTo, ← HVV.out]
        have h1 := HC1.out.put (v' := s8V .u64 ⟨va, va, vb, vc, dx, ve, vf, vg⟩) (wrote_setCell_at w1 (gf + 1 + 1 + 1) 4 (.int .u64 (dx : Int))) (blk_setCell_at (i := 4) HC1.out.v (.int .u64 (dx : Int)))
        have h2 := h1.put (v' := s8V .u64 ⟨xy, va, vb, vc, dx, ve, vf, vg⟩) (wrote_setCell_at _ (gf + 1 + 1 + 1) 0 (.int .u64 (xy : Int))) (blk_setCell_at (i := 0) h1.v (.int .u64 (xy : Int)))
        have e1 : mixX F64 ⟨va, vb, vc, vd, ve, vf, vg, vh⟩ (kN F64 k) (RW.getD k 0) = xx := by
          rw [HXX.out, HP3.out, HP2.out, HP1.out, HCH.out, HNG.out, HNE.out, HAF.out, HXA.out, HWK.out, HKNE.out]
          exact mixX_64 _ _ _ _ _
        have e2 : mixY F64 ⟨va, vb, vc, vd, ve, vf, vg, vh⟩ = yy := by
          rw [HYY.out, HMJ.out, HX1.out, HAB.out, HAC.out, HBC.out, HYA.out]
          exact mixY_64 _ _
        have e3 : stepS F64 ⟨va, vb, vc, vd, ve, vf, vg, vh⟩ (kN F64 k) (RW.getD k 0) = ⟨xy, va, vb, vc, dx, ve, vf, vg⟩ := by
          rw [stepS, e1, e2, HDX.out, HXY.out]
          rfl
        rw [e3]
        exact h2
      have HFIN := Lib.hid hfin
      clear hfin
      go_wp2_with fail
      rw [add2_64 vd xx, add2_64 xx yy, ← HDX.out, ← HXY.out]
      exact ⟨⟨k + 1, hlt, by go_num, HFIN.out _ rfl⟩, by simp [intOf]; omega⟩
    · have hge : ¬ (k : Int) < 80 := by omega
      obtain rfl : k = 80 := by omega
      have HST := Lib.hid hst
      clear hst
      go_wp2_with fail
      obtain ⟨vv, hvv⟩ : ∃ x, x = mixTo F64 RW s 80 := ⟨_, rfl⟩
      have HVV := Lib.hid hvv
      have hst9 : MixSt64 w gf gr s (rowC .u64 RW 0) (addC .u64 F64 s vv 0) wr := by rw [addC_zero, HVV.out]; exact HST.out
      clear hvv HST
      obtain ⟨wo, rfl⟩ : ∃ wo : World, wo = wr := ⟨_, rfl⟩
      go_loopw [99] (fun i wr => ∃ j : Nat, j ≤ 8 ∧ i = .int .i64 j ∧ MixSt64 w gf gr s (rowC .u64 RW 0) (addC .u64 F64 s vv j) wr) (fun i _ => 8 - (intOf i).toNat)
      case atStart => exact ⟨0, by omega, rfl, hst9⟩
      case round =>
        obtain ⟨j, hj, rfl, hsj⟩ := hrel
        clear hst9
        by_cases hj8 : j < 8
        · have hj8' : (j : Int) < 8 := by omega
          obtain ⟨vj, hvj⟩ : ∃ x, x = (s8L vv).getD j 0 := ⟨_, rfl⟩
          obtain ⟨sj, hsj'⟩ : ∃ x, x = (s8L s).getD j 0 := ⟨_, rfl⟩
          obtain ⟨aj, haj⟩ : ∃ x, x = (vj + sj) % 2 ^ 64 := ⟨_, rfl⟩
          have E1 : Hid ((addC .u64 F64 s vv j)[j]? = some (.int .u64 (vj : Int))) := Lib.hid (by rw [addC_at .u64 F64 s vv j hj8, hvj])
          have E2 : Hid ((s8V .u64 s)[j]? = some (.int .u64 (sj : Int))) := Lib.hid (by rw [s8V_at .u64 s j hj8, hsj'])
          have E3 : Hid ((addC .u64 F64 s vv j).setIfInBounds j (.int .u64 (aj : Int)) = addC .u64 F64 s vv (j + 1)) := Lib.hid (by rw [haj, hvj, hsj']; exact addC_set .u64 F64 s vv j hj8)
          have HAJ := Lib.hid haj
          clear hvj hsj' haj
          go_wp2_with fail
          have HC0 := hsj.drew
          clear hsj
          refine wp_region_det (fun u => MixSt64 w gf gr s (rowC .u64 RW 0) (addC .u64 F64 s vv j) u) (fun u => MixSt64 w gf gr s (rowC .u64 RW 0) (addC .u64 F64 s vv (j + 1)) u) [(0, some 102), (1, some 103), (2, some 104), (3, some 105), (4, some 106), (5, some 107), (6, some 108), (7, some 109), (8, none)] (by kernel_rfl) (by kernel_rfl) (by decide) (by kernel_rfl) (fun _ => rfl) HC0 ?_
          apply DetL.next
          · -- 0: Op.move (Operand.tmp 15)
            apply detStep_plain []
            exact fun _ => rfl
            rfl
            rintro vals - w1 hC1 E hE
            simp only [puts, act_put, act_put_none, List.setIfInBounds_toArray, List.set_cons_zero, List.set_cons_succ] at hE ⊢
            go_wp2
            exact .mk (hE _ hC1)
          apply DetL.next
          · -- 1: Op.indexAddr 42 (Operand.tmp 7) (Operand.tmp 102)
            apply detStep_plain [(0, some 102)]
            exact fun _ => rfl
            rfl
            rintro vals ⟨-, f0⟩ w1 hC1 E hE
            simp only [puts, act_put, act_put_none, List.setIfInBounds_toArray, List.set_cons_zero, List.set_cons_succ, f0] at hE ⊢
            clear f0
            go_wp2
            exact .mk (hE _ hC1)
          apply DetL.next
          · -- 2: Op.load 40 (Operand.tmp 103)
            apply detStep_plain [(1, some 103)]
            exact fun _ => rfl
            rfl
            rintro vals ⟨⟨-, -⟩, f1⟩ w1 hC1 E hE
            have d0 := hC1.v.cell j
            rw [E1.out] at d0
            simp only [puts, act_put, act_put_none, List.setIfInBounds_toArray, List.set_cons_zero, List.set_cons_succ, f1] at hE ⊢
            clear f1
            go_wp2
            exact .mk (hE _ hC1)
          apply DetL.next
          · -- 3: Op.move (Operand.tmp 15)
            apply detStep_plain []
            exact fun _ => rfl
            rfl
            rintro vals ⟨⟨⟨-, -⟩, -⟩, -⟩ w1 hC1 E hE
            simp only [puts, act_put, act_put_none, List.setIfInBounds_toArray, List.set_cons_zero, List.set_cons_succ] at hE ⊢
            go_wp2
            exact .mk (hE _ hC1)
          apply DetL.next
          · -- 4: Op.indexAddr 42 (Operand.tmp 4) (Operand.tmp 105)
            apply detStep_plain [(3, some 105)]
            exact fun _ => rfl
            rfl
            rintro vals ⟨⟨⟨⟨-, -⟩, -⟩, -⟩, f3⟩ w1 hC1 E hE
            simp only [puts, act_put, act_put_none, List.setIfInBounds_toArray, List.set_cons_zero, List.set_cons_succ, f3] at hE ⊢
            clear f3
            go_wp2
            exact .mk (hE _ hC1)
          apply DetL.next
          · -- 5: Op.load 40 (Operand.tmp 106)
            apply detStep_plain [(4, some 106)]
            exact fun _ => rfl
            rfl
            rintro vals ⟨⟨⟨⟨⟨-, -⟩, -⟩, -⟩, -⟩, f4⟩ w1 hC1 E hE
            have d0 := hC1.s.cell j
            rw [E2.out] at d0
            simp only [puts, act_put, act_put_none, List.setIfInBounds_toArray, List.set_cons_zero, List.set_cons_succ, f4] at hE ⊢
            clear f4
            go_wp2
            exact .mk (hE _ hC1)
          apply DetL.next
          · -- 6: Op.binOp BinOp.add 40 (Operand.tmp 104) (Operand.tmp 107) 40
            apply detStep_plain [(2, some 104), (5, some 107)]
            exact fun _ => rfl
            rfl
            rintro vals ⟨⟨⟨⟨⟨⟨-, -⟩, -⟩, f2⟩, -⟩, -⟩, f5⟩ w1 hC1 E hE
            simp only [puts, act_put, act_put_none, List.setIfInBounds_toArray, List.set_cons_zero, List.set_cons_succ, f2, f5] at hE ⊢
            clear f2 f5
            go_wp2
            rw [add2_64 vj sj, ← HAJ.out]
            exact .mk (hE _ hC1)
          apply DetL.next
          · -- 7: Op.indexAddr 42 (Operand.tmp 7) (Operand.tmp 102)
            apply detStep_plain [(0, some 102), (0, some 102), (1, some 103), (2, some 104), (3, some 105), (4, some 106), (5, some 107), (6, some 108)]
            exact fun _ => rfl
            rfl
            rintro vals ⟨⟨⟨⟨⟨⟨⟨-, f0⟩, f1⟩, f2⟩, f3⟩, f4⟩, f5⟩, f6⟩ w1 hC1 E hE
            simp only [puts, act_put, act_put_none, List.setIfInBounds_toArray, List.set_cons_zero, List.set_cons_succ, f0, f1, f2, f3, f4, f5, f6] at hE ⊢
            clear f0 f1 f2 f3 f4 f5 f6
            go_wp2
            exact .mk (hE _ hC1)
          apply DetL.last (v := undef)
          · -- 8: Op.store 40 (Operand.tmp 109) (Operand.tmp 108)
            apply detStep_plain [(7, some 109), (6, some 108), (0, some 102), (1, some 103), (2, some 104), (3, some 105), (4, some 106), (5, some 107), (6, some 108)]
            exact fun _ => rfl
            rfl
            rintro vals ⟨⟨⟨⟨⟨⟨⟨⟨-, f0⟩, f1⟩, f2⟩, f3⟩, f4⟩, f5⟩, f6⟩, f7⟩ w1 hC1 E hE
            simp only [puts, act_put, act_put_none, List.setIfInBounds_toArray, List.set_cons_zero, List.set_cons_succ, f0, f1, f2, f3, f4, f5, f6, f7] at hE ⊢
            clear f0 f1 f2 f3 f4 f5 f6 f7
            refine wpList_put_cell (i := j) (v := .int .u64 (aj : Int)) hC1.v rfl rfl rfl rfl one64 (by rw [addC_size]; exact hj8) rfl ?_
            intro w2 hb2 hw2
            go_wp2_with fail
            exact .mk (hE _ (hC1.put hw2 (by rw [E3.out] at hb2; exact hb2)))
          rintro vals ⟨⟨⟨⟨⟨⟨⟨⟨⟨-, f0⟩, f1⟩, f2⟩, f3⟩, f4⟩, f5⟩, f6⟩, f7⟩, f8⟩ w1 hC1
          simp only [puts, act_put, act_put_none, List.setIfInBounds_toArray, List.set_cons_zero, List.set_cons_succ, f0, f1, f2, f3, f4, f5, f6, f7, f8]
          clear f0 f1 f2 f3 f4 f5 f6 f7 f8
          clear HC0
          have HC1 := Lib.hid hC1
          clear hC1
          go_wp2_with fail
          exact ⟨⟨j + 1, hj8, by go_num, HC1.out⟩, by simp [intOf]; omega⟩
        · have hge : ¬ (j : Int) < 8 := by omega
          obtain rfl : j = 8 := by omega
          rw [addC_end] at hsj
          go_wp2_with (first
            | (refine wpList_get_box (x := .tmp 7) hsj.v rfl rfl rfl hu8 rfl eight64_size ?_)
            | (refine wpList_put_box (x := .tmp 6) hsj.res rfl rfl rfl rfl eight64_size rfl (by simp [s8V, Value.oneCell']) ?_; intro w5 hb5 hw5))
          refine bodyPost_ret (results_box (P := Tryd.prog) rfl rfl hb5 hu8 rfl eight64_size) rfl ?_
          refine ⟨?_, ?_⟩
          · rw [mixS, HVV.out, HRW.out]; rfl
          · rw [HGF.out]
            exact hw5.below hsj.bel (by omega) (by have := hsj.form.lt; omega)
end Go.Proofs.YtfpbcihpjcocmaaDoor
