/-
  Walk: the field's least.
-/
import Derived.Test.YtbeokfpbhemcfaaFs
namespace Go.Proofs.Ytbeokfpbhemcfaa
set_option linter.unusedSimpArgs false
set_option linter.unusedVariables false
open Go.RowKit

/-- what is above p, up to a limb -/
def ovr (x : E5) : Nat → Nat
  | 0 => ((limbs x).getD 0 0 + 19) / 2251799813685248
  | k + 1 => ((limbs x).getD (k + 1) 0 + ovr x k) / 2251799813685248
theorem ovr_end (x : E5) : ovr x 4 = overP x := rfl
theorem ovr_le {x : E5} (h : x.Lt 4503599627370496) : ∀ k, ovr x k ≤ 2
  | 0 => by have := limb_lt h (by decide) 0; simp only [ovr]; omega
  | k + 1 => by have := limb_lt h (by decide) (k + 1); have := ovr_le h k; simp only [ovr]; omega
/-- a limb with what comes from below -/
def cyE (x : E5) (q : Nat) : Nat → Nat
  | 0 => (limbs x).getD 0 0 + 19 * q
  | k + 1 => (limbs x).getD (k + 1) 0 + cyE x q k / 2251799813685248
theorem cyE_le {x : E5} (h : x.Lt 4503599627370496) {q : Nat} (hq : q ≤ 2) : ∀ k, cyE x q k < 4503599627370600
  | 0 => by have := limb_lt h (by decide) 0; simp only [cyE]; omega
  | k + 1 => by have := limb_lt h (by decide) (k + 1); have := cyE_le h hq k; simp only [cyE]; omega
def lstV (x : E5) (q k : Nat) : Array Value := wV ((List.range k).map (fun j => cyE x q j % 2251799813685248) ++ cyE x q k :: (limbs x).drop (k + 1))
def midV (x : E5) (q k : Nat) : Array Value := wV ((List.range k).map (fun j => cyE x q j % 2251799813685248) ++ cyE x q k :: cyE x q (k + 1) :: (limbs x).drop (k + 2))
theorem lstV_zero (x : E5) (q : Nat) : (eV x).setIfInBounds 0 (.int .u64 (((limbs x).getD 0 0 + 19 * q : Nat) : Int)) = lstV x q 0 := rfl
theorem lstV_at (x : E5) (q k : Nat) (h : k < 5) : (lstV x q k)[k]? = some (.int .u64 ((cyE x q k : Nat) : Int)) := by
  match k, h with
  | 0, _ => rfl
  | 1, _ => rfl
  | 2, _ => rfl
  | 3, _ => rfl
  | 4, _ => rfl
theorem lstV_at1 (x : E5) (q k : Nat) (h : k < 4) : (lstV x q k)[k + 1]? = some (.int .u64 (((limbs x).getD (k + 1) 0 : Nat) : Int)) := by
  match k, h with
  | 0, _ => rfl
  | 1, _ => rfl
  | 2, _ => rfl
  | 3, _ => rfl
theorem lstV_set (x : E5) (q k : Nat) (h : k < 4) : (lstV x q k).setIfInBounds (k + 1) (.int .u64 ((cyE x q (k + 1) : Nat) : Int)) = midV x q k := by
  match k, h with
  | 0, _ => rfl
  | 1, _ => rfl
  | 2, _ => rfl
  | 3, _ => rfl
theorem midV_at (x : E5) (q k : Nat) (h : k < 4) : (midV x q k)[k]? = some (.int .u64 ((cyE x q k : Nat) : Int)) := by
  match k, h with
  | 0, _ => rfl
  | 1, _ => rfl
  | 2, _ => rfl
  | 3, _ => rfl
theorem midV_set (x : E5) (q k : Nat) (h : k < 4) : (midV x q k).setIfInBounds k (.int .u64 ((cyE x q k % 2251799813685248 : Nat) : Int)) = lstV x q (k + 1) := by
  match k, h with
  | 0, _ => rfl
  | 1, _ => rfl
  | 2, _ => rfl
  | 3, _ => rfl
theorem lstV_end (x : E5) (q : Nat) : (lstV x q 4).setIfInBounds 4 (.int .u64 ((cyE x q 4 % 2251799813685248 : Nat) : Int)) = eV (leastQ x q) := rfl
/-- an element that came in, the result's place -/
structure G2 (w0 : World) (g r : Nat) (x z : Array Value) (u : World) : Prop where
  bel : Below w0.heap.size w0 u
  x : Blk u g 26 x
  z : Blk u r 26 z
  lg : w0.heap.size ≤ g
  lr : w0.heap.size ≤ r
  gr : g ≠ r
theorem G2.putX {w0 u u' : World} {g r : Nat} {x z x' : Array Value} (k : G2 w0 g r x z u) (hw : Wrote g u u') (hb : Blk u' g 26 x') : G2 w0 g r x' z u' :=
  ⟨hw.below k.bel k.lg k.bel.size, hb, hw.blk k.z (Ne.symm k.gr), k.lg, k.lr, k.gr⟩
theorem G2.drew {w0 u : World} {g r : Nat} {x z : Array Value} (k : G2 w0 g r x z u) : G2 w0 g r x z u.drew :=
  ⟨k.bel.drew, k.x, k.z, k.lg, k.lr, k.gr⟩
theorem G2.next {w0 u u' : World} {g r : Nat} {x z : Array Value} (k : G2 w0 g r x z u) (hb : Below u.heap.size u u') : G2 w0 g r x z u' :=
  ⟨k.bel.trans (hb.mono k.bel.size), k.x.below hb k.x.lt, k.z.below hb k.z.lt, k.lg, k.lr, k.gr⟩
theorem g2_new (w : World) (x z : Array Value) : G2 w w.heap.size (w.heap.size + 1) x z ((w.alloc (.cells x 26)).alloc (.cells z 26)) :=
  ⟨(below_new _ _).alloc (by simp) _, (Blk.new _ _ _).alloc _, Blk.newAt (by simp), Nat.le_refl _, by omega, by omega⟩
set_option maxRecDepth 100000 in
set_option maxHeartbeats 2000000 in
theorem least_any (x : E5) (w : World) (hx : x.Lt 18446744073709551616) : Calls Try.prog 61 #[.agg (eV x)] w (ElemPost (leastE x) w) := by
  have hu := Try.underlying26
  have hst0 : G2 w w.heap.size (w.heap.size + 1) (eV x) (eV zE) _ := g2_new w (eV x) (eV zE)
  have hx1 : (carryE x).Lt 18446744073709551616 := (carry_lt hx).mono (by decide)
  obtain ⟨y, hy⟩ : ∃ y, y = carryE (carryE x) := ⟨_, rfl⟩
  have hyl : y.Lt 4503599627370496 := by rw [hy]; exact (carry_lt hx1).mono (by decide)
  have hfin : leastE x = leastQ y (ovr y 4) := by rw [hy]; rfl
  have HX := Lib.hid hx
  have HX1 := Lib.hid hx1
  have HYL := Lib.hid hyl
  have HST0 := Lib.hid hst0
  have HFIN := Lib.hid hfin
  have HY := Lib.hid hy
  clear hx hx1 hyl hst0 hfin hy
  go_enter Try.func61, Try.ntmps61
  go_wp2_with (refine wpList_get_box (x := .tmp 1) HST0.out.x rfl rfl rfl hu rfl elem_size ?_)
  generalize hr : w.heap.size + 1 = r at *
  generalize hg : w.heap.size = g at *
  have HR := Lib.hid hr
  have HG := Lib.hid hg
  clear hr hg
  refine calls_then (carried_any x _ HX.out) ?_
  rintro e w2 ⟨rfl, hb2⟩
  have hs2 := HST0.out.next hb2
  have HS2 := Lib.hid hs2
  clear HST0 hs2 hb2
  go_wp2_with fail
  refine calls_then (carried_any (carryE x) _ HX1.out) ?_
  rintro e w3 ⟨rfl, hb3⟩
  rw [← HY.out]
  have hs3 := HS2.out.next hb3
  have HS3 := Lib.hid hs3
  clear HS2 hs3 hb3
  have hl0 := limb_lt HYL.out (by decide) 0
  obtain ⟨l0, hl⟩ : ∃ l, l = (limbs y).getD 0 0 := ⟨_, rfl⟩
  rw [← hl] at hl0
  have hq0 : ovr y 0 = (l0 + 19) / 2251799813685248 := by rw [hl]; rfl
  have hll0 : (l0 : Int) < 4503599627370496 := by omega
  have ex0 : (eV y)[0]? = some (.int .u64 (l0 : Int)) := by rw [hl]; exact eV_at _ _ (by decide)
  have HL := Lib.hid hl
  have HQ0 := Lib.hid hq0
  have EX0 := Lib.hid ex0
  clear hl0 hl hq0 ex0
  go_wp2_with (refine wpList_put_box (x := .tmp 1) (cells := eV y) HS3.out.x rfl rfl rfl rfl elem_size rfl (by simp [eV, wV, limbs, Value.oneCell']) ?_; intro w4 hb4 hw4; have d0 := hb4.cell 0; rw [EX0.out] at d0; have HB4 := Lib.hid hb4; have HW4 := Lib.hid hw4; clear hb4 hw4)
  have hs4 : G2 w g r (eV y) (eV zE) w4 := HS3.out.putX HW4.out HB4.out
  have HS4 := Lib.hid hs4
  clear HS3 hs4 HB4 HW4 EX0
  go_loopw [18, 3] (fun i q wr => ∃ k : Nat, k ≤ 4 ∧ i = .int .i64 k ∧ q = .int .u64 (ovr y k : Nat) ∧ G2 w g r (eV y) (eV zE) wr) (fun i _ _ => 4 - (intOf i).toNat)
  case atStart => exact ⟨0, by omega, rfl, by rw [HQ0.out]; go_num, HS4.out⟩
  case round =>
    clear HS4
    obtain ⟨k, hk, rfl, rfl, hst⟩ := hrel
    by_cases hlt : k < 4
    · have hlt' : (k : Int) < 4 := by omega
      obtain ⟨l, hl⟩ : ∃ l, l = (limbs y).getD (k + 1) 0 := ⟨_, rfl⟩
      have hll : l < 4503599627370496 := by rw [hl]; exact limb_lt HYL.out (by decide) (k + 1)
      obtain ⟨q, hq⟩ : ∃ q, q = ovr y k := ⟨_, rfl⟩
      have hql : q ≤ 2 := by rw [hq]; exact ovr_le HYL.out k
      have hqn : ovr y (k + 1) = (l + q) / 2251799813685248 := by rw [hq, hl]; rfl
      have d0 := hst.x.cell (1 + k)
      rw [Nat.add_comm 1 k, eV_at _ _ (by omega), ← hl, Nat.add_comm k 1] at d0
      rw [← hq]
      have hli : (l : Int) < 4503599627370496 := by omega
      have hqi : (q : Int) ≤ 2 := by omega
      have HQN := Lib.hid hqn
      have HST := Lib.hid hst
      clear hqn hq hl hst
      go_wp2_with fail
      exact ⟨⟨k + 1, by omega, by go_num, by rw [HQN.out]; go_num, HST.out⟩, by simp [intOf]; omega⟩
    · obtain rfl : k = 4 := by omega
      obtain ⟨q, hq⟩ : ∃ q, q = ovr y 4 := ⟨_, rfl⟩
      have hql : q ≤ 2 := by rw [hq]; exact ovr_le HYL.out 4
      rw [← hq]
      have hfin := HFIN.out
      rw [← hq] at hfin
      have d0 := hst.x.cell 0
      rw [eV_at _ _ (by decide), ← HL.out] at d0
      have f0 := hst.x.free 0
      have hqi : (q : Int) ≤ 2 := by omega
      have hset := lstV_zero y q
      rw [← HL.out] at hset
      have hz : (l0 : Int) + 19 * (q : Int) = ((l0 + 19 * q : Nat) : Int) := by omega
      have HZ := Lib.hid hz
      have HSET := Lib.hid hset
      have HST := Lib.hid hst
      have HF := Lib.hid hfin
      clear hset hst hq hfin HFIN hz
      go_wp2_with fail
      obtain ⟨wo, hwo⟩ : ∃ x, x = wr.setCell ⟨g, 0, none⟩ (.int .u64 ((l0 : Int) + 19 * (q : Int))) := ⟨_, rfl⟩
      rw [← hwo]
      have hs5 : G2 w g r (lstV y q 0) (eV zE) wo := by
        rw [hwo]
        refine HST.out.putX (wrote_setCell_at _ _ _ _) ?_
        rw [HZ.out]
        have h := blk_setCell_at (i := 0) HST.out.x (.int .u64 ((l0 + 19 * q : Nat) : Int))
        rw [HSET.out] at h
        exact h
      have HS5 := Lib.hid hs5
      have HQL := Lib.hid hql
      clear HST HSET HZ hwo hs5 hql d0 f0 hqi hll0 HQ0 HL
      go_loopw [35] (fun i wr => ∃ k : Nat, k ≤ 4 ∧ i = .int .i64 k ∧ G2 w g r (lstV y q k) (eV zE) wr) (fun i _ => 4 - (intOf i).toNat)
      case atStart => exact ⟨0, by omega, rfl, HS5.out⟩
      case round =>
        clear HS5
        obtain ⟨k, hk, rfl, hst⟩ := hrel
        by_cases hlt2 : k < 4
        · have hlt3 : (k : Int) < 4 := by omega
          obtain ⟨c0, hc0⟩ : ∃ c, c = cyE y q k := ⟨_, rfl⟩
          obtain ⟨c1, hc1⟩ : ∃ c, c = cyE y q (k + 1) := ⟨_, rfl⟩
          obtain ⟨l, hl⟩ : ∃ l, l = (limbs y).getD (k + 1) 0 := ⟨_, rfl⟩
          have hcl : c0 < 4503599627370600 := by rw [hc0]; exact cyE_le HYL.out HQL.out k
          have hc10 : c1 = l + c0 / 2251799813685248 := by rw [hc1, hl, hc0]; rfl
          have hll : l < 4503599627370496 := by rw [hl]; exact limb_lt HYL.out (by decide) (k + 1)
          have ea := lstV_at y q k (by omega)
          have eb := lstV_at1 y q k hlt2
          have ec := lstV_set y q k hlt2
          have ed := midV_at y q k hlt2
          have ee := midV_set y q k hlt2
          rw [← hc0] at ea
          rw [← hl] at eb
          rw [← hc1] at ec
          rw [← hc0] at ed ee
          have EA := Lib.hid ea
          have EB := Lib.hid eb
          have EC := Lib.hid ec
          have ED := Lib.hid ed
          have EE := Lib.hid ee
          have HCL := Lib.hid hcl
          have HLL := Lib.hid hll
          have HC10 := Lib.hid hc10
          have HC0 := hst.drew
          have hk5 : (k : Int) + 1 < 5 := by omega
          have hk6 : (k : Int) < 5 := by omega
          clear ea eb ec ed ee hcl hll hc10 hc0 hc1 hl hst
          go_wp2_with fail
          refine wp_region_det (fun u => G2 w g r (lstV y q k) (eV zE) u) (fun u => G2 w g r (midV y q k) (eV zE) u) [(0, some 38), (1, some 39), (2, some 40), (3, some 41), (4, some 42), (5, some 43), (6, some 44), (7, some 45), (8, some 46), (9, some 47), (10, some 48), (11, some 49), (12, some 50), (13, none)] (by kernel_rfl) (by kernel_rfl) (by decide) (by kernel_rfl) (fun _ => rfl) HC0 ?_
          apply DetL.next
          · -- 0: Op.move (Operand.tmp 6)
            apply detStep_plain []
            exact fun _ => rfl
            rfl
            rintro vals - w1 hC1 E hE
            simp only [puts, act_put, act_put_none, List.setIfInBounds_toArray, List.set_cons_zero, List.set_cons_succ] at hE ⊢
            go_wp2
            exact .mk (hE _ hC1)
          apply DetL.next
          · -- 1: Op.binOp BinOp.add 3 (Operand.tmp 38) (Operand.const (Value.int IntKind.i64 1)) 3
            apply detStep_plain [(0, some 38)]
            exact fun _ => rfl
            rfl
            rintro vals ⟨-, f0⟩ w1 hC1 E hE
            simp only [puts, act_put, act_put_none, List.setIfInBounds_toArray, List.set_cons_zero, List.set_cons_succ, f0] at hE ⊢
            clear f0
            go_wp2
            exact .mk (hE _ hC1)
          apply DetL.next
          · -- 2: Op.fieldAddr 26 (Operand.tmp 1) 0
            apply detStep_plain []
            exact fun _ => rfl
            rfl
            rintro vals ⟨⟨-, -⟩, -⟩ w1 hC1 E hE
            simp only [puts, act_put, act_put_none, List.setIfInBounds_toArray, List.set_cons_zero, List.set_cons_succ] at hE ⊢
            go_wp2
            exact .mk (hE _ hC1)
          apply DetL.next
          · -- 3: Op.indexAddr 24 (Operand.tmp 40) (Operand.tmp 39)
            apply detStep_plain [(2, some 40), (1, some 39)]
            exact fun _ => rfl
            rfl
            rintro vals ⟨⟨⟨-, -⟩, f1⟩, f2⟩ w1 hC1 E hE
            simp only [puts, act_put, act_put_none, List.setIfInBounds_toArray, List.set_cons_zero, List.set_cons_succ, f1, f2] at hE ⊢
            clear f1 f2
            go_wp2
            exact .mk (hE _ hC1)
          apply DetL.next
          · -- 4: Op.load 23 (Operand.tmp 41)
            apply detStep_plain [(3, some 41)]
            exact fun _ => rfl
            rfl
            rintro vals ⟨⟨⟨⟨-, -⟩, -⟩, -⟩, f3⟩ w1 hC1 E hE
            have d0 := hC1.x.cell (k + 1)
            rw [EB.out] at d0
            simp only [puts, act_put, act_put_none, List.setIfInBounds_toArray, List.set_cons_zero, List.set_cons_succ, f3] at hE ⊢
            clear f3
            go_wp2
            exact .mk (hE _ hC1)
          apply DetL.next
          · -- 5: Op.move (Operand.tmp 6)
            apply detStep_plain []
            exact fun _ => rfl
            rfl
            rintro vals ⟨⟨⟨⟨⟨-, -⟩, -⟩, -⟩, -⟩, -⟩ w1 hC1 E hE
            simp only [puts, act_put, act_put_none, List.setIfInBounds_toArray, List.set_cons_zero, List.set_cons_succ] at hE ⊢
            go_wp2
            exact .mk (hE _ hC1)
          apply DetL.next
          · -- 6: Op.fieldAddr 26 (Operand.tmp 1) 0
            apply detStep_plain []
            exact fun _ => rfl
            rfl
            rintro vals ⟨⟨⟨⟨⟨⟨-, -⟩, -⟩, -⟩, -⟩, -⟩, -⟩ w1 hC1 E hE
            simp only [puts, act_put, act_put_none, List.setIfInBounds_toArray, List.set_cons_zero, List.set_cons_succ] at hE ⊢
            go_wp2
            exact .mk (hE _ hC1)
          apply DetL.next
          · -- 7: Op.indexAddr 24 (Operand.tmp 44) (Operand.tmp 43)
            apply detStep_plain [(6, some 44), (5, some 43)]
            exact fun _ => rfl
            rfl
            rintro vals ⟨⟨⟨⟨⟨⟨⟨-, -⟩, -⟩, -⟩, -⟩, -⟩, f5⟩, f6⟩ w1 hC1 E hE
            simp only [puts, act_put, act_put_none, List.setIfInBounds_toArray, List.set_cons_zero, List.set_cons_succ, f5, f6] at hE ⊢
            clear f5 f6
            go_wp2
            exact .mk (hE _ hC1)
          apply DetL.next
          · -- 8: Op.load 23 (Operand.tmp 45)
            apply detStep_plain [(7, some 45)]
            exact fun _ => rfl
            rfl
            rintro vals ⟨⟨⟨⟨⟨⟨⟨⟨-, -⟩, -⟩, -⟩, -⟩, -⟩, -⟩, -⟩, f7⟩ w1 hC1 E hE
            have d0 := hC1.x.cell k
            rw [EA.out] at d0
            simp only [puts, act_put, act_put_none, List.setIfInBounds_toArray, List.set_cons_zero, List.set_cons_succ, f7] at hE ⊢
            clear f7
            go_wp2
            exact .mk (hE _ hC1)
          apply DetL.next
          · -- 9: Op.binOp BinOp.shr 23 (Operand.tmp 46) (Operand.const (Value.int IntKind.u64 51)) 69
            apply detStep_plain [(8, some 46)]
            exact fun _ => rfl
            rfl
            rintro vals ⟨⟨⟨⟨⟨⟨⟨⟨⟨-, -⟩, -⟩, -⟩, -⟩, -⟩, -⟩, -⟩, -⟩, f8⟩ w1 hC1 E hE
            simp only [puts, act_put, act_put_none, List.setIfInBounds_toArray, List.set_cons_zero, List.set_cons_succ, f8] at hE ⊢
            clear f8
            go_wp2
            exact .mk (hE _ hC1)
          apply DetL.next
          · -- 10: Op.binOp BinOp.add 23 (Operand.tmp 42) (Operand.tmp 47) 23
            apply detStep_plain [(4, some 42), (9, some 47)]
            exact fun _ => rfl
            rfl
            rintro vals ⟨⟨⟨⟨⟨⟨⟨⟨⟨⟨-, -⟩, -⟩, -⟩, -⟩, f4⟩, -⟩, -⟩, -⟩, -⟩, f9⟩ w1 hC1 E hE
            simp only [puts, act_put, act_put_none, List.setIfInBounds_toArray, List.set_cons_zero, List.set_cons_succ, f4, f9] at hE ⊢
            clear f4 f9
            go_wp2
            rw [show IntKind.u64.wrap ((l : Int) + (c0 : Int) / 2251799813685248) = (c1 : Int) by have := HCL.out; have := HLL.out; have := HC10.out; rw [IntKind.wrap_u64]; omega]
            exact .mk (hE _ hC1)
          apply DetL.next
          · -- 11: Op.fieldAddr 26 (Operand.tmp 1) 0
            apply detStep_plain []
            exact fun _ => rfl
            rfl
            rintro vals ⟨⟨⟨⟨⟨⟨⟨⟨⟨⟨⟨-, -⟩, -⟩, -⟩, -⟩, -⟩, -⟩, -⟩, -⟩, -⟩, -⟩, -⟩ w1 hC1 E hE
            simp only [puts, act_put, act_put_none, List.setIfInBounds_toArray, List.set_cons_zero, List.set_cons_succ] at hE ⊢
            go_wp2
            exact .mk (hE _ hC1)
          apply DetL.next
          · -- 12: Op.indexAddr 24 (Operand.tmp 49) (Operand.tmp 39)
            apply detStep_plain [(11, some 49), (1, some 39), (0, some 38), (1, some 39), (2, some 40), (3, some 41), (4, some 42), (5, some 43), (6, some 44), (7, some 45), (8, some 46), (9, some 47), (10, some 48)]
            exact fun _ => rfl
            rfl
            rintro vals ⟨⟨⟨⟨⟨⟨⟨⟨⟨⟨⟨⟨-, f0⟩, f1⟩, f2⟩, f3⟩, f4⟩, f5⟩, f6⟩, f7⟩, f8⟩, f9⟩, f10⟩, f11⟩ w1 hC1 E hE
            simp only [puts, act_put, act_put_none, List.setIfInBounds_toArray, List.set_cons_zero, List.set_cons_succ, f0, f1, f2, f3, f4, f5, f6, f7, f8, f9, f10, f11] at hE ⊢
            clear f0 f1 f2 f3 f4 f5 f6 f7 f8 f9 f10 f11
            go_wp2
            exact .mk (hE _ hC1)
          apply DetL.last (v := undef)
          · -- 13: Op.store 23 (Operand.tmp 50) (Operand.tmp 48)
            apply detStep_plain [(12, some 50), (10, some 48), (0, some 38), (1, some 39), (2, some 40), (3, some 41), (4, some 42), (5, some 43), (6, some 44), (7, some 45), (8, some 46), (9, some 47), (10, some 48)]
            exact fun _ => rfl
            rfl
            rintro vals ⟨⟨⟨⟨⟨⟨⟨⟨⟨⟨⟨⟨⟨-, f0⟩, f1⟩, f2⟩, f3⟩, f4⟩, f5⟩, f6⟩, f7⟩, f8⟩, f9⟩, f10⟩, -⟩, f12⟩ w1 hC1 E hE
            have d0 := hC1.x.cell (k + 1)
            rw [EB.out] at d0
            have q0 := hC1.x.free (k + 1)
            simp only [puts, act_put, act_put_none, List.setIfInBounds_toArray, List.set_cons_zero, List.set_cons_succ, f0, f1, f2, f3, f4, f5, f6, f7, f8, f9, f10, f12] at hE ⊢
            clear f0 f1 f2 f3 f4 f5 f6 f7 f8 f9 f10 f12
            go_wp2
            refine .mk (hE _ (hC1.putX (wrote_setCell_at _ _ _ _) ?_))
            have h := blk_setCell_at (i := k + 1) hC1.x (.int .u64 (c1 : Int))
            rw [EC.out] at h
            exact h
          rintro vals ⟨⟨⟨⟨⟨⟨⟨⟨⟨⟨⟨⟨⟨⟨-, f0⟩, f1⟩, f2⟩, f3⟩, f4⟩, f5⟩, f6⟩, f7⟩, f8⟩, f9⟩, f10⟩, f11⟩, f12⟩, f13⟩ w1 hC1
          simp only [puts, act_put, act_put_none, List.setIfInBounds_toArray, List.set_cons_zero, List.set_cons_succ, f0, f1, f2, f3, f4, f5, f6, f7, f8, f9, f10, f11, f12, f13]
          clear f0 f1 f2 f3 f4 f5 f6 f7 f8 f9 f10 f11 f12 f13
          clear HC0
          have d0 := hC1.x.cell k
          rw [ED.out] at d0
          have q0 := hC1.x.free k
          have HC1 := Lib.hid hC1
          clear hC1
          go_wp2_with fail
          refine ⟨⟨k + 1, by omega, by go_num, HC1.out.putX (wrote_setCell_at _ _ _ _) ?_⟩, by simp [intOf]; omega⟩
          rw [mask51 c0 (by have := HCL.out; omega)]
          have h := blk_setCell_at (i := k) HC1.out.x (.int .u64 ((c0 % 2251799813685248 : Nat) : Int))
          rw [EE.out] at h
          exact h
        · obtain rfl : k = 4 := by omega
          obtain ⟨c0, hc0⟩ : ∃ c, c = cyE y q 4 := ⟨_, rfl⟩
          have hcl : c0 < 4503599627370600 := by rw [hc0]; exact cyE_le HYL.out HQL.out 4
          have ea := lstV_at y q 4 (by omega)
          have ee := lstV_end y q
          rw [← hc0] at ea ee
          rw [← HF.out] at ee
          have d0 := hst.x.cell 4
          rw [ea] at d0
          have q0 := hst.x.free 4
          have hm := mask51 c0 (by omega)
          have hpt : ∀ u : World, G2 w g r (eV (leastE x)) (eV zE) u → True := fun _ _ => trivial
          have hs6 : G2 w g r (eV (leastE x)) (eV zE) (wr.setCell ⟨g, 4, none⟩ (.int .u64 (bits .and .u64 (c0 : Int) 2251799813685247))) := by
            refine hst.putX (wrote_setCell_at _ _ _ _) ?_
            rw [hm]
            have h := blk_setCell_at (i := 4) hst.x (.int .u64 ((c0 % 2251799813685248 : Nat) : Int))
            rw [ee] at h
            exact h
          have HS6 := Lib.hid hs6
          clear hs6 hst hc0 hcl ea ee hm hpt
          go_wp2_with (first
            | (refine wpList_get_box (x := .tmp 1) HS6.out.x rfl rfl rfl hu rfl elem_size ?_)
            | (refine wpList_put_box (x := .tmp 2) (cells := eV (leastE x)) HS6.out.z rfl rfl rfl rfl elem_size rfl (by simp [eV, wV, limbs, Value.oneCell']) ?_; intro w5 hb5 hw5))
          refine bodyPost_ret (results_box (P := Try.prog) rfl rfl hb5 hu rfl elem_size) rfl ⟨rfl, ?_⟩
          exact hw5.below HS6.out.bel HS6.out.lr HS6.out.bel.size
end Go.Proofs.Ytbeokfpbhemcfaa
