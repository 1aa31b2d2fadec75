/-
  Walks: the field's carried.
-/
import Derived.Test.YtbeokfpbhemcfaaProg
import Derived.Test.YtbeokfpbhemcfaaPart
import Derived.Test.YtbeokfpbhemcfaaDet
import Derived.Test.YtbeokfpbhemcfaaWords
import Derived.Test.YtbeokfpbhemcfaaFld
import Derived.BigQuiet
import Derived.Deep.QuietTactic
import Derived.IntWalk
namespace Go.Proofs.Ytbeokfpbhemcfaa
set_option linter.unusedSimpArgs false
set_option linter.unusedVariables false
open Go.RowKit

theorem below_new (w : World) (o : Obj) : Below w.heap.size w (w.alloc o) := (Below.refl _ _).alloc (Nat.le_refl _) _
theorem elem_size : (Try.prog.info? 26).map (·.size) = some 5 := by kernel_rfl
theorem five_size : (Try.prog.info? 24).map (·.size) = some 5 := by kernel_rfl
theorem one64 : (Try.prog.info? 23).map (·.size) = some 1 := by kernel_rfl
def limbs (x : E5) : List Nat := [x.a, x.b, x.c, x.d, x.e]
def wV (l : List Nat) : Array Value := (l.map fun n : Nat => Value.int .u64 (n : Int)).toArray
def eV (x : E5) : Array Value := wV (limbs x)
/-- the first so many of the one, the others of the other -/
def mixV (x y : E5) (k : Nat) : Array Value := wV ((limbs x).take k ++ (limbs y).drop k)
theorem mixV_zero (x y : E5) : mixV x y 0 = eV y := rfl
theorem mixV_end (x y : E5) : mixV x y 5 = eV x := rfl
theorem eV_size (x : E5) : (eV x).size = 5 := rfl
theorem mixV_size (x y : E5) (k : Nat) (h : k ≤ 5) : (mixV x y k).size = 5 := by
  match k, h with
  | 0, _ => rfl
  | 1, _ => rfl
  | 2, _ => rfl
  | 3, _ => rfl
  | 4, _ => rfl
  | 5, _ => rfl
theorem eV_at (x : E5) (k : Nat) (h : k < 5) : (eV x)[k]? = some (.int .u64 (((limbs x).getD k 0 : Nat) : Int)) := by
  match k, h with
  | 0, _ => rfl
  | 1, _ => rfl
  | 2, _ => rfl
  | 3, _ => rfl
  | 4, _ => rfl
theorem mixV_at (x y : E5) (k : Nat) (h : k < 5) : (mixV x y k)[k]? = some (.int .u64 (((limbs y).getD k 0 : Nat) : Int)) := by
  match k, h with
  | 0, _ => rfl
  | 1, _ => rfl
  | 2, _ => rfl
  | 3, _ => rfl
  | 4, _ => rfl
theorem mixV_set (x y : E5) (k : Nat) (h : k < 5) : (mixV x y k).setIfInBounds k (.int .u64 (((limbs x).getD k 0 : Nat) : Int)) = mixV x y (k + 1) := by
  match k, h with
  | 0, _ => rfl
  | 1, _ => rfl
  | 2, _ => rfl
  | 3, _ => rfl
  | 4, _ => rfl
theorem limb_lt {x : E5} {m : Nat} (h : x.Lt m) (hm : 0 < m) (k : Nat) : (limbs x).getD k 0 < m := by
  match k with
  | 0 => exact h.a
  | 1 => exact h.b
  | 2 => exact h.c
  | 3 => exact h.d
  | 4 => exact h.e
  | k + 5 => exact hm
def zE : E5 := ⟨0, 0, 0, 0, 0⟩
/-- what is above each limb -/
def highE (x : E5) : E5 := ⟨x.a / 2251799813685248, x.b / 2251799813685248, x.c / 2251799813685248, x.d / 2251799813685248, x.e / 2251799813685248⟩
theorem highE_at (x : E5) (k : Nat) (h : k < 5) : (limbs (highE x)).getD k 0 = (limbs x).getD k 0 / 2251799813685248 := by
  match k, h with
  | 0, _ => rfl
  | 1, _ => rfl
  | 2, _ => rfl
  | 3, _ => rfl
  | 4, _ => rfl
theorem carryE_at (x : E5) (k : Nat) (h : k < 5) : (limbs (carryE x)).getD k 0 = (limbs x).getD k 0 % 2251799813685248 + (if k = 0 then (limbs (highE x)).getD 4 0 * 19 else (limbs (highE x)).getD (k - 1) 0) := by
  match k, h with
  | 0, _ => rfl
  | 1, _ => rfl
  | 2, _ => rfl
  | 3, _ => rfl
  | 4, _ => rfl
/-- an element that came in, the result's place, an array of five -/
structure F3 (w0 : World) (g r h : Nat) (x z y : Array Value) (u : World) : Prop where
  bel : Below w0.heap.size w0 u
  x : Blk u g 26 x
  z : Blk u r 26 z
  y : Blk u h 24 y
  lg : w0.heap.size ≤ g
  lr : w0.heap.size ≤ r
  lh : w0.heap.size ≤ h
  gh : g ≠ h
  gr : g ≠ r
  rh : r ≠ h
theorem F3.putX {w0 u u' : World} {g r h : Nat} {x z y x' : Array Value} (k : F3 w0 g r h x z y u) (hw : Wrote g u u') (hb : Blk u' g 26 x') : F3 w0 g r h x' z y u' :=
  ⟨hw.below k.bel k.lg k.bel.size, hb, hw.blk k.z (Ne.symm k.gr), hw.blk k.y (Ne.symm k.gh), k.lg, k.lr, k.lh, k.gh, k.gr, k.rh⟩
theorem F3.putY {w0 u u' : World} {g r h : Nat} {x z y y' : Array Value} (k : F3 w0 g r h x z y u) (hw : Wrote h u u') (hb : Blk u' h 24 y') : F3 w0 g r h x z y' u' :=
  ⟨hw.below k.bel k.lh k.bel.size, hw.blk k.x k.gh, hw.blk k.z k.rh, hb, k.lg, k.lr, k.lh, k.gh, k.gr, k.rh⟩
theorem mask51 (l : Nat) (h : l < 18446744073709551616) : bits .and .u64 (l : Int) 2251799813685247 = ((l % 2251799813685248 : Nat) : Int) := by
  have h1 := and64 l 2251799813685247 h (by decide)
  rw [show ((2251799813685247 : Nat) : Int) = 2251799813685247 from rfl] at h1
  rw [h1]
  congr 1
  exact Nat.and_two_pow_sub_one_eq_mod l 51
theorem mask_sum (l v : Nat) (h : l < 18446744073709551616) (hv : v < 18444492273895866368) : IntKind.u64.wrap (bits .and .u64 (l : Int) 2251799813685247 + (v : Int)) = ((l % 2251799813685248 + v : Nat) : Int) := by
  rw [mask51 l h, IntKind.wrap_u64]; omega
theorem mask_sum19 (l v : Nat) (h : l < 18446744073709551616) (hv : v < 900000000000000000) : IntKind.u64.wrap (bits .and .u64 (l : Int) 2251799813685247 + (v : Int) * 19) = ((l % 2251799813685248 + v * 19 : Nat) : Int) := by
  rw [mask51 l h, IntKind.wrap_u64]; omega
def ElemPost (x : E5) (w : World) (e : Ending) (w' : World) : Prop := e = .returned (.agg (eV x)) ∧ Below w.heap.size w w'
theorem Blk.newAt {w : World} {n : Nat} {t : TypeId} {cs : Array Value} (h : w.heap.size = n) : Blk (w.alloc (.cells cs t)) n t cs := h ▸ Blk.new w t cs
set_option maxRecDepth 100000 in
set_option maxHeartbeats 2000000 in
theorem carried_any (x : E5) (w : World) (hx : x.Lt 18446744073709551616) : Calls Try.prog 56 #[.agg (eV x)] w (ElemPost (carryE x) w) := by
  have hu := Try.underlying26
  have hu5 := Try.underlying24
  have hst0 : F3 w w.heap.size (w.heap.size + 1) (w.heap.size + 1 + 1) (eV x) (eV zE) (mixV (highE x) zE 0) (((w.alloc (.cells (eV x) 26)).alloc (.cells (eV zE) 26)).alloc (.cells (eV zE) 24)) :=
    ⟨((below_new _ _).alloc (by simp) _).alloc (by simp; try omega) _, ((Blk.new _ _ _).alloc _).alloc _, (Blk.newAt (by simp)).alloc _, Blk.newAt (by simp), Nat.le_refl _, by omega, by omega, by omega, by omega, by omega⟩
  have HX := Lib.hid hx
  have HST0 := Lib.hid hst0
  clear hx
  go_enter Try.func56, Try.ntmps56
  go_wp2_with (refine wpList_get_part (x := .tmp 8) (n := 5) (r := eV x) hst0.x (by rw [eV_size]; decide) rfl rfl rfl rfl hu5 rfl five_size ?_)
  clear hst0
  generalize hc : w.heap.size + 1 + 1 = c at *
  generalize hr : w.heap.size + 1 = r at *
  generalize hg : w.heap.size = g at *
  have HC := Lib.hid hc
  have HR := Lib.hid hr
  have HG := Lib.hid hg
  clear hc hr hg
  go_loopw [10] (fun i wr => ∃ k : Nat, k ≤ 5 ∧ i = .int .i64 k ∧ F3 w g r c (eV x) (eV zE) (mixV (highE x) zE k) wr) (fun i _ => 5 - (intOf i).toNat)
  case atStart => exact ⟨0, by omega, rfl, HST0.out⟩
  case round =>
    clear HST0
    obtain ⟨k, hk, rfl, hst⟩ := hrel
    by_cases hlt : k < 5
    · have hlt' : (k : Int) < 5 := by omega
      obtain ⟨l, hl⟩ : ∃ l, l = (limbs x).getD k 0 := ⟨_, rfl⟩
      have hll : (l : Int) < 18446744073709551616 := by have := limb_lt HX.out (by decide) k; rw [← hl] at this; omega
      have hix : ∀ u : World, (Instr.index 24 (.agg (eV x)) (.int .i64 (k : Int))).run Try.prog u = .ok (.int .u64 (l : Int)) u := fun u =>
        run_index_array (n := 5) (e := 23) hu5 hlt (by rw [hl]; exact eV_at x k hlt) (by kernel_rfl) (by kernel_rfl) ⟨_, Try.underlying23⟩
      have d0 := hst.y.cell k
      rw [mixV_at _ _ _ hlt] at d0
      have f0 := hst.y.free k
      have hset := mixV_set (highE x) zE k hlt
      rw [highE_at _ _ hlt, ← hl] at hset
      have HSET := Lib.hid hset
      have HST := Lib.hid hst
      clear hset hst hl
      go_wp2_with fail
      refine ⟨⟨k + 1, by omega, by go_num, HST.out.putY (wrote_setCell_at _ _ _ _) ?_⟩, by simp [intOf]; omega⟩
      have h := blk_setCell_at (i := k) HST.out.y (.int .u64 ((l / 2251799813685248 : Nat) : Int))
      rw [HSET.out] at h
      exact h
    · obtain rfl : k = 5 := by omega
      rw [mixV_end] at hst
      have hst1 : F3 w g r c (mixV (carryE x) x 0) (eV zE) (eV (highE x)) wr := hst
      have HST := Lib.hid hst1
      clear hst hst1
      go_wp2_with fail
      obtain ⟨wo, rfl⟩ : ∃ x : World, x = wr := ⟨_, rfl⟩
      go_loopw [19] (fun i wr => ∃ k : Nat, k ≤ 5 ∧ i = .int .i64 k ∧ F3 w g r c (mixV (carryE x) x k) (eV zE) (eV (highE x)) wr) (fun i _ => 5 - (intOf i).toNat)
      case atStart => exact ⟨0, by omega, rfl, HST.out⟩
      case round =>
        clear HST
        obtain ⟨k, hk, rfl, hst⟩ := hrel
        by_cases hlt2 : k < 5
        · obtain ⟨l, hl⟩ : ∃ l, l = (limbs x).getD k 0 := ⟨_, rfl⟩
          have hll0 := limb_lt HX.out (by decide) k
          rw [← hl] at hll0
          have hll : (l : Int) < 18446744073709551616 := by omega
          obtain ⟨j, hj⟩ : ∃ j, j = if k = 0 then 4 else k - 1 := ⟨_, rfl⟩
          have hj5 : j < 5 := by rw [hj]; split <;> omega
          have hjk : ((k : Int) + 5 - 1) % 5 = (j : Int) := by rw [hj]; split <;> omega
          have hjk2 : ((k : Int) + 4) % 5 = (j : Int) := by rw [hj]; split <;> omega
          obtain ⟨m, hm⟩ : ∃ m, m = (limbs (highE x)).getD j 0 := ⟨_, rfl⟩
          have hml : m < 8192 := by
            have := limb_lt HX.out (by decide) j
            rw [hm, highE_at _ _ hj5]; omega
          have hml' : (m : Int) < 8192 := by omega
          have dx := hst.x.cell k
          rw [mixV_at _ _ _ hlt2, ← hl] at dx
          have fx := hst.x.free k
          have dy := hst.y.cell j
          rw [eV_at _ _ hj5, ← hm] at dy
          have hset := mixV_set (carryE x) x k hlt2
          have hval : (limbs (carryE x)).getD k 0 = l % 2251799813685248 + (if k = 0 then m * 19 else m) := by
            rw [carryE_at _ _ hlt2, ← hl, hm, hj]
            by_cases h0 : k = 0
            · simp [h0]
            · simp [h0]
          rw [hval] at hset
          have HSET := Lib.hid hset
          have HST := Lib.hid hst
          have HJ := Lib.hid hj
          have hlt' : (k : Int) < 5 := by omega
          clear hset hst hl hm hval hj
          by_cases h0 : k = 0
          · subst h0
            obtain rfl : j = 4 := by have := HJ.out; simpa using this
            rw [show ((0 : Nat) : Int) = 0 from rfl]
            clear hjk hjk2 hlt' hlt2
            go_wp2_with fail
            refine ⟨⟨1, by omega, rfl, HST.out.putX (wrote_setCell_at _ _ _ _) ?_⟩, by simp [intOf]⟩
            rw [mask_sum19 l m hll0 (by omega)]
            have h := blk_setCell_at (i := 0) HST.out.x (.int .u64 ((l % 2251799813685248 + m * 19 : Nat) : Int))
            have h2 := HSET.out
            rw [if_pos rfl] at h2
            rw [h2] at h
            exact h
          · have hb : ((k : Int) == 0) = false := by rw [beq_eq_false_iff_ne]; omega
            go_wp2_with fail
            refine ⟨⟨k + 1, by omega, by go_num, HST.out.putX (wrote_setCell_at _ _ _ _) ?_⟩, by simp [intOf]; omega⟩
            rw [mask_sum l m hll0 (by omega)]
            have h := blk_setCell_at (i := k) HST.out.x (.int .u64 ((l % 2251799813685248 + m : Nat) : Int))
            have h2 := HSET.out
            rw [if_neg h0] at h2
            rw [h2] at h
            exact h
        · obtain rfl : k = 5 := by omega
          rw [mixV_end] at hst
          have HST := Lib.hid hst
          clear hst
          go_wp2_with (first
            | (refine wpList_get_box (x := .tmp 1) HST.out.x rfl rfl rfl hu rfl elem_size ?_)
            | (refine wpList_put_box (x := .tmp 2) (cells := eV (carryE x)) HST.out.z rfl rfl rfl rfl elem_size rfl (by simp [eV, wV, limbs, Value.oneCell']) ?_; intro w5 hb5 hw5))
          refine bodyPost_ret (results_box (P := Try.prog) rfl rfl hb5 hu rfl elem_size) rfl ⟨rfl, ?_⟩
          exact hw5.below HST.out.bel HST.out.lr HST.out.bel.size
end Go.Proofs.Ytbeokfpbhemcfaa
