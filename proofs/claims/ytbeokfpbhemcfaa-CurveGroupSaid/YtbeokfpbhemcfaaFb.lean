/-
  Walk: the field's Bytes.
-/
import Derived.Test.YtbeokfpbhemcfaaFq
import Derived.Test.YtbeokfpbhemcfaaByt
namespace Go.Proofs.Ytbeokfpbhemcfaa
set_option linter.unusedSimpArgs false
set_option linter.unusedVariables false
open Go.RowKit

def bnV (l : List Nat) : List Value := l.map fun n : Nat => Value.int .u8 (n : Int)
theorem bnV_at {l : List Nat} {j n : Nat} (h : l[j]? = some n) : (bnV l).toArray[j]? = some (.int .u8 (n : Int)) := by simp [bnV, h]
theorem bnV_set (l : List Nat) (j n : Nat) : (bnV l).toArray.setIfInBounds j (.int .u8 (n : Int)) = (bnV (l.set j n)).toArray := by simp [bnV, List.map_set]
theorem val_bit (x : E5) (hx : x.Lt 2251799813685248) (i k n : Nat) (hi : i < 5) (hk : k < 51) (hn : i * 51 + k = n) : x.val / 2 ^ n % 2 = (limbs x).getD i 0 / 2 ^ k % 2 := by
  rw [← hn, Nat.pow_add, ← Nat.div_div_eq_div_mul]
  obtain ⟨h1, h2, h3, h4, h5⟩ := hx
  have go : ∀ l r : Nat, x.val / 2 ^ (i * 51) = l + 2251799813685248 * r → (limbs x).getD i 0 = l → x.val / 2 ^ (i * 51) / 2 ^ k % 2 = (limbs x).getD i 0 / 2 ^ k % 2 := fun l r e f => by
    rw [e, f]; exact high_bit l r k hk
  match i, hi with
  | 0, _ => exact go x.a (x.b + x.c * 2251799813685248 + x.d * 5070602400912917605986812821504 + x.e * 11417981541647679048466287755595961091061972992) (by simp only [E5.val]; omega) rfl
  | 1, _ => exact go x.b (x.c + x.d * 2251799813685248 + x.e * 5070602400912917605986812821504) (by rw [show (2 : Nat) ^ (1 * 51) = 2251799813685248 by decide]; simp only [E5.val]; omega) rfl
  | 2, _ => exact go x.c (x.d + x.e * 2251799813685248) (by rw [show (2 : Nat) ^ (2 * 51) = 5070602400912917605986812821504 by decide]; simp only [E5.val]; omega) rfl
  | 3, _ => exact go x.d x.e (by rw [show (2 : Nat) ^ (3 * 51) = 11417981541647679048466287755595961091061972992 by decide]; simp only [E5.val]; omega) rfl
  | 4, _ => exact go x.e 0 (by rw [show (2 : Nat) ^ (4 * 51) = 25711008708143844408671393477458601640355247900524685364822016 by decide]; simp only [E5.val]; omega) rfl
structure B2 (w0 : World) (g o : Nat) (x : Array Value) (l : List Nat) (u : World) : Prop where
  bel : Below w0.heap.size w0 u
  x : Blk u g 26 x
  out : Blk u o 5 (bnV l).toArray
  lo : w0.heap.size ≤ o
  go : g ≠ o
theorem B2.put {w0 u u' : World} {g o : Nat} {x : Array Value} {l l' : List Nat} (k : B2 w0 g o x l u) (hw : Wrote o u u') (hb : Blk u' o 5 (bnV l').toArray) : B2 w0 g o x l' u' :=
  ⟨hw.below k.bel k.lo k.bel.size, hw.blk k.x k.go, hb, k.lo, k.go⟩
theorem B2.drew {w0 u : World} {g o : Nat} {x : Array Value} {l : List Nat} (k : B2 w0 g o x l u) : B2 w0 g o x l u.drew :=
  ⟨k.bel.drew, k.x, k.out, k.lo, k.go⟩
theorem b2_new (w0 u : World) (g : Nat) (x : Array Value) (hbel : Below w0.heap.size w0 u) (hx : Blk u g 26 x) : B2 w0 g u.heap.size x (byN 0) (u.alloc (.cells (bnV (byN 0)).toArray 5)) :=
  ⟨hbel.alloc hbel.size _, hx.alloc _, Blk.new _ _ _, hbel.size, Nat.ne_of_lt hx.lt⟩
def BytesPost (N : Nat) (w : World) (e : Ending) (w' : World) : Prop :=
  ∃ o, e = .returned (.slice (some ⟨o, 0, none⟩) 32 32) ∧ w.heap.size ≤ o ∧ Blk w' o 5 (bnV (byN N)).toArray ∧ Below w.heap.size w w'
set_option maxRecDepth 100000 in
set_option maxHeartbeats 2000000 in
theorem bytes_any (x : E5) (w : World) (hx : x.Lt 18446744073709551616) : Calls Try.prog 39 #[.agg (eV x)] w (BytesPost (leastE x).val w) := by
  have hu := Try.underlying26
  have hu5 := Try.underlying24
  obtain ⟨z, hz⟩ : ∃ z, z = leastE x := ⟨_, rfl⟩
  have hzl : z.Lt 2251799813685248 := by rw [hz]; exact least_lt x
  have hmk : ∀ u : World, (Instr.makeSlice 22 (.int .i64 32) (.int .i64 32)).run Try.prog u = .ok (.slice (some ⟨u.heap.size, 0, none⟩) 32 32) (u.alloc (.cells (bnV (byN 0)).toArray 5)) := fun _ => by rw [byN_zero]; kernel_rfl
  rw [← hz]
  have HX := Lib.hid hx
  have HZ := Lib.hid hz
  have HZL := Lib.hid hzl
  have hb0 := Blk.new w 26 (eV x)
  have HB0 := Lib.hid hb0
  clear hx hz hzl hb0
  go_enter Try.func39, Try.ntmps39
  go_wp2_with (refine wpList_get_box (x := .tmp 1) HB0.out rfl rfl rfl hu rfl elem_size ?_)
  refine calls_then (least_any x _ HX.out) ?_
  rintro e w2 ⟨rfl, hb2⟩
  rw [← HZ.out]
  have hb3 : Below w.heap.size w w2 := (below_new _ _).trans (hb2.mono (by simp))
  have hb4 := HB0.out.below hb2 HB0.out.lt
  have HB3 := Lib.hid hb3
  have HB4 := Lib.hid hb4
  clear hb2 hb3 hb4 HB0
  generalize hg : w.heap.size = g at *
  go_wp2_with (first
    | (refine wpList_put_box (x := .tmp 1) (cells := eV z) HB4.out rfl rfl rfl rfl elem_size rfl (by simp [eV, wV, limbs, Value.oneCell']) ?_; intro w5 hb5 hw5; have HB5 := Lib.hid hb5; have HW5 := Lib.hid hw5; clear hb5 hw5)
    | (refine wpList_get_part (x := .tmp 11) (n := 5) (r := eV z) (HB5.out.alloc _) (by rw [eV_size]; decide) rfl rfl rfl rfl hu5 rfl five_size ?_))
  have hst0 := b2_new w w5 g (eV z) (by
    rw [hg]
    exact HW5.out.below HB3.out (Nat.le_refl _) (by rw [← hg]; exact HB3.out.size)) HB5.out
  obtain ⟨o, ho⟩ : ∃ o, o = w5.heap.size := ⟨_, rfl⟩
  obtain ⟨V, hV⟩ : ∃ V, V = z.val := ⟨_, rfl⟩
  have h00 : byN 0 = byN (V % 2 ^ (0 * 51)) := by rw [Nat.zero_mul, Nat.pow_zero, Nat.mod_one]
  rw [← ho, h00] at hst0
  rw [← ho, h00, ← hV]
  have HV := Lib.hid hV
  have HST0 := Lib.hid hst0
  clear hst0 ho HB3 HB4 HB5 HW5 hmk h00 hV
  go_loopw [13] (fun i wr => ∃ k : Nat, k ≤ 5 ∧ i = .int .i64 k ∧ B2 w g o (eV z) (byN (V % 2 ^ (k * 51))) wr) (fun i _ => 5 - (intOf i).toNat)
  case atStart => exact ⟨0, by omega, rfl, HST0.out⟩
  case round =>
    clear HST0
    obtain ⟨i, hi, rfl, hst⟩ := hrel
    by_cases hlt : i < 5
    · have hlt' : (i : Int) < 5 := by omega
      obtain ⟨l, hl⟩ : ∃ l, l = (limbs z).getD i 0 := ⟨_, rfl⟩
      have hll : l < 2251799813685248 := by rw [hl]; exact limb_lt HZL.out (by decide) i
      have hix : ∀ u : World, (Instr.index 24 (.agg (eV z)) (.int .i64 (i : Int))).run Try.prog u = .ok (.int .u64 (l : Int)) u := fun u =>
        run_index_array (n := 5) (e := 23) hu5 hlt (by rw [hl]; exact eV_at z i hlt) (by kernel_rfl) (by kernel_rfl) ⟨_, Try.underlying23⟩
      have hst' : B2 w g o (eV z) (byN (V % 2 ^ (i * 51 + 0))) wr := hst
      have HST := Lib.hid hst'
      have HL := Lib.hid hl
      have HLL := Lib.hid hll
      clear hst hst' hl hll
      go_wp2_with fail
      obtain ⟨wo, rfl⟩ : ∃ x, x = wr := ⟨_, rfl⟩
      go_loopw [17] (fun c wr => ∃ k : Nat, k ≤ 51 ∧ c = .int .i64 k ∧ B2 w g o (eV z) (byN (V % 2 ^ (i * 51 + k))) wr) (fun c _ => 51 - (intOf c).toNat)
      case atStart => exact ⟨0, by omega, rfl, HST.out⟩
      case round =>
        clear HST hix
        obtain ⟨k, hk, rfl, hst⟩ := hrel
        by_cases hltk : k < 51
        · have hltk' : (k : Int) < 51 := by omega
          obtain ⟨n, hn⟩ : ∃ n, n = i * 51 + k := ⟨_, rfl⟩
          have hni : (i : Int) * 51 + (k : Int) = (n : Int) := by omega
          obtain ⟨q, hq⟩ : ∃ q, q = n / 8 := ⟨_, rfl⟩
          obtain ⟨r, hr⟩ : ∃ r, r = n % 8 := ⟨_, rfl⟩
          have hqi : (n : Int) / 8 = (q : Int) := by omega
          have hri : (n : Int) % 8 = (r : Int) := by omega
          have hq32 : (q : Int) < 32 := by omega
          have hr8 : (r : Int) < 8 := by omega
          have hstep := byN_step V n (by omega)
          have hbit := val_bit z HZL.out i k n hlt hltk hn.symm
          rw [← HV.out, ← HL.out] at hbit
          rw [← hq, ← hr, hbit] at hstep
          rw [← hn] at hst
          have hcur := byN_at (V % 2 ^ n) q (by omega)
          obtain ⟨y, hy⟩ : ∃ y, y = V % 2 ^ n / 256 ^ q % 256 := ⟨_, rfl⟩
          rw [← hy] at hstep hcur
          have hyl : y < 256 := by rw [hy]; exact Nat.mod_lt _ (by decide)
          obtain ⟨lk, hlk⟩ : ∃ lk, lk = l / 2 ^ k := ⟨_, rfl⟩
          rw [← hlk] at hstep
          have hlkl : lk < 2251799813685248 := by rw [hlk]; exact Nat.lt_of_le_of_lt (Nat.div_le_self _ _) HLL.out
          have hlki : (l : Int) / 2 ^ k = (lk : Int) := by rw [hlk, shr_int]
          obtain ⟨b, hb⟩ : ∃ b, b = lk % 2 := ⟨_, rfl⟩
          rw [← hb] at hstep
          have HLK := Lib.hid hlki
          have HLKL := Lib.hid hlkl
          have hbl : b < 2 := by rw [hb]; exact Nat.mod_lt _ (by decide)
          obtain ⟨LN, hLN⟩ : ∃ LN, LN = byN (V % 2 ^ n) := ⟨_, rfl⟩
          rw [← hLN] at hstep hcur hst
          obtain ⟨LM, hLM⟩ : ∃ LM, LM = byN (V % 2 ^ (n + 1)) := ⟨_, rfl⟩
          rw [← hLM] at hstep
          obtain ⟨s, hs⟩ : ∃ s, s = b * 2 ^ r := ⟨_, rfl⟩
          rw [← hs] at hstep
          have hsl : s < 256 := by
            have e1 : 2 ^ r ≤ 2 ^ 7 := Nat.pow_le_pow_right (by decide) (by omega)
            have e2 : b * 2 ^ r ≤ 1 * 2 ^ 7 := Nat.mul_le_mul (by omega) e1
            rw [hs]; exact Nat.lt_of_le_of_lt e2 (by decide)
          have hsi : (b : Int) * 2 ^ r % 256 = (s : Int) := by
            rw [shl_int, ← hs]; omega
          have hor := or8 (a := y) (b := s) hyl hsl
          obtain ⟨yn, hyn⟩ : ∃ yn, yn = y ||| s := ⟨_, rfl⟩
          rw [← hyn] at hor hstep
          have HOR := Lib.hid hor
          have HSI := Lib.hid hsi
          have HSTEP := Lib.hid hstep
          have HCUR := Lib.hid (bnV_at hcur)
          have HB := Lib.hid hb
          have HBL := Lib.hid hbl
          have HYL := Lib.hid hyl
          have HLM := Lib.hid hLM
          have HN := Lib.hid hn
          have HC0 := hst.drew
          clear hst hstep hcur hb hbl hyl hLM hLN hy hbit hq hr hn hlk hlki hlkl hs hsl hsi hor hyn
          go_wp2_with fail
          refine wp_region_det (fun u => B2 w g o (eV z) LN u) (fun u => B2 w g o (eV z) LM u) [(0, some 24), (1, some 25), (2, some 26), (3, some 27), (4, some 28), (5, some 29), (6, some 30), (7, some 31), (8, some 32), (9, some 33), (10, some 34), (11, some 35), (12, some 36), (13, some 37), (14, some 38), (15, none)] (by kernel_rfl) (by kernel_rfl) (by decide) (by kernel_rfl) (fun _ => rfl) HC0 ?_
          apply DetL.next
          · -- 0: Op.move (Operand.tmp 3)
            apply detStep_plain []
            exact fun _ => rfl
            rfl
            rintro vals - w1 hC1 E hE
            simp only [puts, act_put, act_put_none, List.setIfInBounds_toArray, List.set_cons_zero, List.set_cons_succ] at hE ⊢
            go_wp2
            exact .mk (hE _ hC1)
          apply DetL.next
          · -- 1: Op.move (Operand.tmp 7)
            apply detStep_plain []
            exact fun _ => rfl
            rfl
            rintro vals ⟨-, -⟩ w1 hC1 E hE
            simp only [puts, act_put, act_put_none, List.setIfInBounds_toArray, List.set_cons_zero, List.set_cons_succ] at hE ⊢
            go_wp2
            exact .mk (hE _ hC1)
          apply DetL.next
          · -- 2: Op.binOp BinOp.quo 3 (Operand.tmp 25) (Operand.const (Value.int IntKind.i64 8)) 3
            apply detStep_plain [(1, some 25)]
            exact fun _ => rfl
            rfl
            rintro vals ⟨⟨-, -⟩, f1⟩ w1 hC1 E hE
            simp only [puts, act_put, act_put_none, List.setIfInBounds_toArray, List.set_cons_zero, List.set_cons_succ, f1] at hE ⊢
            clear f1
            go_wp2
            exact .mk (hE _ hC1)
          apply DetL.next
          · -- 3: Op.indexAddr 22 (Operand.tmp 24) (Operand.tmp 26)
            apply detStep_plain [(0, some 24), (2, some 26)]
            exact fun _ => rfl
            rfl
            rintro vals ⟨⟨⟨-, f0⟩, -⟩, f2⟩ w1 hC1 E hE
            simp only [puts, act_put, act_put_none, List.setIfInBounds_toArray, List.set_cons_zero, List.set_cons_succ, f0, f2] at hE ⊢
            clear f0 f2
            go_wp2
            exact .mk (hE _ hC1)
          apply DetL.next
          · -- 4: Op.load 5 (Operand.tmp 27)
            apply detStep_plain [(3, some 27)]
            exact fun _ => rfl
            rfl
            rintro vals ⟨⟨⟨⟨-, -⟩, -⟩, -⟩, f3⟩ w1 hC1 E hE
            have d0 := hC1.out.cell q
            rw [HCUR.out] at d0
            simp only [puts, act_put, act_put_none, List.setIfInBounds_toArray, List.set_cons_zero, List.set_cons_succ, f3] at hE ⊢
            clear f3
            go_wp2
            exact .mk (hE _ hC1)
          apply DetL.next
          · -- 5: Op.move (Operand.tmp 5)
            apply detStep_plain []
            exact fun _ => rfl
            rfl
            rintro vals ⟨⟨⟨⟨⟨-, -⟩, -⟩, -⟩, -⟩, -⟩ w1 hC1 E hE
            simp only [puts, act_put, act_put_none, List.setIfInBounds_toArray, List.set_cons_zero, List.set_cons_succ] at hE ⊢
            go_wp2
            exact .mk (hE _ hC1)
          apply DetL.next
          · -- 6: Op.move (Operand.tmp 6)
            apply detStep_plain []
            exact fun _ => rfl
            rfl
            rintro vals ⟨⟨⟨⟨⟨⟨-, -⟩, -⟩, -⟩, -⟩, -⟩, -⟩ w1 hC1 E hE
            simp only [puts, act_put, act_put_none, List.setIfInBounds_toArray, List.set_cons_zero, List.set_cons_succ] at hE ⊢
            go_wp2
            exact .mk (hE _ hC1)
          apply DetL.next
          · -- 7: Op.binOp BinOp.shr 23 (Operand.tmp 29) (Operand.tmp 30) 3
            apply detStep_plain [(5, some 29), (6, some 30)]
            exact fun _ => rfl
            rfl
            rintro vals ⟨⟨⟨⟨⟨⟨⟨-, -⟩, -⟩, -⟩, -⟩, -⟩, f5⟩, f6⟩ w1 hC1 E hE
            simp only [puts, act_put, act_put_none, List.setIfInBounds_toArray, List.set_cons_zero, List.set_cons_succ, f5, f6] at hE ⊢
            clear f5 f6
            go_wp2
            rw [HLK.out]
            exact .mk (hE _ hC1)
          apply DetL.next
          · -- 8: Op.binOp BinOp.and 23 (Operand.tmp 31) (Operand.const (Value.int IntKind.u64 1)) 23
            apply detStep_plain [(7, some 31)]
            exact fun _ => rfl
            rfl
            rintro vals ⟨⟨⟨⟨⟨⟨⟨⟨-, -⟩, -⟩, -⟩, -⟩, -⟩, -⟩, -⟩, f7⟩ w1 hC1 E hE
            simp only [puts, act_put, act_put_none, List.setIfInBounds_toArray, List.set_cons_zero, List.set_cons_succ, f7] at hE ⊢
            clear f7
            go_wp2
            rw [and_one lk (by have := HLKL.out; omega), ← HB.out]
            exact .mk (hE _ hC1)
          apply DetL.next
          · -- 9: Op.convert 23 5 (Operand.tmp 32)
            apply detStep_plain [(8, some 32)]
            exact fun _ => rfl
            rfl
            rintro vals ⟨⟨⟨⟨⟨⟨⟨⟨⟨-, -⟩, -⟩, -⟩, -⟩, -⟩, -⟩, -⟩, -⟩, f8⟩ w1 hC1 E hE
            have hb8 : (b : Int) < 256 := by have := HBL.out; omega
            simp only [puts, act_put, act_put_none, List.setIfInBounds_toArray, List.set_cons_zero, List.set_cons_succ, f8] at hE ⊢
            clear f8
            go_wp2
            exact .mk (hE _ hC1)
          apply DetL.next
          · -- 10: Op.move (Operand.tmp 7)
            apply detStep_plain []
            exact fun _ => rfl
            rfl
            rintro vals ⟨⟨⟨⟨⟨⟨⟨⟨⟨⟨-, -⟩, -⟩, -⟩, -⟩, -⟩, -⟩, -⟩, -⟩, -⟩, -⟩ w1 hC1 E hE
            simp only [puts, act_put, act_put_none, List.setIfInBounds_toArray, List.set_cons_zero, List.set_cons_succ] at hE ⊢
            go_wp2
            exact .mk (hE _ hC1)
          apply DetL.next
          · -- 11: Op.binOp BinOp.rem 3 (Operand.tmp 34) (Operand.const (Value.int IntKind.i64 8)) 3
            apply detStep_plain [(10, some 34)]
            exact fun _ => rfl
            rfl
            rintro vals ⟨⟨⟨⟨⟨⟨⟨⟨⟨⟨⟨-, -⟩, -⟩, -⟩, -⟩, -⟩, -⟩, -⟩, -⟩, -⟩, -⟩, f10⟩ w1 hC1 E hE
            simp only [puts, act_put, act_put_none, List.setIfInBounds_toArray, List.set_cons_zero, List.set_cons_succ, f10] at hE ⊢
            clear f10
            go_wp2
            exact .mk (hE _ hC1)
          apply DetL.next
          · -- 12: Op.binOp BinOp.shl 5 (Operand.tmp 33) (Operand.tmp 35) 3
            apply detStep_plain [(9, some 33), (11, some 35)]
            exact fun _ => rfl
            rfl
            rintro vals ⟨⟨⟨⟨⟨⟨⟨⟨⟨⟨⟨⟨-, -⟩, -⟩, -⟩, -⟩, -⟩, -⟩, -⟩, -⟩, -⟩, f9⟩, -⟩, f11⟩ w1 hC1 E hE
            simp only [puts, act_put, act_put_none, List.setIfInBounds_toArray, List.set_cons_zero, List.set_cons_succ, f9, f11] at hE ⊢
            clear f9 f11
            go_wp2
            rw [HSI.out]
            exact .mk (hE _ hC1)
          apply DetL.next
          · -- 13: Op.binOp BinOp.or 5 (Operand.tmp 28) (Operand.tmp 36) 5
            apply detStep_plain [(4, some 28), (12, some 36)]
            exact fun _ => rfl
            rfl
            rintro vals ⟨⟨⟨⟨⟨⟨⟨⟨⟨⟨⟨⟨⟨-, -⟩, -⟩, -⟩, -⟩, f4⟩, -⟩, -⟩, -⟩, -⟩, -⟩, -⟩, -⟩, f12⟩ w1 hC1 E hE
            simp only [puts, act_put, act_put_none, List.setIfInBounds_toArray, List.set_cons_zero, List.set_cons_succ, f4, f12] at hE ⊢
            clear f4 f12
            go_wp2
            rw [HOR.out]
            exact .mk (hE _ hC1)
          apply DetL.next
          · -- 14: Op.indexAddr 22 (Operand.tmp 24) (Operand.tmp 26)
            apply detStep_plain [(0, some 24), (2, some 26), (0, some 24), (1, some 25), (2, some 26), (3, some 27), (4, some 28), (5, some 29), (6, some 30), (7, some 31), (8, some 32), (9, some 33), (10, some 34), (11, some 35), (12, some 36), (13, some 37)]
            exact fun _ => rfl
            rfl
            rintro vals ⟨⟨⟨⟨⟨⟨⟨⟨⟨⟨⟨⟨⟨⟨-, f0⟩, f1⟩, f2⟩, f3⟩, f4⟩, f5⟩, f6⟩, f7⟩, f8⟩, f9⟩, f10⟩, f11⟩, f12⟩, f13⟩ w1 hC1 E hE
            simp only [puts, act_put, act_put_none, List.setIfInBounds_toArray, List.set_cons_zero, List.set_cons_succ, f0, f1, f2, f3, f4, f5, f6, f7, f8, f9, f10, f11, f12, f13] at hE ⊢
            clear f0 f1 f2 f3 f4 f5 f6 f7 f8 f9 f10 f11 f12 f13
            go_wp2
            exact .mk (hE _ hC1)
          apply DetL.last (v := undef)
          · -- 15: Op.store 5 (Operand.tmp 38) (Operand.tmp 37)
            apply detStep_plain [(14, some 38), (13, some 37), (0, some 24), (1, some 25), (2, some 26), (3, some 27), (4, some 28), (5, some 29), (6, some 30), (7, some 31), (8, some 32), (9, some 33), (10, some 34), (11, some 35), (12, some 36), (13, some 37)]
            exact fun _ => rfl
            rfl
            rintro vals ⟨⟨⟨⟨⟨⟨⟨⟨⟨⟨⟨⟨⟨⟨⟨-, f0⟩, f1⟩, f2⟩, f3⟩, f4⟩, f5⟩, f6⟩, f7⟩, f8⟩, f9⟩, f10⟩, f11⟩, f12⟩, f13⟩, f14⟩ w1 hC1 E hE
            have d0 := hC1.out.cell q
            rw [HCUR.out] at d0
            have q0 := hC1.out.free q
            simp only [puts, act_put, act_put_none, List.setIfInBounds_toArray, List.set_cons_zero, List.set_cons_succ, f0, f1, f2, f3, f4, f5, f6, f7, f8, f9, f10, f11, f12, f13, f14] at hE ⊢
            clear f0 f1 f2 f3 f4 f5 f6 f7 f8 f9 f10 f11 f12 f13 f14
            go_wp2
            refine .mk (hE _ (hC1.put (wrote_setCell_at _ _ _ _) ?_))
            have h := blk_setCell_at (i := q) hC1.out (.int .u8 (yn : Int))
            rw [bnV_set, HSTEP.out] at h
            exact h
          rintro vals ⟨⟨⟨⟨⟨⟨⟨⟨⟨⟨⟨⟨⟨⟨⟨⟨-, f0⟩, f1⟩, f2⟩, f3⟩, f4⟩, f5⟩, f6⟩, f7⟩, f8⟩, f9⟩, f10⟩, f11⟩, f12⟩, f13⟩, f14⟩, f15⟩ w1 hC1
          simp only [puts, act_put, act_put_none, List.setIfInBounds_toArray, List.set_cons_zero, List.set_cons_succ, f0, f1, f2, f3, f4, f5, f6, f7, f8, f9, f10, f11, f12, f13, f14, f15]
          clear f0 f1 f2 f3 f4 f5 f6 f7 f8 f9 f10 f11 f12 f13 f14 f15
          clear HC0
          have hfin : B2 w g o (eV z) (byN (V % 2 ^ (i * 51 + (k + 1)))) w1 := by
            rw [show i * 51 + (k + 1) = n + 1 by rw [HN.out]; omega, ← HLM.out]
            exact hC1
          have HFIN := Lib.hid hfin
          clear hC1 hfin
          go_wp2_with fail
          exact ⟨⟨k + 1, by omega, by go_num, HFIN.out⟩, by simp [intOf]; omega⟩
        · obtain rfl : k = 51 := by omega
          rw [show i * 51 + 51 = (i + 1) * 51 by omega] at hst
          have HST := Lib.hid hst
          clear hst
          go_wp2_with fail
          exact ⟨⟨i + 1, by omega, by go_num, HST.out⟩, by simp [intOf]; omega⟩
    · obtain rfl : i = 5 := by omega
      have hmod : V % 2 ^ (5 * 51) = V := by
        have h := HZL.out
        obtain ⟨h1, h2, h3, h4, h5⟩ := h
        rw [HV.out, show (2 : Nat) ^ (5 * 51) = 57896044618658097711785492504343953926634992332820282019728792003956564819968 by decide]
        apply Nat.mod_eq_of_lt
        simp only [E5.val]
        omega
      rw [hmod] at hst
      have HST := Lib.hid hst
      clear hst hmod
      go_wp2_with fail
      go_ret
      exact ⟨o, rfl, HST.out.lo, by rw [← HV.out]; exact HST.out.out, HST.out.bel⟩
end Go.Proofs.Ytbeokfpbhemcfaa
