/-
  Joined texts: Fi Fe Fq Byt Fb Pwr Fp Fv Rdp Fr.
-/
import Derived.Stop.BytesEq
import Derived.Test.YtbeokfpbhemcfaaJ2
import Derived.Test.YtbeokfpbhemcfaaJ1
/-
  Walk: the field's Int.
-/
namespace Go.Proofs.Ytbeokfpbhemcfaa
set_option linter.unusedSimpArgs false
set_option linter.unusedVariables false
open Go.RowKit

def natE (m : Nat) : E5 := ⟨m % 2251799813685248, m / 2251799813685248, 0, 0, 0⟩
def intE (n : Int) : E5 := if n < 0 then subE zE (natE n.natAbs) else natE n.natAbs
theorem natE_val (m : Nat) : (natE m).val = m := by simp only [natE, E5.val]; omega
theorem natE_ok {m : Nat} (h : m ≤ 9223372036854775808) : (natE m).Ok := by constructor <;> simp only [natE] <;> omega
theorem zE_ok : zE.Ok := by constructor <;> decide
theorem intE_ok {n : Int} (h1 : -9223372036854775808 ≤ n) (h2 : n < 9223372036854775808) : (intE n).Ok := by
  unfold intE
  split
  · exact sub_ok zE_ok (natE_ok (by omega))
  · exact natE_ok (by omega)
set_option maxRecDepth 100000 in
set_option maxHeartbeats 1000000 in
theorem int_any (n : Int) (h1 : -9223372036854775808 ≤ n) (h2 : n < 9223372036854775808) (w : World) : Calls Try.prog 50 #[.int .i64 n] w (ElemPost (intE n) w) := by
  have hu := Try.underlying26
  have hst0 : G2 w (w.heap.size + 1) w.heap.size (eV (natE n.natAbs)) (eV zE) ((w.alloc (.cells (eV zE) 26)).alloc (.cells (eV (natE n.natAbs)) 26)) :=
    ⟨(below_new _ _).alloc (by simp) _, Blk.newAt (by simp), (Blk.new _ _ _).alloc _, by omega, Nat.le_refl _, by omega⟩
  have HST0 := Lib.hid hst0
  obtain ⟨m, hm⟩ : ∃ m, m = n.natAbs := ⟨_, rfl⟩
  have hml : m ≤ 9223372036854775808 := by omega
  have hok := natE_ok hml
  rw [← hm] at HST0
  by_cases hneg : n < 0
  · have hi : intE n = subE zE (natE m) := by unfold intE; rw [if_pos hneg, hm]
    obtain rfl : n = -(m : Int) := by omega
    obtain ⟨u, hum⟩ : ∃ u, u = 18446744073709551616 - m := ⟨_, rfl⟩
    have hw1 : IntKind.u64.wrap (-(m : Int)) = (u : Int) := by rw [IntKind.wrap_u64]; omega
    have hw2 : IntKind.u64.wrap (-(u : Int)) = (m : Int) := by rw [IntKind.wrap_u64]; omega
    have hd : 0 < m := by omega
    have hmk := mask51 m (by omega)
    rw [hi]
    have hE : eV (natE m) = #[.int .u64 ((m : Int) % 2251799813685248), .int .u64 ((m : Int) / 2251799813685248), .int .u64 0, .int .u64 0, .int .u64 0] := by simp [eV, wV, limbs, natE]
    have hZ : eV zE = #[.int .u64 0, .int .u64 0, .int .u64 0, .int .u64 0, .int .u64 0] := by simp [eV, wV, limbs, zE]
    have hc := fun u => sub_any zE (natE m) u (zE_ok.mono (by decide)) hok.big
    rw [hE, hZ] at hc HST0
    have HC := Lib.hid hc
    clear hst0 hi hok h1 h2 hml hneg hum hm hc hE hZ
    go_enter Try.func50, Try.ntmps50
    go_wp2_with fail
    refine calls_then (HC.out _) ?_
    rintro e w2 ⟨rfl, hb2⟩
    have hs2 := HST0.out.next hb2
    have HS2 := Lib.hid hs2
    clear HST0 hs2 hb2
    go_wp2_with (refine wpList_put_box (x := .tmp 2) (cells := eV (subE zE (natE m))) HS2.out.z rfl rfl rfl rfl elem_size rfl (by simp [eV, wV, limbs, Value.oneCell']) ?_; intro w5 hb5 hw5)
    refine bodyPost_ret (results_box (P := Try.prog) rfl rfl hb5 hu rfl elem_size) rfl ⟨rfl, ?_⟩
    exact hw5.below HS2.out.bel HS2.out.lr HS2.out.bel.size
  · have hi : intE n = natE m := by unfold intE; rw [if_neg hneg, hm]
    obtain rfl : n = (m : Int) := by omega
    have hw1 : IntKind.u64.wrap (m : Int) = (m : Int) := by rw [IntKind.wrap_u64]; omega
    have hmk := mask51 m (by omega)
    rw [hi]
    have hE : eV (natE m) = #[.int .u64 ((m : Int) % 2251799813685248), .int .u64 ((m : Int) / 2251799813685248), .int .u64 0, .int .u64 0, .int .u64 0] := by simp [eV, wV, limbs, natE]
    have hZ : eV zE = #[.int .u64 0, .int .u64 0, .int .u64 0, .int .u64 0, .int .u64 0] := by simp [eV, wV, limbs, zE]
    rw [hE, hZ] at HST0
    have HE := Lib.hid hE
    clear hst0 hi hok h1 h2 hml hneg hm hE hZ
    go_enter Try.func50, Try.ntmps50
    go_wp2_with fail
    refine bodyPost_ret (results_box (P := Try.prog) rfl rfl ((Blk.new w _ _).alloc _) hu rfl elem_size) rfl ⟨by rw [HE.out], ?_⟩
    exact (below_new _ _).alloc (by simp) _
end Go.Proofs.Ytbeokfpbhemcfaa
/-
  Whether two elements have the same limbs; the field's Odd.
-/
namespace Go.Proofs.Ytbeokfpbhemcfaa
set_option linter.unusedSimpArgs false
set_option linter.unusedVariables false
open Go.RowKit

theorem all_range_nat : ∀ (xs ys : List Nat), xs.length = ys.length → ((List.range xs.length).all fun i => xs.getD i 0 == ys.getD i 0) = (xs == ys)
  | [], [], _ => rfl
  | x :: xs, y :: ys, h => by
    have ih := all_range_nat xs ys (by simpa using h)
    rw [List.length_cons, List.range_succ_eq_map, List.all_cons, List.all_map]
    simp only [List.getD_cons_zero, Function.comp_def, List.getD_cons_succ, ih]
    simp [List.cons_beq_cons]
  | [], _ :: _, h => by simp at h
  | _ :: _, [], h => by simp at h
section
variable {P : Program} (w : World)
def wcell (x : Nat) : Value := .int .u64 (x : Int)
theorem run_equalIn_words (d : Nat) (t e : TypeId) (n : Nat) (ht : P.underlying t = some (.array n e)) (he : P.underlying e = some (.int .u64)) (hsz : ∀ w, (sizeOf e).run P w = .ok 1 w)
    (xs ys : List Nat) (hx : xs.length = n) (hy : ys.length = n) :
    (Op.equalIn (d + 2) t (.agg (xs.map wcell).toArray) (.agg (ys.map wcell).toArray)).run P w = .ok (xs == ys) w := by
  rw [← all_range_nat xs ys (hx.trans hy.symm), hx, List.range_eq_range', Op.equalIn]
  simp only [Sem.run_bind, run_underlying ht, Result.andThen_ok, hsz, Std.Legacy.Range.forIn_eq_forIn_range', Std.Legacy.Range.size, Nat.sub_zero, Nat.add_sub_cancel, Nat.div_one]
  have hl : ∀ i ∈ List.range' 0 n 1, i < n := fun i hi => by simpa using (List.mem_range'_1.1 hi).2
  generalize List.range' 0 n 1 = l at hl ⊢
  induction l with
  | nil => simp
  | cons i l ih =>
    have hi : i < n := hl i (by simp)
    have px : (part e (xs.map wcell).toArray (i * 1)).run P w = .ok (wcell (xs.getD i 0)) w := by
      simp [part, isAgg, run_underlying he, List.getD, List.getElem?_eq_getElem (show i < xs.length by omega)]
    have py : (part e (ys.map wcell).toArray (i * 1)).run P w = .ok (wcell (ys.getD i 0)) w := by
      simp [part, isAgg, run_underlying he, List.getD, List.getElem?_eq_getElem (show i < ys.length by omega)]
    have pe : (Op.equalIn (d + 1) e (wcell (xs.getD i 0)) (wcell (ys.getD i 0))).run P w = .ok (xs.getD i 0 == ys.getD i 0) w := by
      rw [wcell, wcell, run_equalIn_int w d e .u64 .u64 _ _ he]
      congr 1
      rw [Bool.eq_iff_iff]
      simp
      omega
    simp only [List.forIn_cons, Sem.run_bind, px, py, pe, Result.andThen_ok, List.all_cons]
    cases hb : (xs.getD i 0 == ys.getD i 0)
    · simp
    · simp only [Bool.not_true, Bool.false_eq_true, if_false, Sem.run_pure, Result.andThen_ok, Bool.true_and]
      exact ih fun j hj => hl j (by simp [hj])
end
theorem eql_elem (x y : E5) (w : World) : (binOp .eql 26 (.agg (eV x)) (.agg (eV y))).run Try.prog w = .ok (.bool (limbs x == limbs y)) w := by
  have hp : ∀ z : E5, ∀ u : World, (part 24 (eV z) 0).run Try.prog u = .ok (.agg (eV z)) u := fun z u => by kernel_rfl
  have hf : Try.prog.fieldsOf 26 = #[{ name := "l", type := 24, offset := 0, embedded := false, tag := "", pkgPath := "brevet/field", byteOffset := 0 }] := by kernel_rfl
  have he : (Op.equalIn (9997 + 2) 24 (.agg (eV x)) (.agg (eV y))).run Try.prog w = .ok (limbs x == limbs y) w :=
    run_equalIn_words w 9997 24 23 5 Try.underlying24 Try.underlying23 (fun u => by kernel_rfl) (limbs x) (limbs y) rfl rfl
  rw [run_eql_struct, run_equalIn_struct w 9999 _ _ _ (by kernel_rfl) (by kernel_rfl), hf]
  simp only [Op.eqFields, Sem.run_bind, hp, Result.andThen_ok, he]
  rw [if_pos (by decide)]
  simp only [Sem.run_bind, hp, Result.andThen_ok, he]
  cases (limbs x == limbs y) <;> rfl
end Go.Proofs.Ytbeokfpbhemcfaa
/-
  Walks: the field's Odd and Equal.
-/
namespace Go.Proofs.Ytbeokfpbhemcfaa
set_option linter.unusedSimpArgs false
set_option linter.unusedVariables false
open Go.RowKit

theorem and_one (l : Nat) (h : l < 18446744073709551616) : bits .and .u64 (l : Int) 1 = ((l % 2 : Nat) : Int) := by
  have h1 := and64 l 1 h (by decide)
  rw [show ((1 : Nat) : Int) = 1 from rfl] at h1
  rw [h1]
  congr 1
  exact Nat.and_two_pow_sub_one_eq_mod l 1
set_option maxRecDepth 100000 in
set_option maxHeartbeats 1000000 in
theorem odd_any (x : E5) (w : World) (hx : x.Lt 18446744073709551616) : Calls Try.prog 40 #[.agg (eV x)] w (fun e w' => e = .returned (.bool (decide ((leastE x).a % 2 = 1))) ∧ Below w.heap.size w w') := by
  have hu := Try.underlying26
  have hu5 := Try.underlying24
  have HX := Lib.hid hx
  clear hx
  obtain ⟨z, hz⟩ : ∃ z, z = leastE x := ⟨_, rfl⟩
  have hzl : z.a < 2251799813685248 := by rw [hz]; exact (least_lt x).a
  rw [← hz]
  have HZ := Lib.hid hz
  have HZL := Lib.hid hzl
  have hix : ∀ u : World, (Instr.index 24 (.agg (eV z)) (.int .i64 0)).run Try.prog u = .ok (.int .u64 (z.a : Int)) u := fun u =>
    run_index_array (k := 0) (n := 5) (e := 23) hu5 (by decide) rfl (by kernel_rfl) (by kernel_rfl) ⟨_, Try.underlying23⟩
  have hfd : ∀ u : World, (Instr.field 26 (.agg (eV z)) 0).run Try.prog u = .ok (.agg (eV z)) u := fun u => by kernel_rfl
  have hb0 := Blk.new w 26 (eV x)
  have HB0 := Lib.hid hb0
  clear hz hzl hb0
  go_enter Try.func40, Try.ntmps40
  go_wp2_with (refine wpList_get_box (x := .tmp 1) HB0.out rfl rfl rfl hu rfl elem_size ?_)
  refine calls_then (least_any x _ HX.out) ?_
  rintro e w2 ⟨rfl, hb2⟩
  rw [← HZ.out]
  go_wp2_with fail
  go_ret
  refine ⟨?_, (below_new _ _).trans (hb2.mono (by simp))⟩
  rw [and_one z.a (by have := HZL.out; omega)]
  have e : (((z.a % 2 : Nat) : Int) == 1) = decide (z.a % 2 = 1) := by
    rw [Bool.eq_iff_iff, beq_iff_eq, decide_eq_true_iff]
    omega
  exact congrArg (fun b => Ending.returned (.bool b)) e
set_option maxRecDepth 100000 in
set_option maxHeartbeats 1000000 in
theorem equal_any (x y : E5) (w : World) (hx : x.Lt 18446744073709551616) (hy : y.Lt 18446744073709551616) : Calls Try.prog 47 #[.agg (eV x), .agg (eV y)] w (fun e w' => e = .returned (.bool (limbs (leastE x) == limbs (leastE y))) ∧ Below w.heap.size w w') := by
  have hu := Try.underlying26
  have hst0 : G2 w w.heap.size (w.heap.size + 1) (eV x) (eV y) ((w.alloc (.cells (eV x) 26)).alloc (.cells (eV y) 26)) := g2_new w (eV x) (eV y)
  have HX := Lib.hid hx
  have HY := Lib.hid hy
  have HC0 := hst0.drew
  have heq := fun u => eql_elem (leastE x) (leastE y) u
  have HEQ := Lib.hid heq
  clear hx hy hst0 heq
  go_enter Try.func47, Try.ntmps47
  go_wp2_with fail
  generalize hr : w.heap.size + 1 = h at *
  generalize hg : w.heap.size = g at *
  refine wp_region_det (fun u => G2 w g h (eV x) (eV y) u) (fun u => G2 w g h (eV x) (eV y) u) [(0, some 5), (1, some 6), (2, some 7), (3, some 8), (4, some 9), (5, some 4)] (by kernel_rfl) (by kernel_rfl) (by decide) (by kernel_rfl) (fun _ => rfl) HC0 ?_
  apply DetL.next
  · -- 0: Op.load 26 (Operand.tmp 2)
    apply detStep_plain []
    exact fun _ => rfl
    rfl
    rintro vals - w1 hC1 E hE
    simp only [puts, act_put, act_put_none, List.setIfInBounds_toArray, List.set_cons_zero, List.set_cons_succ] at hE ⊢
    refine wpList_get_box hC1.x rfl rfl rfl hu rfl elem_size ?_
    go_wp2_with fail
    exact .mk (hE _ hC1)
  apply DetL.next
  · -- 1: Op.call { callee := Callee.value (Operand.func 61), args := #[Operand.tmp 5], argTypes := #[26] }
    apply detStep_plain [(0, some 5)]
    exact fun _ => rfl
    rfl
    rintro vals ⟨-, f0⟩ w1 hC1 E hE
    simp only [puts, act_put, act_put_none, List.setIfInBounds_toArray, List.set_cons_zero, List.set_cons_succ, f0] at hE ⊢
    clear f0
    go_wp2_with fail
    refine calls_then (least_any x _ HX.out) ?_
    rintro e w2 ⟨rfl, hb2⟩
    go_wp2_with fail
    exact .mk (hE _ (hC1.next hb2))
  apply DetL.next
  · -- 2: Op.load 26 (Operand.tmp 3)
    apply detStep_plain []
    exact fun _ => rfl
    rfl
    rintro vals ⟨⟨-, -⟩, -⟩ w1 hC1 E hE
    simp only [puts, act_put, act_put_none, List.setIfInBounds_toArray, List.set_cons_zero, List.set_cons_succ] at hE ⊢
    refine wpList_get_box hC1.z rfl rfl rfl hu rfl elem_size ?_
    go_wp2_with fail
    exact .mk (hE _ hC1)
  apply DetL.next
  · -- 3: Op.call { callee := Callee.value (Operand.func 61), args := #[Operand.tmp 7], argTypes := #[26] }
    apply detStep_plain [(2, some 7), (1, some 6)]
    exact fun _ => rfl
    rfl
    rintro vals ⟨⟨⟨-, -⟩, f1⟩, f2⟩ w1 hC1 E hE
    simp only [puts, act_put, act_put_none, List.setIfInBounds_toArray, List.set_cons_zero, List.set_cons_succ, f1, f2] at hE ⊢
    clear f1 f2
    go_wp2_with fail
    refine calls_then (least_any y _ HY.out) ?_
    rintro e w2 ⟨rfl, hb2⟩
    go_wp2_with fail
    exact .mk (hE _ (hC1.next hb2))
  apply DetL.next
  · -- 4: Op.binOp BinOp.eql 26 (Operand.tmp 6) (Operand.tmp 8) 26
    apply detStep_plain [(1, some 6), (3, some 8)]
    exact fun _ => rfl
    rfl
    rintro vals ⟨⟨⟨⟨-, -⟩, f1⟩, -⟩, f3⟩ w1 hC1 E hE
    have heq := HEQ.out
    simp only [puts, act_put, act_put_none, List.setIfInBounds_toArray, List.set_cons_zero, List.set_cons_succ, f1, f3] at hE ⊢
    clear f1 f3
    go_wp2
    exact .mk (hE _ hC1)
  apply DetL.last
  · -- 5: Op.assign (Operand.tmp 9)
    apply detStep_plain [(4, some 9), (3, some 8), (0, some 5), (1, some 6), (2, some 7), (3, some 8), (4, some 9)]
    exact fun _ => rfl
    rfl
    rintro vals ⟨⟨⟨⟨⟨-, f0⟩, f1⟩, f2⟩, f3⟩, f4⟩ w1 hC1 E hE
    simp only [puts, act_put, act_put_none, List.setIfInBounds_toArray, List.set_cons_zero, List.set_cons_succ, f0, f1, f2, f3, f4] at hE ⊢
    clear f0 f1 f2 f3 f4
    go_wp2
    exact .mk (hE _ hC1)
  rintro vals ⟨⟨⟨⟨⟨⟨-, f0⟩, f1⟩, f2⟩, f3⟩, f4⟩, f5⟩ w1 hC1
  simp only [puts, act_put, act_put_none, List.setIfInBounds_toArray, List.set_cons_zero, List.set_cons_succ, f0, f1, f2, f3, f4, f5]
  clear f0 f1 f2 f3 f4 f5
  go_wp2_with fail
  go_ret
  exact ⟨rfl, hC1.bel⟩
end Go.Proofs.Ytbeokfpbhemcfaa
/-
  Plain: a number's bytes, bit by bit.
-/
namespace Go.Proofs.Ytbeokfpbhemcfaa
set_option linter.unusedSimpArgs false
set_option linter.unusedVariables false
open Go.RowKit

/-- 32 bytes of a number, the lowest first -/
def byN (N : Nat) : List Nat := (List.range 32).map fun j => N / 256 ^ j % 256
theorem byN_length (N : Nat) : (byN N).length = 32 := by simp [byN]
theorem byN_at (N j : Nat) (h : j < 32) : (byN N)[j]? = some (N / 256 ^ j % 256) := by simp [byN, h]
theorem pow256 (j : Nat) : 256 ^ j = 2 ^ (8 * j) := by rw [Nat.pow_mul]
theorem byN_zero : byN 0 = List.replicate 32 0 := by decide
/-- one bit more -/
theorem mod_bit (V n : Nat) : V % 2 ^ (n + 1) = V % 2 ^ n + V / 2 ^ n % 2 * 2 ^ n := by
  rw [Nat.pow_succ, Nat.mod_mul, Nat.mul_comm]
theorem byte_other (N b n j : Nat) (hN : N < 2 ^ n) (hb : b < 2) (hj : j ≠ n / 8) : (N + b * 2 ^ n) / 256 ^ j % 256 = N / 256 ^ j % 256 := by
  rw [pow256]
  by_cases h : j < n / 8
  · obtain ⟨d, hd⟩ : ∃ d, n = 8 * j + (8 + d) := ⟨n - 8 * j - 8, by omega⟩
    have e : b * 2 ^ n = 2 ^ (8 * j) * (256 * (b * 2 ^ d)) := by
      rw [hd, Nat.pow_add, Nat.pow_add, show (2 : Nat) ^ 8 = 256 from rfl]
      rw [Nat.mul_left_comm, Nat.mul_left_comm b 256]
    rw [e, Nat.add_mul_div_left _ _ (Nat.two_pow_pos _), Nat.add_mul_mod_self_left]
  · have hle : n + 1 ≤ 8 * j := by omega
    have h2 : 2 ^ (n + 1) ≤ 2 ^ (8 * j) := Nat.pow_le_pow_right (by decide) hle
    rw [Nat.pow_succ] at h2
    have h3 : b * 2 ^ n ≤ 1 * 2 ^ n := Nat.mul_le_mul_right _ (by omega)
    rw [Nat.div_eq_of_lt (by omega), Nat.div_eq_of_lt (by omega)]
theorem byte_this (N b n : Nat) (hN : N < 2 ^ n) (hb : b < 2) : (N + b * 2 ^ n) / 256 ^ (n / 8) % 256 = N / 256 ^ (n / 8) % 256 ||| b * 2 ^ (n % 8) := by
  obtain ⟨q, r, hr, rfl⟩ : ∃ q r, r < 8 ∧ n = 8 * q + r := ⟨n / 8, n % 8, by omega, by omega⟩
  rw [show (8 * q + r) / 8 = q by omega, show (8 * q + r) % 8 = r by omega, pow256]
  have hp := Nat.two_pow_pos (8 * q)
  have e : b * 2 ^ (8 * q + r) = 2 ^ (8 * q) * (b * 2 ^ r) := by rw [Nat.pow_add, Nat.mul_left_comm]
  rw [e, Nat.add_mul_div_left _ _ hp]
  have hlt : N / 2 ^ (8 * q) < 2 ^ r := by
    rw [Nat.div_lt_iff_lt_mul hp, ← Nat.pow_add, Nat.add_comm]; exact hN
  have hr8 : 2 ^ (r + 1) ≤ 2 ^ 8 := Nat.pow_le_pow_right (by decide) (by omega)
  rw [Nat.pow_succ, show (2 : Nat) ^ 8 = 256 from rfl] at hr8
  have hb2 : b * 2 ^ r ≤ 1 * 2 ^ r := Nat.mul_le_mul_right _ (by omega)
  rw [Nat.mod_eq_of_lt (by omega), Nat.mod_eq_of_lt (a := N / 2 ^ (8 * q)) (by omega)]
  have h := Nat.shiftLeft_add_eq_or_of_lt hlt b
  rw [Nat.shiftLeft_eq] at h
  rw [Nat.add_comm, h, Nat.or_comm]
theorem byN_step (V n : Nat) (hn : n < 256) : (byN (V % 2 ^ n)).set (n / 8) (V % 2 ^ n / 256 ^ (n / 8) % 256 ||| V / 2 ^ n % 2 * 2 ^ (n % 8)) = byN (V % 2 ^ (n + 1)) := by
  have hN : V % 2 ^ n < 2 ^ n := Nat.mod_lt _ (Nat.two_pow_pos _)
  have hb : V / 2 ^ n % 2 < 2 := Nat.mod_lt _ (by decide)
  rw [mod_bit]
  apply List.ext_getElem?
  intro j
  by_cases hj : j < 32
  · rw [byN_at _ _ hj, List.getElem?_set]
    by_cases h : n / 8 = j
    · rw [if_pos h, if_pos (by rw [byN_length]; exact h ▸ hj), ← h, byte_this _ _ _ hN hb]
    · rw [if_neg h, byN_at _ _ hj, byte_other _ _ _ _ hN hb (Ne.symm h)]
  · rw [List.getElem?_eq_none (by rw [List.length_set, byN_length]; omega), List.getElem?_eq_none (by rw [byN_length]; omega)]
theorem high_bit (l r k : Nat) (hk : k < 51) : (l + 2251799813685248 * r) / 2 ^ k % 2 = l / 2 ^ k % 2 := by
  obtain ⟨d, hd⟩ : ∃ d, 51 = k + (1 + d) := ⟨50 - k, by omega⟩
  have e : 2251799813685248 * r = 2 ^ k * (2 * (2 ^ d * r)) := by
    rw [show (2251799813685248 : Nat) = 2 ^ 51 from rfl, hd, Nat.pow_add, Nat.pow_add, Nat.pow_one, Nat.mul_assoc, Nat.mul_assoc]
  rw [e, Nat.add_mul_div_left _ _ (Nat.two_pow_pos _), Nat.add_mul_mod_self_left]
end Go.Proofs.Ytbeokfpbhemcfaa
/-
  Walk: the field's Bytes.
-/
namespace Go.Proofs.Ytbeokfpbhemcfaa
set_option linter.unusedSimpArgs false
set_option linter.unusedVariables false
open Go.RowKit

def bnV (l : List Nat) : List Value := l.map fun n : Nat => Value.int .u8 (n : Int)
theorem bnV_at {l : List Nat} {j n : Nat} (h : l[j]? = some n) : (bnV l).toArray[j]? = some (.int .u8 (n : Int)) := by simp [bnV, h]
theorem bnV_set (l : List Nat) (j n : Nat) : (bnV l).toArray.setIfInBounds j (.int .u8 (n : Int)) = (bnV (l.set j n)).toArray := by simp [bnV, List.map_set]
theorem val_bit (x : E5) (hx : x.Lt 2251799813685248) (i k n : Nat) (hi : i < 5) (hk : k < 51) (hn : i * 51 + k = n) : x.val / 2 ^ n % 2 = (limbs x).getD i 0 / 2 ^ k % 2 := by
  rw [← hn, Nat.pow_add, ← Nat.div_div_eq_div_mul]
  obtain ⟨h1, h2, h3, h4, h5⟩ := hx
  have go : ∀ l r : Nat, x.val / 2 ^ (i * 51) = l + 2251799813685248 * r → (limbs x).getD i 0 = l → x.val / 2 ^ (i * 51) / 2 ^ k % 2 = (limbs x).getD i 0 / 2 ^ k % 2 := fun l r e f => by
    rw [e, f]; exact high_bit l r k hk
  match i, hi with
  | 0, _ => exact go x.a (x.b + x.c * 2251799813685248 + x.d * 5070602400912917605986812821504 + x.e * 11417981541647679048466287755595961091061972992) (by simp only [E5.val]; omega) rfl
  | 1, _ => exact go x.b (x.c + x.d * 2251799813685248 + x.e * 5070602400912917605986812821504) (by rw [show (2 : Nat) ^ (1 * 51) = 2251799813685248 by decide]; simp only [E5.val]; omega) rfl
  | 2, _ => exact go x.c (x.d + x.e * 2251799813685248) (by rw [show (2 : Nat) ^ (2 * 51) = 5070602400912917605986812821504 by decide]; simp only [E5.val]; omega) rfl
  | 3, _ => exact go x.d x.e (by rw [show (2 : Nat) ^ (3 * 51) = 11417981541647679048466287755595961091061972992 by decide]; simp only [E5.val]; omega) rfl
  | 4, _ => exact go x.e 0 (by rw [show (2 : Nat) ^ (4 * 51) = 25711008708143844408671393477458601640355247900524685364822016 by decide]; simp only [E5.val]; omega) rfl
structure B2 (w0 : World) (g o : Nat) (x : Array Value) (l : List Nat) (u : World) : Prop where
  bel : Below w0.heap.size w0 u
  x : Blk u g 26 x
  out : Blk u o 5 (bnV l).toArray
  lo : w0.heap.size ≤ o
  go : g ≠ o
theorem B2.put {w0 u u' : World} {g o : Nat} {x : Array Value} {l l' : List Nat} (k : B2 w0 g o x l u) (hw : Wrote o u u') (hb : Blk u' o 5 (bnV l').toArray) : B2 w0 g o x l' u' :=
  ⟨hw.below k.bel k.lo k.bel.size, hw.blk k.x k.go, hb, k.lo, k.go⟩
theorem B2.drew {w0 u : World} {g o : Nat} {x : Array Value} {l : List Nat} (k : B2 w0 g o x l u) : B2 w0 g o x l u.drew :=
  ⟨k.bel.drew, k.x, k.out, k.lo, k.go⟩
theorem b2_new (w0 u : World) (g : Nat) (x : Array Value) (hbel : Below w0.heap.size w0 u) (hx : Blk u g 26 x) : B2 w0 g u.heap.size x (byN 0) (u.alloc (.cells (bnV (byN 0)).toArray 5)) :=
  ⟨hbel.alloc hbel.size _, hx.alloc _, Blk.new _ _ _, hbel.size, Nat.ne_of_lt hx.lt⟩
def BytesPost (N : Nat) (w : World) (e : Ending) (w' : World) : Prop :=
  ∃ o, e = .returned (.slice (some ⟨o, 0, none⟩) 32 32) ∧ w.heap.size ≤ o ∧ Blk w' o 5 (bnV (byN N)).toArray ∧ Below w.heap.size w w'
set_option maxRecDepth 100000 in
set_option maxHeartbeats 2000000 in
theorem bytes_any (x : E5) (w : World) (hx : x.Lt 18446744073709551616) : Calls Try.prog 39 #[.agg (eV x)] w (BytesPost (leastE x).val w) := by
  have hu := Try.underlying26
  have hu5 := Try.underlying24
  obtain ⟨z, hz⟩ : ∃ z, z = leastE x := ⟨_, rfl⟩
  have hzl : z.Lt 2251799813685248 := by rw [hz]; exact least_lt x
  have hmk : ∀ u : World, (Instr.makeSlice 22 (.int .i64 32) (.int .i64 32)).run Try.prog u = .ok (.slice (some ⟨u.heap.size, 0, none⟩) 32 32) (u.alloc (.cells (bnV (byN 0)).toArray 5)) := fun _ => by rw [byN_zero]; kernel_rfl
  rw [← hz]
  have HX := Lib.hid hx
  have HZ := Lib.hid hz
  have HZL := Lib.hid hzl
  have hb0 := Blk.new w 26 (eV x)
  have HB0 := Lib.hid hb0
  clear hx hz hzl hb0
  go_enter Try.func39, Try.ntmps39
  go_wp2_with (refine wpList_get_box (x := .tmp 1) HB0.out rfl rfl rfl hu rfl elem_size ?_)
  refine calls_then (least_any x _ HX.out) ?_
  rintro e w2 ⟨rfl, hb2⟩
  rw [← HZ.out]
  have hb3 : Below w.heap.size w w2 := (below_new _ _).trans (hb2.mono (by simp))
  have hb4 := HB0.out.below hb2 HB0.out.lt
  have HB3 := Lib.hid hb3
  have HB4 := Lib.hid hb4
  clear hb2 hb3 hb4 HB0
  generalize hg : w.heap.size = g at *
  go_wp2_with (first
    | (refine wpList_put_box (x := .tmp 1) (cells := eV z) HB4.out rfl rfl rfl rfl elem_size rfl (by simp [eV, wV, limbs, Value.oneCell']) ?_; intro w5 hb5 hw5; have HB5 := Lib.hid hb5; have HW5 := Lib.hid hw5; clear hb5 hw5)
    | (refine wpList_get_part (x := .tmp 11) (n := 5) (r := eV z) (HB5.out.alloc _) (by rw [eV_size]; decide) rfl rfl rfl rfl hu5 rfl five_size ?_))
  have hst0 := b2_new w w5 g (eV z) (by
    rw [hg]
    exact HW5.out.below HB3.out (Nat.le_refl _) (by rw [← hg]; exact HB3.out.size)) HB5.out
  obtain ⟨o, ho⟩ : ∃ o, o = w5.heap.size := ⟨_, rfl⟩
  obtain ⟨V, hV⟩ : ∃ V, V = z.val := ⟨_, rfl⟩
  have h00 : byN 0 = byN (V % 2 ^ (0 * 51)) := by rw [Nat.zero_mul, Nat.pow_zero, Nat.mod_one]
  rw [← ho, h00] at hst0
  rw [← ho, h00, ← hV]
  have HV := Lib.hid hV
  have HST0 := Lib.hid hst0
  clear hst0 ho HB3 HB4 HB5 HW5 hmk h00 hV
  go_loopw [13] (fun i wr => ∃ k : Nat, k ≤ 5 ∧ i = .int .i64 k ∧ B2 w g o (eV z) (byN (V % 2 ^ (k * 51))) wr) (fun i _ => 5 - (intOf i).toNat)
  case atStart => exact ⟨0, by omega, rfl, HST0.out⟩
  case round =>
    clear HST0
    obtain ⟨i, hi, rfl, hst⟩ := hrel
    by_cases hlt : i < 5
    · have hlt' : (i : Int) < 5 := by omega
      obtain ⟨l, hl⟩ : ∃ l, l = (limbs z).getD i 0 := ⟨_, rfl⟩
      have hll : l < 2251799813685248 := by rw [hl]; exact limb_lt HZL.out (by decide) i
      have hix : ∀ u : World, (Instr.index 24 (.agg (eV z)) (.int .i64 (i : Int))).run Try.prog u = .ok (.int .u64 (l : Int)) u := fun u =>
        run_index_array (n := 5) (e := 23) hu5 hlt (by rw [hl]; exact eV_at z i hlt) (by kernel_rfl) (by kernel_rfl) ⟨_, Try.underlying23⟩
      have hst' : B2 w g o (eV z) (byN (V % 2 ^ (i * 51 + 0))) wr := hst
      have HST := Lib.hid hst'
      have HL := Lib.hid hl
      have HLL := Lib.hid hll
      clear hst hst' hl hll
      go_wp2_with fail
      obtain ⟨wo, rfl⟩ : ∃ x, x = wr := ⟨_, rfl⟩
      go_loopw [17] (fun c wr => ∃ k : Nat, k ≤ 51 ∧ c = .int .i64 k ∧ B2 w g o (eV z) (byN (V % 2 ^ (i * 51 + k))) wr) (fun c _ => 51 - (intOf c).toNat)
      case atStart => exact ⟨0, by omega, rfl, HST.out⟩
      case round =>
        clear HST hix
        obtain ⟨k, hk, rfl, hst⟩ := hrel
        by_cases hltk : k < 51
        · have hltk' : (k : Int) < 51 := by omega
          obtain ⟨n, hn⟩ : ∃ n, n = i * 51 + k := ⟨_, rfl⟩
          have hni : (i : Int) * 51 + (k : Int) = (n : Int) := by omega
          obtain ⟨q, hq⟩ : ∃ q, q = n / 8 := ⟨_, rfl⟩
          obtain ⟨r, hr⟩ : ∃ r, r = n % 8 := ⟨_, rfl⟩
          have hqi : (n : Int) / 8 = (q : Int) := by omega
          have hri : (n : Int) % 8 = (r : Int) := by omega
          have hq32 : (q : Int) < 32 := by omega
          have hr8 : (r : Int) < 8 := by omega
          have hstep := byN_step V n (by omega)
          have hbit := val_bit z HZL.out i k n hlt hltk hn.symm
          rw [← HV.out, ← HL.out] at hbit
          rw [← hq, ← hr, hbit] at hstep
          rw [← hn] at hst
          have hcur := byN_at (V % 2 ^ n) q (by omega)
          obtain ⟨y, hy⟩ : ∃ y, y = V % 2 ^ n / 256 ^ q % 256 := ⟨_, rfl⟩
          rw [← hy] at hstep hcur
          have hyl : y < 256 := by rw [hy]; exact Nat.mod_lt _ (by decide)
          obtain ⟨lk, hlk⟩ : ∃ lk, lk = l / 2 ^ k := ⟨_, rfl⟩
          rw [← hlk] at hstep
          have hlkl : lk < 2251799813685248 := by rw [hlk]; exact Nat.lt_of_le_of_lt (Nat.div_le_self _ _) HLL.out
          have hlki : (l : Int) / 2 ^ k = (lk : Int) := by rw [hlk, shr_int]
          obtain ⟨b, hb⟩ : ∃ b, b = lk % 2 := ⟨_, rfl⟩
          rw [← hb] at hstep
          have HLK := Lib.hid hlki
          have HLKL := Lib.hid hlkl
          have hbl : b < 2 := by rw [hb]; exact Nat.mod_lt _ (by decide)
          obtain ⟨LN, hLN⟩ : ∃ LN, LN = byN (V % 2 ^ n) := ⟨_, rfl⟩
          rw [← hLN] at hstep hcur hst
          obtain ⟨LM, hLM⟩ : ∃ LM, LM = byN (V % 2 ^ (n + 1)) := ⟨_, rfl⟩
          rw [← hLM] at hstep
          obtain ⟨s, hs⟩ : ∃ s, s = b * 2 ^ r := ⟨_, rfl⟩
          rw [← hs] at hstep
          have hsl : s < 256 := by
            have e1 : 2 ^ r ≤ 2 ^ 7 := Nat.pow_le_pow_right (by decide) (by omega)
            have e2 : b * 2 ^ r ≤ 1 * 2 ^ 7 := Nat.mul_le_mul (by omega) e1
            rw [hs]; exact Nat.lt_of_le_of_lt e2 (by decide)
          have hsi : (b : Int) * 2 ^ r % 256 = (s : Int) := by
            rw [shl_int, ← hs]; omega
          have hor := or8 (a := y) (b := s) hyl hsl
          obtain ⟨yn, hyn⟩ : ∃ yn, yn = y ||| s := ⟨_, rfl⟩
          rw [← hyn] at hor hstep
          have HOR := Lib.hid hor
          have HSI := Lib.hid hsi
          have HSTEP := Lib.hid hstep
          have HCUR := Lib.hid (bnV_at hcur)
          have HB := Lib.hid hb
          have HBL := Lib.hid hbl
          have HYL := Lib.hid hyl
          have HLM := Lib.hid hLM
          have HN := Lib.hid hn
          have HC0 := hst.drew
          clear hst hstep hcur hb hbl hyl hLM hLN hy hbit hq hr hn hlk hlki hlkl hs hsl hsi hor hyn
          go_wp2_with fail
          refine wp_region_det (fun u => B2 w g o (eV z) LN u) (fun u => B2 w g o (eV z) LM u) [(0, some 24), (1, some 25), (2, some 26), (3, some 27), (4, some 28), (5, some 29), (6, some 30), (7, some 31), (8, some 32), (9, some 33), (10, some 34), (11, some 35), (12, some 36), (13, some 37), (14, some 38), (15, none)] (by kernel_rfl) (by kernel_rfl) (by decide) (by kernel_rfl) (fun _ => rfl) HC0 ?_
          apply DetL.next
          · -- 0: Op.move (Operand.tmp 3)
            apply detStep_plain []
            exact fun _ => rfl
            rfl
            rintro vals - w1 hC1 E hE
            simp only [puts, act_put, act_put_none, List.setIfInBounds_toArray, List.set_cons_zero, List.set_cons_succ] at hE ⊢
            go_wp2
            exact .mk (hE _ hC1)
          apply DetL.next
          · -- 1: Op.move (Operand.tmp 7)
            apply detStep_plain []
            exact fun _ => rfl
            rfl
            rintro vals ⟨-, -⟩ w1 hC1 E hE
            simp only [puts, act_put, act_put_none, List.setIfInBounds_toArray, List.set_cons_zero, List.set_cons_succ] at hE ⊢
            go_wp2
            exact .mk (hE _ hC1)
          apply DetL.next
          · -- 2: Op.binOp BinOp.quo 3 (Operand.tmp 25) (Operand.const (Value.int IntKind.i64 8)) 3
            apply detStep_plain [(1, some 25)]
            exact fun _ => rfl
            rfl
            rintro vals ⟨⟨-, -⟩, f1⟩ w1 hC1 E hE
            simp only [puts, act_put, act_put_none, List.setIfInBounds_toArray, List.set_cons_zero, List.set_cons_succ, f1] at hE ⊢
            clear f1
            go_wp2
            exact .mk (hE _ hC1)
          apply DetL.next
          · -- 3: Op.indexAddr 22 (Operand.tmp 24) (Operand.tmp 26)
            apply detStep_plain [(0, some 24), (2, some 26)]
            exact fun _ => rfl
            rfl
            rintro vals ⟨⟨⟨-, f0⟩, -⟩, f2⟩ w1 hC1 E hE
            simp only [puts, act_put, act_put_none, List.setIfInBounds_toArray, List.set_cons_zero, List.set_cons_succ, f0, f2] at hE ⊢
            clear f0 f2
            go_wp2
            exact .mk (hE _ hC1)
          apply DetL.next
          · -- 4: Op.load 5 (Operand.tmp 27)
            apply detStep_plain [(3, some 27)]
            exact fun _ => rfl
            rfl
            rintro vals ⟨⟨⟨⟨-, -⟩, -⟩, -⟩, f3⟩ w1 hC1 E hE
            have d0 := hC1.out.cell q
            rw [HCUR.out] at d0
            simp only [puts, act_put, act_put_none, List.setIfInBounds_toArray, List.set_cons_zero, List.set_cons_succ, f3] at hE ⊢
            clear f3
            go_wp2
            exact .mk (hE _ hC1)
          apply DetL.next
          · -- 5: Op.move (Operand.tmp 5)
            apply detStep_plain []
            exact fun _ => rfl
            rfl
            rintro vals ⟨⟨⟨⟨⟨-, -⟩, -⟩, -⟩, -⟩, -⟩ w1 hC1 E hE
            simp only [puts, act_put, act_put_none, List.setIfInBounds_toArray, List.set_cons_zero, List.set_cons_succ] at hE ⊢
            go_wp2
            exact .mk (hE _ hC1)
          apply DetL.next
          · -- 6: Op.move (Operand.tmp 6)
            apply detStep_plain []
            exact fun _ => rfl
            rfl
            rintro vals ⟨⟨⟨⟨⟨⟨-, -⟩, -⟩, -⟩, -⟩, -⟩, -⟩ w1 hC1 E hE
            simp only [puts, act_put, act_put_none, List.setIfInBounds_toArray, List.set_cons_zero, List.set_cons_succ] at hE ⊢
            go_wp2
            exact .mk (hE _ hC1)
          apply DetL.next
          · -- 7: Op.binOp BinOp.shr 23 (Operand.tmp 29) (Operand.tmp 30) 3
            apply detStep_plain [(5, some 29), (6, some 30)]
            exact fun _ => rfl
            rfl
            rintro vals ⟨⟨⟨⟨⟨⟨⟨-, -⟩, -⟩, -⟩, -⟩, -⟩, f5⟩, f6⟩ w1 hC1 E hE
            simp only [puts, act_put, act_put_none, List.setIfInBounds_toArray, List.set_cons_zero, List.set_cons_succ, f5, f6] at hE ⊢
            clear f5 f6
            go_wp2
            rw [HLK.out]
            exact .mk (hE _ hC1)
          apply DetL.next
          · -- 8: Op.binOp BinOp.and 23 (Operand.tmp 31) (Operand.const (Value.int IntKind.u64 1)) 23
            apply detStep_plain [(7, some 31)]
            exact fun _ => rfl
            rfl
            rintro vals ⟨⟨⟨⟨⟨⟨⟨⟨-, -⟩, -⟩, -⟩, -⟩, -⟩, -⟩, -⟩, f7⟩ w1 hC1 E hE
            simp only [puts, act_put, act_put_none, List.setIfInBounds_toArray, List.set_cons_zero, List.set_cons_succ, f7] at hE ⊢
            clear f7
            go_wp2
            rw [and_one lk (by have := HLKL.out; omega), ← HB.out]
            exact .mk (hE _ hC1)
          apply DetL.next
          · -- 9: Op.convert 23 5 (Operand.tmp 32)
            apply detStep_plain [(8, some 32)]
            exact fun _ => rfl
            rfl
            rintro vals ⟨⟨⟨⟨⟨⟨⟨⟨⟨-, -⟩, -⟩, -⟩, -⟩, -⟩, -⟩, -⟩, -⟩, f8⟩ w1 hC1 E hE
            have hb8 : (b : Int) < 256 := by have := HBL.out; omega
            simp only [puts, act_put, act_put_none, List.setIfInBounds_toArray, List.set_cons_zero, List.set_cons_succ, f8] at hE ⊢
            clear f8
            go_wp2
            exact .mk (hE _ hC1)
          apply DetL.next
          · -- 10: Op.move (Operand.tmp 7)
            apply detStep_plain []
            exact fun _ => rfl
            rfl
            rintro vals ⟨⟨⟨⟨⟨⟨⟨⟨⟨⟨-, -⟩, -⟩, -⟩, -⟩, -⟩, -⟩, -⟩, -⟩, -⟩, -⟩ w1 hC1 E hE
            simp only [puts, act_put, act_put_none, List.setIfInBounds_toArray, List.set_cons_zero, List.set_cons_succ] at hE ⊢
            go_wp2
            exact .mk (hE _ hC1)
          apply DetL.next
          · -- 11: Op.binOp BinOp.rem 3 (Operand.tmp 34) (Operand.const (Value.int IntKind.i64 8)) 3
            apply detStep_plain [(10, some 34)]
            exact fun _ => rfl
            rfl
            rintro vals ⟨⟨⟨⟨⟨⟨⟨⟨⟨⟨⟨-, -⟩, -⟩, -⟩, -⟩, -⟩, -⟩, -⟩, -⟩, -⟩, -⟩, f10⟩ w1 hC1 E hE
            simp only [puts, act_put, act_put_none, List.setIfInBounds_toArray, List.set_cons_zero, List.set_cons_succ, f10] at hE ⊢
            clear f10
            go_wp2
            exact .mk (hE _ hC1)
          apply DetL.next
          · -- 12: Op.binOp BinOp.shl 5 (Operand.tmp 33) (Operand.tmp 35) 3
            apply detStep_plain [(9, some 33), (11, some 35)]
            exact fun _ => rfl
            rfl
            rintro vals ⟨⟨⟨⟨⟨⟨⟨⟨⟨⟨⟨⟨-, -⟩, -⟩, -⟩, -⟩, -⟩, -⟩, -⟩, -⟩, -⟩, f9⟩, -⟩, f11⟩ w1 hC1 E hE
            simp only [puts, act_put, act_put_none, List.setIfInBounds_toArray, List.set_cons_zero, List.set_cons_succ, f9, f11] at hE ⊢
            clear f9 f11
            go_wp2
            rw [HSI.out]
            exact .mk (hE _ hC1)
          apply DetL.next
          · -- 13: Op.binOp BinOp.or 5 (Operand.tmp 28) (Operand.tmp 36) 5
            apply detStep_plain [(4, some 28), (12, some 36)]
            exact fun _ => rfl
            rfl
            rintro vals ⟨⟨⟨⟨⟨⟨⟨⟨⟨⟨⟨⟨⟨-, -⟩, -⟩, -⟩, -⟩, f4⟩, -⟩, -⟩, -⟩, -⟩, -⟩, -⟩, -⟩, f12⟩ w1 hC1 E hE
            simp only [puts, act_put, act_put_none, List.setIfInBounds_toArray, List.set_cons_zero, List.set_cons_succ, f4, f12] at hE ⊢
            clear f4 f12
            go_wp2
            rw [HOR.out]
            exact .mk (hE _ hC1)
          apply DetL.next
          · -- 14: Op.indexAddr 22 (Operand.tmp 24) (Operand.tmp 26)
            apply detStep_plain [(0, some 24), (2, some 26), (0, some 24), (1, some 25), (2, some 26), (3, some 27), (4, some 28), (5, some 29), (6, some 30), (7, some 31), (8, some 32), (9, some 33), (10, some 34), (11, some 35), (12, some 36), (13, some 37)]
            exact fun _ => rfl
            rfl
            rintro vals ⟨⟨⟨⟨⟨⟨⟨⟨⟨⟨⟨⟨⟨⟨-, f0⟩, f1⟩, f2⟩, f3⟩, f4⟩, f5⟩, f6⟩, f7⟩, f8⟩, f9⟩, f10⟩, f11⟩, f12⟩, f13⟩ w1 hC1 E hE
            simp only [puts, act_put, act_put_none, List.setIfInBounds_toArray, List.set_cons_zero, List.set_cons_succ, f0, f1, f2, f3, f4, f5, f6, f7, f8, f9, f10, f11, f12, f13] at hE ⊢
            clear f0 f1 f2 f3 f4 f5 f6 f7 f8 f9 f10 f11 f12 f13
            go_wp2
            exact .mk (hE _ hC1)
          apply DetL.last (v := undef)
          · -- 15: Op.store 5 (Operand.tmp 38) (Operand.tmp 37)
            apply detStep_plain [(14, some 38), (13, some 37), (0, some 24), (1, some 25), (2, some 26), (3, some 27), (4, some 28), (5, some 29), (6, some 30), (7, some 31), (8, some 32), (9, some 33), (10, some 34), (11, some 35), (12, some 36), (13, some 37)]
            exact fun _ => rfl
            rfl
            rintro vals ⟨⟨⟨⟨⟨⟨⟨⟨⟨⟨⟨⟨⟨⟨⟨-, f0⟩, f1⟩, f2⟩, f3⟩, f4⟩, f5⟩, f6⟩, f7⟩, f8⟩, f9⟩, f10⟩, f11⟩, f12⟩, f13⟩, f14⟩ w1 hC1 E hE
            have d0 := hC1.out.cell q
            rw [HCUR.out] at d0
            have q0 := hC1.out.free q
            simp only [puts, act_put, act_put_none, List.setIfInBounds_toArray, List.set_cons_zero, List.set_cons_succ, f0, f1, f2, f3, f4, f5, f6, f7, f8, f9, f10, f11, f12, f13, f14] at hE ⊢
            clear f0 f1 f2 f3 f4 f5 f6 f7 f8 f9 f10 f11 f12 f13 f14
            go_wp2
            refine .mk (hE _ (hC1.put (wrote_setCell_at _ _ _ _) ?_))
            have h := blk_setCell_at (i := q) hC1.out (.int .u8 (yn : Int))
            rw [bnV_set, HSTEP.out] at h
            exact h
          rintro vals ⟨⟨⟨⟨⟨⟨⟨⟨⟨⟨⟨⟨⟨⟨⟨⟨-, f0⟩, f1⟩, f2⟩, f3⟩, f4⟩, f5⟩, f6⟩, f7⟩, f8⟩, f9⟩, f10⟩, f11⟩, f12⟩, f13⟩, f14⟩, f15⟩ w1 hC1
          simp only [puts, act_put, act_put_none, List.setIfInBounds_toArray, List.set_cons_zero, List.set_cons_succ, f0, f1, f2, f3, f4, f5, f6, f7, f8, f9, f10, f11, f12, f13, f14, f15]
          clear f0 f1 f2 f3 f4 f5 f6 f7 f8 f9 f10 f11 f12 f13 f14 f15
          clear HC0
          have hfin : B2 w g o (eV z) (byN (V % 2 ^ (i * 51 + (k + 1)))) w1 := by
            rw [show i * 51 + (k + 1) = n + 1 by rw [HN.out]; omega, ← HLM.out]
            exact hC1
          have HFIN := Lib.hid hfin
          clear hC1 hfin
          go_wp2_with fail
          exact ⟨⟨k + 1, by omega, by go_num, HFIN.out⟩, by simp [intOf]; omega⟩
        · obtain rfl : k = 51 := by omega
          rw [show i * 51 + 51 = (i + 1) * 51 by omega] at hst
          have HST := Lib.hid hst
          clear hst
          go_wp2_with fail
          exact ⟨⟨i + 1, by omega, by go_num, HST.out⟩, by simp [intOf]; omega⟩
    · obtain rfl : i = 5 := by omega
      have hmod : V % 2 ^ (5 * 51) = V := by
        have h := HZL.out
        obtain ⟨h1, h2, h3, h4, h5⟩ := h
        rw [HV.out, show (2 : Nat) ^ (5 * 51) = 57896044618658097711785492504343953926634992332820282019728792003956564819968 by decide]
        apply Nat.mod_eq_of_lt
        simp only [E5.val]
        omega
      rw [hmod] at hst
      have HST := Lib.hid hst
      clear hst hmod
      go_wp2_with fail
      go_ret
      exact ⟨o, rfl, HST.out.lo, by rw [← HV.out]; exact HST.out.out, HST.out.bel⟩
end Go.Proofs.Ytbeokfpbhemcfaa
/-
  Plain: powers by squares, bit by bit from the highest on.
-/
namespace Go.Proofs.Ytbeokfpbhemcfaa
set_option linter.unusedSimpArgs false
set_option linter.unusedVariables false
open Go.RowKit

/-- one bit more of the exponent -/
def pwS (x out : E5) (bit : Nat) : E5 := if bit = 1 then mulE (mulE out out) x else mulE out out
/-- so many bits of a byte, from the highest on -/
def pwB (x out : E5) (b : Nat) : Nat → E5
  | 0 => out
  | j + 1 => pwS x (pwB x out b j) (b / 2 ^ (7 - j) % 2)
/-- so many bytes, from the last on -/
def pwL (x : E5) (l : List Nat) : Nat → E5
  | 0 => natE 1
  | j + 1 => pwB x (pwL x l j) (l.getD (l.length - 1 - j) 0) 8
theorem pwS_ok {x out : E5} (hx : x.Ok) (ho : out.Ok) (bit : Nat) : (pwS x out bit).Ok := by
  unfold pwS
  split
  · exact mul_ok (mul_ok ho ho) hx
  · exact mul_ok ho ho
theorem pwB_ok {x out : E5} (hx : x.Ok) (ho : out.Ok) (b : Nat) : ∀ j, (pwB x out b j).Ok
  | 0 => ho
  | j + 1 => pwS_ok hx (pwB_ok hx ho b j) _
theorem pwL_ok {x : E5} (hx : x.Ok) (l : List Nat) : ∀ j, (pwL x l j).Ok
  | 0 => natE_ok (by decide)
  | j + 1 => pwB_ok hx (pwL_ok hx l j) _ 8
theorem pow_mod_mul (a n m : Nat) : a ^ n % PN * (a ^ m % PN) % PN = a ^ (n + m) % PN := by
  rw [← Nat.mul_mod, Nat.pow_add]
theorem pwS_val {x out : E5} {n bit : Nat} (h : out.val % PN = x.val ^ n % PN) (hb : bit < 2) : (pwS x out bit).val % PN = x.val ^ (2 * n + bit) % PN := by
  have h2 : (mulE out out).val % PN = x.val ^ (2 * n) % PN := by
    rw [mul_val, Nat.mul_mod, h, pow_mod_mul, Nat.two_mul]
  unfold pwS
  split
  · next e => rw [mul_val, Nat.mul_mod, h2, e, ← Nat.pow_one (x.val), Nat.pow_one, Nat.pow_add, Nat.pow_one, ← Nat.mul_mod]
  · next e =>
    obtain rfl : bit = 0 := by omega
    exact h2
theorem pwB_val {x out : E5} {n : Nat} (h : out.val % PN = x.val ^ n % PN) (b : Nat) : ∀ j, j ≤ 8 → (pwB x out b j).val % PN = x.val ^ (n * 2 ^ j + b % 256 / 2 ^ (8 - j)) % PN
  | 0, _ => by
    have e : b % 256 / 2 ^ (8 - 0) = 0 := Nat.div_eq_of_lt (Nat.mod_lt _ (by decide))
    rw [e, Nat.pow_zero, Nat.mul_one, Nat.add_zero]
    exact h
  | j + 1, hj => by
    have ih := pwB_val h b j (by omega)
    have e := pwS_val (bit := b / 2 ^ (7 - j) % 2) ih (Nat.mod_lt _ (by decide))
    rw [pwB, e]
    congr 2
    have hp : 2 ^ (8 - j) = 2 ^ (7 - j) * 2 := by rw [← Nat.pow_succ]; congr 1; omega
    have h1 : b % 256 / 2 ^ (8 - j) = b % 256 / 2 ^ (7 - j) / 2 := by rw [hp, Nat.div_div_eq_div_mul]
    have h2 : b / 2 ^ (7 - j) % 2 = b % 256 / 2 ^ (7 - j) % 2 := by
      obtain ⟨d, hd⟩ : ∃ d, 8 = (7 - j) + (1 + d) := ⟨j, by omega⟩
      have h8 : 2 ^ (7 - j) * (2 * 2 ^ d) = 256 := by
        have h9 : 2 ^ ((7 - j) + (1 + d)) = 256 := by rw [← hd]
        rw [Nat.pow_add, Nat.pow_add, Nat.pow_one] at h9
        exact h9
      obtain ⟨c, hc⟩ : ∃ c, c = b / 256 := ⟨_, rfl⟩
      have e4 : 2 ^ (7 - j) * (2 * (2 ^ d * c)) = 256 * c := by rw [← h8]; simp only [Nat.mul_assoc]
      have e3 : b = b % 256 + 2 ^ (7 - j) * (2 * (2 ^ d * c)) := by rw [e4, hc]; exact (Nat.mod_add_div b 256).symm
      conv => lhs; rw [e3, Nat.add_mul_div_left _ _ (Nat.two_pow_pos _), Nat.add_mul_mod_self_left]
    rw [h1, h2, show 8 - (j + 1) = 7 - j by omega, Nat.pow_succ]
    have e5 : 2 * (n * 2 ^ j + b % 256 / 2 ^ (7 - j) / 2) = n * (2 ^ j * 2) + 2 * (b % 256 / 2 ^ (7 - j) / 2) := by
      rw [Nat.mul_add, ← Nat.mul_assoc n, Nat.mul_comm 2 (n * 2 ^ j)]
    rw [e5]
    omega
/-- a number of digits of 256, the lowest first -/
def leV : List Nat → Nat
  | [] => 0
  | d :: r => d + 256 * leV r
theorem pwL_val (x : E5) (l : List Nat) (hl : ∀ d ∈ l, d < 256) : ∀ j, j ≤ l.length → (pwL x l j).val % PN = x.val ^ leV (l.drop (l.length - j)) % PN
  | 0, _ => by
    rw [Nat.sub_zero, List.drop_length, leV, Nat.pow_zero, pwL, natE_val]
  | j + 1, hj => by
    have hlt : l.length - 1 - j < l.length := by omega
    have hd : l.getD (l.length - 1 - j) 0 = l[l.length - 1 - j] := by rw [List.getD_eq_getElem?_getD, List.getElem?_eq_getElem hlt]; rfl
    have hb : l[l.length - 1 - j] < 256 := hl _ (List.getElem_mem hlt)
    rw [pwL, pwB_val (pwL_val x l hl j (by omega)) _ 8 (Nat.le_refl _), hd, Nat.mod_eq_of_lt hb, show l.length - (j + 1) = l.length - 1 - j by omega, List.drop_eq_getElem_cons hlt, leV, show l.length - 1 - j + 1 = l.length - j by omega]
    congr 2
    rw [show 8 - 8 = 0 from rfl, Nat.pow_zero, Nat.div_one, show (2 : Nat) ^ 8 = 256 from rfl, Nat.mul_comm]
    omega
end Go.Proofs.Ytbeokfpbhemcfaa
/-
  Walk: the field's Pow.
-/
namespace Go.Proofs.Ytbeokfpbhemcfaa
set_option linter.unusedSimpArgs false
set_option linter.unusedVariables false
open Go.RowKit

theorem and8_one (l : Nat) (h : l < 256) : bits .and .u8 (l : Int) 1 = ((l % 2 : Nat) : Int) := by
  show IntKind.u8.wrap ((BitVec.ofInt 8 (l : Int) &&& BitVec.ofInt 8 (1 : Int)).toNat : Int) = _
  have e1 : (BitVec.ofInt 8 (1 : Int)).toNat = 1 := by decide
  rw [BitVec.toNat_and, BitVec.ofInt_natCast, BitVec.toNat_ofNat, e1, Nat.mod_eq_of_lt (show l < 2 ^ 8 from h), IntKind.wrap_u8]
  have h2 : l &&& 1 = l % 2 := Nat.and_two_pow_sub_one_eq_mod l 1
  rw [h2]
  omega
theorem Rd.atc {w : World} {B k : Nat} {ad : Addr} {xs : List Value} (h : Rd w B (some ad) xs) (hk : k < xs.length) : w.cell? (ad.add k) = some xs[k] := by
  obtain ⟨a2, h1, _, h3⟩ := h.at_ hk
  injection h1 with h1
  rw [h1]; exact h3
set_option maxRecDepth 100000 in
set_option maxHeartbeats 2000000 in
theorem pow_any (x : E5) (hx : x.Ok) (l : List UInt8) (A : Option Addr) (c : Nat) (w : World) (hr : Rd w w.heap.size A (bytesV l)) (hc : l.length ≤ c) (hl : l.length ≤ 1000000) :
    Calls Try.prog 58 #[.agg (eV x), .slice A l.length c] w (ElemPost (pwL x ((l.take 64).map UInt8.toNat) (min l.length 64)) w) := by
  have hu := Try.underlying26
  have hi1 : intE 1 = natE 1 := rfl
  have hint := fun u => int_any 1 (by decide) (by decide) u
  rw [hi1] at hint
  have HX := Lib.hid hx
  have HI := Lib.hid hint
  have HR := Lib.hid hr
  obtain ⟨n, hn⟩ : ∃ n, n = l.length := ⟨_, rfl⟩
  rw [← hn]
  rw [← hn] at hc hl
  have hn63 : (n : Int) ≤ 1000000 := by omega
  have HN := Lib.hid hn
  clear hx hi1 hint hr hn hc hl
  obtain ⟨m, hm⟩ : ∃ m, m = min n 64 := ⟨_, rfl⟩
  have hmin1 : (if (64 : Int) < (n : Int) then (64 : Int) else (n : Int)) = (m : Int) := by rw [hm]; split <;> omega
  have hmin2 : (if 64 < n then (64 : Int) else (n : Int)) = (m : Int) := by rw [hm]; split <;> omega
  have hm64 : (m : Int) ≤ 64 := by omega
  rw [← hm]
  have HM := Lib.hid hm
  clear hm
  all_goals
    go_enter Try.func58, Try.ntmps58
    go_wp2_with fail
    refine calls_then (HI.out _) ?_
    rintro e w2 ⟨rfl, hb2⟩
    go_wp2_with (refine wpList_put_box (x := .tmp 5) (cells := eV (natE 1)) (Blk.new w2 _ _) rfl rfl rfl rfl elem_size rfl (by simp [eV, wV, limbs, Value.oneCell']) ?_; intro w5 hb5 hw5; have HB5 := Lib.hid hb5; have HW5 := Lib.hid hw5; clear hb5 hw5)
    have hst0 : G2 w w.heap.size (w.heap.size + 1) (eV x) (eV zE) _ := g2_new w (eV x) (eV zE)
    have hst2 := hst0.next hb2
    have hst3 : G3 w w.heap.size w2.heap.size (w.heap.size + 1) (eV x) (eV (natE 1)) (eV zE) w5 :=
      ⟨HW5.out.below (hst2.bel.alloc hst2.bel.size _) hst2.bel.size (by simp; have := hst2.bel.size; omega), HW5.out.blk (hst2.x.alloc _) (Nat.ne_of_lt hst2.x.lt), HB5.out, HW5.out.blk (hst2.z.alloc _) (Nat.ne_of_lt hst2.z.lt), hst2.lg, hst2.bel.size, hst2.lr, Nat.ne_of_lt hst2.x.lt, hst2.gr, Ne.symm (Nat.ne_of_lt hst2.z.lt)⟩
    have HST := Lib.hid hst3
    clear hst0 hst2 hst3 HB5 HW5 hb2
    generalize hL : (l.take 64).map UInt8.toNat = L at *
    generalize hg : w.heap.size = g at *
    generalize ho : w2.heap.size = o at *
    generalize hrr : g + 1 = r at *
    have HL := Lib.hid hL
    clear hL hmin1 hmin2
    have HHG := Lib.hid hg
    have HHR := Lib.hid hrr
    have HHO := Lib.hid ho
    clear hg ho hrr
    go_loopw [6] (fun i wr => ∃ j : Nat, j ≤ m ∧ i = .int .i64 ((m : Int) - 1 - (j : Int)) ∧ G3 w g o r (eV x) (eV (pwL x L j)) (eV zE) wr) (fun i _ => (intOf i + 1).toNat)
    case atStart => exact ⟨0, Nat.zero_le _, by go_num, HST.out⟩
    case round =>
      clear HST
      obtain ⟨j, hj, rfl, hst⟩ := hrel
      by_cases hlt : j < m
      · obtain ⟨p, hp⟩ : ∃ p, p + 1 + j = m := ⟨m - 1 - j, by omega⟩
        have hpi : (m : Int) - 1 - (j : Int) = (p : Int) := by omega
        rw [hpi]
        obtain ⟨cur, hcur⟩ : ∃ cur, cur = pwL x L j := ⟨_, rfl⟩
        rw [← hcur] at hst
        obtain ⟨b, hb⟩ : ∃ b, b = L.getD p 0 := ⟨_, rfl⟩
        have hst' : G3 w g o r (eV x) (eV (pwB x cur b 0)) (eV zE) wr := hst
        have hcok : cur.Ok := by rw [hcur]; exact pwL_ok HX.out L j
        have HST := Lib.hid hst'
        have HCUR := Lib.hid hcur
        have HCOK := Lib.hid hcok
        have HB := Lib.hid hb
        clear hst hst' hcur hcok hb hpi
        go_wp2_with fail
        obtain ⟨wo, rfl⟩ : ∃ x, x = wr := ⟨_, rfl⟩
        go_loopw [7] (fun c wr => ∃ k : Nat, k ≤ 8 ∧ c = .int .i64 (7 - (k : Int)) ∧ G3 w g o r (eV x) (eV (pwB x cur b k)) (eV zE) wr) (fun c _ => (intOf c + 1).toNat)
        case atStart => exact ⟨0, by omega, rfl, HST.out⟩
        case round =>
          clear HST
          obtain ⟨k, hk, rfl, hst⟩ := hrel
          by_cases hltk : k < 8
          · obtain ⟨q, hq⟩ : ∃ q, q + k = 7 := ⟨7 - k, by omega⟩
            have hqi : (7 : Int) - (k : Int) = (q : Int) := by omega
            have hq8 : (q : Int) < 8 := by omega
            have hbit : pwB x cur b (k + 1) = pwS x (pwB x cur b k) (b / 2 ^ q % 2) := by rw [pwB, show 7 - k = q by omega]
            obtain ⟨y, hy⟩ : ∃ y, y = pwB x cur b k := ⟨_, rfl⟩
            have hyok : y.Ok := by rw [hy]; exact pwB_ok HX.out HCOK.out b k
            rw [← hy] at hst hbit
            rw [hqi]
            have hpl : p < l.length := by have := HM.out; have := HN.out; omega
            have hp64 : p < 64 := by omega
            have hbel := hst.bel
            rw [HHG.out] at hbel
            have hrd := HR.out.below hbel
            obtain ⟨ad, rfl, hadl, hcell⟩ := hrd.at_ (k := p) (by rw [bytesV_length]; exact hpl)
            have hbv : (bytesV l)[p]'(by rw [bytesV_length]; exact hpl) = .int .u8 (b : Int) := by
              have e1 : b = l[p].toNat := by
                rw [HB.out, ← HL.out]
                simp [List.getD_eq_getElem?_getD, List.getElem?_take, hp64, hpl]
              rw [e1]
              simp [bytesV, byteV]
            have hb256 : b < 256 := by
              have e1 : b = l[p].toNat := by
                rw [HB.out, ← HL.out]
                simp [List.getD_eq_getElem?_getD, List.getElem?_take, hp64, hpl]
              rw [e1]; exact l[p].toNat_lt
            obtain ⟨bq, hbq⟩ : ∃ bq, bq = b / 2 ^ q := ⟨_, rfl⟩
            have hbqi : (b : Int) / 2 ^ q = (bq : Int) := by rw [hbq, shr_int]
            have hbql : bq < 256 := by rw [hbq]; exact Nat.lt_of_le_of_lt (Nat.div_le_self _ _) hb256
            rw [← hbq] at hbit
            have hand := and8_one bq hbql
            obtain ⟨c, hc⟩ : ∃ c, c = bq % 2 := ⟨_, rfl⟩
            rw [← hc] at hbit hand
            have hpn : (p : Int) < (n : Int) := by have := HN.out; omega
            have HCELL := Lib.hid (hcell.trans (congrArg some hbv))
            have HBIT := Lib.hid hbit
            have HAND := Lib.hid hand
            have HYOK := Lib.hid hyok
            have HBQI := Lib.hid hbqi
            have HQ := Lib.hid hq
            have HP := Lib.hid hp
            have HHB := Lib.hid hb256
            have hc2 : c < 2 := by rw [hc]; exact Nat.mod_lt _ (by decide)
            have HHC := Lib.hid hc2
            have HK := Lib.hid hk
            have HJ := Lib.hid hj
            have hm0 : (m : Int) ≤ (n : Int) := by have := HM.out; omega
            clear hrd hcell hbv hbit hand hyok hbqi hb256 hbel hbql hc hbq hc2 hy
            have hbv2 : (bytesV l)[p]'(by rw [bytesV_length]; exact hpl) = .int .u8 (b : Int) := by
              have e1 : b = l[p].toNat := by
                rw [HB.out, ← HL.out]
                simp [List.getD_eq_getElem?_getD, List.getElem?_take, hp64, hpl]
              rw [e1]
              simp [bytesV, byteV]
            have HST := Lib.hid hst
            have HBV := Lib.hid hbv2
            clear hst hbv2 HCELL
            rcases Nat.lt_or_ge c 1 with hc1 | hc1
            · have hcc : c = 0 := by omega
              rw [hcc] at HAND HBIT
              have hand2 : bits .and .u8 ((b : Int) / 2 ^ q) 1 = 0 := by rw [HBQI.out]; exact HAND.out
              go_wp2_with (refine wpList_get_box (x := .tmp 5) HST.out.y rfl rfl rfl hu rfl elem_size ?_)
              refine calls_then (mul_any y y _ HYOK.out HYOK.out) ?_
              rintro e w3 ⟨rfl, hb3⟩
              have hst3 := HST.out.next hb3
              clear HST
              go_wp2_with (refine wpList_put_box (x := .tmp 5) (cells := eV (mulE y y)) hst3.y rfl rfl rfl rfl elem_size rfl (by simp [eV, wV, limbs, Value.oneCell']) ?_; intro w6 hb6 hw6; have hst6 := hst3.putY hw6 hb6; have hcell6 := ((HR.out.below (show Below g w w6 by have h := hst6.bel; rw [HHG.out] at h; exact h)).atc (k := p) (by rw [bytesV_length]; exact hpl)).trans (congrArg some HBV.out); have HST6 := Lib.hid hst6; clear hst3 hst6 hb6 hw6)
              have hq1 : (q : Int) - 1 = 7 - ((k + 1 : Nat) : Int) := by have := HQ.out; omega
              refine ⟨⟨k + 1, by have := HK.out; have := HQ.out; omega, by rw [hq1], ?_⟩, by simp [intOf]⟩
              rw [HBIT.out]
              exact HST6.out
            · have hcc : c = 1 := by have := HHC.out; omega
              rw [hcc] at HAND HBIT
              have hand2 : bits .and .u8 ((b : Int) / 2 ^ q) 1 = 1 := by rw [HBQI.out]; exact HAND.out
              go_wp2_with (refine wpList_get_box (x := .tmp 5) HST.out.y rfl rfl rfl hu rfl elem_size ?_)
              refine calls_then (mul_any y y _ HYOK.out HYOK.out) ?_
              rintro e w3 ⟨rfl, hb3⟩
              have hst3 := HST.out.next hb3
              clear HST
              go_wp2_with (first
                | (refine wpList_put_box (x := .tmp 5) (cells := eV (mulE y y)) hst3.y rfl rfl rfl rfl elem_size rfl (by simp [eV, wV, limbs, Value.oneCell']) ?_; intro w6 hb6 hw6; have hst6 := hst3.putY hw6 hb6; have hcell6 := ((HR.out.below (show Below g w w6 by have h := hst6.bel; rw [HHG.out] at h; exact h)).atc (k := p) (by rw [bytesV_length]; exact hpl)).trans (congrArg some HBV.out); have HST6 := Lib.hid hst6; clear hst3 hst6 hb6 hw6)
                | (refine wpList_get_box (x := .tmp 5) HST6.out.y rfl rfl rfl hu rfl elem_size ?_)
                | (refine wpList_get_box (x := .tmp 2) HST6.out.x rfl rfl rfl hu rfl elem_size ?_))
              refine calls_then (mul_any (mulE y y) x _ (mul_ok HYOK.out HYOK.out) HX.out) ?_
              rintro e w7 ⟨rfl, hb7⟩
              have hst7 := HST6.out.next hb7
              go_wp2_with (refine wpList_put_box (x := .tmp 5) (cells := eV (mulE (mulE y y) x)) hst7.y rfl rfl rfl rfl elem_size rfl (by simp [eV, wV, limbs, Value.oneCell']) ?_; intro w8 hb8 hw8; have hst8 := hst7.putY hw8 hb8; have HST8 := Lib.hid hst8; clear hst7 hst8 hb8 hw8)
              have hq1 : (q : Int) - 1 = 7 - ((k + 1 : Nat) : Int) := by have := HQ.out; omega
              refine ⟨⟨k + 1, by have := HK.out; have := HQ.out; omega, by rw [hq1], ?_⟩, by simp [intOf]⟩
              rw [HBIT.out]
              exact HST8.out
          · obtain rfl : k = 8 := by omega
            have hend : pwB x cur b 8 = pwL x L (j + 1) := by
              have e1 : L.length = m := by rw [← HL.out, List.length_map, List.length_take, HM.out, HN.out]; omega
              rw [pwL, ← HCUR.out, HB.out, e1, show m - 1 - j = p by omega]
            rw [hend] at hst
            have HST := Lib.hid hst
            clear hst hend
            go_wp2_with fail
            exact ⟨⟨j + 1, by omega, by go_num, HST.out⟩, by simp [intOf]⟩
      · obtain rfl : j = m := by omega
        have hpi : (j : Int) - 1 - (j : Int) = -1 := by omega
        rw [hpi]
        have HST := Lib.hid hst
        clear hst
        go_wp2_with (first
          | (refine wpList_get_box (x := .tmp 5) HST.out.y rfl rfl rfl hu rfl elem_size ?_)
          | (refine wpList_put_box (x := .tmp 4) (cells := eV (pwL x L j)) HST.out.z rfl rfl rfl rfl elem_size rfl (by simp [eV, wV, limbs, Value.oneCell']) ?_; intro w6 hb6 hw6))
        refine bodyPost_ret (results_box (P := Try.prog) rfl rfl hb6 hu rfl elem_size) rfl ⟨rfl, ?_⟩
        exact hw6.below HST.out.bel HST.out.lr HST.out.bel.size
end Go.Proofs.Ytbeokfpbhemcfaa
/-
  Walk: the field's Inv.
-/
namespace Go.Proofs.Ytbeokfpbhemcfaa
set_option linter.unusedSimpArgs false
set_option linter.unusedVariables false
open Go.RowKit

structure I3 (w0 : World) (g r o : Nat) (x z : Array Value) (l : List Nat) (u : World) : Prop where
  bel : Below w0.heap.size w0 u
  x : Blk u g 26 x
  z : Blk u r 26 z
  out : Blk u o 5 (bnV l).toArray
  lg : w0.heap.size ≤ g
  lr : w0.heap.size ≤ r
  lo : w0.heap.size ≤ o
  go : g ≠ o
  ro : r ≠ o
theorem I3.put {w0 u u' : World} {g r o : Nat} {x z : Array Value} {l l' : List Nat} (k : I3 w0 g r o x z l u) (hw : Wrote o u u') (hb : Blk u' o 5 (bnV l').toArray) : I3 w0 g r o x z l' u' :=
  ⟨hw.below k.bel k.lo k.bel.size, hw.blk k.x k.go, hw.blk k.z k.ro, hb, k.lg, k.lr, k.lo, k.go, k.ro⟩
theorem I3.next {w0 u u' : World} {g r o : Nat} {x z : Array Value} {l : List Nat} (k : I3 w0 g r o x z l u) (hb : Below u.heap.size u u') : I3 w0 g r o x z l u' :=
  ⟨k.bel.trans (hb.mono k.bel.size), k.x.below hb k.x.lt, k.z.below hb k.z.lt, k.out.below hb k.out.lt, k.lg, k.lr, k.lo, k.go, k.ro⟩
theorem i3_new (w : World) (x z : Array Value) (l : List Nat) : I3 w w.heap.size (w.heap.size + 1) (w.heap.size + 1 + 1) x z l (((w.alloc (.cells x 26)).alloc (.cells z 26)).alloc (.cells (bnV l).toArray 5)) :=
  ⟨((below_new _ _).alloc (by simp) _).alloc (by simp; try omega) _, ((Blk.new _ _ _).alloc _).alloc _, (Blk.newAt (by simp)).alloc _, Blk.newAt (by simp), Nat.le_refl _, by omega, by omega, by omega, by omega⟩
def fillL (k : Nat) : List Nat := List.replicate k 255 ++ List.replicate (32 - k) 0
theorem fill_set : ∀ k, k < 32 → (fillL k).set k 255 = fillL (k + 1) := by decide
theorem fill_len : ∀ k, k < 33 → (fillL k).length = 32 := by decide
/-- the digits of p - 2 -/
def invL : List Nat := 235 :: (List.replicate 30 255 ++ [127])
theorem fill_end : ((fillL 32).set 0 235).set 31 127 = invL := by decide
def invB : List UInt8 := invL.map UInt8.ofNat
theorem invB_v : bytesV invB = bnV invL := by rfl
theorem invB_l : (invB.take 64).map UInt8.toNat = invL := by decide
theorem invB_len : invB.length = 32 := by decide
def invE (x : E5) : E5 := pwL x invL 32
set_option maxRecDepth 100000 in
set_option maxHeartbeats 2000000 in
theorem inv_any (x : E5) (hx : x.Ok) (w : World) : Calls Try.prog 37 #[.agg (eV x)] w (ElemPost (invE x) w) := by
  have hu := Try.underlying26
  have hmk : ∀ u : World, (Instr.makeSlice 22 (.int .i64 32) (.int .i64 32)).run Try.prog u = .ok (.slice (some ⟨u.heap.size, 0, none⟩) 32 32) (u.alloc (.cells (bnV (fillL 0)).toArray 5)) := fun _ => by kernel_rfl
  have HX := Lib.hid hx
  have hst0 := i3_new w (eV x) (eV zE) (fillL 0)
  have HST0 := Lib.hid hst0
  clear hx hst0
  go_enter Try.func37, Try.ntmps37
  go_wp2_with fail
  generalize ho : w.heap.size + 1 + 1 = o at *
  generalize hr : w.heap.size + 1 = r at *
  generalize hg : w.heap.size = g at *
  have HHO := Lib.hid ho
  have HHR := Lib.hid hr
  have HHG := Lib.hid hg
  clear ho hr hg
  go_loopw [8] (fun i wr => ∃ k : Nat, k ≤ 32 ∧ i = .int .i64 k ∧ I3 w g r o (eV x) (eV zE) (fillL k) wr) (fun i _ => 32 - (intOf i).toNat)
  case atStart => exact ⟨0, by omega, rfl, HST0.out⟩
  case round =>
    clear HST0
    obtain ⟨k, hk, rfl, hst⟩ := hrel
    by_cases hlt : k < 32
    · have hlt' : (k : Int) < 32 := by omega
      have HST := Lib.hid hst
      clear hst
      go_wp2_with (refine wpList_put_cell (x := .tmp 13) (i := k) (v := .int .u8 255) HST.out.out rfl rfl rfl rfl (by kernel_rfl) (by rw [List.size_toArray, bnV, List.length_map, fill_len k (by omega)]; exact hlt) rfl ?_; intro w5 hb5 hw5; have hst5 := HST.out.put (l' := fillL (k + 1)) hw5 (by rw [show (Value.int IntKind.u8 255) = .int .u8 ((255 : Nat) : Int) from rfl, bnV_set, fill_set k hlt] at hb5; exact hb5); have HST5 := Lib.hid hst5; clear hst5 hb5 hw5)
      exact ⟨⟨k + 1, by omega, by go_num, HST5.out⟩, by simp [intOf]; omega⟩
    · obtain rfl : k = 32 := by omega
      have HST := Lib.hid hst
      clear hst
      go_wp2_with (first
        | (refine wpList_put_cell (x := .tmp 17) (i := 0) (v := .int .u8 235) HST.out.out rfl rfl rfl rfl (by kernel_rfl) (by rw [List.size_toArray, bnV, List.length_map, fill_len 32 (by omega)]; decide) rfl ?_; intro w5 hb5 hw5; have hst5 := HST.out.put (l' := (fillL 32).set 0 235) hw5 (by rw [show (Value.int IntKind.u8 235) = .int .u8 ((235 : Nat) : Int) from rfl, bnV_set] at hb5; exact hb5); have HST5 := Lib.hid hst5; clear hst5 hb5 hw5)
        | (refine wpList_put_cell (x := .tmp 18) (i := 31) (v := .int .u8 127) HST5.out.out rfl rfl rfl rfl (by kernel_rfl) (by rw [List.size_toArray, bnV, List.length_map, List.length_set, fill_len 32 (by omega)]; decide) rfl ?_; intro w6 hb6 hw6; have hst6 := HST5.out.put (l' := invL) hw6 (by rw [show (Value.int IntKind.u8 127) = .int .u8 ((127 : Nat) : Int) from rfl, bnV_set, fill_end] at hb6; exact hb6); have HST6 := Lib.hid hst6; clear hst6 hb6 hw6)
        | (refine wpList_get_box (x := .tmp 1) HST6.out.x rfl rfl rfl hu rfl elem_size ?_))
      have hrd : Rd w6 w6.heap.size (some ⟨o, 0, none⟩) (bytesV invB) := by
        rw [invB_v]
        exact Rd.of_blk HST6.out.out HST6.out.out.lt
      have hp := pow_any x HX.out invB (some ⟨o, 0, none⟩) 32 w6 hrd (by rw [invB_len]; omega) (by rw [invB_len]; omega)
      rw [invB_l, invB_len] at hp
      refine calls_then hp ?_
      rintro e w7 ⟨rfl, hb7⟩
      have hst7 := HST6.out.next hb7
      have HST7 := Lib.hid hst7
      clear hst7
      rw [show min 32 64 = 32 from rfl]
      go_wp2_with (refine wpList_put_box (x := .tmp 2) (cells := eV (pwL x invL 32)) HST7.out.z rfl rfl rfl rfl elem_size rfl (by simp [eV, wV, limbs, Value.oneCell']) ?_; intro w8 hb8 hw8)
      refine bodyPost_ret (results_box (P := Try.prog) rfl rfl hb8 hu rfl elem_size) rfl ⟨rfl, ?_⟩
      exact hw8.below HST7.out.bel HST7.out.lr HST7.out.bel.size
end Go.Proofs.Ytbeokfpbhemcfaa
/-
  Plain: an element of 32 bytes.
-/
namespace Go.Proofs.Ytbeokfpbhemcfaa
set_option linter.unusedSimpArgs false
set_option linter.unusedVariables false
open Go.RowKit

def digs (l : List UInt8) : List Nat := l.map UInt8.toNat
theorem digs_lt (l : List UInt8) : ∀ d ∈ digs l, d < 256 := fun d h => by
  obtain ⟨b, _, rfl⟩ := List.mem_map.1 h
  exact b.toNat_lt
theorem leV_lt : ∀ (l : List Nat), (∀ d ∈ l, d < 256) → leV l < 256 ^ l.length
  | [], _ => by decide
  | d :: r, h => by
    have h1 := leV_lt r fun x hx => h x (List.mem_cons_of_mem _ hx)
    have h2 := h d List.mem_cons_self
    rw [leV, List.length_cons, Nat.pow_succ]
    omega
theorem leV_at : ∀ (l : List Nat), (∀ d ∈ l, d < 256) → ∀ j, leV l / 256 ^ j % 256 = l.getD j 0
  | [], _, j => by rw [leV, Nat.zero_div]; rfl
  | d :: r, h, 0 => by
    have h2 := h d List.mem_cons_self
    rw [leV, Nat.pow_zero, Nat.div_one, List.getD_cons_zero]
    omega
  | d :: r, h, j + 1 => by
    have h1 := leV_at r (fun x hx => h x (List.mem_cons_of_mem _ hx)) j
    have h2 := h d List.mem_cons_self
    rw [leV, Nat.pow_succ, Nat.mul_comm (256 ^ j), ← Nat.div_div_eq_div_mul, show (d + 256 * leV r) / 256 = leV r by omega, h1, List.getD_cons_succ]
theorem leV_replicate (n : Nat) : leV (List.replicate n 0) = 0 := by
  induction n with
  | zero => rfl
  | succ n ih => rw [List.replicate_succ, leV, ih]
theorem leV_append : ∀ (l r : List Nat), leV (l ++ r) = leV l + 256 ^ l.length * leV r
  | [], r => by simp [leV]
  | d :: l, r => by
    rw [List.cons_append, leV, leV_append l r, leV, List.length_cons, Nat.pow_succ]
    grind
/-- 32 bytes are those of their number -/
theorem byN_leV (l : List Nat) (h : ∀ d ∈ l, d < 256) (hl : l.length = 32) : byN (leV l) = l := by
  apply List.ext_getElem?
  intro j
  by_cases hj : j < 32
  · rw [byN_at _ _ hj, leV_at l h j, List.getD_eq_getElem?_getD, List.getElem?_eq_getElem (by omega)]
    rfl
  · rw [List.getElem?_eq_none (by rw [byN_length]; omega), List.getElem?_eq_none (by omega)]
theorem byN_lt (N : Nat) : ∀ d ∈ byN N, d < 256 := fun d h => by
  obtain ⟨j, _, rfl⟩ := List.mem_map.1 h
  exact Nat.mod_lt _ (by decide)
theorem leV_ext : ∀ (l r : List Nat), l.length = r.length → (∀ d ∈ l, d < 256) → (∀ d ∈ r, d < 256) → leV l = leV r → l = r
  | [], [], _, _, _, _ => rfl
  | [], _ :: _, h, _, _, _ => by simp at h
  | _ :: _, [], h, _, _, _ => by simp at h
  | c :: l, d :: r, h, h1, h2, e => by
    have a1 := h1 c List.mem_cons_self
    have a2 := h2 d List.mem_cons_self
    rw [leV, leV] at e
    rw [leV_ext l r (by simpa using h) (fun x hx => h1 x (List.mem_cons_of_mem _ hx)) (fun x hx => h2 x (List.mem_cons_of_mem _ hx)) (by omega), show c = d by omega]
theorem leV_mod : ∀ (n N : Nat), leV ((List.range n).map fun j => N / 256 ^ j % 256) = N % 256 ^ n
  | 0, N => by rw [Nat.pow_zero, Nat.mod_one]; rfl
  | n + 1, N => by
    rw [List.range_succ_eq_map, List.map_cons, List.map_map, leV]
    have e : ((fun j => N / 256 ^ j % 256) ∘ Nat.succ) = fun j => N / 256 / 256 ^ j % 256 := by
      funext j
      show N / 256 ^ (j + 1) % 256 = _
      rw [Nat.pow_succ, Nat.mul_comm, ← Nat.div_div_eq_div_mul]
    rw [e, leV_mod n (N / 256), Nat.pow_zero, Nat.div_one, Nat.pow_succ, Nat.mul_comm (256 ^ n), Nat.mod_mul]
theorem leV_byN (N : Nat) (h : N < 256 ^ 32) : leV (byN N) = N := by
  rw [byN, leV_mod, Nat.mod_eq_of_lt h]
theorem byN_inj {N M : Nat} (h : N < 256 ^ 32) (h2 : M < 256 ^ 32) (e : byN N = byN M) : N = M := by
  rw [← leV_byN N h, ← leV_byN M h2, e]
def byB (N : Nat) : List UInt8 := (byN N).map UInt8.ofNat
theorem digs_ofNat (l : List Nat) (h : ∀ d ∈ l, d < 256) : digs (l.map UInt8.ofNat) = l := by
  rw [digs, List.map_map]
  conv => rhs; rw [← List.map_id l]
  apply List.map_congr_left
  intro d hd
  show (UInt8.ofNat d).toNat = d
  rw [UInt8.toNat_ofNat']
  exact Nat.mod_eq_of_lt (h d hd)
theorem digs_byB (N : Nat) : digs (byB N) = byN N := digs_ofNat _ (byN_lt N)
theorem bnV_digs (l : List UInt8) : bnV (digs l) = bytesV l := by
  rw [bnV, digs, List.map_map]; rfl
theorem bnV_byB (N : Nat) : bnV (byN N) = bytesV (byB N) := by rw [← bnV_digs, digs_byB]
theorem byB_length (N : Nat) : (byB N).length = 32 := by rw [byB, List.length_map, byN_length]
theorem digs_inj {l r : List UInt8} (h : digs l = digs r) : l = r := by
  have e : ∀ l : List UInt8, (digs l).map UInt8.ofNat = l := fun l => by
    rw [digs, List.map_map]
    conv => rhs; rw [← List.map_id l]
    exact List.map_congr_left fun b _ => by simp
  rw [← e l, ← e r, h]
theorem byB_digs (l : List UInt8) (h : l.length = 32) : byB (leV (digs l)) = l := by
  apply digs_inj
  rw [digs_byB, byN_leV _ (digs_lt l) (by rw [digs, List.length_map, h])]
/-- the five limbs of a number -/
def ofN (N : Nat) : E5 := ⟨N % 2251799813685248, N / 2 ^ 51 % 2251799813685248, N / 2 ^ 102 % 2251799813685248, N / 2 ^ 153 % 2251799813685248, N / 2 ^ 204 % 2251799813685248⟩
theorem ofN_at (N k : Nat) (h : k < 5) : (limbs (ofN N)).getD k 0 = N / 2 ^ (51 * k) % 2251799813685248 := by
  match k, h with
  | 0, _ => show N % 2251799813685248 = _; rw [Nat.mul_zero, Nat.pow_zero, Nat.div_one]
  | 1, _ => rfl
  | 2, _ => rfl
  | 3, _ => rfl
  | 4, _ => rfl
theorem ofN_lt (N : Nat) : (ofN N).Lt 2251799813685248 := by
  constructor <;> exact Nat.mod_lt _ (by decide)
theorem ofN_ok (N : Nat) : (ofN N).Ok := (ofN_lt N).mono (by decide)
theorem ofN_val (N : Nat) : (ofN N).val = N % 2 ^ 255 := by
  simp only [ofN, E5.val]
  rw [show (2 : Nat) ^ 51 = 2251799813685248 by decide, show (2 : Nat) ^ 102 = 5070602400912917605986812821504 by decide, show (2 : Nat) ^ 153 = 11417981541647679048466287755595961091061972992 by decide, show (2 : Nat) ^ 204 = 25711008708143844408671393477458601640355247900524685364822016 by decide, show (2 : Nat) ^ 255 = 57896044618658097711785492504343953926634992332820282019728792003956564819968 by decide]
  omega
/-- what lies behind so many bytes -/
def winN (N q k : Nat) : Nat := N / 256 ^ q % 256 ^ k
theorem win_zero (N q : Nat) : winN N q 0 = 0 := by rw [winN, Nat.pow_zero, Nat.mod_one]
theorem win_lt (N q k : Nat) (h : k ≤ 8) : winN N q k < 18446744073709551616 := by
  have h1 : winN N q k < 256 ^ k := Nat.mod_lt _ (Nat.pow_pos (by decide))
  have h2 : 256 ^ k ≤ 256 ^ 8 := Nat.pow_le_pow_right (by decide) h
  exact Nat.lt_of_lt_of_le h1 h2
theorem win_step (N q k : Nat) : winN N q k ||| N / 256 ^ (q + k) % 256 * 2 ^ (8 * k) = winN N q (k + 1) := by
  have h1 : winN N q k < 2 ^ (8 * k) := by rw [← pow256]; exact Nat.mod_lt _ (Nat.pow_pos (by decide))
  have h := Nat.shiftLeft_add_eq_or_of_lt h1 (N / 256 ^ (q + k) % 256)
  rw [Nat.shiftLeft_eq] at h
  rw [Nat.or_comm, ← h, winN, winN, Nat.pow_succ, Nat.mod_mul, Nat.pow_add, ← Nat.div_div_eq_div_mul, ← pow256, Nat.mul_comm, Nat.add_comm]
theorem win_over (N q k : Nat) (hN : N < 256 ^ 32) (h : 32 ≤ q + k) : winN N q (k + 1) = winN N q k := by
  rw [← win_step]
  have e : N / 256 ^ (q + k) = 0 := Nat.div_eq_of_lt (Nat.lt_of_lt_of_le hN (Nat.pow_le_pow_right (by decide) h))
  rw [e, Nat.zero_mod, Nat.zero_mul, Nat.or_zero]
theorem win_limb (N n : Nat) : winN N (n / 8) 8 / 2 ^ (n % 8) % 2251799813685248 = N / 2 ^ n % 2251799813685248 := by
  obtain ⟨q, r, hr, rfl⟩ : ∃ q r, r < 8 ∧ n = 8 * q + r := ⟨n / 8, n % 8, by omega, by omega⟩
  rw [show (8 * q + r) / 8 = q by omega, show (8 * q + r) % 8 = r by omega, winN, pow256, pow256, Nat.pow_add, ← Nat.div_div_eq_div_mul]
  obtain ⟨M, hM⟩ : ∃ M, M = N / 2 ^ (8 * q) := ⟨_, rfl⟩
  obtain ⟨d, hd⟩ : ∃ d, 8 * 8 = r + (51 + d) := ⟨13 - r, by omega⟩
  rw [← hM, hd, Nat.pow_add, Nat.mod_mul_right_div_self, show (2251799813685248 : Nat) = 2 ^ 51 from rfl, Nat.pow_add, Nat.mod_mul_right_mod]
/-- are 32 bytes those of an element? -/
def mayR (l : List UInt8) : Bool := decide (l.length = 32 ∧ leV (digs l) < PN)
def readE (l : List UInt8) : E5 := if mayR l then ofN (leV (digs l)) else zE
def readF (l : List UInt8) : Int := if mayR l then 0 else 2
theorem read_same (l : List UInt8) (h : l.length = 32) : (byB (leastE (ofN (leV (digs l)))).val = l) = (leV (digs l) < PN) := by
  have hN := leV_lt (digs l) (digs_lt l)
  rw [show (digs l).length = 32 by rw [digs, List.length_map, h]] at hN
  have hv : (leastE (ofN (leV (digs l)))).val = leV (digs l) % 2 ^ 255 % PN := by
    rw [least_val ((ofN_lt _).mono (by decide)), ofN_val]
  rw [hv]
  have hP : PN < 2 ^ 255 := by decide
  have hP0 : 0 < PN := by decide
  have hP2 : PN < 256 ^ 32 := by decide
  apply propext
  constructor
  · intro h1
    have h2 := congrArg (fun x => leV (digs x)) h1
    have hlt : leV (digs l) % 2 ^ 255 % PN < PN := Nat.mod_lt _ hP0
    rw [digs_byB, leV_byN _ (Nat.lt_trans hlt hP2)] at h2
    rw [← h2]; exact hlt
  · intro h1
    rw [Nat.mod_eq_of_lt (Nat.lt_trans h1 hP), Nat.mod_eq_of_lt h1, byB_digs l h]
end Go.Proofs.Ytbeokfpbhemcfaa
/-
  Walk: the field's Read.
-/
namespace Go.Proofs.Ytbeokfpbhemcfaa
set_option linter.unusedSimpArgs false
set_option linter.unusedVariables false
open Go.RowKit

def ReadPost (l : List UInt8) (w : World) (e : Ending) (w' : World) : Prop := e = .returned (.tuple #[.agg (eV (readE l)), .int .i64 (readF l)]) ∧ Below w.heap.size w w'
set_option maxRecDepth 100000 in
set_option maxHeartbeats 2000000 in
theorem read_any (l : List UInt8) (A : Option Addr) (c : Nat) (w : World) (hr : Rd w w.heap.size A (bytesV l)) (hc : l.length ≤ c) (hl : l.length ≤ 1000000) :
    Calls Try.prog 52 #[.slice A l.length c] w (ReadPost l w) := by
  have hu := Try.underlying26
  by_cases h32 : l.length = 32
  · obtain ⟨N, hN⟩ : ∃ N, N = leV (digs l) := ⟨_, rfl⟩
    have hNl : N < 256 ^ 32 := by
      have h := leV_lt (digs l) (digs_lt l)
      rw [show (digs l).length = 32 by rw [digs, List.length_map, h32]] at h
      rw [hN]; exact h
    have hst0 : G2 w (w.heap.size + 1) w.heap.size (mixV (ofN N) zE 0) (eV zE) ((w.alloc (.cells (eV zE) 26)).alloc (.cells (eV zE) 26)) :=
      ⟨(below_new _ _).alloc (by simp) _, Blk.newAt (by simp), (Blk.new _ _ _).alloc _, by omega, Nat.le_refl _, by omega⟩
    rw [h32]
    have HST0 := Lib.hid hst0
    have HR := Lib.hid hr
    have HL := Lib.hid h32
    have HN := Lib.hid hN
    have HNL := Lib.hid hNl
    clear hst0 hr hc hl h32 hN hNl
    go_enter Try.func52, Try.ntmps52
    go_wp2_with fail
    generalize ho : w.heap.size + 1 = o at *
    generalize hg : w.heap.size = g at *
    have HHO := Lib.hid ho
    have HHG := Lib.hid hg
    clear ho hg
    go_loopw [13] (fun i wr => ∃ k : Nat, k ≤ 5 ∧ i = .int .i64 k ∧ G2 w o g (mixV (ofN N) zE k) (eV zE) wr) (fun i _ => 5 - (intOf i).toNat)
    case atStart => exact ⟨0, by omega, rfl, HST0.out⟩
    case round =>
      clear HST0
      obtain ⟨i, hi, rfl, hst⟩ := hrel
      by_cases hlt : i < 5
      · have hlt' : (i : Int) < 5 := by omega
        obtain ⟨n, hn⟩ : ∃ n, n = i * 51 := ⟨_, rfl⟩
        have hni : (i : Int) * 51 = (n : Int) := by omega
        obtain ⟨q, hq⟩ : ∃ q, q = n / 8 := ⟨_, rfl⟩
        have hqi : (n : Int) / 8 = (q : Int) := by omega
        have hq25 : q ≤ 25 := by omega
        have HST := Lib.hid hst
        have HNN := Lib.hid hn
        have HQ := Lib.hid hq
        clear hst hn hq
        go_wp2_with fail
        obtain ⟨wo, rfl⟩ : ∃ x, x = wr := ⟨_, rfl⟩
        go_loopw [7, 18] (fun v c wr => ∃ k : Nat, k ≤ 8 ∧ c = .int .i64 k ∧ v = .int .u64 (winN N q k : Nat) ∧ G2 w o g (mixV (ofN N) zE i) (eV zE) wr) (fun _ c _ => 8 - (intOf c).toNat)
        case atStart => exact ⟨0, by omega, rfl, by rw [win_zero]; rfl, HST.out⟩
        case round =>
          clear HST
          obtain ⟨k, hk, rfl, rfl, hst⟩ := hrel
          by_cases hltk : k < 8
          · have hltk' : (k : Int) < 8 := by omega
            obtain ⟨p, hp⟩ : ∃ p, p = q + k := ⟨_, rfl⟩
            have hpi : (q : Int) + (k : Int) = (p : Int) := by omega
            by_cases hp32 : p < 32
            · have hp32' : (p : Int) < 32 := by omega
              obtain ⟨b, hb⟩ : ∃ b, b = N / 256 ^ p % 256 := ⟨_, rfl⟩
              have hbl : b < 256 := by rw [hb]; exact Nat.mod_lt _ (by decide)
              have hbl' : (b : Int) < 256 := by omega
              have hpl : p < l.length := by rw [HL.out]; exact hp32
              have hbv : (bytesV l)[p]'(by rw [bytesV_length]; exact hpl) = .int .u8 (b : Int) := by
                have e1 : b = l[p].toNat := by
                  rw [hb, HN.out, leV_at _ (digs_lt l), digs, List.getD_eq_getElem?_getD, List.getElem?_map, List.getElem?_eq_getElem hpl]
                  rfl
                rw [e1]
                simp [bytesV, byteV]
              have hbel := hst.bel
              rw [HHG.out] at hbel
              have hrd := HR.out.below hbel
              obtain ⟨ad, rfl, hadl, hcell⟩ := hrd.at_ (k := p) (by rw [bytesV_length]; exact hpl)
              rw [hbv] at hcell
              obtain ⟨e, he⟩ : ∃ e, e = 8 * k := ⟨_, rfl⟩
              have hei : (8 : Int) * (k : Int) = (e : Int) := by omega
              have he64 : (e : Int) < 64 := by omega
              have hstep := win_step N q k
              rw [← hp, ← hb, ← he] at hstep
              have hyl := win_lt N q k (by omega)
              obtain ⟨y, hy⟩ : ∃ y, y = winN N q k := ⟨_, rfl⟩
              rw [← hy] at hstep hyl
              rw [← hy]
              obtain ⟨s, hs⟩ : ∃ s, s = b * 2 ^ e := ⟨_, rfl⟩
              rw [← hs] at hstep
              have hsl : s < 18446744073709551616 := by
                have e1 : 2 ^ e ≤ 2 ^ 56 := Nat.pow_le_pow_right (by decide) (by omega)
                have e2 : b * 2 ^ e ≤ 255 * 2 ^ 56 := Nat.mul_le_mul (by omega) e1
                rw [hs]; exact Nat.lt_of_le_of_lt e2 (by decide)
              have hsi : (b : Int) * 2 ^ e % 18446744073709551616 = (s : Int) := by rw [shl_int, ← hs]; omega
              have hor := or64 y s hyl hsl
              rw [hstep] at hor
              have HST := Lib.hid hst
              have HSI := Lib.hid hsi
              have HOR := Lib.hid hor
              clear hst hp hy hs hsl hyl hstep hb hbl hbv hbel hrd he hpl hsi hor
              go_wp2_with fail
              have hw1 : IntKind.u64.wrap ((b : Int) * 2 ^ e) = (s : Int) := by rw [IntKind.wrap_u64]; exact HSI.out
              rw [hw1, HOR.out]
              exact ⟨⟨k + 1, by omega, by go_num, rfl, HST.out⟩, by simp [intOf]; omega⟩
            · have hp32' : ¬ (p : Int) < 32 := by omega
              have hw := win_over N q k HNL.out (by omega)
              rw [← hw]
              have HST := Lib.hid hst
              clear hst hw hp
              go_wp2_with fail
              exact ⟨⟨k + 1, by omega, by go_num, rfl, HST.out⟩, by simp [intOf]; omega⟩
          · obtain rfl : k = 8 := by omega
            obtain ⟨r, hr⟩ : ∃ r, r = n % 8 := ⟨_, rfl⟩
            have hri : (n : Int) % 8 = (r : Int) := by omega
            have hr8 : (r : Int) < 8 := by omega
            have hlimb := win_limb N n
            rw [← HQ.out, ← hr] at hlimb
            have hat := ofN_at N i hlt
            rw [Nat.mul_comm 51, ← HNN.out, ← hlimb] at hat
            have hvl := win_lt N q 8 (by omega)
            obtain ⟨v, hv⟩ : ∃ v, v = winN N q 8 / 2 ^ r := ⟨_, rfl⟩
            have hvi : ((winN N q 8 : Nat) : Int) / 2 ^ r = (v : Int) := by rw [shr_int, hv]
            rw [← hv] at hat
            have hvl2 : v < 18446744073709551616 := by rw [hv]; exact Nat.lt_of_le_of_lt (Nat.div_le_self _ _) hvl
            have hmk := mask51 v hvl2
            have hset := mixV_set (ofN N) zE i hlt
            rw [hat, ← hmk] at hset
            have HSET := Lib.hid hset
            have HVI := Lib.hid hvi
            have d0 := hst.x.cell i
            rw [mixV_at _ _ _ hlt] at d0
            have f0 := hst.x.free i
            have HST := Lib.hid hst
            clear hset hst hmk hvl2 hvl hv hat hlimb hr hvi
            go_wp2_with fail
            refine ⟨⟨i + 1, by omega, by go_num, HST.out.putX (wrote_setCell_at _ _ _ _) ?_⟩, by simp [intOf]; omega⟩
            rw [HVI.out]
            have h := blk_setCell_at (i := i) HST.out.x (.int .u64 (bits .and .u64 (v : Int) 2251799813685247))
            rw [HSET.out] at h
            exact h
      · obtain rfl : i = 5 := by omega
        rw [mixV_end] at hst
        have HST := Lib.hid hst
        clear hst
        go_wp2_with fail
        obtain ⟨X, hX⟩ : ∃ X, X = ofN N := ⟨_, rfl⟩
        have hXl : X.Lt 18446744073709551616 := by rw [hX]; exact (ofN_lt N).mono (by decide)
        obtain ⟨M, hM⟩ : ∃ M, M = (leastE X).val := ⟨_, rfl⟩
        have hsame : (byB M = l) = (N < PN) := by rw [hM, hX, HN.out]; exact read_same l HL.out
        have hmay : mayR l = decide (byB M = l) := by
          rw [mayR, Bool.eq_iff_iff, decide_eq_true_iff, decide_eq_true_iff, hsame, ← HN.out]
          exact ⟨fun h => h.2, fun h => ⟨HL.out, h⟩⟩
        rw [← hX] at HST
        have HXL := Lib.hid hXl
        have HM := Lib.hid hM
        have HC0 := HST.out.drew
        have HX := Lib.hid hX
        have HMAY := Lib.hid hmay
        clear hX hXl hM hmay hsame HST
        by_cases heq : byB M = l
        · have HEQ := Lib.hid heq
          clear heq
          refine wp_region_list (fun u => G2 w o g (eV X) (eV zE) u) (fun | false => (fun _ => True) | true => (fun _ => True)) (fun | false, _ => false | true, _ => false)
            [fun z _ => z 0 = .agg (eV X),
             fun z u => ∃ o2, z 1 = .slice (some ⟨o2, 0, none⟩) 32 32 ∧ Blk u o2 5 (bnV (byN M)).toArray,
             fun z _ => z 2 = .string ⟨l.toArray⟩,
             fun z _ => z 3 = .slice A 32 c,
             fun z _ => z 4 = .string ⟨l.toArray⟩,
             fun z _ => z 5 = .bool false]
            [Eq, fun u u' => Below u.heap.size u u', Eq, Eq, Eq, Eq]
            (fun _ _ => false) [(0, some 49), (1, some 50), (2, some 51), (3, some 52), (4, some 53), (5, some 54)] (by kernel_rfl) (by kernel_rfl) rfl (fun _ => rfl) ?_ ?_ ?_ ?_ ?_ ?_
          · exact HC0
          · intro m; cases m; exact trivial; exact trivial
          · intro m; cases m
            · exact ⟨.inr (fun _ _ h h0 => h ▸ h0), .inr (fun _ _ _ h => h), .inr (fun _ _ h h0 => h ▸ h0), .inr (fun _ _ h h0 => h ▸ h0), .inr (fun _ _ h h0 => h ▸ h0), .inr (fun _ _ h h0 => h ▸ h0), trivial⟩
            · exact ⟨.inr (fun _ _ h h0 => h ▸ h0), .inr (fun _ _ _ h => h), .inr (fun _ _ h h0 => h ▸ h0), .inr (fun _ _ h h0 => h ▸ h0), .inr (fun _ _ h h0 => h ▸ h0), .inr (fun _ _ h h0 => h ▸ h0), trivial⟩
          · exact ⟨⟨.inl rfl, .inr (.inr (.inl rfl)), .inr (.inr (.inl rfl)), .inr (.inr (.inr (fun _ _ _ _ _ h => h))), .inr (.inr (.inr (fun _ _ _ _ _ h => h))), .inr (.inr (.inl rfl)), trivial⟩,
              ⟨.inr (.inr (.inr (fun _ _ _ _ _ h => h))), .inl rfl, .inr (.inr (.inl rfl)), .inr (.inr (.inr (fun _ _ _ _ _ h => h))), .inr (.inr (.inr (fun _ _ _ _ _ h => h))), .inr (.inr (.inl rfl)), trivial⟩,
              ⟨.inr (.inr (.inr (fun _ _ _ _ _ h => h))), .inr (.inr (.inr (fun _ _ _ _ h h0 => by cases h; exact h0))), .inl rfl, .inr (.inr (.inr (fun _ _ _ _ _ h => h))), .inr (.inr (.inr (fun _ _ _ _ _ h => h))), .inr (.inr (.inl rfl)), trivial⟩,
              ⟨.inr (.inr (.inr (fun _ _ _ _ _ h => h))), .inr (.inr (.inr (fun _ _ _ _ h h0 => by cases h; exact h0))), .inr (.inr (.inr (fun _ _ _ _ _ h => h))), .inl rfl, .inr (.inr (.inl rfl)), .inr (.inr (.inl rfl)), trivial⟩,
              ⟨.inr (.inr (.inr (fun _ _ _ _ _ h => h))), .inr (.inr (.inr (fun _ _ _ _ h h0 => by cases h; exact h0))), .inr (.inr (.inr (fun _ _ _ _ _ h => h))), .inr (.inr (.inr (fun _ _ _ _ _ h => h))), .inl rfl, .inr (.inr (.inl rfl)), trivial⟩,
              ⟨.inr (.inr (.inr (fun _ _ _ _ _ h => h))), .inr (.inr (.inr (fun _ _ _ _ h h0 => by cases h; exact h0))), .inr (.inr (.inr (fun _ _ _ _ _ h => h))), .inr (.inr (.inr (fun _ _ _ _ _ h => h))), .inr (.inr (.inr (fun _ _ _ _ _ h => h))), .inl rfl, trivial⟩, trivial⟩
          · refine ⟨?_, ?_, ?_, ?_, ?_, ?_, trivial⟩
            · -- 0: Op.load 26 (Operand.tmp 4)
              refine step_plain [] (fun _ => rfl) rfl ?_
              intro w1 vals hC1 hi0 hf E hE
              clear hi0
              clear hf
              simp only [puts, act_put, act_put_none, List.setIfInBounds_toArray, List.set_cons_zero, List.set_cons_succ] at hE ⊢
              refine wpList_get_box hC1.x rfl rfl rfl hu rfl elem_size ?_
              go_wp2_with fail
              exact .mk (hE _ _ rfl hC1 rfl)
            · -- 1: Op.call { callee := Callee.value (Operand.func 39), args := #[Operand.tmp 49], argTypes := #[26] }
              refine step_plain [(0, some 49)] (fun _ => rfl) rfl ?_
              intro w1 vals hC1 hi0 hf E hE
              clear hi0
              have f0 : vals 0 = .agg (eV X) := hf 0 rfl
              try dsimp only at f0
              clear hf
              simp only [puts, act_put, act_put_none, List.setIfInBounds_toArray, List.set_cons_zero, List.set_cons_succ, f0] at hE ⊢
              clear f0
              go_wp2_with fail
              refine calls_then (bytes_any X _ HXL.out) ?_
              rintro e w2 ⟨o2, rfl, hlo, hblk, hb2⟩
              rw [← HM.out] at hblk
              go_wp2_with fail
              exact .mk (hE _ _ ⟨o2, rfl, hblk⟩ (hC1.next hb2) hb2)
            · -- 2: Op.convert 22 9 (Operand.tmp 50)
              refine step_plain [(1, some 50)] (fun _ => rfl) rfl ?_
              intro w1 vals hC1 hi0 hf E hE
              clear hi0
              have f1 : (fun z u => ∃ o2, z 1 = .slice (some ⟨o2, 0, none⟩) 32 32 ∧ Blk u o2 5 (bnV (byN M)).toArray) vals w1 := hf 1 rfl
              try dsimp only at f1
              clear hf
              obtain ⟨o2, hx, hblk⟩ := f1
              simp only [puts, act_put, act_put_none, List.setIfInBounds_toArray, List.set_cons_zero, List.set_cons_succ, hx] at hE ⊢
              clear hx
              rw [bnV_byB] at hblk
              refine wpList_str_of (l := byB M) (Rd.of_blk hblk hblk.lt) Try.underlying22 Try.underlying5 Try.underlying9 rfl rfl (by rw [byB_length]; rfl) ?_
              rw [HEQ.out]
              go_wp2_with fail
              exact .mk (hE _ _ rfl hC1 rfl)
            · -- 3: Op.move (Operand.tmp 0)
              refine step_plain [] (fun _ => rfl) rfl ?_
              intro w1 vals hC1 hi0 hf E hE
              clear hi0
              clear hf
              simp only [puts, act_put, act_put_none, List.setIfInBounds_toArray, List.set_cons_zero, List.set_cons_succ] at hE ⊢
              go_wp2
              exact .mk (hE _ _ rfl hC1 rfl)
            · -- 4: Op.convert 22 9 (Operand.tmp 52)
              refine step_plain [(3, some 52)] (fun _ => rfl) rfl ?_
              intro w1 vals hC1 hi0 hf E hE
              clear hi0
              have f3 : vals 3 = .slice A 32 c := hf 3 rfl
              try dsimp only at f3
              clear hf
              have hbel := hC1.bel
              rw [HHG.out] at hbel
              simp only [puts, act_put, act_put_none, List.setIfInBounds_toArray, List.set_cons_zero, List.set_cons_succ, f3] at hE ⊢
              clear f3
              refine wpList_str_of (l := l) (HR.out.below hbel) Try.underlying22 Try.underlying5 Try.underlying9 rfl rfl (by rw [HL.out]; rfl) ?_
              go_wp2_with fail
              exact .mk (hE _ _ rfl hC1 rfl)
            · -- 5: Op.binOp BinOp.neq 9 (Operand.tmp 51) (Operand.tmp 53) 9
              refine step_plain [(2, some 51), (4, some 53)] (fun _ => rfl) rfl ?_
              intro w1 vals hC1 hi0 hf E hE
              clear hi0
              have f2 : vals 2 = .string ⟨l.toArray⟩ := hf 2 rfl
              have f4 : vals 4 = .string ⟨l.toArray⟩ := hf 4 rfl
              try dsimp only at f2 f4
              clear hf
              simp only [puts, act_put, act_put_none, List.setIfInBounds_toArray, List.set_cons_zero, List.set_cons_succ, f2, f4] at hE ⊢
              clear f2 f4
              go_wp2
              exact .mk (hE _ _ rfl hC1 rfl)
          intro w1 vals hC1 hf
          have f0 : vals 0 = .agg (eV X) := hf 0 (by decide) rfl
          have f1 : (fun z u => ∃ o2, z 1 = .slice (some ⟨o2, 0, none⟩) 32 32 ∧ Blk u o2 5 (bnV (byN M)).toArray) vals w1 := hf 1 (by decide) rfl
          have f2 : vals 2 = .string ⟨l.toArray⟩ := hf 2 (by decide) rfl
          have f3 : vals 3 = .slice A 32 c := hf 3 (by decide) rfl
          have f4 : vals 4 = .string ⟨l.toArray⟩ := hf 4 (by decide) rfl
          have f5 : vals 5 = .bool false := hf 5 (by decide) rfl
          try dsimp only at f0 f1 f2 f3 f4 f5
          clear hf
          simp only [puts, act_put, act_put_none, List.setIfInBounds_toArray, List.set_cons_zero, List.set_cons_succ, f0, f2, f3, f4, f5]
          clear f0 f2 f3 f4 f5
          generalize vals 1 = x1 at *
          clear HC0 f1
          have HC1 := Lib.hid hC1
          clear hC1
          have hok : mayR l = true := by rw [HMAY.out]; exact decide_eq_true HEQ.out
          have hE1 : readE l = X := by rw [readE, if_pos hok, HX.out, HN.out]
          have hF1 : readF l = 0 := by rw [readF, if_pos hok]
          have HE1 := Lib.hid hE1
          have HF1 := Lib.hid hF1
          clear hok hE1 hF1
          go_wp2_with (first
            | (refine wpList_get_box (x := .tmp 4) HC1.out.x rfl rfl rfl hu rfl elem_size ?_)
            | (refine wpList_put_box (x := .tmp 2) (cells := eV X) HC1.out.z rfl rfl rfl rfl elem_size rfl (by simp [eV, wV, limbs, Value.oneCell']) ?_; intro w5 hb5 hw5; have HB5 := Lib.hid hb5; have HW5 := Lib.hid hw5; clear hb5 hw5))
          refine bodyPost_ret (results_box_tmp (P := Try.prog) rfl rfl HB5.out hu rfl elem_size) rfl ⟨by rw [HE1.out, HF1.out]; rfl, ?_⟩
          exact HW5.out.below HC1.out.bel HC1.out.lr HC1.out.bel.size
        · have HEQ := Lib.hid heq
          clear heq
          refine wp_region_list (fun u => G2 w o g (eV X) (eV zE) u) (fun | false => (fun _ => True) | true => (fun _ => True)) (fun | false, _ => false | true, _ => false)
            [fun z _ => z 0 = .agg (eV X),
             fun z u => ∃ o2, z 1 = .slice (some ⟨o2, 0, none⟩) 32 32 ∧ Blk u o2 5 (bnV (byN M)).toArray,
             fun z _ => z 2 = .string ⟨(byB M).toArray⟩,
             fun z _ => z 3 = .slice A 32 c,
             fun z _ => z 4 = .string ⟨l.toArray⟩,
             fun z _ => z 5 = .bool true]
            [Eq, fun u u' => Below u.heap.size u u', Eq, Eq, Eq, Eq]
            (fun _ _ => false) [(0, some 49), (1, some 50), (2, some 51), (3, some 52), (4, some 53), (5, some 54)] (by kernel_rfl) (by kernel_rfl) rfl (fun _ => rfl) ?_ ?_ ?_ ?_ ?_ ?_
          · exact HC0
          · intro m; cases m; exact trivial; exact trivial
          · intro m; cases m
            · exact ⟨.inr (fun _ _ h h0 => h ▸ h0), .inr (fun _ _ _ h => h), .inr (fun _ _ h h0 => h ▸ h0), .inr (fun _ _ h h0 => h ▸ h0), .inr (fun _ _ h h0 => h ▸ h0), .inr (fun _ _ h h0 => h ▸ h0), trivial⟩
            · exact ⟨.inr (fun _ _ h h0 => h ▸ h0), .inr (fun _ _ _ h => h), .inr (fun _ _ h h0 => h ▸ h0), .inr (fun _ _ h h0 => h ▸ h0), .inr (fun _ _ h h0 => h ▸ h0), .inr (fun _ _ h h0 => h ▸ h0), trivial⟩
          · exact ⟨⟨.inl rfl, .inr (.inr (.inl rfl)), .inr (.inr (.inl rfl)), .inr (.inr (.inr (fun _ _ _ _ _ h => h))), .inr (.inr (.inr (fun _ _ _ _ _ h => h))), .inr (.inr (.inl rfl)), trivial⟩,
              ⟨.inr (.inr (.inr (fun _ _ _ _ _ h => h))), .inl rfl, .inr (.inr (.inl rfl)), .inr (.inr (.inr (fun _ _ _ _ _ h => h))), .inr (.inr (.inr (fun _ _ _ _ _ h => h))), .inr (.inr (.inl rfl)), trivial⟩,
              ⟨.inr (.inr (.inr (fun _ _ _ _ _ h => h))), .inr (.inr (.inr (fun _ _ _ _ h h0 => by cases h; exact h0))), .inl rfl, .inr (.inr (.inr (fun _ _ _ _ _ h => h))), .inr (.inr (.inr (fun _ _ _ _ _ h => h))), .inr (.inr (.inl rfl)), trivial⟩,
              ⟨.inr (.inr (.inr (fun _ _ _ _ _ h => h))), .inr (.inr (.inr (fun _ _ _ _ h h0 => by cases h; exact h0))), .inr (.inr (.inr (fun _ _ _ _ _ h => h))), .inl rfl, .inr (.inr (.inl rfl)), .inr (.inr (.inl rfl)), trivial⟩,
              ⟨.inr (.inr (.inr (fun _ _ _ _ _ h => h))), .inr (.inr (.inr (fun _ _ _ _ h h0 => by cases h; exact h0))), .inr (.inr (.inr (fun _ _ _ _ _ h => h))), .inr (.inr (.inr (fun _ _ _ _ _ h => h))), .inl rfl, .inr (.inr (.inl rfl)), trivial⟩,
              ⟨.inr (.inr (.inr (fun _ _ _ _ _ h => h))), .inr (.inr (.inr (fun _ _ _ _ h h0 => by cases h; exact h0))), .inr (.inr (.inr (fun _ _ _ _ _ h => h))), .inr (.inr (.inr (fun _ _ _ _ _ h => h))), .inr (.inr (.inr (fun _ _ _ _ _ h => h))), .inl rfl, trivial⟩, trivial⟩
          · refine ⟨?_, ?_, ?_, ?_, ?_, ?_, trivial⟩
            · -- 0: Op.load 26 (Operand.tmp 4)
              refine step_plain [] (fun _ => rfl) rfl ?_
              intro w1 vals hC1 hi0 hf E hE
              clear hi0
              clear hf
              simp only [puts, act_put, act_put_none, List.setIfInBounds_toArray, List.set_cons_zero, List.set_cons_succ] at hE ⊢
              refine wpList_get_box hC1.x rfl rfl rfl hu rfl elem_size ?_
              go_wp2_with fail
              exact .mk (hE _ _ rfl hC1 rfl)
            · -- 1: Op.call { callee := Callee.value (Operand.func 39), args := #[Operand.tmp 49], argTypes := #[26] }
              refine step_plain [(0, some 49)] (fun _ => rfl) rfl ?_
              intro w1 vals hC1 hi0 hf E hE
              clear hi0
              have f0 : vals 0 = .agg (eV X) := hf 0 rfl
              try dsimp only at f0
              clear hf
              simp only [puts, act_put, act_put_none, List.setIfInBounds_toArray, List.set_cons_zero, List.set_cons_succ, f0] at hE ⊢
              clear f0
              go_wp2_with fail
              refine calls_then (bytes_any X _ HXL.out) ?_
              rintro e w2 ⟨o2, rfl, hlo, hblk, hb2⟩
              rw [← HM.out] at hblk
              go_wp2_with fail
              exact .mk (hE _ _ ⟨o2, rfl, hblk⟩ (hC1.next hb2) hb2)
            · -- 2: Op.convert 22 9 (Operand.tmp 50)
              refine step_plain [(1, some 50)] (fun _ => rfl) rfl ?_
              intro w1 vals hC1 hi0 hf E hE
              clear hi0
              have f1 : (fun z u => ∃ o2, z 1 = .slice (some ⟨o2, 0, none⟩) 32 32 ∧ Blk u o2 5 (bnV (byN M)).toArray) vals w1 := hf 1 rfl
              try dsimp only at f1
              clear hf
              obtain ⟨o2, hx, hblk⟩ := f1
              simp only [puts, act_put, act_put_none, List.setIfInBounds_toArray, List.set_cons_zero, List.set_cons_succ, hx] at hE ⊢
              clear hx
              rw [bnV_byB] at hblk
              refine wpList_str_of (l := byB M) (Rd.of_blk hblk hblk.lt) Try.underlying22 Try.underlying5 Try.underlying9 rfl rfl (by rw [byB_length]; rfl) ?_
              go_wp2_with fail
              exact .mk (hE _ _ rfl hC1 rfl)
            · -- 3: Op.move (Operand.tmp 0)
              refine step_plain [] (fun _ => rfl) rfl ?_
              intro w1 vals hC1 hi0 hf E hE
              clear hi0
              clear hf
              simp only [puts, act_put, act_put_none, List.setIfInBounds_toArray, List.set_cons_zero, List.set_cons_succ] at hE ⊢
              go_wp2
              exact .mk (hE _ _ rfl hC1 rfl)
            · -- 4: Op.convert 22 9 (Operand.tmp 52)
              refine step_plain [(3, some 52)] (fun _ => rfl) rfl ?_
              intro w1 vals hC1 hi0 hf E hE
              clear hi0
              have f3 : vals 3 = .slice A 32 c := hf 3 rfl
              try dsimp only at f3
              clear hf
              have hbel := hC1.bel
              rw [HHG.out] at hbel
              simp only [puts, act_put, act_put_none, List.setIfInBounds_toArray, List.set_cons_zero, List.set_cons_succ, f3] at hE ⊢
              clear f3
              refine wpList_str_of (l := l) (HR.out.below hbel) Try.underlying22 Try.underlying5 Try.underlying9 rfl rfl (by rw [HL.out]; rfl) ?_
              go_wp2_with fail
              exact .mk (hE _ _ rfl hC1 rfl)
            · -- 5: Op.binOp BinOp.neq 9 (Operand.tmp 51) (Operand.tmp 53) 9
              refine step_plain [(2, some 51), (4, some 53)] (fun _ => rfl) rfl ?_
              intro w1 vals hC1 hi0 hf E hE
              clear hi0
              have f2 : vals 2 = .string ⟨(byB M).toArray⟩ := hf 2 rfl
              have f4 : vals 4 = .string ⟨l.toArray⟩ := hf 4 rfl
              try dsimp only at f2 f4
              clear hf
              simp only [puts, act_put, act_put_none, List.setIfInBounds_toArray, List.set_cons_zero, List.set_cons_succ, f2, f4] at hE ⊢
              clear f2 f4
              go_wp2
              refine .mk (hE _ _ ?_ hC1 rfl)
              have h1 : (byB M == l) = false := beq_false_of_ne HEQ.out
              show Value.bool (!byB M == l) = .bool true
              rw [h1]
              rfl
          intro w1 vals hC1 hf
          have f0 : vals 0 = .agg (eV X) := hf 0 (by decide) rfl
          have f1 : (fun z u => ∃ o2, z 1 = .slice (some ⟨o2, 0, none⟩) 32 32 ∧ Blk u o2 5 (bnV (byN M)).toArray) vals w1 := hf 1 (by decide) rfl
          have f2 : vals 2 = .string ⟨(byB M).toArray⟩ := hf 2 (by decide) rfl
          have f3 : vals 3 = .slice A 32 c := hf 3 (by decide) rfl
          have f4 : vals 4 = .string ⟨l.toArray⟩ := hf 4 (by decide) rfl
          have f5 : vals 5 = .bool true := hf 5 (by decide) rfl
          try dsimp only at f0 f1 f2 f3 f4 f5
          clear hf
          simp only [puts, act_put, act_put_none, List.setIfInBounds_toArray, List.set_cons_zero, List.set_cons_succ, f0, f2, f3, f4, f5]
          clear f0 f2 f3 f4 f5
          generalize vals 1 = x1 at *
          clear HC0 f1
          have HC1 := Lib.hid hC1
          clear hC1
          have hok : mayR l = false := by rw [HMAY.out]; exact decide_eq_false HEQ.out
          have hE1 : readE l = zE := by rw [readE, hok]; rfl
          have hF1 : readF l = 2 := by rw [readF, hok]; rfl
          have HE1 := Lib.hid hE1
          have HF1 := Lib.hid hF1
          clear hok hE1 hF1
          go_wp2_with (first
            | (refine wpList_put_box (x := .tmp 2) (cells := eV zE) HC1.out.z rfl rfl rfl rfl elem_size rfl (by simp [eV, wV, limbs, Value.oneCell']) ?_; intro w5 hb5 hw5; have HB5 := Lib.hid hb5; have HW5 := Lib.hid hw5; clear hb5 hw5))
          refine bodyPost_ret (results_box_tmp (P := Try.prog) rfl rfl HB5.out hu rfl elem_size) rfl ⟨by rw [HE1.out, HF1.out]; rfl, ?_⟩
          exact HW5.out.below HC1.out.bel HC1.out.lr HC1.out.bel.size
  · have hno : mayR l = false := by simp [mayR, h32]
    have hE : readE l = zE := by rw [readE, hno]; rfl
    have hF : readF l = 2 := by rw [readF, hno]; rfl
    unfold ReadPost
    rw [hE, hF]
    obtain ⟨n, hn⟩ : ∃ n, n = l.length := ⟨_, rfl⟩
    rw [← hn]
    have hn32 : ¬ (n : Int) = 32 := by omega
    have hb0 := Blk.new w 26 (eV zE)
    have HB0 := Lib.hid hb0
    clear hr hc hl h32 hno hE hF hn hb0
    go_enter Try.func52, Try.ntmps52
    go_wp2_with (refine wpList_put_box (x := .tmp 2) (cells := eV zE) HB0.out rfl rfl rfl rfl elem_size rfl (by simp [eV, wV, limbs, Value.oneCell']) ?_; intro w5 hb5 hw5; have HB5 := Lib.hid hb5; have HW5 := Lib.hid hw5; clear hb5 hw5)
    refine bodyPost_ret (results_box_tmp (P := Try.prog) rfl rfl HB5.out hu rfl elem_size) rfl ⟨rfl, ?_⟩
    exact HW5.out.below (below_new _ _) (Nat.le_refl _) (by simp)
end Go.Proofs.Ytbeokfpbhemcfaa
