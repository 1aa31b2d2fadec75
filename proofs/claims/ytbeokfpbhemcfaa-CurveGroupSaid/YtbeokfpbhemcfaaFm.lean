/-
  Walks: two words' product and sum; the field's numbers of two words.
-/
import Derived.Test.YtbeokfpbhemcfaaFl
import Derived.Shelf.Bits.Mul64
import Derived.Shelf.Spec.BitsCarry
namespace Go.Proofs.Ytbeokfpbhemcfaa
set_option linter.unusedSimpArgs false
set_option linter.unusedVariables false
open Go.RowKit

set_option maxHeartbeats 1000000 in
theorem mul64_any (x y : Nat) (hx : x < 18446744073709551616) (hy : y < 18446744073709551616) (w : World) :
    Calls Try.prog 68 #[.int .u64 x, .int .u64 y] w fun e w' => e = .returned (.tuple #[.int .u64 ((x * y / 18446744073709551616 : Nat) : Int), .int .u64 ((x * y % 18446744073709551616 : Nat) : Int)]) ∧ w' = w := by
  obtain ⟨bd, bt, bw, hhi⟩ := Lib.mul64_hi x y hx hy
  have ba := Lib.half_mul_le (a := x / 4294967296) (b := y / 4294967296) (by omega) (by omega)
  have bb := Lib.half_mul_le (a := x / 4294967296) (b := y % 4294967296) (by omega) (by omega)
  have bc := Lib.half_mul_le (a := x % 4294967296) (b := y / 4294967296) (by omega) (by omega)
  have ba' : x / 4294967296 * (y / 4294967296) < 18446744073709551616 := by omega
  have bb' : x / 4294967296 * (y % 4294967296) < 18446744073709551616 := by omega
  have bc' : x % 4294967296 * (y / 4294967296) < 18446744073709551616 := by omega
  have bh1 : x / 4294967296 * (y / 4294967296) + (x / 4294967296 * (y % 4294967296) + x % 4294967296 * (y % 4294967296) / 4294967296) / 4294967296 < 18446744073709551616 := by omega
  have bh : x / 4294967296 * (y / 4294967296) + (x / 4294967296 * (y % 4294967296) + x % 4294967296 * (y % 4294967296) / 4294967296) / 4294967296 + ((x / 4294967296 * (y % 4294967296) + x % 4294967296 * (y % 4294967296) / 4294967296) % 4294967296 + x % 4294967296 * (y / 4294967296)) / 4294967296 < 18446744073709551616 := by omega
  go_enter Try.func68, Try.ntmps68
  go_wp2
  simp only [Mul64.maskN x hx, Mul64.maskN y hy, Mul64.divN, Mul64.mulN, Mul64.addN, Mul64.wrapN _ bd, Mul64.wrapN _ bb', Mul64.wrapN _ bt, Mul64.maskN _ bt, Mul64.wrapN _ bc', Mul64.wrapN _ bw, Mul64.wrapN _ ba', Mul64.wrapN _ bh1, Mul64.wrapN _ bh, Mul64.wrapM (x * y)]
  rw [hhi]
  go_ret2
  exact ⟨rfl, rfl⟩
theorem add64_run (x y c : Nat) (hx : x < 18446744073709551616) (hy : y < 18446744073709551616) (hc : c ≤ 1) (w : World) :
    (callFunc 69 #[.int .u64 x, .int .u64 y, .int .u64 c]).run Try.prog w =
      .ok (.value (.tuple #[.int .u64 (((x + y + c) % 18446744073709551616 : Nat) : Int), .int .u64 (((x + y + c) / 18446744073709551616 : Nat) : Int)])) w := by
  rw [run_callFunc_extern Try.func69 (by kernel_rfl) (by kernel_rfl) (by kernel_rfl) (e := add64Entry) (by kernel_rfl), run_add64 x y c (by omega) (by omega) (by omega) (by omega)]
  simp only [Result.andThen]
  congr 5 <;> omega
/-- a number of two words -/
def wdV (n : Nat) : Array Value := #[.int .u64 ((n / 18446744073709551616 : Nat) : Int), .int .u64 ((n % 18446744073709551616 : Nat) : Int)]
theorem wide_size : (Try.prog.info? 79).map (·.size) = some 2 := by kernel_rfl
def WidePost (n : Nat) (w : World) (e : Ending) (w' : World) : Prop := e = .returned (.agg (wdV n)) ∧ Below w.heap.size w w'
set_option maxRecDepth 100000 in
set_option maxHeartbeats 1000000 in
theorem over_any (n : Nat) (hn : n < 41538374868278621028243970633760768) (w : World) : Calls Try.prog 60 #[.agg (wdV n)] w (fun e w' => e = .returned (.int .u64 ((n / 2251799813685248 : Nat) : Int)) ∧ Below w.heap.size w w') := by
  have hh : n / 18446744073709551616 < 2251799813685248 := by omega
  have hl : n % 18446744073709551616 < 18446744073709551616 := by omega
  have hs : n / 2251799813685248 = n / 18446744073709551616 * 8192 + n % 18446744073709551616 / 2251799813685248 := by omega
  rw [hs]
  obtain ⟨hi, hhi⟩ : ∃ x, x = n / 18446744073709551616 := ⟨_, rfl⟩
  obtain ⟨lo, hlo⟩ : ∃ x, x = n % 18446744073709551616 := ⟨_, rfl⟩
  rw [wdV, ← hhi, ← hlo]
  rw [← hhi] at hh
  rw [← hlo] at hl
  clear hs hhi hlo hn
  have hor : bits .or .u64 ((hi : Int) * 8192) ((lo : Int) / 2251799813685248) = ((hi * 8192 + lo / 2251799813685248 : Nat) : Int) := by
    have h1 := or64 (a := hi * 8192) (b := lo / 2251799813685248) (by omega) (by omega)
    have h2 : hi * 8192 ||| lo / 2251799813685248 = hi * 8192 + lo / 2251799813685248 := by
      have := Nat.shiftLeft_add_eq_or_of_lt (i := 13) (b := lo / 2251799813685248) (by omega) hi
      rw [Nat.shiftLeft_eq] at this
      exact this.symm
    rw [h2] at h1
    rw [← h1]
    congr 1 <;> omega
  have hw : IntKind.u64.wrap ((hi : Int) * 8192) = (hi : Int) * 8192 := by rw [IntKind.wrap_u64]; omega
  have HOR := Lib.hid hor
  have HW := Lib.hid hw
  clear hor hh hl hw
  go_enter Try.func60, Try.ntmps60
  go_wp2_with fail
  go_ret
  refine ⟨?_, below_new _ _⟩
  rw [HW.out, HOR.out]
  rfl
set_option maxRecDepth 100000 in
set_option maxHeartbeats 1000000 in
theorem plus_any (n a b : Nat) (ha : a < 18446744073709551616) (hb : b < 18446744073709551616) (hn : n + a * b < 340282366920938463463374607431768211456) (w : World) : Calls Try.prog 59 #[.agg (wdV n), .int .u64 a, .int .u64 b] w (WidePost (n + a * b) w) := by
  obtain ⟨p, hp⟩ : ∃ p, p = a * b := ⟨_, rfl⟩
  rw [← hp] at hn ⊢
  obtain ⟨hi, hhi⟩ : ∃ x, x = n / 18446744073709551616 := ⟨_, rfl⟩
  obtain ⟨lo, hlo⟩ : ∃ x, x = n % 18446744073709551616 := ⟨_, rfl⟩
  obtain ⟨ph, hph⟩ : ∃ x, x = p / 18446744073709551616 := ⟨_, rfl⟩
  obtain ⟨pl, hpl⟩ : ∃ x, x = p % 18446744073709551616 := ⟨_, rfl⟩
  obtain ⟨c, hc⟩ : ∃ x, x = (lo + pl + 0) / 18446744073709551616 := ⟨_, rfl⟩
  have e1 : (lo + pl + 0) % 18446744073709551616 = (n + p) % 18446744073709551616 := by omega
  have e2 : (hi + ph + c) % 18446744073709551616 = (n + p) / 18446744073709551616 := by omega
  have hr1 := add64_run lo pl 0 (by omega) (by omega) (by omega)
  have hr2 := add64_run hi ph c (by omega) (by omega) (by omega)
  rw [e1, ← hc] at hr1
  rw [e2] at hr2
  rw [show ((0 : Nat) : Int) = 0 from rfl] at hr1
  have hm := mul64_any a b ha hb
  rw [← hp, ← hph, ← hpl] at hm
  have HM := Lib.hid hm
  rw [wdV, ← hhi, ← hlo]
  obtain ⟨cc, hcc⟩ : ∃ x, x = (hi + ph + c) / 18446744073709551616 := ⟨_, rfl⟩
  rw [← hcc] at hr2
  have hz := wide_size
  have hu := Try.underlying79
  clear hm ha hb hn hp hhi hlo hph hpl hc e1 e2 hcc
  obtain ⟨s1, hs1⟩ : ∃ x, x = (n + p) / 18446744073709551616 := ⟨_, rfl⟩
  obtain ⟨s2, hs2⟩ : ∃ x, x = (n + p) % 18446744073709551616 := ⟨_, rfl⟩
  rw [← hs2] at hr1
  rw [← hs1] at hr2
  have hv : wdV (n + p) = #[.int .u64 (s1 : Int), .int .u64 (s2 : Int)] := by rw [hs1, hs2]; rfl
  have HV := Lib.hid hv
  clear hv hs1 hs2
  go_enter Try.func59, Try.ntmps59
  go_wp2_with fail
  refine calls_then (HM.out _) ?_
  rintro e w2 ⟨rfl, rfl⟩
  go_wp2_with fail
  have hb5 : Blk ((w.alloc (.cells #[.int .u64 (hi : Int), .int .u64 (lo : Int)] 79)).alloc (.cells #[.int .u64 (s1 : Int), .int .u64 (s2 : Int)] 79)) (w.heap.size + 1) 79 #[.int .u64 (s1 : Int), .int .u64 (s2 : Int)] := Blk.newAt (by simp)
  refine bodyPost_ret (results_box (P := Try.prog) rfl rfl hb5 hu rfl hz) rfl ⟨by rw [HV.out], ?_⟩
  exact (below_new _ _).alloc (by simp) _
end Go.Proofs.Ytbeokfpbhemcfaa
