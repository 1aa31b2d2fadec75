/-
  Walks: the reference's turn, mixed, low, top.
-/
import Derived.Test.YtfpbcihpjcocmaaDoorProg
import Derived.Test.YtfpbcihpjcocmaaDoorTurned
import Derived.Test.YtfpbcihpjcocmaaDoorTurnR
namespace Go.Proofs.YtfpbcihpjcocmaaDoor
set_option linter.unusedSimpArgs false
set_option linter.unusedVariables false
open Go.RowKit

/-- the reference's H as a value -/
def hC (bits steps : Nat) (a b c d k f : Value) : Array Value := #[.int .i64 bits, .int .i64 steps, a, b, c, d, k, f]
section
variable (bits steps : Nat) (a b c d k f : Value) (w : World)
theorem low_any (hb : bits = 32 ∨ bits = 64) (x : Nat) (hx : x < 18446744073709551616) :
    Calls Tryd.prog 35 #[.agg (hC bits steps a b c d k f), .int .u64 x] w fun e w' => e = .returned (.int .u64 (x % 2 ^ bits : Nat)) ∧ Below w.heap.size w w' := by
  have c0 := (Blk.new w 38 (hC bits steps a b c d k f)).cell 0
  simp only [hC, List.getElem?_toArray, List.getElem?_cons_zero] at c0
  have hx1 : (x : Int) < 18446744073709551616 := by omega
  rw [hC]
  rcases hb with rfl | rfl
  · clear hx
    go_enter Tryd.func35, Tryd.ntmps35
    go_wp2
    go_ret
    exact ⟨ret_int' (by omega), below_new _ _⟩
  · have HX := Lib.hid hx
    clear hx
    go_enter Tryd.func35, Tryd.ntmps35
    go_wp2
    go_ret
    exact ⟨ret_int' (by have := HX.out; omega), below_new _ _⟩
theorem top_any (hb : bits = 32 ∨ bits = 64) (x : Nat) (hx : x < 18446744073709551616) :
    Calls Tryd.prog 24 #[.agg (hC bits steps a b c d k f), .int .u64 x] w fun e w' => e = .returned (.int .u64 (x / 2 ^ (64 - bits) % 2 ^ bits : Nat)) ∧ Below w.heap.size w w' := by
  have c0 := (Blk.new w 38 (hC bits steps a b c d k f)).cell 0
  simp only [hC, List.getElem?_toArray, List.getElem?_cons_zero] at c0
  have hx1 : (x : Int) < 18446744073709551616 := by omega
  rw [hC]
  rcases hb with rfl | rfl
  · have HX := Lib.hid hx
    clear hx
    go_enter Tryd.func24, Tryd.ntmps24
    go_wp2
    go_ret
    exact ⟨ret_int' (by have := HX.out; omega), below_new _ _⟩
  · have HX := Lib.hid hx
    clear hx
    go_enter Tryd.func24, Tryd.ntmps24
    go_wp2
    go_ret
    exact ⟨ret_int' (by have := HX.out; omega), below_new _ _⟩
set_option maxHeartbeats 1000000 in
theorem turn_any (hb : bits = 32 ∨ bits = 64) (x n : Nat) (hx : x < 2 ^ bits) (hn : n ≤ bits) :
    Calls Tryd.prog 38 #[.agg (hC bits steps a b c d k f), .int .u64 x, .int .i64 n] w fun e w' => e = .returned (.int .u64 (turnedN bits x n : Nat)) ∧ Below w.heap.size w w' := by
  have c0 := (Blk.new w 38 (hC bits steps a b c d k f)).cell 0
  simp only [hC, List.getElem?_toArray, List.getElem?_cons_zero] at c0
  have hbel := below_new w (.cells (hC bits steps a b c d k f) 38)
  rw [hC] at hbel ⊢
  have HTU := Lib.hid (turnR_turned hb hx hn)
  have HTL := Lib.hid (turnR_lt (by omega) hx)
  have HBEL := Lib.hid hbel
  have hn64 : n ≤ 64 := by omega
  clear hbel hn hx
  rcases hb with rfl | rfl
  all_goals
    go_enter Tryd.func38, Tryd.ntmps38
    go_wp2
    go_loop [1, 7] (fun v i => ∃ j y : Nat, j ≤ n ∧ i = .int .i64 j ∧ y = turnR _ x j ∧ v = .int .u64 y) (fun _ i => n - (intOf i).toNat)
    case atStart => exact ⟨0, x, by omega, rfl, rfl, rfl⟩
    case round =>
      obtain ⟨j, y, hj, rfl, hy, rfl⟩ := hrel
      have hyl := HTL.out j
      rw [← hy] at hyl
      have HY := Lib.hid hy
      have hyl2 : (y : Int) < 18446744073709551616 := by omega
      have hyl3 : (y : Int) / 2 + 2147483648 < 18446744073709551616 := by omega
      have hyl4 : (y : Int) / 2 + 9223372036854775808 < 18446744073709551616 := by omega
      clear hy hyl
      by_cases hlt : j < n
      · rcases Nat.mod_two_eq_zero_or_one y with h | h
        · have ho : (((y : Int) % 2) == 1) = false := by rw [beq_eq_false_iff_ne]; omega
          have HH := Lib.hid h
          clear h
          go_wp2
          exact ⟨⟨j + 1, y / 2, by omega, by go_num, by rw [turnR, ← HY.out, HH.out]; omega, by go_num⟩, by simp [intOf]; omega⟩
        · have ho : (((y : Int) % 2) == 1) = true := by rw [beq_iff_eq]; omega
          have HH := Lib.hid h
          clear h
          go_wp2
          first
            | exact ⟨⟨j + 1, y / 2 + 2147483648, by omega, by go_num, by rw [turnR, ← HY.out, HH.out], by go_num⟩, by simp [intOf]; omega⟩
            | exact ⟨⟨j + 1, y / 2 + 9223372036854775808, by omega, by go_num, by rw [turnR, ← HY.out, HH.out], by go_num⟩, by simp [intOf]; omega⟩
      · obtain rfl : j = n := by omega
        go_wp2
        go_ret
        exact ⟨ret_int' (by rw [HY.out, HTU.out]), HBEL.out⟩
end
end Go.Proofs.YtfpbcihpjcocmaaDoor
