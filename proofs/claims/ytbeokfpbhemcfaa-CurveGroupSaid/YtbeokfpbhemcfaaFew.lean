/-
  Walk: the law's few.
-/
import Derived.Test.YtbeokfpbhemcfaaBas
namespace Go.Proofs.Ytbeokfpbhemcfaa
set_option linter.unusedSimpArgs false
set_option linter.unusedVariables false
open Go.RowKit

theorem nil_len' {l : List UInt8} {A : Option Addr} {w : World} (hr : Rd w w.heap.size A (bytesV l)) : A = none → l.length = 0 := fun h => by
  by_cases h0 : 0 < l.length
  · obtain ⟨ad, h1, _⟩ := hr.at_ (k := 0) (by rw [bytesV_length]; exact h0)
    rw [h] at h1; cases h1
  · omega
set_option maxRecDepth 100000 in
set_option maxHeartbeats 1000000 in
theorem few_any (l : List UInt8) (m : Nat) (hm : m ≤ 1000) (A : Option Addr) (c : Nat) (w : World) (hnil : A = none → l.length = 0) (hc : l.length ≤ c) :
    Calls Try.prog 12 #[.slice A l.length c, .int .i64 (m : Int)] w (fun e w' => e = .returned (.slice A (l.take m).length c) ∧ w' = w) := by
  have hlt2 : (l.take m).length = min m l.length := List.length_take
  rw [hlt2]
  generalize l.length = n at *
  have hmb : (m : Int) ≤ 1000 := by omega
  by_cases hlt : m < n
  · obtain ⟨ad, rfl⟩ : ∃ ad, A = some ad := by
      cases A with
      | none => have := hnil rfl; omega
      | some ad => exact ⟨ad, rfl⟩
    have hgt : (n : Int) > (m : Int) := by omega
    have hmc : (m : Int) ≤ (c : Int) := by omega
    have hmin : min m n = m := by omega
    rw [hmin]
    clear hlt hmin hlt2 hnil hm hc
    go_enter Try.func12, Try.ntmps12
    go_wp2_with fail
    go_ret
    exact ⟨rfl, rfl⟩
  · have hgt : ¬ (n : Int) > (m : Int) := by omega
    have hmin : min m n = n := by omega
    rw [hmin]
    clear hlt hmin hlt2 hnil hm hc
    go_enter Try.func12, Try.ntmps12
    go_wp2_with fail
    go_ret
    exact ⟨rfl, rfl⟩
end Go.Proofs.Ytbeokfpbhemcfaa
