/-
  Walk: the field's Int.
-/
import Derived.Test.YtbeokfpbhemcfaaMl
namespace Go.Proofs.Ytbeokfpbhemcfaa
set_option linter.unusedSimpArgs false
set_option linter.unusedVariables false
open Go.RowKit

def natE (m : Nat) : E5 := ⟨m % 2251799813685248, m / 2251799813685248, 0, 0, 0⟩
def intE (n : Int) : E5 := if n < 0 then subE zE (natE n.natAbs) else natE n.natAbs
theorem natE_val (m : Nat) : (natE m).val = m := by simp only [natE, E5.val]; omega
theorem natE_ok {m : Nat} (h : m ≤ 9223372036854775808) : (natE m).Ok := by constructor <;> simp only [natE] <;> omega
theorem zE_ok : zE.Ok := by constructor <;> decide
theorem intE_ok {n : Int} (h1 : -9223372036854775808 ≤ n) (h2 : n < 9223372036854775808) : (intE n).Ok := by
  unfold intE
  split
  · exact sub_ok zE_ok (natE_ok (by omega))
  · exact natE_ok (by omega)
set_option maxRecDepth 100000 in
set_option maxHeartbeats 1000000 in
theorem int_any (n : Int) (h1 : -9223372036854775808 ≤ n) (h2 : n < 9223372036854775808) (w : World) : Calls Try.prog 50 #[.int .i64 n] w (ElemPost (intE n) w) := by
  have hu := Try.underlying26
  have hst0 : G2 w (w.heap.size + 1) w.heap.size (eV (natE n.natAbs)) (eV zE) ((w.alloc (.cells (eV zE) 26)).alloc (.cells (eV (natE n.natAbs)) 26)) :=
    ⟨(below_new _ _).alloc (by simp) _, Blk.newAt (by simp), (Blk.new _ _ _).alloc _, by omega, Nat.le_refl _, by omega⟩
  have HST0 := Lib.hid hst0
  obtain ⟨m, hm⟩ : ∃ m, m = n.natAbs := ⟨_, rfl⟩
  have hml : m ≤ 9223372036854775808 := by omega
  have hok := natE_ok hml
  rw [← hm] at HST0
  by_cases hneg : n < 0
  · have hi : intE n = subE zE (natE m) := by unfold intE; rw [if_pos hneg, hm]
    obtain rfl : n = -(m : Int) := by omega
    obtain ⟨u, hum⟩ : ∃ u, u = 18446744073709551616 - m := ⟨_, rfl⟩
    have hw1 : IntKind.u64.wrap (-(m : Int)) = (u : Int) := by rw [IntKind.wrap_u64]; omega
    have hw2 : IntKind.u64.wrap (-(u : Int)) = (m : Int) := by rw [IntKind.wrap_u64]; omega
    have hd : 0 < m := by omega
    have hmk := mask51 m (by omega)
    rw [hi]
    have hE : eV (natE m) = #[.int .u64 ((m : Int) % 2251799813685248), .int .u64 ((m : Int) / 2251799813685248), .int .u64 0, .int .u64 0, .int .u64 0] := by simp [eV, wV, limbs, natE]
    have hZ : eV zE = #[.int .u64 0, .int .u64 0, .int .u64 0, .int .u64 0, .int .u64 0] := by simp [eV, wV, limbs, zE]
    have hc := fun u => sub_any zE (natE m) u (zE_ok.mono (by decide)) hok.big
    rw [hE, hZ] at hc HST0
    have HC := Lib.hid hc
    clear hst0 hi hok h1 h2 hml hneg hum hm hc hE hZ
    go_enter Try.func50, Try.ntmps50
    go_wp2_with fail
    refine calls_then (HC.out _) ?_
    rintro e w2 ⟨rfl, hb2⟩
    have hs2 := HST0.out.next hb2
    have HS2 := Lib.hid hs2
    clear HST0 hs2 hb2
    go_wp2_with (refine wpList_put_box (x := .tmp 2) (cells := eV (subE zE (natE m))) HS2.out.z rfl rfl rfl rfl elem_size rfl (by simp [eV, wV, limbs, Value.oneCell']) ?_; intro w5 hb5 hw5)
    refine bodyPost_ret (results_box (P := Try.prog) rfl rfl hb5 hu rfl elem_size) rfl ⟨rfl, ?_⟩
    exact hw5.below HS2.out.bel HS2.out.lr HS2.out.bel.size
  · have hi : intE n = natE m := by unfold intE; rw [if_neg hneg, hm]
    obtain rfl : n = (m : Int) := by omega
    have hw1 : IntKind.u64.wrap (m : Int) = (m : Int) := by rw [IntKind.wrap_u64]; omega
    have hmk := mask51 m (by omega)
    rw [hi]
    have hE : eV (natE m) = #[.int .u64 ((m : Int) % 2251799813685248), .int .u64 ((m : Int) / 2251799813685248), .int .u64 0, .int .u64 0, .int .u64 0] := by simp [eV, wV, limbs, natE]
    have hZ : eV zE = #[.int .u64 0, .int .u64 0, .int .u64 0, .int .u64 0, .int .u64 0] := by simp [eV, wV, limbs, zE]
    rw [hE, hZ] at HST0
    have HE := Lib.hid hE
    clear hst0 hi hok h1 h2 hml hneg hm hE hZ
    go_enter Try.func50, Try.ntmps50
    go_wp2_with fail
    refine bodyPost_ret (results_box (P := Try.prog) rfl rfl ((Blk.new w _ _).alloc _) hu rfl elem_size) rfl ⟨by rw [HE.out], ?_⟩
    exact (below_new _ _).alloc (by simp) _
end Go.Proofs.Ytbeokfpbhemcfaa
