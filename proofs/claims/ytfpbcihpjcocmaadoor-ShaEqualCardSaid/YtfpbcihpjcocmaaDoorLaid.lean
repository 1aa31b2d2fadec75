/-
  What the listed variable gives the walks; a []byte argument, with its room.
-/
import Derived.Test.YtfpbcihpjcocmaaDoorOpenB
import Derived.Test.YtfpbcihpjcocmaaDoorShaX
import Derived.LaidMore
import Derived.Stop.Joined
namespace Go.Proofs.YtfpbcihpjcocmaaDoor
set_option linter.unusedSimpArgs false
set_option linter.unusedVariables false
open Go.ChangeShapes Go.WideShapes Go.ChangeAt Go.RowKit Go.Joins

theorem gSteps : Tryd.prog.globalNamed "brevet/sha.steps" = some 0 := by kernel_rfl
theorem tSteps : (Tryd.prog.globals[0]?).map (·.type) = some 54 := by kernel_rfl
theorem c_u64 : Tryd.prog.cellsOf 40 = 1 := by kernel_rfl
def laidL : List (String × DataW Unit) := [("brevet/sha.steps", Rows.laid_brevet_sha_steps)]
theorem steps_datum : (Rows.laid_brevet_sha_steps : DataW Unit) = .agg (stepsN.map fun n : Nat => DataW.lit (.int .u64 (n : Int))) := by kernel_rfl
theorem door_met (os : Os) (args : Array Value) : laidMetH Tryd.prog laidL ((World.doorLaid Tryd.prog 400 os).forCall (fun _ _ => 0) ⟨#[], args, []⟩).memory :=
  laidMetH_of_parts3 (fuel := 8) (laidMet_of_run' 8 (by kernel_rfl) (by kernel_rfl)) (by kernel_rfl) (by kernel_rfl)
theorem tab_of_laid {W : World} (h : laidMetH Tryd.prog laidL W) : TabG W := by
  rw [MakeChecks.laidMetH_plain _ _ _ (by kernel_rfl)] at h
  obtain ⟨ps, ⟨g0, t0, cs0, f0, p0, q0, hg0, ht0, hv0, hd0, _, _⟩, _, _⟩ := h
  obtain rfl := Option.some.inj (gSteps.symm.trans hg0)
  obtain rfl := Option.some.inj (tSteps.symm.trans ht0)
  obtain ⟨xs, m, rfl, hx, hlen, hn, hel⟩ := DataW.trod_array Tryd.underlying54 hd0
  rw [steps_datum] at hx
  simp only [Prod.mk.injEq, DataW.agg.injEq] at hx
  have hcell : ∀ i, i < 80 → W.cell? ⟨0, i, none⟩ = some (.int .u64 ((stepsN.getD i 0 : Nat) : Int)) := fun i hi => by
    have h0 := hel i hi
    rw [c_u64, Nat.mul_one] at h0
    have hxl : i < xs.length := by rw [hn]; exact hi
    have hsl : i < stepsN.length := by rw [stepsN_length]; exact hi
    rw [List.getElem?_eq_getElem hxl] at h0
    obtain ⟨k, e1, e2, _⟩ := DataW.trod_int Tryd.underlying40 h0
    have h1 : (xs.map (·.1))[i]? = (stepsN.map fun n : Nat => DataW.lit (H := Unit) (.int .u64 (n : Int)))[i]? := by rw [hx.1]
    rw [List.getElem?_map, List.getElem?_map, List.getElem?_eq_getElem hxl, List.getElem?_eq_getElem hsl, e2] at h1
    simp at h1
    subst h1
    rw [World.var?_cell hg0 hv0 i]
    have h2 : (cs0.toList.drop i)[0]? = some (.int .u64 ((stepsN[i] : Nat) : Int)) := by
      have : ((cs0.toList.drop i).take 1)[0]? = some (.int .u64 ((stepsN[i] : Nat) : Int)) := by rw [e1]; rfl
      rwa [List.getElem?_take, if_pos (by decide)] at this
    rw [List.getElem?_drop, Nat.add_zero] at h2
    rw [List.getD_eq_getElem?_getD, List.getElem?_eq_getElem hsl, Option.getD_some, ← h2]
    simp
  refine ⟨?_, hcell⟩
  have := World.block_lt_of_cell? W _ (hcell 0 (by decide))
  exact this
theorem open_bytes_cap {H : Type} {enc : TypeId × Value → H} {W : World} {base : Nat} {r : Reach} {b0 : Nat} {sp : Nat → Bool} {held : Bool} {v : Value} {d : DataW H} {p : List MemPlace}
    (hv : Value.okWide Tryd.prog W r b0 22 v) (h : DataW.Trod enc Tryd.prog W base sp held 22 v d p) :
    ∃ (l : List UInt8) (A : Option Addr) (c : Nat), v = .slice A l.length c ∧ Rd W W.heap.size A (bytesV l) ∧ l.length ≤ c ∧ c ≤ 9223372036854775807 := by
  have h9 := h
  obtain ⟨l, A, c, rfl, hr, hc, _⟩ := open_bytes_arg hv h
  refine ⟨l, A, c, rfl, hr, hc, ?_⟩
  obtain ⟨fuel, hf⟩ := h9
  rcases open_ints Tryd.underlying22 Tryd.underlying5 cells_u8 hf with ⟨e, _⟩ | ⟨a, len, cap, zs, e, _, _, hm, _⟩
  · simp [Value.cells] at e
    omega
  · simp [Value.cells] at e
    unfold maxLen at hm
    omega
end Go.Proofs.YtfpbcihpjcocmaaDoor
