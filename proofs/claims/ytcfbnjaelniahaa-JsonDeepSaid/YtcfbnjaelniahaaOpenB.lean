/-
  Opening a slice of bytes that came in.
-/
import Derived.Test.YtcfbnjaelniahaaOpen
namespace Go.Proofs.Ytcfbnjaelniahaa
set_option linter.unusedSimpArgs false
set_option linter.unusedVariables false
open Go.ChangeShapes Go.WideShapes Go.ChangeAt Go.RowKit Go.Joins

section
variable {H : Type} {enc : TypeId × Value → H} {P : Program}
theorem open_bytes_rd {t e : TypeId} {fuel : Nat} {cs : List Value} {x : DataW H × List MemPlace} {W : World} {base : Nat} {sp : Nat → Bool} {held : Bool} (ht : P.underlying t = some (.slice e)) (he : P.underlying e = some (.int .u8)) (hc : P.cellsOf e = 1)
    (h : DataW.trod enc P W base sp held fuel t cs = some x) : ∃ (A : Option Addr) (c : Nat) (l : List UInt8), cs = [.slice A l.length c] ∧ l.length ≤ c ∧ l.length ≤ maxLen ∧ Rd W W.heap.size A (bytesV l) := by
  rcases open_ints ht he hc h with ⟨rfl, _⟩ | ⟨a, len, cap, zs, rfl, _, hl, hm, hz, _, hcell, hwz⟩
  · exact ⟨none, 0, [], rfl, Nat.le_refl _, Nat.zero_le _, Rd.nil _ _ _⟩
  · have hlen : len ≤ zs.length := by rw [hz]; split <;> omega
    have hl2 : ((zs.take len).map fun n => UInt8.ofNat n.toNat).length = len := by simp; omega
    refine ⟨some a, cap, (zs.take len).map fun n => UInt8.ofNat n.toNat, by rw [hl2], by rw [hl2]; omega, by rw [hl2]; omega, fun i u hu => ?_⟩
    rw [bytesV, List.getElem?_map, List.getElem?_map] at hu
    obtain ⟨s, hs1, rfl⟩ := Option.map_eq_some_iff.1 hu
    obtain ⟨n, hn1, rfl⟩ := Option.map_eq_some_iff.1 hs1
    have hi : i < (zs.take len).length := (List.getElem?_eq_some_iff.1 hn1).1
    rw [List.length_take] at hi
    have hcl := hcell i (by omega)
    rw [List.getElem?_take, if_pos (by omega)] at hn1
    have e1 : zs.getD i 0 = n := by simp [List.getD, hn1]
    have hb := range_u8 hwz i
    rw [e1] at hcl
    have e2 : zs[i]?.getD 0 = n := by rw [hn1]; rfl
    rw [e2] at hb
    refine ⟨a, rfl, ?_, ?_⟩
    · have := World.block_lt_of_cell? W _ hcl
      rwa [block_of_add] at this
    · rw [hcl, byteV]
      congr 2
      simp only [UInt8.toNat_ofNat']
      omega
end
theorem cells_u8 : Try.prog.cellsOf 5 = 1 := by kernel_rfl
set_option maxRecDepth 100000 in
theorem open_bytes_arg {H : Type} {enc : TypeId × Value → H} {W : World} {base : Nat} {r : Reach} {b0 : Nat} {sp : Nat → Bool} {held : Bool} {v : Value} {d : DataW H} {p : List MemPlace}
    (hv : Value.okWide Try.prog W r b0 42 v) (h : DataW.Trod enc Try.prog W base sp held 42 v d p) :
    ∃ (l : List UInt8) (A : Option Addr) (c : Nat), v = .slice A l.length c ∧ Rd W W.heap.size A (bytesV l) ∧ l.length ≤ c ∧ l.length ≤ 9223372036854775807 := by
  obtain ⟨a1, len, cap, rfl⟩ := okWide_slice Try.underlying42 hv
  obtain ⟨fuel, hf⟩ := h
  obtain ⟨A, c, l, e, h1, h2, h3⟩ := open_bytes_rd Try.underlying42 Try.underlying5 cells_u8 hf
  simp [Value.cells] at e
  obtain ⟨rfl, rfl, rfl⟩ := e
  simp only [maxLen] at h2
  exact ⟨l, _, _, rfl, h3, h1, by omega⟩
end Go.Proofs.Ytcfbnjaelniahaa
