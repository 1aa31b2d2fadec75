/-
  Walks: the reference's Digits and Bytes.
-/
import Derived.Test.YtbeokfpbhemcfaaFr
namespace Go.Proofs.Ytbeokfpbhemcfaa
set_option linter.unusedSimpArgs false
set_option linter.unusedVariables false
open Go.RowKit

theorem sl_bytes : SlT Try.prog 22 5 1 1 := SlT.mk1 (z := .int .u8 0) Try.underlying22 (by kernel_rfl) rfl (by decide)
theorem sl_ints : SlT Try.prog 32 3 1 8 := SlT.mk1 (z := .int .i64 0) Try.underlying32 (by kernel_rfl) rfl (by decide)
def numV (n : Nat) : Value := .int .i64 (n : Int)
def dV (l : List Nat) : List Value := l.map numV
theorem dV_length (l : List Nat) : (dV l).length = l.length := by simp [dV]
theorem dV_append (l r : List Nat) : dV (l ++ r) = dV l ++ dV r := by simp [dV]
theorem dV_at {l : List Nat} {j : Nat} (h : j < l.length) : (dV l)[j]'(by rw [dV_length]; exact h) = .int .i64 ((l[j] : Nat) : Int) := by simp [dV, numV]
theorem take_snoc {α : Type} {l : List α} {k : Nat} (h : k < l.length) : l.take (k + 1) = l.take k ++ [l[k]] := List.take_succ_eq_append_getElem h
/-- digits that the call owns -/
def OwnPost (e0 : TypeId) (n : Nat) (xs : List Value) (w : World) (e : Ending) (w' : World) : Prop :=
  ∃ A c, e = .returned (.slice A n c) ∧ OwnX w' w.heap.size e0 1 (.slice A n c) n xs ∧ Below w.heap.size w w'
theorem below_grow {B : Nat} {w w1 w2 : World} {A : Option Addr} {n c : Nat} {e : TypeId} {xs : List Value} (hb : Below B w w1) (ho : OwnX w1 B e 1 (.slice A n c) n xs) (hB : B ≤ w1.heap.size) (hg : w1.grownBy w2 (Value.slice A n c).ownBlock) : Below B w w2 :=
  hb.grown hg hB fun k hk => (ho.lt k hk).1
set_option maxRecDepth 100000 in
set_option maxHeartbeats 2000000 in
theorem digits_any (l : List UInt8) (A : Option Addr) (c : Nat) (w : World) (hr : Rd w w.heap.size A (bytesV l)) (hc : l.length ≤ c) (hl : l.length ≤ 1000000) :
    Calls Try.prog 21 #[.slice A l.length c] w (OwnPost 3 l.length (dV (digs l)) w) := by
  obtain ⟨n, hn⟩ : ∃ n, n = l.length := ⟨_, rfl⟩
  rw [← hn]
  have hn63 : (n : Int) ≤ 1000000 := by omega
  have hown0 : OwnX w w.heap.size 3 1 (.slice none 0 0) 0 (dV ((digs l).take 0)) := OwnX.nil _ _ _ _
  have HR := Lib.hid hr
  have HN := Lib.hid hn
  have HOWN0 := Lib.hid hown0
  clear hr hn hc hl hown0
  go_enter Try.func21, Try.ntmps21
  go_wp2_with fail
  generalize hg : w.heap.size = g at *
  have HHG := Lib.hid hg
  clear hg
  go_loopw [3, 4] (fun v i wr => ∃ (k : Nat) (A1 : Option Addr) (c1 : Nat), k ≤ n ∧ i = .int .i64 k ∧ v = .slice A1 k c1 ∧ OwnX wr g 3 1 (.slice A1 k c1) k (dV ((digs l).take k)) ∧ Below g w wr) (fun _ i _ => n - (intOf i).toNat)
  case atStart => exact ⟨0, none, 0, by omega, rfl, rfl, HOWN0.out, Below.refl _ _⟩
  case round =>
    clear HOWN0
    obtain ⟨k, A1, c1, hk, rfl, rfl, hown, hbel⟩ := hrel
    by_cases hlt : k < n
    · have hlt' : (k : Int) < (n : Int) := by omega
      have hkl : k < l.length := by rw [← HN.out]; exact hlt
      have hrd := HR.out.below hbel
      obtain ⟨ad, rfl, hadl, hcell⟩ := hrd.at_ (k := k) (by rw [bytesV_length]; exact hkl)
      obtain ⟨b, hb⟩ : ∃ b, b = l[k].toNat := ⟨_, rfl⟩
      have hbl : (b : Int) < 256 := by have := l[k].toNat_lt; omega
      have hbv : (bytesV l)[k]'(by rw [bytesV_length]; exact hkl) = .int .u8 (b : Int) := by
        rw [hb]; simp [bytesV, byteV]
      rw [hbv] at hcell
      have hnext : (digs l).take (k + 1) = (digs l).take k ++ [b] := by
        rw [take_snoc (by rw [digs, List.length_map]; exact hkl), hb]
        simp [digs]
      have hsz : g ≤ wr.heap.size := by rw [← HHG.out]; exact (by rw [← HHG.out] at hbel; exact hbel.size)
      have HOWN := Lib.hid hown
      have HBEL := Lib.hid hbel
      have HNEXT := Lib.hid hnext
      have HSZ := Lib.hid hsz
      clear hown hbel hnext hrd hbv hb hkl hsz
      go_wp2_with (refine wpList_append_one sl_ints rfl rfl HOWN.out rfl rfl rfl rfl (by unfold maxLen; omega) (by omega) HSZ.out ?_; intro A2 c2 w2 hown2 hg2 hn2; have HOWN2 := Lib.hid hown2; have HG2 := Lib.hid hg2; clear hown2 hg2 hn2)
      refine ⟨⟨k + 1, A2, c2, by omega, by go_num, rfl, ?_, below_grow HBEL.out HOWN.out HSZ.out HG2.out⟩, by simp [intOf]; omega⟩
      rw [HNEXT.out, dV_append]
      exact HOWN2.out
    · obtain rfl : k = n := by omega
      have HOWN := Lib.hid hown
      have HBEL := Lib.hid hbel
      clear hown hbel
      go_wp2_with fail
      go_ret
      refine ⟨A1, c1, rfl, ?_, by rw [HHG.out]; exact HBEL.out⟩
      rw [HHG.out]
      have h := HOWN.out
      rw [List.take_of_length_le (by rw [digs, List.length_map, HN.out]; exact Nat.le_refl _)] at h
      exact h
/-- the 32 bytes of digits -/
def refB (l : List Nat) : List UInt8 := (List.range 32).map fun i => UInt8.ofNat (l.getD i 0)
set_option maxRecDepth 100000 in
set_option maxHeartbeats 2000000 in
theorem rbytes_any (l : List Nat) (hd : ∀ d ∈ l, d < 256) (A : Option Addr) (c : Nat) (w : World) (hr : Rd w w.heap.size A (dV l)) (hc : l.length ≤ c) (hl : l.length ≤ 1000000) :
    Calls Try.prog 19 #[.slice A l.length c] w (OwnPost 5 32 (bytesV (refB l)) w) := by
  obtain ⟨n, hn⟩ : ∃ n, n = l.length := ⟨_, rfl⟩
  rw [← hn]
  have hn63 : (n : Int) ≤ 1000000 := by omega
  have hown0 : OwnX w w.heap.size 5 1 (.slice none 0 0) 0 (bytesV ((refB l).take 0)) := OwnX.nil _ _ _ _
  have hd' : ∀ k, l.getD k 0 < 256 := fun k => by
    rw [List.getD_eq_getElem?_getD]
    by_cases h : k < l.length
    · rw [List.getElem?_eq_getElem h]; exact hd _ (List.getElem_mem h)
    · rw [List.getElem?_eq_none (by omega)]; decide
  have HR := Lib.hid hr
  have HN := Lib.hid hn
  have HD := Lib.hid hd'
  have HOWN0 := Lib.hid hown0
  clear hr hn hc hl hown0 hd hd'
  go_enter Try.func19, Try.ntmps19
  go_wp2_with fail
  generalize hg : w.heap.size = g at *
  have HHG := Lib.hid hg
  clear hg
  go_loopw [3, 4] (fun v i wr => ∃ (k : Nat) (A1 : Option Addr) (c1 : Nat), k ≤ 32 ∧ i = .int .i64 k ∧ v = .slice A1 k c1 ∧ OwnX wr g 5 1 (.slice A1 k c1) k (bytesV ((refB l).take k)) ∧ Below g w wr) (fun _ i _ => 32 - (intOf i).toNat)
  case atStart => exact ⟨0, none, 0, by omega, rfl, rfl, HOWN0.out, Below.refl _ _⟩
  case round =>
    clear HOWN0
    obtain ⟨k, A1, c1, hk, rfl, rfl, hown, hbel⟩ := hrel
    by_cases hlt : k < 32
    · have hlt' : (k : Int) < 32 := by omega
      have hrd := HR.out.below hbel
      obtain ⟨b, hb⟩ : ∃ b, b = l.getD k 0 := ⟨_, rfl⟩
      have hbl : (b : Int) < 256 := by have := HD.out k; omega
      have hnext : (refB l).take (k + 1) = (refB l).take k ++ [UInt8.ofNat b] := by
        rw [take_snoc (by rw [refB, List.length_map, List.length_range]; exact hlt), hb]
        simp [refB]
      have hbv : byteV (UInt8.ofNat b) = .int .u8 (b : Int) := by
        rw [byteV, UInt8.toNat_ofNat', Nat.mod_eq_of_lt (by omega)]
      have hsz : g ≤ wr.heap.size := by rw [← HHG.out]; exact (by rw [← HHG.out] at hbel; exact hbel.size)
      have HOWN := Lib.hid hown
      have HBEL := Lib.hid hbel
      have HNEXT := Lib.hid hnext
      have HSZ := Lib.hid hsz
      have HBV := Lib.hid hbv
      by_cases hkn : k < n
      · have hkn' : (k : Int) < (n : Int) := by omega
        have hkl : k < l.length := by rw [← HN.out]; exact hkn
        obtain ⟨ad, rfl, hadl, hcell⟩ := hrd.at_ (k := k) (by rw [dV_length]; exact hkl)
        rw [dV_at hkl, show l[k] = b by rw [hb, List.getD_eq_getElem?_getD, List.getElem?_eq_getElem hkl]; rfl] at hcell
        clear hown hbel hnext hrd hb hkl hsz hbv
        go_wp2_with (refine wpList_append_one sl_bytes rfl rfl HOWN.out rfl rfl rfl rfl (by unfold maxLen; omega) (by omega) HSZ.out ?_; intro A2 c2 w2 hown2 hg2 hn2; have HOWN2 := Lib.hid hown2; have HG2 := Lib.hid hg2; clear hown2 hg2 hn2)
        refine ⟨⟨k + 1, A2, c2, by omega, by go_num, rfl, ?_, below_grow HBEL.out HOWN.out HSZ.out HG2.out⟩, by simp [intOf]; omega⟩
        rw [HNEXT.out, bytesV_append, show bytesV [UInt8.ofNat b] = [byteV (UInt8.ofNat b)] from rfl, HBV.out]
        exact HOWN2.out
      · have hkn' : ¬ (k : Int) < (n : Int) := by omega
        have hb0 : b = 0 := by rw [hb, List.getD_eq_getElem?_getD, List.getElem?_eq_none (by rw [← HN.out]; omega)]; rfl
        subst hb0
        clear hown hbel hnext hrd hb hsz hbv
        go_wp2_with (refine wpList_append_one sl_bytes rfl rfl HOWN.out rfl rfl rfl rfl (by unfold maxLen; omega) (by omega) HSZ.out ?_; intro A2 c2 w2 hown2 hg2 hn2; have HOWN2 := Lib.hid hown2; have HG2 := Lib.hid hg2; clear hown2 hg2 hn2)
        refine ⟨⟨k + 1, A2, c2, by omega, by go_num, rfl, ?_, below_grow HBEL.out HOWN.out HSZ.out HG2.out⟩, by simp [intOf]; omega⟩
        rw [HNEXT.out, bytesV_append]
        exact HOWN2.out
    · obtain rfl : k = 32 := by omega
      have HOWN := Lib.hid hown
      have HBEL := Lib.hid hbel
      clear hown hbel
      go_wp2_with fail
      go_ret
      refine ⟨A1, c1, rfl, ?_, by rw [HHG.out]; exact HBEL.out⟩
      rw [HHG.out]
      have h := HOWN.out
      rw [List.take_of_length_le (by rw [refB, List.length_map, List.length_range]; exact Nat.le_refl _)] at h
      exact h
end Go.Proofs.Ytbeokfpbhemcfaa
