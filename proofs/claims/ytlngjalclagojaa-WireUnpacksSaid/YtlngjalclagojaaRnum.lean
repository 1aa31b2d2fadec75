/-
  The walks of the reference's number and text.
-/
import Derived.Test.YtlngjalclagojaaTxt
import Derived.BigQuiet
import Derived.Deep.QuietTactic
import Derived.IntWalk
namespace Go.Proofs.Ytlngjalclagojaa
open Go.RowKit

theorem blk_setCell_at {w : World} {g i : Nat} {t : TypeId} {cs : Array Value} (h : Blk w g t cs) (u : Value) : Blk (w.setCell ⟨g, i, none⟩ u) g t (cs.setIfInBounds i u) := by
  unfold Blk at *
  simp only [World.setCell, Array.getElem?_modify, if_pos, h]
  rfl
theorem wrote_setCell_at (w : World) (g i : Nat) (u : Value) : Wrote g w (w.setCell ⟨g, i, none⟩ u) :=
  ⟨⟨rfl, rfl, rfl, by simp [World.setCell], fun k _ hk => Below.heap_setCell _ _ _ _ (by simpa using hk)⟩, by simp [World.setCell]⟩
theorem blk_drewN {w : World} {g : Nat} {t : TypeId} {cs : Array Value} (h : Blk w g t cs) (n : Nat) : Blk (w.drewN n) g t cs := h
theorem wrote_drewN (w : World) (g n : Nat) : Wrote g w (w.drewN n) := ⟨⟨rfl, rfl, rfl, Nat.le_refl _, fun _ _ _ => rfl⟩, rfl⟩
theorem wrote_trans {g : Nat} {w w1 w2 : World} (h : Wrote g w w1) (h2 : Wrote g w1 w2) : Wrote g w w2 :=
  ⟨⟨h2.grown.os.trans h.grown.os, h2.grown.tape.trans h.grown.tape, h2.grown.output.trans h.grown.output, by rw [h2.size, h.size]; exact Nat.le_refl _, fun k hk hne => (h2.grown.block k (by rw [h.size]; exact hk) hne).trans (h.grown.block k hk hne)⟩, h2.size.trans h.size⟩
theorem wrote_rd {w w' : World} {g B : Nat} {A : Option Addr} {xs : List Value} (h : Wrote g w w') (hr : Rd w B A xs) (hB : B ≤ g) (hs : B ≤ w.heap.size) : Rd w' B A xs := hr.below (h.below (Below.refl _ _) hB hs)

/-- the reference's reader, as it lies -/
structure RIn (w : World) (B g : Nat) (b : List UInt8) (s : Rs) : Prop where
  box : ∃ A c, ∃ i : Nat, Blk w g 46 #[.slice A b.length c, .int .i64 i, .bool s.short] ∧ b.length ≤ c ∧ Rd w B A (bytesV b) ∧ i ≤ b.length ∧ s.rest = if s.short then [] else b.drop i
  lo : B ≤ g
  fit : b.length ≤ 140737488355328

theorem takeS_end {n : Nat} {s : Rs} (hs : s.short = true) (hr : s.rest = []) : takeS n s = ([], ⟨[], true⟩) := by
  obtain ⟨r, t⟩ := s
  dsimp only at hs hr
  subst hs hr
  unfold takeS
  split
  · rfl
  · simp
theorem step_mul (l : List UInt8) (c : UInt8) : wrap64 (wrap64 (256 * wrap64 (natOf l : Int)) + (c.toNat : Int)) = wrap64 (natOf (l ++ [c]) : Int) := by
  rw [natOf_snoc]
  unfold wrap64
  omega

set_option maxHeartbeats 2000000 in
theorem rnumber_any (B g n : Nat) (b : List UInt8) (s : Rs) (w : World) (h : RIn w B g b s) (hn : n ≤ 8) :
    Calls Try.prog 23 #[.pointer (some ⟨g, 0, none⟩), .int .i64 n] w fun e w' => e = .returned (.int .i64 (numS n s).1) ∧ RIn w' B g b (numS n s).2 ∧ Wrote g w w' := by
  obtain ⟨⟨A, c, i, hbox, hc, hrd, hi, hrest⟩, hlo, hfit⟩ := h
  have c0 := hbox.cell 0
  have c1 := hbox.cell 1
  have c2 := hbox.cell 2
  have f0 := hbox.free 0
  have f1 := hbox.free 1
  have f2 := hbox.free 2
  simp only [List.getElem?_toArray, List.getElem?_cons_zero, List.getElem?_cons_succ] at c0 c1 c2
  have HBOX := Lib.hid hbox
  have HRD := Lib.hid hrd
  have HREST := Lib.hid hrest
  clear hbox hrd hrest
  cases hsh : s.short with
  | true =>
    have HSH := Lib.hid hsh
    rw [hsh] at c2
    clear hsh
    go_enter Try.func23, Try.ntmps23
    go_wp2
    go_quiet (fail)
    go_wp2_with fail
    go_ret
    have hw := wrote_trans (wrote_drewN w g nq) (wrote_setCell_at (w.drewN nq) g 2 (.bool true))
    have hb2 := blk_setCell_at (i := 2) (blk_drewN HBOX.out nq) (.bool true)
    have ht := takeS_end (n := n) HSH.out (by rw [HREST.out, HSH.out]; rfl)
    have hlt : g < w.heap.size := HBOX.out.lt
    rw [numS, ht]
    exact ⟨ret_int (by simp [natOf, wrap64]), ⟨⟨A, c, i, hb2, hc, wrote_rd hw HRD.out hlo (by omega), hi, rfl⟩, hlo, hfit⟩, hw⟩
  | false =>
    have HSH := Lib.hid hsh
    rw [hsh] at c2
    clear hsh
    have hb' : (b.drop i).length = b.length - i := by simp
    by_cases hgt : b.length < i + n
    · have hgt' : (b.length : Int) < (i : Int) + (n : Int) := by omega
      have ht : takeS n s = ([], ⟨[], true⟩) := takeS_short (by rw [HREST.out, HSH.out]; simp; omega)
      have HT := Lib.hid ht
      clear ht hb'
      go_enter Try.func23, Try.ntmps23
      go_wp2
      go_quiet (fail)
      go_wp2_with fail
      go_ret
      have hw := wrote_trans (wrote_drewN w g nq) (wrote_setCell_at (w.drewN nq) g 2 (.bool true))
      have hb2 := blk_setCell_at (i := 2) (blk_drewN HBOX.out nq) (.bool true)
      have hlt : g < w.heap.size := HBOX.out.lt
      rw [numS, HT.out]
      exact ⟨ret_int (by simp [natOf, wrap64]), ⟨⟨A, c, i, hb2, hc, wrote_rd hw HRD.out hlo (by omega), hi, rfl⟩, hlo, hfit⟩, hw⟩
    · have hle' : ¬ (b.length : Int) < (i : Int) + (n : Int) := by omega
      have ht : takeS n s = ((b.drop i).take n, ⟨b.drop (i + n), false⟩) := by
        rw [takeS_all (by rw [HREST.out, HSH.out]; simp; omega), HREST.out, HSH.out]
        simp
      have HT := Lib.hid ht
      clear ht hb'
      go_enter Try.func23, Try.ntmps23
      go_wp2
      go_quiet (fail)
      go_wp2_with fail
      go_loopw [5, 6] (fun v j wr => ∃ k q : Nat, k ≤ n ∧ j = .int .i64 k ∧ v = .int .i64 (wrap64 (natOf ((b.drop i).take k) : Int)) ∧ wr = w.drewN q) (fun _ j _ => n - (intOf j).toNat)
      case atStart => exact ⟨0, nq, Nat.zero_le _, rfl, by simp [natOf, wrap64], rfl⟩
      case round =>
        obtain ⟨k, q, hk, rfl, rfl, rfl⟩ := hrel
        by_cases hlt : k < n
        · have hlt' : (k : Int) < (n : Int) := by omega
          have hik : i + k < b.length := by omega
          obtain ⟨ad, rfl, _, hcell⟩ := HRD.out.at_ (k := i + k) (by rw [bytesV_length]; exact hik)
          simp only [bytesV, List.getElem_map, byteV] at hcell
          obtain ⟨z, hz⟩ : ∃ z, z = b[i + k] := ⟨_, rfl⟩
          rw [← hz] at hcell
          have hst : (b.drop i).take (k + 1) = (b.drop i).take k ++ [z] := by
            rw [List.take_add_one, List.getElem?_drop, List.getElem?_eq_getElem hik, hz]; rfl
          have HST := Lib.hid hst
          have hzl := z.toNat_lt
          have h1 : (i : Int) + (k : Int) < (b.length : Int) := by omega
          have h2 : (0 : Int) ≤ (i : Int) + (k : Int) := by omega
          have h3 : ((i : Int) + (k : Int)).toNat = i + k := by omega
          have h4 : IntKind.i64.wrap ((i : Int) + (k : Int)) = (i : Int) + (k : Int) := IntWalk.i64_in _ (by omega)
          clear hst hz
          go_wp2_with fail
          go_quiet (fail)
          go_wp2_with fail
          clear h4 h3
          exact ⟨⟨k + 1, q + nq, hlt, by go_num, by rw [HST.out, step_mul], rfl⟩, by simp [intOf]; omega⟩
        · obtain rfl : k = n := by omega
          go_wp2_with fail
          go_ret
          have hw := wrote_trans (wrote_drewN w g q) (wrote_setCell_at (w.drewN q) g 1 (.int .i64 (i + k)))
          have hb2 := blk_setCell_at (i := 1) (blk_drewN HBOX.out q) (.int .i64 (i + k))
          have hlt : g < w.heap.size := HBOX.out.lt
          rw [numS, HT.out]
          rw [HSH.out] at hb2
          exact ⟨rfl, ⟨⟨A, c, i + k, by simpa using hb2, hc, wrote_rd hw HRD.out hlo (by omega), by omega, by simp⟩, hlo, hfit⟩, hw⟩

def rtxtS (n : Nat) (s : Rs) : ByteArray × Rs := (⟨(takeS n s).1.toArray⟩, (takeS n s).2)
set_option maxHeartbeats 2000000 in
theorem rtext_any (B g n : Nat) (b : List UInt8) (s : Rs) (w : World) (h : RIn w B g b s) (hn : n ≤ 65535) :
    Calls Try.prog 24 #[.pointer (some ⟨g, 0, none⟩), .int .i64 n] w fun e w' => e = .returned (.string (rtxtS n s).1) ∧ RIn w' B g b (rtxtS n s).2 ∧ Wrote g w w' := by
  obtain ⟨⟨A, c, i, hbox, hc, hrd, hi, hrest⟩, hlo, hfit⟩ := h
  have c0 := hbox.cell 0
  have c1 := hbox.cell 1
  have c2 := hbox.cell 2
  have f0 := hbox.free 0
  have f1 := hbox.free 1
  have f2 := hbox.free 2
  simp only [List.getElem?_toArray, List.getElem?_cons_zero, List.getElem?_cons_succ] at c0 c1 c2
  have HBOX := Lib.hid hbox
  have HRD := Lib.hid hrd
  have HREST := Lib.hid hrest
  clear hbox hrd hrest
  cases hsh : s.short with
  | true =>
    have HSH := Lib.hid hsh
    rw [hsh] at c2
    clear hsh
    go_enter Try.func24, Try.ntmps24
    go_wp2
    go_quiet (fail)
    go_wp2_with fail
    go_ret
    have hw := wrote_trans (wrote_drewN w g nq) (wrote_setCell_at (w.drewN nq) g 2 (.bool true))
    have hb2 := blk_setCell_at (i := 2) (blk_drewN HBOX.out nq) (.bool true)
    have ht := takeS_end (n := n) HSH.out (by rw [HREST.out, HSH.out]; rfl)
    have hlt : g < w.heap.size := HBOX.out.lt
    rw [rtxtS, ht]
    exact ⟨rfl, ⟨⟨A, c, i, hb2, hc, wrote_rd hw HRD.out hlo (by omega), hi, rfl⟩, hlo, hfit⟩, hw⟩
  | false =>
    have HSH := Lib.hid hsh
    rw [hsh] at c2
    clear hsh
    have hb' : (b.drop i).length = b.length - i := by simp
    by_cases hgt : b.length < i + n
    · have hgt' : (b.length : Int) < (i : Int) + (n : Int) := by omega
      have ht : takeS n s = ([], ⟨[], true⟩) := takeS_short (by rw [HREST.out, HSH.out]; simp; omega)
      have HT := Lib.hid ht
      clear ht hb'
      go_enter Try.func24, Try.ntmps24
      go_wp2
      go_quiet (fail)
      go_wp2_with fail
      go_ret
      have hw := wrote_trans (wrote_drewN w g nq) (wrote_setCell_at (w.drewN nq) g 2 (.bool true))
      have hb2 := blk_setCell_at (i := 2) (blk_drewN HBOX.out nq) (.bool true)
      have hlt : g < w.heap.size := HBOX.out.lt
      rw [rtxtS, HT.out]
      exact ⟨rfl, ⟨⟨A, c, i, hb2, hc, wrote_rd hw HRD.out hlo (by omega), hi, rfl⟩, hlo, hfit⟩, hw⟩
    · have hle' : ¬ (b.length : Int) < (i : Int) + (n : Int) := by omega
      have ht : takeS n s = ((b.drop i).take n, ⟨b.drop (i + n), false⟩) := by
        rw [takeS_all (by rw [HREST.out, HSH.out]; simp; omega), HREST.out, HSH.out]
        simp
      have HT := Lib.hid ht
      clear ht hb'
      go_enter Try.func24, Try.ntmps24
      go_wp2
      go_quiet (fail)
      go_wp2_with fail
      have hw := wrote_trans (wrote_drewN w g nq) (wrote_setCell_at (w.drewN nq) g 1 (.int .i64 (i + n)))
      have hb2 := blk_setCell_at (i := 1) (blk_drewN HBOX.out nq) (.int .i64 (i + n))
      have hlt : g < w.heap.size := HBOX.out.lt
      have hrd2 := wrote_rd hw HRD.out hlo (by omega)
      generalize (w.drewN nq).setCell ⟨g, 1, none⟩ (.int .i64 (i + n)) = w2 at *
      rw [HSH.out] at hb2
      have hz : (b.drop i).take n = ((b.drop i).take n) := rfl
      have hlen : ((b.drop i).take n).length = n := by simp; omega
      have c20 := hb2.cell 0
      have c21 := hb2.cell 1
      simp at c20 c21
      have HB2 := Lib.hid hb2
      have HW := Lib.hid hw
      have h5 : IntKind.i64.wrap ((i : Int) + (n : Int) - (n : Int)) = (i : Int) := by rw [show (i : Int) + (n : Int) - (n : Int) = (i : Int) by omega]; exact IntWalk.i64_in _ (by omega)
      by_cases hci : c = i
      · have hn0 : n = 0 := by omega
        subst hci hn0
        have hcv : ∀ q, (convert 26 9 (.slice A 0 0)).run Try.prog (w2.drewN q) = .ok (.string ⟨#[]⟩) (w2.drewN q) := fun q => run_str_of Try.underlying26 Try.underlying5 Try.underlying9 (l := []) (Rd.nil (w2.drewN q) B A) 0
        clear hb2 hw hz hlen
        go_quiet (fail)
        go_wp2_with fail
        go_ret
        have hw3 := wrote_trans HW.out (wrote_drewN w2 g nq)
        have hb3 := blk_drewN HB2.out nq
        rw [rtxtS, HT.out]
        exact ⟨by simp, ⟨⟨A, c, c, by simpa using hb3, hc, wrote_rd hw3 HRD.out hlo (by omega), by omega, by simp⟩, hlo, hfit⟩, hw3⟩
      · have hcv : ∀ q, (convert 26 9 (.slice (A.map fun x => x.add i) n (c - i))).run Try.prog (w2.drewN q) = .ok (.string ⟨((b.drop i).take n).toArray⟩) (w2.drewN q) := fun q => by
          have h6 : Rd (w2.drewN q) B (A.map fun x => x.add i) (bytesV ((b.drop i).take n)) := by
            rw [bytesV, List.map_take, List.map_drop]; exact (hrd2.drop' i).take n
          have := run_str_of (P := Try.prog) Try.underlying26 Try.underlying5 Try.underlying9 h6 (c - i)
          rwa [hlen] at this
        clear hb2 hw hz hlen
        go_quiet (fail)
        go_wp2_with fail
        go_ret
        have hw3 := wrote_trans HW.out (wrote_drewN w2 g nq)
        have hb3 := blk_drewN HB2.out nq
        rw [rtxtS, HT.out]
        exact ⟨rfl, ⟨⟨A, c, i + n, by simpa using hb3, hc, wrote_rd hw3 HRD.out hlo (by omega), by omega, by simp⟩, hlo, hfit⟩, hw3⟩
end Go.Proofs.Ytlngjalclagojaa
