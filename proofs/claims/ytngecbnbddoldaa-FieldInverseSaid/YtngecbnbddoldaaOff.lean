/-
  Walk: the law's of.
-/
import Derived.Test.YtngecbnbddoldaaLk
namespace Go.Proofs.Ytngecbnbddoldaa
set_option linter.unusedSimpArgs false
set_option linter.unusedVariables false
open Go.RowKit

/-- 32 digits of the first 31 bytes -/
def padD (l : List UInt8) : List Nat := digs (l.take 31) ++ List.replicate (32 - (l.take 31).length) 0
theorem padD_dg (l : List UInt8) : Dg (padD l) := fun d h => by
  rcases List.mem_append.1 h with h | h
  · exact digs_lt _ d h
  · rw [List.eq_of_mem_replicate h]; decide
theorem padD_length (l : List UInt8) : (padD l).length = 32 := by
  have h : (l.take 31).length ≤ 31 := by rw [List.length_take]; omega
  rw [padD, List.length_append, digs, List.length_map, List.length_replicate]
  omega
def numB (l : List UInt8) : Nat := leV (digs (l.take 31))
theorem padD_val (l : List UInt8) : leV (padD l) = numB l := by
  rw [padD, leV_append, leV_replicate, Nat.mul_zero, Nat.add_zero]; rfl
theorem numB_lt (l : List UInt8) : numB l < 256 ^ 31 := by
  have h : (digs (l.take 31)).length ≤ 31 := by rw [digs, List.length_map, List.length_take]; omega
  exact leV_big (digs_lt _) h
theorem refB_digs {l : List Nat} (h : Dg l) (hl : l.length = 32) : digs (refB l) = l := by
  have h1 : (refB l).map UInt8.toNat = (List.range 32).map fun i => l.getD i 0 := by
    rw [refB, List.map_map]
    apply List.map_congr_left
    intro i _
    show (UInt8.ofNat (l.getD i 0)).toNat = _
    rw [UInt8.toNat_ofNat', Nat.mod_eq_of_lt (dg_getD h i)]
  rw [digs, h1]
  apply List.ext_getElem?
  intro j
  by_cases hj : j < 32
  · rw [List.getElem?_map, List.getElem?_range hj, List.getElem?_eq_getElem (by omega)]
    simp [List.getD_eq_getElem?_getD, List.getElem?_eq_getElem (show j < l.length by omega)]
  · rw [List.getElem?_eq_none (by simp; omega), List.getElem?_eq_none (by omega)]
def ofE (l : List UInt8) : E5 := ofN (numB l)
theorem of_may (l : List UInt8) : mayR (refB (padD l)) = true := by
  rw [mayR, refB_digs (padD_dg l) (padD_length l), padD_val, refB_length, decide_eq_true_iff]
  exact ⟨rfl, Nat.lt_trans (numB_lt l) (by decide)⟩
theorem of_read (l : List UInt8) : readE (refB (padD l)) = ofE l := by
  rw [readE, if_pos (of_may l), refB_digs (padD_dg l) (padD_length l), padD_val]; rfl
def lenOf : Value → Nat | .slice _ n _ => n | _ => 0
def OfPost (l : List UInt8) (w : World) (e : Ending) (w' : World) : Prop :=
  ∃ v, e = .returned (.tuple #[.agg (eV (ofE l)), v]) ∧ RdV 32 (dV (padD l)) v w' ∧ Below w.heap.size w w'
theorem pad_step {D : List Nat} {n k : Nat} (h : n ≤ k) : D ++ List.replicate (k + 1 - n) 0 = D ++ List.replicate (k - n) 0 ++ [0] := by
  rw [show k + 1 - n = (k - n) + 1 by omega, List.replicate_succ', List.append_assoc]
set_option maxRecDepth 100000 in
set_option maxHeartbeats 2000000 in
theorem of_any (l : List UInt8) (A : Option Addr) (c : Nat) (w : World) (hr : Rd w w.heap.size A (bytesV l)) (hc : l.length ≤ c) :
    Calls Try.prog 19 #[.slice A l.length c] w (OfPost l w) := by
  have hu := Try.underlying26
  obtain ⟨n, hn⟩ : ∃ n, n = l.length := ⟨_, rfl⟩
  rw [← hn]
  have hc63 : (n : Int) ≤ (c : Int) := by omega
  obtain ⟨w0, hw0⟩ : ∃ w0, w0 = w.alloc (.cells (eV zE) 26) := ⟨_, rfl⟩
  have hb0 : Blk w0 w.heap.size 26 (eV zE) := by rw [hw0]; exact Blk.new _ _ _
  have hbel0 : Below w.heap.size w w0 := by rw [hw0]; exact below_new _ _
  have hsz0 : w0.heap.size = w.heap.size + 1 := by rw [hw0]; simp
  obtain ⟨L, hL⟩ : ∃ L, L = l.take 31 := ⟨_, rfl⟩
  obtain ⟨m, hm⟩ : ∃ m, m = L.length := ⟨_, rfl⟩
  have hmn : m = min 31 n := by rw [hm, hL, List.length_take, hn]
  have hr0 : Rd w0 w0.heap.size A (bytesV L) := by
    have h1 := (hr.below hbel0).mono (by rw [hsz0]; omega : w.heap.size ≤ w0.heap.size)
    intro i u hi
    refine h1 i u ?_
    rw [hL, bytesV, List.getElem?_map, List.getElem?_take] at hi
    rw [bytesV, List.getElem?_map]
    split at hi
    · exact hi
    · simp at hi
  have hm31 : m ≤ 31 := by omega
  have hcall : ∀ c, m ≤ c → Calls Try.prog 16 #[.slice A m c] w0 (OwnPost 3 m (dV (digs L)) w0) := fun c hc => by
    have h := digits_any L A c w0 hr0 (by omega) (by omega)
    rw [← hm] at h
    exact h
  have HCALL := Lib.hid hcall
  have HB0 := Lib.hid hb0
  have HBEL0 := Lib.hid hbel0
  have HSZ0 := Lib.hid hsz0
  have HL := Lib.hid hL
  have HM := Lib.hid hm
  have hnil : A = none → (n : Int) = 0 := fun h => by
    by_cases h0 : 0 < l.length
    · obtain ⟨ad, h1, _⟩ := hr.at_ (k := 0) (by rw [bytesV_length]; exact h0)
      rw [h] at h1; cases h1
    · omega
  have HW0 := Lib.hid hw0
  clear hr hn hc hb0 hbel0 hsz0 hL hm hcall hr0 hw0
  by_cases hlt : 31 < n
  · obtain rfl : m = 31 := by omega
    obtain ⟨ad, rfl⟩ : ∃ ad, A = some ad := by
      cases A with
      | none => have := hnil rfl; omega
      | some ad => exact ⟨ad, rfl⟩
    have hlt' : (31 : Int) < (n : Int) := by omega
    clear hnil hm31 hmn hlt
    go_enter Try.func19, Try.ntmps19
    go_wp2_with fail
    rw [show w.alloc (.cells #[.int .u64 0, .int .u64 0, .int .u64 0, .int .u64 0, .int .u64 0] 26) = w0 from HW0.out.symm]
    refine calls_then (HCALL.out c (by omega)) ?_
    rintro e w2 ⟨A2, c2, rfl, hown2, hbel2⟩
    clear HCALL
    have hst0 : OwnX w2 w0.heap.size 3 1 (.slice A2 31 c2) 31 (dV (digs L ++ List.replicate (31 - 31) 0)) := by
      rw [Nat.sub_self, List.replicate_zero, List.append_nil]; exact hown2
    have HO0 := Lib.hid hst0
    have HBEL2 := Lib.hid hbel2
    clear hown2 hbel2 hst0
    generalize hg : w.heap.size = g at *
    generalize hg0 : w0.heap.size = g0 at *
    have HG := Lib.hid hg
    have HG0 := Lib.hid hg0
    clear hg hg0
    go_wp2_with fail
    go_loopw [4] (fun v wr => ∃ (k : Nat) (A1 : Option Addr) (c1 : Nat), 31 ≤ k ∧ k ≤ 32 ∧ v = .slice A1 k c1 ∧ OwnX wr g0 3 1 (.slice A1 k c1) k (dV (digs L ++ List.replicate (k - 31) 0)) ∧ Below g0 w0 wr) (fun v _ => 32 - lenOf v)
    case atStart => exact ⟨31, A2, c2, Nat.le_refl _, by omega, rfl, HO0.out, HBEL2.out⟩
    case round =>
      clear HO0
      obtain ⟨k, A1, c1, hmk, hk, rfl, hown, hbel⟩ := hrel
      have hsz : g0 ≤ wr.heap.size := by rw [← HG0.out]; exact (by rw [← HG0.out] at hbel; exact hbel.size)
      by_cases hltk : k < 32
      · have hltk' : (k : Int) < 32 := by omega
        have hpad := pad_step (D := digs L) hmk
        have HOWN := Lib.hid hown
        have HBEL := Lib.hid hbel
        have HPAD := Lib.hid hpad
        have HSZ := Lib.hid hsz
        have HK := Lib.hid hk
        have HMK := Lib.hid hmk
        have HLTK := Lib.hid hltk
        clear hown hbel hpad hsz hk hmk hltk
        go_wp2_with (refine wpList_append_one sl_ints rfl rfl HOWN.out rfl rfl rfl rfl (by unfold maxLen; omega) (by omega) HSZ.out ?_; intro A3 c3 w3 hown3 hg3 hn3; have HOWN3 := Lib.hid hown3; have HG3 := Lib.hid hg3; clear hown3 hg3 hn3)
        refine ⟨⟨k + 1, A3, c3, by have := HMK.out; omega, by have := HLTK.out; omega, rfl, ?_, below_grow HBEL.out HOWN.out HSZ.out HG3.out⟩, by have := HLTK.out; simp [lenOf]; omega⟩
        rw [HPAD.out, dV_append]
        exact HOWN3.out
      · obtain rfl : k = 32 := by omega
        rw [show digs L ++ List.replicate (32 - 31) 0 = padD l by rw [padD, ← HL.out, ← HM.out]] at hown
        have hrd := Rd.of_own hown (Nat.le_refl _)
        have hcb := rbytes_any (padD l) (padD_dg l) A1 c1 wr hrd (by rw [padD_length]; exact hown.le_cap) (by rw [padD_length]; omega)
        rw [padD_length] at hcb
        have hel : Below g w wr := by
          have h1 := HBEL0.out
          have h2 := hbel.mono (show g ≤ g0 by have := HSZ0.out; omega)
          exact h1.trans h2
        have hbl : Blk wr g 26 (eV zE) := HB0.out.below hbel (by have := HSZ0.out; omega)
        have HEL := Lib.hid hel
        have HBL := Lib.hid hbl
        have HOW := Lib.hid hown
        have HCB := Lib.hid hcb
        have hgsz : g ≤ wr.heap.size := by have := HSZ0.out; omega
        clear hown hrd hcb hel hbel hbl hk hmk hsz hltk HBEL2 HB0 HBEL0 HL HM
        go_wp2_with fail
        refine calls_then HCB.out ?_
        rintro e w3 ⟨A3, c3, rfl, hown3, hbel3⟩
        have hle3 := hown3.le_cap
        have hcr := read_any (refB (padD l)) A3 c3 w3 (Rd.of_own hown3 (Nat.le_refl _)) (by rw [refB_length]; exact hle3) (by rw [refB_length]; omega)
        rw [refB_length] at hcr
        have hel3 := HEL.out.trans (hbel3.mono hgsz)
        have hbl3 := HBL.out.below hbel3 HBL.out.lt
        have how3 := HOW.out.below hbel3 (Nat.le_refl _)
        have HCR := Lib.hid hcr
        have HEL3 := Lib.hid hel3
        have HBL3 := Lib.hid hbl3
        have HOW3 := Lib.hid how3
        clear hle3 hcr hel3 hbl3 how3 HEL HBL HOW hown3
        go_wp2_with fail
        refine calls_then HCR.out ?_
        rintro e w4 ⟨rfl, hbel4⟩
        have hgsz3 := Nat.le_trans hgsz hbel3.size
        have hel4 := HEL3.out.trans (hbel4.mono hgsz3)
        have hbl4 := HBL3.out.below hbel4 HBL3.out.lt
        have how4 := HOW3.out.below hbel4 (Nat.le_refl _)
        have hgsz4 := Nat.le_trans hgsz3 hbel4.size
        have HEL4 := Lib.hid hel4
        have HBL4 := Lib.hid hbl4
        have HOW4 := Lib.hid how4
        have HGSZ4 := Lib.hid hgsz4
        clear HEL3 HBL3 HOW3 hbel3 hbel4 hel4 hbl4 how4 hgsz3 hgsz hgsz4
        rw [of_read l]
        go_wp2_with (first
          | (refine wpList_put_box (x := .tmp 5) (cells := eV (ofE l)) (Blk.new _ _ _) rfl rfl rfl rfl elem_size rfl (by simp [eV, wV, limbs, Value.oneCell']) ?_; intro w5 hb5 hw5; have HB5 := Lib.hid hb5; have HW5 := Lib.hid hw5; clear hb5 hw5)
          | (refine wpList_get_box (x := .tmp 5) HB5.out rfl rfl rfl hu rfl elem_size ?_)
          | (refine wpList_put_box (x := .tmp 2) (cells := eV (ofE l)) (HW5.out.blk (HBL4.out.alloc _) (Nat.ne_of_lt HBL4.out.lt)) rfl rfl rfl rfl elem_size rfl (by simp [eV, wV, limbs, Value.oneCell']) ?_; intro w6 hb6 hw6; have HB6 := Lib.hid hb6; have HW6 := Lib.hid hw6; clear hb6 hw6))
        have how5 := HW5.out.own (HOW4.out.alloc (.cells (eV zE) 26)) (fun h => absurd ((HOW4.out.lt _ h).2) (Nat.lt_irrefl _))
        have how6 := HW6.out.own how5 (fun h => absurd ((HOW4.out.lt _ h).1) (by have := HSZ0.out; omega))
        have hel6 : Below g w w6 := HW6.out.below (HW5.out.below (HEL4.out.alloc HGSZ4.out _) HGSZ4.out (by simp; have := HGSZ4.out; omega)) (Nat.le_refl _) (Nat.le_of_lt (HW5.out.blk (HBL4.out.alloc _) (Nat.ne_of_lt HBL4.out.lt)).lt)
        refine bodyPost_ret (results_box_tmp (P := Try.prog) rfl rfl HB6.out hu rfl elem_size) rfl ⟨.slice A1 32 c1, rfl, RdV.of_own how6, by rw [HG.out]; exact hel6⟩
  · obtain rfl : m = n := by omega
    have hlt' : ¬ (31 : Int) < (m : Int) := by omega
    clear hnil hm31 hmn hlt
    go_enter Try.func19, Try.ntmps19
    go_wp2_with fail
    rw [show w.alloc (.cells #[.int .u64 0, .int .u64 0, .int .u64 0, .int .u64 0, .int .u64 0] 26) = w0 from HW0.out.symm]
    refine calls_then (HCALL.out c (by omega)) ?_
    rintro e w2 ⟨A2, c2, rfl, hown2, hbel2⟩
    clear HCALL
    have hst0 : OwnX w2 w0.heap.size 3 1 (.slice A2 m c2) m (dV (digs L ++ List.replicate (m - m) 0)) := by
      rw [Nat.sub_self, List.replicate_zero, List.append_nil]; exact hown2
    have HO0 := Lib.hid hst0
    have HBEL2 := Lib.hid hbel2
    clear hown2 hbel2 hst0
    generalize hg : w.heap.size = g at *
    generalize hg0 : w0.heap.size = g0 at *
    have HG := Lib.hid hg
    have HG0 := Lib.hid hg0
    clear hg hg0
    go_wp2_with fail
    go_loopw [4] (fun v wr => ∃ (k : Nat) (A1 : Option Addr) (c1 : Nat), m ≤ k ∧ k ≤ 32 ∧ v = .slice A1 k c1 ∧ OwnX wr g0 3 1 (.slice A1 k c1) k (dV (digs L ++ List.replicate (k - m) 0)) ∧ Below g0 w0 wr) (fun v _ => 32 - lenOf v)
    case atStart => exact ⟨m, A2, c2, Nat.le_refl _, by omega, rfl, HO0.out, HBEL2.out⟩
    case round =>
      clear HO0
      obtain ⟨k, A1, c1, hmk, hk, rfl, hown, hbel⟩ := hrel
      have hsz : g0 ≤ wr.heap.size := by rw [← HG0.out]; exact (by rw [← HG0.out] at hbel; exact hbel.size)
      by_cases hltk : k < 32
      · have hltk' : (k : Int) < 32 := by omega
        have hpad := pad_step (D := digs L) hmk
        have HOWN := Lib.hid hown
        have HBEL := Lib.hid hbel
        have HPAD := Lib.hid hpad
        have HSZ := Lib.hid hsz
        have HK := Lib.hid hk
        have HMK := Lib.hid hmk
        have HLTK := Lib.hid hltk
        clear hown hbel hpad hsz hk hmk hltk
        go_wp2_with (refine wpList_append_one sl_ints rfl rfl HOWN.out rfl rfl rfl rfl (by unfold maxLen; omega) (by omega) HSZ.out ?_; intro A3 c3 w3 hown3 hg3 hn3; have HOWN3 := Lib.hid hown3; have HG3 := Lib.hid hg3; clear hown3 hg3 hn3)
        refine ⟨⟨k + 1, A3, c3, by have := HMK.out; omega, by have := HLTK.out; omega, rfl, ?_, below_grow HBEL.out HOWN.out HSZ.out HG3.out⟩, by have := HLTK.out; simp [lenOf]; omega⟩
        rw [HPAD.out, dV_append]
        exact HOWN3.out
      · obtain rfl : k = 32 := by omega
        rw [show digs L ++ List.replicate (32 - m) 0 = padD l by rw [padD, ← HL.out, ← HM.out]] at hown
        have hrd := Rd.of_own hown (Nat.le_refl _)
        have hcb := rbytes_any (padD l) (padD_dg l) A1 c1 wr hrd (by rw [padD_length]; exact hown.le_cap) (by rw [padD_length]; omega)
        rw [padD_length] at hcb
        have hel : Below g w wr := by
          have h1 := HBEL0.out
          have h2 := hbel.mono (show g ≤ g0 by have := HSZ0.out; omega)
          exact h1.trans h2
        have hbl : Blk wr g 26 (eV zE) := HB0.out.below hbel (by have := HSZ0.out; omega)
        have HEL := Lib.hid hel
        have HBL := Lib.hid hbl
        have HOW := Lib.hid hown
        have HCB := Lib.hid hcb
        have hgsz : g ≤ wr.heap.size := by have := HSZ0.out; omega
        clear hown hrd hcb hel hbel hbl hk hmk hsz hltk HBEL2 HB0 HBEL0 HL HM
        go_wp2_with fail
        refine calls_then HCB.out ?_
        rintro e w3 ⟨A3, c3, rfl, hown3, hbel3⟩
        have hle3 := hown3.le_cap
        have hcr := read_any (refB (padD l)) A3 c3 w3 (Rd.of_own hown3 (Nat.le_refl _)) (by rw [refB_length]; exact hle3) (by rw [refB_length]; omega)
        rw [refB_length] at hcr
        have hel3 := HEL.out.trans (hbel3.mono hgsz)
        have hbl3 := HBL.out.below hbel3 HBL.out.lt
        have how3 := HOW.out.below hbel3 (Nat.le_refl _)
        have HCR := Lib.hid hcr
        have HEL3 := Lib.hid hel3
        have HBL3 := Lib.hid hbl3
        have HOW3 := Lib.hid how3
        clear hle3 hcr hel3 hbl3 how3 HEL HBL HOW hown3
        go_wp2_with fail
        refine calls_then HCR.out ?_
        rintro e w4 ⟨rfl, hbel4⟩
        have hgsz3 := Nat.le_trans hgsz hbel3.size
        have hel4 := HEL3.out.trans (hbel4.mono hgsz3)
        have hbl4 := HBL3.out.below hbel4 HBL3.out.lt
        have how4 := HOW3.out.below hbel4 (Nat.le_refl _)
        have hgsz4 := Nat.le_trans hgsz3 hbel4.size
        have HEL4 := Lib.hid hel4
        have HBL4 := Lib.hid hbl4
        have HOW4 := Lib.hid how4
        have HGSZ4 := Lib.hid hgsz4
        clear HEL3 HBL3 HOW3 hbel3 hbel4 hel4 hbl4 how4 hgsz3 hgsz hgsz4
        rw [of_read l]
        go_wp2_with (first
          | (refine wpList_put_box (x := .tmp 5) (cells := eV (ofE l)) (Blk.new _ _ _) rfl rfl rfl rfl elem_size rfl (by simp [eV, wV, limbs, Value.oneCell']) ?_; intro w5 hb5 hw5; have HB5 := Lib.hid hb5; have HW5 := Lib.hid hw5; clear hb5 hw5)
          | (refine wpList_get_box (x := .tmp 5) HB5.out rfl rfl rfl hu rfl elem_size ?_)
          | (refine wpList_put_box (x := .tmp 2) (cells := eV (ofE l)) (HW5.out.blk (HBL4.out.alloc _) (Nat.ne_of_lt HBL4.out.lt)) rfl rfl rfl rfl elem_size rfl (by simp [eV, wV, limbs, Value.oneCell']) ?_; intro w6 hb6 hw6; have HB6 := Lib.hid hb6; have HW6 := Lib.hid hw6; clear hb6 hw6))
        have how5 := HW5.out.own (HOW4.out.alloc (.cells (eV zE) 26)) (fun h => absurd ((HOW4.out.lt _ h).2) (Nat.lt_irrefl _))
        have how6 := HW6.out.own how5 (fun h => absurd ((HOW4.out.lt _ h).1) (by have := HSZ0.out; omega))
        have hel6 : Below g w w6 := HW6.out.below (HW5.out.below (HEL4.out.alloc HGSZ4.out _) HGSZ4.out (by simp; have := HGSZ4.out; omega)) (Nat.le_refl _) (Nat.le_of_lt (HW5.out.blk (HBL4.out.alloc _) (Nat.ne_of_lt HBL4.out.lt)).lt)
        refine bodyPost_ret (results_box_tmp (P := Try.prog) rfl rfl HB6.out hu rfl elem_size) rfl ⟨.slice A1 32 c1, rfl, RdV.of_own how6, by rw [HG.out]; exact hel6⟩
end Go.Proofs.Ytngecbnbddoldaa
