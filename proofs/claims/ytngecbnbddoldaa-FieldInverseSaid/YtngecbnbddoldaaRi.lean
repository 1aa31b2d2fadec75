/-
  Walk: the reference's Int.
-/
import Derived.Test.YtngecbnbddoldaaRg
namespace Go.Proofs.Ytngecbnbddoldaa
set_option linter.unusedSimpArgs false
set_option linter.unusedVariables false
open Go.RowKit

theorem int_step {d : List Nat} {k m N : Nat} (hl : d.length = k) (h : leV d + 256 ^ k * m = N) : leV (d ++ [m % 256]) + 256 ^ (k + 1) * (m / 256) = N := by
  rw [leV_snoc, hl, Nat.pow_succ]
  have e : 256 ^ k * (m % 256) + 256 ^ k * 256 * (m / 256) = 256 ^ k * m := by
    rw [Nat.mul_assoc, ← Nat.mul_add, Nat.mod_add_div]
  omega
set_option maxRecDepth 100000 in
set_option maxHeartbeats 2000000 in
theorem rint_nat (N : Nat) (hN : N < 9223372036854775808) (w : World) :
    Calls Try.prog 11 #[.int .i64 (N : Int)] w (DigPost (digN 32 (N % PN)) w) := by
  have hbig : N < 256 ^ 9 := Nat.lt_trans hN (by decide)
  have hpos : ¬ (N : Int) < 0 := by omega
  have hs0 : ∃ (k m : Nat) (A : Option Addr) (c : Nat) (d : List Nat), k ≤ 9 ∧ Value.int .i64 (N : Int) = .int .i64 (m : Int) ∧ Value.slice none 0 0 = .slice A k c ∧ d.length = k ∧ Dg d ∧ leV d + 256 ^ k * m = N ∧ m ≤ N ∧ OwnX w w.heap.size 3 1 (.slice A k c) k (dV d) ∧ Below w.heap.size w w :=
    ⟨0, N, none, 0, [], by omega, rfl, rfl, rfl, by unfold Dg; simp, by simp [leV], Nat.le_refl _, OwnX.nil _ _ _ _, Below.refl _ _⟩
  have HS0 := Lib.hid hs0
  have HBIG := Lib.hid hbig
  have HNL := Lib.hid hN
  clear hs0 hbig hN
  go_enter Try.func11, Try.ntmps11
  go_wp2_with fail
  generalize hg : w.heap.size = g at HS0 ⊢
  have HG := Lib.hid hg
  clear hg
  go_loopw [0, 3] (fun n v wr => ∃ (k m : Nat) (A : Option Addr) (c : Nat) (d : List Nat), k ≤ 9 ∧ n = .int .i64 (m : Int) ∧ v = .slice A k c ∧ d.length = k ∧ Dg d ∧ leV d + 256 ^ k * m = N ∧ m ≤ N ∧ OwnX wr g 3 1 (.slice A k c) k (dV d) ∧ Below g w wr) (fun n _ _ => (intOf n).toNat)
  case atStart => exact HS0.out
  case round =>
    clear HS0
    obtain ⟨k, m, A, c, d, hk, rfl, rfl, hdl, hdd, heq, hmN, hown, hbel⟩ := hrel
    have hsz : g ≤ wr.heap.size := by have h := hbel; rw [← HG.out] at h ⊢; exact h.size
    by_cases hm0 : 0 < m
    · have hm0' : ¬ (m : Int) = 0 := by omega
      have hk9 := times_room heq HBIG.out hm0
      obtain ⟨x, hx⟩ : ∃ x, m % 256 = x := ⟨_, rfl⟩
      obtain ⟨q, hq⟩ : ∃ q, m / 256 = q := ⟨_, rfl⟩
      have hxi : (m : Int) % 256 = (x : Int) := by omega
      have hqi : (m : Int) / 256 = (q : Int) := by omega
      have hx0 : ¬ (x : Int) < 0 := by omega
      have hstep := int_step hdl heq
      rw [hx, hq] at hstep
      have HSTEP := Lib.hid hstep
      have HDD := Lib.hid (dg_snoc hdd (show x < 256 by omega))
      have HDL := Lib.hid (show (d ++ [x]).length = k + 1 by rw [List.length_append, hdl]; rfl)
      have HQM := Lib.hid (show q < m by omega)
      have HMN := Lib.hid hmN
      have HK9 := Lib.hid hk9
      have HOWN := Lib.hid hown
      have HBEL := Lib.hid hbel
      have HSZ := Lib.hid hsz
      have hm63 : (m : Int) ≤ 9223372036854775807 := by have := HNL.out; omega
      clear hstep hdl hdd heq hmN hown hbel hsz hm0 hx hq hk hk9
      go_wp2_with (refine wpList_append_one sl_ints rfl rfl HOWN.out rfl rfl rfl rfl (by have := HK9.out; unfold maxLen; omega) (by have := HK9.out; omega) HSZ.out ?_; intro A2 c2 w2 hown2 hg2 hn2; have HOWN2 := Lib.hid hown2; have HG2 := Lib.hid hg2; clear hown2 hg2 hn2)
      refine ⟨⟨k + 1, q, A2, c2, d ++ [x], HK9.out, rfl, rfl, HDL.out, HDD.out, HSTEP.out, by have := HQM.out; have := HMN.out; omega, ?_, below_grow HBEL.out HOWN.out HSZ.out HG2.out⟩, by have := HQM.out; simp [intOf]; omega⟩
      rw [dV_append]
      exact HOWN2.out
    · obtain rfl : m = 0 := by omega
      have hv : leV d = N := by rw [← heq]; simp
      have hf := fold_any d hdd A c wr (Rd.of_own hown (Nat.le_refl _)) (by rw [hdl]; exact hown.le_cap) (by rw [hdl]; omega)
      rw [hdl, hv] at hf
      have HF := Lib.hid hf
      have HBEL := Lib.hid hbel
      have HSZ := Lib.hid hsz
      clear hf hbel hsz hown heq hdd hdl hv hk hmN hm0
      go_wp2_with fail
      refine calls_then HF.out ?_
      rintro e w3 ⟨A3, c3, rfl, hc3, hr3, hb3⟩
      have HC := Lib.hid hc3
      have HR := Lib.hid hr3
      have HB3 := Lib.hid (HBEL.out.trans (hb3.mono HSZ.out))
      clear hc3 hr3 hb3
      go_wp2_with fail
      go_ret
      exact ⟨A3, c3, rfl, HC.out, HR.out, by rw [HG.out]; exact HB3.out⟩
set_option maxRecDepth 100000 in
set_option maxHeartbeats 2000000 in
theorem rint_neg (N : Nat) (hN : N ≤ 9223372036854775808) (h0 : 0 < N) (w : World) :
    Calls Try.prog 11 #[.int .i64 (-(N : Int))] w (DigPost (digN 32 ((PN - N % PN) % PN)) w) := by
  have hbig : N < 256 ^ 9 := Nat.lt_of_le_of_lt hN (by decide)
  have hpos : -(N : Int) < 0 := by omega
  have hs0 : ∃ (k m : Nat) (A : Option Addr) (c : Nat) (d : List Nat), k ≤ 9 ∧ Value.int .i64 (-(N : Int)) = .int .i64 (-(m : Int)) ∧ Value.slice none 0 0 = .slice A k c ∧ d.length = k ∧ Dg d ∧ leV d + 256 ^ k * m = N ∧ m ≤ N ∧ OwnX w w.heap.size 3 1 (.slice A k c) k (dV d) ∧ Below w.heap.size w w :=
    ⟨0, N, none, 0, [], by omega, rfl, rfl, rfl, by unfold Dg; simp, by simp [leV], Nat.le_refl _, OwnX.nil _ _ _ _, Below.refl _ _⟩
  have HS0 := Lib.hid hs0
  have HBIG := Lib.hid hbig
  have HNL := Lib.hid hN
  clear hs0 hbig hN h0
  go_enter Try.func11, Try.ntmps11
  go_wp2_with fail
  generalize hg : w.heap.size = g at HS0 ⊢
  have HG := Lib.hid hg
  clear hg
  go_loopw [0, 3] (fun n v wr => ∃ (k m : Nat) (A : Option Addr) (c : Nat) (d : List Nat), k ≤ 9 ∧ n = .int .i64 (-(m : Int)) ∧ v = .slice A k c ∧ d.length = k ∧ Dg d ∧ leV d + 256 ^ k * m = N ∧ m ≤ N ∧ OwnX wr g 3 1 (.slice A k c) k (dV d) ∧ Below g w wr) (fun n _ _ => (-(intOf n)).toNat)
  case atStart => exact HS0.out
  case round =>
    clear HS0
    obtain ⟨k, m, A, c, d, hk, rfl, rfl, hdl, hdd, heq, hmN, hown, hbel⟩ := hrel
    have hsz : g ≤ wr.heap.size := by have h := hbel; rw [← HG.out] at h ⊢; exact h.size
    by_cases hm0 : 0 < m
    · have hm0' : ¬ (m : Int) = 0 := by omega
      have hk9 := times_room heq HBIG.out hm0
      obtain ⟨x, hx⟩ : ∃ x, m % 256 = x := ⟨_, rfl⟩
      obtain ⟨q, hq⟩ : ∃ q, m / 256 = q := ⟨_, rfl⟩
      have hxi : (m : Int) % 256 = (x : Int) := by omega
      have hqi : (m : Int) / 256 = (q : Int) := by omega
      have hstep := int_step hdl heq
      rw [hx, hq] at hstep
      have HSTEP := Lib.hid hstep
      have HDD := Lib.hid (dg_snoc hdd (show x < 256 by omega))
      have HDL := Lib.hid (show (d ++ [x]).length = k + 1 by rw [List.length_append, hdl]; rfl)
      have HQM := Lib.hid (show q < m by omega)
      have HMN := Lib.hid hmN
      have HK9 := Lib.hid hk9
      have HOWN := Lib.hid hown
      have HBEL := Lib.hid hbel
      have HSZ := Lib.hid hsz
      have hm63 : (m : Int) ≤ 9223372036854775808 := by have := HNL.out; omega
      clear hstep hdl hdd heq hmN hown hbel hsz hm0 hx hq hk hk9
      by_cases hxz : x = 0
      · subst hxz
        go_wp2_with (refine wpList_append_one sl_ints rfl rfl HOWN.out rfl rfl rfl rfl (by have := HK9.out; unfold maxLen; omega) (by have := HK9.out; omega) HSZ.out ?_; intro A2 c2 w2 hown2 hg2 hn2; have HOWN2 := Lib.hid hown2; have HG2 := Lib.hid hg2; clear hown2 hg2 hn2)
        refine ⟨⟨k + 1, q, A2, c2, d ++ [0], HK9.out, rfl, rfl, HDL.out, HDD.out, HSTEP.out, by have := HQM.out; have := HMN.out; omega, ?_, below_grow HBEL.out HOWN.out HSZ.out HG2.out⟩, by have := HQM.out; simp [intOf]; omega⟩
        rw [dV_append]
        exact HOWN2.out
      · have hxp : 0 < x := Nat.pos_of_ne_zero hxz
        clear hxz
        go_wp2_with (refine wpList_append_one sl_ints rfl rfl HOWN.out rfl rfl rfl rfl (by have := HK9.out; unfold maxLen; omega) (by have := HK9.out; omega) HSZ.out ?_; intro A2 c2 w2 hown2 hg2 hn2; have HOWN2 := Lib.hid hown2; have HG2 := Lib.hid hg2; clear hown2 hg2 hn2)
        refine ⟨⟨k + 1, q, A2, c2, d ++ [x], HK9.out, rfl, rfl, HDL.out, HDD.out, HSTEP.out, by have := HQM.out; have := HMN.out; omega, ?_, below_grow HBEL.out HOWN.out HSZ.out HG2.out⟩, by have := HQM.out; simp [intOf]; omega⟩
        rw [dV_append]
        exact HOWN2.out
    · obtain rfl : m = 0 := by omega
      have hv : leV d = N := by rw [← heq]; simp
      have hf := fold_any d hdd A c wr (Rd.of_own hown (Nat.le_refl _)) (by rw [hdl]; exact hown.le_cap) (by rw [hdl]; omega)
      rw [hdl, hv] at hf
      have HF := Lib.hid hf
      have HBEL := Lib.hid hbel
      have HSZ := Lib.hid hsz
      clear hf hbel hsz hown heq hdd hdl hv hk hmN hm0
      go_wp2_with fail
      refine calls_then HF.out ?_
      rintro e w3 ⟨A3, c3, rfl, hc3, hr3, hb3⟩
      have HC := Lib.hid hc3
      have HR := Lib.hid hr3
      have HB3 := Lib.hid (HBEL.out.trans (hb3.mono HSZ.out))
      clear hc3 hr3 hb3
      have hz32 : DigPost (digN 32 ((PN - N % PN) % PN)) = DigPost (digN 32 ((leV (partL [] 32) + PN - leV (digN 32 (N % PN))) % PN)) := by
        rw [partL_nil, leV_replicate, digN_val _ _ (Nat.lt_trans (Nat.mod_lt _ (by decide)) (by decide : PN < 256 ^ 32)), Nat.zero_add]
      have HZ := Lib.hid hz32
      have hmk := make_ints 32 (by decide)
      have hmk' : ∀ u : World, (Instr.makeSlice 28 (.int .i64 32) (.int .i64 32)).run Try.prog u = .ok (.slice (some ⟨u.heap.size, 0, none⟩) 32 32) (u.alloc (.cells (dV (partL [] 32)).toArray 3)) := hmk
      have hnew := Blk.new w3 3 (dV (partL [] 32)).toArray
      have hbn : Below w3.heap.size w3 (w3.alloc (.cells (dV (partL [] 32)).toArray 3)) := below_new _ _
      have hsub := rsub_any (partL [] 32) (digN 32 (N % PN)) (fun d h => by rw [List.eq_of_mem_replicate h]; decide) (digN_dg _ _) (by
        rw [digN_val _ _ (Nat.lt_trans (Nat.mod_lt _ (by decide)) (by decide : PN < 256 ^ 32))]
        have := Nat.mod_lt N (show 0 < PN by decide)
        omega) (some ⟨w3.heap.size, 0, none⟩) A3 32 c3 _ (Rd.of_blk hnew hnew.lt) ((HR.out.below hbn).mono hbn.size) (by rw [partL_length _ _ (Nat.zero_le _)]; decide) (by rw [digN_length]; decide)
      rw [partL_length _ _ (Nat.zero_le _), digN_length] at hsub
      have HSUB := Lib.hid hsub
      have HBN := Lib.hid (HB3.out.trans (hbn.mono (by have h := HB3.out; rw [← HG.out] at h ⊢; exact h.size)))
      clear hz32 hmk hnew hbn hsub
      go_wp2_with fail
      rw [digN_length]
      refine calls_then HSUB.out ?_
      rintro e w5 ⟨A5, c5, rfl, hc5, hr5, hb5⟩
      have HC5 := Lib.hid hc5
      have HR5 := Lib.hid hr5
      have HB5 := Lib.hid (HBN.out.trans (hb5.mono (by have h := HBN.out; rw [← HG.out] at h ⊢; exact h.size)))
      clear hc5 hr5 hb5
      go_wp2_with fail
      go_ret
      rw [HZ.out]
      exact ⟨A5, c5, rfl, HC5.out, HR5.out, by rw [HG.out]; exact HB5.out⟩
end Go.Proofs.Ytngecbnbddoldaa
