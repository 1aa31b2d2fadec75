/-
  Walks: the reference's Minus and Plus.
-/
import Derived.Test.YtngecbnbddoldaaDgn
namespace Go.Proofs.Ytngecbnbddoldaa
set_option linter.unusedSimpArgs false
set_option linter.unusedVariables false
open Go.RowKit

/-- a digit of a slice that reads, or 0 behind its end -/
theorem dig_cell {w : World} {A : Option Addr} {a : List Nat} (h : Rd w w.heap.size A (dV a)) {k : Nat} (hk : k < a.length) : ∃ ad, A = some ad ∧ w.cell? (ad.add k) = some (.int .i64 ((a.getD k 0 : Nat) : Int)) := by
  obtain ⟨ad, h1, _, h3⟩ := h.at_ (k := k) (by rw [dV_length]; exact hk)
  rw [dV_at hk] at h3
  refine ⟨ad, h1, ?_⟩
  rw [h3, List.getD_eq_getElem?_getD, List.getElem?_eq_getElem hk]
  rfl
theorem dig_none {a : List Nat} {k : Nat} (h : ¬ k < a.length) : a.getD k 0 = 0 := by
  rw [List.getD_eq_getElem?_getD, List.getElem?_eq_none (by omega)]; rfl
set_option maxRecDepth 100000 in
set_option maxHeartbeats 2000000 in
theorem minus_any (a b : List Nat) (ha : Dg a) (hb : Dg b) (hle : leV b ≤ leV a) (A B : Option Addr) (c d : Nat) (w : World) (hra : Rd w w.heap.size A (dV a)) (hrb : Rd w w.heap.size B (dV b)) (hla : a.length ≤ 1000000) (hlb : b.length ≤ 1000000) :
    Calls Try.prog 36 #[.slice A a.length c, .slice B b.length d] w (DigPost (digN a.length (leV a - leV b)) w) := by
  obtain ⟨n, hn⟩ : ∃ n, n = a.length := ⟨_, rfl⟩
  obtain ⟨m, hm⟩ : ∃ m, m = b.length := ⟨_, rfl⟩
  rw [← hn, ← hm]
  have hn63 : (n : Int) ≤ 1000000 := by omega
  have hm63 : (m : Int) ≤ 1000000 := by omega
  have hmk := make_ints n (by omega)
  have hst0 : D1 w w.heap.size (partL [] n) _ := d1_new (partL [] n) (Below.refl w.heap.size w)
  have HRA := Lib.hid hra
  have HRB := Lib.hid hrb
  have HA := Lib.hid ha
  have HB := Lib.hid hb
  have HN := Lib.hid hn
  have HM := Lib.hid hm
  have HLE := Lib.hid hle
  have HST0 := Lib.hid hst0
  clear hra hrb ha hb hn hm hla hlb hle hst0
  go_enter Try.func36, Try.ntmps36
  go_wp2_with fail
  generalize hg : w.heap.size = g at HST0 HRA HRB ⊢
  have HG := Lib.hid hg
  clear hg hmk
  go_loopw [6, 7] (fun s i wr => ∃ (k bor : Nat) (out : List Nat), k ≤ n ∧ i = .int .i64 k ∧ bor ≤ 1 ∧ s = .int .i64 bor ∧ out.length = k ∧ Dg out ∧ leV out + leV (b.take k) = leV (a.take k) + 256 ^ k * bor ∧ D1 w g (partL out n) wr) (fun _ i _ => n - (intOf i).toNat)
  case atStart => exact ⟨0, 0, [], by omega, rfl, by omega, rfl, rfl, by unfold Dg; simp, by simp [leV], HST0.out⟩
  case round =>
    clear HST0
    obtain ⟨k, s, out, hk, rfl, hs, rfl, hol, hod, heq, hst⟩ := hrel
    by_cases hlt : k < n
    · have hlt' : (k : Int) < (n : Int) := by omega
      have hel : Below g w wr := by have h := hst.bel; rw [HG.out] at h; exact h
      have hgs : g ≤ wr.heap.size := by rw [← HG.out]; exact hst.bel.size
      obtain ⟨ad, rfl, hca⟩ := dig_cell ((HRA.out.below hel).mono hgs) (k := k) (by rw [← HN.out]; exact hlt)
      obtain ⟨x, hx⟩ : ∃ x, x = a.getD k 0 := ⟨_, rfl⟩
      obtain ⟨y, hy⟩ : ∃ y, y = b.getD k 0 := ⟨_, rfl⟩
      have hxl : x < 256 := by rw [hx]; exact dg_getD HA.out k
      have hyl : y < 256 := by rw [hy]; exact dg_getD HB.out k
      rw [← hx] at hca
      have hstep := minus_step (a := a) HB.out hs hol heq
      rw [← hx, ← hy] at hstep
      have hdl := subD_lt hxl hyl hs
      have hset := partL_set out n k (subD x y s) hol hlt
      have hod2 := dg_snoc hod hdl
      have hol2 : (out ++ [subD x y s]).length = k + 1 := by rw [List.length_append, hol]; rfl
      have HSTEP := Lib.hid hstep
      have HSET := Lib.hid hset
      have HOD := Lib.hid hod2
      have HOL := Lib.hid hol2
      have HST := Lib.hid hst
      have HSZ := Lib.hid (partL_length out n (by omega))
      have hx' : (x : Int) < 256 := by omega
      have hy' : (y : Int) < 256 := by omega
      have hs' : (s : Int) ≤ 1 := by omega
      have hKM : (k < m → ∃ bd, B = some bd ∧ wr.cell? (bd.add k) = some (.int .i64 (y : Int))) ∧ (¬ k < m → y = 0) := ⟨fun h => by
        obtain ⟨bd, h1, h2⟩ := dig_cell ((HRB.out.below hel).mono hgs) (k := k) (by rw [← HM.out]; exact h)
        rw [← hy] at h2
        exact ⟨bd, h1, h2⟩, fun h => by rw [hy]; exact dig_none (by rw [← HM.out]; exact h)⟩
      obtain ⟨hk1, hk2⟩ := hKM
      clear hst hstep hset hod hod2 hol hol2 heq hx hy hxl hyl hs hdl hel hgs
      obtain ⟨dd, hDD⟩ : ∃ dd, subD x y s = dd := ⟨_, rfl⟩
      by_cases hkm : k < m <;> by_cases hlo : x < s + y
      · obtain ⟨bd, rfl, hcb⟩ := hk1 hkm
        have hkm' : (k : Int) < (m : Int) := by omega
        clear hk1 hk2
        have hv0 : (x : Int) - (s : Int) - (y : Int) < 0 := by omega
        have hdd : subD x y s = dd := hDD
        have hv : (x : Int) - (s : Int) - (y : Int) + 256 = (dd : Int) := by rw [← hdd]; unfold subD; rw [if_pos hlo]; omega
        have hc1 : subC x y s = 1 := by unfold subC; rw [if_pos hlo]
        have hdl : (dd : Int) < 256 := by omega
        rw [hdd] at HSTEP HSET HOD HOL
        rw [hc1] at HSTEP
        have HD := Lib.hid hdd
        clear hdd hDD hc1 hlo hkm
        go_wp2_with (refine wpList_put_cell (x := .tmp 41) (i := k) (v := .int .i64 (dd : Int)) HST.out.out rfl rfl rfl rfl int_size (by rw [dig_len, HSZ.out]; exact hlt) rfl ?_; intro w5 hb5 hw5; have hst5 := HST.out.put (l' := partL (out ++ [dd]) n) hw5 (by rw [dV_set, HSET.out] at hb5; exact hb5); have HST5 := Lib.hid hst5; clear hst5 hb5 hw5)
        exact ⟨⟨k + 1, 1, out ++ [dd], by omega, by go_num, by omega, rfl, HOL.out, HOD.out, HSTEP.out, HST5.out⟩, by simp [intOf]; omega⟩
      · obtain ⟨bd, rfl, hcb⟩ := hk1 hkm
        have hkm' : (k : Int) < (m : Int) := by omega
        clear hk1 hk2
        have hv0 : ¬ (x : Int) - (s : Int) - (y : Int) < 0 := by omega
        have hdd : subD x y s = dd := hDD
        have hv : (x : Int) - (s : Int) - (y : Int) = (dd : Int) := by rw [← hdd]; unfold subD; rw [if_neg hlo]; omega
        have hc1 : subC x y s = 0 := by unfold subC; rw [if_neg hlo]
        have hdl : (dd : Int) < 256 := by omega
        rw [hdd] at HSTEP HSET HOD HOL
        rw [hc1] at HSTEP
        have HD := Lib.hid hdd
        clear hdd hDD hc1 hlo hkm
        go_wp2_with (refine wpList_put_cell (x := .tmp 41) (i := k) (v := .int .i64 (dd : Int)) HST.out.out rfl rfl rfl rfl int_size (by rw [dig_len, HSZ.out]; exact hlt) rfl ?_; intro w5 hb5 hw5; have hst5 := HST.out.put (l' := partL (out ++ [dd]) n) hw5 (by rw [dV_set, HSET.out] at hb5; exact hb5); have HST5 := Lib.hid hst5; clear hst5 hb5 hw5)
        exact ⟨⟨k + 1, 0, out ++ [dd], by omega, by go_num, by omega, rfl, HOL.out, HOD.out, HSTEP.out, HST5.out⟩, by simp [intOf]; omega⟩
      · obtain rfl := hk2 hkm
        have hkm' : ¬ (k : Int) < (m : Int) := by omega
        clear hk1 hk2
        have hv0 : (x : Int) - (s : Int) < 0 := by omega
        have hdd : subD x 0 s = dd := hDD
        have hv : (x : Int) - (s : Int) + 256 = (dd : Int) := by rw [← hdd]; unfold subD; rw [if_pos hlo]; omega
        have hc1 : subC x 0 s = 1 := by unfold subC; rw [if_pos hlo]
        have hdl : (dd : Int) < 256 := by omega
        rw [hdd] at HSTEP HSET HOD HOL
        rw [hc1] at HSTEP
        have HD := Lib.hid hdd
        clear hdd hDD hc1 hlo hkm
        go_wp2_with (refine wpList_put_cell (x := .tmp 41) (i := k) (v := .int .i64 (dd : Int)) HST.out.out rfl rfl rfl rfl int_size (by rw [dig_len, HSZ.out]; exact hlt) rfl ?_; intro w5 hb5 hw5; have hst5 := HST.out.put (l' := partL (out ++ [dd]) n) hw5 (by rw [dV_set, HSET.out] at hb5; exact hb5); have HST5 := Lib.hid hst5; clear hst5 hb5 hw5)
        exact ⟨⟨k + 1, 1, out ++ [dd], by omega, by go_num, by omega, rfl, HOL.out, HOD.out, HSTEP.out, HST5.out⟩, by simp [intOf]; omega⟩
      · obtain rfl := hk2 hkm
        have hkm' : ¬ (k : Int) < (m : Int) := by omega
        clear hk1 hk2
        have hv0 : ¬ (x : Int) - (s : Int) < 0 := by omega
        have hdd : subD x 0 s = dd := hDD
        have hv : (x : Int) - (s : Int) = (dd : Int) := by rw [← hdd]; unfold subD; rw [if_neg hlo]; omega
        have hc1 : subC x 0 s = 0 := by unfold subC; rw [if_neg hlo]
        have hdl : (dd : Int) < 256 := by omega
        rw [hdd] at HSTEP HSET HOD HOL
        rw [hc1] at HSTEP
        have HD := Lib.hid hdd
        clear hdd hDD hc1 hlo hkm
        go_wp2_with (refine wpList_put_cell (x := .tmp 41) (i := k) (v := .int .i64 (dd : Int)) HST.out.out rfl rfl rfl rfl int_size (by rw [dig_len, HSZ.out]; exact hlt) rfl ?_; intro w5 hb5 hw5; have hst5 := HST.out.put (l' := partL (out ++ [dd]) n) hw5 (by rw [dV_set, HSET.out] at hb5; exact hb5); have HST5 := Lib.hid hst5; clear hst5 hb5 hw5)
        exact ⟨⟨k + 1, 0, out ++ [dd], by omega, by go_num, by omega, rfl, HOL.out, HOD.out, HSTEP.out, HST5.out⟩, by simp [intOf]; omega⟩
    · obtain rfl : k = n := by omega
      have hfin := minus_end HA.out HB.out hod hol HN.out.symm HLE.out heq
      rw [partL_full out _ hol] at hst
      have HST := Lib.hid hst
      have HFIN := Lib.hid hfin
      have HOL := Lib.hid hol
      clear hst hfin hol hod heq hs hk hlt
      go_wp2_with fail
      go_ret
      rw [← HFIN.out]
      exact HST.out.post HOL.out.symm (Nat.le_refl _)
end Go.Proofs.Ytngecbnbddoldaa
