/-
  Joined texts: Rdv Rm Rp Tml Rt Fold Refv.
-/
import Derived.Test.YtbeokfpbhemcfaaJ4
/-
  Slices that read, anywhere.
-/
namespace Go.Proofs.Ytbeokfpbhemcfaa
set_option linter.unusedSimpArgs false
set_option linter.unusedVariables false
open Go.RowKit

/-- a slice that reads, anywhere -/
def RdV (n : Nat) (xs : List Value) (v : Value) (u : World) : Prop := ∃ A c, v = .slice A n c ∧ n ≤ c ∧ Rd u u.heap.size A xs
theorem RdV.next {n : Nat} {xs : List Value} {v : Value} {u u' : World} (h : RdV n xs v u) (hb : Below u.heap.size u u') : RdV n xs v u' := by
  obtain ⟨A, c, h1, h2, h3⟩ := h
  exact ⟨A, c, h1, h2, (h3.below hb).mono hb.size⟩
theorem RdV.of_own {n : Nat} {xs : List Value} {A : Option Addr} {c base : Nat} {e : TypeId} {u : World} (h : OwnX u base e 1 (.slice A n c) n xs) : RdV n xs (.slice A n c) u :=
  ⟨A, c, rfl, h.le_cap, Rd.of_own h (Nat.le_refl _)⟩
theorem RdV.of_bytes {N o : Nat} {u : World} (h : Blk u o 5 (bnV (byN N)).toArray) : RdV 32 (bytesV (byB N)) (.slice (some ⟨o, 0, none⟩) 32 32) u := by
  rw [bnV_byB] at h
  exact ⟨_, 32, rfl, Nat.le_refl _, Rd.of_blk h h.lt⟩
theorem refB_length (l : List Nat) : (refB l).length = 32 := by simp [refB]
theorem len_eq {α : Type} {l : List α} {n : Nat} (h : l.length = n) (A : Option Addr) (c : Nat) : Value.slice A n c = .slice A l.length c := by rw [h]
theorem rd_shape {l : List Nat} {w : World} {A : Option Addr} (h : Rd w w.heap.size A (dV l)) {w' : World} (hb : Below w.heap.size w w') : Rd w' w'.heap.size A (dV l) := (h.below hb).mono hb.size
end Go.Proofs.Ytbeokfpbhemcfaa
/-
  Walks: the reference's Minus and Plus.
-/
namespace Go.Proofs.Ytbeokfpbhemcfaa
set_option linter.unusedSimpArgs false
set_option linter.unusedVariables false
open Go.RowKit

/-- a digit of a slice that reads, or 0 behind its end -/
theorem dig_cell {w : World} {A : Option Addr} {a : List Nat} (h : Rd w w.heap.size A (dV a)) {k : Nat} (hk : k < a.length) : ∃ ad, A = some ad ∧ w.cell? (ad.add k) = some (.int .i64 ((a.getD k 0 : Nat) : Int)) := by
  obtain ⟨ad, h1, _, h3⟩ := h.at_ (k := k) (by rw [dV_length]; exact hk)
  rw [dV_at hk] at h3
  refine ⟨ad, h1, ?_⟩
  rw [h3, List.getD_eq_getElem?_getD, List.getElem?_eq_getElem hk]
  rfl
theorem dig_none {a : List Nat} {k : Nat} (h : ¬ k < a.length) : a.getD k 0 = 0 := by
  rw [List.getD_eq_getElem?_getD, List.getElem?_eq_none (by omega)]; rfl
set_option maxRecDepth 100000 in
set_option maxHeartbeats 2000000 in
theorem minus_any (a b : List Nat) (ha : Dg a) (hb : Dg b) (hle : leV b ≤ leV a) (A B : Option Addr) (c d : Nat) (w : World) (hra : Rd w w.heap.size A (dV a)) (hrb : Rd w w.heap.size B (dV b)) (hla : a.length ≤ 1000000) (hlb : b.length ≤ 1000000) :
    Calls Try.prog 65 #[.slice A a.length c, .slice B b.length d] w (DigPost (digN a.length (leV a - leV b)) w) := by
  obtain ⟨n, hn⟩ : ∃ n, n = a.length := ⟨_, rfl⟩
  obtain ⟨m, hm⟩ : ∃ m, m = b.length := ⟨_, rfl⟩
  rw [← hn, ← hm]
  have hn63 : (n : Int) ≤ 1000000 := by omega
  have hm63 : (m : Int) ≤ 1000000 := by omega
  have hmk := make_ints n (by omega)
  have hst0 : D1 w w.heap.size (partL [] n) _ := d1_new (partL [] n) (Below.refl w.heap.size w)
  have HRA := Lib.hid hra
  have HRB := Lib.hid hrb
  have HA := Lib.hid ha
  have HB := Lib.hid hb
  have HN := Lib.hid hn
  have HM := Lib.hid hm
  have HLE := Lib.hid hle
  have HST0 := Lib.hid hst0
  clear hra hrb ha hb hn hm hla hlb hle hst0
  go_enter Try.func65, Try.ntmps65
  go_wp2_with fail
  generalize hg : w.heap.size = g at HST0 HRA HRB ⊢
  have HG := Lib.hid hg
  clear hg hmk
  go_loopw [6, 7] (fun s i wr => ∃ (k bor : Nat) (out : List Nat), k ≤ n ∧ i = .int .i64 k ∧ bor ≤ 1 ∧ s = .int .i64 bor ∧ out.length = k ∧ Dg out ∧ leV out + leV (b.take k) = leV (a.take k) + 256 ^ k * bor ∧ D1 w g (partL out n) wr) (fun _ i _ => n - (intOf i).toNat)
  case atStart => exact ⟨0, 0, [], by omega, rfl, by omega, rfl, rfl, by unfold Dg; simp, by simp [leV], HST0.out⟩
  case round =>
    clear HST0
    obtain ⟨k, s, out, hk, rfl, hs, rfl, hol, hod, heq, hst⟩ := hrel
    by_cases hlt : k < n
    · have hlt' : (k : Int) < (n : Int) := by omega
      have hel : Below g w wr := by have h := hst.bel; rw [HG.out] at h; exact h
      have hgs : g ≤ wr.heap.size := by rw [← HG.out]; exact hst.bel.size
      obtain ⟨ad, rfl, hca⟩ := dig_cell ((HRA.out.below hel).mono hgs) (k := k) (by rw [← HN.out]; exact hlt)
      obtain ⟨x, hx⟩ : ∃ x, x = a.getD k 0 := ⟨_, rfl⟩
      obtain ⟨y, hy⟩ : ∃ y, y = b.getD k 0 := ⟨_, rfl⟩
      have hxl : x < 256 := by rw [hx]; exact dg_getD HA.out k
      have hyl : y < 256 := by rw [hy]; exact dg_getD HB.out k
      rw [← hx] at hca
      have hstep := minus_step (a := a) HB.out hs hol heq
      rw [← hx, ← hy] at hstep
      have hdl := subD_lt hxl hyl hs
      have hset := partL_set out n k (subD x y s) hol hlt
      have hod2 := dg_snoc hod hdl
      have hol2 : (out ++ [subD x y s]).length = k + 1 := by rw [List.length_append, hol]; rfl
      have HSTEP := Lib.hid hstep
      have HSET := Lib.hid hset
      have HOD := Lib.hid hod2
      have HOL := Lib.hid hol2
      have HST := Lib.hid hst
      have HSZ := Lib.hid (partL_length out n (by omega))
      have hx' : (x : Int) < 256 := by omega
      have hy' : (y : Int) < 256 := by omega
      have hs' : (s : Int) ≤ 1 := by omega
      have hKM : (k < m → ∃ bd, B = some bd ∧ wr.cell? (bd.add k) = some (.int .i64 (y : Int))) ∧ (¬ k < m → y = 0) := ⟨fun h => by
        obtain ⟨bd, h1, h2⟩ := dig_cell ((HRB.out.below hel).mono hgs) (k := k) (by rw [← HM.out]; exact h)
        rw [← hy] at h2
        exact ⟨bd, h1, h2⟩, fun h => by rw [hy]; exact dig_none (by rw [← HM.out]; exact h)⟩
      obtain ⟨hk1, hk2⟩ := hKM
      clear hst hstep hset hod hod2 hol hol2 heq hx hy hxl hyl hs hdl hel hgs
      obtain ⟨dd, hDD⟩ : ∃ dd, subD x y s = dd := ⟨_, rfl⟩
      by_cases hkm : k < m <;> by_cases hlo : x < s + y
      · obtain ⟨bd, rfl, hcb⟩ := hk1 hkm
        have hkm' : (k : Int) < (m : Int) := by omega
        clear hk1 hk2
        have hv0 : (x : Int) - (s : Int) - (y : Int) < 0 := by omega
        have hdd : subD x y s = dd := hDD
        have hv : (x : Int) - (s : Int) - (y : Int) + 256 = (dd : Int) := by rw [← hdd]; unfold subD; rw [if_pos hlo]; omega
        have hc1 : subC x y s = 1 := by unfold subC; rw [if_pos hlo]
        have hdl : (dd : Int) < 256 := by omega
        rw [hdd] at HSTEP HSET HOD HOL
        rw [hc1] at HSTEP
        have HD := Lib.hid hdd
        clear hdd hDD hc1 hlo hkm
        go_wp2_with (refine wpList_put_cell (x := .tmp 41) (i := k) (v := .int .i64 (dd : Int)) HST.out.out rfl rfl rfl rfl int_size (by rw [dig_len, HSZ.out]; exact hlt) rfl ?_; intro w5 hb5 hw5; have hst5 := HST.out.put (l' := partL (out ++ [dd]) n) hw5 (by rw [dV_set, HSET.out] at hb5; exact hb5); have HST5 := Lib.hid hst5; clear hst5 hb5 hw5)
        exact ⟨⟨k + 1, 1, out ++ [dd], by omega, by go_num, by omega, rfl, HOL.out, HOD.out, HSTEP.out, HST5.out⟩, by simp [intOf]; omega⟩
      · obtain ⟨bd, rfl, hcb⟩ := hk1 hkm
        have hkm' : (k : Int) < (m : Int) := by omega
        clear hk1 hk2
        have hv0 : ¬ (x : Int) - (s : Int) - (y : Int) < 0 := by omega
        have hdd : subD x y s = dd := hDD
        have hv : (x : Int) - (s : Int) - (y : Int) = (dd : Int) := by rw [← hdd]; unfold subD; rw [if_neg hlo]; omega
        have hc1 : subC x y s = 0 := by unfold subC; rw [if_neg hlo]
        have hdl : (dd : Int) < 256 := by omega
        rw [hdd] at HSTEP HSET HOD HOL
        rw [hc1] at HSTEP
        have HD := Lib.hid hdd
        clear hdd hDD hc1 hlo hkm
        go_wp2_with (refine wpList_put_cell (x := .tmp 41) (i := k) (v := .int .i64 (dd : Int)) HST.out.out rfl rfl rfl rfl int_size (by rw [dig_len, HSZ.out]; exact hlt) rfl ?_; intro w5 hb5 hw5; have hst5 := HST.out.put (l' := partL (out ++ [dd]) n) hw5 (by rw [dV_set, HSET.out] at hb5; exact hb5); have HST5 := Lib.hid hst5; clear hst5 hb5 hw5)
        exact ⟨⟨k + 1, 0, out ++ [dd], by omega, by go_num, by omega, rfl, HOL.out, HOD.out, HSTEP.out, HST5.out⟩, by simp [intOf]; omega⟩
      · obtain rfl := hk2 hkm
        have hkm' : ¬ (k : Int) < (m : Int) := by omega
        clear hk1 hk2
        have hv0 : (x : Int) - (s : Int) < 0 := by omega
        have hdd : subD x 0 s = dd := hDD
        have hv : (x : Int) - (s : Int) + 256 = (dd : Int) := by rw [← hdd]; unfold subD; rw [if_pos hlo]; omega
        have hc1 : subC x 0 s = 1 := by unfold subC; rw [if_pos hlo]
        have hdl : (dd : Int) < 256 := by omega
        rw [hdd] at HSTEP HSET HOD HOL
        rw [hc1] at HSTEP
        have HD := Lib.hid hdd
        clear hdd hDD hc1 hlo hkm
        go_wp2_with (refine wpList_put_cell (x := .tmp 41) (i := k) (v := .int .i64 (dd : Int)) HST.out.out rfl rfl rfl rfl int_size (by rw [dig_len, HSZ.out]; exact hlt) rfl ?_; intro w5 hb5 hw5; have hst5 := HST.out.put (l' := partL (out ++ [dd]) n) hw5 (by rw [dV_set, HSET.out] at hb5; exact hb5); have HST5 := Lib.hid hst5; clear hst5 hb5 hw5)
        exact ⟨⟨k + 1, 1, out ++ [dd], by omega, by go_num, by omega, rfl, HOL.out, HOD.out, HSTEP.out, HST5.out⟩, by simp [intOf]; omega⟩
      · obtain rfl := hk2 hkm
        have hkm' : ¬ (k : Int) < (m : Int) := by omega
        clear hk1 hk2
        have hv0 : ¬ (x : Int) - (s : Int) < 0 := by omega
        have hdd : subD x 0 s = dd := hDD
        have hv : (x : Int) - (s : Int) = (dd : Int) := by rw [← hdd]; unfold subD; rw [if_neg hlo]; omega
        have hc1 : subC x 0 s = 0 := by unfold subC; rw [if_neg hlo]
        have hdl : (dd : Int) < 256 := by omega
        rw [hdd] at HSTEP HSET HOD HOL
        rw [hc1] at HSTEP
        have HD := Lib.hid hdd
        clear hdd hDD hc1 hlo hkm
        go_wp2_with (refine wpList_put_cell (x := .tmp 41) (i := k) (v := .int .i64 (dd : Int)) HST.out.out rfl rfl rfl rfl int_size (by rw [dig_len, HSZ.out]; exact hlt) rfl ?_; intro w5 hb5 hw5; have hst5 := HST.out.put (l' := partL (out ++ [dd]) n) hw5 (by rw [dV_set, HSET.out] at hb5; exact hb5); have HST5 := Lib.hid hst5; clear hst5 hb5 hw5)
        exact ⟨⟨k + 1, 0, out ++ [dd], by omega, by go_num, by omega, rfl, HOL.out, HOD.out, HSTEP.out, HST5.out⟩, by simp [intOf]; omega⟩
    · obtain rfl : k = n := by omega
      have hfin := minus_end HA.out HB.out hod hol HN.out.symm HLE.out heq
      rw [partL_full out _ hol] at hst
      have HST := Lib.hid hst
      have HFIN := Lib.hid hfin
      have HOL := Lib.hid hol
      clear hst hfin hol hod heq hs hk hlt
      go_wp2_with fail
      go_ret
      rw [← HFIN.out]
      exact HST.out.post HOL.out.symm (Nat.le_refl _)
end Go.Proofs.Ytbeokfpbhemcfaa
/-
  Walk: the reference's Plus.
-/
namespace Go.Proofs.Ytbeokfpbhemcfaa
set_option linter.unusedSimpArgs false
set_option linter.unusedVariables false
open Go.RowKit

theorem dV_cell {l : List Nat} {k : Nat} (h : k < l.length) : (dV l).toArray[k]? = some (.int .i64 ((l.getD k 0 : Nat) : Int)) := by
  simp [dV, numV, List.getElem?_eq_getElem h, List.getD_eq_getElem?_getD]
set_option maxRecDepth 100000 in
set_option maxHeartbeats 4000000 in
theorem rplus_any (a b : List Nat) (ha : Dg a) (hb : Dg b) (A B : Option Addr) (c d : Nat) (w : World) (hra : Rd w w.heap.size A (dV a)) (hrb : Rd w w.heap.size B (dV b)) (hla : a.length ≤ 1000000) (hlb : b.length ≤ 1000000) :
    Calls Try.prog 20 #[.slice A a.length c, .slice B b.length d] w (DigPost (digN (max a.length b.length + 1) (leV a + leV b)) w) := by
  obtain ⟨n, hn⟩ : ∃ n, n = a.length := ⟨_, rfl⟩
  obtain ⟨m, hm⟩ : ∃ m, m = b.length := ⟨_, rfl⟩
  rw [← hn, ← hm]
  have hn63 : (n : Int) ≤ 1000000 := by omega
  have hm63 : (m : Int) ≤ 1000000 := by omega
  have HRA := Lib.hid hra
  have HRB := Lib.hid hrb
  have HA := Lib.hid ha
  have HB := Lib.hid hb
  have HN := Lib.hid hn
  have HM := Lib.hid hm
  clear hra hrb ha hb hn hm hla hlb
  by_cases hnm : n < m
  · have hnm' : (m : Int) > (n : Int) := by omega
    have hpp : max n m = m := Nat.max_eq_right (by omega)
    have hp1 : n ≤ m := by omega
    have hp2 : m ≤ m := Nat.le_refl _
    obtain ⟨N, hN⟩ : ∃ N, N = m + 1 := ⟨_, rfl⟩
    have hNi : (m : Int) + 1 = (N : Int) := by omega
    have hmk := make_ints N (by omega)
    have hst0 : D1 w w.heap.size (partL [] N) _ := d1_new (partL [] N) (Below.refl w.heap.size w)
    have HST0 := Lib.hid hst0
    have HNN := Lib.hid hN
    have Hm := Lib.hid hpp
    have HP1 := Lib.hid hp1
    have HP2 := Lib.hid hp2
    clear hst0 hN hpp hp1 hp2 hnm
    go_enter Try.func20, Try.ntmps20
    go_wp2_with fail
    generalize hg : w.heap.size = g at HST0 HRA HRB ⊢
    have HG := Lib.hid hg
    clear hg hmk
    go_loopw [7, 8] (fun s i wr => ∃ (k bor : Nat) (out : List Nat), k ≤ N ∧ i = .int .i64 k ∧ bor ≤ 1 ∧ s = .int .i64 bor ∧ out.length = k ∧ Dg out ∧ leV out + 256 ^ k * bor = leV (a.take k) + leV (b.take k) ∧ D1 w g (partL out N) wr) (fun _ i _ => N - (intOf i).toNat)
    case atStart => exact ⟨0, 0, [], by omega, rfl, by omega, rfl, rfl, by unfold Dg; simp, by simp [leV], HST0.out⟩
    case round =>
      clear HST0
      obtain ⟨k, s, out, hk, rfl, hs, rfl, hol, hod, heq, hst⟩ := hrel
      by_cases hlt : k < N
      · have hlt' : (k : Int) ≤ (m : Int) := by omega
        have hel : Below g w wr := by have h := hst.bel; rw [HG.out] at h; exact h
        have hgs : g ≤ wr.heap.size := by rw [← HG.out]; exact hst.bel.size
        obtain ⟨x, hx⟩ : ∃ x, x = a.getD k 0 := ⟨_, rfl⟩
        obtain ⟨y, hy⟩ : ∃ y, y = b.getD k 0 := ⟨_, rfl⟩
        have hxl : x < 256 := by rw [hx]; exact dg_getD HA.out k
        have hyl : y < 256 := by rw [hy]; exact dg_getD HB.out k
        have hstep := plus_step hol heq
        rw [← hx, ← hy] at hstep
        have hcarry : (s + x + y) / 256 ≤ 1 := by omega
        obtain ⟨v, hv⟩ : ∃ v, s + x + y = v := ⟨_, rfl⟩
        rw [hv] at hstep hcarry
        obtain ⟨dd, hdd⟩ : ∃ dd, v % 256 = dd := ⟨_, rfl⟩
        obtain ⟨cc, hcc⟩ : ∃ cc, v / 256 = cc := ⟨_, rfl⟩
        rw [hdd, hcc] at hstep
        rw [hcc] at hcarry
        have hddi : (v : Int) % 256 = (dd : Int) := by omega
        have hcci : (v : Int) / 256 = (cc : Int) := by omega
        have hset := partL_set out N k dd hol hlt
        have hod2 := dg_snoc hod (show dd < 256 by omega)
        have hol2 : (out ++ [dd]).length = k + 1 := by rw [List.length_append, hol]; rfl
        have HSTEP := Lib.hid hstep
        have HSET := Lib.hid hset
        have HOD := Lib.hid hod2
        have HOL := Lib.hid hol2
        have HST := Lib.hid hst
        have HCARRY := Lib.hid hcarry
        have HSZ := Lib.hid (partL_length out N (by omega))
        have hx' : (x : Int) < 256 := by omega
        have hy' : (y : Int) < 256 := by omega
        have hs' : (s : Int) ≤ 1 := by omega
        have hv' : (v : Int) ≤ 511 := by omega
        have hKM : (k < m → ∃ bd, B = some bd ∧ wr.cell? (bd.add k) = some (.int .i64 (y : Int))) ∧ (¬ k < m → y = 0) := ⟨fun h => by
          obtain ⟨bd, h1, h2⟩ := dig_cell ((HRB.out.below hel).mono hgs) (k := k) (by rw [← HM.out]; exact h)
          rw [← hy] at h2
          exact ⟨bd, h1, h2⟩, fun h => by rw [hy]; exact dig_none (by rw [← HM.out]; exact h)⟩
        have hKN : (k < n → ∃ ad, A = some ad ∧ wr.cell? (ad.add k) = some (.int .i64 (x : Int))) ∧ (¬ k < n → x = 0) := ⟨fun h => by
          obtain ⟨bd, h1, h2⟩ := dig_cell ((HRA.out.below hel).mono hgs) (k := k) (by rw [← HN.out]; exact h)
          rw [← hx] at h2
          exact ⟨bd, h1, h2⟩, fun h => by rw [hx]; exact dig_none (by rw [← HN.out]; exact h)⟩
        have d0 := hst.out.cell k
        rw [dV_cell (by rw [partL_length out N (by omega)]; exact hlt)] at d0
        have q0 := hst.out.free k
        obtain ⟨hk1, hk2⟩ := hKM
        obtain ⟨hj1, hj2⟩ := hKN
        clear hst hstep hset hod hod2 hol hol2 heq hx hy hxl hyl hs hel hgs hcarry hdd hcc
        by_cases hkn : k < n <;> by_cases hkm : k < m
        · obtain ⟨ad, rfl, hca⟩ := hj1 hkn
          have hkn' : (k : Int) < (n : Int) := by omega
          obtain ⟨bd, rfl, hcb⟩ := hk1 hkm
          have hkm' : (k : Int) < (m : Int) := by omega
          have hvi : (s : Int) + (x : Int) + (y : Int) = (v : Int) := by omega
          clear hk1 hk2 hj1 hj2 hv hkn hkm
          go_wp2_with fail
          exact ⟨⟨k + 1, cc, out ++ [dd], by omega, by go_num, HCARRY.out, rfl, HOL.out, HOD.out, HSTEP.out, HST.out.put (wrote_setCell_at _ _ _ _) (by have h := blk_setCell_at (i := k) HST.out.out (.int .i64 (dd : Int)); rw [dV_set, HSET.out] at h; exact h)⟩, by simp [intOf]; omega⟩
        · exfalso; omega
        · obtain rfl := hj2 hkn
          have hkn' : ¬ (k : Int) < (n : Int) := by omega
          obtain ⟨bd, rfl, hcb⟩ := hk1 hkm
          have hkm' : (k : Int) < (m : Int) := by omega
          have hvi : (s : Int) + (y : Int) = (v : Int) := by omega
          clear hk1 hk2 hj1 hj2 hv hkn hkm
          go_wp2_with fail
          exact ⟨⟨k + 1, cc, out ++ [dd], by omega, by go_num, HCARRY.out, rfl, HOL.out, HOD.out, HSTEP.out, HST.out.put (wrote_setCell_at _ _ _ _) (by have h := blk_setCell_at (i := k) HST.out.out (.int .i64 (dd : Int)); rw [dV_set, HSET.out] at h; exact h)⟩, by simp [intOf]; omega⟩
        · obtain rfl := hj2 hkn
          have hkn' : ¬ (k : Int) < (n : Int) := by omega
          obtain rfl := hk2 hkm
          have hkm' : ¬ (k : Int) < (m : Int) := by omega
          obtain rfl : s = v := by omega
          clear hk1 hk2 hj1 hj2 hv hkn hkm
          go_wp2_with fail
          exact ⟨⟨k + 1, cc, out ++ [dd], by omega, by go_num, HCARRY.out, rfl, HOL.out, HOD.out, HSTEP.out, HST.out.put (wrote_setCell_at _ _ _ _) (by have h := blk_setCell_at (i := k) HST.out.out (.int .i64 (dd : Int)); rw [dV_set, HSET.out] at h; exact h)⟩, by simp [intOf]; omega⟩
      · obtain rfl : k = N := by omega
        have hge : ¬ (k : Int) ≤ (m : Int) := by omega
        have hfin := plus_end (n := m) HA.out HB.out hod (by rw [hol]; exact HNN.out) (by rw [← HN.out]; exact HP1.out) (by rw [← HM.out]; exact HP2.out) (by rw [← HNN.out]; exact heq)
        rw [partL_full out _ hol] at hst
        have HST := Lib.hid hst
        have HFIN := Lib.hid hfin
        have HOL := Lib.hid hol
        clear hst hfin hol hod heq hs hk hlt
        go_wp2_with fail
        go_ret
        rw [Hm.out, ← HFIN.out]
        exact HST.out.post HOL.out.symm (Nat.le_refl _)
  · have hnm' : ¬ (m : Int) > (n : Int) := by omega
    have hpp : max n m = n := Nat.max_eq_left (by omega)
    have hp1 : n ≤ n := Nat.le_refl _
    have hp2 : m ≤ n := by omega
    obtain ⟨N, hN⟩ : ∃ N, N = n + 1 := ⟨_, rfl⟩
    have hNi : (n : Int) + 1 = (N : Int) := by omega
    have hmk := make_ints N (by omega)
    have hst0 : D1 w w.heap.size (partL [] N) _ := d1_new (partL [] N) (Below.refl w.heap.size w)
    have HST0 := Lib.hid hst0
    have HNN := Lib.hid hN
    have Hn := Lib.hid hpp
    have HP1 := Lib.hid hp1
    have HP2 := Lib.hid hp2
    clear hst0 hN hpp hp1 hp2 hnm
    go_enter Try.func20, Try.ntmps20
    go_wp2_with fail
    generalize hg : w.heap.size = g at HST0 HRA HRB ⊢
    have HG := Lib.hid hg
    clear hg hmk
    go_loopw [7, 8] (fun s i wr => ∃ (k bor : Nat) (out : List Nat), k ≤ N ∧ i = .int .i64 k ∧ bor ≤ 1 ∧ s = .int .i64 bor ∧ out.length = k ∧ Dg out ∧ leV out + 256 ^ k * bor = leV (a.take k) + leV (b.take k) ∧ D1 w g (partL out N) wr) (fun _ i _ => N - (intOf i).toNat)
    case atStart => exact ⟨0, 0, [], by omega, rfl, by omega, rfl, rfl, by unfold Dg; simp, by simp [leV], HST0.out⟩
    case round =>
      clear HST0
      obtain ⟨k, s, out, hk, rfl, hs, rfl, hol, hod, heq, hst⟩ := hrel
      by_cases hlt : k < N
      · have hlt' : (k : Int) ≤ (n : Int) := by omega
        have hel : Below g w wr := by have h := hst.bel; rw [HG.out] at h; exact h
        have hgs : g ≤ wr.heap.size := by rw [← HG.out]; exact hst.bel.size
        obtain ⟨x, hx⟩ : ∃ x, x = a.getD k 0 := ⟨_, rfl⟩
        obtain ⟨y, hy⟩ : ∃ y, y = b.getD k 0 := ⟨_, rfl⟩
        have hxl : x < 256 := by rw [hx]; exact dg_getD HA.out k
        have hyl : y < 256 := by rw [hy]; exact dg_getD HB.out k
        have hstep := plus_step hol heq
        rw [← hx, ← hy] at hstep
        have hcarry : (s + x + y) / 256 ≤ 1 := by omega
        obtain ⟨v, hv⟩ : ∃ v, s + x + y = v := ⟨_, rfl⟩
        rw [hv] at hstep hcarry
        obtain ⟨dd, hdd⟩ : ∃ dd, v % 256 = dd := ⟨_, rfl⟩
        obtain ⟨cc, hcc⟩ : ∃ cc, v / 256 = cc := ⟨_, rfl⟩
        rw [hdd, hcc] at hstep
        rw [hcc] at hcarry
        have hddi : (v : Int) % 256 = (dd : Int) := by omega
        have hcci : (v : Int) / 256 = (cc : Int) := by omega
        have hset := partL_set out N k dd hol hlt
        have hod2 := dg_snoc hod (show dd < 256 by omega)
        have hol2 : (out ++ [dd]).length = k + 1 := by rw [List.length_append, hol]; rfl
        have HSTEP := Lib.hid hstep
        have HSET := Lib.hid hset
        have HOD := Lib.hid hod2
        have HOL := Lib.hid hol2
        have HST := Lib.hid hst
        have HCARRY := Lib.hid hcarry
        have HSZ := Lib.hid (partL_length out N (by omega))
        have hx' : (x : Int) < 256 := by omega
        have hy' : (y : Int) < 256 := by omega
        have hs' : (s : Int) ≤ 1 := by omega
        have hv' : (v : Int) ≤ 511 := by omega
        have hKM : (k < m → ∃ bd, B = some bd ∧ wr.cell? (bd.add k) = some (.int .i64 (y : Int))) ∧ (¬ k < m → y = 0) := ⟨fun h => by
          obtain ⟨bd, h1, h2⟩ := dig_cell ((HRB.out.below hel).mono hgs) (k := k) (by rw [← HM.out]; exact h)
          rw [← hy] at h2
          exact ⟨bd, h1, h2⟩, fun h => by rw [hy]; exact dig_none (by rw [← HM.out]; exact h)⟩
        have hKN : (k < n → ∃ ad, A = some ad ∧ wr.cell? (ad.add k) = some (.int .i64 (x : Int))) ∧ (¬ k < n → x = 0) := ⟨fun h => by
          obtain ⟨bd, h1, h2⟩ := dig_cell ((HRA.out.below hel).mono hgs) (k := k) (by rw [← HN.out]; exact h)
          rw [← hx] at h2
          exact ⟨bd, h1, h2⟩, fun h => by rw [hx]; exact dig_none (by rw [← HN.out]; exact h)⟩
        have d0 := hst.out.cell k
        rw [dV_cell (by rw [partL_length out N (by omega)]; exact hlt)] at d0
        have q0 := hst.out.free k
        obtain ⟨hk1, hk2⟩ := hKM
        obtain ⟨hj1, hj2⟩ := hKN
        clear hst hstep hset hod hod2 hol hol2 heq hx hy hxl hyl hs hel hgs hcarry hdd hcc
        by_cases hkn : k < n <;> by_cases hkm : k < m
        · obtain ⟨ad, rfl, hca⟩ := hj1 hkn
          have hkn' : (k : Int) < (n : Int) := by omega
          obtain ⟨bd, rfl, hcb⟩ := hk1 hkm
          have hkm' : (k : Int) < (m : Int) := by omega
          have hvi : (s : Int) + (x : Int) + (y : Int) = (v : Int) := by omega
          clear hk1 hk2 hj1 hj2 hv hkn hkm
          go_wp2_with fail
          exact ⟨⟨k + 1, cc, out ++ [dd], by omega, by go_num, HCARRY.out, rfl, HOL.out, HOD.out, HSTEP.out, HST.out.put (wrote_setCell_at _ _ _ _) (by have h := blk_setCell_at (i := k) HST.out.out (.int .i64 (dd : Int)); rw [dV_set, HSET.out] at h; exact h)⟩, by simp [intOf]; omega⟩
        · obtain ⟨ad, rfl, hca⟩ := hj1 hkn
          have hkn' : (k : Int) < (n : Int) := by omega
          obtain rfl := hk2 hkm
          have hkm' : ¬ (k : Int) < (m : Int) := by omega
          have hvi : (s : Int) + (x : Int) = (v : Int) := by omega
          clear hk1 hk2 hj1 hj2 hv hkn hkm
          go_wp2_with fail
          exact ⟨⟨k + 1, cc, out ++ [dd], by omega, by go_num, HCARRY.out, rfl, HOL.out, HOD.out, HSTEP.out, HST.out.put (wrote_setCell_at _ _ _ _) (by have h := blk_setCell_at (i := k) HST.out.out (.int .i64 (dd : Int)); rw [dV_set, HSET.out] at h; exact h)⟩, by simp [intOf]; omega⟩
        · exfalso; omega
        · obtain rfl := hj2 hkn
          have hkn' : ¬ (k : Int) < (n : Int) := by omega
          obtain rfl := hk2 hkm
          have hkm' : ¬ (k : Int) < (m : Int) := by omega
          obtain rfl : s = v := by omega
          clear hk1 hk2 hj1 hj2 hv hkn hkm
          go_wp2_with fail
          exact ⟨⟨k + 1, cc, out ++ [dd], by omega, by go_num, HCARRY.out, rfl, HOL.out, HOD.out, HSTEP.out, HST.out.put (wrote_setCell_at _ _ _ _) (by have h := blk_setCell_at (i := k) HST.out.out (.int .i64 (dd : Int)); rw [dV_set, HSET.out] at h; exact h)⟩, by simp [intOf]; omega⟩
      · obtain rfl : k = N := by omega
        have hge : ¬ (k : Int) ≤ (n : Int) := by omega
        have hfin := plus_end (n := n) HA.out HB.out hod (by rw [hol]; exact HNN.out) (by rw [← HN.out]; exact HP1.out) (by rw [← HM.out]; exact HP2.out) (by rw [← HNN.out]; exact heq)
        rw [partL_full out _ hol] at hst
        have HST := Lib.hid hst
        have HFIN := Lib.hid hfin
        have HOL := Lib.hid hol
        clear hst hfin hol hod heq hs hk hlt
        go_wp2_with fail
        go_ret
        rw [Hn.out, ← HFIN.out]
        exact HST.out.post HOL.out.symm (Nat.le_refl _)
end Go.Proofs.Ytbeokfpbhemcfaa
/-
  Plain: the product of digits, step by step.
-/
namespace Go.Proofs.Ytbeokfpbhemcfaa
set_option linter.unusedSimpArgs false
set_option linter.unusedVariables false
open Go.RowKit

theorem leV_set (d : Nat) : ∀ (l : List Nat) (p : Nat), p < l.length → leV (l.set p d) + 256 ^ p * l.getD p 0 = leV l + 256 ^ p * d
  | [], p, h => by simp at h
  | x :: r, 0, _ => by
    rw [List.set_cons_zero, leV, leV, Nat.pow_zero, List.getD_cons_zero]
    omega
  | x :: r, p + 1, h => by
    have ih := leV_set d r p (by simpa using h)
    rw [List.set_cons_succ, leV, leV, List.getD_cons_succ, Nat.pow_succ, Nat.mul_right_comm, Nat.mul_right_comm (256 ^ p) 256 d]
    omega
theorem times_step {out : List Nat} {p c z S v : Nat} (hp : p < out.length) (hv : v = out.getD p 0 + z + c) (h : leV out + 256 ^ p * c = S) :
    leV (out.set p (v % 256)) + 256 ^ (p + 1) * (v / 256) = S + 256 ^ p * z := by
  have h1 := leV_set (v % 256) out p hp
  have e : 256 ^ p * (v % 256) + 256 ^ (p + 1) * (v / 256) = 256 ^ p * v := by
    rw [Nat.pow_succ, Nat.mul_assoc, ← Nat.mul_add, Nat.mod_add_div]
  have e2 : 256 ^ p * v = 256 ^ p * out.getD p 0 + 256 ^ p * z + 256 ^ p * c := by rw [hv, Nat.mul_add, Nat.mul_add]
  omega
theorem times_row {b : List Nat} {i j x S : Nat} : S + 256 ^ i * (x * leV (b.take j)) + 256 ^ (i + j) * (x * b.getD j 0) = S + 256 ^ i * (x * leV (b.take (j + 1))) := by
  rw [leV_take_step, Nat.mul_add, Nat.mul_add, Nat.pow_add]
  have e : 256 ^ i * 256 ^ j * (x * b.getD j 0) = 256 ^ i * (x * (256 ^ j * b.getD j 0)) := by
    rw [Nat.mul_assoc, Nat.mul_left_comm (256 ^ j)]
  omega
theorem times_next {a b : List Nat} {i : Nat} : leV (a.take i) * leV b + 256 ^ i * (a.getD i 0 * leV b) = leV (a.take (i + 1)) * leV b := by
  rw [leV_take_step, Nat.add_mul, Nat.mul_assoc]
theorem times_big {a b : List Nat} {i : Nat} (ha : Dg a) (hb : Dg b) : leV (a.take i) * leV b < 256 ^ (a.length + b.length + 1) := by
  have h1 := leV_lt a ha
  have h2 := leV_lt b hb
  have h3 := leV_take_le a i
  have h4 : leV (a.take i) * leV b ≤ 256 ^ a.length * 256 ^ b.length := Nat.mul_le_mul (by omega) (by omega)
  rw [Nat.pow_succ, Nat.pow_add]
  have h5 : 0 < 256 ^ a.length * 256 ^ b.length := Nat.mul_pos (Nat.pow_pos (by decide)) (Nat.pow_pos (by decide))
  omega
theorem times_room {out : List Nat} {k c S T : Nat} (h : leV out + 256 ^ k * c = S) (hS : S < 256 ^ T) (hc : 0 < c) : k < T := by
  apply Nat.lt_of_not_le
  intro hle
  have h1 : 256 ^ T ≤ 256 ^ k := Nat.pow_le_pow_right (by decide) hle
  have h2 := Nat.mul_le_mul_left (256 ^ k) hc
  omega
theorem times_end {out a b : List Nat} (ho : Dg out) (hl : out.length = a.length + b.length + 1) (h : leV out = leV (a.take a.length) * leV b) : out = digN (a.length + b.length + 1) (leV a * leV b) := by
  rw [List.take_length] at h
  exact digN_eq ho hl h
end Go.Proofs.Ytbeokfpbhemcfaa
/-
  Walk: the reference's Times.
-/
namespace Go.Proofs.Ytbeokfpbhemcfaa
set_option linter.unusedSimpArgs false
set_option linter.unusedVariables false
open Go.RowKit

set_option maxRecDepth 100000 in
set_option maxHeartbeats 4000000 in
theorem times_any (a b : List Nat) (ha : Dg a) (hb : Dg b) (A B : Option Addr) (c d : Nat) (w : World) (hra : Rd w w.heap.size A (dV a)) (hrb : Rd w w.heap.size B (dV b)) (hla : a.length ≤ 1000000) (hlb : b.length ≤ 1000000) :
    Calls Try.prog 63 #[.slice A a.length c, .slice B b.length d] w (DigPost (digN (a.length + b.length + 1) (leV a * leV b)) w) := by
  obtain ⟨n, hn⟩ : ∃ n, n = a.length := ⟨_, rfl⟩
  obtain ⟨m, hm⟩ : ∃ m, m = b.length := ⟨_, rfl⟩
  rw [← hn, ← hm]
  have hn63 : (n : Int) ≤ 1000000 := by omega
  have hm63 : (m : Int) ≤ 1000000 := by omega
  obtain ⟨T, hT⟩ : ∃ T, T = n + m + 1 := ⟨_, rfl⟩
  have hTi : (n : Int) + (m : Int) + 1 = (T : Int) := by omega
  have hmk := make_ints T (by omega)
  have hst0 : D1 w w.heap.size (partL [] T) _ := d1_new (partL [] T) (Below.refl w.heap.size w)
  have hz : leV (partL [] T) = 0 := by rw [partL_nil, leV_replicate]
  have hzd : Dg (partL [] T) := fun d h => by rw [List.eq_of_mem_replicate h]; decide
  have HRA := Lib.hid hra
  have HRB := Lib.hid hrb
  have HA := Lib.hid ha
  have HB := Lib.hid hb
  have HN := Lib.hid hn
  have HM := Lib.hid hm
  have HT := Lib.hid hT
  have HST0 := Lib.hid hst0
  have HZ := Lib.hid hz
  have HZD := Lib.hid hzd
  have HZL := Lib.hid (partL_length [] T (Nat.zero_le _))
  clear hra hrb ha hb hn hm hla hlb hst0 hT hz hzd
  go_enter Try.func63, Try.ntmps63
  go_wp2_with fail
  generalize hg : w.heap.size = g at HST0 HRA HRB ⊢
  have HG := Lib.hid hg
  clear hg hmk
  go_loopw [6] (fun i wr => ∃ (k : Nat) (out : List Nat), k ≤ n ∧ i = .int .i64 k ∧ out.length = T ∧ Dg out ∧ leV out = leV (a.take k) * leV b ∧ D1 w g out wr) (fun i _ => n - (intOf i).toNat)
  case atStart => exact ⟨0, partL [] T, by omega, rfl, HZL.out, HZD.out, by rw [HZ.out]; simp [leV], HST0.out⟩
  case round =>
    clear HST0 HZ HZD HZL
    obtain ⟨i, out, hi, rfl, hol, hod, heq, hst⟩ := hrel
    by_cases hlt : i < n
    · have hlt' : (i : Int) < (n : Int) := by omega
      obtain ⟨x, hx⟩ : ∃ x, x = a.getD i 0 := ⟨_, rfl⟩
      have hxl : x < 256 := by rw [hx]; exact dg_getD HA.out i
      obtain ⟨S, hS⟩ : ∃ S, S = leV (a.take i) * leV b := ⟨_, rfl⟩
      have hxl' : (x : Int) < 256 := by omega
      have HX := Lib.hid hx
      have HXL := Lib.hid hxl
      have HS := Lib.hid hS
      have hin : leV out + 256 ^ (i + 0) * 0 = S + 256 ^ i * (x * leV (b.take 0)) := by rw [heq, hS]; simp [leV]
      have HIN := Lib.hid hin
      have HOL := Lib.hid hol
      have HOD := Lib.hid hod
      have HST := Lib.hid hst
      clear hx hxl hS hin hol hod hst heq
      go_wp2_with fail
      obtain ⟨wo, rfl⟩ : ∃ x, x = wr := ⟨_, rfl⟩
      go_loopw [7, 8] (fun c i8 wr => ∃ (j cy : Nat) (out : List Nat), j ≤ m ∧ i8 = .int .i64 j ∧ c = .int .i64 cy ∧ cy ≤ 255 ∧ out.length = T ∧ Dg out ∧ leV out + 256 ^ (i + j) * cy = S + 256 ^ i * (x * leV (b.take j)) ∧ D1 w g out wr) (fun _ i8 _ => m - (intOf i8).toNat)
      case atStart => exact ⟨0, 0, out, by omega, rfl, rfl, by omega, HOL.out, HOD.out, HIN.out, HST.out⟩
      case round =>
        clear HOL HOD HIN HST
        obtain ⟨j, cy, out, hj, rfl, rfl, hcy, hol, hod, heq, hst⟩ := hrel
        by_cases hltj : j < m
        · have hltj' : (j : Int) < (m : Int) := by omega
          obtain ⟨p, hp⟩ : ∃ p, p = i + j := ⟨_, rfl⟩
          have hpi : (i : Int) + (j : Int) = (p : Int) := by omega
          have hpT : p < T := by have := HT.out; omega
          have hpT' : (p : Int) < (T : Int) := by omega
          obtain ⟨y, hy⟩ : ∃ y, y = b.getD j 0 := ⟨_, rfl⟩
          have hyl : y < 256 := by rw [hy]; exact dg_getD HB.out j
          obtain ⟨od, hodd⟩ : ∃ od, od = out.getD p 0 := ⟨_, rfl⟩
          have hodl : od < 256 := by rw [hodd]; exact dg_getD hod p
          obtain ⟨z, hz⟩ : ∃ z, z = x * y := ⟨_, rfl⟩
          have hzi : (x : Int) * (y : Int) = (z : Int) := by rw [hz]; simp
          have hzl : z ≤ 255 * 255 := by rw [hz]; exact Nat.mul_le_mul (by have := HXL.out; omega) (by omega)
          obtain ⟨v, hv⟩ : ∃ v, v = od + z + cy := ⟨_, rfl⟩
          have hvi : (od : Int) + (z : Int) + (cy : Int) = (v : Int) := by omega
          rw [← hp] at heq
          have hstep := times_step (v := v) (by rw [hol]; exact hpT) (by rw [hv, hodd]) heq
          rw [hz, hy, hp, times_row, ← hp, show p + 1 = i + (j + 1) by omega] at hstep
          obtain ⟨dd, hdd⟩ : ∃ dd, v % 256 = dd := ⟨_, rfl⟩
          obtain ⟨cc, hcc⟩ : ∃ cc, v / 256 = cc := ⟨_, rfl⟩
          have hddi : (v : Int) % 256 = (dd : Int) := by omega
          have hcci : (v : Int) / 256 = (cc : Int) := by omega
          rw [hdd, hcc] at hstep
          have hod2 := dg_set hod p dd (by omega)
          have hol2 : (out.set p dd).length = T := by rw [List.length_set]; exact hol
          have hca : ∀ u, D1 w g out u → ∃ ad, A = some ad ∧ u.cell? (ad.add i) = some (.int .i64 (x : Int)) := fun u hu => by
            have hel : Below g w u := by have h := hu.bel; rw [HG.out] at h; exact h
            have h := dig_cell ((HRA.out.below hel).mono (by rw [← HG.out]; exact hu.bel.size)) (k := i) (by rw [← HN.out]; exact hlt)
            rw [← HX.out] at h; exact h
          have hcb : ∀ u, D1 w g out u → ∃ ad, B = some ad ∧ u.cell? (ad.add j) = some (.int .i64 (y : Int)) := fun u hu => by
            have hel : Below g w u := by have h := hu.bel; rw [HG.out] at h; exact h
            have h := dig_cell ((HRB.out.below hel).mono (by rw [← HG.out]; exact hu.bel.size)) (k := j) (by rw [← HM.out]; exact hltj)
            rw [← hy] at h; exact h
          obtain ⟨ad, rfl, _⟩ := hca wr hst
          obtain ⟨bd, rfl, _⟩ := hcb wr hst
          have hca2 : ∀ u, D1 w g out u → u.cell? (ad.add i) = some (.int .i64 (x : Int)) := fun u hu => by
            obtain ⟨ad2, h1, h2⟩ := hca u hu
            injection h1 with h1
            rw [h1]; exact h2
          have hcb2 : ∀ u, D1 w g out u → u.cell? (bd.add j) = some (.int .i64 (y : Int)) := fun u hu => by
            obtain ⟨ad2, h1, h2⟩ := hcb u hu
            injection h1 with h1
            rw [h1]; exact h2
          have hco : ∀ u, D1 w g out u → u.cell? ⟨g, p, none⟩ = some (.int .i64 (od : Int)) := fun u hu => by
            have d0 := hu.out.cell p
            rw [dV_cell (by rw [hol]; exact hpT), ← hodd] at d0
            exact d0
          have HCA := Lib.hid hca2
          have HCB := Lib.hid hcb2
          have HCO := Lib.hid hco
          have HSTEP := Lib.hid hstep
          have HOD := Lib.hid hod2
          have HOL := Lib.hid hol2
          have HOLD := Lib.hid hol
          have HXL2 := Lib.hid hxl'
          have hyl' : (y : Int) < 256 := by omega
          have hzl' : (z : Int) ≤ 65025 := by omega
          have hodl' : (od : Int) < 256 := by omega
          have hcyl' : (cy : Int) ≤ 255 := by omega
          have hvl' : (v : Int) < 65536 := by omega
          have hccl : cc ≤ 255 := by omega
          have HCC := Lib.hid hccl
          have HHJ := Lib.hid hltj
          have HPT := Lib.hid hpT
          have HC0 := hst.drew
          clear hca hcb hca2 hcb2 hco hstep hod2 hol2 hol hod hst heq hodd hz hy hv hdd hcc hzl hyl hodl hcy hccl hj hltj hp hpT
          go_wp2_with fail
          refine wp_region_det (fun u => D1 w g out u) (fun u => D1 w g out u) [(0, some 31), (1, some 32), (2, some 33), (3, some 34), (4, some 35), (5, some 36), (6, some 37), (7, some 38), (8, some 39), (9, some 40), (10, some 41), (11, some 42), (12, some 43), (13, some 44), (14, some 45), (15, some 46), (16, some 47), (17, some 48), (18, some 9)] (by kernel_rfl) (by kernel_rfl) (by decide) (by kernel_rfl) (fun _ => rfl) HC0 ?_
          apply DetL.next
          · -- 0: Op.move (Operand.tmp 5)
            apply detStep_plain []
            exact fun _ => rfl
            rfl
            rintro vals - w1 hC1 E hE
            simp only [puts, act_put, act_put_none, List.setIfInBounds_toArray, List.set_cons_zero, List.set_cons_succ] at hE ⊢
            go_wp2
            exact .mk (hE _ hC1)
          apply DetL.next
          · -- 1: Op.move (Operand.tmp 6)
            apply detStep_plain []
            exact fun _ => rfl
            rfl
            rintro vals ⟨-, -⟩ w1 hC1 E hE
            simp only [puts, act_put, act_put_none, List.setIfInBounds_toArray, List.set_cons_zero, List.set_cons_succ] at hE ⊢
            go_wp2
            exact .mk (hE _ hC1)
          apply DetL.next
          · -- 2: Op.move (Operand.tmp 8)
            apply detStep_plain []
            exact fun _ => rfl
            rfl
            rintro vals ⟨⟨-, -⟩, -⟩ w1 hC1 E hE
            simp only [puts, act_put, act_put_none, List.setIfInBounds_toArray, List.set_cons_zero, List.set_cons_succ] at hE ⊢
            go_wp2
            exact .mk (hE _ hC1)
          apply DetL.next
          · -- 3: Op.binOp BinOp.add 3 (Operand.tmp 32) (Operand.tmp 33) 3
            apply detStep_plain [(1, some 32), (2, some 33)]
            exact fun _ => rfl
            rfl
            rintro vals ⟨⟨⟨-, -⟩, f1⟩, f2⟩ w1 hC1 E hE
            simp only [puts, act_put, act_put_none, List.setIfInBounds_toArray, List.set_cons_zero, List.set_cons_succ, f1, f2] at hE ⊢
            clear f1 f2
            go_wp2
            exact .mk (hE _ hC1)
          apply DetL.next
          · -- 4: Op.indexAddr 32 (Operand.tmp 31) (Operand.tmp 34)
            apply detStep_plain [(0, some 31), (3, some 34)]
            exact fun _ => rfl
            rfl
            rintro vals ⟨⟨⟨⟨-, f0⟩, -⟩, -⟩, f3⟩ w1 hC1 E hE
            simp only [puts, act_put, act_put_none, List.setIfInBounds_toArray, List.set_cons_zero, List.set_cons_succ, f0, f3] at hE ⊢
            clear f0 f3
            go_wp2
            exact .mk (hE _ hC1)
          apply DetL.next
          · -- 5: Op.load 3 (Operand.tmp 35)
            apply detStep_plain [(4, some 35)]
            exact fun _ => rfl
            rfl
            rintro vals ⟨⟨⟨⟨⟨-, -⟩, -⟩, -⟩, -⟩, f4⟩ w1 hC1 E hE
            have d0 := HCO.out _ hC1
            simp only [puts, act_put, act_put_none, List.setIfInBounds_toArray, List.set_cons_zero, List.set_cons_succ, f4] at hE ⊢
            clear f4
            go_wp2
            exact .mk (hE _ hC1)
          apply DetL.next
          · -- 6: Op.move (Operand.tmp 0)
            apply detStep_plain []
            exact fun _ => rfl
            rfl
            rintro vals ⟨⟨⟨⟨⟨⟨-, -⟩, -⟩, -⟩, -⟩, -⟩, -⟩ w1 hC1 E hE
            simp only [puts, act_put, act_put_none, List.setIfInBounds_toArray, List.set_cons_zero, List.set_cons_succ] at hE ⊢
            go_wp2
            exact .mk (hE _ hC1)
          apply DetL.next
          · -- 7: Op.move (Operand.tmp 6)
            apply detStep_plain []
            exact fun _ => rfl
            rfl
            rintro vals ⟨⟨⟨⟨⟨⟨⟨-, -⟩, -⟩, -⟩, -⟩, -⟩, -⟩, -⟩ w1 hC1 E hE
            simp only [puts, act_put, act_put_none, List.setIfInBounds_toArray, List.set_cons_zero, List.set_cons_succ] at hE ⊢
            go_wp2
            exact .mk (hE _ hC1)
          apply DetL.next
          · -- 8: Op.indexAddr 32 (Operand.tmp 37) (Operand.tmp 38)
            apply detStep_plain [(6, some 37), (7, some 38)]
            exact fun _ => rfl
            rfl
            rintro vals ⟨⟨⟨⟨⟨⟨⟨⟨-, -⟩, -⟩, -⟩, -⟩, -⟩, -⟩, f6⟩, f7⟩ w1 hC1 E hE
            simp only [puts, act_put, act_put_none, List.setIfInBounds_toArray, List.set_cons_zero, List.set_cons_succ, f6, f7] at hE ⊢
            clear f6 f7
            go_wp2
            exact .mk (hE _ hC1)
          apply DetL.next
          · -- 9: Op.load 3 (Operand.tmp 39)
            apply detStep_plain [(8, some 39)]
            exact fun _ => rfl
            rfl
            rintro vals ⟨⟨⟨⟨⟨⟨⟨⟨⟨-, -⟩, -⟩, -⟩, -⟩, -⟩, -⟩, -⟩, -⟩, f8⟩ w1 hC1 E hE
            have d0 := HCA.out _ hC1
            simp only [puts, act_put, act_put_none, List.setIfInBounds_toArray, List.set_cons_zero, List.set_cons_succ, f8] at hE ⊢
            clear f8
            go_wp2
            exact .mk (hE _ hC1)
          apply DetL.next
          · -- 10: Op.move (Operand.tmp 1)
            apply detStep_plain []
            exact fun _ => rfl
            rfl
            rintro vals ⟨⟨⟨⟨⟨⟨⟨⟨⟨⟨-, -⟩, -⟩, -⟩, -⟩, -⟩, -⟩, -⟩, -⟩, -⟩, -⟩ w1 hC1 E hE
            simp only [puts, act_put, act_put_none, List.setIfInBounds_toArray, List.set_cons_zero, List.set_cons_succ] at hE ⊢
            go_wp2
            exact .mk (hE _ hC1)
          apply DetL.next
          · -- 11: Op.move (Operand.tmp 8)
            apply detStep_plain []
            exact fun _ => rfl
            rfl
            rintro vals ⟨⟨⟨⟨⟨⟨⟨⟨⟨⟨⟨-, -⟩, -⟩, -⟩, -⟩, -⟩, -⟩, -⟩, -⟩, -⟩, -⟩, -⟩ w1 hC1 E hE
            simp only [puts, act_put, act_put_none, List.setIfInBounds_toArray, List.set_cons_zero, List.set_cons_succ] at hE ⊢
            go_wp2
            exact .mk (hE _ hC1)
          apply DetL.next
          · -- 12: Op.indexAddr 32 (Operand.tmp 41) (Operand.tmp 42)
            apply detStep_plain [(10, some 41), (11, some 42)]
            exact fun _ => rfl
            rfl
            rintro vals ⟨⟨⟨⟨⟨⟨⟨⟨⟨⟨⟨⟨-, -⟩, -⟩, -⟩, -⟩, -⟩, -⟩, -⟩, -⟩, -⟩, -⟩, f10⟩, f11⟩ w1 hC1 E hE
            simp only [puts, act_put, act_put_none, List.setIfInBounds_toArray, List.set_cons_zero, List.set_cons_succ, f10, f11] at hE ⊢
            clear f10 f11
            go_wp2
            exact .mk (hE _ hC1)
          apply DetL.next
          · -- 13: Op.load 3 (Operand.tmp 43)
            apply detStep_plain [(12, some 43)]
            exact fun _ => rfl
            rfl
            rintro vals ⟨⟨⟨⟨⟨⟨⟨⟨⟨⟨⟨⟨⟨-, -⟩, -⟩, -⟩, -⟩, -⟩, -⟩, -⟩, -⟩, -⟩, -⟩, -⟩, -⟩, f12⟩ w1 hC1 E hE
            have d0 := HCB.out _ hC1
            simp only [puts, act_put, act_put_none, List.setIfInBounds_toArray, List.set_cons_zero, List.set_cons_succ, f12] at hE ⊢
            clear f12
            go_wp2
            exact .mk (hE _ hC1)
          apply DetL.next
          · -- 14: Op.binOp BinOp.mul 3 (Operand.tmp 40) (Operand.tmp 44) 3
            apply detStep_plain [(9, some 40), (13, some 44)]
            exact fun _ => rfl
            rfl
            rintro vals ⟨⟨⟨⟨⟨⟨⟨⟨⟨⟨⟨⟨⟨⟨-, -⟩, -⟩, -⟩, -⟩, -⟩, -⟩, -⟩, -⟩, -⟩, f9⟩, -⟩, -⟩, -⟩, f13⟩ w1 hC1 E hE
            simp only [puts, act_put, act_put_none, List.setIfInBounds_toArray, List.set_cons_zero, List.set_cons_succ, f9, f13] at hE ⊢
            clear f9 f13
            go_wp2
            exact .mk (hE _ hC1)
          apply DetL.next
          · -- 15: Op.binOp BinOp.add 3 (Operand.tmp 36) (Operand.tmp 45) 3
            apply detStep_plain [(5, some 36), (14, some 45)]
            exact fun _ => rfl
            rfl
            rintro vals ⟨⟨⟨⟨⟨⟨⟨⟨⟨⟨⟨⟨⟨⟨⟨-, -⟩, -⟩, -⟩, -⟩, -⟩, f5⟩, -⟩, -⟩, -⟩, -⟩, -⟩, -⟩, -⟩, -⟩, f14⟩ w1 hC1 E hE
            simp only [puts, act_put, act_put_none, List.setIfInBounds_toArray, List.set_cons_zero, List.set_cons_succ, f5, f14] at hE ⊢
            clear f5 f14
            go_wp2
            exact .mk (hE _ hC1)
          apply DetL.next
          · -- 16: Op.move (Operand.tmp 7)
            apply detStep_plain []
            exact fun _ => rfl
            rfl
            rintro vals ⟨⟨⟨⟨⟨⟨⟨⟨⟨⟨⟨⟨⟨⟨⟨⟨-, -⟩, -⟩, -⟩, -⟩, -⟩, -⟩, -⟩, -⟩, -⟩, -⟩, -⟩, -⟩, -⟩, -⟩, -⟩, -⟩ w1 hC1 E hE
            simp only [puts, act_put, act_put_none, List.setIfInBounds_toArray, List.set_cons_zero, List.set_cons_succ] at hE ⊢
            go_wp2
            exact .mk (hE _ hC1)
          apply DetL.next
          · -- 17: Op.binOp BinOp.add 3 (Operand.tmp 46) (Operand.tmp 47) 3
            apply detStep_plain [(15, some 46), (16, some 47)]
            exact fun _ => rfl
            rfl
            rintro vals ⟨⟨⟨⟨⟨⟨⟨⟨⟨⟨⟨⟨⟨⟨⟨⟨⟨-, -⟩, -⟩, -⟩, -⟩, -⟩, -⟩, -⟩, -⟩, -⟩, -⟩, -⟩, -⟩, -⟩, -⟩, -⟩, f15⟩, f16⟩ w1 hC1 E hE
            simp only [puts, act_put, act_put_none, List.setIfInBounds_toArray, List.set_cons_zero, List.set_cons_succ, f15, f16] at hE ⊢
            clear f15 f16
            go_wp2
            exact .mk (hE _ hC1)
          apply DetL.last
          · -- 18: Op.assign (Operand.tmp 48)
            apply detStep_plain [(17, some 48), (0, some 31), (1, some 32), (2, some 33), (3, some 34), (4, some 35), (5, some 36), (6, some 37), (7, some 38), (8, some 39), (9, some 40), (10, some 41), (11, some 42), (12, some 43), (13, some 44), (14, some 45), (15, some 46), (16, some 47), (17, some 48)]
            exact fun _ => rfl
            rfl
            rintro vals ⟨⟨⟨⟨⟨⟨⟨⟨⟨⟨⟨⟨⟨⟨⟨⟨⟨⟨-, f0⟩, f1⟩, f2⟩, f3⟩, f4⟩, f5⟩, f6⟩, f7⟩, f8⟩, f9⟩, f10⟩, f11⟩, f12⟩, f13⟩, f14⟩, f15⟩, f16⟩, f17⟩ w1 hC1 E hE
            simp only [puts, act_put, act_put_none, List.setIfInBounds_toArray, List.set_cons_zero, List.set_cons_succ, f0, f1, f2, f3, f4, f5, f6, f7, f8, f9, f10, f11, f12, f13, f14, f15, f16, f17] at hE ⊢
            clear f0 f1 f2 f3 f4 f5 f6 f7 f8 f9 f10 f11 f12 f13 f14 f15 f16 f17
            go_wp2
            exact .mk (hE _ hC1)
          rintro vals ⟨⟨⟨⟨⟨⟨⟨⟨⟨⟨⟨⟨⟨⟨⟨⟨⟨⟨⟨-, f0⟩, f1⟩, f2⟩, f3⟩, f4⟩, f5⟩, f6⟩, f7⟩, f8⟩, f9⟩, f10⟩, f11⟩, f12⟩, f13⟩, f14⟩, f15⟩, f16⟩, f17⟩, f18⟩ w1 hC1
          simp only [puts, act_put, act_put_none, List.setIfInBounds_toArray, List.set_cons_zero, List.set_cons_succ, f0, f1, f2, f3, f4, f5, f6, f7, f8, f9, f10, f11, f12, f13, f14, f15, f16, f17, f18]
          clear f0 f1 f2 f3 f4 f5 f6 f7 f8 f9 f10 f11 f12 f13 f14 f15 f16 f17 f18
          have d0 := HCO.out _ hC1
          have q0 := hC1.out.free p
          have HST := Lib.hid hC1
          clear hC1 HC0
          go_wp2_with fail
          exact ⟨⟨j + 1, cc, out.set p dd, HHJ.out, by go_num, rfl, HCC.out, HOL.out, HOD.out, HSTEP.out, HST.out.put (wrote_setCell_at _ _ _ _) (by have h := blk_setCell_at (i := p) HST.out.out (.int .i64 (dd : Int)); rw [dV_set] at h; exact h)⟩, by have := HHJ.out; simp [intOf]; omega⟩
        · obtain rfl : j = m := by omega
          obtain ⟨p, hp⟩ : ∃ p, p = i + j := ⟨_, rfl⟩
          have hpi : (i : Int) + (j : Int) = (p : Int) := by omega
          have hpT : p ≤ T := by have := HT.out; omega
          obtain ⟨S2, hS2⟩ : ∃ S2, S2 = leV (a.take (i + 1)) * leV b := ⟨_, rfl⟩
          have hbig : S2 < 256 ^ T := by
            have h := times_big (i := i + 1) HA.out HB.out
            rw [hS2, HT.out, HN.out, HM.out]; exact h
          have htot : leV out + 256 ^ p * cy = S2 := by
            rw [hp, heq, hS2, ← times_next, HS.out, HX.out, List.take_of_length_le (Nat.le_of_eq HM.out.symm)]
          have HTOT := Lib.hid htot
          have HBIG := Lib.hid hbig
          have HS2 := Lib.hid hS2
          have HOL := Lib.hid hol
          have HOD := Lib.hid hod
          have HST := Lib.hid hst
          have HCY := Lib.hid hcy
          have HPT := Lib.hid hpT
          clear htot hbig hS2 hol hod hst heq hp hcy hpT
          go_wp2_with fail
          obtain ⟨wi, rfl⟩ : ∃ x, x = wr := ⟨_, rfl⟩
          go_loopw [7, 10] (fun c k10 wr => ∃ (k cy : Nat) (out : List Nat), k ≤ T ∧ k10 = .int .i64 k ∧ c = .int .i64 cy ∧ cy ≤ 255 ∧ out.length = T ∧ Dg out ∧ leV out + 256 ^ k * cy = S2 ∧ D1 w g out wr) (fun _ k10 _ => T + 1 - (intOf k10).toNat)
          case atStart => exact ⟨p, cy, out, HPT.out, rfl, rfl, HCY.out, HOL.out, HOD.out, HTOT.out, HST.out⟩
          case round =>
            clear HOL HOD HTOT HST HCY HPT hpi
            obtain ⟨k, cy, out, hk, rfl, rfl, hcy, hol, hod, heq, hst⟩ := hrel
            by_cases hc0 : 0 < cy
            · have hc0' : (cy : Int) > 0 := by omega
              have hkT := times_room heq HBIG.out hc0
              have hkT' : (k : Int) < (T : Int) := by omega
              obtain ⟨od, hodd⟩ : ∃ od, od = out.getD k 0 := ⟨_, rfl⟩
              have hodl : od < 256 := by rw [hodd]; exact dg_getD hod k
              obtain ⟨v, hv⟩ : ∃ v, v = od + 0 + cy := ⟨_, rfl⟩
              have hvi : (od : Int) + (cy : Int) = (v : Int) := by omega
              have hstep := times_step (v := v) (by rw [hol]; exact hkT) (by rw [hv, hodd]) heq
              rw [Nat.mul_zero, Nat.add_zero] at hstep
              obtain ⟨dd, hdd⟩ : ∃ dd, v % 256 = dd := ⟨_, rfl⟩
              obtain ⟨cc, hcc⟩ : ∃ cc, v / 256 = cc := ⟨_, rfl⟩
              have hddi : (v : Int) % 256 = (dd : Int) := by omega
              have hcci : (v : Int) / 256 = (cc : Int) := by omega
              rw [hdd, hcc] at hstep
              have hod2 := dg_set hod k dd (by omega)
              have hol2 : (out.set k dd).length = T := by rw [List.length_set]; exact hol
              have d0 := hst.out.cell k
              rw [dV_cell (by rw [hol]; exact hkT), ← hodd] at d0
              have q0 := hst.out.free k
              have HSTEP := Lib.hid hstep
              have HOD := Lib.hid hod2
              have HOL := Lib.hid hol2
              have HST := Lib.hid hst
              have hodl' : (od : Int) < 256 := by omega
              have hcyl' : (cy : Int) ≤ 255 := by omega
              have hvl' : (v : Int) < 65536 := by omega
              have HCC := Lib.hid (show cc ≤ 255 by omega)
              have HKT := Lib.hid hkT
              clear hstep hod2 hol2 hol hod hst heq hodd hv hdd hcc hodl hcy hk hkT hc0
              clear hvl'
              go_wp2_with fail
              exact ⟨⟨k + 1, cc, out.set k dd, HKT.out, by go_num, rfl, HCC.out, HOL.out, HOD.out, HSTEP.out, HST.out.put (wrote_setCell_at _ _ _ _) (by have h := blk_setCell_at (i := k) HST.out.out (.int .i64 (dd : Int)); rw [dV_set] at h; exact h)⟩, by have := HKT.out; simp [intOf]; omega⟩
            · obtain rfl : cy = 0 := by omega
              have hout : leV out = leV (a.take (i + 1)) * leV b := by rw [← HS2.out, ← heq]; simp
              have HOUT := Lib.hid hout
              have HOL := Lib.hid hol
              have HOD := Lib.hid hod
              have HST := Lib.hid hst
              clear hout hol hod hst heq hc0 hcy
              go_wp2_with fail
              exact ⟨⟨i + 1, out, hlt, by go_num, HOL.out, HOD.out, HOUT.out, HST.out⟩, by simp [intOf]; omega⟩
    · obtain rfl : i = n := by omega
      have hfin := times_end (a := a) (b := b) hod (by rw [hol, HT.out, HN.out, HM.out]) (by rw [← HN.out]; exact heq)
      rw [← HN.out, ← HM.out] at hfin
      have HST := Lib.hid hst
      have HFIN := Lib.hid hfin
      have HOL := Lib.hid hol
      clear hst hfin hol hod heq hi hlt
      go_wp2_with fail
      go_ret
      rw [← HFIN.out]
      exact HST.out.post HOL.out.symm (Nat.le_refl _)
end Go.Proofs.Ytbeokfpbhemcfaa
/-
  Plain: what Fold reckons.
-/
namespace Go.Proofs.Ytbeokfpbhemcfaa
set_option linter.unusedSimpArgs false
set_option linter.unusedVariables false
open Go.RowKit

/-- the number of a slice of digits in memory -/
def digVal (v : Value) (u : World) : Nat :=
  match v with
  | .slice (some ad) n _ => leV ((List.range n).map fun i => match u.cell? (ad.add i) with | some (.int _ z) => z.toNat | _ => 0)
  | _ => 0
theorem digVal_rd {u : World} {B : Nat} {A : Option Addr} {l : List Nat} (c : Nat) (h : Rd u B A (dV l)) : digVal (.slice A l.length c) u = leV l := by
  cases A with
  | none =>
    cases l with
    | nil => rfl
    | cons d r =>
      obtain ⟨ad, h1, _⟩ := h 0 (numV d) (by simp [dV])
      cases h1
  | some ad =>
    rw [digVal]
    congr 1
    apply List.ext_getElem?
    intro j
    by_cases hj : j < l.length
    · obtain ⟨ad2, h1, _, h3⟩ := h.at_ (k := j) (by rw [dV_length]; exact hj)
      injection h1 with h1
      subst h1
      rw [dV_at hj] at h3
      rw [List.getElem?_map, List.getElem?_range hj, List.getElem?_eq_getElem hj]
      simp only [Option.map_some, h3, Int.toNat_natCast]
    · rw [List.getElem?_eq_none (by simp; omega), List.getElem?_eq_none (by omega)]
theorem leV_last (l : List Nat) (h : 0 < l.length) (h0 : l.getD (l.length - 1) 0 = 0) : leV (l.take (l.length - 1)) = leV l := by
  have e := leV_take_step l (l.length - 1)
  rw [h0, Nat.mul_zero, Nat.add_zero, show l.length - 1 + 1 = l.length by omega, List.take_length] at e
  exact e.symm
theorem fold_split (l : List Nat) (h : 32 < l.length) : leV l = leV (l.take 32) + 256 ^ 32 * leV (l.drop 32) := by
  conv => lhs; rw [← List.take_append_drop 32 l, leV_append, List.length_take, Nat.min_eq_left (by omega)]
theorem fold_mod (a b : Nat) : (a + b * 38) % PN = (a + 256 ^ 32 * b) % PN := by
  rw [show (256 : Nat) ^ 32 = 38 + PN * 2 by decide, Nat.add_mul, ← Nat.add_assoc, Nat.mul_assoc, Nat.add_mul_mod_self_left, Nat.mul_comm 38]
theorem fold_less (l : List Nat) (hl : Dg l) (h : 32 < l.length) (h0 : l.getD (l.length - 1) 0 ≠ 0) : leV (l.take 32) + leV (l.drop 32) * 38 < leV l := by
  rw [fold_split l h]
  have hpos : 0 < leV (l.drop 32) := by
    rcases Nat.eq_zero_or_pos (leV (l.drop 32)) with e | e
    · exfalso
      have h1 := leV_at (l.drop 32) (dg_drop hl 32) (l.length - 33)
      rw [e, Nat.zero_div] at h1
      apply h0
      have h2 : (l.drop 32).getD (l.length - 33) 0 = l.getD (l.length - 1) 0 := by
        rw [List.getD_eq_getElem?_getD, List.getD_eq_getElem?_getD, List.getElem?_drop, show 32 + (l.length - 33) = l.length - 1 by omega]
      rw [← h2, ← h1]
    · exact e
  have e : 256 ^ 32 * leV (l.drop 32) = leV (l.drop 32) * 38 + leV (l.drop 32) * (256 ^ 32 - 38) := by
    rw [← Nat.mul_add, Nat.mul_comm]
  rw [e]
  have h3 : 0 < leV (l.drop 32) * (256 ^ 32 - 38) := Nat.mul_pos hpos (by decide)
  omega
theorem times_val {a b : List Nat} (ha : Dg a) (hb : Dg b) : leV (digN (a.length + b.length + 1) (leV a * leV b)) = leV a * leV b := by
  have h := times_big (i := a.length) ha hb
  rw [List.take_length] at h
  exact digN_val _ _ h
theorem plus_val {a b : List Nat} (ha : Dg a) (hb : Dg b) : leV (digN (max a.length b.length + 1) (leV a + leV b)) = leV a + leV b := by
  have h1 := leV_big ha (Nat.le_max_left a.length b.length)
  have h2 := leV_big hb (Nat.le_max_right a.length b.length)
  apply digN_val
  rw [Nat.pow_succ]
  omega
/-- the last steps: p less, until it is below p -/
theorem mod_less {N V : Nat} (h : V % PN = N % PN) (hv : V < PN) : V = N % PN := by rw [← h, Nat.mod_eq_of_lt hv]
theorem sub_mod {V : Nat} (h : PN ≤ V) : (V - PN) % PN = V % PN := by
  conv => rhs; rw [show V = (V - PN) + PN by omega, Nat.add_mod_right]
end Go.Proofs.Ytbeokfpbhemcfaa
/-
  Plain: the bytes of a number's digits are that number.
-/
namespace Go.Proofs.Ytbeokfpbhemcfaa
set_option linter.unusedSimpArgs false
set_option linter.unusedVariables false
open Go.RowKit

theorem refB_val {l : List Nat} {n N : Nat} (h : l = digN n N) (hn : n ≤ 32) (hN : N < 256 ^ n) : leV (digs (refB l)) = N := by
  have e : digs (refB l) = digN 32 N := by
    have hb : refB l = byB N := by
      rw [refB, byB, byN_dig]
      apply List.ext_getElem?
      intro j
      by_cases hj : j < 32
      · rw [List.getElem?_map, List.getElem?_map, List.getElem?_range hj]
        have e2 : l.getD j 0 = N / 256 ^ j % 256 := by
          rw [← digN_val n N hN, leV_at _ (digN_dg n N), ← h]
        have e3 : (digN 32 N)[j]? = some (N / 256 ^ j % 256) := by simp [digN, hj]
        rw [e3]
        show some (UInt8.ofNat (l.getD j 0)) = some _
        rw [e2]
      · rw [List.getElem?_eq_none (by simp; omega), List.getElem?_eq_none (by simp [digN_length]; omega)]
    rw [hb, digs_byB, byN_dig]
  rw [e, digN_val 32 N (Nat.lt_of_lt_of_le hN (Nat.pow_le_pow_right (by decide) hn))]
end Go.Proofs.Ytbeokfpbhemcfaa
