/-
  Walk: the reference's Plus.
-/
import Derived.Test.YtngecbnbddoldaaRm
namespace Go.Proofs.Ytngecbnbddoldaa
set_option linter.unusedSimpArgs false
set_option linter.unusedVariables false
open Go.RowKit

theorem dV_cell {l : List Nat} {k : Nat} (h : k < l.length) : (dV l).toArray[k]? = some (.int .i64 ((l.getD k 0 : Nat) : Int)) := by
  simp [dV, numV, List.getElem?_eq_getElem h, List.getD_eq_getElem?_getD]
set_option maxRecDepth 100000 in
set_option maxHeartbeats 4000000 in
theorem rplus_any (a b : List Nat) (ha : Dg a) (hb : Dg b) (A B : Option Addr) (c d : Nat) (w : World) (hra : Rd w w.heap.size A (dV a)) (hrb : Rd w w.heap.size B (dV b)) (hla : a.length ≤ 1000000) (hlb : b.length ≤ 1000000) :
    Calls Try.prog 25 #[.slice A a.length c, .slice B b.length d] w (DigPost (digN (max a.length b.length + 1) (leV a + leV b)) w) := by
  obtain ⟨n, hn⟩ : ∃ n, n = a.length := ⟨_, rfl⟩
  obtain ⟨m, hm⟩ : ∃ m, m = b.length := ⟨_, rfl⟩
  rw [← hn, ← hm]
  have hn63 : (n : Int) ≤ 1000000 := by omega
  have hm63 : (m : Int) ≤ 1000000 := by omega
  have HRA := Lib.hid hra
  have HRB := Lib.hid hrb
  have HA := Lib.hid ha
  have HB := Lib.hid hb
  have HN := Lib.hid hn
  have HM := Lib.hid hm
  clear hra hrb ha hb hn hm hla hlb
  by_cases hnm : n < m
  · have hnm' : (m : Int) > (n : Int) := by omega
    have hpp : max n m = m := Nat.max_eq_right (by omega)
    have hp1 : n ≤ m := by omega
    have hp2 : m ≤ m := Nat.le_refl _
    obtain ⟨N, hN⟩ : ∃ N, N = m + 1 := ⟨_, rfl⟩
    have hNi : (m : Int) + 1 = (N : Int) := by omega
    have hmk := make_ints N (by omega)
    have hst0 : D1 w w.heap.size (partL [] N) _ := d1_new (partL [] N) (Below.refl w.heap.size w)
    have HST0 := Lib.hid hst0
    have HNN := Lib.hid hN
    have Hm := Lib.hid hpp
    have HP1 := Lib.hid hp1
    have HP2 := Lib.hid hp2
    clear hst0 hN hpp hp1 hp2 hnm
    go_enter Try.func25, Try.ntmps25
    go_wp2_with fail
    generalize hg : w.heap.size = g at HST0 HRA HRB ⊢
    have HG := Lib.hid hg
    clear hg hmk
    go_loopw [7, 8] (fun s i wr => ∃ (k bor : Nat) (out : List Nat), k ≤ N ∧ i = .int .i64 k ∧ bor ≤ 1 ∧ s = .int .i64 bor ∧ out.length = k ∧ Dg out ∧ leV out + 256 ^ k * bor = leV (a.take k) + leV (b.take k) ∧ D1 w g (partL out N) wr) (fun _ i _ => N - (intOf i).toNat)
    case atStart => exact ⟨0, 0, [], by omega, rfl, by omega, rfl, rfl, by unfold Dg; simp, by simp [leV], HST0.out⟩
    case round =>
      clear HST0
      obtain ⟨k, s, out, hk, rfl, hs, rfl, hol, hod, heq, hst⟩ := hrel
      by_cases hlt : k < N
      · have hlt' : (k : Int) ≤ (m : Int) := by omega
        have hel : Below g w wr := by have h := hst.bel; rw [HG.out] at h; exact h
        have hgs : g ≤ wr.heap.size := by rw [← HG.out]; exact hst.bel.size
        obtain ⟨x, hx⟩ : ∃ x, x = a.getD k 0 := ⟨_, rfl⟩
        obtain ⟨y, hy⟩ : ∃ y, y = b.getD k 0 := ⟨_, rfl⟩
        have hxl : x < 256 := by rw [hx]; exact dg_getD HA.out k
        have hyl : y < 256 := by rw [hy]; exact dg_getD HB.out k
        have hstep := plus_step hol heq
        rw [← hx, ← hy] at hstep
        have hcarry : (s + x + y) / 256 ≤ 1 := by omega
        obtain ⟨v, hv⟩ : ∃ v, s + x + y = v := ⟨_, rfl⟩
        rw [hv] at hstep hcarry
        obtain ⟨dd, hdd⟩ : ∃ dd, v % 256 = dd := ⟨_, rfl⟩
        obtain ⟨cc, hcc⟩ : ∃ cc, v / 256 = cc := ⟨_, rfl⟩
        rw [hdd, hcc] at hstep
        rw [hcc] at hcarry
        have hddi : (v : Int) % 256 = (dd : Int) := by omega
        have hcci : (v : Int) / 256 = (cc : Int) := by omega
        have hset := partL_set out N k dd hol hlt
        have hod2 := dg_snoc hod (show dd < 256 by omega)
        have hol2 : (out ++ [dd]).length = k + 1 := by rw [List.length_append, hol]; rfl
        have HSTEP := Lib.hid hstep
        have HSET := Lib.hid hset
        have HOD := Lib.hid hod2
        have HOL := Lib.hid hol2
        have HST := Lib.hid hst
        have HCARRY := Lib.hid hcarry
        have HSZ := Lib.hid (partL_length out N (by omega))
        have hx' : (x : Int) < 256 := by omega
        have hy' : (y : Int) < 256 := by omega
        have hs' : (s : Int) ≤ 1 := by omega
        have hv' : (v : Int) ≤ 511 := by omega
        have hKM : (k < m → ∃ bd, B = some bd ∧ wr.cell? (bd.add k) = some (.int .i64 (y : Int))) ∧ (¬ k < m → y = 0) := ⟨fun h => by
          obtain ⟨bd, h1, h2⟩ := dig_cell ((HRB.out.below hel).mono hgs) (k := k) (by rw [← HM.out]; exact h)
          rw [← hy] at h2
          exact ⟨bd, h1, h2⟩, fun h => by rw [hy]; exact dig_none (by rw [← HM.out]; exact h)⟩
        have hKN : (k < n → ∃ ad, A = some ad ∧ wr.cell? (ad.add k) = some (.int .i64 (x : Int))) ∧ (¬ k < n → x = 0) := ⟨fun h => by
          obtain ⟨bd, h1, h2⟩ := dig_cell ((HRA.out.below hel).mono hgs) (k := k) (by rw [← HN.out]; exact h)
          rw [← hx] at h2
          exact ⟨bd, h1, h2⟩, fun h => by rw [hx]; exact dig_none (by rw [← HN.out]; exact h)⟩
        have d0 := hst.out.cell k
        rw [dV_cell (by rw [partL_length out N (by omega)]; exact hlt)] at d0
        have q0 := hst.out.free k
        obtain ⟨hk1, hk2⟩ := hKM
        obtain ⟨hj1, hj2⟩ := hKN
        clear hst hstep hset hod hod2 hol hol2 heq hx hy hxl hyl hs hel hgs hcarry hdd hcc
        by_cases hkn : k < n <;> by_cases hkm : k < m
        · obtain ⟨ad, rfl, hca⟩ := hj1 hkn
          have hkn' : (k : Int) < (n : Int) := by omega
          obtain ⟨bd, rfl, hcb⟩ := hk1 hkm
          have hkm' : (k : Int) < (m : Int) := by omega
          have hvi : (s : Int) + (x : Int) + (y : Int) = (v : Int) := by omega
          clear hk1 hk2 hj1 hj2 hv hkn hkm
          go_wp2_with fail
          exact ⟨⟨k + 1, cc, out ++ [dd], by omega, by go_num, HCARRY.out, rfl, HOL.out, HOD.out, HSTEP.out, HST.out.put (wrote_setCell_at _ _ _ _) (by have h := blk_setCell_at (i := k) HST.out.out (.int .i64 (dd : Int)); rw [dV_set, HSET.out] at h; exact h)⟩, by simp [intOf]; omega⟩
        · exfalso; omega
        · obtain rfl := hj2 hkn
          have hkn' : ¬ (k : Int) < (n : Int) := by omega
          obtain ⟨bd, rfl, hcb⟩ := hk1 hkm
          have hkm' : (k : Int) < (m : Int) := by omega
          have hvi : (s : Int) + (y : Int) = (v : Int) := by omega
          clear hk1 hk2 hj1 hj2 hv hkn hkm
          go_wp2_with fail
          exact ⟨⟨k + 1, cc, out ++ [dd], by omega, by go_num, HCARRY.out, rfl, HOL.out, HOD.out, HSTEP.out, HST.out.put (wrote_setCell_at _ _ _ _) (by have h := blk_setCell_at (i := k) HST.out.out (.int .i64 (dd : Int)); rw [dV_set, HSET.out] at h; exact h)⟩, by simp [intOf]; omega⟩
        · obtain rfl := hj2 hkn
          have hkn' : ¬ (k : Int) < (n : Int) := by omega
          obtain rfl := hk2 hkm
          have hkm' : ¬ (k : Int) < (m : Int) := by omega
          obtain rfl : s = v := by omega
          clear hk1 hk2 hj1 hj2 hv hkn hkm
          go_wp2_with fail
          exact ⟨⟨k + 1, cc, out ++ [dd], by omega, by go_num, HCARRY.out, rfl, HOL.out, HOD.out, HSTEP.out, HST.out.put (wrote_setCell_at _ _ _ _) (by have h := blk_setCell_at (i := k) HST.out.out (.int .i64 (dd : Int)); rw [dV_set, HSET.out] at h; exact h)⟩, by simp [intOf]; omega⟩
      · obtain rfl : k = N := by omega
        have hge : ¬ (k : Int) ≤ (m : Int) := by omega
        have hfin := plus_end (n := m) HA.out HB.out hod (by rw [hol]; exact HNN.out) (by rw [← HN.out]; exact HP1.out) (by rw [← HM.out]; exact HP2.out) (by rw [← HNN.out]; exact heq)
        rw [partL_full out _ hol] at hst
        have HST := Lib.hid hst
        have HFIN := Lib.hid hfin
        have HOL := Lib.hid hol
        clear hst hfin hol hod heq hs hk hlt
        go_wp2_with fail
        go_ret
        rw [Hm.out, ← HFIN.out]
        exact HST.out.post HOL.out.symm (Nat.le_refl _)
  · have hnm' : ¬ (m : Int) > (n : Int) := by omega
    have hpp : max n m = n := Nat.max_eq_left (by omega)
    have hp1 : n ≤ n := Nat.le_refl _
    have hp2 : m ≤ n := by omega
    obtain ⟨N, hN⟩ : ∃ N, N = n + 1 := ⟨_, rfl⟩
    have hNi : (n : Int) + 1 = (N : Int) := by omega
    have hmk := make_ints N (by omega)
    have hst0 : D1 w w.heap.size (partL [] N) _ := d1_new (partL [] N) (Below.refl w.heap.size w)
    have HST0 := Lib.hid hst0
    have HNN := Lib.hid hN
    have Hn := Lib.hid hpp
    have HP1 := Lib.hid hp1
    have HP2 := Lib.hid hp2
    clear hst0 hN hpp hp1 hp2 hnm
    go_enter Try.func25, Try.ntmps25
    go_wp2_with fail
    generalize hg : w.heap.size = g at HST0 HRA HRB ⊢
    have HG := Lib.hid hg
    clear hg hmk
    go_loopw [7, 8] (fun s i wr => ∃ (k bor : Nat) (out : List Nat), k ≤ N ∧ i = .int .i64 k ∧ bor ≤ 1 ∧ s = .int .i64 bor ∧ out.length = k ∧ Dg out ∧ leV out + 256 ^ k * bor = leV (a.take k) + leV (b.take k) ∧ D1 w g (partL out N) wr) (fun _ i _ => N - (intOf i).toNat)
    case atStart => exact ⟨0, 0, [], by omega, rfl, by omega, rfl, rfl, by unfold Dg; simp, by simp [leV], HST0.out⟩
    case round =>
      clear HST0
      obtain ⟨k, s, out, hk, rfl, hs, rfl, hol, hod, heq, hst⟩ := hrel
      by_cases hlt : k < N
      · have hlt' : (k : Int) ≤ (n : Int) := by omega
        have hel : Below g w wr := by have h := hst.bel; rw [HG.out] at h; exact h
        have hgs : g ≤ wr.heap.size := by rw [← HG.out]; exact hst.bel.size
        obtain ⟨x, hx⟩ : ∃ x, x = a.getD k 0 := ⟨_, rfl⟩
        obtain ⟨y, hy⟩ : ∃ y, y = b.getD k 0 := ⟨_, rfl⟩
        have hxl : x < 256 := by rw [hx]; exact dg_getD HA.out k
        have hyl : y < 256 := by rw [hy]; exact dg_getD HB.out k
        have hstep := plus_step hol heq
        rw [← hx, ← hy] at hstep
        have hcarry : (s + x + y) / 256 ≤ 1 := by omega
        obtain ⟨v, hv⟩ : ∃ v, s + x + y = v := ⟨_, rfl⟩
        rw [hv] at hstep hcarry
        obtain ⟨dd, hdd⟩ : ∃ dd, v % 256 = dd := ⟨_, rfl⟩
        obtain ⟨cc, hcc⟩ : ∃ cc, v / 256 = cc := ⟨_, rfl⟩
        rw [hdd, hcc] at hstep
        rw [hcc] at hcarry
        have hddi : (v : Int) % 256 = (dd : Int) := by omega
        have hcci : (v : Int) / 256 = (cc : Int) := by omega
        have hset := partL_set out N k dd hol hlt
        have hod2 := dg_snoc hod (show dd < 256 by omega)
        have hol2 : (out ++ [dd]).length = k + 1 := by rw [List.length_append, hol]; rfl
        have HSTEP := Lib.hid hstep
        have HSET := Lib.hid hset
        have HOD := Lib.hid hod2
        have HOL := Lib.hid hol2
        have HST := Lib.hid hst
        have HCARRY := Lib.hid hcarry
        have HSZ := Lib.hid (partL_length out N (by omega))
        have hx' : (x : Int) < 256 := by omega
        have hy' : (y : Int) < 256 := by omega
        have hs' : (s : Int) ≤ 1 := by omega
        have hv' : (v : Int) ≤ 511 := by omega
        have hKM : (k < m → ∃ bd, B = some bd ∧ wr.cell? (bd.add k) = some (.int .i64 (y : Int))) ∧ (¬ k < m → y = 0) := ⟨fun h => by
          obtain ⟨bd, h1, h2⟩ := dig_cell ((HRB.out.below hel).mono hgs) (k := k) (by rw [← HM.out]; exact h)
          rw [← hy] at h2
          exact ⟨bd, h1, h2⟩, fun h => by rw [hy]; exact dig_none (by rw [← HM.out]; exact h)⟩
        have hKN : (k < n → ∃ ad, A = some ad ∧ wr.cell? (ad.add k) = some (.int .i64 (x : Int))) ∧ (¬ k < n → x = 0) := ⟨fun h => by
          obtain ⟨bd, h1, h2⟩ := dig_cell ((HRA.out.below hel).mono hgs) (k := k) (by rw [← HN.out]; exact h)
          rw [← hx] at h2
          exact ⟨bd, h1, h2⟩, fun h => by rw [hx]; exact dig_none (by rw [← HN.out]; exact h)⟩
        have d0 := hst.out.cell k
        rw [dV_cell (by rw [partL_length out N (by omega)]; exact hlt)] at d0
        have q0 := hst.out.free k
        obtain ⟨hk1, hk2⟩ := hKM
        obtain ⟨hj1, hj2⟩ := hKN
        clear hst hstep hset hod hod2 hol hol2 heq hx hy hxl hyl hs hel hgs hcarry hdd hcc
        by_cases hkn : k < n <;> by_cases hkm : k < m
        · obtain ⟨ad, rfl, hca⟩ := hj1 hkn
          have hkn' : (k : Int) < (n : Int) := by omega
          obtain ⟨bd, rfl, hcb⟩ := hk1 hkm
          have hkm' : (k : Int) < (m : Int) := by omega
          have hvi : (s : Int) + (x : Int) + (y : Int) = (v : Int) := by omega
          clear hk1 hk2 hj1 hj2 hv hkn hkm
          go_wp2_with fail
          exact ⟨⟨k + 1, cc, out ++ [dd], by omega, by go_num, HCARRY.out, rfl, HOL.out, HOD.out, HSTEP.out, HST.out.put (wrote_setCell_at _ _ _ _) (by have h := blk_setCell_at (i := k) HST.out.out (.int .i64 (dd : Int)); rw [dV_set, HSET.out] at h; exact h)⟩, by simp [intOf]; omega⟩
        · obtain ⟨ad, rfl, hca⟩ := hj1 hkn
          have hkn' : (k : Int) < (n : Int) := by omega
          obtain rfl := hk2 hkm
          have hkm' : ¬ (k : Int) < (m : Int) := by omega
          have hvi : (s : Int) + (x : Int) = (v : Int) := by omega
          clear hk1 hk2 hj1 hj2 hv hkn hkm
          go_wp2_with fail
          exact ⟨⟨k + 1, cc, out ++ [dd], by omega, by go_num, HCARRY.out, rfl, HOL.out, HOD.out, HSTEP.out, HST.out.put (wrote_setCell_at _ _ _ _) (by have h := blk_setCell_at (i := k) HST.out.out (.int .i64 (dd : Int)); rw [dV_set, HSET.out] at h; exact h)⟩, by simp [intOf]; omega⟩
        · exfalso; omega
        · obtain rfl := hj2 hkn
          have hkn' : ¬ (k : Int) < (n : Int) := by omega
          obtain rfl := hk2 hkm
          have hkm' : ¬ (k : Int) < (m : Int) := by omega
          obtain rfl : s = v := by omega
          clear hk1 hk2 hj1 hj2 hv hkn hkm
          go_wp2_with fail
          exact ⟨⟨k + 1, cc, out ++ [dd], by omega, by go_num, HCARRY.out, rfl, HOL.out, HOD.out, HSTEP.out, HST.out.put (wrote_setCell_at _ _ _ _) (by have h := blk_setCell_at (i := k) HST.out.out (.int .i64 (dd : Int)); rw [dV_set, HSET.out] at h; exact h)⟩, by simp [intOf]; omega⟩
      · obtain rfl : k = N := by omega
        have hge : ¬ (k : Int) ≤ (n : Int) := by omega
        have hfin := plus_end (n := n) HA.out HB.out hod (by rw [hol]; exact HNN.out) (by rw [← HN.out]; exact HP1.out) (by rw [← HM.out]; exact HP2.out) (by rw [← HNN.out]; exact heq)
        rw [partL_full out _ hol] at hst
        have HST := Lib.hid hst
        have HFIN := Lib.hid hfin
        have HOL := Lib.hid hol
        clear hst hfin hol hod heq hs hk hlt
        go_wp2_with fail
        go_ret
        rw [Hn.out, ← HFIN.out]
        exact HST.out.post HOL.out.symm (Nat.le_refl _)
end Go.Proofs.Ytngecbnbddoldaa
