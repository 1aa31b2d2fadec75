/-
  Walk: the reference's Pow.
-/
import Derived.Test.YtngecbnbddoldaaRi
namespace Go.Proofs.Ytngecbnbddoldaa
set_option linter.unusedSimpArgs false
set_option linter.unusedVariables false
open Go.RowKit

theorem half_pow (b k : Nat) (h : k < 8) : b / 2 ^ (8 - k) = b / 2 ^ (7 - k) / 2 := by
  rw [show 8 - k = (7 - k) + 1 by omega, Nat.pow_succ, Nat.div_div_eq_div_mul]
theorem expo_step (E b k : Nat) (h : k < 8) : E * 2 ^ (k + 1) + b / 2 ^ (8 - (k + 1)) = 2 * (E * 2 ^ k + b / 2 ^ (8 - k)) + b / 2 ^ (7 - k) % 2 := by
  rw [half_pow b k h, show 8 - (k + 1) = 7 - k by omega, Nat.pow_succ, Nat.mul_add, ← Nat.mul_assoc E, Nat.mul_comm 2 (E * 2 ^ k)]
  omega
theorem sq_mod (x n : Nat) : (x ^ n % PN) * (x ^ n % PN) % PN = x ^ (2 * n) % PN := by rw [pow_mod_mul, Nat.two_mul]
theorem mul_mod_pow (x n : Nat) : (x ^ n % PN) * x % PN = x ^ (n + 1) % PN := by rw [Nat.mod_mul_mod, Nat.pow_succ]
theorem drop_val (e : List Nat) (p : Nat) (h : p < e.length) : leV (e.drop p) = e.getD p 0 + 256 * leV (e.drop (p + 1)) := by
  rw [List.drop_eq_getElem_cons h, leV, List.getD_eq_getElem?_getD, List.getElem?_eq_getElem h]; rfl
theorem rd_shape {l : List Nat} {w : World} {A : Option Addr} (h : Rd w w.heap.size A (dV l)) {w' : World} (hb : Below w.heap.size w w') : Rd w' w'.heap.size A (dV l) := (h.below hb).mono hb.size
set_option maxRecDepth 100000 in
set_option maxHeartbeats 4000000 in
theorem rpow_any (a e : List Nat) (ha : Dg a) (he : Dg e) (A B : Option Addr) (c d : Nat) (w : World) (hra : Rd w w.heap.size A (dV a)) (hrb : Rd w w.heap.size B (dV e)) (hla : a.length ≤ 100000) (hlb : e.length ≤ 100000) :
    Calls Try.prog 26 #[.slice A a.length c, .slice B e.length d] w (DigPost (digN 32 (leV a ^ leV e % PN)) w) := by
  obtain ⟨n, hn⟩ : ∃ n, n = a.length := ⟨_, rfl⟩
  obtain ⟨m, hm⟩ : ∃ m, m = e.length := ⟨_, rfl⟩
  obtain ⟨x, hx⟩ : ∃ x, x = leV a := ⟨_, rfl⟩
  rw [← hn, ← hm, ← hx]
  have hm63 : (m : Int) ≤ 100000 := by omega
  have hmulS : ∀ u, Below w.heap.size w u → ∀ V, V < PN → ∀ A1 c1, Rd u u.heap.size A1 (dV (digN 32 V)) → Calls Try.prog 31 #[.slice A1 32 c1, .slice A1 32 c1] u (DigPost (digN 32 (V * V % PN)) u) := fun u hu V hV A1 c1 h1 => by
    have h := rmul_any (digN 32 V) (digN 32 V) (digN_dg _ _) (digN_dg _ _) A1 A1 c1 c1 u h1 h1 (by rw [digN_length]; decide) (by rw [digN_length]; decide)
    rw [digN_val _ _ (Nat.lt_trans hV (by decide)), digN_length] at h
    exact h
  have hmulA : ∀ u, Below w.heap.size w u → ∀ V, V < PN → ∀ A1 c1, Rd u u.heap.size A1 (dV (digN 32 V)) → Calls Try.prog 31 #[.slice A1 32 c1, .slice A n c] u (DigPost (digN 32 (V * x % PN)) u) := fun u hu V hV A1 c1 h1 => by
    have h := rmul_any (digN 32 V) a (digN_dg _ _) ha A1 A c1 c u h1 (rd_shape hra hu) (by rw [digN_length]; decide) hla
    rw [digN_val _ _ (Nat.lt_trans hV (by decide)), digN_length, ← hn, ← hx] at h
    exact h
  have hcell : ∀ u, Below w.heap.size w u → ∀ p, p < m → ∃ ad, B = some ad ∧ u.cell? (ad.add p) = some (.int .i64 ((e.getD p 0 : Nat) : Int)) := fun u hu p hp => dig_cell (rd_shape hrb hu) (by rw [← hm]; exact hp)
  have h1 := rint_nat 1 (by decide)
  have MS := Lib.hid hmulS
  have MA := Lib.hid hmulA
  have HCELL := Lib.hid hcell
  have HE := Lib.hid he
  have HM := Lib.hid hm
  have H1 := Lib.hid h1
  clear hmulS hmulA hcell ha he hra hrb hla hlb hn hm hx h1
  go_enter Try.func26, Try.ntmps26
  go_wp2_with fail
  refine calls_then (H1.out _) ?_
  rintro e1 w1 ⟨A1, c1, rfl, hc1, hr1, hb1⟩
  rw [digN_length] at hc1
  rw [digN_length]
  have hs0 : ∃ (j : Nat) (A1' : Option Addr) (c1' : Nat), j ≤ m ∧ Value.slice A1 32 c1 = .slice A1' 32 c1' ∧ 32 ≤ c1' ∧ Value.int .i64 ((m : Int) - 1) = .int .i64 ((m : Int) - 1 - (j : Int)) ∧ Rd w1 w1.heap.size A1' (dV (digN 32 (x ^ leV (e.drop (m - j)) % PN))) ∧ Below w.heap.size w w1 :=
    ⟨0, A1, c1, Nat.zero_le _, rfl, hc1, by simp, by rw [Nat.sub_zero, HM.out, List.drop_length]; exact hr1, hb1⟩
  have HS0 := Lib.hid hs0
  clear hc1 hr1 hb1 hs0
  go_wp2_with fail
  go_loopw [5, 6] (fun v i wr => ∃ (j : Nat) (A1' : Option Addr) (c1' : Nat), j ≤ m ∧ v = .slice A1' 32 c1' ∧ 32 ≤ c1' ∧ i = .int .i64 ((m : Int) - 1 - (j : Int)) ∧ Rd wr wr.heap.size A1' (dV (digN 32 (x ^ leV (e.drop (m - j)) % PN))) ∧ Below w.heap.size w wr) (fun _ i _ => (intOf i + 1).toNat)
  case atStart => exact HS0.out
  case round =>
    clear HS0
    obtain ⟨j, A2, c2, hj, rfl, hc2, rfl, hrd, hbel⟩ := hrel
    by_cases hlt : j < m
    · obtain ⟨p, hp⟩ : ∃ p, p + 1 + j = m := ⟨m - 1 - j, by omega⟩
      have hpi : (m : Int) - 1 - (j : Int) = (p : Int) := by omega
      rw [hpi]
      obtain ⟨E, hE⟩ : ∃ E, E = leV (e.drop (m - j)) := ⟨_, rfl⟩
      obtain ⟨b, hb⟩ : ∃ b, b = e.getD p 0 := ⟨_, rfl⟩
      have hbl : b < 256 := by rw [hb]; exact dg_getD HE.out p
      have hs0 : ∃ (k : Nat) (A1' : Option Addr) (c1' : Nat), k ≤ 8 ∧ Value.slice A2 32 c2 = .slice A1' 32 c1' ∧ 32 ≤ c1' ∧ Value.int .i64 128 = .int .i64 ((2 ^ (7 - k) : Nat) : Int) ∧ Value.int .i64 0 = .int .i64 (k : Int) ∧ Rd wr wr.heap.size A1' (dV (digN 32 (x ^ (E * 2 ^ k + b / 2 ^ (8 - k)) % PN))) ∧ Below w.heap.size w wr :=
        ⟨0, A2, c2, by omega, rfl, hc2, rfl, rfl, by rw [Nat.pow_zero, Nat.mul_one, show b / 2 ^ (8 - 0) = 0 from Nat.div_eq_of_lt hbl, Nat.add_zero, hE]; exact hrd, hbel⟩
      have HS0 := Lib.hid hs0
      have HEE := Lib.hid hE
      have HB := Lib.hid hb
      have HBL := Lib.hid hbl
      have HP := Lib.hid hp
      have HLT := Lib.hid hlt
      have hpm : (p : Int) < (m : Int) := by omega
      clear hs0 hE hb hbl hp hlt hrd hbel hj hc2 hpi
      go_wp2_with fail
      obtain ⟨wo, rfl⟩ : ∃ x, x = wr := ⟨_, rfl⟩
      go_loopw [5, 7, 8] (fun v dv kv wr => ∃ (k : Nat) (A1' : Option Addr) (c1' : Nat), k ≤ 8 ∧ v = .slice A1' 32 c1' ∧ 32 ≤ c1' ∧ dv = .int .i64 ((2 ^ (7 - k) : Nat) : Int) ∧ kv = .int .i64 (k : Int) ∧ Rd wr wr.heap.size A1' (dV (digN 32 (x ^ (E * 2 ^ k + b / 2 ^ (8 - k)) % PN))) ∧ Below w.heap.size w wr) (fun _ _ kv _ => 8 - (intOf kv).toNat)
      case atStart => exact HS0.out
      case round =>
        clear HS0
        obtain ⟨k, A3, c3, hk, rfl, hc3, rfl, rfl, hrd, hbel⟩ := hrel
        by_cases hltk : k < 8
        · have hltk' : (k : Int) < 8 := by omega
          obtain ⟨dd, hdd⟩ : ∃ dd, dd = 2 ^ (7 - k) := ⟨_, rfl⟩
          have hd1 : 1 ≤ dd := by rw [hdd]; exact Nat.two_pow_pos _
          have hd128 : dd ≤ 128 := by rw [hdd]; exact Nat.pow_le_pow_right (n := 2) (by decide) (show 7 - k ≤ 7 by omega)
          obtain ⟨bq, hbq⟩ : ∃ bq, bq = b / dd := ⟨_, rfl⟩
          have hbqi : (b : Int) / (dd : Int) = (bq : Int) := by rw [hbq]; simp
          obtain ⟨bit, hbit⟩ : ∃ t, t = bq % 2 := ⟨_, rfl⟩
          have hbiti : (bq : Int) % 2 = (bit : Int) := by omega
          obtain ⟨V, hV⟩ : ∃ V, V = x ^ (E * 2 ^ k + b / 2 ^ (8 - k)) % PN := ⟨_, rfl⟩
          have hVl : V < PN := by rw [hV]; exact Nat.mod_lt _ (by decide)
          have hsq : V * V % PN = x ^ (2 * (E * 2 ^ k + b / 2 ^ (8 - k))) % PN := by rw [hV, sq_mod]
          have hex := expo_step E b k hltk
          rw [← hdd, ← hbq, ← hbit] at hex
          rw [← hV] at hrd
          rw [← hdd]
          obtain ⟨V2, hV2⟩ : ∃ V2, V2 = V * V % PN := ⟨_, rfl⟩
          have hV2l : V2 < PN := by rw [hV2]; exact Nat.mod_lt _ (by decide)
          have hd2 : (if 1 < dd then dd / 2 else dd) = 2 ^ (7 - (k + 1)) := by
            by_cases h7 : k = 7
            · rw [hdd, h7]; decide
            · have e7 : dd = 2 ^ (7 - (k + 1)) * 2 := by rw [hdd, ← Nat.pow_succ]; congr 1; omega
              have e8 : 0 < 2 ^ (7 - (k + 1)) := Nat.two_pow_pos _
              rw [if_pos (by omega), e7]
              omega
          have hlt8 : (b : Int) < 256 := by have := HBL.out; omega
          have hbql : (bq : Int) < 256 := by have h := Nat.div_le_self b dd; rw [← hbq] at h; omega
          have hpm2 : p < m := by omega
          obtain ⟨bd, rfl, _⟩ := HCELL.out wr hbel p hpm2
          have CALL := Lib.hid (MS.out wr hbel V hVl A3 c3 hrd)
          rw [← hV2] at CALL
          have HV2 := Lib.hid hV2
          have HV2L := Lib.hid hV2l
          have HSQ := Lib.hid hsq
          have HEX := Lib.hid hex
          have HBEL := Lib.hid hbel
          have HPM := Lib.hid hpm2
          have HK8 := Lib.hid (show k + 1 ≤ 8 by omega)
          have hd1' : ¬ (dd : Int) = 0 := by omega
          have hd1'' : (0 : Int) < (dd : Int) := by omega
          have hd128' : (dd : Int) ≤ 128 := by omega
          have hbitl : bit < 2 := by omega
          clear hV2 hV2l hsq hex hbel hpm2 hV hVl hrd hdd hbq hk hltk hc3
          by_cases hbitn : bit = 1 <;> by_cases hgtn : 1 < dd
          · have hbit1 : (bq : Int) % 2 = 1 := by omega
            have hdi : (dd : Int) > 1 := by omega
            obtain ⟨d2, hd2e⟩ : ∃ d2, d2 = dd / 2 := ⟨_, rfl⟩
            have hd2i : (dd : Int) / 2 = (d2 : Int) := by omega
            rw [if_pos (show 1 < dd by omega), ← hd2e] at hd2
            have HD2 := Lib.hid hd2
            clear hd2 hd2e
            have hbb : bit = 1 := by omega
            have hfin : V2 * x % PN = x ^ (E * 2 ^ (k + 1) + b / 2 ^ (8 - (k + 1))) % PN := by rw [HEX.out, hbb, HV2.out, HSQ.out, mul_mod_pow]
            have HFIN := Lib.hid hfin
            clear hfin hbb
            clear hbitn hgtn hbiti
            go_wp2_with fail
            refine calls_then CALL.out ?_
            rintro e3 w3 ⟨A4, c4, rfl, hc4, hr4, hb4⟩
            rw [digN_length] at hc4
            rw [digN_length]
            have HB4 := Lib.hid (HBEL.out.trans (hb4.mono HBEL.out.size))
            obtain ⟨ad2, h1, hca⟩ := HCELL.out w3 HB4.out p HPM.out
            injection h1 with h1
            subst h1
            rw [← HB.out] at hca
            have HC4 := Lib.hid hc4
            have HR4 := Lib.hid hr4
            have HMA := Lib.hid (MA.out w3 HB4.out V2 HV2L.out A4 c4 hr4)
            clear hc4 hr4 hb4
            go_wp2_with fail
            refine calls_then HMA.out ?_
            rintro e5 w5 ⟨A5, c5, rfl, hc5, hr5, hb5⟩
            rw [digN_length] at hc5
            rw [digN_length]
            rw [HFIN.out] at hr5
            have HB5 := Lib.hid (HB4.out.trans (hb5.mono HB4.out.size))
            have HC5 := Lib.hid hc5
            have HR5 := Lib.hid hr5
            clear hc5 hr5 hb5
            go_wp2_with fail
            refine ⟨⟨k + 1, A5, c5, HK8.out, rfl, HC5.out, by rw [← HD2.out], by go_num, HR5.out, HB5.out⟩, by have := HK8.out; simp [intOf]; omega⟩
          · have hbit1 : (bq : Int) % 2 = 1 := by omega
            have hdi : ¬ (dd : Int) > 1 := by omega
            rw [if_neg (show ¬ 1 < dd by omega)] at hd2
            have HD2 := Lib.hid hd2
            clear hd2
            have hbb : bit = 1 := by omega
            have hfin : V2 * x % PN = x ^ (E * 2 ^ (k + 1) + b / 2 ^ (8 - (k + 1))) % PN := by rw [HEX.out, hbb, HV2.out, HSQ.out, mul_mod_pow]
            have HFIN := Lib.hid hfin
            clear hfin hbb
            clear hbitn hgtn hbiti
            go_wp2_with fail
            refine calls_then CALL.out ?_
            rintro e3 w3 ⟨A4, c4, rfl, hc4, hr4, hb4⟩
            rw [digN_length] at hc4
            rw [digN_length]
            have HB4 := Lib.hid (HBEL.out.trans (hb4.mono HBEL.out.size))
            obtain ⟨ad2, h1, hca⟩ := HCELL.out w3 HB4.out p HPM.out
            injection h1 with h1
            subst h1
            rw [← HB.out] at hca
            have HC4 := Lib.hid hc4
            have HR4 := Lib.hid hr4
            have HMA := Lib.hid (MA.out w3 HB4.out V2 HV2L.out A4 c4 hr4)
            clear hc4 hr4 hb4
            go_wp2_with fail
            refine calls_then HMA.out ?_
            rintro e5 w5 ⟨A5, c5, rfl, hc5, hr5, hb5⟩
            rw [digN_length] at hc5
            rw [digN_length]
            rw [HFIN.out] at hr5
            have HB5 := Lib.hid (HB4.out.trans (hb5.mono HB4.out.size))
            have HC5 := Lib.hid hc5
            have HR5 := Lib.hid hr5
            clear hc5 hr5 hb5
            go_wp2_with fail
            refine ⟨⟨k + 1, A5, c5, HK8.out, rfl, HC5.out, by rw [← HD2.out], by go_num, HR5.out, HB5.out⟩, by have := HK8.out; simp [intOf]; omega⟩
          · have hbit1 : (bq : Int) % 2 = 0 := by omega
            have hbz : ¬ (bq : Int) % 2 = 1 := by omega
            have hdi : (dd : Int) > 1 := by omega
            obtain ⟨d2, hd2e⟩ : ∃ d2, d2 = dd / 2 := ⟨_, rfl⟩
            have hd2i : (dd : Int) / 2 = (d2 : Int) := by omega
            rw [if_pos (show 1 < dd by omega), ← hd2e] at hd2
            have HD2 := Lib.hid hd2
            clear hd2 hd2e
            have hbb : bit = 0 := by omega
            have hfin : V2 = x ^ (E * 2 ^ (k + 1) + b / 2 ^ (8 - (k + 1))) % PN := by rw [HEX.out, hbb, HV2.out, HSQ.out, Nat.add_zero]
            have HFIN := Lib.hid hfin
            clear hfin hbb
            clear hbitn hgtn hbiti
            go_wp2_with fail
            refine calls_then CALL.out ?_
            rintro e3 w3 ⟨A4, c4, rfl, hc4, hr4, hb4⟩
            rw [digN_length] at hc4
            rw [digN_length]
            have HB4 := Lib.hid (HBEL.out.trans (hb4.mono HBEL.out.size))
            obtain ⟨ad2, h1, hca⟩ := HCELL.out w3 HB4.out p HPM.out
            injection h1 with h1
            subst h1
            rw [← HB.out] at hca
            have HC4 := Lib.hid hc4
            have HR4 := Lib.hid hr4
            clear hc4 hr4 hb4
            go_wp2_with fail
            have hr5 := HR4.out
            rw [HFIN.out] at hr5
            refine ⟨⟨k + 1, A4, c4, HK8.out, rfl, HC4.out, by rw [← HD2.out], by go_num, hr5, HB4.out⟩, by have := HK8.out; simp [intOf]; omega⟩
          · have hbit1 : (bq : Int) % 2 = 0 := by omega
            have hbz : ¬ (bq : Int) % 2 = 1 := by omega
            have hdi : ¬ (dd : Int) > 1 := by omega
            rw [if_neg (show ¬ 1 < dd by omega)] at hd2
            have HD2 := Lib.hid hd2
            clear hd2
            have hbb : bit = 0 := by omega
            have hfin : V2 = x ^ (E * 2 ^ (k + 1) + b / 2 ^ (8 - (k + 1))) % PN := by rw [HEX.out, hbb, HV2.out, HSQ.out, Nat.add_zero]
            have HFIN := Lib.hid hfin
            clear hfin hbb
            clear hbitn hgtn hbiti
            go_wp2_with fail
            refine calls_then CALL.out ?_
            rintro e3 w3 ⟨A4, c4, rfl, hc4, hr4, hb4⟩
            rw [digN_length] at hc4
            rw [digN_length]
            have HB4 := Lib.hid (HBEL.out.trans (hb4.mono HBEL.out.size))
            obtain ⟨ad2, h1, hca⟩ := HCELL.out w3 HB4.out p HPM.out
            injection h1 with h1
            subst h1
            rw [← HB.out] at hca
            have HC4 := Lib.hid hc4
            have HR4 := Lib.hid hr4
            clear hc4 hr4 hb4
            go_wp2_with fail
            have hr5 := HR4.out
            rw [HFIN.out] at hr5
            refine ⟨⟨k + 1, A4, c4, HK8.out, rfl, HC4.out, by rw [← HD2.out], by go_num, hr5, HB4.out⟩, by have := HK8.out; simp [intOf]; omega⟩
        · obtain rfl : k = 8 := by omega
          have hval : x ^ (E * 2 ^ 8 + b / 2 ^ (8 - 8)) = x ^ leV (e.drop (m - (j + 1))) := by
            have hp := HP.out
            rw [show m - (j + 1) = p by omega, drop_val e p (by rw [← HM.out]; omega), ← HB.out, show p + 1 = m - j by omega, ← HEE.out]
            congr 1
            rw [show (2 : Nat) ^ 8 = 256 from rfl, Nat.sub_self, Nat.pow_zero, Nat.div_one]
            omega
          rw [hval] at hrd
          have HRD := Lib.hid hrd
          have HBEL := Lib.hid hbel
          have HC3 := Lib.hid hc3
          have hp1 : (p : Int) - 1 = (m : Int) - 1 - ((j + 1 : Nat) : Int) := by have := HP.out; omega
          have HP1 := Lib.hid hp1
          clear hval hrd hbel hc3 hk hltk hp1
          go_wp2_with fail
          exact ⟨⟨j + 1, A3, c3, HLT.out, rfl, HC3.out, by rw [HP1.out], HRD.out, HBEL.out⟩, by simp [intOf]⟩
    · obtain rfl : j = m := by omega
      rw [Nat.sub_self, List.drop_zero] at hrd
      have HRD := Lib.hid hrd
      have HBEL := Lib.hid hbel
      have HC := Lib.hid hc2
      have hpi : (j : Int) - 1 - (j : Int) = -1 := by omega
      rw [hpi]
      clear hrd hbel hc2 hpi hlt
      go_wp2_with fail
      go_ret
      exact ⟨A2, c2, by rw [digN_length]; rfl, by rw [digN_length]; exact HC.out, HRD.out, HBEL.out⟩
end Go.Proofs.Ytngecbnbddoldaa
