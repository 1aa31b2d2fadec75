/-
  Plain: p is prime; the powers of p - 1 are 1.
-/
import Derived.Test.YtbeokfpbhemcfaaPm
namespace Go.Proofs.Ytbeokfpbhemcfaa
set_option linter.unusedSimpArgs false
set_option linter.unusedVariables false
open Go.RowKit

/-- prime -/
def Pr (p : Nat) : Prop := 2 ≤ p ∧ ∀ d, d ∣ p → d = 1 ∨ d = p
theorem pr_ex : ∀ n, 2 ≤ n → ∃ r, Pr r ∧ r ∣ n := fun n => Nat.strongRecOn n fun n ih hn => by
  by_cases h : ∀ d, d ∣ n → d = 1 ∨ d = n
  · exact ⟨n, ⟨hn, h⟩, Nat.dvd_refl n⟩
  · obtain ⟨d, hd⟩ := Classical.not_forall.1 h
    obtain ⟨h1, h2⟩ := Classical.not_imp.1 hd
    have h3 : 0 < d := Nat.pos_of_dvd_of_pos h1 (by omega)
    have h4 := Nat.le_of_dvd (by omega) h1
    obtain ⟨r, hr, hrd⟩ := ih d (by omega) (by omega)
    exact ⟨r, hr, Nat.dvd_trans hrd h1⟩
theorem pr_cop {p a : Nat} (hp : Pr p) (h : ¬ p ∣ a) : Nat.gcd p a = 1 := by
  rcases hp.2 _ (Nat.gcd_dvd_left p a) with h1 | h1
  · exact h1
  · exact absurd (h1 ▸ Nat.gcd_dvd_right p a) h
theorem pr_dvd {p a b : Nat} (hp : Pr p) (h : p ∣ a * b) : p ∣ a ∨ p ∣ b := by
  by_cases ha : p ∣ a
  · exact .inl ha
  · exact .inr (Nat.Coprime.dvd_of_dvd_mul_left (pr_cop hp ha) h)
/-- binomials -/
def ch : Nat → Nat → Nat
  | _, 0 => 1
  | 0, _ + 1 => 0
  | n + 1, k + 1 => ch n k + ch n (k + 1)
theorem ch_gt : ∀ n k, n < k → ch n k = 0
  | _, 0, h => absurd h (Nat.not_lt_zero _)
  | 0, _ + 1, _ => rfl
  | n + 1, k + 1, h => by rw [ch, ch_gt n k (by omega), ch_gt n (k + 1) (by omega)]
theorem ch_self : ∀ n, ch n n = 1
  | 0 => rfl
  | n + 1 => by rw [ch, ch_self n, ch_gt n (n + 1) (by omega)]
theorem ch_mul : ∀ n k, (k + 1) * ch (n + 1) (k + 1) = (n + 1) * ch n k
  | 0, 0 => rfl
  | 0, k + 1 => by simp [ch]
  | n + 1, 0 => by
    have h := ch_mul n 0
    rw [ch, ch] at *
    simp only [ch] at h ⊢
    omega
  | n + 1, k + 1 => by
    have h1 := ch_mul n k
    have h2 := ch_mul n (k + 1)
    have e : ch (n + 1 + 1) (k + 1 + 1) = ch (n + 1) (k + 1) + ch (n + 1) (k + 1 + 1) := rfl
    have e2 : ch (n + 1) (k + 1) = ch n k + ch n (k + 1) := rfl
    rw [e, Nat.mul_add, h2]
    have e3 : (k + 1 + 1) * ch (n + 1) (k + 1) = (n + 1) * ch n k + ch (n + 1) (k + 1) := by rw [Nat.add_mul, h1, Nat.one_mul]
    have e4 : (n + 1 + 1) * ch (n + 1) (k + 1) = (n + 1) * ch n k + (n + 1) * ch n (k + 1) + ch (n + 1) (k + 1) := by
      rw [Nat.add_mul, Nat.one_mul]
      conv => lhs; lhs; rw [e2]
      rw [Nat.mul_add]
    rw [e3, e4]
    omega
def bs (n a : Nat) : Nat → Nat
  | 0 => 0
  | k + 1 => bs n a k + ch n k * a ^ k
theorem bs_step (n a : Nat) : ∀ k, bs (n + 1) a (k + 1) = bs n a (k + 1) + a * bs n a k
  | 0 => by cases n <;> simp [bs, ch]
  | k + 1 => by
    have ih := bs_step n a k
    have e1 : bs (n + 1) a (k + 1 + 1) = bs (n + 1) a (k + 1) + (ch n k + ch n (k + 1)) * a ^ (k + 1) := rfl
    have e2 : bs n a (k + 1 + 1) = bs n a (k + 1) + ch n (k + 1) * a ^ (k + 1) := rfl
    have e3 : bs n a (k + 1) = bs n a k + ch n k * a ^ k := rfl
    have e4 : a * (ch n k * a ^ k) = ch n k * a ^ (k + 1) := by rw [Nat.pow_succ, Nat.mul_left_comm, Nat.mul_comm a]
    have e5 : a * bs n a (k + 1) = a * bs n a k + ch n k * a ^ (k + 1) := by rw [e3, Nat.mul_add, e4]
    rw [e1, ih, e2, Nat.add_mul, e5]
    omega
theorem bs_pow (a : Nat) : ∀ n, (a + 1) ^ n = bs n a (n + 1)
  | 0 => by simp [bs, ch]
  | n + 1 => by
    have ih := bs_pow a n
    have e : bs n a (n + 1 + 1) = bs n a (n + 1) := by rw [bs, ch_gt n (n + 1) (by omega)]; simp
    rw [Nat.pow_succ, ih, bs_step, e, Nat.mul_add, Nat.mul_one, Nat.mul_comm]
    omega
theorem ch_dvd {p : Nat} (hp : Pr p) (k : Nat) (h1 : 0 < k) (h2 : k < p) : p ∣ ch p k := by
  obtain ⟨q, rfl⟩ : ∃ q, p = q + 1 := ⟨p - 1, by have := hp.1; omega⟩
  obtain ⟨j, rfl⟩ : ∃ j, k = j + 1 := ⟨k - 1, by omega⟩
  have h := ch_mul q j
  rcases pr_dvd hp (show q + 1 ∣ (j + 1) * ch (q + 1) (j + 1) from ⟨_, h⟩) with h3 | h3
  · exact absurd (Nat.le_of_dvd (by omega) h3) (by omega)
  · exact h3
theorem bs_mod {p : Nat} (hp : Pr p) (a : Nat) : ∀ k, k < p → bs p a (k + 1) % p = 1
  | 0, _ => by
    have h2 := hp.1
    rw [bs, bs]
    simp only [ch, Nat.pow_zero]
    exact Nat.mod_eq_of_lt (by omega)
  | k + 1, h => by
    have ih := bs_mod hp a k (by omega)
    obtain ⟨c, hc⟩ := ch_dvd hp (k + 1) (by omega) h
    have e : bs p a (k + 1 + 1) = bs p a (k + 1) + ch p (k + 1) * a ^ (k + 1) := rfl
    rw [e, hc, Nat.mul_assoc, Nat.add_mul_mod_self_left]
    exact ih
theorem pow_succ_mod {p : Nat} (hp : Pr p) (a : Nat) : (a + 1) ^ p % p = (a ^ p + 1) % p := by
  have h2 := hp.1
  obtain ⟨q, hq⟩ : ∃ q, p = q + 1 := ⟨p - 1, by omega⟩
  have h := bs_mod hp a q (by omega)
  rw [← hq] at h
  have e : bs p a (p + 1) = bs p a p + ch p p * a ^ p := rfl
  rw [bs_pow, e, ch_self, Nat.one_mul, Nat.add_mod, h, Nat.add_comm, ← Nat.add_mod_mod, Nat.mod_eq_of_lt (show 1 < p by omega), Nat.mod_add_mod]
theorem fermat0 {p : Nat} (hp : Pr p) : ∀ a, a ^ p % p = a % p
  | 0 => by rw [Nat.zero_pow (by have := hp.1; omega)]
  | a + 1 => by rw [pow_succ_mod hp, Nat.add_mod, fermat0 hp a, ← Nat.add_mod]
theorem fermat {p : Nat} (hp : Pr p) (a : Nat) (h : ¬ p ∣ a) : a ^ (p - 1) % p = 1 := by
  have h2 := hp.1
  have h0 := fermat0 hp a
  obtain ⟨q, rfl⟩ : ∃ q, p = q + 1 := ⟨p - 1, by omega⟩
  rw [Nat.add_sub_cancel]
  have ha : 0 < a := Nat.pos_of_ne_zero fun e => h (e ▸ Nat.dvd_zero _)
  have hpos : 0 < a ^ q := Nat.pow_pos ha
  have hd : q + 1 ∣ a * (a ^ q - 1) := by
    have h1 := Nat.sub_mod_eq_zero_of_mod_eq h0
    rw [Nat.pow_succ, Nat.mul_comm] at h1
    rw [Nat.mul_sub, Nat.mul_one]
    exact Nat.dvd_of_mod_eq_zero h1
  rcases pr_dvd hp hd with h3 | h3
  · exact absurd h3 h
  · obtain ⟨c, hc⟩ := h3
    rw [show a ^ q = 1 + (q + 1) * c by omega, Nat.add_mul_mod_self_left]
    exact Nat.mod_eq_of_lt (by omega)
theorem pw_gcd {r c : Nat} (hr : 2 ≤ r) : ∀ m n, c ^ m % r = 1 → c ^ n % r = 1 → c ^ Nat.gcd m n % r = 1 := fun m n => by
  refine Nat.gcd.induction (P := fun m n => c ^ m % r = 1 → c ^ n % r = 1 → c ^ Nat.gcd m n % r = 1) m n ?_ ?_
  · intro n _ h
    rw [Nat.gcd_zero_left]; exact h
  · intro m n _ ih h1 h2
    rw [Nat.gcd_rec]
    refine ih ?_ h1
    have e : c ^ n = (c ^ m) ^ (n / m) * c ^ (n % m) := by rw [← Nat.pow_mul, ← Nat.pow_add, Nat.div_add_mod]
    rw [e, Nat.mul_mod, Nat.pow_mod, h1, Nat.one_pow, Nat.mod_eq_of_lt (show 1 < r by omega), Nat.one_mul, Nat.mod_mod] at h2
    exact h2
theorem pock_dvd {q A N r : Nat} (hq : Pr q) (hN : N = q * A + 1) (h1 : 2 ^ (q * A) % N = 1) (hg : Nat.gcd (2 ^ A % N + (N - 1)) N = 1) (hr : Pr r) (hd : r ∣ N) : q ∣ r - 1 := by
  have hr2 := hr.1
  have hq2 := hq.1
  obtain ⟨c, hc⟩ : ∃ c, c = 2 ^ A := ⟨_, rfl⟩
  have e1 : c ^ q % r = 1 := by
    rw [hc, ← Nat.pow_mul, Nat.mul_comm, ← Nat.mod_mod_of_dvd _ hd, h1, Nat.mod_eq_of_lt (by omega)]
  have hne : c % r ≠ 1 := fun h => by
    have h3 : r ∣ 2 ^ A % N + (N - 1) := by
      apply Nat.dvd_of_mod_eq_zero
      have h5 : 2 ^ A % N % r = 1 := by rw [Nat.mod_mod_of_dvd _ hd, ← hc]; exact h
      have h4 : (1 + (N - 1)) % r = 0 := by rw [show 1 + (N - 1) = N by omega]; exact Nat.mod_eq_zero_of_dvd hd
      rw [← Nat.mod_add_mod, h5]
      exact h4
    have h5 := Nat.dvd_gcd h3 hd
    rw [hg] at h5
    have := Nat.le_of_dvd (by omega) h5
    omega
  have hnd : ¬ r ∣ c := fun h => by
    have h3 : c ^ q % r = 0 := by rw [Nat.pow_mod, Nat.mod_eq_zero_of_dvd h, Nat.zero_pow (by omega)]; exact Nat.zero_mod r
    omega
  have e2 := fermat hr c hnd
  apply Classical.byContradiction
  intro hn
  have h3 := pw_gcd hr2 q (r - 1) e1 e2
  rw [pr_cop hq hn, Nat.pow_one] at h3
  exact hne h3
theorem pock {q A N : Nat} (hq : Pr q) (hN : N = q * A + 1) (hN2 : 2 ≤ N) (h1 : 2 ^ (q * A) % N = 1) (hg : Nat.gcd (2 ^ A % N + (N - 1)) N = 1) (hB : A / q = 0 ∨ A / q + 1 < A % q) : Pr N := by
  have hq2 := hq.1
  obtain ⟨r, hr, hd⟩ := pr_ex N hN2
  obtain ⟨s, hs⟩ := pock_dvd hq hN h1 hg hr hd
  have hr2 := hr.1
  have hrs : r = q * s + 1 := by omega
  obtain ⟨m, hm⟩ := hd
  have e : q * A + 1 = q * (s * m) + m := by
    rw [← hN, hm, hrs, Nat.add_mul, Nat.one_mul, Nat.mul_assoc]
  have hle : s * m ≤ A := by
    apply Nat.le_of_not_lt
    intro h
    have h2 : q * (A + 1) ≤ q * (s * m) := Nat.mul_le_mul_left q h
    rw [Nat.mul_add] at h2
    omega
  obtain ⟨t, ht⟩ : ∃ t, A = s * m + t := ⟨A - s * m, by omega⟩
  have hmt : m = q * t + 1 := by rw [ht, Nat.mul_add] at e; omega
  by_cases ht0 : t = 0
  · rw [ht0, Nat.mul_zero, Nat.zero_add] at hmt
    rw [hm, hmt, Nat.mul_one]; exact hr
  · exfalso
    have hs0 : s ≠ 0 := fun h => by rw [h, Nat.mul_zero] at hrs; omega
    have eA : A = (s + t) + q * (s * t) := by
      rw [ht, hmt, Nat.mul_add, Nat.mul_one, Nat.mul_left_comm]; omega
    have hst : s + t ≤ s * t + 1 := by
      obtain ⟨s', rfl⟩ : ∃ s', s = s' + 1 := ⟨s - 1, by omega⟩
      obtain ⟨t', rfl⟩ : ∃ t', t = t' + 1 := ⟨t - 1, by omega⟩
      rw [Nat.add_mul, Nat.mul_add]
      omega
    have hpos : 0 < s * t := Nat.mul_pos (Nat.pos_of_ne_zero hs0) (Nat.pos_of_ne_zero ht0)
    have hdiv : A / q = (s + t) / q + s * t := by rw [eA, Nat.add_mul_div_left _ _ (by omega)]
    have hmod : A % q = (s + t) % q := by rw [eA, Nat.add_mul_mod_self_left]
    have hlt : A % q < q := Nat.mod_lt _ (by omega)
    generalize (s + t) / q = z1 at hdiv
    generalize A / q = z2 at hdiv hB
    generalize A % q = z3 at hmod hB hlt
    generalize s * t = z4 at hst hpos hdiv
    rcases hB with h | h
    · omega
    · have h3 : s + t < q := by omega
      rw [Nat.mod_eq_of_lt h3] at hmod
      omega
theorem pr_trial (n k : Nat) (h2 : 2 ≤ n) (hk : n < k * k) (h : ∀ d, d < k → 2 ≤ d → n % d ≠ 0) : Pr n := by
  refine ⟨h2, fun d hd => ?_⟩
  apply Classical.byContradiction
  intro hn
  obtain ⟨e, he⟩ := hd
  have hd0 : d ≠ 0 := fun h => by rw [h, Nat.zero_mul] at he; omega
  have hd1 : d ≠ 1 := fun h => hn (.inl h)
  have he0 : e ≠ 0 := fun h => by rw [h, Nat.mul_zero] at he; omega
  have he1 : e ≠ 1 := fun h => hn (.inr (by rw [he, h, Nat.mul_one]))
  by_cases hdk : d < k
  · exact h d hdk (by omega) (by rw [he]; exact Nat.mul_mod_right d e)
  · by_cases hek : e < k
    · exact h e hek (by omega) (by rw [he]; exact Nat.mul_mod_left d e)
    · have := Nat.mul_le_mul (Nat.le_of_not_lt hdk) (Nat.le_of_not_lt hek)
      omega
theorem two_pow {N E : Nat} (k : Nat) (hk : E < 256 ^ k) : 2 ^ E % N = pm N 2 ((List.range k).map fun j => E / 256 ^ j % 256) := by
  rw [pm_eq, leV_mod, Nat.mod_eq_of_lt hk]
theorem pockD {q A N : Nat} (k l : Nat) (hq : Pr q) (hN : N = q * A + 1) (hN2 : 2 ≤ N) (hk : N < 256 ^ k) (hl : A < 256 ^ l) (h1 : pm N 2 ((List.range k).map fun j => (N - 1) / 256 ^ j % 256) = 1) (hg : Nat.gcd (pm N 2 ((List.range l).map fun j => A / 256 ^ j % 256) + (N - 1)) N = 1) (hB : A / q = 0 ∨ A / q + 1 < A % q) : Pr N := by
  refine pock hq hN hN2 ?_ ?_ hB
  · rw [show q * A = N - 1 by omega, two_pow k (by omega)]; exact h1
  · rw [two_pow l hl]; exact hg
theorem prime1 : Pr 991 := pr_trial 991 32 (by decide) (by decide) (by decide)
theorem prime2 : Pr 8574133 := pockD (A := 8652) 3 3 prime1 (by decide) (by decide) (by decide) (by decide) (by decide) (by decide) (by decide)
theorem prime3 : Pr 1919519569386763 := pockD (A := 223873314) 7 4 prime2 (by decide) (by decide) (by decide) (by decide) (by decide) (by decide) (by decide)
theorem prime4 : Pr 75445702479781427272750846543864801 := pockD (A := 39304471641247389600) 15 9 prime3 (by decide) (by decide) (by decide) (by decide) (by decide) (by decide) (by decide)
theorem prime5 : Pr 74058212732561358302231226437062788676166966415465897661863160754340907 := pockD (A := 981609426360740691344999861639072106) 30 15 prime4 (by decide) (by decide) (by decide) (by decide) (by decide) (by decide) (by decide)
theorem prime6 : Pr PN := pockD (A := 781764) 32 3 prime5 (by decide) (by decide) (by decide) (by decide) (by decide) (by decide) (by decide)
theorem fermatP (a : Nat) (h : a % PN ≠ 0) : a ^ (PN - 1) % PN = 1 := fermat prime6 a fun hd => h (Nat.mod_eq_zero_of_dvd hd)
end Go.Proofs.Ytbeokfpbhemcfaa
