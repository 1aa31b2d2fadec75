/-
  Plain: JSON's texts: the reference's Is; texts that end where they are too long.
-/
import Derived.Test.YtcfbnjaelniahaaJst
namespace Go.Proofs.Ytcfbnjaelniahaa.Js
set_option linter.unusedVariables false

mutual
def isV : Nat → JT → Bool
  | d, .mk k n t ns ks =>
    if k < 0 ∨ 5 < k ∨ (d = 0 ∧ 3 < k) then false
    else if k ≠ 3 ∧ t ≠ [] then false
    else if k ≠ 5 ∧ ns ≠ [] then false
    else if k ≠ 5 ∧ k ≠ 4 ∧ ks ≠ [] then false
    else if k = 2 then decide (-1000000000000000 ≤ n) && decide (n ≤ 1000000000000000)
    else if k = 1 then n == 0 || n == 1
    else if n ≠ 0 ∨ (k = 5 ∧ ns.length ≠ ks.length) then false
    else okT t && (ns.all okT && distinct ns) && isVs (d - 1) ks
def isVs : Nat → List JT → Bool
  | _, [] => true
  | d, k :: r => isV d k && isVs d r
end
theorem isV_right : ∀ (j : JT) (d : Nat), isV d j = rightV d j := by
  intro j
  induction j using JT.ind with
  | h k n t ns ks ih =>
    intro d
    have hks : isVs (d - 1) ks = rightsV (d - 1) ks := by

      induction ks with
      | nil => rfl
      | cons a r ihr => rw [isVs, rightsV, ih a (List.mem_cons_self ..), ihr (fun x hx => ih x (List.mem_cons_of_mem _ hx))]
    rw [isV, rightV, hks]
    unfold plainJ
    by_cases h1 : k < 0 ∨ 5 < k ∨ (d = 0 ∧ 3 < k)
    · rw [if_pos h1]
      rcases h1 with h | h | ⟨rfl, h⟩
      · have : ¬ 0 ≤ k := by omega
        simp [this]
      · have : ¬ k ≤ 5 := by omega
        simp [this]
      · have : 4 ≤ k := by omega
        simp [this]
    rw [if_neg h1]
    by_cases h2 : k ≠ 3 ∧ t ≠ []
    · rw [if_pos h2]
      simp [h2.1, h2.2]
    rw [if_neg h2]
    by_cases h3 : k ≠ 5 ∧ ns ≠ []
    · rw [if_pos h3]
      simp [h3.1, h3.2]
    rw [if_neg h3]
    by_cases h4 : k ≠ 5 ∧ k ≠ 4 ∧ ks ≠ []
    · rw [if_pos h4]
      simp [h4.1, h4.2.1, h4.2.2]
    rw [if_neg h4]
    have h0 : 0 ≤ k := by omega
    have h5 : k ≤ 5 := by omega
    have hd : (d == 0 && decide (4 ≤ k)) = false := by
      cases hq : (d == 0 && decide (4 ≤ k)) with
      | false => rfl
      | true =>
        simp at hq
        exact absurd (.inr (.inr ⟨hq.1, by omega⟩)) h1
    rw [hd]
    by_cases h6 : k = 2
    · subst h6
      have e1 : t = [] := by simpa using h2
      have e2 : ns = [] := by simpa using h3
      have e3 : ks = [] := by simpa using h4
      subst e1 e2 e3
      simp [okT, distinct, rightsV]
    rw [if_neg h6]
    by_cases h7 : k = 1
    · subst h7
      have e1 : t = [] := by simpa using h2
      have e2 : ns = [] := by simpa using h3
      have e3 : ks = [] := by simpa using h4
      subst e1 e2 e3
      simp [okT, distinct, rightsV]
    rw [if_neg h7]
    by_cases h8 : n ≠ 0 ∨ (k = 5 ∧ ns.length ≠ ks.length)
    · rw [if_pos h8]
      rcases h8 with h | ⟨rfl, h⟩
      · simp [h, h6, h7]
      · simp [h]
    rw [if_neg h8]
    have e0 : n = 0 := by simp at h8; exact h8.1
    subst e0
    have e1 : t = [] ∨ k = 3 := by
      by_cases h : k = 3
      · exact .inr h
      · exact .inl (by simpa [h] using h2)
    have e2 : ns = [] ∨ k = 5 := by
      by_cases h : k = 5
      · exact .inr h
      · exact .inl (by simpa [h] using h3)
    have e3 : (ks = [] ∨ k = 4) ∨ k = 5 := by
      by_cases h : k = 5
      · exact .inr h
      · by_cases h' : k = 4
        · exact .inl (.inr h')
        · exact .inl (.inl (by simpa [h, h'] using h4))
    have e4 : k ≠ 5 ∨ ns.length = ks.length := by
      by_cases h : k = 5
      · simp [h] at h8; exact .inr h8
      · exact .inl h
    have p1 : ((0 : Int) == 0 || k == 2 || (k == 1 && (0 : Int) == 1)) = true := by simp
    have p2 : (ks.isEmpty || k == 4 || k == 5) = true := by simpa using e3
    have p3 : (ns.isEmpty || k == 5) = true := by simpa using e2
    have p4 : (t.isEmpty || k == 3) = true := by simpa using e1
    have p5 : (k != 5 || ns.length == ks.length) = true := by simpa using e4
    have p6 : (k != 2 || (decide (-1000000000000000 ≤ (0 : Int)) && decide ((0 : Int) ≤ 1000000000000000))) = true := by simp
    rw [p1, p2, p3, p4, p5, p6]
    simp [h0, h5, Bool.and_assoc]
/-- so much more was written, or it is too long -/
def Out (c x c' : Bs) : Prop := c.length ≤ c'.length ∧ c'.length ≤ c.length + x.length ∧ (c' = c ++ x ∨ (2000 < c'.length ∧ 2000 < (c ++ x).length))
theorem Out.refl (c : Bs) : Out c [] c := ⟨Nat.le_refl _, by simp, .inl (by simp)⟩
theorem Out.all (c x : Bs) : Out c x (c ++ x) := ⟨by simp, by simp, .inl rfl⟩
theorem Out.stop {c : Bs} (x : Bs) (h : 2000 < c.length) : Out c x c := ⟨Nat.le_refl _, by omega, .inr ⟨h, by simp; omega⟩⟩
theorem Out.trans {c x c' y c'' : Bs} (h : Out c x c') (h' : Out c' y c'') : Out c (x ++ y) c'' := by
  obtain ⟨l1, m1, h1⟩ := h
  obtain ⟨l2, m2, h2⟩ := h'
  refine ⟨Nat.le_trans l1 l2, by simp; omega, ?_⟩
  rcases h1 with rfl | ⟨a, b⟩
  · rcases h2 with rfl | ⟨a2, b2⟩
    · exact .inl (by simp)
    · exact .inr ⟨a2, by simpa [Nat.add_assoc] using b2⟩
  · exact .inr ⟨by omega, by simp at b ⊢; omega⟩
theorem Out.end_ {x c' : Bs} (h : Out [] x c') : (c'.length ≤ 2000 → c' = x ∧ x.length ≤ 2000) ∧ (2000 < c'.length → 2000 < x.length) := by
  rcases h.2.2 with h | ⟨a, b⟩
  · simp at h
    subst h
    exact ⟨fun h => ⟨rfl, h⟩, fun h => h⟩
  · exact ⟨fun h => by omega, fun _ => by simpa using b⟩
end Go.Proofs.Ytcfbnjaelniahaa.Js
