/-
  Plain: what is read is small.
-/
import Derived.Test.YtcfbnjaelniahaaJs13
import Derived.Test.YtcfbnjaelniahaaJrr
namespace Go.Proofs.Ytcfbnjaelniahaa.Js
set_option linter.unusedVariables false

theorem listL_small {d : Nat} {m : Bool} (hv : ∀ {r v r'}, valueP d r = .ok (v, r') → r.length ≤ 4096 → smallJ v = true) : ∀ (n : Nat) {ns ns' : List Bs} {ks ks' : List JT} {r r' : Bs}, listL (valueP d) m n ns ks r = .ok (ns', ks', r') → r.length ≤ 4096 → (∀ k ∈ ks, smallJ k = true) →
    ks'.length + r'.length ≤ ks.length + r.length ∧ ns'.length + r'.length ≤ ns.length + r.length ∧ ∀ k ∈ ks', smallJ k = true
  | 0, ns, ns', ks, ks', r, r', h, hr, hk => by rw [listL] at h; cases h
  | n + 1, ns, ns', ks, ks', r, r', h, hr, hk => by
    have hl := signP_len (endC m) r
    rcases hs : signP (endC m) r with ⟨b, r1⟩
    rw [hs] at hl
    dsimp only at hl
    cases b with
    | true =>
      rw [listL_end hs] at h
      injection h with h
      injection h with h1 h
      injection h with h2 h3
      subst h1 h2 h3
      exact ⟨by omega, by omega, hk⟩
    | false =>
      rw [listL_more hs] at h
      unfold moreK at h
      split at h
      · cases h
      · rename_i x k r4 hc
        obtain ⟨h1, h2⟩ := kidK_len hc
        have hk4 : smallJ k = true := by
          unfold kidK at hc
          split at hc
          · cases hc
          · rename_i y r3 hn
            split at hc
            · cases hc
            · rename_i k' r4' hv'
              injection hc with hc
              injection hc with e1 hc
              injection hc with e2 e3
              subst e1 e2 e3
              refine hv hv' ?_
              unfold nameK at hn
              split at hn
              · cases hn
              · rename_i r2 hcm
                have l2 : r2.length ≤ r1.length := by
                  unfold commaP at hcm
                  split at hcm
                  · injection hcm with hcm; subst hcm; exact Nat.le_refl _
                  · exact mustP_len hcm
                unfold keyP at hn
                split at hn
                · have := nameP_len hn
                  omega
                · injection hn with hn
                  injection hn with e1 e2
                  subst e2
                  omega
        obtain ⟨h3, h4, h5⟩ := listL_small hv n h (by omega) (fun q hq => by
          rcases List.mem_append.1 hq with hq | hq
          · exact hk q hq
          · rw [List.mem_singleton] at hq
            subst hq
            exact hk4)
        rw [List.length_append] at h3
        simp only [List.length_cons, List.length_nil] at h3
        exact ⟨by omega, by omega, h5⟩
theorem rawP_small {lp : Bs → Except Int (JT × Bs)} (hl : ∀ {r v r'}, lp r = .ok (v, r') → r.length ≤ 4096 → smallJ v = true) {r : Bs} {v : JT} {r' : Bs} (h : rawP lp r = .ok (v, r')) (hr : r.length ≤ 4096) : smallJ v = true := by
  have hf : ∀ k n t, smallJ (.mk k n t [] []) = true := fun k n t => by simp [smallJ, smallsJ]
  have hw : ∀ {w : Bs} {k n t}, wordR w r (.mk k n t [] []) = .ok (v, r') → smallJ v = true := by
    intro w k n t h
    unfold wordR at h
    split at h
    · cases h
    · injection h with h
      injection h with h1 h2
      subst h1
      exact hf _ _ _
  unfold rawP at h
  split at h
  · exact hw h
  split at h
  · exact hw h
  split at h
  · exact hw h
  split at h
  · unfold optR at h
    split at h
    · cases h
    · injection h with h
      injection h with h1 h2
      subst h1
      exact hf _ _ _
  split at h
  · exact hl h hr
  · unfold optR at h
    split at h
    · cases h
    · injection h with h
      injection h with h1 h2
      subst h1
      exact hf _ _ _
theorem valueP_small : ∀ (d : Nat) {r : Bs} {v : JT} {r' : Bs}, valueP d r = .ok (v, r') → r.length ≤ 4096 → smallJ v = true
  | 0, r, v, r', h, hr => by
    obtain ⟨r0, h1, -⟩ := skipR_ok h
    exact rawP_small (lp := fun _ => .error 9) (fun h => by cases h) h1 (Nat.le_trans (skip_len r) hr)
  | d + 1, r, v, r', h, hr => by
    obtain ⟨r0, h1, -⟩ := skipR_ok h
    refine rawP_small (lp := listP (valueP d)) (fun {r v r'} h hr => ?_) h1 (Nat.le_trans (skip_len r) hr)
    rw [listP_lres] at h
    unfold lres at h
    split at h
    · cases h
    · rename_i ns ks r2 hc
      injection h with h
      injection h with h1 h2
      subst h1
      have hs := skip_len r.tail
      simp only [List.length_tail] at hs
      obtain ⟨h3, h4, h5⟩ := listL_small (fun h hr => valueP_small d h hr) _ hc (by omega) (fun k hk => by cases hk)
      simp only [List.length_nil] at h3 h4
      rw [smallJ]
      simp only [Bool.and_eq_true, decide_eq_true_eq]
      exact ⟨⟨by omega, by omega⟩, (smallsJ_iff _).2 h5⟩
theorem readP_small {s : Bs} {j : JT} (h : readP s = .ok j) : smallJ j = true := by
  unfold readP at h
  split at h
  · cases h
  · split at h
    · cases h
    · rename_i hv
      injection h with h
      subst h
      exact valueP_small 6 hv (by omega)
    · cases h
end Go.Proofs.Ytcfbnjaelniahaa.Js
