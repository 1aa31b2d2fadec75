/-
  Joined texts: Seqp HSum32 OfC Of32 Top2r Rnm Jsp Jsr Jod Jso Jk1 Jfd Dom Bld Jnu Jkl Jnm Bys Jct Ct2 Clc Rcl Opo Fn2 Sop So3 Jx2 Cb2 Gd2.
-/
import Derived.Deep.QuietTactic
import Derived.Test.YtcnebbhnpocofaaProg
import Derived.Lib.OthersKept
import Derived.Lib.DecodeN
import Derived.Lib.Strings
import Derived.Shelf.Abstract
import Derived.Lib.RuneCount
import Derived.Deep.LoopGhost
import Derived.BigQuiet
import Derived.Deep.DeepCutAuto
import Derived.Shelf.Strings.SlTrimAscii
import Derived.Lib.Builder
import Derived.Lib.UnsafeStr
import Derived.Laws.Externs
import Derived.Shelf.RegionOpenPlain
import Derived.Laws.Runes
import Derived.Carry
import Derived.Laws.IdiomStrings
import Derived.Deep.CutBlock
import Derived.Deep.Slices
import Derived.Laws.StructEq
import Derived.Great.Walk
import Derived.Test.YtcnebbhnpocofaaJ2
import Derived.Test.YtcnebbhnpocofaaJ1
/-
  XSeqh, where some of the operations ahead of the tail are pure: they look at no memory, and need not come ahead of the tail.
-/
namespace Go.Proofs.Ytcnebbhnpocofaa
set_option linter.unusedSimpArgs false
set_option linter.unusedVariables false
open Go.RowKit
variable {P : Program}
def SeqH (P : Program) (ops : Array Oper) (C : World → Prop) (pu : Nat → Bool) (St : World → World → Prop) (L : List Value) (G : Nat → Option (Value → World → Prop)) (K : Act → (Nat → World → Prop) → Prop) : Nat → List Oper → Act → (Nat → World → Prop) → Prop
  | _, [], a, Γ => K a Γ
  | i, o :: r, a, Γ => match G i with
    | none => (∀ w, (pu i = false → C w) → (pu i = false → ∀ k ∈ waitsOf ops i, Γ k w) → ∀ E : Act → World → Prop, (∀ w', (if pu i = true then w' = w else C w' ∧ St w w') → E (a.put o.dst (L.getD i undef)) w') → wpList P ops (EndOf E) [o] a w) ∧
        SeqH P ops C pu St L G K (i + 1) r (a.put o.dst (L.getD i undef)) Γ
    | some g => (∀ w, C w → (∀ k ∈ waitsOf ops i, Γ k w) → ∀ E : Act → World → Prop, (∀ x w', C w' → St w w' → g x w' → E (a.put o.dst x) w') → wpList P ops (EndOf E) [o] a w) ∧
        ∀ x, SeqH P ops C pu St L G K (i + 1) r (a.put o.dst x) (fun k w => (k = i → g x w) ∧ Γ k w)
theorem seqh_all {ops : Array Oper} {C : World → Prop} {pu : Nat → Bool} {St : World → World → Prop} {L : List Value} {G : Nat → Option (Value → World → Prop)} {K : Act → (Nat → World → Prop) → Prop} {a0 : Act} (hpg : ∀ i, pu i = true → G i = none) (vals : Nat → Value) :
    ∀ (rest : List Oper) (i : Nat) (Γ : Nat → World → Prop), (∀ j o, rest[j]? = some o → ops[i + j]? = some o) → (∀ k w, (∀ g, k < i → G k = some g → g (vals k) w) → Γ k w) →
      SeqH P ops C pu St L G K i rest (putAll ops (valG L G vals) (List.range i) a0) Γ →
      (∀ j o, rest[j]? = some o → ∀ w, (pu (i + j) = false → C w) → (pu (i + j) = false → ∀ k ∈ waitsOf ops (i + j), ∀ g, k < i + j → G k = some g → g (vals k) w) → ∀ E : Act → World → Prop,
        (match G (i + j) with
          | none => ∀ w', (if pu (i + j) = true then w' = w else C w' ∧ St w w') → E ((putAll ops (valG L G vals) (List.range (i + j)) a0).put o.dst (L.getD (i + j) undef)) w'
          | some g => ∀ x w', C w' → St w w' → g x w' → E ((putAll ops (valG L G vals) (List.range (i + j)) a0).put o.dst x) w') →
        wpList P ops (EndOf E) [o] (putAll ops (valG L G vals) (List.range (i + j)) a0) w) ∧
      ∃ Γ' : Nat → World → Prop, (∀ k w, (∀ g, k < i + rest.length → G k = some g → g (vals k) w) → Γ' k w) ∧ K (putAll ops (valG L G vals) (List.range (i + rest.length)) a0) Γ'
  | [], i, Γ, _, hΓ, h => ⟨fun j o hj => by simp at hj, Γ, hΓ, h⟩
  | o :: r, i, Γ, hat, hΓ, h => by
    have ho : ops[i]? = some o := by simpa using hat 0 o rfl
    have hdo : dstAt ops i = o.dst := by simp [dstAt, ho]
    have hat' : ∀ j o', r[j]? = some o' → ops[i + 1 + j]? = some o' := fun j o' hj => by
      rw [show i + 1 + j = i + (j + 1) by omega]
      exact hat (j + 1) o' (by simpa using hj)
    have hsn : putAll ops (valG L G vals) (List.range (i + 1)) a0 = (putAll ops (valG L G vals) (List.range i) a0).put o.dst (valG L G vals i) := by
      rw [List.range_succ, putAll_snoc, hdo]
    unfold SeqH at h
    have hlen : i + (o :: r).length = i + 1 + r.length := by simp only [List.length_cons]; omega
    cases hG : G i with
    | none =>
      rw [hG] at h
      obtain ⟨h1, h2⟩ := h
      have hv : valG L G vals i = L.getD i undef := by simp [valG, hG]
      rw [hv] at hsn
      rw [← hsn] at h2
      obtain ⟨k1, Γ', k2, k3⟩ := seqh_all hpg vals r (i + 1) Γ hat' (fun k w hk => hΓ k w fun g hki hg => hk g (by omega) hg) h2
      refine ⟨fun j o' hj => ?_, Γ', fun k w hk => k2 k w fun g hki hg => hk g (by rw [hlen]; exact hki) hg, by rw [hlen]; exact k3⟩
      cases j with
      | zero =>
        simp at hj
        subst hj
        intro w hc hf E hE
        rw [Nat.add_zero, hG] at hE
        rw [Nat.add_zero] at hc hf ⊢
        exact h1 w hc (fun hp k hk => hΓ k w fun g hki hg => hf hp k hk g hki hg) E hE
      | succ j =>
        have := k1 j o' (by simpa using hj)
        rw [show i + 1 + j = i + (j + 1) by omega] at this
        exact this
    | some g0 =>
      rw [hG] at h
      obtain ⟨h1, h2⟩ := h
      have hv : valG L G vals i = vals i := by simp [valG, hG]
      rw [hv] at hsn
      have h3 := h2 (vals i)
      rw [← hsn] at h3
      obtain ⟨k1, Γ', k2, k3⟩ := seqh_all hpg vals r (i + 1) _ hat' (fun k w hk => ⟨fun e => by subst e; exact hk g0 (by omega) hG, hΓ k w fun g hki hg => hk g (by omega) hg⟩) h3
      refine ⟨fun j o' hj => ?_, Γ', fun k w hk => k2 k w fun g hki hg => hk g (by rw [hlen]; exact hki) hg, by rw [hlen]; exact k3⟩
      cases j with
      | zero =>
        simp at hj
        subst hj
        intro w hc hf E hE
        rw [Nat.add_zero, hG] at hE
        rw [Nat.add_zero] at hc hf ⊢
        have hp : pu i = false := by
          cases hp : pu i with
          | false => rfl
          | true => have := hpg i hp; rw [hG] at this; cases this
        exact h1 w (hc hp) (fun k hk => hΓ k w fun g hki hg => hf hp k hk g hki hg) E hE
      | succ j =>
        have := k1 j o' (by simpa using hj)
        rw [show i + 1 + j = i + (j + 1) by omega] at this
        exact this
theorem wp_region_seqp {id : Nat} {l : List Oper} {a0 : Act} {w0 : World} {Q : Exit → Act → World → Prop} (C : World → Prop) (pu : Nat → Bool) (St : World → World → Prop) (L : List Value) (G : Nat → Option (Value → World → Prop)) (d : Nat)
    (hm : P.follows .mixedOrders = true) (hok : regionOk l.toArray = true) (hd : d < l.length)
    (hlast : ((List.range l.length).all fun k => decide (k < d) || (((List.range k).all fun i => (deepWaits l.toArray 5 k).contains i || (pu i && decide (i < d))) && (k == d || (waitsOf l.toArray k).contains (k - 1)))) = true)
    (hpg : ∀ i, pu i = true → G i = none) (hst : ∀ i g, G i = some g → ∀ x w w', St w w' → g x w → g x w') (hC : C w0.drew)
    (h : SeqH P l.toArray C pu St L G (fun a Γ => ∀ w, C w → (∀ k ∈ waitsOf l.toArray d, Γ k w) → SeqT P l.toArray (fun a w => Q .normal a w) (l.drop d) a w) 0 (l.take d) a0 (fun _ _ => True)) :
    (Code.region id l.toArray true).wp P Q a0 w0 := by
  have hdist := region_dist hok
  have htl : (l.take d).length = d := by rw [List.length_take]; omega
  have hall : ∀ vals : Nat → Value, _ := fun vals => seqh_all (P := P) (ops := l.toArray) (C := C) (pu := pu) (St := St) (L := L) (G := G) (a0 := a0) hpg vals (l.take d) 0 (fun _ _ => True) (fun j o hj => by
    rw [List.getElem?_take] at hj
    split at hj
    · simpa using hj
    · cases hj) (fun _ _ _ => trivial) h
  have hdeep : ∀ k, k < l.length → d ≤ k → ∀ i, i < k → (deepWaits l.toArray 5 k).contains i = true ∨ (pu i = true ∧ i < d) := fun k hk hdk i hi => by
    have h1 := (List.all_eq_true.1 hlast) k (List.mem_range.2 hk)
    simp only [Bool.or_eq_true, decide_eq_true_eq, Bool.and_eq_true] at h1
    rcases h1 with h1 | h1
    · omega
    · have h2 := (List.all_eq_true.1 h1.1) i (List.mem_range.2 hi)
      simp only [Bool.or_eq_true, decide_eq_true_eq, Bool.and_eq_true] at h2
      exact h2
  have hprev : ∀ k, k < l.length → d < k → (waitsOf l.toArray k).contains (k - 1) = true := fun k hk hdk => by
    have h1 := (List.all_eq_true.1 hlast) k (List.mem_range.2 hk)
    simp only [Bool.or_eq_true, decide_eq_true_eq, Bool.and_eq_true, beq_iff_eq] at h1
    rcases h1 with h1 | ⟨_, h1 | h1⟩
    · omega
    · omega
    · exact h1
  let Kf : (Nat → Value) → World → Prop := fun vals w => Q .normal (putAll l.toArray vals (List.range l.length) a0) w
  let kills : Nat → Nat → Bool := fun i k => (decide (d ≤ k) && (decide (k < i) || decide (l.length ≤ k))) || (decide (d ≤ i) && decide (k < d) && (G k).isSome)
  have hkl : ∀ k j, j < d → (∀ g, G j ≠ some g) → kills k j = false := fun k j hj hg => by
    have a1 : ¬ d ≤ j := by omega
    have a2 : (G j).isSome = false := by
      cases hG : G j with
      | none => rfl
      | some g => exact absurd hG (hg g)
    simp [kills, a1, a2]
  -- what is said of those that i waits for
  have hfa : ∀ i j, j ∈ waitsOf l.toArray i → i < l.length → j < d → availAt l.toArray kills j i = true ∨ (∃ g, G j = some g) := fun i j hj hi hjd => by
    cases hG : G j with
    | some g => exact .inr ⟨g, rfl⟩
    | none =>
      refine .inl ?_
      unfold availAt
      rw [Bool.and_eq_true]
      refine ⟨by simpa using hj, ?_⟩
      rw [List.all_eq_true]
      intro k _
      rw [hkl k j hjd (by rw [hG]; exact fun g h => by cases h)]
      simp
  have hfb : ∀ i j, ¬ (pu i = true ∧ i < d) → j ∈ waitsOf l.toArray i → i ≤ d → i < l.length → j < i → availAt l.toArray kills j i = true := fun i j hnp hj hi hil hji => by
    unfold availAt
    rw [Bool.and_eq_true]
    refine ⟨by simpa using hj, ?_⟩
    rw [List.all_eq_true]
    intro k hk
    have hk' : k < l.length := by simpa using hk
    by_cases hkd : d ≤ k
    · by_cases hki : k = i
      · simp [hki]
      · simp only [(hdeep k hk' hkd i (by omega)).resolve_right hnp, Bool.or_true]
    · have a1 : ¬ d ≤ j := by omega
      have : kills k j = false := by simp [kills, a1, hkd]
      rw [this]
      simp
  refine wp_region_rel (fun _ => True) (fun _ => C) (fun _ i => decide (d ≤ i))
    (fun i vals w => if i < d then facG L G i vals w else tailP P l.toArray a0 Kf (i + 1) (l.drop (i + 1)) (mergeG d L G vals) w)
    (fun i w w' => if d ≤ i then True else if pu i = true then w' = w else (St w w' ∧ (C w → C w'))) kills hm hok trivial (fun _ => hC) ?_ ?_ ?_ ?_
  · intro _ i hi w w' hS hc
    have hne : ¬ d ≤ i := by simpa using hi
    rw [if_neg hne] at hS
    split at hS
    · rw [hS]; exact hc
    · exact hS.2 hc
  · intro i k hi hik hk hdk vals v w w' hS hF
    by_cases hkd : k < d
    · simp only [hkd, if_true] at hF ⊢
      unfold facG at hF ⊢
      cases hG : G k with
      | none =>
        rw [hG] at hF
        simp only [hG] at hF ⊢
        simp [upd, Ne.symm hik, hF]
      | some g =>
        rw [hG] at hF
        simp only [hG] at hF ⊢
        by_cases hid : d ≤ i
        · have : kills i k = true := by simp [kills, hid, hkd, hG]
          rw [this] at hk
          cases hk
        · rw [if_neg hid] at hS
          split at hS
          · subst hS
            simpa [upd, Ne.symm hik] using hF
          · have := hst k g hG _ _ _ hS.1 hF
            simpa [upd, Ne.symm hik] using this
    · have hki : ¬ k < i := by
        intro hlt
        have h9 : kills i k = true := by
          have a1 : d ≤ k := by omega
          simp [kills, a1, hlt]
        rw [h9] at hk; cases hk
      have hkl : k < l.length ∨ l.length ≤ k := Nat.lt_or_ge _ _
      rcases hkl with hkl | hkl
      · rcases hdeep k hkl (by omega) i (by omega) with h9 | ⟨hp, hid⟩
        · rw [h9] at hdk
          cases hdk
        · rw [if_neg (by omega), if_pos hp] at hS
          subst hS
          rw [if_neg hkd] at hF ⊢
          have hm : mergeG d L G (upd vals i v) = mergeG d L G vals := by
            funext j
            unfold mergeG upd valG
            by_cases h1 : j = i
            · subst h1
              simp [hid, hpg j hp]
            · simp only [h1, if_false]
          rw [hm]
          exact hF
      · have h9 : kills i k = true := by
          have a1 : d ≤ k := by omega
          simp [kills, a1, hkl]
        rw [h9] at hk; cases hk
  · intro i o ho w vals _ hini hav
    have hil : i < l.length := by have := (Array.getElem?_eq_some_iff.1 ho).1; simpa using this
    have ok := okAt hok ho
    have hvals : ∀ j ∈ waitsOf l.toArray i, vals j = mergeG d L G vals j := fun j hj => by
      unfold mergeG
      split
      · rename_i hjd
        unfold valG
        rcases hfa i j hj hil hjd with h1 | ⟨g, hg⟩
        · have h2 := hav j h1
          dsimp only at h2
          rw [if_pos hjd] at h2
          unfold facG at h2
          cases hG : G j with
          | none => rw [hG] at h2; exact h2
          | some g => rfl
        · rw [hg]
      · rfl
    have hcon : putAll l.toArray vals (waitsOf l.toArray i) a0 = putAll l.toArray (mergeG d L G vals) (waitsOf l.toArray i) a0 := putAll_congr _ _ _ _ _ hvals
    have hci : ¬ (pu i = true ∧ i < d) → i ≤ d → C w := fun hnp hid => hini false (by
      unfold availIni
      rw [List.all_eq_true]
      intro k hk
      have hk' : k < l.length := by simpa using hk
      by_cases hki : k = i
      · simp [hki]
      · by_cases hkd : d ≤ k
        · simp only [(hdeep k hk' hkd i (by omega)).resolve_right hnp, Bool.or_true]
        · simp [hkd])
    have hfg : ¬ (pu i = true ∧ i < d) → i ≤ d → ∀ k ∈ waitsOf l.toArray i, ∀ g, k < d → G k = some g → g (vals k) w := fun hnp hid k hk g hkd hg => by
      have h1 := hav k (hfb i k hnp hk hid hil (ok.before k hk))
      dsimp only at h1
      rw [if_pos hkd] at h1
      unfold facG at h1
      rw [hg] at h1
      exact h1
    by_cases hid : i < d
    · have hr : putAll l.toArray (mergeG d L G vals) (List.range i) a0 = putAll l.toArray (valG L G vals) (List.range i) a0 := putAll_congr _ _ _ _ _ fun j hj => by
        have := List.mem_range.1 hj
        unfold mergeG
        rw [if_pos (by omega)]
      obtain ⟨k1, _⟩ := hall vals
      have ho2 : (l.take d)[i]? = some o := by rw [List.getElem?_take, if_pos hid]; simpa using ho
      have k2 := k1 i o ho2 w (fun hp => hci (by rw [Nat.zero_add] at hp; rw [hp]; simp) (by omega)) (fun hp k hk g hki hg => by
        rw [Nat.zero_add] at hp hk hki
        exact hfg (by rw [hp]; simp) (by omega) k hk g (by omega) hg)
      rw [Nat.zero_add] at k2
      have hsz : (putAll l.toArray vals (waitsOf l.toArray i) a0).tmps.size = (putAll l.toArray (valG L G vals) (List.range i) a0).tmps.size := by
        rw [(putAll_look hdist vals (waitsOf l.toArray i) a0).1, (putAll_look hdist (valG L G vals) (List.range i) a0).1]
      have hlk : ∀ t ∈ o.looksAt l.toArray, (putAll l.toArray vals (waitsOf l.toArray i) a0).tmps[t]? = (putAll l.toArray (valG L G vals) (List.range i) a0).tmps[t]? := by
        rw [hcon, ← hr]
        exact seq_look hok ho (mergeG d L G vals) a0
      cases hG : G i with
      | none =>
        rw [hG] at k2
        have h3 := k2 (fun a' w' => ∃ v, a' = (putAll l.toArray (valG L G vals) (List.range i) a0).put o.dst v ∧ (v = L.getD i undef ∧ (if pu i = true then w' = w else C w' ∧ St w w'))) fun w' h1 => ⟨_, rfl, rfl, h1⟩
        refine seq_move (R := fun v w' => v = L.getD i undef ∧ (if pu i = true then w' = w else C w' ∧ St w w')) ok.sel hsz hlk h3 ?_
        rintro v w' ⟨rfl, h1⟩
        refine ⟨_, rfl, ?_, trivial, ?_⟩
        · dsimp only
          rw [if_pos hid]
          unfold facG
          rw [hG]
          simp [upd]
        · dsimp only
          rw [if_neg (by omega)]
          split at h1
          · rename_i hp
            rw [if_pos hp]
            exact h1
          · rename_i hp
            rw [if_neg hp]
            exact ⟨h1.2, fun _ => h1.1⟩
      | some g =>
        rw [hG] at k2
        have h3 := k2 (fun a' w' => ∃ v, a' = (putAll l.toArray (valG L G vals) (List.range i) a0).put o.dst v ∧ (g v w' ∧ C w' ∧ St w w')) fun x w' h1 h2 h3 => ⟨_, rfl, h3, h1, h2⟩
        refine seq_move (R := fun v w' => g v w' ∧ C w' ∧ St w w') ok.sel hsz hlk h3 ?_
        rintro v w' ⟨h1, h2, h3⟩
        refine ⟨_, rfl, ?_, trivial, ?_⟩
        · dsimp only
          rw [if_pos hid]
          unfold facG
          rw [hG]
          simpa [upd] using h1
        · dsimp only
          have hp : ¬ pu i = true := fun hp => by have := hpg i hp; rw [hG] at this; cases this
          rw [if_neg (by omega), if_neg hp]
          exact ⟨h3, fun _ => h2⟩
    · have hget : l.drop i = o :: l.drop (i + 1) := by
        have h1 : l[i]? = some o := by simpa using ho
        have h2 := List.drop_eq_getElem_cons hil
        rw [List.getElem?_eq_getElem hil] at h1
        rw [h2, Option.some.inj h1]
      have htail : tailP P l.toArray a0 Kf i (l.drop i) (mergeG d L G vals) w := by
        by_cases he : i = d
        · subst he
          obtain ⟨_, Γ', k2, k3⟩ := hall vals
          rw [Nat.zero_add, htl] at k2 k3
          have hr : putAll l.toArray (mergeG i L G vals) (List.range i) a0 = putAll l.toArray (valG L G vals) (List.range i) a0 := putAll_congr _ _ _ _ _ fun j hj => by
            have := List.mem_range.1 hj
            unfold mergeG
            rw [if_pos (by omega)]
          exact seq_tail (P := P) (Kq := fun a w => Q .normal a w) (n := l.length) hok (l.drop i) i (mergeG i L G vals) _ w (fun j o hj => by
            rw [List.getElem?_drop] at hj
            simpa using hj) (by rw [List.length_drop]; omega) hr (k3 w (hci (by simp) (Nat.le_refl _)) fun k hk => k2 k w fun g hki hg => hfg (by simp) (Nat.le_refl _) k hk g hki hg)
        · have hav1 : availAt l.toArray kills (i - 1) i = true := by
            unfold availAt
            rw [Bool.and_eq_true]
            refine ⟨hprev i hil (by omega), ?_⟩
            rw [List.all_eq_true]
            intro k hk
            have hk' : k < l.length := by simpa using hk
            by_cases hki : k = i
            · simp [hki]
            · by_cases hki2 : i < k
              · simp only [(hdeep k hk' (by omega) i hki2).resolve_right (by omega), Bool.or_true]
              · have : ¬ i - 1 < k ∨ k = i - 1 := by omega
                have h8 : ¬ l.length ≤ i - 1 := by omega
                have h7 : ¬ i - 1 < d := by omega
                rcases this with h1 | h1
                · simp [kills, h1, h8, h7]
                · simp [h1]
          have := hav (i - 1) hav1
          dsimp only at this
          rw [if_neg (by omega), show i - 1 + 1 = i by omega] at this
          exact this
      rw [hget] at htail
      rw [hcon]
      refine htail _ fun v w' ht => ?_
      refine ⟨v, rfl, ?_, trivial, ?_⟩
      · dsimp only
        rw [if_neg hid, mergeG_upd _ _ _ _ (by omega)]
        exact ht
      · dsimp only; rw [if_pos (by omega)]; trivial
  · intro w vals _ hF
    have hn1 : l.length - 1 < l.length := by omega
    have halive : aliveAt l.toArray kills (l.length - 1) = true := by
      unfold aliveAt
      rw [List.all_eq_true]
      intro k hk
      have hk' : k < l.length := by simpa using hk
      have h7 : ¬ l.length - 1 < k := by omega
      have h8 : ¬ l.length ≤ l.length - 1 := by omega
      have h6 : ¬ l.length - 1 < d := by omega
      simp [kills, h7, h8, h6]
    have h1 := hF (l.length - 1) (by simpa using hn1) halive
    rw [if_neg (by omega), show l.length - 1 + 1 = l.length by omega, List.drop_length] at h1
    have hcon : putAll l.toArray vals (List.range l.toArray.size) a0 = putAll l.toArray (mergeG d L G vals) (List.range l.length) a0 := by
      rw [show l.toArray.size = l.length by simp]
      refine putAll_congr _ _ _ _ _ fun j hj => ?_
      unfold mergeG
      split
      · rename_i hjd
        unfold valG
        cases hG : G j with
        | some g => rfl
        | none =>
          have hal : aliveAt l.toArray kills j = true := by
            unfold aliveAt
            rw [List.all_eq_true]
            intro k _
            rw [hkl k j hjd (by rw [hG]; exact fun g h => by cases h)]
            simp
          have := hF j (by simpa using (List.mem_range.1 hj)) hal
          rw [if_pos hjd] at this
          unfold facG at this
          rw [hG] at this
          exact this
      · rfl
    rw [hcon]
    exact h1
section
variable {ops : Array Oper} {C : World → Prop} {pu : Nat → Bool} {St : World → World → Prop} {L : List Value} {G : Nat → Option (Value → World → Prop)} {K : Act → (Nat → World → Prop) → Prop} {Γ : Nat → World → Prop} {i : Nat} {o : Oper} {r : List Oper} {a a' : Act} {v : Value}
theorem SeqH.nil (h : K a Γ) : SeqH P ops C pu St L G K i [] a Γ := h
theorem SeqH.step (hp : pu i = false) (h : SeqG P ops C St L G (fun a Γ => SeqH P ops C pu St L G K (i + 1) r a Γ) i [o] a Γ) : SeqH P ops C pu St L G K i (o :: r) a Γ := by
  unfold SeqG at h
  unfold SeqH
  cases hG : G i with
  | none =>
    rw [hG] at h
    refine ⟨fun w hc hf E hE => h.1 w (hc hp) (hf hp) E fun w' h1 h2 => hE w' ?_, h.2⟩
    rw [hp]
    exact ⟨h1, h2⟩
  | some g =>
    rw [hG] at h
    exact h
theorem SeqH.pure (hp : pu i = true) (hG : G i = none) (hv : L.getD i undef = v) (hg : o.guard = none) (ha : a.put o.dst v = a')
    (h : ∀ w, ∀ E : Act → World → Prop, E a' w → wpList P #[] (EndOf E) [o] a w)
    (hr : SeqH P ops C pu St L G K (i + 1) r a' Γ) : SeqH P ops C pu St L G K i (o :: r) a Γ := by
  subst ha
  unfold SeqH
  rw [hG]
  refine ⟨fun w hc hf E hE => ?_, by rw [hv]; exact hr⟩
  have h1 := h w E (by have := hE w (by rw [hp]; simp); rwa [hv] at this)
  have hw : ∀ (O : Array Oper) (t : Array Value), Region.wanted o (yielded O t) = true := fun O t => by simp [Region.wanted, hg]
  simp only [wpList, hw, if_true] at h1 ⊢
  exact h1
end
end Go.Proofs.Ytcnebbhnpocofaa
/-
  Walk: the reference's Sum, words of 32 bits.
-/
namespace Go.Proofs.Ytcnebbhnpocofaa.Sh
set_option linter.unusedSimpArgs false
set_option linter.unusedVariables false
open Go.RowKit
theorem zeroR32_ne (n k : Nat) (h : k < zeroR F32 n) : ((((n + 1 + k : Nat) : Int) + 8) % 64 != 0) = true := by
  simp only [zeroR, F32] at h
  rw [bne_iff_ne]
  omega
theorem zeroR32_eq (n : Nat) : ((((n + 1 + zeroR F32 n : Nat) : Int) + 8) % 64 != 0) = false := by
  have h : zeroR F32 n = (2 * 32 - (n + 1 + 32 / 4) % (2 * 32)) % (2 * 32) := rfl
  rw [bne_eq_false_iff_eq]
  omega
set_option maxRecDepth 100000 in
set_option maxHeartbeats 4000000 in
theorem hsum32_any (p : HP) (data : List UInt8) (A : Option Addr) (c B : Nat) (w : World) (hok : HOk F32 p w B) (hr : Rd w B A (bytesV data)) (hB : B ≤ w.heap.size) (hl : data.length ≤ 1000) (hc : data.length ≤ c) :
    Calls Try.prog 64 #[.agg (hv F32 p), .slice A data.length c] w (HSumPost F32 32 data w) := by
  have hu := Try.underlying103
  obtain ⟨gf, hgf⟩ : ∃ x, x = w.heap.size := ⟨_, rfl⟩
  have hst0 : HsA w gf F32 p A data (.slice none 0 0) [] (w.alloc (.cells (hv F32 p) 103)) := by
    have hb := below_new w (.cells (hv F32 p) 103)
    rw [hgf]
    exact ⟨⟨hb, Blk.new _ _ _, (hok.mono hB).below hb, (hr.mono hB).below hb⟩, OwnX.nil _ _ _ _⟩
  have d0 := hst0.st.h.cell 0
  simp [hv, hC, F32] at d0
  have HST0 := Lib.hid hst0
  have HGF := Lib.hid hgf
  have hl' : (data.length : Int) ≤ 1000 := by omega
  clear hst0 hok hr hB hgf
  go_enter Try.func64, Try.ntmps64
  have HOWN0 : Hid (OwnX (w.alloc (.cells (hv F32 p) 103)) (gf + 1) 5 1 (.slice none 0 0) 0 []) := Lib.hid HST0.out.own
  go_wp2_with (first
    | (refine wpList_append_rd (o := ⟨some 17, _, _, _, _, _⟩) sl_bytes rfl rfl HOWN0.out rfl rfl (by simp [bytesV]) HST0.out.st.rd (by intro u hu; simp [bytesV, byteV] at hu; obtain ⟨_, _, rfl⟩ := hu; rfl) (by unfold maxLen; omega) (by omega) (by have := HST0.out.st.h.lt; omega) ?_; intro A1 c1 w1 hown1 hg1 hn1; have HOWN1 : Hid (OwnX w1 (gf + 1) 5 1 (.slice A1 data.length c1) data.length (bytesV data)) := Lib.hid (by simpa using hown1); have H641 : Hid (gf + 1 ≤ w1.heap.size) := Lib.hid (by have := hg1.size; have := HGF.out; simp at *; omega); have HG1 := Lib.hid hg1; clear hown1 hg1 hn1)
    | (refine wpList_append_one (o := ⟨some 20, _, _, _, _, _⟩) sl_bytes rfl rfl HOWN1.out rfl rfl rfl rfl (by unfold maxLen; omega) (by omega) H641.out ?_; intro A2 c2 w2 hown2 hg2 hn2; have hs2 : HsA w gf F32 p A data (.slice A2 (data.length + 1) c2) (oneZ data 0) w2 := (HST0.out.app (ys := data) HG1.out HOWN1.out).app hg2 (by rw [oneZ_length, oneZ_zero, bytesV_snoc]; exact hown2); have d2 := hs2.st.h.cell 0; simp [hv, hC, F32] at d2; rw [HGF.out] at d2; have HST2 := Lib.hid hs2; clear hs2 hown2 hg2 hn2))
  rw [show w.heap.size = gf from HGF.out.symm] at d2 ⊢
  have hzl : zeroR F32 data.length < 64 := Nat.mod_lt _ (by decide)
  clear HST0 HOWN0 HG1 HOWN1 H641 d0 d2
  go_loopw [5] (fun v wr => ∃ (k n : Nat) (A3 : Option Addr) (c3 : Nat), k ≤ zeroR F32 data.length ∧ n = data.length + 1 + k ∧ v = .slice A3 n c3 ∧ HsA w gf F32 p A data (.slice A3 n c3) (oneZ data k) wr) (fun v _ => data.length + 1 + zeroR F32 data.length - lenOf v)
  case atStart => exact ⟨0, data.length + 1, A2, c2, Nat.zero_le _, rfl, rfl, HST2.out⟩
  case round =>
    clear HST2
    obtain ⟨k, n, A3, c3, hk, hn, rfl, hst⟩ := hrel
    have hn2 : n ≤ 2000 := by omega
    have d0 := hst.st.h.cell 0
    simp [hv, hC, F32] at d0
    by_cases hlt : k < zeroR F32 data.length
    · have hne : ((((n : Nat) : Int) + 8) % 64 != 0) = true := by rw [hn]; exact zeroR32_ne _ _ hlt
      have HO : Hid (OwnX wr (gf + 1) 5 1 (.slice A3 n c3) n (bytesV (oneZ data k))) := Lib.hid (by have := hst.own; rwa [oneZ_length, ← hn] at this)
      have HN := Lib.hid hn
      have HST := Lib.hid hst
      clear hn hst
      go_wp2_with (refine wpList_append_one (o := ⟨some 35, _, _, _, _, _⟩) sl_bytes rfl rfl HO.out rfl rfl rfl rfl (by unfold maxLen; omega) (by omega) (by have := HST.out.st.h.lt; omega) ?_; intro A4 c4 w4 hown4 hg4 hn4; have HOWN4 := Lib.hid hown4; have HG4 := Lib.hid hg4; clear hown4 hg4 hn4)
      exact ⟨⟨k + 1, n + 1, A4, c4, hlt, by rw [HN.out]; omega, rfl, HST.out.app HG4.out (by rw [oneZ_length, oneZ_succ, bytesV_snoc, ← Nat.add_assoc, ← HN.out]; exact HOWN4.out)⟩, by simp only [lenOf]; have := HN.out; omega⟩
    · obtain rfl : k = zeroR F32 data.length := by omega
      have hne : ((((n : Nat) : Int) + 8) % 64 != 0) = false := by rw [hn]; exact zeroR32_eq _
      have HN := Lib.hid hn
      have HST := Lib.hid hst
      clear hn hst
      go_wp2_with fail
      clear hne
      obtain ⟨W1, rfl⟩ : ∃ x : World, x = wr := ⟨_, rfl⟩
      obtain ⟨gl0, hgl0⟩ : ∃ x, x = W1.heap.size := ⟨_, rfl⟩
      have HGL := Lib.hid hgl0
      clear hgl0
      go_loopw [8, 9] (fun v i wr => ∃ (k : Nat) (A4 : Option Addr) (c4 : Nat), k ≤ 8 ∧ i = .int .i64 k ∧ v = .slice A4 k c4 ∧ Below gl0 W1 wr ∧ wr.ownsRow gl0 5 1 (.slice A4 k c4) k (bytesV (List.replicate k 0)) ∧ gl0 ≤ wr.heap.size) (fun _ i _ => 8 - (intOf i).toNat)
      case atStart => exact ⟨0, none, 0, by omega, rfl, rfl, Below.refl _ _, World.ownsRow_nil _ _ _ _, by rw [HGL.out]; exact Nat.le_refl _⟩
      case round =>
        obtain ⟨k, A4, c4, hk, rfl, rfl, hb4, ho4, hl4⟩ := hrel
        by_cases hk8 : k < 8
        · have hk8' : (k : Int) < 8 := by omega
          have HB4 := Lib.hid hb4
          have HO4 := Lib.hid ho4
          clear hb4 ho4
          go_wp2_with (refine wpList_append_own1 sl_bytes rfl rfl HO4.out rfl rfl rfl rfl (by unfold maxLen; omega) (by omega) hl4 ?_; intro A5 c5 w5 hown5 hg5; have HOWN5 := Lib.hid hown5; have HG5 := Lib.hid hg5; clear hown5 hg5)
          refine ⟨⟨k + 1, A5, c5, hk8, by go_num, rfl, HB4.out.grown HG5.out hl4 (fun k hk => (own_lt HO4.out k hk).1), ?_, by have := HG5.out.size; omega⟩, by simp [intOf]; omega⟩
          rw [List.replicate_succ', bytesV_snoc]
          exact HOWN5.out
        · obtain rfl : k = 8 := by omega
          obtain ⟨gl, R, rfl, hgl, hcl, hbk⟩ := own_blk ho4 (by decide)
          obtain ⟨ws, hws⟩ : ∃ ws, ws = lenB F32 data.length := ⟨_, rfl⟩
          have hwl : ws.length = 8 := by rw [hws, lenB, List.length_append, List.length_replicate, be8_length]; rfl
          have hbk0 : Blk wr gl 5 (backC 8 ws 0 ++ R) := by
            rw [backC_zero _ _ hwl]
            have e : bytesV (List.replicate 8 (0 : UInt8)) = List.replicate 8 (.int .u8 0) := by simp [bytesV, byteV]
            rw [e] at hbk
            exact hbk
          have hget : ∀ i j, i + j + 1 = 8 → (bytesV ws)[i]? = some (.int .u8 ((data.length * 8 / 256 ^ j % 256 : Nat) : Int)) := fun i j h => by rw [hws]; exact lenB32_get _ _ _ h
          have HWS := Lib.hid hws
          have HWL := Lib.hid hwl
          have HB4 := Lib.hid hb4
          have HBK0 := Lib.hid hbk0
          have HGET := Lib.hid hget
          clear hws hwl hb4 hbk hbk0 hget ho4
          go_wp2_with fail
          obtain ⟨wo2, rfl⟩ : ∃ x : World, x = wr := ⟨_, rfl⟩
          go_loopw [7, 10] (fun v i wr => ∃ (j y : Nat), j ≤ 8 ∧ y = data.length * 8 / 256 ^ j ∧ v = .int .i64 y ∧ i = .int .i64 ((8 : Int) - 1 - (j : Int)) ∧ Below gl0 W1 wr ∧ Blk wr gl 5 (backC 8 ws j ++ R)) (fun _ i _ => (intOf i + 1).toNat)
          case atStart => exact ⟨0, data.length * 8, by omega, by simp, by exact congrArg (Value.int .i64) (by omega), rfl, HB4.out, HBK0.out⟩
          case round =>
            clear HBK0
            obtain ⟨j, y, hj, hy, rfl, rfl, hb5, hk5⟩ := hrel
            have hyx : y ≤ data.length * 8 := by rw [hy]; exact Nat.div_le_self _ _
            have hy64 : (y : Int) ≤ 8000 := by omega
            by_cases hlt2 : j < 8
            · obtain ⟨ix, hix⟩ : ∃ ix : Nat, (8 : Int) - 1 - (j : Int) = (ix : Int) := ⟨8 - 1 - j, by omega⟩
              have hix2 : ix + j + 1 = 8 := by omega
              have hval := HGET.out ix j hix2
              rw [← hy] at hval
              have hset := backC_set_app 8 ws j ix _ R HWL.out hix2 hval
              obtain ⟨ov, hov⟩ := backC_app_get 8 ws j ix R HWL.out hix2
              have hnx : data.length * 8 / 256 ^ (j + 1) = y / 256 := by rw [hy, Nat.pow_succ, ← Nat.div_div_eq_div_mul]
              rw [hix]
              have dcell := hk5.cell ix
              rw [hov] at dcell
              have dfree := hk5.free ix
              have hixl : (ix : Int) < 8 := by omega
              have HSET := Lib.hid hset
              have HNX := Lib.hid hnx
              have HB5 := Lib.hid hb5
              have HK5 := Lib.hid hk5
              have HIX := Lib.hid hix
              clear hset hnx hb5 hk5 hix hix2 hval hy hov
              go_wp2_with fail
              refine ⟨⟨j + 1, y / 256, by omega, by rw [HNX.out], by go_num, by have := HIX.out; exact congrArg (Value.int .i64) (by omega), (wrote_setCell_at _ _ _ _).below HB5.out hgl (by have := HB5.out.size; rw [HGL.out]; omega), ?_⟩, by simp [intOf]⟩
              have h := blk_setCell_at (i := ix) HK5.out (.int .u8 ((y % 256 : Nat) : Int))
              rw [HSET.out] at h
              exact h
            · obtain rfl : j = 8 := by omega
              rw [backC_end] at hk5
              have hall : HsA w gf F32 p A data (.slice A3 n c3) (oneZ data (zeroR F32 data.length)) wr := HST.out.next (by rw [← HGL.out]; exact hb5)
              have HO5 : Hid (OwnX wr (gf + 1) 5 1 (.slice A3 n c3) n (bytesV (oneZ data (zeroR F32 data.length)))) := Lib.hid (by have := hall.own; rwa [oneZ_length, ← HN.out] at this)
              have hrl : Rd wr wr.heap.size (some ⟨gl, 0, none⟩) (bytesV ws) := Rd.of_blk_app hk5 hk5.lt
              have HRL := Lib.hid hrl
              have HALL0 := Lib.hid hall
              clear hrl hall hk5 hb5 hy HST
              go_wp2_with (first
                | (refine wpList_append_rd (o := ⟨some 63, _, _, _, _, _⟩) (m := 8) sl_bytes rfl rfl HO5.out rfl rfl (by rw [bytesV_length, HWL.out]) HRL.out (by intro u hu; simp [bytesV, byteV] at hu; obtain ⟨_, _, rfl⟩ := hu; rfl) (by unfold maxLen; omega) (by omega) (by have := HALL0.out.st.h.lt; omega) ?_; intro A5 c5 w5 hown5 hg5 hn5; have hall5 : HsA w gf F32 p A data (.slice A5 (n + 8) c5) (oneZ data (zeroR F32 data.length) ++ ws) w5 := HALL0.out.app hg5 (by rw [List.length_append, oneZ_length, HWL.out, ← HN.out, bytesV_append]; exact hown5); have d7 := hall5.st.h.cell 7; simp [hv, hC, F32] at d7; have HALL5 := Lib.hid hall5; clear hall5 hown5 hg5 hn5)
                | (refine wpList_append_rd (o := ⟨some 67, _, _, _, _, _⟩) (base := gf + 1) (n := 0) (m := 8) (v := .slice none 0 0) (xs := []) sl_u64 rfl rfl (OwnX.nil _ _ _ _) rfl rfl rfl HALL5.out.st.ok.f (by intro u hu; simp [wordsV] at hu; obtain ⟨_, _, rfl⟩ := hu; rfl) (by unfold maxLen; omega) (by omega) (by have := HALL5.out.st.h.lt; omega) ?_; intro A6 c6 w6 hown6 hg6 hn6; have HOWN6 := Lib.hid hown6; have HG6 := Lib.hid hg6; clear hown6 hg6 hn6))
              obtain ⟨ALL, hALL⟩ : ∃ x, x = padS F32 data := ⟨_, rfl⟩
              obtain ⟨m, hm⟩ : ∃ x, x = n + 8 := ⟨_, rfl⟩
              rw [← hm]
              have hall : ALL = oneZ data (zeroR F32 data.length) ++ ws := by rw [hALL, HWS.out]; exact (padR32 data hl).symm
              have hal : ALL.length = m := by rw [hall, List.length_append, oneZ_length, HWL.out, ← HN.out, hm]
              have hm4 : m ≤ 4000 := by omega
              have hsb : HsB w gf F32 p A data (.slice A5 m c5) ALL A6 c6 (runS F32 ALL 0) w6 := by
                have h5 := HALL5.out
                rw [← hm, ← hall] at h5
                have hg6 := HG6.out
                refine ⟨⟨h5.st.keep (below_of_grown hg6 (by have := h5.st.h.lt; omega) (by intro k hk; simp [Value.ownBlock] at hk)), h5.own.kept hg6 ?_⟩, ?_⟩
                · cases h9 : (Value.slice A5 m c5).ownBlock with
                  | none => exact .inl rfl
                  | some k => exact .inr (by simp [Value.ownBlock])
                · show OwnX w6 (gf + 1) 108 1 (.slice A6 8 c6) 8 (wordsV .u64 (s8L (startS F32)))
                  simpa using HOWN6.out
              obtain ⟨nb, hnb⟩ : ∃ nb, m = nb * 64 := ⟨m / 64, by have := pad32_blocks data; rw [← hALL, hal] at this; omega⟩
              have hcap : m ≤ c5 ∧ c5 ≤ 9223372036854775807 := own_cap (show OwnX w6 (gf + 1) 5 1 (.slice A5 m c5) m (bytesV ALL) by have := hsb.a.own; rwa [hal] at this)
              obtain ⟨hcap1, hcap2⟩ := hcap
              have HALL := Lib.hid hALL
              have HAL := Lib.hid hal
              have HSB := Lib.hid hsb
              have HNB := Lib.hid hnb
              clear hALL hm hall hal hsb hnb HALL5 HOWN6 HG6 HALL0 HO5 HRL d7 d0
              go_loopw [11, 12] (fun v i wr => ∃ (j a : Nat) (A7 : Option Addr) (c7 : Nat), j ≤ nb ∧ a = j * 64 ∧ i = .int .i64 (a : Int) ∧ v = .slice A7 8 c7 ∧ HsB w gf F32 p A data (.slice A5 m c5) ALL A7 c7 (runS F32 ALL j) wr) (fun _ i _ => m - (intOf i).toNat)
              case atStart => exact ⟨0, 0, A6, c6, by omega, rfl, rfl, rfl, HSB.out⟩
              case round =>
                clear HSB
                obtain ⟨j, a, A7, c7, hj, ha, rfl, rfl, hsj⟩ := hrel
                by_cases hjn : j < nb
                · have ham : a + 64 ≤ m := by rw [HNB.out, ha]; omega
                  have hlt3 : a < m := by omega
                  have hle1 : a + 64 ≤ c5 := by omega
                  have hla : OwnX wr (gf + 1) 5 1 (.slice A5 m c5) m (bytesV ALL) := by have := hsj.a.own; rwa [HAL.out] at this
                  obtain ⟨g5, hg5, _, _⟩ := hla.ptr (by omega)
                  subst hg5
                  obtain ⟨bk, hbk⟩ : ∃ x, x = (ALL.drop a).take 64 := ⟨_, rfl⟩
                  have hbl : bk.length = 64 := by rw [hbk]; simp; rw [HAL.out]; omega
                  obtain ⟨sj, hsj2⟩ : ∃ x, x = runS F32 ALL j := ⟨_, rfl⟩
                  have hsl : sj.Lt (2 ^ 32) := by rw [hsj2]; exact runS_lt F32 ALL j
                  have hs1 : runS F32 ALL (j + 1) = mixS F32 sj bk := by rw [hsj2, hbk, ha]; rfl
                  rw [← hsj2] at hsj
                  have HRB : Hid (∀ u, HsB w gf F32 p A data (.slice (some ⟨g5, 0, none⟩) m c5) ALL A7 c7 sj u → Rd u u.heap.size (some ⟨g5, a, none⟩) (bytesV bk)) := Lib.hid fun u hu => by
                    have h1 : OwnX u (gf + 1) 5 1 (.slice (some ⟨g5, 0, none⟩) m c5) m (bytesV ALL) := by have := hu.a.own; rwa [HAL.out] at this
                    have h2 := rd_take (rd_drop (Rd.of_own h1 (Nat.le_refl _)) a) 64
                    rw [Addr.add_lit, Nat.zero_add] at h2
                    rw [hbk, bytesV, List.map_take, List.map_drop]
                    exact h2
                  have HBL := Lib.hid hbl
                  have HSL := Lib.hid hsl
                  have HS1 := Lib.hid hs1
                  have HA := Lib.hid ha
                  have d0 := hsj.a.st.h.cell 0
                  simp [hv, hC, F32] at d0
                  have HC0 := hsj.drew
                  have D0 := Lib.hid d0
                  have HSJ := Lib.hid hsj
                  clear hbl hsl hs1 hbk hsj2 ha hla hsj d0
                  go_wp2_with fail
                  clear HSJ
                  refine wp_region_seqt (fun u => HsB w gf F32 p A data (.slice (some ⟨g5, 0, none⟩) m c5) ALL A7 c7 sj u) (fun _ => false) 10 (by kernel_rfl) (by kernel_rfl) (by decide) (by kernel_rfl) HC0 ?_
                  simp only [List.take_succ_cons, List.take_zero, List.drop_succ_cons, List.drop_zero]
                  apply SeqL.next
                  · rfl
                  · rfl
                  · simp only [act_put, act_put_none, List.setIfInBounds_toArray, List.set_cons_zero, List.set_cons_succ]
                    rfl
                  · intro w1 hC1 E hE
                    refine wpList_get_box hC1.a.st.h rfl rfl rfl hu rfl h_size ?_
                    go_wp2_with fail
                    exact .mk (hE _ hC1)
                  iterate 5
                    ((first | (apply SeqL.next; rfl; rfl)); (simp only [act_put, act_put_none, List.setIfInBounds_toArray, List.set_cons_zero, List.set_cons_succ]; rfl); (intro w1 hC1 E hE; go_wp2; exact .mk (hE _ hC1)))
                  apply SeqL.next
                  · rfl
                  · rfl
                  · simp only [act_put, act_put_none, List.setIfInBounds_toArray, List.set_cons_zero, List.set_cons_succ]
                    rfl
                  · intro w1 hC1 E hE
                    have d0 := hC1.a.st.h.cell 0
                    simp [hv, hC, F32] at d0
                    go_wp2
                    exact .mk (hE _ hC1)
                  iterate 2
                    ((first | (apply SeqL.next; rfl; rfl)); (simp only [act_put, act_put_none, List.setIfInBounds_toArray, List.set_cons_zero, List.set_cons_succ]; rfl); (intro w1 hC1 E hE; go_wp2; exact .mk (hE _ hC1)))
                  apply SeqL.next
                  · rfl
                  · rfl
                  · simp only [act_put, act_put_none, List.setIfInBounds_toArray, List.set_cons_zero, List.set_cons_succ]
                    rfl
                  · intro w1 hC1 E hE
                    go_wp2
                    rw [show a + 64 - a = 64 by omega]
                    exact .mk (hE _ hC1)
                  refine SeqL.nil ?_
                  intro w1 hC1
                  refine SeqT.step rfl ?_
                  intro E hE
                  simp only [act_put, act_put_none, List.setIfInBounds_toArray, List.set_cons_zero, List.set_cons_succ] at hE
                  go_wp2_with fail
                  have hmx := block32_any p sj bk (some ⟨g5, a, none⟩) A7 (c5 - a) c7 w1.heap.size w1 (hC1.a.st.ok.mono (by have := hC1.a.st.h.lt; omega)) (Nat.le_refl _) (HRB.out _ hC1) (Rd.of_own hC1.s (Nat.le_refl _)) HBL.out (by rw [HBL.out]; omega) hC1.s.le_cap HSL.out
                  rw [HBL.out] at hmx
                  refine calls_then hmx ?_
                  rintro e w2 ⟨A8, c8, rfl, hown8, hb8⟩
                  go_wp2_with fail
                  refine .mk (hE _ _ ?_)
                  clear hE E
                  refine SeqT.step rfl ?_
                  intro E hE
                  simp only [act_put, act_put_none, List.setIfInBounds_toArray, List.set_cons_zero, List.set_cons_succ] at hE
                  go_wp2
                  refine .mk (hE _ _ ?_)
                  clear hE E
                  refine SeqT.nil ?_
                  have hfin : HsB w gf F32 p A data (.slice (some ⟨g5, 0, none⟩) m c5) ALL A8 c8 (runS F32 ALL (j + 1)) w2 := by
                    rw [HS1.out]
                    exact ⟨hC1.a.next hb8, hown8.mono (by have := hC1.a.st.h.lt; omega)⟩
                  have d0 := hfin.a.st.h.cell 0
                  simp [hv, hC, F32] at d0
                  have HFIN := Lib.hid hfin
                  clear hfin hC1 HC0 hown8 hb8
                  go_wp2_with fail
                  exact ⟨⟨j + 1, a + 64, A8, c8, hjn, by rw [HA.out]; omega, by go_num, rfl, HFIN.out⟩, by simp [intOf]; omega⟩
                · obtain rfl : j = nb := by omega
                  have hge : ¬ a < m := by rw [HNB.out, ha]; omega
                  obtain ⟨sv, hsv⟩ : ∃ x, x = runS F32 ALL j := ⟨_, rfl⟩
                  have hsl : sv.Lt (2 ^ 32) := by rw [hsv]; exact runS_lt F32 ALL j
                  rw [← hsv] at hsj
                  obtain ⟨g7, rfl, _, _⟩ := hsj.s.ptr (by decide)
                  have hc7 := hsj.s.le_cap
                  have hso : HsB w gf F32 p A data (.slice none 0 0) (outW 32 4 sv 0) (some ⟨g7, 0, none⟩) c7 sv wr := ⟨⟨hsj.a.st, OwnX.nil _ _ _ _⟩, hsj.s⟩
                  have HSV := Lib.hid hsv
                  have HSL := Lib.hid hsl
                  have HSO := Lib.hid hso
                  have HA := Lib.hid ha
                  clear hsv hsl hso hsj ha
                  go_wp2_with fail
                  obtain ⟨wo5, rfl⟩ : ∃ x : World, x = wr := ⟨_, rfl⟩
                  go_loopw [13, 14] (fun v i wr => ∃ (k q : Nat) (A8 : Option Addr) (c8 : Nat), k ≤ 8 ∧ q = k * 4 ∧ i = .int .i64 k ∧ v = .slice A8 q c8 ∧ HsB w gf F32 p A data (.slice A8 q c8) (outW 32 4 sv k) (some ⟨g7, 0, none⟩) c7 sv wr) (fun _ i _ => 8 - (intOf i).toNat)
                  case atStart => exact ⟨0, 0, none, 0, by omega, by omega, rfl, rfl, HSO.out⟩
                  case round =>
                    clear HSO
                    obtain ⟨k, q, A8, c8, hk, hq, rfl, rfl, hso⟩ := hrel
                    by_cases hk8 : k < 8
                    · have hk8' : (k : Int) < 8 := by omega
                      obtain ⟨x, hx⟩ : ∃ x, x = (s8L sv).getD k 0 := ⟨_, rfl⟩
                      have hxl : x < 2 ^ 32 := by rw [hx]; exact s8L_lt HSL.out (by decide) k
                      have ex : (wordsV .u64 (s8L sv))[k]? = some (.int .u64 (x : Int)) := by rw [hx]; exact wordsV_get _ _ _ (show k < 8 from hk8)
                      have hol : (outW 32 4 sv k).length = q := by rw [outW_length _ _ _ _ hk, hq]
                      have hnx : outW 32 4 sv (k + 1) = outW 32 4 sv k ++ wordB 32 x 4 := by rw [outW_succ _ _ _ _ hk8, hx]
                      obtain ⟨XS, hXS⟩ : ∃ x, x = outW 32 4 sv k := ⟨_, rfl⟩
                      rw [← hXS] at hol hnx hso
                      have HXL := Lib.hid hxl
                      have EX := Lib.hid ex
                      have HOL := Lib.hid hol
                      have HNX := Lib.hid hnx
                      have HQ := Lib.hid hq
                      have hq9 : q ≤ 64 := by omega
                      have HC0 := hso.drew
                      clear hx hxl ex hol hnx hXS hq hso
                      go_wp2_with fail
                      apply wp_region_seqp (fun u => HsB w gf F32 p A data (.slice A8 q c8) XS (some ⟨g7, 0, none⟩) c7 sv u) (fun i => i == 0) (fun u u' => Below u.heap.size u u') [_, _, _, _, _, _, undef] (gOf [(6, fun v u => ∃ g9, v = .slice (some ⟨g9, 0, none⟩) 4 4 ∧ Blk u g9 5 (bytesV (wordB 32 x 4)).toArray)]) 7 (by kernel_rfl) (by kernel_rfl) (by decide) (by kernel_rfl) (fun i h => by simp only [beq_iff_eq] at h; subst h; rfl) (stabL_of _ ⟨(fun _ _ _ h h0 => by obtain ⟨g, e, hb⟩ := h0; exact ⟨g, e, hb.below h hb.lt⟩), trivial⟩) HC0
                      simp only [List.take_succ_cons, List.take_zero, List.drop_succ_cons, List.drop_zero]
                      iterate 1
                        first
                        | (apply SeqH.pure; rfl; rfl; rfl; rfl; (simp only [act_put, act_put_none, List.setIfInBounds_toArray, List.set_cons_zero, List.set_cons_succ]; rfl); (intro w1 E hE; go_wp2; exact .mk hE))
                        | (apply SeqH.step; rfl; (first | (apply SeqG.next; rfl; rfl; rfl)); (simp only [act_put, act_put_none, List.setIfInBounds_toArray, List.set_cons_zero, List.set_cons_succ]; rfl); (intro w1 hC1 hf E hE; go_wp2; exact .mk (hE _ hC1 (Below.refl _ _))); refine SeqG.nil ?_)
                      apply SeqH.step
                      · rfl
                      apply SeqG.next
                      · rfl
                      · rfl
                      · rfl
                      · simp only [act_put, act_put_none, List.setIfInBounds_toArray, List.set_cons_zero, List.set_cons_succ]
                        rfl
                      · intro w1 hC1 hf E hE
                        refine wpList_get_box hC1.a.st.h rfl rfl rfl hu rfl h_size ?_
                        go_wp2_with fail
                        exact .mk (hE _ hC1 (Below.refl _ _))
                      refine SeqG.nil ?_
                      iterate 3
                        (apply SeqH.step; rfl; (first | (apply SeqG.next; rfl; rfl; rfl)); (simp only [act_put, act_put_none, List.setIfInBounds_toArray, List.set_cons_zero, List.set_cons_succ]; rfl); (intro w1 hC1 hf E hE; go_wp2; exact .mk (hE _ hC1 (Below.refl _ _))); refine SeqG.nil ?_)
                      apply SeqH.step
                      · rfl
                      apply SeqG.next
                      · rfl
                      · rfl
                      · rfl
                      · simp only [act_put, act_put_none, List.setIfInBounds_toArray, List.set_cons_zero, List.set_cons_succ]
                        rfl
                      · intro w1 hC1 hf E hE
                        have d0 := hC1.s.atN EX.out
                        go_wp2
                        exact .mk (hE _ hC1 (Below.refl _ _))
                      refine SeqG.nil ?_
                      apply SeqH.step
                      · rfl
                      apply SeqG.some
                      · rfl
                      · rfl
                      · intro w1 hC1 hf E hE
                        simp only [act_put, act_put_none, List.setIfInBounds_toArray, List.set_cons_zero, List.set_cons_succ] at hE
                        go_wp2_with fail
                        have hct := bytes_any 32 64 (.slice (some p.a) 3 p.ca) (.slice (some p.b) 3 p.cb) (.slice (some p.c) 3 p.cc) (.slice (some p.d) 3 p.cd) (.slice (some p.k) 64 p.ck) (.slice (some p.f) 8 p.cf) w1 (.inl rfl) x HXL.out
                        refine calls_then hct ?_
                        rintro e w2 ⟨g9, he9, hg9, hb9, hbel9⟩
                        have he9' : e = .returned (.slice (some ⟨g9, 0, none⟩) 4 4) := he9
                        clear he9
                        subst he9'
                        have hb9' : Blk w2 g9 5 (bytesV (wordB 32 x 4)).toArray := hb9
                        clear hb9
                        go_wp2_with fail
                        exact .mk (hE _ _ ⟨g9, rfl, hb9'⟩ (hC1.next hbel9) hbel9)
                      intro x6
                      simp only [act_put, act_put_none, List.setIfInBounds_toArray, List.set_cons_zero, List.set_cons_succ]
                      refine SeqG.nil ?_
                      refine SeqH.nil ?_
                      intro w1 hC1 hf
                      have f6 := (hf 6 (of_decide_eq_true (by kernel_rfl))).1 rfl
                      clear hf
                      refine SeqT.step rfl ?_
                      intro E hE
                      simp only [act_put, act_put_none, List.setIfInBounds_toArray, List.set_cons_zero, List.set_cons_succ] at hE
                      obtain ⟨g9, hx9, hb9'⟩ := f6
                      simp only [hx9] at hE ⊢
                      refine wpList_append_rd (m := 4) sl_bytes rfl rfl (show OwnX w1 (gf + 1) 5 1 (.slice A8 q c8) q (bytesV XS) by have := hC1.a.own; rwa [HOL.out] at this) rfl rfl (by rw [bytesV_length, wordB_length]) (Rd.of_blk hb9' hb9'.lt) (by intro u hu; simp [bytesV, byteV] at hu; obtain ⟨_, _, rfl⟩ := hu; rfl) (by unfold maxLen; omega) (by omega) (by have := hC1.a.st.h.lt; omega) ?_
                      intro A9 c9 w9 hown9 hg9' hn9
                      have hap := hC1.app (ys := XS ++ wordB 32 x 4) hg9' (by rw [List.length_append, HOL.out, wordB_length, bytesV_append]; exact hown9)
                      have HAP := Lib.hid hap
                      clear hap hown9 hg9' hn9 hb9'
                      go_wp2_with fail
                      refine .mk (hE _ _ ?_)
                      clear hE E
                      refine SeqT.step rfl ?_
                      intro E hE
                      simp only [act_put, act_put_none, List.setIfInBounds_toArray, List.set_cons_zero, List.set_cons_succ] at hE
                      go_wp2
                      refine .mk (hE _ _ ?_)
                      clear hE E
                      refine SeqT.nil ?_
                      clear HC0 hC1
                      go_wp2_with fail
                      refine ⟨⟨k + 1, q + 4, A9, c9, by omega, by rw [HQ.out]; omega, by go_num, rfl, ?_⟩, by simp [intOf]; omega⟩
                      rw [HNX.out]
                      exact HAP.out
                    · obtain rfl : k = 8 := by omega
                      obtain rfl : q = 8 * 4 := hq
                      have HSO := Lib.hid hso
                      clear hso
                      go_wp2_with fail
                      go_ret
                      refine ⟨A8, c8, rfl, ?_, by rw [← HGF.out]; exact HSO.out.a.st.bel⟩
                      have h := HSO.out.a.own
                      rw [outW_length _ _ _ _ (by omega)] at h
                      have hd : outW 32 4 sv 8 = digS F32 data := by
                        rw [HSV.out, digS, ← HALL.out, HAL.out, HNB.out]
                        show _ = (s8L (runS F32 ALL (j * 64 / 64))).flatMap _
                        rw [Nat.mul_div_cancel _ (by decide)]
                        rfl
                      rw [← hd, ← HGF.out]
                      exact h.mono (by omega)
end Go.Proofs.Ytcnebbhnpocofaa.Sh
/-
  Plain: what the reference's Of of both kinds share.
-/
namespace Go.Proofs.Ytcnebbhnpocofaa.Sh
set_option linter.unusedSimpArgs false
set_option linter.unusedVariables false
open Go.RowKit
theorem Blk.newAt {w : World} {n : Nat} {t : TypeId} {cs : Array Value} (h : w.heap.size = n) : Blk (w.alloc (.cells cs t)) n t cs := h ▸ Blk.new w t cs
def zH : Array Value := #[.int .i64 0, .int .i64 0, .slice none 0 0, .slice none 0 0, .slice none 0 0, .slice none 0 0, .slice none 0 0, .slice none 0 0]
theorem kL_take (F : ShaF) (n : Nat) (h : n < F.many) : (kL F).take (n + 1) = (kL F).take n ++ [stepsN.getD n 0 / 2 ^ (64 - F.bits) % 2 ^ F.bits] := by
  have hl : n < (kL F).length := by rw [kL_length]; exact h
  rw [List.take_succ_eq_append_getElem hl]
  have := kL_get F n h
  rw [List.getElem?_eq_getElem hl] at this
  rw [Option.some.inj this]
  rfl
theorem start_take (F : ShaF) (n : Nat) (h : n < 8) : (s8L (startS F)).take (n + 1) = (s8L (startS F)).take n ++ [firstN.getD n 0 / 2 ^ (64 - F.bits) % 2 ^ F.bits] := by
  rw [s8_take _ _ h, startS_at _ _ h]
def csV (bits many ga gb gc gd : Nat) (vK vF : Value) : Array Value := hC bits many (.slice (some ⟨ga, 0, none⟩) 3 3) (.slice (some ⟨gb, 0, none⟩) 3 3) (.slice (some ⟨gc, 0, none⟩) 3 3) (.slice (some ⟨gd, 0, none⟩) 3 3) vK vF
end Go.Proofs.Ytcnebbhnpocofaa.Sh
/-
  Walk: the reference's Of, of 32 bits.
-/
namespace Go.Proofs.Ytcnebbhnpocofaa.Sh
set_option linter.unusedSimpArgs false
set_option linter.unusedVariables false
open Go.RowKit
set_option maxRecDepth 100000 in
set_option maxHeartbeats 4000000 in
theorem of32_any (w : World) : Calls Try.prog 63 #[.int .i64 32] w (OfPost F32 w) := by
  have hu := Try.underlying103
  obtain ⟨g0, hg0⟩ : ∃ x, x = w.heap.size := ⟨_, rfl⟩
  go_enter Try.func63, Try.ntmps63
  go_wp2_with fail
  obtain ⟨gh, hgh⟩ : ∃ x, x = w.heap.size + 1 + 1 + 1 + 1 + 1 := ⟨_, rfl⟩
  obtain ⟨ga, hga⟩ : ∃ x, x = w.heap.size + 1 + 1 + 1 + 1 + 1 + 1 := ⟨_, rfl⟩
  obtain ⟨gb, hgb⟩ : ∃ x, x = w.heap.size + 1 + 1 + 1 + 1 + 1 + 1 + 1 := ⟨_, rfl⟩
  obtain ⟨gc, hgc⟩ : ∃ x, x = w.heap.size + 1 + 1 + 1 + 1 + 1 + 1 + 1 + 1 := ⟨_, rfl⟩
  obtain ⟨gd, hgd⟩ : ∃ x, x = w.heap.size + 1 + 1 + 1 + 1 + 1 + 1 + 1 + 1 + 1 := ⟨_, rfl⟩
  have hd : ga ≠ gh ∧ gb ≠ gh ∧ gc ≠ gh ∧ gd ≠ gh := by omega
  have hlt : g0 < gh ∧ g0 < ga ∧ g0 < gb ∧ g0 < gc ∧ g0 < gd := by omega
  refine calls_then (primes_any _) ?_
  rintro e wp ⟨P, pc, rfl, hown, hbel⟩
  have B0 := (((((((((((Blk.newAt (n := w.heap.size) (t := 103) (cs := zH) (by simp)).alloc _).alloc _).alloc _).alloc _).alloc _).alloc _).alloc _).alloc _).alloc _)).below hbel (by simp <;> omega)
  have Bh := ((((((Blk.newAt (n := w.heap.size + 1 + 1 + 1 + 1 + 1) (t := 103) (cs := #[.int .i64 32, .int .i64 64, .slice (some ⟨w.heap.size + 1 + 1 + 1 + 1 + 1 + 1, 0, none⟩) 3 3, .slice (some ⟨w.heap.size + 1 + 1 + 1 + 1 + 1 + 1 + 1, 0, none⟩) 3 3, .slice (some ⟨w.heap.size + 1 + 1 + 1 + 1 + 1 + 1 + 1 + 1, 0, none⟩) 3 3, .slice (some ⟨w.heap.size + 1 + 1 + 1 + 1 + 1 + 1 + 1 + 1 + 1, 0, none⟩) 3 3, .slice none 0 0, .slice none 0 0]) (by simp)).alloc _).alloc _).alloc _).alloc _)).below hbel (by simp <;> omega)
  have Ba := (((((Blk.newAt (n := w.heap.size + 1 + 1 + 1 + 1 + 1 + 1) (t := 3) (cs := (tri F32.s0).toArray) (by simp)).alloc _).alloc _).alloc _)).below hbel (by simp <;> omega)
  have Bb := ((((Blk.newAt (n := w.heap.size + 1 + 1 + 1 + 1 + 1 + 1 + 1) (t := 3) (cs := (tri F32.s1).toArray) (by simp)).alloc _).alloc _)).below hbel (by simp <;> omega)
  have Bc := (((Blk.newAt (n := w.heap.size + 1 + 1 + 1 + 1 + 1 + 1 + 1 + 1) (t := 3) (cs := (tri F32.t0).toArray) (by simp)).alloc _)).below hbel (by simp <;> omega)
  have Bd := ((Blk.newAt (n := w.heap.size + 1 + 1 + 1 + 1 + 1 + 1 + 1 + 1 + 1) (t := 3) (cs := (tri F32.t1).toArray) (by simp))).below hbel (by simp <;> omega)
  have hbl := (((((((((((below_new w _).alloc (by simp; try omega) _).alloc (by simp; try omega) _).alloc (by simp; try omega) _).alloc (by simp; try omega) _).alloc (by simp; try omega) _).alloc (by simp; try omega) _).alloc (by simp; try omega) _).alloc (by simp; try omega) _).alloc (by simp; try omega) _) : Below w.heap.size w _).trans (hbel.mono (by simp <;> omega))
  have hown' := hown.mono (show w.heap.size ≤ _ by simp <;> omega)
  rw [← hgd, ← hgc, ← hgb, ← hga, ← hgh] at Bh ⊢
  rw [← hg0] at B0 hbl hown' ⊢
  rw [← hga] at Ba
  rw [← hgb] at Bb
  rw [← hgc] at Bc
  rw [← hgd] at Bd
  obtain ⟨gp, rfl, hgp1, hgp2⟩ := hown'.ptr (by decide)
  have hpc := hown'.le_cap
  have hst0 : OfSt w ⟨g0, gh, ga, gb, gc, gd⟩ F32 zH (.slice (some ⟨gp, 0, none⟩) 80 pc) (csV 32 64 ga gb gc gd (.slice none 0 0) (.slice none 0 0)) (.slice none 0 0) ((kL F32).take 0) (.slice none 0 0) [] wp :=
    ⟨hbl, B0, Bh, Ba, Bb, Bc, Bd, hown', OwnX.nil _ _ _ _, OwnX.nil _ _ _ _, .inl rfl, hlt.1⟩
  have HD := Lib.hid hd
  have HLT := Lib.hid hlt
  have HG0 := Lib.hid hg0
  have HST0 := Lib.hid hst0
  clear B0 Bh Ba Bb Bc Bd hbl hown' hown hbel hd hlt hgp1 hgp2 hgh hga hgb hgc hgd hg0 hst0
  go_wp2_with fail
  go_loopw [5] (fun i wr => ∃ (n : Nat) (A : Option Addr) (c : Nat), n ≤ 64 ∧ i = .int .i64 n ∧ OfSt w ⟨g0, gh, ga, gb, gc, gd⟩ F32 zH (.slice (some ⟨gp, 0, none⟩) 80 pc) (csV 32 64 ga gb gc gd (.slice A n c) (.slice none 0 0)) (.slice A n c) ((kL F32).take n) (.slice none 0 0) [] wr) (fun i _ => 64 - (intOf i).toNat)
  case atStart => exact ⟨0, none, 0, by omega, rfl, HST0.out⟩
  case round =>
    clear HST0
    obtain ⟨n, A, c, hn, rfl, hst⟩ := hrel
    have d1 := hst.h.cell 1
    simp [csV, hC] at d1
    by_cases hnl : n < 64
    · have hnl' : (n : Int) < 64 := by omega
      obtain ⟨L, hL⟩ : ∃ L, L = (kL F32).take n := ⟨_, rfl⟩
      have hLl : L.length = n := by rw [hL, List.length_take, kL_length, show F32.many = 64 from rfl]; omega
      obtain ⟨pn, hpn⟩ : ∃ x, x = primes80.getD n 0 := ⟨_, rfl⟩
      have hpl : pn < 65536 := by rw [hpn]; exact prime_lt n (by omega)
      have hrt : rootN pn 3 = stepsN.getD n 0 := by rw [hpn]; exact rootN3 n (by omega)
      obtain ⟨rt, hrt2⟩ : ∃ x, x = rootN pn 3 := ⟨_, rfl⟩
      have hrl : rt < 18446744073709551616 := by rw [hrt2, rootN]; exact Nat.mod_lt _ (by decide)
      obtain ⟨kn, hkn⟩ : ∃ x, x = rt / 2 ^ (64 - 32) % 2 ^ 32 := ⟨_, rfl⟩
      have hnx : (kL F32).take (n + 1) = L ++ [kn] := by
        rw [hkn, hrt2, hrt, hL]
        exact kL_take F32 n hnl
      have ep : (wordsV .i64 primes80)[n]? = some (.int .i64 (pn : Int)) := by rw [hpn]; exact wordsV_at (show n < 80 by omega)
      rw [← hL] at hst
      have HL := Lib.hid hLl
      have HPL := Lib.hid hpl
      have HRT := Lib.hid hrt2
      have HRL := Lib.hid hrl
      have HKN := Lib.hid hkn
      have HNX := Lib.hid hnx
      have EP := Lib.hid ep
      have hn80 : n < 80 := by omega
      have HC0 := hst.drew
      have HST1 := Lib.hid hst
      clear hL hLl hpn hpl hrt hrt2 hrl hkn hnx ep hst
      go_wp2_with fail
      clear HST1 d1
      apply wp_region_seqp (fun u => OfSt w ⟨g0, gh, ga, gb, gc, gd⟩ F32 zH (.slice (some ⟨gp, 0, none⟩) 80 pc) (csV 32 64 ga gb gc gd (.slice A n c) (.slice none 0 0)) (.slice A n c) L (.slice none 0 0) [] u) (fun i => i == 0) (fun u u' => Below u.heap.size u u') [_, _, _, _, _, _, _, _, _, undef] (gOf [(9, fun v u => ∃ g9, v = .slice (some ⟨g9, 0, none⟩) 1 1 ∧ Blk u g9 108 [.int .u64 (kn : Int)].toArray)]) 10 (by kernel_rfl) (by kernel_rfl) (by decide) (by kernel_rfl) (fun i h => by simp only [beq_iff_eq] at h; subst h; rfl) (stabL_of _ ⟨(fun _ _ _ h h0 => by obtain ⟨g, e, hb⟩ := h0; exact ⟨g, e, hb.below h hb.lt⟩), trivial⟩) HC0
      simp only [List.take_succ_cons, List.take_zero, List.drop_succ_cons, List.drop_zero]
      iterate 1
        first
        | (apply SeqH.pure; rfl; rfl; rfl; rfl; (simp only [act_put, act_put_none, List.setIfInBounds_toArray, List.set_cons_zero, List.set_cons_succ]; rfl); (intro w1 E hE; go_wp2; exact .mk hE))
        | (apply SeqH.step; rfl; (first | (apply SeqG.next; rfl; rfl; rfl)); (simp only [act_put, act_put_none, List.setIfInBounds_toArray, List.set_cons_zero, List.set_cons_succ]; rfl); (intro w1 hC1 hf E hE; go_wp2; exact .mk (hE _ hC1 (Below.refl _ _))); refine SeqG.nil ?_)
      apply SeqH.step
      · rfl
      apply SeqG.next
      · rfl
      · rfl
      · rfl
      · simp only [act_put, act_put_none, List.setIfInBounds_toArray, List.set_cons_zero, List.set_cons_succ]
        rfl
      · intro w1 hC1 hf E hE
        have d0 := hC1.h.cell 6
        simp [csV, hC] at d0
        go_wp2
        exact .mk (hE _ hC1 (Below.refl _ _))
      refine SeqG.nil ?_
      apply SeqH.step
      · rfl
      apply SeqG.next
      · rfl
      · rfl
      · rfl
      · simp only [act_put, act_put_none, List.setIfInBounds_toArray, List.set_cons_zero, List.set_cons_succ]
        rfl
      · intro w1 hC1 hf E hE
        refine wpList_get_box hC1.h rfl rfl rfl hu rfl h_size ?_
        go_wp2_with fail
        exact .mk (hE _ hC1 (Below.refl _ _))
      refine SeqG.nil ?_
      iterate 3
        (apply SeqH.step; rfl; (first | (apply SeqG.next; rfl; rfl; rfl)); (simp only [act_put, act_put_none, List.setIfInBounds_toArray, List.set_cons_zero, List.set_cons_succ]; rfl); (intro w1 hC1 hf E hE; go_wp2; exact .mk (hE _ hC1 (Below.refl _ _))); refine SeqG.nil ?_)
      apply SeqH.step
      · rfl
      apply SeqG.next
      · rfl
      · rfl
      · rfl
      · simp only [act_put, act_put_none, List.setIfInBounds_toArray, List.set_cons_zero, List.set_cons_succ]
        rfl
      · intro w1 hC1 hf E hE
        have d0 := hC1.p.atN EP.out
        go_wp2
        exact .mk (hE _ hC1 (Below.refl _ _))
      refine SeqG.nil ?_
      apply SeqH.step
      · rfl
      apply SeqG.next
      · rfl
      · rfl
      · rfl
      · simp only [act_put, act_put_none, List.setIfInBounds_toArray, List.set_cons_zero, List.set_cons_succ]
        rfl
      · intro w1 hC1 hf E hE
        go_wp2_with fail
        refine calls_then (root3_any pn _ HPL.out) ?_
        rintro e w2 ⟨rfl, hb2⟩
        rw [← HRT.out]
        go_wp2_with fail
        exact .mk (hE _ (hC1.next hb2) hb2)
      refine SeqG.nil ?_
      apply SeqH.step
      · rfl
      apply SeqG.next
      · rfl
      · rfl
      · rfl
      · simp only [act_put, act_put_none, List.setIfInBounds_toArray, List.set_cons_zero, List.set_cons_succ]
        rfl
      · intro w1 hC1 hf E hE
        go_wp2_with fail
        refine calls_then (top_any 32 64 _ _ _ _ _ _ _ (.inl rfl) rt HRL.out) ?_
        rintro e w2 ⟨rfl, hb2⟩
        rw [← HKN.out]
        go_wp2_with fail
        exact .mk (hE _ (hC1.next hb2) hb2)
      refine SeqG.nil ?_
      apply SeqH.step
      · rfl
      apply SeqG.some
      · rfl
      · rfl
      · intro w1 hC1 hf E hE
        simp only [act_put, act_put_none, List.setIfInBounds_toArray, List.set_cons_zero, List.set_cons_succ] at hE
        go_wp2
        exact .mk (hE _ _ ⟨_, rfl, Blk.new _ _ _⟩ (hC1.next (below_new _ _)) (below_new _ _))
      intro x9
      simp only [act_put, act_put_none, List.setIfInBounds_toArray, List.set_cons_zero, List.set_cons_succ]
      refine SeqG.nil ?_
      refine SeqH.nil ?_
      intro w1 hC1 hf
      have f9 := (hf 9 (of_decide_eq_true (by kernel_rfl))).1 rfl
      clear hf
      refine SeqT.step rfl ?_
      intro E hE
      simp only [act_put, act_put_none, List.setIfInBounds_toArray, List.set_cons_zero, List.set_cons_succ] at hE
      obtain ⟨g9, hx9, hb9⟩ := f9
      simp only [hx9] at hE ⊢
      refine wpList_append_rd (m := 1) sl_u64 rfl rfl (show OwnX w1 g0 108 1 (.slice A n c) n (wordsV .u64 L) by have := hC1.k; rwa [HL.out] at this) rfl rfl rfl (Rd.of_blk hb9 hb9.lt) (by intro u hu; simp at hu; subst hu; rfl) (by unfold maxLen; omega) (by omega) (by have := hC1.res.lt; dsimp only at this; omega) ?_
      intro A6 c6 w6 hown6 hg6 hn6
      have hap := hC1.appK (v' := .slice A6 (n + 1) c6) (x := kn) (by rw [HL.out]; exact hown6) hg6 (rfl)
      have HAP := Lib.hid hap
      clear hap hown6 hg6 hn6
      go_wp2_with fail
      refine .mk (hE _ _ ?_)
      clear hE E
      refine SeqT.step rfl ?_
      intro E hE
      simp only [act_put, act_put_none, List.setIfInBounds_toArray, List.set_cons_zero, List.set_cons_succ] at hE
      go_wp2
      refine .mk (hE _ _ ?_)
      clear hE E
      refine SeqT.step rfl ?_
      intro E hE
      simp only [act_put, act_put_none, List.setIfInBounds_toArray, List.set_cons_zero, List.set_cons_succ] at hE
      refine wpList_put_cell (i := 6) (v := .slice A6 (n + 1) c6) HAP.out.h rfl rfl rfl rfl slu_size (show 6 < 8 by decide) rfl ?_
      intro w7 hb7 hw7
      have HFIN := Lib.hid (HAP.out.put hw7 hb7 HD.out)
      clear hb7 hw7
      go_wp2_with fail
      refine .mk (hE undef _ ?_)
      clear hE E
      refine SeqT.nil ?_
      clear HC0 HAP hC1
      go_wp2_with fail
      refine ⟨⟨n + 1, A6, c6, by omega, by go_num, ?_⟩, by simp [intOf]; omega⟩
      rw [HNX.out]
      exact HFIN.out
    · obtain rfl : n = 64 := by omega
      rw [List.take_of_length_le (by rw [kL_length]; exact Nat.le_refl _)] at hst
      obtain ⟨gk, rfl, hk1, hk2⟩ := (show OwnX wr g0 108 1 (.slice A 64 c) 64 (wordsV .u64 (kL F32)) by have := hst.k; rwa [kL_length] at this).ptr (by decide)
      have hck : 64 ≤ c := by
        have ho : OwnX wr g0 108 1 (.slice (some ⟨gk, 0, none⟩) 64 c) 64 (wordsV .u64 (kL F32)) := by have := hst.k; rwa [kL_length] at this
        exact ho.le_cap
      have hst1 : OfSt w ⟨g0, gh, ga, gb, gc, gd⟩ F32 zH (.slice (some ⟨gp, 0, none⟩) 80 pc) (csV 32 64 ga gb gc gd (.slice (some ⟨gk, 0, none⟩) 64 c) (.slice none 0 0)) (.slice (some ⟨gk, 0, none⟩) 64 c) (kL F32) (.slice none 0 0) ((s8L (startS F32)).take 0) wr := hst
      have HST0 := Lib.hid hst1
      have HK1 := Lib.hid hk1
      clear hst hst1 hk1 hk2
      obtain ⟨ck, rfl⟩ : ∃ ck, ck = c := ⟨_, rfl⟩
      go_wp2_with fail
      clear d1
      obtain ⟨wo, rfl⟩ : ∃ wo : World, wo = wr := ⟨_, rfl⟩
      go_loopw [6] (fun i wr => ∃ (n : Nat) (A : Option Addr) (c : Nat), n ≤ 8 ∧ i = .int .i64 n ∧ OfSt w ⟨g0, gh, ga, gb, gc, gd⟩ F32 zH (.slice (some ⟨gp, 0, none⟩) 80 pc) (csV 32 64 ga gb gc gd (.slice (some ⟨gk, 0, none⟩) 64 ck) (.slice A n c)) (.slice (some ⟨gk, 0, none⟩) 64 ck) (kL F32) (.slice A n c) ((s8L (startS F32)).take n) wr) (fun i _ => 8 - (intOf i).toNat)
      case atStart => exact ⟨0, none, 0, by omega, rfl, HST0.out⟩
      case round =>
        clear HST0
        obtain ⟨n, A, c, hn, rfl, hst⟩ := hrel
        by_cases hnl : n < 8
        · have hnl' : (n : Int) < 8 := by omega
          obtain ⟨L, hL⟩ : ∃ L, L = (s8L (startS F32)).take n := ⟨_, rfl⟩
          have hLl : L.length = n := by rw [hL, List.length_take, show (s8L (startS F32)).length = 8 from rfl]; omega
          obtain ⟨pn, hpn⟩ : ∃ x, x = primes80.getD n 0 := ⟨_, rfl⟩
          have hpl : pn < 65536 := by rw [hpn]; exact prime_lt n (by omega)
          have hrt : rootN pn 2 = firstN.getD n 0 := by rw [hpn]; exact rootN2 n hnl
          obtain ⟨rt, hrt2⟩ : ∃ x, x = rootN pn 2 := ⟨_, rfl⟩
          have hrl : rt < 18446744073709551616 := by rw [hrt2, rootN]; exact Nat.mod_lt _ (by decide)
          obtain ⟨kn, hkn⟩ : ∃ x, x = rt / 2 ^ (64 - 32) % 2 ^ 32 := ⟨_, rfl⟩
          have hnx : (s8L (startS F32)).take (n + 1) = L ++ [kn] := by
            rw [hkn, hrt2, hrt, hL]
            exact start_take F32 n hnl
          have ep : (wordsV .i64 primes80)[n]? = some (.int .i64 (pn : Int)) := by rw [hpn]; exact wordsV_at (show n < 80 by omega)
          rw [← hL] at hst
          have HL := Lib.hid hLl
          have HPL := Lib.hid hpl
          have HRT := Lib.hid hrt2
          have HRL := Lib.hid hrl
          have HKN := Lib.hid hkn
          have HNX := Lib.hid hnx
          have EP := Lib.hid ep
          have hn80 : n < 80 := by omega
          have HC0 := hst.drew
          have HST1 := Lib.hid hst
          clear hL hLl hpn hpl hrt hrt2 hrl hkn hnx ep hst
          go_wp2_with fail
          clear HST1
          apply wp_region_seqp (fun u => OfSt w ⟨g0, gh, ga, gb, gc, gd⟩ F32 zH (.slice (some ⟨gp, 0, none⟩) 80 pc) (csV 32 64 ga gb gc gd (.slice (some ⟨gk, 0, none⟩) 64 ck) (.slice A n c)) (.slice (some ⟨gk, 0, none⟩) 64 ck) (kL F32) (.slice A n c) L u) (fun i => i == 0) (fun u u' => Below u.heap.size u u') [_, _, _, _, _, _, _, _, _, undef] (gOf [(9, fun v u => ∃ g9, v = .slice (some ⟨g9, 0, none⟩) 1 1 ∧ Blk u g9 108 [.int .u64 (kn : Int)].toArray)]) 10 (by kernel_rfl) (by kernel_rfl) (by decide) (by kernel_rfl) (fun i h => by simp only [beq_iff_eq] at h; subst h; rfl) (stabL_of _ ⟨(fun _ _ _ h h0 => by obtain ⟨g, e, hb⟩ := h0; exact ⟨g, e, hb.below h hb.lt⟩), trivial⟩) HC0
          simp only [List.take_succ_cons, List.take_zero, List.drop_succ_cons, List.drop_zero]
          iterate 1
            first
            | (apply SeqH.pure; rfl; rfl; rfl; rfl; (simp only [act_put, act_put_none, List.setIfInBounds_toArray, List.set_cons_zero, List.set_cons_succ]; rfl); (intro w1 E hE; go_wp2; exact .mk hE))
            | (apply SeqH.step; rfl; (first | (apply SeqG.next; rfl; rfl; rfl)); (simp only [act_put, act_put_none, List.setIfInBounds_toArray, List.set_cons_zero, List.set_cons_succ]; rfl); (intro w1 hC1 hf E hE; go_wp2; exact .mk (hE _ hC1 (Below.refl _ _))); refine SeqG.nil ?_)
          apply SeqH.step
          · rfl
          apply SeqG.next
          · rfl
          · rfl
          · rfl
          · simp only [act_put, act_put_none, List.setIfInBounds_toArray, List.set_cons_zero, List.set_cons_succ]
            rfl
          · intro w1 hC1 hf E hE
            have d0 := hC1.h.cell 7
            simp [csV, hC] at d0
            go_wp2
            exact .mk (hE _ hC1 (Below.refl _ _))
          refine SeqG.nil ?_
          apply SeqH.step
          · rfl
          apply SeqG.next
          · rfl
          · rfl
          · rfl
          · simp only [act_put, act_put_none, List.setIfInBounds_toArray, List.set_cons_zero, List.set_cons_succ]
            rfl
          · intro w1 hC1 hf E hE
            refine wpList_get_box hC1.h rfl rfl rfl hu rfl h_size ?_
            go_wp2_with fail
            exact .mk (hE _ hC1 (Below.refl _ _))
          refine SeqG.nil ?_
          iterate 3
            (apply SeqH.step; rfl; (first | (apply SeqG.next; rfl; rfl; rfl)); (simp only [act_put, act_put_none, List.setIfInBounds_toArray, List.set_cons_zero, List.set_cons_succ]; rfl); (intro w1 hC1 hf E hE; go_wp2; exact .mk (hE _ hC1 (Below.refl _ _))); refine SeqG.nil ?_)
          apply SeqH.step
          · rfl
          apply SeqG.next
          · rfl
          · rfl
          · rfl
          · simp only [act_put, act_put_none, List.setIfInBounds_toArray, List.set_cons_zero, List.set_cons_succ]
            rfl
          · intro w1 hC1 hf E hE
            have d0 := hC1.p.atN EP.out
            go_wp2
            exact .mk (hE _ hC1 (Below.refl _ _))
          refine SeqG.nil ?_
          apply SeqH.step
          · rfl
          apply SeqG.next
          · rfl
          · rfl
          · rfl
          · simp only [act_put, act_put_none, List.setIfInBounds_toArray, List.set_cons_zero, List.set_cons_succ]
            rfl
          · intro w1 hC1 hf E hE
            go_wp2_with fail
            refine calls_then (root2_any pn _ HPL.out) ?_
            rintro e w2 ⟨rfl, hb2⟩
            rw [← HRT.out]
            go_wp2_with fail
            exact .mk (hE _ (hC1.next hb2) hb2)
          refine SeqG.nil ?_
          apply SeqH.step
          · rfl
          apply SeqG.next
          · rfl
          · rfl
          · rfl
          · simp only [act_put, act_put_none, List.setIfInBounds_toArray, List.set_cons_zero, List.set_cons_succ]
            rfl
          · intro w1 hC1 hf E hE
            go_wp2_with fail
            refine calls_then (top_any 32 64 _ _ _ _ _ _ _ (.inl rfl) rt HRL.out) ?_
            rintro e w2 ⟨rfl, hb2⟩
            rw [← HKN.out]
            go_wp2_with fail
            exact .mk (hE _ (hC1.next hb2) hb2)
          refine SeqG.nil ?_
          apply SeqH.step
          · rfl
          apply SeqG.some
          · rfl
          · rfl
          · intro w1 hC1 hf E hE
            simp only [act_put, act_put_none, List.setIfInBounds_toArray, List.set_cons_zero, List.set_cons_succ] at hE
            go_wp2
            exact .mk (hE _ _ ⟨_, rfl, Blk.new _ _ _⟩ (hC1.next (below_new _ _)) (below_new _ _))
          intro x9
          simp only [act_put, act_put_none, List.setIfInBounds_toArray, List.set_cons_zero, List.set_cons_succ]
          refine SeqG.nil ?_
          refine SeqH.nil ?_
          intro w1 hC1 hf
          have f9 := (hf 9 (of_decide_eq_true (by kernel_rfl))).1 rfl
          clear hf
          refine SeqT.step rfl ?_
          intro E hE
          simp only [act_put, act_put_none, List.setIfInBounds_toArray, List.set_cons_zero, List.set_cons_succ] at hE
          obtain ⟨g9, hx9, hb9⟩ := f9
          simp only [hx9] at hE ⊢
          refine wpList_append_rd (m := 1) sl_u64 rfl rfl (show OwnX w1 g0 108 1 (.slice A n c) n (wordsV .u64 L) by have := hC1.f; rwa [HL.out] at this) rfl rfl rfl (Rd.of_blk hb9 hb9.lt) (by intro u hu; simp at hu; subst hu; rfl) (by unfold maxLen; omega) (by omega) (by have := hC1.res.lt; dsimp only at this; omega) ?_
          intro A6 c6 w6 hown6 hg6 hn6
          have hap := hC1.appF (v' := .slice A6 (n + 1) c6) (x := kn) (by rw [HL.out]; exact hown6) hg6 (hn6)
          have HAP := Lib.hid hap
          clear hap hown6 hg6 hn6
          go_wp2_with fail
          refine .mk (hE _ _ ?_)
          clear hE E
          refine SeqT.step rfl ?_
          intro E hE
          simp only [act_put, act_put_none, List.setIfInBounds_toArray, List.set_cons_zero, List.set_cons_succ] at hE
          go_wp2
          refine .mk (hE _ _ ?_)
          clear hE E
          refine SeqT.step rfl ?_
          intro E hE
          simp only [act_put, act_put_none, List.setIfInBounds_toArray, List.set_cons_zero, List.set_cons_succ] at hE
          refine wpList_put_cell (i := 7) (v := .slice A6 (n + 1) c6) HAP.out.h rfl rfl rfl rfl slu_size (show 7 < 8 by decide) rfl ?_
          intro w7 hb7 hw7
          have HFIN := Lib.hid (HAP.out.put hw7 hb7 HD.out)
          clear hb7 hw7
          go_wp2_with fail
          refine .mk (hE undef _ ?_)
          clear hE E
          refine SeqT.nil ?_
          clear HC0 HAP hC1
          go_wp2_with fail
          refine ⟨⟨n + 1, A6, c6, by omega, by go_num, ?_⟩, by simp [intOf]; omega⟩
          rw [HNX.out]
          exact HFIN.out
        · obtain rfl : n = 8 := by omega
          rw [show (s8L (startS F32)).take 8 = s8L (startS F32) from rfl] at hst
          obtain ⟨gz, rfl, hz1, hz2⟩ := (show OwnX wr g0 108 1 (.slice A 8 c) 8 (wordsV .u64 (s8L (startS F32))) from hst.f).ptr (by decide)
          have hcz : 8 ≤ c := (show OwnX wr g0 108 1 (.slice (some ⟨gz, 0, none⟩) 8 c) 8 (wordsV .u64 (s8L (startS F32))) from hst.f).le_cap
          have HST2 := Lib.hid hst
          clear hz1 hz2 hst
          go_wp2_with (first
            | (refine wpList_get_box (x := .tmp 3) HST2.out.h rfl rfl rfl hu rfl h_size ?_)
            | (refine wpList_put_box (x := .tmp 2) (cells := csV 32 64 ga gb gc gd (.slice (some ⟨gk, 0, none⟩) 64 ck) (.slice (some ⟨gz, 0, none⟩) 8 c)) HST2.out.res rfl rfl rfl rfl h_size rfl (by simp [csV, hC, Value.oneCell']) ?_; intro w5 hb5 hw5))
          refine bodyPost_ret (results_box (P := Try.prog) rfl rfl hb5 hu rfl h_size) rfl ?_
          have h2 := HST2.out
          have hdl := HLT.out
          refine ⟨⟨⟨ga, 0, none⟩, ⟨gb, 0, none⟩, ⟨gc, 0, none⟩, ⟨gd, 0, none⟩, ⟨gk, 0, none⟩, ⟨gz, 0, none⟩, 3, 3, 3, 3, ck, c⟩, rfl, ?_, ?_⟩
          · have k1 := hw5.blk h2.a (by dsimp only; omega)
            have k2 := hw5.blk h2.b (by dsimp only; omega)
            have k3 := hw5.blk h2.c (by dsimp only; omega)
            have k4 := hw5.blk h2.d (by dsimp only; omega)
            have k5 := hw5.own h2.k (own_ne_blk h2.k h2.res (by decide))
            have k6 := hw5.own h2.f (own_ne_blk h2.f h2.res (by decide))
            exact ⟨Rd.of_blk k1 k1.lt, Rd.of_blk k2 k2.lt, Rd.of_blk k3 k3.lt, Rd.of_blk k4 k4.lt, Rd.of_own (n := 64) (by rw [kL_length] at k5; exact k5) (Nat.le_refl _), Rd.of_own (n := 8) k6 (Nat.le_refl _), Nat.le_refl _, Nat.le_refl _, Nat.le_refl _, Nat.le_refl _, hck, hcz⟩
          · rw [← HG0.out]
            exact hw5.below h2.bel (Nat.le_refl _) (by have := h2.res.lt; dsimp only at this; omega)
end Go.Proofs.Ytcnebbhnpocofaa.Sh
/-
  Walk: the reference's digest of 32 bytes as it is called.
-/
namespace Go.Proofs.Ytcnebbhnpocofaa.Sh
set_option linter.unusedSimpArgs false
set_option linter.unusedVariables false
open Go.RowKit
set_option maxRecDepth 100000 in
theorem r256_any (data : List UInt8) (A : Option Addr) (c B : Nat) (w : World) (hr : Rd w B A (bytesV data)) (hB : B ≤ w.heap.size) (hl : data.length ≤ 1000) (hc : data.length ≤ c) :
    Calls Try.prog 49 #[.slice A data.length c] w (HSumPost F32 32 data w) := by
  have HR := Lib.hid hr
  have hu := Try.underlying103
  clear hr
  go_enter Try.func49, Try.ntmps49
  go_wp2_with fail
  refine calls_then (of32_any w) ?_
  rintro e w1 ⟨p, rfl, hok, hb1⟩
  have HOK := Lib.hid hok
  have HB1 := Lib.hid hb1
  clear hok hb1
  go_wp2_with (first
    | (refine wpList_put_box (x := .tmp 3) (cells := hv F32 p) (Blk.new w1 103 zH) rfl rfl rfl rfl h_size rfl (by simp [hv, hC, Value.oneCell']) ?_; intro w2 hb2 hw2; have HB2 := Lib.hid hb2; have HW2 := Lib.hid hw2; clear hb2 hw2)
    | (refine wpList_get_box (x := .tmp 3) HB2.out rfl rfl rfl hu rfl h_size ?_))
  have hbel : Below w1.heap.size w1 w2 := HW2.out.below (below_new _ _) (Nat.le_refl _) (by simp)
  have hsz : w1.heap.size + 1 = w2.heap.size := by rw [HW2.out.size]; simp
  refine calls_then (hsum32_any p data A c w1.heap.size w2 (HOK.out.below hbel) (((HR.out.mono hB).below HB1.out).mono HB1.out.size |>.below hbel) (by omega) hl hc) ?_
  rintro e w3 ⟨A3, c3, rfl, ho3, hb3⟩
  have HO3 := Lib.hid ho3
  have HB3 := Lib.hid hb3
  have HBEL := Lib.hid hbel
  have HSZ := Lib.hid hsz
  clear ho3 hb3 hbel hsz
  go_wp2_with fail
  go_ret
  exact ⟨A3, c3, rfl, HO3.out.mono (by have := HB1.out.size; have := HSZ.out; omega), HB1.out.trans ((HBEL.out.mono HB1.out.size).trans (HB3.out.mono (by have := HB1.out.size; have := HSZ.out; omega)))⟩
end Go.Proofs.Ytcnebbhnpocofaa.Sh
/-
  Walk: the reference's Name.
-/
namespace Go.Proofs.Ytcnebbhnpocofaa
set_option linter.unusedSimpArgs false
set_option linter.unusedVariables false
open Go.RowKit
theorem hexA_cut (n : Nat) (h : n < 16) : (⟨#[48, 49, 50, 51, 52, 53, 54, 55, 56, 57, 97, 98, 99, 100, 101, 102]⟩ : ByteArray).extract n (n + 1) = ⟨#[UInt8.ofNat (hexD n)]⟩ := by
  have : n = 0 ∨ n = 1 ∨ n = 2 ∨ n = 3 ∨ n = 4 ∨ n = 5 ∨ n = 6 ∨ n = 7 ∨ n = 8 ∨ n = 9 ∨ n = 10 ∨ n = 11 ∨ n = 12 ∨ n = 13 ∨ n = 14 ∨ n = 15 := by omega
  rcases this with h | h | h | h | h | h | h | h | h | h | h | h | h | h | h | h <;> subst h <;> decide
theorem name_snoc (L : List UInt8) (a b : UInt8) : (⟨L.toArray⟩ : ByteArray) ++ ⟨#[a]⟩ ++ ⟨#[b]⟩ = ⟨(L ++ [a, b]).toArray⟩ := by
  apply ByteArray.ext
  rw [ByteArray.data_append, ByteArray.data_append]
  simp
set_option maxRecDepth 100000 in
set_option maxHeartbeats 4000000 in
theorem rname_any (data : List UInt8) (hl : data.length ≤ 1000) (A : Option Addr) (c : Nat) (w : World) (hr : Rd w w.heap.size A (bytesV data)) (hc : data.length ≤ c) (hH32 : (Sh.digS Sh.F32 data).length = 32) :
    Calls Try.prog 33 #[.slice A data.length c] w (fun e w' => e = .returned (.string (nameS data)) ∧ Below w.heap.size w w') := by
  have HS := Lib.hid (Sh.r256_any data A c w.heap.size w hr (Nat.le_refl _) hl hc)
  obtain ⟨n, hn⟩ : ∃ n, n = data.length := ⟨_, rfl⟩
  rw [← hn] at HS ⊢
  clear hr hl hc hn
  obtain ⟨H, hH⟩ : ∃ H, H = Sh.digS Sh.F32 data := ⟨_, rfl⟩
  rw [← hH] at hH32
  have HH := Lib.hid hH
  have HLH := Lib.hid hH32
  clear hH32
  go_enter Try.func33, Try.ntmps33
  go_wp2_with fail
  refine calls_then HS.out ?_
  rintro e u1 ⟨A1, c1, rfl, ho, hb1⟩
  rw [← hH] at ho
  have HRD := Lib.hid (Rd.of_own ho (Nat.le_refl _))
  obtain ⟨ad0, hA1, -, -⟩ := HRD.out.at_ (k := 0) (by rw [bytesV_length, HLH.out]; decide)
  have HB1 := Lib.hid hb1
  subst hA1
  clear hb1 ho hH HS
  go_wp2_with fail
  go_loopw [5, 6] (fun s i wr => ∃ (k : Nat), k ≤ 4 ∧ i = .int .i64 (k : Int) ∧ s = .string ⟨(nameK H k).toArray⟩ ∧ Below u1.heap.size u1 wr) (fun _ i _ => 4 - (intOf i).toNat)
  case atStart => exact ⟨0, by omega, rfl, rfl, Below.refl _ _⟩
  case round =>
    obtain ⟨k, hk, rfl, rfl, hbel⟩ := hrel
    by_cases hlt : k < 4
    · have hlt' : (k : Int) < 4 := by omega
      have hkH : k < H.length := by rw [HLH.out]; omega
      obtain ⟨ad', hA', -, hcell⟩ := (HRD.out.below hbel).at_ (k := k) (by rw [bytesV_length]; exact hkH)
      injection hA' with hA'
      subst hA'
      obtain ⟨x, hx⟩ : ∃ x, x = H[k].toNat := ⟨_, rfl⟩
      have hxl : x < 256 := by have := H[k].toNat_lt; omega
      have hbv : (bytesV H)[k]'(by rw [bytesV_length]; exact hkH) = .int .u8 (x : Int) := by
        rw [hx]; simp [bytesV, byteV]
      rw [hbv] at hcell
      obtain ⟨L, hL⟩ : ∃ L, L = nameK H k := ⟨_, rfl⟩
      have HN := Lib.hid (show nameK H (k + 1) = L ++ hexB x by rw [nameK_succ hkH, ← hx, hL])
      have hLl : L.length = 2 * k := by rw [hL]; exact nameK_length (by omega)
      rw [← hL]
      have hd4 : decide ((k : Int) < 4) = true := by simp; omega
      obtain ⟨SL, hSL⟩ : ∃ s : ByteArray, s = ⟨L.toArray⟩ := ⟨_, rfl⟩
      rw [← hSL]
      clear hx hbv hL hkH
      go_wp2_with fail
      obtain ⟨a, ha⟩ : ∃ a, a = x / 16 := ⟨_, rfl⟩
      obtain ⟨b, hb⟩ : ∃ b, b = x % 16 := ⟨_, rfl⟩
      rw [show (x : Int) / 16 = (a : Int) by omega, show (x : Int) % 16 = (b : Int) by omega]
      have ha16 : a < 16 := by omega
      have hb16 : b < 16 := by omega
      have HA := Lib.hid ha
      have HB := Lib.hid hb
      have HX := Lib.hid hxl
      clear ha hb hxl
      go_quiet (fail)
      rw [hexA_cut a ha16, hexA_cut b hb16, name_snoc]
      go_wp2_with fail
      go_roundw
      case rel => exact ⟨k + 1, by omega, by go_num, by rw [HN.out, hexB, ← HA.out, ← HB.out], by first | exact hbel | exact hbel.drew | exact below_drewN' hbel _⟩
      case measure => simp [intOf]; omega
    · obtain rfl : k = 4 := by omega
      have HF := Lib.hid (HB1.out.trans (hbel.mono HB1.out.size))
      have hd4 : decide (((4 : Nat) : Int) < 4) = false := by decide
      clear hbel
      go_wp2_with fail
      go_ret
      exact ⟨by rw [nameS, ← HH.out]; rfl, HF.out⟩
end Go.Proofs.Ytcnebbhnpocofaa
/-
  Plain: JSON's texts: how they are read and written.
-/
namespace Go.Proofs.Ytcnebbhnpocofaa.Js
set_option linter.unusedVariables false
abbrev Bs := List UInt8
def bs (l : Bs) : ByteArray := ⟨l.toArray⟩
inductive JT where
  | mk (kind num : Int) (text : Bs) (names : List Bs) (kids : List JT)
theorem JT.ind {p : JT → Prop} (h : ∀ k n t ns ks, (∀ x ∈ ks, p x) → p (.mk k n t ns ks)) : ∀ j, p j
  | .mk k n t ns ks => h k n t ns ks (fun x _ => JT.ind h x)
def isBl (c : UInt8) : Bool := c == 32 || c == 9 || c == 10 || c == 13
def skip : Bs → Bs
  | [] => []
  | c :: r => if isBl c then skip r else c :: r
def look : Bs → UInt8
  | [] => 0
  | c :: _ => c
def low (c : UInt8) : UInt8 := if 65 ≤ c ∧ c ≤ 70 then c + 32 else c
def dg (k : Nat) : UInt8 := UInt8.ofNat (48 + k)
def digB : Nat → Nat → Bs
  | 0, _ => []
  | f + 1, n => if n < 10 then [dg n] else digB f (n / 10) ++ [dg (n % 10)]
-- lengths
end Go.Proofs.Ytcnebbhnpocofaa.Js
/-
  Plain: a JSON value, as it lies in memory.
-/
namespace Go.Proofs.Ytcnebbhnpocofaa.Js
set_option linter.unusedVariables false
open Go.RowKit
structure JV where
  k : Int
  n : Int
  t : Bs
  nA : Option Addr
  nn : Nat
  nc : Nat
  kA : Option Addr
  kn : Nat
  kc : Nat
def jvCells (v : JV) : Array Value := #[.int .i64 v.k, .int .i64 v.n, .string (bs v.t), .slice v.nA v.nn v.nc, .slice v.kA v.kn v.kc]
def sCell (s : Bs) : Array Value := #[.string (bs s)]
theorem bs_size (s : Bs) : (bs s).size = s.length := by simp [bs, ByteArray.size]
def RdS (w : World) (S : Nat → Prop) (A : Option Addr) (xs : List Value) : Prop := ∀ i u, xs[i]? = some u → ∃ ad, A = some ad ∧ S ad.block ∧ w.cell? (ad.add i) = some u
section
variable {w w' : World} {S S' : Nat → Prop} {A : Option Addr} {xs : List Value} {B : Nat}
theorem RdS.nil (w : World) (S : Nat → Prop) (A : Option Addr) : RdS w S A [] := fun i u hu => by simp at hu
theorem RdS.lt (h : RdS w S A xs) {i : Nat} {u : Value} (hu : xs[i]? = some u) : ∃ ad, A = some ad ∧ S ad.block ∧ ad.block < w.heap.size ∧ w.cell? (ad.add i) = some u := by
  obtain ⟨ad, h1, h2, h3⟩ := h i u hu
  refine ⟨ad, h1, h2, ?_, h3⟩
  have := World.block_lt_of_cell? w _ h3
  rwa [block_of_add] at this
theorem RdS.rd (h : RdS w S A xs) (hS : ∀ b, b < w.heap.size → S b → b < B) : Rd w B A xs := fun i u hu => by
  obtain ⟨ad, h1, h2, h3, h4⟩ := h.lt hu
  exact ⟨ad, h1, hS _ h3 h2, h4⟩
theorem RdS.imp (h : RdS w S A xs) (hS : ∀ b, b < w.heap.size → S b → S' b) : RdS w S' A xs := fun i u hu => by
  obtain ⟨ad, h1, h2, h3, h4⟩ := h.lt hu
  exact ⟨ad, h1, hS _ h3 h2, h4⟩
theorem RdS.heap (h : RdS w S A xs) (hk : ∀ b, b < w.heap.size → S b → w'.heap[b]? = w.heap[b]?) : RdS w' S A xs := fun i u hu => by
  obtain ⟨ad, h1, h2, h3, h4⟩ := h.lt hu
  refine ⟨ad, h1, h2, ?_⟩
  rw [← h4]
  exact World.cell?_of_block (w := w) (w' := w') (by rw [block_of_add]; exact hk _ h3 h2)
end
inductive JRep (w : World) (S : Nat → Prop) : JT → JV → Prop
  | mk (v : JV) (ns : List Bs) (ks : List JT) (kv : List JV) (hn : v.nn = ns.length) (hnc : v.nn ≤ v.nc) (hnr : RdS w S v.nA (rowsV sCell ns)) (hk : v.kn = ks.length) (hkc : v.kn ≤ v.kc) (hkv : kv.length = ks.length)
      (hkr : RdS w S v.kA (rowsV jvCells kv)) (hkids : ∀ i (h : i < ks.length) (h' : i < kv.length), JRep w S ks[i] kv[i]) : JRep w S (.mk v.k v.n v.t ns ks) v
section
variable {w w' : World} {S S' : Nat → Prop} {j : JT} {v : JV}
theorem JRep.imp (h : JRep w S j v) (hS : ∀ b, b < w.heap.size → S b → S' b) : JRep w S' j v := by
  induction h with
  | mk v ns ks kv hn hnc hnr hk hkc hkv hkr hkids ih => exact .mk v ns ks kv hn hnc (hnr.imp hS) hk hkc hkv (hkr.imp hS) ih
theorem JRep.heap (h : JRep w S j v) (hk : ∀ b, b < w.heap.size → S b → w'.heap[b]? = w.heap[b]?) : JRep w' S j v := by
  induction h with
  | mk v ns ks kv hn hnc hnr hk' hkc hkv hkr hkids ih => exact .mk v ns ks kv hn hnc (hnr.heap hk) hk' hkc hkv (hkr.heap hk) ih
theorem JRep.grown {g : Option Nat} (h : JRep w S j v) (hg : w.grownBy w' g) (hS : ∀ b, S b → some b ≠ g) : JRep w' S j v := h.heap fun b hlt hs => hg.block b hlt (hS b hs)
end
end Go.Proofs.Ytcnebbhnpocofaa.Js
/-
  Walks: json's texts: which bytes may be; whether a text is in a list.
-/
namespace Go.Proofs.Ytcnebbhnpocofaa.Js
set_option linter.unusedSimpArgs false
set_option linter.unusedVariables false
open Go.RowKit
theorem decodeN_big (n b0 b1 b2 b3 : Nat) (h : 128 ≤ b0) : 126 < (Lib.decodeN n b0 b1 b2 b3).1 := by
  unfold Lib.decodeN
  rw [if_neg (by omega)]
  repeat' split
  all_goals first | (show 126 < 65533; decide) | (show 126 < _; omega)
theorem decode_big {s : ByteArray} {pos : Nat} (h : pos < s.size) (hb : 126 < (s[pos]'h).toNat) : 126 < (Utf8.decode s pos).1 := by
  by_cases h8 : (s[pos]'h).toNat < 128
  · rw [decode_ascii s pos h h8]
    exact hb
  · rw [Lib.decode_at]
    have : (s.get! pos).toNat = (s[pos]'h).toNat := by
      cases s with
      | mk d => exact congrArg UInt8.toNat (getElem!_pos d pos h)
    have h2 := decodeN_big (s.size - pos) (s.get! pos).toNat (s.get! (pos + 1)).toNat (s.get! (pos + 2)).toNat (s.get! (pos + 3)).toNat (by rw [this]; omega)
    exact h2
theorem bs_toList (a : Bs) : (bs a).toList = a := by
  rw [Lib.toList_data]
  rfl
theorem idx_any (l : List Bs) (s : Bs) (A : Option Addr) (c B : Nat) (w : World) (hr : Rd w B A (rowsV sCell l)) (hl : l.length ≤ 1099511627776) :
    Calls Try.prog 35 #[.slice A l.length c, .string (bs s)] w fun e w' => (∃ k : Int, e = .returned (.int .i64 k) ∧ decide (0 ≤ k) = decide (s ∈ l)) ∧ w' = w := by
  obtain ⟨n, hn⟩ : ∃ n, n = l.length := ⟨_, rfl⟩
  have HN := Lib.hid hn
  have HR := Lib.hid hr
  have HL := Lib.hid (show (n : Int) ≤ 1099511627776 by omega)
  rw [← hn]
  clear hr hl hn
  go_enter Try.func35, Try.ntmps35
  go_wp2_with fail
  go_loop [8] (fun x => ∃ i : Nat, i ≤ n ∧ x = .int .i64 (i : Int) ∧ s ∉ l.take i) (fun x => n - (intOf x).toNat)
  case atStart => exact ⟨0, by omega, rfl, by simp⟩
  case round =>
    obtain ⟨i, hi, rfl, hok⟩ := hrel
    have HOK := Lib.hid hok
    clear hok
    by_cases hlt : i < n
    · have hil : i < l.length := by rw [← HN.out]; exact hlt
      have hlt' : (i : Int) < (n : Int) := by omega
      obtain ⟨ad, hA, hadb, hcell⟩ := rd_rows (f := sCell) (m := 1) (fun _ => rfl) (by decide) HR.out hil
      subst hA
      obtain ⟨X, hX⟩ : ∃ X, X = l[i] := ⟨_, rfl⟩
      rw [← hX] at hcell
      have hc0 : w.cell? (ad.add i) = some (.string (bs X)) := by
        have h := hcell 0 _ rfl
        rw [Nat.mul_one] at h
        exact h
      have HST := Lib.hid (show s ≠ X → s ∉ l.take (i + 1) from fun h => by
        rw [List.take_succ_eq_append_getElem hil, ← hX, List.mem_append]
        rintro (h1 | h1)
        · exact HOK.out h1
        · exact h (by simpa using h1))
      have HMEM := Lib.hid (show X ∈ l by rw [hX]; exact List.getElem_mem hil)
      have HLT := Lib.hid hlt
      clear hX hcell hadb hil
      have hns := HL.out
      by_cases hq : s = X
      · subst hq
        clear HST
        go_wp2_with fail
        go_ret
        exact ⟨⟨_, rfl, by simp [HMEM.out]⟩, rfl⟩
      · have hq' : ((bs s).toList == (bs X).toList) = false := by rw [bs_toList, bs_toList]; simpa using hq
        have HQ := Lib.hid hq
        clear hq
        go_wp2_with fail
        exact ⟨⟨i + 1, HLT.out, by go_num, HST.out HQ.out⟩, by have := HLT.out; simp [intOf]; omega⟩
    · obtain rfl : i = n := by omega
      have HALL := Lib.hid (show s ∉ l by
        have := HOK.out
        rwa [HN.out, List.take_length] at this)
      go_wp2_with fail
      go_ret
      exact ⟨⟨_, rfl, by simp [HALL.out]⟩, rfl⟩
theorem has_any (l : List Bs) (s : Bs) (A : Option Addr) (c B : Nat) (w : World) (hr : Rd w B A (rowsV sCell l)) (hl : l.length ≤ 1099511627776) :
    Calls Try.prog 22 #[.slice A l.length c, .string (bs s)] w fun e w' => e = .returned (.bool (decide (s ∈ l))) ∧ w' = w := by
  have C := Lib.hid (idx_any l s A c B w hr hl)
  clear hr
  obtain ⟨b, hb⟩ : ∃ b, b = decide (s ∈ l) := ⟨_, rfl⟩
  rw [← hb] at C ⊢
  clear hl hb
  generalize l.length = n at *
  generalize bs s = t at *
  go_enter Try.func22, Try.ntmps22
  go_wp2_with fail
  refine calls_then C.out ?_
  rintro e w1 ⟨⟨k, rfl, hk⟩, rfl⟩
  have HK := Lib.hid hk
  clear hk
  go_wp2_with fail
  go_ret
  exact ⟨by rw [← HK.out]; rfl, rfl⟩
end Go.Proofs.Ytcnebbhnpocofaa.Js
/-
  Plain: JSON's texts: the reference's Is; texts that end where they are too long.
-/
namespace Go.Proofs.Ytcnebbhnpocofaa.Js
set_option linter.unusedVariables false
def Out (c x c' : Bs) : Prop := c.length ≤ c'.length ∧ c'.length ≤ c.length + x.length ∧ (c' = c ++ x ∨ (2000 < c'.length ∧ 2000 < (c ++ x).length))
theorem Out.refl (c : Bs) : Out c [] c := ⟨Nat.le_refl _, by simp, .inl (by simp)⟩
theorem Out.all (c x : Bs) : Out c x (c ++ x) := ⟨by simp, by simp, .inl rfl⟩
theorem Out.trans {c x c' y c'' : Bs} (h : Out c x c') (h' : Out c' y c'') : Out c (x ++ y) c'' := by
  obtain ⟨l1, m1, h1⟩ := h
  obtain ⟨l2, m2, h2⟩ := h'
  refine ⟨Nat.le_trans l1 l2, by simp; omega, ?_⟩
  rcases h1 with rfl | ⟨a, b⟩
  · rcases h2 with rfl | ⟨a2, b2⟩
    · exact .inl (by simp)
    · exact .inr ⟨a2, by simpa [Nat.add_assoc] using b2⟩
  · exact .inr ⟨by omega, by simp at b ⊢; omega⟩
end Go.Proofs.Ytcnebbhnpocofaa.Js
/-
  Plain: bundles as JSON; bytes as letters.
-/
namespace Go.Proofs.Ytcnebbhnpocofaa.Js
set_option linter.unusedSimpArgs false
set_option linter.unusedVariables false
-- letters
def b64A : Bs := [65, 66, 67, 68, 69, 70, 71, 72, 73, 74, 75, 76, 77, 78, 79, 80, 81, 82, 83, 84, 85, 86, 87, 88, 89, 90, 97, 98, 99, 100, 101, 102, 103, 104, 105, 106, 107, 108, 109, 110, 111, 112, 113, 114, 115, 116, 117, 118, 119, 120, 121, 122, 48, 49, 50, 51, 52, 53, 54, 55, 56, 57, 45, 95]
def ltr (k : Nat) : UInt8 := b64A.getD k 0
def encS : Nat → Nat → Bs → Bs
  | n, w, [] => if n = 0 then [] else [ltr (w * 2 ^ (6 - n))]
  | n, w, c :: r => if n + 2 < 6 then ltr ((w * 256 + c.toNat) / 2 ^ (n + 2)) :: encS (n + 2) ((w * 256 + c.toNat) % 2 ^ (n + 2)) r
    else ltr ((w * 256 + c.toNat) / 2 ^ (n + 2)) :: ltr ((w * 256 + c.toNat) % 2 ^ (n + 2) / 2 ^ (n - 4)) :: encS (n - 4) ((w * 256 + c.toNat) % 2 ^ (n + 2) % 2 ^ (n - 4)) r
def enc (b : Bs) : Bs := encS 0 0 b
-- bundles
end Go.Proofs.Ytcnebbhnpocofaa.Js
/-
  Walks: jwk.Find.
-/
namespace Go.Proofs.Ytcnebbhnpocofaa.Js
set_option linter.unusedSimpArgs false
set_option linter.unusedVariables false
open Go.RowKit
def kCell (k : Bs × Bs) : Array Value := #[.string (bs k.1), .string (bs k.2)]
theorem kCell_one (k : Bs × Bs) : (kCell k).all (·.oneCell') = true := by simp [kCell, Value.oneCell']
theorem jk_size : (Try.prog.info? 76).map (·.size) = some 2 := by kernel_rfl
end Go.Proofs.Ytcnebbhnpocofaa.Js
/-
  Walks: ids: which texts are domains.
-/
namespace Go.Proofs.Ytcnebbhnpocofaa.Js
set_option linter.unusedSimpArgs false
set_option linter.unusedVariables false
open Go.RowKit
def smallZ (z : Int) : Bool := decide (97 ≤ z) && decide (z ≤ 122)
def digitZ (z : Int) : Bool := decide (48 ≤ z) && decide (z ≤ 57)
def innerZ (z : Int) : Bool := smallZ z || digitZ z || z == 46 || z == 45
def innerC (c : UInt8) : Bool := innerZ ((c.toNat : Nat) : Int)
def allD (s : Bs) : Bool := s.all innerC && !s.isEmpty
def trimD (s : Bs) : Bs := Lib.trimS s [46, 45]
def domB (s : Bs) : Bool := decide (s.length ≤ 16) && (allD s && decide (trimD s = s))
end Go.Proofs.Ytcnebbhnpocofaa.Js
/-
  Walks: strings.Builder, as it lies in a block of some type.
-/
namespace Go.Proofs.Ytcnebbhnpocofaa
set_option linter.unusedSimpArgs false
set_option linter.unusedVariables false
open Go.RowKit
def SelfOk (p : Nat) (v : Value) : Prop := v = .pointer none ∨ v = .pointer (some ⟨p, 0, none⟩)
theorem Wrote.refl (g : Nat) (w : World) : Wrote g w w := ⟨World.grownBy.refl _ _, rfl⟩
def IsB (w : World) (B : Nat) (T : TypeId) (p : Nat) (l : List UInt8) : Prop :=
  B ≤ p ∧ ∃ self A c, SelfOk p self ∧ Blk w p T #[self, .slice A l.length c] ∧ OwnX w B 5 1 (.slice A l.length c) l.length (bytesV l)
theorem IsB.lt {w : World} {B : Nat} {T : TypeId} {p : Nat} {l : List UInt8} (h : IsB w B T p l) : B ≤ p ∧ p < w.heap.size := by
  obtain ⟨h1, _, _, _, _, h2, _⟩ := h
  exact ⟨h1, h2.lt⟩
theorem IsB.below {w w' : World} {B : Nat} {T : TypeId} {p : Nat} {l : List UInt8} (h : IsB w B T p l) (hb : Below w.heap.size w w') : IsB w' B T p l := by
  obtain ⟨h1, self, A, c, h2, h3, h4⟩ := h
  exact ⟨h1, self, A, c, h2, h3.below hb h3.lt, h4.below hb (Nat.le_refl _)⟩
theorem IsB.new (w : World) (T : TypeId) {B : Nat} (hB : B ≤ w.heap.size) : IsB (w.alloc (.cells #[.pointer none, .slice none 0 0] T)) B T w.heap.size [] :=
  ⟨hB, _, none, 0, .inl rfl, Blk.new _ _ _, OwnX.nil _ _ _ _⟩
structure BK (B p : Nat) (w w' : World) : Prop where
  below : Below B w w'
  size : w.heap.size ≤ w'.heap.size
  keep : ∀ (k : Nat) (cs : Array Value) (t : TypeId) (fz : Nat × Nat), k ≠ p → t ≠ 5 → w.heap[k]? = some (Obj.cells cs t fz) → w'.heap[k]? = some (Obj.cells cs t fz)
section
variable {B p : Nat} {w w1 w2 w' : World}
theorem BK.refl (B p : Nat) (w : World) : BK B p w w := ⟨Below.refl _ _, Nat.le_refl _, fun _ _ _ _ _ _ h => h⟩
theorem BK.trans (h : BK B p w w1) (h' : BK B p w1 w2) : BK B p w w2 := ⟨h.below.trans h'.below, Nat.le_trans h.size h'.size, fun k cs t fz h1 h2 h3 => h'.keep k cs t fz h1 h2 (h.keep k cs t fz h1 h2 h3)⟩
theorem BK.drew (h : BK B p w w1) : BK B p w w1.drew := ⟨h.below.drew, h.size, h.keep⟩
theorem BK.own {e s n : Nat} {v : Value} {xs : List Value} (ho : OwnX w B 5 s v n xs) (hg : w.grownBy w1 v.ownBlock) (hs : B ≤ w.heap.size) : BK B p w w1 :=
  ⟨(Below.refl B w).grown hg hs (fun k hk => (ho.lt k hk).1), hg.size, fun k cs t fz _ h2 h3 => (keepBut_of_grown ho hg).2 k cs t fz h2 h3⟩
theorem BK.fresh {g : Nat} (hg : w.grownBy w1 (some g)) (hs : w.heap.size ≤ g) (hB : B ≤ w.heap.size) : BK B p w w1 :=
  ⟨(Below.refl B w).grown hg hB (fun k hk => by injection hk with hk; omega), hg.size, fun k cs t fz _ _ h3 => by
    have hlt := (Array.getElem?_eq_some_iff.1 h3).1
    exact (hg.block k hlt (by intro e; injection e with e; omega)).trans h3⟩
theorem BK.all (h : Below w.heap.size w w1) (hB : B ≤ w.heap.size) : BK B p w w1 := ⟨h.mono hB, h.size, fun k cs t fz _ _ h3 => (h.block k (Array.getElem?_eq_some_iff.1 h3).1).trans h3⟩
theorem BK.blk {g : Nat} {t : TypeId} {cs : Array Value} (h : BK B p w w1) (hb : Blk w g t cs) (hg : g ≠ p) (ht : t ≠ 5) : Blk w1 g t cs := h.keep g cs t (0, 0) hg ht hb
end
end Go.Proofs.Ytcnebbhnpocofaa
/-
  Walk: json's writer: a number.
-/
namespace Go.Proofs.Ytcnebbhnpocofaa.Js
set_option linter.unusedSimpArgs false
set_option linter.unusedVariables false
open Go.RowKit
structure DigS (N j m : Nat) (suf : Bs) : Prop where
  eq : digB 16 N = digB (16 - j) m ++ suf
  len : suf.length = j
  lt : m < 10 ^ (16 - j)
  j16 : j < 16
theorem DigS.last {N j m : Nat} {suf : Bs} (h : DigS N j m suf) (hm : m < 10) : digB 16 N = dg m :: suf := by
  obtain ⟨k, hk⟩ : ∃ k, 16 - j = k + 1 := ⟨15 - j, by have := h.j16; omega⟩
  have e0 : digB (k + 1) m = [dg m] := by rw [digB, if_pos hm]
  rw [h.eq, hk, e0]
  rfl
theorem DigS.next {N j m : Nat} {suf : Bs} (h : DigS N j m suf) (hm : ¬ m < 10) : DigS N (j + 1) (m / 10) (dg (m % 10) :: suf) := by
  obtain ⟨k, hk⟩ : ∃ k, 16 - j = k + 1 := ⟨15 - j, by have := h.j16; omega⟩
  have h1 := h.eq
  have h2 := h.lt
  rw [hk] at h1 h2
  rw [show digB (k + 1) m = digB k (m / 10) ++ [dg (m % 10)] by rw [digB, if_neg hm]] at h1
  rw [Nat.pow_succ] at h2
  have e : 16 - (j + 1) = k := by omega
  have h3 : m / 10 < 10 ^ k := Nat.div_lt_of_lt_mul (by omega)
  refine ⟨by rw [e, h1]; simp, by simp [h.len], by rw [e]; exact h3, ?_⟩
  rcases Nat.eq_zero_or_pos k with rfl | h4
  · simp at h3; omega
  · omega
end Go.Proofs.Ytcnebbhnpocofaa.Js
/-
  Walks: jwk.text; jwk.may and jwk.Write at a bundle without keys; the law's example.
-/
namespace Go.Proofs.Ytcnebbhnpocofaa.Js
set_option linter.unusedSimpArgs false
set_option linter.unusedVariables false
open Go.RowKit
def RowAt (u : World) (t : TypeId) (n : Nat) (xs : List Value) (v : Value) : Prop := ∃ g, v = .slice (some ⟨g, 0, none⟩) n n ∧ Blk u g t xs.toArray
theorem RowAt.step {u u' : World} {t : TypeId} {n : Nat} {xs : List Value} {v : Value} (h : RowAt u t n xs v) (hb : Below u.heap.size u u') : RowAt u' t n xs v := by
  obtain ⟨g, h1, h2⟩ := h
  exact ⟨g, h1, h2.below hb h2.lt⟩
end Go.Proofs.Ytcnebbhnpocofaa.Js
/-
  The law JwkNames.
-/
namespace Go.Proofs.Ytcnebbhnpocofaa.Js
set_option linter.unusedSimpArgs false
set_option linter.unusedVariables false
open Go.RowKit
theorem digS32_len2 (d : List UInt8) : (Sh.digS Sh.F32 d).length = 32 := by
  unfold Sh.digS
  generalize Sh.runS Sh.F32 (Sh.padS Sh.F32 d) ((Sh.padS Sh.F32 d).length / (2 * Sh.F32.bits)) = s
  simp [Sh.s8L, Sh.wordB_length, Sh.F32]
theorem rd_take {w : World} {B : Nat} {A : Option Addr} {l : List UInt8} (h : Rd w B A (bytesV l)) (n : Nat) : Rd w B A (bytesV (l.take n)) := fun i u hu => by
  have e : bytesV (l.take n) = (bytesV l).take n := by simp [bytesV, List.map_take]
  rw [e, List.getElem?_take] at hu
  split at hu
  · exact h i u hu
  · cases hu
end Go.Proofs.Ytcnebbhnpocofaa.Js
/-
  A law of my own: '[]byte(s)', s a string.
-/
namespace Go.Proofs.Ytcnebbhnpocofaa
set_option linter.unusedSimpArgs false
set_option linter.unusedVariables false
open Go.RowKit
section
variable {P : Program}
theorem rd_bytesRow (w : World) (s : ByteArray) (cap : Nat) (e : TypeId) (f : Nat × Nat) (u : World) (hu : u = w.alloc (.cells (bytesRow s cap) e f)) : Rd u u.heap.size (some ⟨w.heap.size, 0, none⟩) (bytesV s.data.toList) := by
  subst hu
  intro i v hv
  have hlt : i < s.data.size := by
    have := (List.getElem?_eq_some_iff.1 hv).1
    simpa [bytesV] using this
  refine ⟨_, rfl, by simp, ?_⟩
  have hadd : (⟨w.heap.size, 0, none⟩ : Addr).add i = ⟨w.heap.size, i, none⟩ := by unfold Addr.add; split <;> simp_all
  have hg : (w.alloc (.cells (bytesRow s cap) e f)).heap[w.heap.size]? = some (.cells (bytesRow s cap) e f) := by
    show (w.heap.push _)[w.heap.size]? = _
    simp
  rw [hadd, cell_of_row _ _ _ _ _ f hg, bytesRow, Array.getElem?_append_left (by simpa using hlt)]
  rw [bytesV, List.getElem?_map, Array.getElem?_toList] at hv
  rw [Array.getElem?_map]
  exact hv
theorem wpList_bytes_of {w : World} {ops : Array Oper} {rest : List Oper} {o : Oper} {a : Act} {Q : Exit → Act → World → Prop} {src dst e : TypeId} {x : Operand} {s : ByteArray}
    (hs : P.underlying src = some .string) (hd : P.underlying dst = some (.slice e)) (he : P.underlying e = some (.int .u8))
    (hgd : o.guard = none) (ho : o.op = .convert src dst x) (hx : a.eval x = .string s)
    (h : ∀ A c w', Rd w' w'.heap.size A (bytesV s.data.toList) → s.size ≤ c → Below w.heap.size w w' → wpList P ops Q rest (a.put o.dst (.slice A s.size c)) w') : wpList P ops Q (o :: rest) a w := by
  refine wpList_plain hgd fun K hK => ?_
  have hrun := run_bytes_of_string (P := P) w src dst e s hs hd he
  unfold Oper.wp execOp
  simp only [ho, hx]
  simp only [Sem.run_bind, hrun, Result.andThen_ok, Sem.run_pure]
  refine hK _ _ (h _ _ _ (rd_bytesRow w.drew s _ e _ _ rfl) (grownCap_ge w s.size 0 e) ?_)
  exact (Below.refl _ _).drew.alloc (Nat.le_refl _) _
theorem wpList_bytes_cap {w : World} {ops : Array Oper} {rest : List Oper} {o : Oper} {a : Act} {Q : Exit → Act → World → Prop} {src dst e : TypeId} {x : Operand} {s : ByteArray}
    (hs : P.underlying src = some .string) (hd : P.underlying dst = some (.slice e)) (he : P.underlying e = some (.int .u8))
    (hgd : o.guard = none) (ho : o.op = .convert src dst x) (hx : a.eval x = .string s) (hm : s.size ≤ maxLen)
    (h : ∀ c w', Rd w' w'.heap.size (some ⟨w.heap.size, 0, none⟩) (bytesV s.data.toList) → s.size ≤ c → c ≤ maxLen → Below w.heap.size w w' → wpList P ops Q rest (a.put o.dst (.slice (some ⟨w.heap.size, 0, none⟩) s.size c)) w') : wpList P ops Q (o :: rest) a w := by
  refine wpList_plain hgd fun K hK => ?_
  have hrun := run_bytes_of_string (P := P) w src dst e s hs hd he
  unfold Oper.wp execOp
  simp only [ho, hx]
  simp only [Sem.run_bind, hrun, Result.andThen_ok, Sem.run_pure]
  refine hK _ _ (h _ _ (rd_bytesRow w.drew s _ e _ _ rfl) (grownCap_ge w s.size 0 e) (grownCap_le_maxLen w s.size 0 e hm) ?_)
  exact (Below.refl _ _).drew.alloc (Nat.le_refl _) _
end
end Go.Proofs.Ytcnebbhnpocofaa
/-
  Walks: the law's few and cut.
-/
namespace Go.Proofs.Ytcnebbhnpocofaa.Js
set_option linter.unusedSimpArgs false
set_option linter.unusedVariables false
open Go.RowKit
def nameL (x : Bs) : Bs := _root_.Go.Proofs.Ytcnebbhnpocofaa.nameK (Sh.digS Sh.F32 x) 4
def zB : Array Value := #[.string ⟨#[]⟩, .int .i64 0, .slice none 0 0]
def bC (d : Bs) (n : Int) (A : Option Addr) (l c : Nat) : Array Value := #[.string (bs d), .int .i64 n, .slice A l c]
structure Cb (w0 : World) (V R : Array Value) (A1 : Option Addr) (c1 : Nat) (ks : List (Bs × Bs)) (u : World) : Prop where
  low : Below w0.heap.size w0 u
  vbox : Blk u w0.heap.size 45 V
  res : Blk u (w0.heap.size + 1) 45 zB
  out : Blk u (w0.heap.size + 2) 45 R
  keys : OwnR u (w0.heap.size + 3) 76 2 A1 c1 ks.length (rowsV kCell ks)
section
variable {w0 : World} {V R : Array Value} {A1 : Option Addr} {c1 : Nat} {ks : List (Bs × Bs)} {u u' : World}
theorem Cb.size (h : Cb w0 V R A1 c1 ks u) : w0.heap.size + 3 ≤ u.heap.size := h.out.lt
theorem Cb.new (h : Cb w0 V R A1 c1 ks u) (hb : Below u.heap.size u u') : Cb w0 V R A1 c1 ks u' :=
  ⟨h.low.trans (hb.mono (by have := h.size; omega)), h.vbox.below hb h.vbox.lt, h.res.below hb h.res.lt, h.out.below hb h.out.lt, h.keys.below hb⟩
theorem Cb.put {R' : Array Value} (h : Cb w0 V R A1 c1 ks u) (hw : Wrote (w0.heap.size + 2) u u') (ht : Blk u' (w0.heap.size + 2) 45 R') : Cb w0 V R' A1 c1 ks u' := by
  have hs := h.size
  have hk : ∀ b, b < u.heap.size → w0.heap.size + 3 ≤ b → u'.heap[b]? = u.heap[b]? := fun b hb hl => hw.grown.block b hb (by intro h; injection h with h; omega)
  have hlt : ∀ {k cs t}, u.heap[k]? = some (.cells cs t (0, 0)) → k < u.heap.size := fun hq => (Array.getElem?_eq_some_iff.1 hq).1
  exact ⟨hw.below h.low (by omega) (by omega), hw.blk h.vbox (by omega), hw.blk h.res (by omega), ht, h.keys.heap fun k cs hq hl => (hk k (hlt hq) hl).trans hq⟩
theorem Cb.add {k : Bs × Bs} {A' : Option Addr} {c' : Nat} (h : Cb w0 V R A1 c1 ks u) (ho : OwnR u' (w0.heap.size + 3) 76 2 A' c' (ks.length + 1) (rowsV kCell ks ++ (kCell k).toList)) (hg : u.grownBy u' (Value.slice A1 ks.length c1).ownBlock) :
    Cb w0 V R A' c' (ks ++ [k]) u' := by
  have hs := h.size
  have hne : ∀ k, k < w0.heap.size + 3 → some k ≠ (Value.slice A1 ks.length c1).ownBlock := fun k hk he => by have := (h.keys.lt k he.symm).1; omega
  exact ⟨h.low.grown hg (by omega) (fun k hk => by have := (h.keys.lt k hk).1; omega), h.vbox.grown hg (hne _ (by omega)), h.res.grown hg (hne _ (by omega)), h.out.grown hg (hne _ (by omega)), by rw [rowsV_append, rowsV_one, List.length_append]; exact ho⟩
end
theorem sl_jwks : SlT Try.prog 43 76 2 32 := SlT.mk1 (z := .agg #[.string ⟨#[]⟩, .string ⟨#[]⟩]) Try.underlying43 (by kernel_rfl) rfl (by decide)
end Go.Proofs.Ytcnebbhnpocofaa.Js
/-
  Walks: brevetref15.few, Cut. (Printed by gen/ct20.py.)
-/
namespace Go.Proofs.Ytcnebbhnpocofaa
set_option linter.unusedSimpArgs false
set_option linter.unusedVariables false
open Go.RowKit

def few60 (s : ByteArray) : ByteArray := if 60 < s.size then s.extract 0 60 else s
theorem few60_le (s : ByteArray) : (few60 s).size ≤ 60 := by
  unfold few60
  split
  · simp [ByteArray.size_extract]
    omega
  · omega
set_option maxHeartbeats 2000000 in
theorem few15_any (s : ByteArray) (w : World) : Calls Try.prog 32 #[.string s] w fun e w' => e = .returned (.string (few60 s)) ∧ w' = w := by
  go_enter Try.func32, Try.ntmps32
  by_cases hl : 60 < s.size
  · have hl' : (60 : Int) < (s.size : Int) := by omega
    have hl2 : 60 ≤ s.size := by omega
    have HF := Lib.hid (show few60 s = s.extract 0 60 by rw [few60, if_pos hl])
    clear hl
    go_wp2_with fail
    go_ret
    exact ⟨by rw [HF.out]; rfl, rfl⟩
  · have hl' : ¬ (60 : Int) < (s.size : Int) := by omega
    have HF := Lib.hid (show few60 s = s by rw [few60, if_neg hl])
    clear hl
    go_wp2_with fail
    go_ret
    exact ⟨by rw [HF.out]; rfl, rfl⟩
/-- what came in reads -/
structure OpSee (w : World) (B : Nat) (o : OpD) : Prop where
  sel : ∃ l : List ByteArray, l.length = o.ent.sn ∧ Rd w B o.ent.sA (l.map Value.string)
  keys : ∃ l : List JwkD, l.length = o.bun.kn ∧ Rd w B o.bun.kA (rowsV jwkCells l)
  sn : (o.ent.sn : Int) ≤ 9223372036854775807
  kn : (o.bun.kn : Int) ≤ 9223372036854775807
/-- what Cut gives -/
def CtPost (w : World) (e : Ending) (w' : World) : Prop := ∃ o' : OpD, e = .returned (.agg (opC o')) ∧ OpIn w' o' ∧ Below w.heap.size w w'
theorem opQ_size : (Try.prog.info? 47).map (·.size) = some 24 := by kernel_rfl
theorem jwkQ_size : (Try.prog.info? 76).map (·.size) = some 2 := by kernel_rfl
set_option maxRecDepth 100000 in
set_option maxHeartbeats 8000000 in
theorem cut15_any (o : OpD) (B : Nat) (w : World) (h : OpSee w B o) (hB : B ≤ w.heap.size) :
    Calls Try.prog 17 #[.agg (opC o)] w (CtPost w) := by
  have huo := Try.underlying47
  have huj := Try.underlying76
  obtain ⟨W0, hW0⟩ : ∃ W0, W0 = (w.alloc (.cells (opC o) 47)).alloc (.cells (opC ⟨0, 0, ⟨#[]⟩, ⟨0, ⟨#[]⟩, ⟨#[]⟩, 0, none, 0, 0⟩, ⟨⟨#[]⟩, ⟨#[]⟩, 0, false⟩, ⟨⟨#[]⟩, ⟨#[]⟩, 0, 0, ⟨#[]⟩⟩, ⟨⟨#[]⟩, ⟨#[]⟩, 0, 0⟩, ⟨⟨#[]⟩, 0, none, 0, 0⟩⟩) 47) := ⟨_, rfl⟩
  have hb0 : Below w.heap.size w W0 := by rw [hW0]; exact ((Below.refl _ w).alloc (Nat.le_refl _) _).alloc (by simp) _
  have HB0 := Lib.hid hb0
  have HK0 := Lib.hid (show Blk W0 w.heap.size 47 (opC o) by rw [hW0]; exact (Blk.new _ _ _).alloc _)
  obtain ⟨Z, hZ⟩ : ∃ Z, Z = opC ⟨0, 0, ⟨#[]⟩, ⟨0, ⟨#[]⟩, ⟨#[]⟩, 0, none, 0, 0⟩, ⟨⟨#[]⟩, ⟨#[]⟩, 0, false⟩, ⟨⟨#[]⟩, ⟨#[]⟩, 0, 0, ⟨#[]⟩⟩, ⟨⟨#[]⟩, ⟨#[]⟩, 0, 0⟩, ⟨⟨#[]⟩, 0, none, 0, 0⟩⟩ := ⟨_, rfl⟩
  have HZS := Lib.hid (show Z.size = 24 by rw [hZ]; rfl)
  have HZ0 := Lib.hid (show Blk W0 (w.heap.size + 1) 47 Z by rw [hW0, hZ]; have := Blk.new (w.alloc (.cells (opC o) 47)) 47 (opC ⟨0, 0, ⟨#[]⟩, ⟨0, ⟨#[]⟩, ⟨#[]⟩, 0, none, 0, 0⟩, ⟨⟨#[]⟩, ⟨#[]⟩, 0, false⟩, ⟨⟨#[]⟩, ⟨#[]⟩, 0, 0, ⟨#[]⟩⟩, ⟨⟨#[]⟩, ⟨#[]⟩, 0, 0⟩, ⟨⟨#[]⟩, 0, none, 0, 0⟩⟩); simpa using this)
  have HS0 := Lib.hid (show W0.heap.size = w.heap.size + 2 by rw [hW0]; simp)
  have HW0 := Lib.hid hW0
  obtain ⟨sl, hsl, hsr⟩ := h.sel
  obtain ⟨kl, hkl, hkr⟩ := h.keys
  have hsn := h.sn
  have hkn := h.kn
  have HSL := Lib.hid hsl
  have HKL := Lib.hid hkl
  have HSR := Lib.hid (show ∀ u, Below w.heap.size w u → Rd u B o.ent.sA (sl.map Value.string) from fun u hu => hsr.below (hu.mono hB))
  have HKR := Lib.hid (show ∀ u, Below w.heap.size w u → Rd u B o.bun.kA (rowsV jwkCells kl) from fun u hu => hkr.below (hu.mono hB))
  have HF := Lib.hid few15_any
  have HBB := Lib.hid hB
  clear hb0 h hB hsl hkl hsr hkr
  go_enter Try.func17, Try.ntmps17
  go_upto_region 1 with (fail)
  rw [show (w.alloc (.cells (opC o) 47)).alloc (.cells #[.int .i64 0, .int .i64 0, .string ⟨#[]⟩, .int .i64 0, .string ⟨#[]⟩, .string ⟨#[]⟩, .int .i64 0, .slice none 0 0, .string ⟨#[]⟩, .string ⟨#[]⟩, .int .i64 0, .bool false, .string ⟨#[]⟩, .string ⟨#[]⟩, .int .i64 0, .int .i64 0, .string ⟨#[]⟩, .string ⟨#[]⟩, .string ⟨#[]⟩, .int .i64 0, .int .i64 0, .string ⟨#[]⟩, .int .i64 0, .slice none 0 0] 47) = W0 from HW0.out.symm]
  generalize Value.agg (opC o) = AV
  clear hW0 hZ
  have a0 := HK0.out.cell 2
  simp only [opC, List.getElem?_toArray, List.getElem?_cons_zero, List.getElem?_cons_succ] at a0
  go_wp2_with fail
  refine calls_then (HF.out _ _) ?_
  rintro e u0 ⟨rfl, rfl⟩
  go_upto_region 2 with (refine wpList_put_cell (i := 2) HK0.out rfl rfl rfl rfl (by kernel_rfl) (by simp [opC]) rfl ?_; intro v0 hb0 hw0)
  obtain ⟨o0, ho0⟩ : ∃ o' : OpD, o' = { o with name := few60 o.name } := ⟨_, rfl⟩
  have HE0 := Lib.hid ho0
  have HKs0 := Lib.hid (show Blk v0 w.heap.size 47 (opC o0) by rw [ho0]; exact hb0)
  have HZs0 := Lib.hid (hw0.blk HZ0.out (by omega))
  have HBs0 := Lib.hid (hw0.below HB0.out (Nat.le_refl _) HB0.out.size)
  have HSs0 := Lib.hid (hw0.size.trans HS0.out)
  clear a0 hb0 hw0 ho0
  have a1 := HKs0.out.cell 4
  simp only [opC, List.getElem?_toArray, List.getElem?_cons_zero, List.getElem?_cons_succ] at a1
  go_wp2_with fail
  refine calls_then (HF.out _ _) ?_
  rintro e u1 ⟨rfl, rfl⟩
  go_upto_region 3 with (refine wpList_put_cell (i := 4) HKs0.out rfl rfl rfl rfl (by kernel_rfl) (by simp [opC]) rfl ?_; intro v1 hb1 hw1)
  obtain ⟨o1, ho1⟩ : ∃ o' : OpD, o' = { o0 with ent := { o0.ent with path := few60 o0.ent.path } } := ⟨_, rfl⟩
  have HE1 := Lib.hid ho1
  have HKs1 := Lib.hid (show Blk v1 w.heap.size 47 (opC o1) by rw [ho1]; exact hb1)
  have HZs1 := Lib.hid (hw1.blk HZs0.out (by omega))
  have HBs1 := Lib.hid (hw1.below HBs0.out (Nat.le_refl _) HBs0.out.size)
  have HSs1 := Lib.hid (hw1.size.trans HSs0.out)
  clear a1 hb1 hw1 ho1
  have a2 := HKs1.out.cell 5
  simp only [opC, List.getElem?_toArray, List.getElem?_cons_zero, List.getElem?_cons_succ] at a2
  go_wp2_with fail
  refine calls_then (HF.out _ _) ?_
  rintro e u2 ⟨rfl, rfl⟩
  go_upto_region 4 with (refine wpList_put_cell (i := 5) HKs1.out rfl rfl rfl rfl (by kernel_rfl) (by simp [opC]) rfl ?_; intro v2 hb2 hw2)
  obtain ⟨o2, ho2⟩ : ∃ o' : OpD, o' = { o1 with ent := { o1.ent with parent := few60 o1.ent.parent } } := ⟨_, rfl⟩
  have HE2 := Lib.hid ho2
  have HKs2 := Lib.hid (show Blk v2 w.heap.size 47 (opC o2) by rw [ho2]; exact hb2)
  have HZs2 := Lib.hid (hw2.blk HZs1.out (by omega))
  have HBs2 := Lib.hid (hw2.below HBs1.out (Nat.le_refl _) HBs1.out.size)
  have HSs2 := Lib.hid (hw2.size.trans HSs1.out)
  clear a2 hb2 hw2 ho2
  obtain ⟨wa, hwa⟩ : ∃ wa, wa = v2 := ⟨_, rfl⟩
  obtain ⟨A0, hA0⟩ : ∃ A, A = o.ent.sA := ⟨_, rfl⟩
  obtain ⟨n0, hn0⟩ : ∃ n, n = o.ent.sn := ⟨_, rfl⟩
  obtain ⟨c0, hc0⟩ : ∃ c, c = o.ent.sc := ⟨_, rfl⟩
  have HO7 := Lib.hid (show o2.ent.sA = A0 ∧ o2.ent.sn = n0 ∧ o2.ent.sc = c0 by rw [HE2.out, HE1.out, HE0.out, hA0, hn0, hc0]; exact ⟨rfl, rfl, rfl⟩)
  have HSR2 := Lib.hid (show ∀ u, Below w.heap.size w u → Rd u B A0 (sl.map Value.string) by rw [hA0]; exact HSR.out)
  have HSL2 := Lib.hid (show sl.length = n0 by rw [hn0]; exact HSL.out)
  have hsn' : (n0 : Int) ≤ 9223372036854775807 := by rw [hn0]; exact hsn
  obtain ⟨mn, hmn⟩ : ∃ mn, mn = min n0 6 := ⟨_, rfl⟩
  have HMN := Lib.hid hmn
  have HOB := Lib.hid (show OwnR v2 (w.heap.size + 2) 9 1 none 0 0 (rowsV strCell []) from OwnR.nil _ _ _ _)
  clear hmn hA0 hn0 hc0 hsn hwa
  go_upto_block 0 with fail
  go_cut [3] (fun t3 wx => ∃ (A1 : Option Addr) (c1 : Nat) (xs : List ByteArray), t3 = .slice A1 xs.length c1 ∧ xs.length ≤ 6 ∧ OwnR wx (w.heap.size + 2) 9 1 A1 c1 xs.length (rowsV strCell xs) ∧ (∀ x ∈ xs, x.size ≤ 60) ∧ Below (w.heap.size + 2) v2 wx)
  case first =>
   go_wp2_with fail
   go_loopw [3, 4] (fun t3 x wr => ∃ (i : Nat) (A1 : Option Addr) (c1 : Nat) (xs : List ByteArray), i ≤ mn ∧ x = .int .i64 (i : Int) ∧ t3 = .slice A1 xs.length c1 ∧ xs.length = i ∧ OwnR wr (w.heap.size + 2) 9 1 A1 c1 xs.length (rowsV strCell xs) ∧ (∀ x ∈ xs, x.size ≤ 60) ∧ Below (w.heap.size + 2) v2 wr) (fun _ x _ => mn - (intOf x).toNat)
   case atStart => exact ⟨0, none, 0, [], Nat.zero_le _, rfl, rfl, rfl, HOB.out, fun x hx => (by cases hx), Below.refl _ _⟩
   case round =>
     obtain ⟨i, A1, c1, xs, hi, rfl, rfl, hxl, hown, hsm, hbw⟩ := hrel
     have HXL := Lib.hid hxl
     have HOW := Lib.hid hown
     have HSM := Lib.hid hsm
     have HBW := Lib.hid hbw
     have HKR1 := Lib.hid (show Blk wr w.heap.size 47 (opC o2) from HKs2.out.below hbw (by omega))
     have HBR := Lib.hid (show Below w.heap.size w wr from HBs2.out.trans (hbw.mono (by omega)))
     have a7 : wr.cell? ⟨w.heap.size, 7, none⟩ = some (.slice A0 n0 c0) := by
       obtain ⟨h1, h2, h3⟩ := HO7.out
       rw [← h1, ← h2, ← h3]
       exact HKR1.out.cell 7
     have hx6 : xs.length ≤ 6 := by have := HMN.out; omega
     clear hxl hown hsm hbw
     by_cases hlt : i < mn
     · have h1 : (i : Int) < (n0 : Int) := by have := HMN.out; omega
       have h2 : (i : Int) < 6 := by have := HMN.out; omega
       have hi0 : (0 : Int) ≤ (i : Int) := by omega
       have hil : i < sl.length := by have := HMN.out; rw [HSL2.out]; omega
       obtain ⟨ad, hA, _, hc⟩ := (HSR2.out wr HBR.out).at_ (k := i) (by simpa using hil)
       subst hA
       simp only [List.getElem_map] at hc
       obtain ⟨X, hX⟩ : ∃ X, X = sl[i] := ⟨_, rfl⟩
       rw [← hX] at hc
       have HLT := Lib.hid hlt
       clear hX hil hlt
       go_wp2_with fail
       refine calls_then (HF.out _ _) ?_
       rintro e u7 ⟨rfl, rfl⟩
       have HLO := Lib.hid (show w.heap.size + 2 ≤ u7.heap.size by have := HBW.out.size; have := HSs2.out; omega)
       go_wp2_with (refine wpList_append_r1 (ys := [.string (few60 X)]) sl_strz rfl rfl HOW.out rfl rfl rfl rfl (by simp [Value.oneCell']) (by unfold maxLen; omega) (by omega) HLO.out ?_; intro A5 c5 w5 hown5 hgr5 hn5)
       have HO5 := Lib.hid (show OwnR w5 (w.heap.size + 2) 9 1 A5 c5 (xs ++ [few60 X]).length (rowsV strCell (xs ++ [few60 X])) by rw [rowsV_append, rowsV_one, List.length_append]; exact hown5)
       have HB5 := Lib.hid (show Below (w.heap.size + 2) v2 w5 from HBW.out.grown hgr5 HLO.out fun j hj => (HOW.out.lt j hj).1)
       clear hown5 hgr5 hn5
       go_roundw
       case rel => exact ⟨i + 1, A5, c5, xs ++ [few60 X], HLT.out, by go_num, by simp, by rw [List.length_append, HXL.out]; rfl, HO5.out, fun x hx => by
         rcases List.mem_append.1 hx with h | h
         · exact HSM.out x h
         · have e : x = few60 X := by simpa using h
           rw [e]
           exact few60_le X, HB5.out⟩
       case measure => have := HLT.out; simp [intOf]; omega
     · have hor : ¬ ((i : Int) < (n0 : Int)) ∨ ((i : Int) < (n0 : Int) ∧ ¬ (i : Int) < 6) := by have := HMN.out; omega
       clear hlt
       rcases hor with hor | ⟨hor, hor2⟩
       · go_wp2_with fail
         go_meet
         exact ⟨A1, c1, xs, rfl, hx6, HOW.out, HSM.out, HBW.out⟩
       · go_wp2_with fail
         go_meet
         exact ⟨A1, c1, xs, rfl, hx6, HOW.out, HSM.out, HBW.out⟩
  case rest =>
  obtain ⟨As, cs, xs, rfl, hx6, hown, hsm, hbw⟩ := hcut
  have HXO := Lib.hid hown
  have HXS := Lib.hid hsm
  have HX6 := Lib.hid hx6
  have HKr := Lib.hid (show Blk wc w.heap.size 47 (opC o2) from HKs2.out.below hbw (by omega))
  have HZr := Lib.hid (show Blk wc (w.heap.size + 1) 47 Z from HZs2.out.below hbw (by omega))
  have HBr := Lib.hid (show Below w.heap.size w wc from HBs2.out.trans (hbw.mono (by omega)))
  have HLr := Lib.hid (show w.heap.size + 2 ≤ wc.heap.size by have := hbw.size; have := HSs2.out; omega)
  clear hx6 hown hsm hbw
  go_upto_region 10 with (refine wpList_put_cell (i := 7) HKr.out rfl rfl rfl rfl (by kernel_rfl) (by simp [opC]) rfl ?_; intro vr hbr hwr)
  obtain ⟨n6, hn6⟩ : ∃ n, n = xs.length := ⟨_, rfl⟩
  obtain ⟨o3, ho3⟩ : ∃ o' : OpD, o' = { o2 with ent := { o2.ent with sA := As, sn := xs.length, sc := cs } } := ⟨_, rfl⟩
  have HE3 := Lib.hid ho3
  have HKs3 := Lib.hid (show Blk vr w.heap.size 47 (opC o3) by rw [ho3]; exact hbr)
  have HZs3 := Lib.hid (hwr.blk HZr.out (by omega))
  have HBs3 := Lib.hid (hwr.below HBr.out (Nat.le_refl _) HBr.out.size)
  have HSs3 := Lib.hid (show w.heap.size + 2 ≤ vr.heap.size by rw [hwr.size]; exact HLr.out)
  have HXO3 := Lib.hid (ownR_wrote_r HXO.out hwr fun k hk => by have := (HXO.out.lt k hk).1; omega)
  clear hbr hwr ho3 hn6
  have a4 := HKs3.out.cell 8
  simp only [opC, List.getElem?_toArray, List.getElem?_cons_zero, List.getElem?_cons_succ] at a4
  go_wp2_with fail
  refine calls_then (HF.out _ _) ?_
  rintro e u4 ⟨rfl, rfl⟩
  go_upto_region 11 with (refine wpList_put_cell (i := 8) HKs3.out rfl rfl rfl rfl (by kernel_rfl) (by simp [opC]) rfl ?_; intro v4 hb4 hw4)
  obtain ⟨o4, ho4⟩ : ∃ o' : OpD, o' = { o3 with join := { o3.join with text := few60 o3.join.text } } := ⟨_, rfl⟩
  have HE4 := Lib.hid ho4
  have HKs4 := Lib.hid (show Blk v4 w.heap.size 47 (opC o4) by rw [ho4]; exact hb4)
  have HZs4 := Lib.hid (hw4.blk HZs3.out (by omega))
  have HBs4 := Lib.hid (hw4.below HBs3.out (Nat.le_refl _) HBs3.out.size)
  have HSs4 := Lib.hid (show w.heap.size + 2 ≤ v4.heap.size by rw [hw4.size]; exact HSs3.out)
  have HXO4 := Lib.hid (ownR_wrote_r HXO3.out hw4 fun k hk => by have := (HXO3.out.lt k hk).1; omega)
  clear a4 hb4 hw4 ho4
  have a5 := HKs4.out.cell 9
  simp only [opC, List.getElem?_toArray, List.getElem?_cons_zero, List.getElem?_cons_succ] at a5
  go_wp2_with fail
  refine calls_then (HF.out _ _) ?_
  rintro e u5 ⟨rfl, rfl⟩
  go_upto_region 12 with (refine wpList_put_cell (i := 9) HKs4.out rfl rfl rfl rfl (by kernel_rfl) (by simp [opC]) rfl ?_; intro v5 hb5 hw5)
  obtain ⟨o5, ho5⟩ : ∃ o' : OpD, o' = { o4 with join := { o4.join with name := few60 o4.join.name } } := ⟨_, rfl⟩
  have HE5 := Lib.hid ho5
  have HKs5 := Lib.hid (show Blk v5 w.heap.size 47 (opC o5) by rw [ho5]; exact hb5)
  have HZs5 := Lib.hid (hw5.blk HZs4.out (by omega))
  have HBs5 := Lib.hid (hw5.below HBs4.out (Nat.le_refl _) HBs4.out.size)
  have HSs5 := Lib.hid (show w.heap.size + 2 ≤ v5.heap.size by rw [hw5.size]; exact HSs4.out)
  have HXO5 := Lib.hid (ownR_wrote_r HXO4.out hw5 fun k hk => by have := (HXO4.out.lt k hk).1; omega)
  clear a5 hb5 hw5 ho5
  have a6 := HKs5.out.cell 12
  simp only [opC, List.getElem?_toArray, List.getElem?_cons_zero, List.getElem?_cons_succ] at a6
  go_wp2_with fail
  refine calls_then (HF.out _ _) ?_
  rintro e u6 ⟨rfl, rfl⟩
  go_upto_region 13 with (refine wpList_put_cell (i := 12) HKs5.out rfl rfl rfl rfl (by kernel_rfl) (by simp [opC]) rfl ?_; intro v6 hb6 hw6)
  obtain ⟨o6, ho6⟩ : ∃ o' : OpD, o' = { o5 with node := { o5.node with name := few60 o5.node.name } } := ⟨_, rfl⟩
  have HE6 := Lib.hid ho6
  have HKs6 := Lib.hid (show Blk v6 w.heap.size 47 (opC o6) by rw [ho6]; exact hb6)
  have HZs6 := Lib.hid (hw6.blk HZs5.out (by omega))
  have HBs6 := Lib.hid (hw6.below HBs5.out (Nat.le_refl _) HBs5.out.size)
  have HSs6 := Lib.hid (show w.heap.size + 2 ≤ v6.heap.size by rw [hw6.size]; exact HSs5.out)
  have HXO6 := Lib.hid (ownR_wrote_r HXO5.out hw6 fun k hk => by have := (HXO5.out.lt k hk).1; omega)
  clear a6 hb6 hw6 ho6
  have a7 := HKs6.out.cell 13
  simp only [opC, List.getElem?_toArray, List.getElem?_cons_zero, List.getElem?_cons_succ] at a7
  go_wp2_with fail
  refine calls_then (HF.out _ _) ?_
  rintro e u7 ⟨rfl, rfl⟩
  go_upto_region 14 with (refine wpList_put_cell (i := 13) HKs6.out rfl rfl rfl rfl (by kernel_rfl) (by simp [opC]) rfl ?_; intro v7 hb7 hw7)
  obtain ⟨o7, ho7⟩ : ∃ o' : OpD, o' = { o6 with node := { o6.node with key := few60 o6.node.key } } := ⟨_, rfl⟩
  have HE7 := Lib.hid ho7
  have HKs7 := Lib.hid (show Blk v7 w.heap.size 47 (opC o7) by rw [ho7]; exact hb7)
  have HZs7 := Lib.hid (hw7.blk HZs6.out (by omega))
  have HBs7 := Lib.hid (hw7.below HBs6.out (Nat.le_refl _) HBs6.out.size)
  have HSs7 := Lib.hid (show w.heap.size + 2 ≤ v7.heap.size by rw [hw7.size]; exact HSs6.out)
  have HXO7 := Lib.hid (ownR_wrote_r HXO6.out hw7 fun k hk => by have := (HXO6.out.lt k hk).1; omega)
  clear a7 hb7 hw7 ho7
  have a8 := HKs7.out.cell 16
  simp only [opC, List.getElem?_toArray, List.getElem?_cons_zero, List.getElem?_cons_succ] at a8
  go_wp2_with fail
  refine calls_then (HF.out _ _) ?_
  rintro e u8 ⟨rfl, rfl⟩
  go_upto_region 15 with (refine wpList_put_cell (i := 16) HKs7.out rfl rfl rfl rfl (by kernel_rfl) (by simp [opC]) rfl ?_; intro v8 hb8 hw8)
  obtain ⟨o8, ho8⟩ : ∃ o' : OpD, o' = { o7 with node := { o7.node with doc := few60 o7.node.doc } } := ⟨_, rfl⟩
  have HE8 := Lib.hid ho8
  have HKs8 := Lib.hid (show Blk v8 w.heap.size 47 (opC o8) by rw [ho8]; exact hb8)
  have HZs8 := Lib.hid (hw8.blk HZs7.out (by omega))
  have HBs8 := Lib.hid (hw8.below HBs7.out (Nat.le_refl _) HBs7.out.size)
  have HSs8 := Lib.hid (show w.heap.size + 2 ≤ v8.heap.size by rw [hw8.size]; exact HSs7.out)
  have HXO8 := Lib.hid (ownR_wrote_r HXO7.out hw8 fun k hk => by have := (HXO7.out.lt k hk).1; omega)
  clear a8 hb8 hw8 ho8
  have a9 := HKs8.out.cell 17
  simp only [opC, List.getElem?_toArray, List.getElem?_cons_zero, List.getElem?_cons_succ] at a9
  go_wp2_with fail
  refine calls_then (HF.out _ _) ?_
  rintro e u9 ⟨rfl, rfl⟩
  go_upto_region 16 with (refine wpList_put_cell (i := 17) HKs8.out rfl rfl rfl rfl (by kernel_rfl) (by simp [opC]) rfl ?_; intro v9 hb9 hw9)
  obtain ⟨o9, ho9⟩ : ∃ o' : OpD, o' = { o8 with key := { o8.key with kid := few60 o8.key.kid } } := ⟨_, rfl⟩
  have HE9 := Lib.hid ho9
  have HKs9 := Lib.hid (show Blk v9 w.heap.size 47 (opC o9) by rw [ho9]; exact hb9)
  have HZs9 := Lib.hid (hw9.blk HZs8.out (by omega))
  have HBs9 := Lib.hid (hw9.below HBs8.out (Nat.le_refl _) HBs8.out.size)
  have HSs9 := Lib.hid (show w.heap.size + 2 ≤ v9.heap.size by rw [hw9.size]; exact HSs8.out)
  have HXO9 := Lib.hid (ownR_wrote_r HXO8.out hw9 fun k hk => by have := (HXO8.out.lt k hk).1; omega)
  clear a9 hb9 hw9 ho9
  have a10 := HKs9.out.cell 18
  simp only [opC, List.getElem?_toArray, List.getElem?_cons_zero, List.getElem?_cons_succ] at a10
  go_wp2_with fail
  refine calls_then (HF.out _ _) ?_
  rintro e u10 ⟨rfl, rfl⟩
  go_upto_region 17 with (refine wpList_put_cell (i := 18) HKs9.out rfl rfl rfl rfl (by kernel_rfl) (by simp [opC]) rfl ?_; intro v10 hb10 hw10)
  obtain ⟨o10, ho10⟩ : ∃ o' : OpD, o' = { o9 with key := { o9.key with seed := few60 o9.key.seed } } := ⟨_, rfl⟩
  have HE10 := Lib.hid ho10
  have HKs10 := Lib.hid (show Blk v10 w.heap.size 47 (opC o10) by rw [ho10]; exact hb10)
  have HZs10 := Lib.hid (hw10.blk HZs9.out (by omega))
  have HBs10 := Lib.hid (hw10.below HBs9.out (Nat.le_refl _) HBs9.out.size)
  have HSs10 := Lib.hid (show w.heap.size + 2 ≤ v10.heap.size by rw [hw10.size]; exact HSs9.out)
  have HXO10 := Lib.hid (ownR_wrote_r HXO9.out hw10 fun k hk => by have := (HXO9.out.lt k hk).1; omega)
  clear a10 hb10 hw10 ho10
  have a11 := HKs10.out.cell 21
  simp only [opC, List.getElem?_toArray, List.getElem?_cons_zero, List.getElem?_cons_succ] at a11
  go_wp2_with fail
  refine calls_then (HF.out _ _) ?_
  rintro e u11 ⟨rfl, rfl⟩
  go_upto_region 18 with (refine wpList_put_cell (i := 21) HKs10.out rfl rfl rfl rfl (by kernel_rfl) (by simp [opC]) rfl ?_; intro v11 hb11 hw11)
  obtain ⟨o11, ho11⟩ : ∃ o' : OpD, o' = { o10 with bun := { o10.bun with dom := few60 o10.bun.dom } } := ⟨_, rfl⟩
  have HE11 := Lib.hid ho11
  have HKs11 := Lib.hid (show Blk v11 w.heap.size 47 (opC o11) by rw [ho11]; exact hb11)
  have HZs11 := Lib.hid (hw11.blk HZs10.out (by omega))
  have HBs11 := Lib.hid (hw11.below HBs10.out (Nat.le_refl _) HBs10.out.size)
  have HSs11 := Lib.hid (show w.heap.size + 2 ≤ v11.heap.size by rw [hw11.size]; exact HSs10.out)
  have HXO11 := Lib.hid (ownR_wrote_r HXO10.out hw11 fun k hk => by have := (HXO10.out.lt k hk).1; omega)
  clear a11 hb11 hw11 ho11
  obtain ⟨Ak, hAk⟩ : ∃ A, A = o.bun.kA := ⟨_, rfl⟩
  obtain ⟨nk, hnk⟩ : ∃ n, n = o.bun.kn := ⟨_, rfl⟩
  obtain ⟨ck, hck⟩ : ∃ c, c = o.bun.kc := ⟨_, rfl⟩
  have HO9 := Lib.hid (show o11.bun.kA = Ak ∧ o11.bun.kn = nk ∧ o11.bun.kc = ck by rw [HE11.out, HE10.out, HE9.out, HE8.out, HE7.out, HE6.out, HE5.out, HE4.out, HE3.out, HE2.out, HE1.out, HE0.out, hAk, hnk, hck]; exact ⟨rfl, rfl, rfl⟩)
  have HKR2 := Lib.hid (show ∀ u, Below w.heap.size w u → Rd u B Ak (rowsV jwkCells kl) by rw [hAk]; exact HKR.out)
  have HKL2 := Lib.hid (show kl.length = nk by rw [hnk]; exact HKL.out)
  have hkn' : (nk : Int) ≤ 9223372036854775807 := by rw [hnk]; exact hkn
  obtain ⟨mk, hmk⟩ : ∃ mn, mn = min nk 9 := ⟨_, rfl⟩
  have HMK := Lib.hid hmk
  have HOK := Lib.hid (show OwnR v11 (w.heap.size + 2) 76 2 none 0 0 (rowsV jwkCells []) from OwnR.nil _ _ _ _)
  clear hmk hAk hnk hck hkn
  go_upto_block 2 with fail
  go_cut [5] (fun t5 wx => ∃ (A1 : Option Addr) (c1 : Nat) (ys : List JwkD), t5 = .slice A1 ys.length c1 ∧ ys.length ≤ 9 ∧ OwnR wx (w.heap.size + 2) 76 2 A1 c1 ys.length (rowsV jwkCells ys) ∧ (∀ y ∈ ys, y.x.size ≤ 60) ∧ Below (w.heap.size + 2) v11 wx ∧ KeepBut 76 v11 wx)
  case first =>
   go_wp2_with fail
   go_loopw [5, 6] (fun t5 x wr => ∃ (i : Nat) (A1 : Option Addr) (c1 : Nat) (ys : List JwkD), i ≤ mk ∧ x = .int .i64 (i : Int) ∧ t5 = .slice A1 ys.length c1 ∧ ys.length = i ∧ OwnR wr (w.heap.size + 2) 76 2 A1 c1 ys.length (rowsV jwkCells ys) ∧ (∀ y ∈ ys, y.x.size ≤ 60) ∧ Below (w.heap.size + 2) v11 wr ∧ KeepBut 76 v11 wr) (fun _ x _ => mk - (intOf x).toNat)
   case atStart => exact ⟨0, none, 0, [], Nat.zero_le _, rfl, rfl, rfl, HOK.out, fun x hx => (by cases hx), Below.refl _ _, KeepBut.refl _ _⟩
   case round =>
     obtain ⟨i, A1, c1, ys, hi, rfl, rfl, hyl, hown, hsm, hbw, hkb⟩ := hrel
     have HYL := Lib.hid hyl
     have HOW := Lib.hid hown
     have HSM := Lib.hid hsm
     have HBW := Lib.hid hbw
     have HKB := Lib.hid hkb
     have HLO := Lib.hid (show w.heap.size + 2 ≤ wr.heap.size from Nat.le_trans HSs11.out hbw.size)
     have HKR1 := Lib.hid (show Blk wr w.heap.size 47 (opC o11) from HKs11.out.below hbw (by omega))
     have HBR := Lib.hid (show Below w.heap.size w wr from HBs11.out.trans (hbw.mono (by omega)))
     have a23 : wr.cell? ⟨w.heap.size, 23, none⟩ = some (.slice Ak nk ck) := by
       obtain ⟨h1, h2, h3⟩ := HO9.out
       rw [← h1, ← h2, ← h3]
       exact HKR1.out.cell 23
     have hy9 : ys.length ≤ 9 := by have := HMK.out; omega
     clear hyl hown hsm hbw hkb
     by_cases hlt : i < mk
     · have h1 : (i : Int) < (nk : Int) := by have := HMK.out; omega
       have h2 : (i : Int) < 9 := by have := HMK.out; omega
       have hi0 : (0 : Int) ≤ (i : Int) := by omega
       have hil : i < kl.length := by have := HMK.out; rw [HKL2.out]; omega
       obtain ⟨ad, hA, -, hcell⟩ := rd_rows (f := jwkCells) (m := 2) (fun _ => rfl) (by decide) (HKR2.out wr HBR.out) hil
       subst hA
       obtain ⟨X, hX⟩ : ∃ X, X = kl[i] := ⟨_, rfl⟩
       rw [← hX] at hcell
       have HCL := Lib.hid (show ∀ u, Below wr.heap.size wr u → u.cell? (ad.add (i * 2)) = some (.string X.kid) ∧ u.cell? ⟨(ad.add (i * 2)).block, (ad.add (i * 2)).off + 1, none⟩ = some (.string X.x) from fun u hu => by
         have h0 : wr.cell? (ad.add (i * 2)) = some (.string X.kid) := hcell 0 _ rfl
         have h1 : wr.cell? ⟨(ad.add (i * 2)).block, (ad.add (i * 2)).off + 1, none⟩ = some (.string X.x) := hcell 1 _ rfl
         exact ⟨(hu.cell (World.block_lt_of_cell? wr _ h0)).trans h0, (hu.cell (World.block_lt_of_cell? wr _ h1)).trans h1⟩)
       have HLT := Lib.hid hlt
       clear hX hcell hil hlt
       go_wp2_with fail
       have HC0 : Below wr.heap.size wr wr.drew := (Below.refl _ _).drew
       apply wp_region_seqh (fun u => Below wr.heap.size wr u) (fun u u' => Below u.heap.size u u') [_, _, _, _, _, _, _, _, _, _, _, _, _, _, _, _, _, undef] (gOf [(17, fun v u => ∃ ga, v = .pointer (some ⟨ga, 0, none⟩) ∧ wr.heap.size ≤ ga ∧ Blk u ga 76 #[.string ⟨#[]⟩, .string ⟨#[]⟩])]) 18 (by kernel_rfl) (by kernel_rfl) (by decide) (by kernel_rfl) (stabL_of _ ⟨(fun _ _ _ h h0 => by obtain ⟨ga, e, hl, hb⟩ := h0; exact ⟨ga, e, hl, hb.below h hb.lt⟩), trivial⟩) HC0
       simp only [List.take_succ_cons, List.take_zero, List.drop_succ_cons, List.drop_zero]
       iterate 2
         ((first | (apply SeqG.next; rfl; rfl; rfl)); (simp only [act_put, act_put_none, List.setIfInBounds_toArray, List.set_cons_zero, List.set_cons_succ]; rfl); (intro w1 hC1 hf E hE; go_wp2; exact .mk (hE _ hC1 (Below.refl _ _))))
       apply SeqG.next
       · rfl
       · rfl
       · rfl
       · simp only [act_put, act_put_none, List.setIfInBounds_toArray, List.set_cons_zero, List.set_cons_succ]
         rfl
       · intro w1 hC1 hf E hE
         have d0 := (hC1.cell (p := ⟨w.heap.size, 23, none⟩) HKR1.out.lt).trans a23
         go_wp2
         exact .mk (hE _ hC1 (Below.refl _ _))
       iterate 3
         ((first | (apply SeqG.next; rfl; rfl; rfl)); (simp only [act_put, act_put_none, List.setIfInBounds_toArray, List.set_cons_zero, List.set_cons_succ]; rfl); (intro w1 hC1 hf E hE; go_wp2; exact .mk (hE _ hC1 (Below.refl _ _))))
       apply SeqG.next
       · rfl
       · rfl
       · rfl
       · simp only [act_put, act_put_none, List.setIfInBounds_toArray, List.set_cons_zero, List.set_cons_succ]
         rfl
       · intro w1 hC1 hf E hE
         have d0 := (HCL.out _ hC1).1
         go_wp2
         exact .mk (hE _ hC1 (Below.refl _ _))
       apply SeqG.next
       · rfl
       · rfl
       · rfl
       · simp only [act_put, act_put_none, List.setIfInBounds_toArray, List.set_cons_zero, List.set_cons_succ]
         rfl
       · intro w1 hC1 hf E hE
         go_wp2_with fail
         refine calls_then (HF.out _ _) ?_
         rintro e w2 ⟨rfl, rfl⟩
         go_wp2_with fail
         exact .mk (hE _ hC1 (Below.refl _ _))
       iterate 2
         ((first | (apply SeqG.next; rfl; rfl; rfl)); (simp only [act_put, act_put_none, List.setIfInBounds_toArray, List.set_cons_zero, List.set_cons_succ]; rfl); (intro w1 hC1 hf E hE; go_wp2; exact .mk (hE _ hC1 (Below.refl _ _))))
       apply SeqG.next
       · rfl
       · rfl
       · rfl
       · simp only [act_put, act_put_none, List.setIfInBounds_toArray, List.set_cons_zero, List.set_cons_succ]
         rfl
       · intro w1 hC1 hf E hE
         have d0 := (hC1.cell (p := ⟨w.heap.size, 23, none⟩) HKR1.out.lt).trans a23
         go_wp2
         exact .mk (hE _ hC1 (Below.refl _ _))
       iterate 3
         ((first | (apply SeqG.next; rfl; rfl; rfl)); (simp only [act_put, act_put_none, List.setIfInBounds_toArray, List.set_cons_zero, List.set_cons_succ]; rfl); (intro w1 hC1 hf E hE; go_wp2; exact .mk (hE _ hC1 (Below.refl _ _))))
       apply SeqG.next
       · rfl
       · rfl
       · rfl
       · simp only [act_put, act_put_none, List.setIfInBounds_toArray, List.set_cons_zero, List.set_cons_succ]
         rfl
       · intro w1 hC1 hf E hE
         have d0 := (HCL.out _ hC1).2
         go_wp2
         exact .mk (hE _ hC1 (Below.refl _ _))
       apply SeqG.next
       · rfl
       · rfl
       · rfl
       · simp only [act_put, act_put_none, List.setIfInBounds_toArray, List.set_cons_zero, List.set_cons_succ]
         rfl
       · intro w1 hC1 hf E hE
         go_wp2_with fail
         refine calls_then (HF.out _ _) ?_
         rintro e w2 ⟨rfl, rfl⟩
         go_wp2_with fail
         exact .mk (hE _ hC1 (Below.refl _ _))
       iterate 1
         ((first | (apply SeqG.next; rfl; rfl; rfl)); (simp only [act_put, act_put_none, List.setIfInBounds_toArray, List.set_cons_zero, List.set_cons_succ]; rfl); (intro w1 hC1 hf E hE; go_wp2; exact .mk (hE _ hC1 (Below.refl _ _))))
       apply SeqG.some
       · rfl
       · rfl
       · intro w1 hC1 hf E hE
         simp only [act_put, act_put_none, List.setIfInBounds_toArray, List.set_cons_zero, List.set_cons_succ] at hE
         go_wp2
         exact .mk (hE _ _ ⟨_, rfl, hC1.size, Blk.new _ _ _⟩ (hC1.alloc hC1.size _) ((Below.refl _ _).alloc (Nat.le_refl _) _))
       intro x17
       simp only [act_put, act_put_none, List.setIfInBounds_toArray, List.set_cons_zero, List.set_cons_succ]
       refine SeqG.nil ?_
       intro w1 hC1 hf
       have f17 := (hf 17 (of_decide_eq_true (by kernel_rfl))).1 rfl
       clear hf
       refine SeqT.step rfl ?_
       intro E hE
       simp only [act_put, act_put_none, List.setIfInBounds_toArray, List.set_cons_zero, List.set_cons_succ] at hE
       obtain ⟨ga, hx17, hga, hb17⟩ := f17
       have HGA := Lib.hid hga
       have HB17 := Lib.hid hb17
       have HBC := Lib.hid hC1
       clear hb17 hga
       simp only [hx17] at hE ⊢
       refine wpList_put_box (cells := jwkCells ⟨few60 X.kid, few60 X.x⟩) HB17.out rfl rfl rfl rfl jwkQ_size rfl (jwkCells_one _) ?_
       intro w6 hb6 hw6
       have HB6 := Lib.hid hb6
       have HW6 := Lib.hid hw6
       clear hb6 hw6
       go_wp2_with fail
       refine .mk (hE undef _ ?_)
       clear hE E
       refine SeqT.nil ?_
       have HKBx := Lib.hid ((KeepBut.of_below (e := 76) HBC.out).trans (KeepBut.of_wrote HW6.out HB17.out))
       have HBx := Lib.hid (HW6.out.below (HBW.out.trans (HBC.out.mono HLO.out)) (Nat.le_trans HLO.out HGA.out) (Nat.le_trans HLO.out HBC.out.size))
       have HOx := Lib.hid (ownR_wrote_r (HOW.out.below HBC.out) HW6.out fun k hk => by have := (HOW.out.lt k hk).2; have := HGA.out; omega)
       have HNX := Lib.hid (show ∀ k, (Value.slice A1 ys.length c1).ownBlock = some k → k ≠ ga from fun k hk => by have := (HOW.out.lt k hk).2; have := HGA.out; omega)
       clear hC1 HC0 a23
       obtain ⟨kd, hkd⟩ : ∃ kd, kd = few60 X.kid := ⟨_, rfl⟩
       obtain ⟨kx, hkx⟩ : ∃ kx, kx = few60 X.x := ⟨_, rfl⟩
       have HKX := Lib.hid (show kx.size ≤ 60 by rw [hkx]; exact few60_le _)
       rw [← hkd, ← hkx] at HB6
       clear hkd hkx
       have c0 : w6.cell? ⟨ga, 0, none⟩ = some (.string kd) := HB6.out.cell 0
       have c1' : w6.cell? ⟨ga, 1, none⟩ = some (.string kx) := HB6.out.cell 1
       go_upto_if 128 with (fail)
       go_cut [] (fun wx => ∃ Y : JwkD, Blk wx ga 76 (jwkCells Y) ∧ Y.x.size ≤ 60 ∧ OwnR wx (w.heap.size + 2) 76 2 A1 c1 ys.length (rowsV jwkCells ys) ∧ Below (w.heap.size + 2) v11 wx ∧ KeepBut 76 v11 wx)
       case first =>
         obtain ⟨q, hq⟩ : ∃ q, kd.toList.isEmpty = q := ⟨_, rfl⟩
         cases q with
         | false =>
           go_wp2_with fail
           · have hx : kd.toList.isEmpty = true := by assumption
             exact absurd (hx.symm.trans hq) (by decide)
           go_meet
           exact ⟨⟨kd, kx⟩, HB6.out, HKX.out, HOx.out, HBx.out, HKB.out.trans HKBx.out⟩
         | true =>
           have hus := Try.underlying9
           have hub8 := Try.underlying78
           have hu8 := Try.underlying5
           obtain ⟨bx, hbx⟩ : ∃ bx, bx = kx.data.toList := ⟨_, rfl⟩
           have HBX2 := Lib.hid (show Js.bs bx = kx by rw [hbx]; apply ByteArray.ext; simp [Js.bs])
           have HBL := Lib.hid (show bx.length = kx.size by rw [hbx]; rfl)
           clear hbx
           go_wp2_with (refine wpList_bytes_of (s := kx) hus hub8 hu8 rfl rfl rfl ?_; intro A7 c7 w7 hr7 hc7 hb7; have HR7 := Lib.hid hr7; have HC7 := Lib.hid hc7; have HB7 := Lib.hid hb7; clear hr7 hc7 hb7)
           have HCN := Lib.hid (show Calls Try.prog 33 #[.slice A7 kx.size c7] w7 fun e w' => (∃ s : ByteArray, e = .returned (.string s)) ∧ Below w7.heap.size w7 w' by
             have h := rname_any bx (by have := HKX.out; have := HBL.out; omega) A7 c7 w7 (by have h2 := HR7.out; rw [← HBX2.out] at h2; simpa [Js.bs] using h2) (by have := HC7.out; have := HBL.out; omega) (Js.digS32_len2 bx)
             rw [HBL.out] at h
             exact h.mono fun e w' h => ⟨⟨_, h.1⟩, h.2⟩)
           refine calls_then HCN.out ?_
           rintro e w8 ⟨⟨sn, rfl⟩, hb8⟩
           have HB8 := Lib.hid (HB7.out.trans (hb8.mono HB7.out.size))
           have HK8 := Lib.hid (HB6.out.below HB8.out HB6.out.lt)
           clear hb8 c0 c1' HCN
           go_wp2_with (refine wpList_put_cell (i := 0) HK8.out rfl rfl rfl rfl (by kernel_rfl) (by simp [jwkCells]) rfl ?_; intro w9 hb9 hw9)
           go_meet
           have hlo6 : w.heap.size + 2 ≤ w6.heap.size := Nat.le_trans HLO.out HKBx.out.1
           exact ⟨⟨sn, kx⟩, hb9, HKX.out, ownR_wrote_r (HOx.out.below HB8.out) hw9 HNX.out, hw9.below (HBx.out.trans (HB8.out.mono hlo6)) (Nat.le_trans HLO.out HGA.out) (Nat.le_trans hlo6 HB8.out.size), (HKB.out.trans HKBx.out).trans ((KeepBut.of_below HB8.out).trans (KeepBut.of_wrote hw9 HK8.out))⟩
           rename_i hx
           exact absurd (hq.symm.trans hx) (by decide)
       case rest =>
       obtain ⟨Y, hby, hyx, hoy, hbly, hky⟩ := hcut
       have HYB := Lib.hid hby
       have HYX := Lib.hid hyx
       have HYO := Lib.hid hoy
       have HYW := Lib.hid hbly
       have HYK := Lib.hid hky
       have HYL2 := Lib.hid (show w.heap.size + 2 ≤ wc.heap.size from Nat.le_trans HSs11.out hbly.size)
       clear hby hyx hoy hbly hky c0 c1'
       go_wp2_with (first
         | refine wpList_get_box (cs := #[.string Y.kid, .string Y.x]) HYB.out rfl rfl rfl huj rfl jwkQ_size ?_
         | (refine wpList_append_r1 (ys := [.string Y.kid, .string Y.x]) sl_jwks rfl rfl HYO.out rfl rfl rfl rfl (by simp [Value.oneCell']) (by unfold maxLen; omega) (by omega) HYL2.out ?_; intro A5 c5 w5 hown5 hgr5 hn5))
       have HO5 := Lib.hid (show OwnR w5 (w.heap.size + 2) 76 2 A5 c5 (ys ++ [Y]).length (rowsV jwkCells (ys ++ [Y])) by rw [rowsV_append, rowsV_one, List.length_append]; exact hown5)
       have HB5 := Lib.hid (show Below (w.heap.size + 2) v11 w5 from HYW.out.grown hgr5 HYL2.out fun j hj => (HYO.out.lt j hj).1)
       have HK5 := Lib.hid (HYK.out.trans (keepBut_grown HYO.out hgr5))
       clear hown5 hgr5 hn5
       go_roundw
       case rel => exact ⟨i + 1, A5, c5, ys ++ [Y], HLT.out, by go_num, by simp, by rw [List.length_append, HYL.out]; rfl, HO5.out, fun y hy => by
         rcases List.mem_append.1 hy with h | h
         · exact HSM.out y h
         · have e : y = Y := by simpa using h
           rw [e]
           exact HYX.out, HB5.out, HK5.out⟩
       case measure => have := HLT.out; simp [intOf]; omega
     · have hor : ¬ ((i : Int) < (nk : Int)) ∨ ((i : Int) < (nk : Int) ∧ ¬ (i : Int) < 9) := by have := HMK.out; omega
       clear hlt
       rcases hor with hor | ⟨hor, hor2⟩
       · go_wp2_with fail
         go_meet
         exact ⟨A1, c1, ys, rfl, hy9, HOW.out, HSM.out, HBW.out, HKB.out⟩
       · go_wp2_with fail
         go_meet
         exact ⟨A1, c1, ys, rfl, hy9, HOW.out, HSM.out, HBW.out, HKB.out⟩
  case rest =>
  obtain ⟨Aj, cj, ys, rfl, hy9, hown, hsm, hbw, hkb⟩ := hcut
  have HYO := Lib.hid hown
  have HYS := Lib.hid hsm
  have HY9 := Lib.hid hy9
  have HKB := Lib.hid hkb
  have HKr := Lib.hid (show Blk wc w.heap.size 47 (opC o11) from HKs11.out.below hbw (by omega))
  have HZr := Lib.hid (show Blk wc (w.heap.size + 1) 47 Z from HZs11.out.below hbw (by omega))
  have HBr := Lib.hid (show Below w.heap.size w wc from HBs11.out.trans (hbw.mono (by omega)))
  have HXr := Lib.hid (HXO11.out.keep hkb (by decide))
  clear hy9 hown hsm hbw hkb
  obtain ⟨oz, hoz⟩ : ∃ o' : OpD, o' = { o11 with bun := { o11.bun with kA := Aj, kn := ys.length, kc := cj } } := ⟨_, rfl⟩
  have HOZ := Lib.hid hoz
  clear hoz
  go_upto_region 27 with (refine wpList_put_cell (i := 23) HKr.out rfl rfl rfl rfl (by kernel_rfl) (by simp [opC]) rfl ?_; intro vz hbz hwz)
  have HKz := Lib.hid (show Blk vz w.heap.size 47 (opC oz) by rw [HOZ.out]; exact hbz)
  have HZz := Lib.hid (hwz.blk HZr.out (by omega))
  have HBz := Lib.hid (hwz.below HBr.out (Nat.le_refl _) HBr.out.size)
  have HXz := Lib.hid (ownR_wrote_r HXr.out hwz fun k hk => by have := (HXr.out.lt k hk).1; omega)
  have HYz := Lib.hid (ownR_wrote_r HYO.out hwz fun k hk => by have := (HYO.out.lt k hk).1; omega)
  clear hbz hwz
  go_wp2_with (first
    | refine wpList_get_box (x := .tmp 1) (cs := opC oz) HKz.out rfl rfl rfl huo rfl opQ_size ?_
    | (refine wpList_put_box (x := .tmp 2) (cells := opC oz) HZz.out rfl rfl rfl rfl opQ_size HZS.out (opC_one _) ?_; intro w9 hb9 hw9))
  have HB9 := Lib.hid hb9
  have HFN := Lib.hid (show CtPost w (.returned (.agg (opC oz))) w9 from ⟨oz, rfl, by
    have hx := ownR_wrote_r HXz.out hw9 fun k hk => by have := (HXz.out.lt k hk).1; omega
    have hy := ownR_wrote_r HYz.out hw9 fun k hk => by have := (HYz.out.lt k hk).1; omega
    have e := HOZ.out
    rw [HE11.out, HE10.out, HE9.out, HE8.out, HE7.out, HE6.out, HE5.out, HE4.out, HE3.out, HE2.out, HE1.out, HE0.out] at e
    have hc1 := hx.cap
    have hc2 := hy.cap
    rw [e]
    exact ⟨by have := few60_le o.name; show (few60 o.name).size ≤ 1000; omega,
      ⟨by have := few60_le o.ent.path; show (few60 o.ent.path).size ≤ 1000; omega, by have := few60_le o.ent.parent; show (few60 o.ent.parent).size ≤ 1000; omega, hc1, by have := HX6.out; show xs.length ≤ 1000; omega, xs, rfl, fun s hs => by have := HXS.out s hs; omega, hx.row⟩,
      by have := few60_le o.join.text; show (few60 o.join.text).size ≤ 1000; omega, by have := few60_le o.join.name; show (few60 o.join.name).size ≤ 1000; omega, by have := few60_le o.node.name; show (few60 o.node.name).size ≤ 1000; omega,
      ⟨by have := few60_le o.bun.dom; show (few60 o.bun.dom).size ≤ 1000; omega, hc2, by have := HY9.out; show ys.length ≤ 1000; omega, ys, rfl, fun y hy' => by have := HYS.out y hy'; omega, hy.row⟩⟩, hw9.below HBz.out (by omega) HBz.out.size⟩)
  refine bodyPost_ret (results_box (P := Try.prog) rfl rfl HB9.out huo rfl opQ_size) rfl ?_
  exact HFN.out
end Go.Proofs.Ytcnebbhnpocofaa
/-
  Walks: clock's Add, within, Until, Over.
-/
namespace Go.Proofs.Ytcnebbhnpocofaa
set_option linter.unusedSimpArgs false
set_option linter.unusedVariables false
open Go.RowKit
def satA (a b : Int) : Int := if a + b > 9223372036854775807 then 9223372036854775807 else if a + b < -9223372036854775808 then -9223372036854775808 else a + b
def timeT (t : Int) : Int := if t < 0 then 0 else if t > 1099511627776 then 1099511627776 else t
theorem wrap64_sum (a b : Int) (ha : -9223372036854775808 ≤ a ∧ a ≤ 9223372036854775807) (hb : -9223372036854775808 ≤ b ∧ b ≤ 9223372036854775807) :
    (wrap64 (a + b) = a + b - 18446744073709551616 ∧ a + b > 9223372036854775807) ∨ (wrap64 (a + b) = a + b + 18446744073709551616 ∧ a + b < -9223372036854775808) ∨ (wrap64 (a + b) = a + b ∧ -9223372036854775808 ≤ a + b ∧ a + b ≤ 9223372036854775807) := by
  unfold wrap64
  omega
theorem satA_range (a b : Int) : -9223372036854775808 ≤ satA a b ∧ satA a b ≤ 9223372036854775807 := by unfold satA; repeat' split <;> omega
theorem satA_zero {a : Int} (ha : -9223372036854775808 ≤ a ∧ a ≤ 9223372036854775807) : satA 0 a = a := by unfold satA; repeat' split <;> omega
def addC (a b : Int) : Int := if 0 < a ∧ 0 < b ∧ wrap64 (a + b) < a then 9223372036854775807 else if a < 0 ∧ b < 0 ∧ 0 ≤ wrap64 (a + b) then -9223372036854775808 else wrap64 (a + b)
theorem addC_eq (a b : Int) (ha : -9223372036854775808 ≤ a ∧ a ≤ 9223372036854775807) (hb : -9223372036854775808 ≤ b ∧ b ≤ 9223372036854775807) : addC a b = satA a b := by
  unfold addC satA
  have hw := wrap64_sum a b ha hb
  generalize wrap64 (a + b) = x at *
  repeat' split
  all_goals omega
def timeC (a b : Int) : Int := timeT (addC (addC 0 a) b)
theorem timeC_eq (a b : Int) (ha : -9223372036854775808 ≤ a ∧ a ≤ 9223372036854775807) (hb : -9223372036854775808 ≤ b ∧ b ≤ 9223372036854775807) : timeC a b = timeT (satA a b) := by
  rw [timeC, addC_eq 0 a (by omega) ha, satA_zero ha, addC_eq a b ha hb]
set_option maxRecDepth 100000 in
set_option maxHeartbeats 1000000 in
theorem cadd_any (a b : Int) (w : World) :
    Calls Try.prog 50 #[.int .i64 a, .int .i64 b] w (fun e w' => e = .returned (.int .i64 (addC a b)) ∧ w' = w) := by
  obtain ⟨r, hr⟩ : ∃ r, r = addC a b := ⟨_, rfl⟩
  rw [← hr]
  have HR := Lib.hid hr
  clear hr
  go_enter Try.func50, Try.ntmps50
  go_wp2_with fail
  all_goals go_ret
  all_goals refine ⟨?_, rfl⟩
  all_goals rw [HR.out]
  all_goals refine congrArg (fun x => Ending.returned (.int .i64 x)) ?_
  all_goals unfold addC
  all_goals generalize wrap64 (a + b) = x at *
  all_goals (repeat' split)
  all_goals omega
set_option maxRecDepth 100000 in
set_option maxHeartbeats 1000000 in
theorem cwithin_any (a b : Int) (g : Nat) (w : World) (hk : Blk w g 3 #[.int .i64 a, .int .i64 b]) :
    Calls Try.prog 36 #[.slice (some ⟨g, 0, none⟩) 2 2] w (fun e w' => e = .returned (.int .i64 (timeC a b)) ∧ w' = w) := by
  have d0 : w.cell? ⟨g, 0, none⟩ = some (.int .i64 a) := hk.cell 0
  have d1 : w.cell? ⟨g, 1, none⟩ = some (.int .i64 b) := hk.cell 1
  obtain ⟨a0, ha0⟩ : ∃ s, s = addC 0 a := ⟨_, rfl⟩
  have CA := Lib.hid (show ∀ u, Calls Try.prog 50 #[.int .i64 0, .int .i64 a] u (fun e w' => e = .returned (.int .i64 a0) ∧ w' = u) from fun u => by rw [ha0]; exact cadd_any 0 a u)
  obtain ⟨s, hs⟩ : ∃ s, s = addC a0 b := ⟨_, rfl⟩
  have CB := Lib.hid (show ∀ u, Calls Try.prog 50 #[.int .i64 a0, .int .i64 b] u (fun e w' => e = .returned (.int .i64 s) ∧ w' = u) from fun u => by rw [hs]; exact cadd_any a0 b u)
  rw [timeC, ← ha0, ← hs]
  obtain ⟨r, hr⟩ : ∃ r, r = timeT s := ⟨_, rfl⟩
  rw [← hr]
  have HR := Lib.hid hr
  clear hs hr hk ha0
  go_enter Try.func36, Try.ntmps36
  go_wp2_with fail
  go_loopw [3, 8] (fun t i wr => ∃ k : Nat, k ≤ 2 ∧ i = .int .i64 (k : Int) ∧ wr = w ∧ t = .int .i64 (if k = 0 then 0 else if k = 1 then a0 else s)) (fun _ i _ => 2 - (intOf i).toNat)
  case atStart => exact ⟨0, by omega, rfl, rfl, rfl⟩
  case round =>
    obtain ⟨k, hk, rfl, rfl, rfl⟩ := hrel
    have hk3 : k = 0 ∨ k = 1 ∨ k = 2 := by omega
    rcases hk3 with rfl | rfl | rfl
    · simp only [if_true]
      go_wp2_with fail
      refine calls_then (CA.out _) ?_
      rintro e w2 ⟨rfl, rfl⟩
      go_wp2_with fail
      go_roundw
      case rel => exact ⟨1, by omega, by simp, by simp, by simp⟩
      case measure => simp [intOf]
    · simp only [if_neg (show ¬ (1 : Nat) = 0 by decide), if_true]
      go_wp2_with fail
      refine calls_then (CB.out _) ?_
      rintro e w2 ⟨rfl, rfl⟩
      go_wp2_with fail
      go_roundw
      case rel => exact ⟨2, by omega, by simp, by simp, by simp⟩
      case measure => simp [intOf]
    · simp only [if_neg (show ¬ (2 : Nat) = 0 by decide), if_neg (show ¬ (2 : Nat) = 1 by decide)]
      go_wp2_with fail
      all_goals go_ret
      all_goals refine ⟨?_, rfl⟩
      all_goals rw [HR.out]
      all_goals refine congrArg (fun x => Ending.returned (.int .i64 x)) ?_
      all_goals unfold timeT
      all_goals (repeat' split)
      all_goals omega
theorem cuntil_any (a b : Int) (w : World) :
    Calls Try.prog 23 #[.int .i64 a, .int .i64 b] w (fun e w' => e = .returned (.int .i64 (timeC a b)) ∧ Below w.heap.size w w') := by
  have hk := Blk.new w 3 #[.int .i64 a, .int .i64 b]
  have CW := Lib.hid (cwithin_any a b w.heap.size _ hk)
  have HB := Lib.hid (show Below w.heap.size w (w.alloc (.cells #[.int .i64 a, .int .i64 b] 3)) from (Below.refl _ _).alloc (Nat.le_refl _) _)
  clear hk
  go_enter Try.func23, Try.ntmps23
  go_wp2_with fail
  refine calls_then CW.out ?_
  rintro e w2 ⟨rfl, rfl⟩
  go_wp2_with fail
  go_ret
  exact ⟨rfl, HB.out⟩
theorem cover_any (a b : Int) (w : World) : Calls Try.prog 20 #[.int .i64 a, .int .i64 b] w (fun e w' => e = .returned (.bool (decide (b ≤ a))) ∧ w' = w) := by
  go_enter Try.func20, Try.ntmps20
  go_wp2_with fail
  all_goals go_ret
  all_goals first | exact ⟨rfl, rfl⟩ | (refine ⟨?_, rfl⟩; simp; try omega)
end Go.Proofs.Ytcnebbhnpocofaa
/-
  Walks: the reference's clock.
-/
namespace Go.Proofs.Ytcnebbhnpocofaa
set_option linter.unusedSimpArgs false
set_option linter.unusedVariables false
open Go.RowKit
set_option maxRecDepth 100000 in
set_option maxHeartbeats 1000000 in
theorem radd17_any (a b : Int) (ha : -9223372036854775808 ≤ a ∧ a ≤ 9223372036854775807) (hb : -9223372036854775808 ≤ b ∧ b ≤ 9223372036854775807) (w : World) :
    Calls Try.prog 38 #[.int .i64 a, .int .i64 b] w (fun e w' => e = .returned (.int .i64 (satA a b)) ∧ w' = w) := by
  obtain ⟨r, hr⟩ : ∃ r, r = satA a b := ⟨_, rfl⟩
  rw [← hr]
  have HR := Lib.hid hr
  have HA := Lib.hid ha
  have HB := Lib.hid hb
  clear hr ha hb
  go_enter Try.func38, Try.ntmps38
  go_wp2_with fail
  all_goals go_ret
  all_goals refine ⟨?_, rfl⟩
  all_goals rw [HR.out]
  all_goals refine congrArg (fun x => Ending.returned (.int .i64 x)) ?_
  all_goals have ha := HA.out
  all_goals have hb := HB.out
  all_goals unfold satA
  all_goals unfold wrap64 at *
  all_goals (repeat' split)
  all_goals omega
theorem rtime_any (t : Int) (w : World) : Calls Try.prog 37 #[.int .i64 t] w (fun e w' => e = .returned (.int .i64 (timeT t)) ∧ w' = w) := by
  obtain ⟨r, hr⟩ : ∃ r, r = timeT t := ⟨_, rfl⟩
  rw [← hr]
  have HR := Lib.hid hr
  clear hr
  go_enter Try.func37, Try.ntmps37
  go_wp2_with fail
  all_goals go_ret
  all_goals refine ⟨?_, rfl⟩
  all_goals rw [HR.out]
  all_goals refine congrArg (fun x => Ending.returned (.int .i64 x)) ?_
  all_goals unfold timeT
  all_goals (repeat' split)
  all_goals omega
def InR (n : Int) : Prop := -9223372036854775808 ≤ n ∧ n ≤ 9223372036854775807
end Go.Proofs.Ytcnebbhnpocofaa
/-
  Opening an argument that is a list of operations; one that is an ask.
-/
namespace Go.Proofs.Ytcnebbhnpocofaa
set_option linter.unusedSimpArgs false
set_option linter.unusedVariables false
open Go.ChangeShapes Go.WideShapes Go.ChangeAt Go.RowKit Go.Joins
theorem inR_wf {n : Int} (h : (Lit.int .i64 n).wf = true) : InR n := by
  rw [Lit.wf, Bool.and_eq_true, decide_eq_true_iff, decide_eq_true_iff, show IntKind.i64.min = -9223372036854775808 by decide, show IntKind.i64.max = 9223372036854775807 by decide] at h
  exact h
instance : Inhabited OpD := ⟨⟨0, 0, ⟨#[]⟩, ⟨0, ⟨#[]⟩, ⟨#[]⟩, 0, none, 0, 0⟩, ⟨⟨#[]⟩, ⟨#[]⟩, 0, false⟩, ⟨⟨#[]⟩, ⟨#[]⟩, 0, 0, ⟨#[]⟩⟩, ⟨⟨#[]⟩, ⟨#[]⟩, 0, 0⟩, ⟨⟨#[]⟩, 0, none, 0, 0⟩⟩⟩
instance : Inhabited JwkD := ⟨⟨⟨#[]⟩, ⟨#[]⟩⟩⟩
section
variable {H : Type} {enc : TypeId × Value → H} {w : World} {base : Nat} {spare : Nat → Bool} {held : Bool}
theorem open_rows {α : Type} [Inhabited α] {f : α → Array Value} {m : Nat} (hf : ∀ x, (f x).size = m) (hm0 : 0 < m) {t e : TypeId} (ht : Try.prog.underlying t = some (.slice e)) (hc : Try.prog.cellsOf e = m) {P0 : α → Prop}
    (hel : ∀ {fuel : Nat} {cs : List Value} {x : DataW H × List MemPlace}, DataW.trod enc Try.prog w base spare held fuel e cs = some x → cs.length = m → ∃ k, cs = (f k).toList ∧ P0 k)
    {fuel : Nat} {cs : List Value} {x : DataW H × List MemPlace} (h : DataW.trod enc Try.prog w base spare held fuel t cs = some x) :
    ∃ (A : Option Addr) (c : Nat) (l : List α), cs = [.slice A l.length c] ∧ Rd w w.heap.size A (rowsV f l) ∧ l.length ≤ maxLen ∧ ∀ k ∈ l, P0 k := by
  rcases Deep.open_slice ht h with ⟨rfl, _⟩ | ⟨a, len, cap, mm, n, D, Pl, rfl, hb, hl, hm, hmm, rfl, hx⟩
  · exact ⟨none, 0, [], rfl, Rd.nil _ _ _, Nat.zero_le _, fun k hk => by cases hk⟩
  · have hlm : len ≤ mm := by rw [hmm]; split <;> omega
    rw [hc] at hx
    obtain ⟨g, hg⟩ := Deep.choose_lt (α := α) (n := mm) (p := fun i q => w.cells? base (a.add (i * m)) m = some (f q).toList ∧ P0 q) (fun i hi => by
      obtain ⟨cs', h1, h2⟩ := hx i hi
      obtain ⟨_, hlen, _⟩ := World.cells?_some h1
      obtain ⟨k, rfl, hk⟩ := hel h2 hlen
      exact ⟨k, h1, hk⟩)
    refine ⟨some a, cap, (List.range len).map g, by simp, fun i u hu => ?_, by simp; omega, fun k hk => ?_⟩
    · have hl5 : (rowsV f ((List.range len).map g)).length = len * m := by rw [rowsV_len hf]; simp
      have hi : i < len * m := by
        have := (List.getElem?_eq_some_iff.1 hu).1
        rwa [hl5] at this
      have hq : i / m < len := (Nat.div_lt_iff_lt_mul hm0).2 hi
      have hr : i % m < m := Nat.mod_lt _ hm0
      have he : i / m * m + i % m = i := by rw [Nat.mul_comm]; exact Nat.div_add_mod i m
      obtain ⟨_, hlen, hcell⟩ := World.cells?_some (hg (i / m) (by omega)).1
      have hc := hcell (i % m) hr
      obtain ⟨v, hv⟩ : ∃ v, (f (g (i / m)))[i % m]? = some v := ⟨_, Array.getElem?_eq_getElem (by rw [hf]; exact hr)⟩
      have hkv := rowsV_at (f := f) hf ((List.range len).map g) (i / m) (by simpa using hq) (i % m) v (by rw [List.getElem_map, List.getElem_range]; exact hv)
      rw [he] at hkv
      rw [hkv] at hu
      injection hu with hu
      subst hu
      rw [Deep.add_add, he] at hc
      have hc' : w.cell? (a.add i) = some v := by
        rw [hc, Array.getElem?_toList]
        exact hv
      refine ⟨a, rfl, ?_, hc'⟩
      have := World.block_lt_of_cell? w _ hc'
      rwa [block_of_add] at this
    · obtain ⟨i, hi, rfl⟩ := List.mem_map.1 hk
      exact (hg i (by have := List.mem_range.1 hi; omega)).2
set_option maxRecDepth 100000 in
theorem open_jwk2 {fuel : Nat} {cs : List Value} {x : DataW H × List MemPlace} (h : DataW.trod enc Try.prog w base spare held fuel 76 cs = some x) (hl : cs.length = 2) :
    ∃ k : JwkD, cs = (jwkCells k).toList ∧ True := by
  obtain ⟨xs, n, _, hx, _, hlen, hf⟩ := DataW.trod_struct Try.underlying76 h
  match xs, hlen, cs, hl with
  | [y0, y1], _, [v0, v1], _ =>
    have c0 : Try.prog.cellsOf 9 = 1 := by kernel_rfl
    have g0 := hf 0 _ rfl
    have g1 := hf 1 _ rfl
    simp [c0] at g0 g1
    obtain ⟨s0, e0, -, w0⟩ := DataW.trod_string Try.underlying9 g0
    obtain ⟨s1, e1, -, w1⟩ := DataW.trod_string Try.underlying9 g1
    injection e0 with e0
    injection e1 with e1
    subst e0 e1
    exact ⟨⟨s0, s1⟩, rfl, trivial⟩
set_option maxRecDepth 100000 in
theorem open_ent {fuel : Nat} {cs : List Value} {x : DataW H × List MemPlace} (h : DataW.trod enc Try.prog w base spare held fuel 36 cs = some x) (hl : cs.length = 5) :
    ∃ k : EntD, cs = (entCells k).toList ∧ (∃ l : List ByteArray, l.length = k.sn ∧ Rd w w.heap.size k.sA (l.map Value.string)) ∧ k.sn ≤ maxLen := by
  obtain ⟨xs, n, _, hx, _, hlen, hf⟩ := DataW.trod_struct Try.underlying36 h
  match xs, hlen, cs, hl with
  | [y0, y1, y2, y3, y4], _, [v0, v1, v2, v3, v4], _ =>
    have c0 : Try.prog.cellsOf 9 = 1 := by kernel_rfl
    have c1 : Try.prog.cellsOf 3 = 1 := by kernel_rfl
    have c2 : Try.prog.cellsOf 28 = 1 := by kernel_rfl
    have g0 := hf 0 _ rfl
    have g1 := hf 1 _ rfl
    have g2 := hf 2 _ rfl
    have g3 := hf 3 _ rfl
    have g4 := hf 4 _ rfl
    simp [c0, c1, c2] at g0 g1 g2 g3 g4
    obtain ⟨n0, e0, -, w0⟩ := DataW.trod_int Try.underlying3 g0
    obtain ⟨s1, e1, -, w1⟩ := DataW.trod_string Try.underlying9 g1
    obtain ⟨s2, e2, -, w2⟩ := DataW.trod_string Try.underlying9 g2
    obtain ⟨n3, e3, -, w3⟩ := DataW.trod_int Try.underlying3 g3
    obtain ⟨A, c, l, e4, -, hm, hr, -⟩ := open_strs_rd Try.underlying28 Try.underlying9 c0 g4
    injection e0 with e0
    injection e1 with e1
    injection e2 with e2
    injection e3 with e3
    injection e4 with e4
    subst e0 e1 e2 e3 e4
    exact ⟨⟨n0, s1, s2, n3, A, l.length, c⟩, rfl, ⟨l, rfl, hr⟩, hm⟩
set_option maxRecDepth 100000 in
theorem open_join {fuel : Nat} {cs : List Value} {x : DataW H × List MemPlace} (h : DataW.trod enc Try.prog w base spare held fuel 38 cs = some x) (hl : cs.length = 4) :
    ∃ k : JoinD, cs = (joinCells k).toList := by
  obtain ⟨xs, n, _, hx, _, hlen, hf⟩ := DataW.trod_struct Try.underlying38 h
  match xs, hlen, cs, hl with
  | [y0, y1, y2, y3], _, [v0, v1, v2, v3], _ =>
    have c0 : Try.prog.cellsOf 9 = 1 := by kernel_rfl
    have c1 : Try.prog.cellsOf 3 = 1 := by kernel_rfl
    have c2 : Try.prog.cellsOf 4 = 1 := by kernel_rfl
    have g0 := hf 0 _ rfl
    have g1 := hf 1 _ rfl
    have g2 := hf 2 _ rfl
    have g3 := hf 3 _ rfl
    simp [c0, c1, c2] at g0 g1 g2 g3
    obtain ⟨s0, e0, -, w0⟩ := DataW.trod_string Try.underlying9 g0
    obtain ⟨s1, e1, -, w1⟩ := DataW.trod_string Try.underlying9 g1
    obtain ⟨n2, e2, -, w2⟩ := DataW.trod_int Try.underlying3 g2
    obtain ⟨b3, e3, -⟩ := DataW.trod_bool Try.underlying4 g3
    injection e0 with e0
    injection e1 with e1
    injection e2 with e2
    injection e3 with e3
    subst e0 e1 e2 e3
    exact ⟨⟨s0, s1, n2, b3⟩, rfl⟩
set_option maxRecDepth 100000 in
theorem open_node {fuel : Nat} {cs : List Value} {x : DataW H × List MemPlace} (h : DataW.trod enc Try.prog w base spare held fuel 40 cs = some x) (hl : cs.length = 5) :
    ∃ k : NodeD, cs = (nodeCells k).toList := by
  obtain ⟨xs, n, _, hx, _, hlen, hf⟩ := DataW.trod_struct Try.underlying40 h
  match xs, hlen, cs, hl with
  | [y0, y1, y2, y3, y4], _, [v0, v1, v2, v3, v4], _ =>
    have c0 : Try.prog.cellsOf 9 = 1 := by kernel_rfl
    have c1 : Try.prog.cellsOf 3 = 1 := by kernel_rfl
    have g0 := hf 0 _ rfl
    have g1 := hf 1 _ rfl
    have g2 := hf 2 _ rfl
    have g3 := hf 3 _ rfl
    have g4 := hf 4 _ rfl
    simp [c0, c1] at g0 g1 g2 g3 g4
    obtain ⟨s0, e0, -, w0⟩ := DataW.trod_string Try.underlying9 g0
    obtain ⟨s1, e1, -, w1⟩ := DataW.trod_string Try.underlying9 g1
    obtain ⟨n2, e2, -, w2⟩ := DataW.trod_int Try.underlying3 g2
    obtain ⟨n3, e3, -, w3⟩ := DataW.trod_int Try.underlying3 g3
    obtain ⟨s4, e4, -, w4⟩ := DataW.trod_string Try.underlying9 g4
    injection e0 with e0
    injection e1 with e1
    injection e2 with e2
    injection e3 with e3
    injection e4 with e4
    subst e0 e1 e2 e3 e4
    exact ⟨⟨s0, s1, n2, n3, s4⟩, rfl⟩
set_option maxRecDepth 100000 in
theorem open_skey {fuel : Nat} {cs : List Value} {x : DataW H × List MemPlace} (h : DataW.trod enc Try.prog w base spare held fuel 42 cs = some x) (hl : cs.length = 4) :
    ∃ k : SkeyD, cs = (skeyCells k).toList := by
  obtain ⟨xs, n, _, hx, _, hlen, hf⟩ := DataW.trod_struct Try.underlying42 h
  match xs, hlen, cs, hl with
  | [y0, y1, y2, y3], _, [v0, v1, v2, v3], _ =>
    have c0 : Try.prog.cellsOf 9 = 1 := by kernel_rfl
    have c1 : Try.prog.cellsOf 3 = 1 := by kernel_rfl
    have g0 := hf 0 _ rfl
    have g1 := hf 1 _ rfl
    have g2 := hf 2 _ rfl
    have g3 := hf 3 _ rfl
    simp [c0, c1] at g0 g1 g2 g3
    obtain ⟨s0, e0, -, w0⟩ := DataW.trod_string Try.underlying9 g0
    obtain ⟨s1, e1, -, w1⟩ := DataW.trod_string Try.underlying9 g1
    obtain ⟨n2, e2, -, w2⟩ := DataW.trod_int Try.underlying3 g2
    obtain ⟨n3, e3, -, w3⟩ := DataW.trod_int Try.underlying3 g3
    injection e0 with e0
    injection e1 with e1
    injection e2 with e2
    injection e3 with e3
    subst e0 e1 e2 e3
    exact ⟨⟨s0, s1, n2, n3⟩, rfl⟩
set_option maxRecDepth 100000 in
theorem open_bun2 {fuel : Nat} {cs : List Value} {x : DataW H × List MemPlace} (h : DataW.trod enc Try.prog w base spare held fuel 45 cs = some x) (hl : cs.length = 3) :
    ∃ k : BunD, cs = (bunCells k).toList ∧ (∃ l : List JwkD, l.length = k.kn ∧ Rd w w.heap.size k.kA (rowsV jwkCells l)) ∧ k.kn ≤ maxLen := by
  obtain ⟨xs, n, _, hx, _, hlen, hf⟩ := DataW.trod_struct Try.underlying45 h
  match xs, hlen, cs, hl with
  | [y0, y1, y2], _, [v0, v1, v2], _ =>
    have c0 : Try.prog.cellsOf 9 = 1 := by kernel_rfl
    have c1 : Try.prog.cellsOf 3 = 1 := by kernel_rfl
    have c2 : Try.prog.cellsOf 43 = 1 := by kernel_rfl
    have g0 := hf 0 _ rfl
    have g1 := hf 1 _ rfl
    have g2 := hf 2 _ rfl
    simp [c0, c1, c2] at g0 g1 g2
    obtain ⟨s0, e0, -, w0⟩ := DataW.trod_string Try.underlying9 g0
    obtain ⟨n1, e1, -, w1⟩ := DataW.trod_int Try.underlying3 g1
    obtain ⟨A, c, l, e2, hr, hm, -⟩ := open_rows (f := jwkCells) (m := 2) (P0 := fun _ => True) (fun _ => rfl) (by decide) Try.underlying43 (by kernel_rfl) (fun h hl => open_jwk2 h hl) g2
    injection e0 with e0
    injection e1 with e1
    injection e2 with e2
    subst e0 e1 e2
    exact ⟨⟨s0, n1, A, l.length, c⟩, rfl, ⟨l, rfl, hr⟩, hm⟩
set_option maxRecDepth 100000 in
set_option maxHeartbeats 1000000 in
theorem open_op {fuel : Nat} {cs : List Value} {x : DataW H × List MemPlace} (h : DataW.trod enc Try.prog w base spare held fuel 47 cs = some x) (hl : cs.length = 24) :
    ∃ k : OpD, cs = (opC k).toList ∧ OpSee w w.heap.size k := by
  obtain ⟨xs, n, _, hx, _, hlen, hf⟩ := DataW.trod_struct Try.underlying47 h
  match xs, hlen, cs, hl with
  | [y0, y1, y2, y3, y4, y5, y6, y7], _, [v0, v1, v2, v3, v4, v5, v6, v7, v8, v9, v10, v11, v12, v13, v14, v15, v16, v17, v18, v19, v20, v21, v22, v23], _ =>
    have c0 : Try.prog.cellsOf 9 = 1 := by kernel_rfl
    have c1 : Try.prog.cellsOf 3 = 1 := by kernel_rfl
    have c3 : Try.prog.cellsOf 36 = 5 := by kernel_rfl
    have c4 : Try.prog.cellsOf 38 = 4 := by kernel_rfl
    have c5 : Try.prog.cellsOf 40 = 5 := by kernel_rfl
    have c6 : Try.prog.cellsOf 42 = 4 := by kernel_rfl
    have c7 : Try.prog.cellsOf 45 = 3 := by kernel_rfl
    have g0 := hf 0 _ rfl
    have g1 := hf 1 _ rfl
    have g2 := hf 2 _ rfl
    have g3 := hf 3 _ rfl
    have g4 := hf 4 _ rfl
    have g5 := hf 5 _ rfl
    have g6 := hf 6 _ rfl
    have g7 := hf 7 _ rfl
    simp [c0, c1, c3, c4, c5, c6, c7] at g0 g1 g2 g3 g4 g5 g6 g7
    obtain ⟨n0, e0, -, -⟩ := DataW.trod_int Try.underlying3 g0
    obtain ⟨n1, e1, -, -⟩ := DataW.trod_int Try.underlying3 g1
    obtain ⟨s2, e2, -, -⟩ := DataW.trod_string Try.underlying9 g2
    obtain ⟨k3, e3, h3, m3⟩ := open_ent g3 rfl
    obtain ⟨k4, e4⟩ := open_join g4 rfl
    obtain ⟨k5, e5⟩ := open_node g5 rfl
    obtain ⟨k6, e6⟩ := open_skey g6 rfl
    obtain ⟨k7, e7, h7, m7⟩ := open_bun2 g7 rfl
    simp [entCells, joinCells, nodeCells, skeyCells, bunCells] at e0 e1 e2 e3 e4 e5 e6 e7
    obtain ⟨rfl, rfl, rfl, rfl, rfl⟩ := e3
    obtain ⟨rfl, rfl, rfl, rfl⟩ := e4
    obtain ⟨rfl, rfl, rfl, rfl, rfl⟩ := e5
    obtain ⟨rfl, rfl, rfl, rfl⟩ := e6
    obtain ⟨rfl, rfl, rfl⟩ := e7
    subst e0 e1 e2
    simp only [maxLen] at m3 m7
    exact ⟨⟨n0, n1, s2, k3, k4, k5, k6, k7⟩, rfl, h3, h7, by show (k3.sn : Int) ≤ _; omega, by show (k7.kn : Int) ≤ _; omega⟩
set_option maxRecDepth 100000 in
theorem open_ops_arg {r : Reach} {b0 : Nat} {v : Value} {d : DataW H} {p : List MemPlace} (hv : Value.okWide Try.prog w r b0 22 v) (h : DataW.Trod enc Try.prog w base spare held 22 v d p) :
    ∃ (A : Option Addr) (c : Nat) (l : List OpD), v = .slice A l.length c ∧ Rd w w.heap.size A (rowsV opC l) ∧ (l.length : Int) ≤ 9223372036854775807 ∧ ∀ o ∈ l, OpSee w w.heap.size o := by
  obtain ⟨a1, len, cap, rfl⟩ := okWide_slice Try.underlying22 hv
  obtain ⟨fuel, hf⟩ := h
  obtain ⟨A, c, l, e, h1, h2, h3⟩ := open_rows (f := opC) (m := 24) (P0 := OpSee w w.heap.size) (fun _ => rfl) (by decide) Try.underlying22 (by kernel_rfl) (fun h hl => open_op h hl) hf
  simp [Value.cells] at e
  obtain ⟨rfl, rfl, rfl⟩ := e
  simp only [maxLen] at h2
  exact ⟨_, _, l, rfl, h1, by omega, h3⟩
/-- an ask -/
structure AskD where
  name : ByteArray
  agent : ByteArray
  key : ByteArray
  now : Int
  ttl : Int
def askC (k : AskD) : Array Value := #[.string k.name, .string k.agent, .string k.key, .int .i64 k.now, .int .i64 k.ttl]
set_option maxRecDepth 100000 in
theorem open_ask_arg {r : Reach} {b0 : Nat} {v : Value} {d : DataW H} {p : List MemPlace} (hv : Value.okWide Try.prog w r b0 24 v) (h : DataW.Trod enc Try.prog w base spare held 24 v d p) :
    ∃ k : AskD, v = .agg (askC k) ∧ InR k.now ∧ InR k.ttl := by
  have c5 : Try.prog.cellsOf 24 = 5 := by kernel_rfl
  obtain ⟨cs, rfl, hsz⟩ := okWide_struct Try.underlying24 hv
  obtain ⟨fuel, hf⟩ := h
  have hl : cs.toList.length = 5 := by rw [← c5]; exact hsz
  obtain ⟨xs, n, _, hx, _, hlen, hf⟩ := DataW.trod_struct Try.underlying24 (show DataW.trod enc Try.prog w base spare held fuel 24 cs.toList = some (d, p) from hf)
  generalize hcs : cs.toList = l at hl hf
  match xs, hlen, l, hl with
  | [y0, y1, y2, y3, y4], _, [v0, v1, v2, v3, v4], _ =>
    have c0 : Try.prog.cellsOf 9 = 1 := by kernel_rfl
    have c1 : Try.prog.cellsOf 3 = 1 := by kernel_rfl
    have g0 := hf 0 _ rfl
    have g1 := hf 1 _ rfl
    have g2 := hf 2 _ rfl
    have g3 := hf 3 _ rfl
    have g4 := hf 4 _ rfl
    simp [c0, c1] at g0 g1 g2 g3 g4
    obtain ⟨s0, e0, -, -⟩ := DataW.trod_string Try.underlying9 g0
    obtain ⟨s1, e1, -, -⟩ := DataW.trod_string Try.underlying9 g1
    obtain ⟨s2, e2, -, -⟩ := DataW.trod_string Try.underlying9 g2
    obtain ⟨n3, e3, -, w3⟩ := DataW.trod_int Try.underlying3 g3
    obtain ⟨n4, e4, -, w4⟩ := DataW.trod_int Try.underlying3 g4
    injection e0 with e0
    injection e1 with e1
    injection e2 with e2
    injection e3 with e3
    injection e4 with e4
    subst e0 e1 e2 e3 e4
    have e' : cs = askC ⟨s0, s1, s2, n3, n4⟩ := Array.ext' hcs
    exact ⟨⟨s0, s1, s2, n3, n4⟩, by rw [e'], inR_wf w3, inR_wf w4⟩
end
end Go.Proofs.Ytcnebbhnpocofaa
/-
  Walks: attest.find of join tokens and of nodes. (Printed by gen/fn20.py.)
-/
namespace Go.Proofs.Ytcnebbhnpocofaa
set_option linter.unusedSimpArgs false
set_option linter.unusedVariables false
open Go.RowKit

section
variable {α : Type} (p : α → Bool)
def ixP (l : List α) : Nat := (l.takeWhile fun x => !p x).length
def ixZ (l : List α) : Int := if ixP p l < l.length then (ixP p l : Int) else -1
theorem ixP_eq {l : List α} {i : Nat} (h0 : ∀ x ∈ l.take i, p x = false) (h : i < l.length) (h1 : p l[i] = true) : ixP p l = i := by
  have e : l = l.take i ++ l[i] :: l.drop (i + 1) := by rw [← List.drop_eq_getElem_cons h, List.take_append_drop]
  have e2 : l.takeWhile (fun x => !p x) = l.take i := by
    conv => lhs; rw [e]
    rw [List.takeWhile_append_of_pos (by intro x hx; simp only [h0 x hx]; rfl), List.takeWhile_cons, h1]
    simp
  rw [ixP, e2, List.length_take]
  omega
theorem ixP_all {l : List α} (h0 : ∀ x ∈ l, p x = false) : ixP p l = l.length := by
  have := List.takeWhile_append_of_pos (p := fun x : α => !p x) (l₁ := l) (l₂ := []) (by intro x hx; simp only [h0 x hx]; rfl)
  rw [ixP]
  simp only [List.append_nil, List.takeWhile_nil] at this
  rw [this]
theorem find_at {l : List α} {i : Nat} (h0 : ∀ x ∈ l.take i, p x = false) (h : i < l.length) (h1 : p l[i] = true) : l.find? p = some l[i] := by
  have e : l = l.take i ++ l[i] :: l.drop (i + 1) := by rw [← List.drop_eq_getElem_cons h, List.take_append_drop]
  conv => lhs; rw [e]
  rw [List.find?_append, List.find?_eq_none.2 (fun x hx => by simp [h0 x hx]), List.find?_cons_of_pos h1]
  rfl
theorem ix_find (l : List α) : (ixP p l < l.length ∧ ∃ h : ixP p l < l.length, l.find? p = some l[ixP p l]) ∨ (¬ ixP p l < l.length ∧ l.find? p = none) := by
  induction l with
  | nil => exact .inr ⟨by simp [ixP], rfl⟩
  | cons x r ih =>
    by_cases hp : p x = true
    · have e : ixP p (x :: r) = 0 := by simp [ixP, List.takeWhile_cons, hp]
      refine .inl ⟨by rw [e]; simp, by rw [e]; simp, ?_⟩
      simp only [e, List.getElem_cons_zero]
      rw [List.find?_cons_of_pos hp]
    · have hp' : p x = false := by simpa using hp
      have e : ixP p (x :: r) = ixP p r + 1 := by simp [ixP, List.takeWhile_cons, hp']
      rcases ih with ⟨h1, h2, h3⟩ | ⟨h1, h2⟩
      · refine .inl ⟨by rw [e]; simpa using h1, by rw [e]; simpa using h1, ?_⟩
        simp only [e, List.getElem_cons_succ]
        rw [List.find?_cons_of_neg (by simp [hp']), h3]
      · exact .inr ⟨by rw [e]; simpa using h1, by rw [List.find?_cons_of_neg (by simp [hp']), h2]⟩
end
def eqJ (s : ByteArray) (x : JoinD) : Bool := (x.text.toList == s.toList)
set_option maxRecDepth 100000 in
set_option maxHeartbeats 2000000 in
theorem j1_any (k : JoinD) (s : ByteArray) (g : Nat) (u : World) (hb : Blk u g 9 #[.string s]) :
    Calls Try.prog 19 #[.agg (joinCells k), .pointer (some ⟨g, 0, none⟩)] u fun e w' => e = .returned (.bool (eqJ s k)) ∧ Below u.heap.size u w' := by
  obtain ⟨W0, hW0⟩ : ∃ W0, W0 = u.alloc (.cells (joinCells k) 38) := ⟨_, rfl⟩
  have HB0 := Lib.hid (show Below u.heap.size u W0 by rw [hW0]; exact (Below.refl _ u).alloc (Nat.le_refl _) _)
  have hk : Blk W0 u.heap.size 38 (joinCells k) := by rw [hW0]; exact Blk.new _ _ _
  have hg : Blk W0 g 9 #[.string s] := hb.below HB0.out hb.lt
  have a0 : W0.cell? ⟨u.heap.size, 0, none⟩ = some (.string k.text) := hk.cell 0
  have a1 : W0.cell? ⟨g, 0, none⟩ = some (.string s) := hg.cell 0
  have HW0 := Lib.hid hW0
  obtain ⟨q, hq⟩ : ∃ q, q = eqJ s k := ⟨_, rfl⟩
  have hqq : (k.text.toList == s.toList) = q := by rw [hq]; rfl
  rw [← hq]
  clear hk hg hb hW0 hq
  go_enter Try.func19, Try.ntmps19
  go_upto_region 1 with (fail)
  rw [← HW0.out]
  generalize Value.agg (joinCells k) = AV
  cases q with
  | true =>
    go_wp2_with fail
    go_ret
    exact ⟨rfl, HB0.out⟩
  | false =>
    go_wp2_with fail
    go_ret
    exact ⟨rfl, HB0.out⟩
set_option maxRecDepth 100000 in
set_option maxHeartbeats 2000000 in
theorem jix_any (l : List JoinD) (s : ByteArray) (A : Option Addr) (c B g : Nat) (w : World) (hr : Rd w B A (rowsV joinCells l)) (hB : B ≤ w.heap.size) (hl : l.length ≤ 1000) (hb : Blk w g 9 #[.string s]) :
    Calls Try.prog 34 #[.slice A l.length c, .func (.func 19) #[] #[.pointer (some ⟨g, 0, none⟩)]] w fun e w' => e = .returned (.int .i64 (ixZ (eqJ s) l)) ∧ Below w.heap.size w w' := by
  have eg : ∀ args w, (callFunc 19 args).run Try.prog w = .ok (.enter 19 args) w := enters_of Try.func19 (by kernel_rfl) rfl
  have huj := Try.underlying38
  obtain ⟨n, hn⟩ : ∃ n, n = l.length := ⟨_, rfl⟩
  have HN := Lib.hid hn
  have HR := Lib.hid hr
  have HBK := Lib.hid hb
  have HBB := Lib.hid hB
  have HL := Lib.hid (show (n : Int) ≤ 1000 by omega)
  have HR0 := Lib.hid (Below.refl w.heap.size w)
  obtain ⟨z, hz⟩ : ∃ z, z = ixZ (eqJ s) l := ⟨_, rfl⟩
  have HZ := Lib.hid hz
  rw [← hn, ← hz]
  clear hr hl hn hB hb hz
  go_enter Try.func34, Try.ntmps34
  go_wp2_with fail
  go_loopw [8] (fun x wr => ∃ i : Nat, i ≤ n ∧ x = .int .i64 (i : Int) ∧ (∀ k ∈ l.take i, eqJ s k = false) ∧ Below w.heap.size w wr) (fun x _ => n - (intOf x).toNat)
  case atStart => exact ⟨0, Nat.zero_le _, rfl, by simp, HR0.out⟩
  case round =>
    obtain ⟨i, hi, rfl, hok, hbw⟩ := hrel
    have HOK := Lib.hid hok
    have HBW := Lib.hid hbw
    clear hok hbw
    have hns := HL.out
    by_cases hlt : i < n
    · have hil : i < l.length := by rw [← HN.out]; exact hlt
      have hlt' : (i : Int) < (n : Int) := by omega
      obtain ⟨ad, hA, hadb, hcell⟩ := rd_rows (f := joinCells) (m := 4) (fun _ => rfl) (by decide) (HR.out.below (HBW.out.mono HBB.out)) hil
      subst hA
      obtain ⟨X, hX⟩ : ∃ X, X = l[i] := ⟨_, rfl⟩
      rw [← hX] at hcell
      have HCL := Lib.hid (show ∀ j u, (joinCells X).toList[j]? = some u → wr.cell? ((ad.add (i * 4)).add j) = some u from fun j u hu => hcell j u (by simpa using hu))
      have HC := Lib.hid (j1_any X s g wr (HBK.out.below HBW.out HBK.out.lt))
      have HLT := Lib.hid hlt
      obtain ⟨q, hq⟩ : ∃ q, q = eqJ s X := ⟨_, rfl⟩
      rw [← hq] at HC
      cases q with
      | true =>
        have HP := Lib.hid (show z = (i : Int) by rw [HZ.out, ixZ, ixP_eq _ HOK.out hil (by rw [← hX]; exact hq.symm), if_pos hil])
        clear hX hcell hadb hil hlt hq
        go_wp2_with (first
          | refine wpList_get_rd (r := (joinCells X).toList) HCL.out rfl rfl rfl huj rfl joinT_size ?_
          | (go_at_call 19; refine calls_then HC.out ?_; rintro e W' ⟨rfl, hb'⟩; have HB' := Lib.hid hb'; clear hb'))
        go_ret
        exact ⟨by rw [HP.out]; rfl, HBW.out.trans (HB'.out.mono HBW.out.size)⟩
      | false =>
        have HP := Lib.hid (show ∀ k ∈ l.take (i + 1), eqJ s k = false from fun k hk => by
          rw [List.take_succ_eq_append_getElem hil, List.mem_append] at hk
          rcases hk with hk | hk
          · exact HOK.out k hk
          · have e : k = X := by rw [hX]; simpa using hk
            rw [e]
            exact hq.symm)
        clear hX hcell hadb hil hlt hq
        go_wp2_with (first
          | refine wpList_get_rd (r := (joinCells X).toList) HCL.out rfl rfl rfl huj rfl joinT_size ?_
          | (go_at_call 19; refine calls_then HC.out ?_; rintro e W' ⟨rfl, hb'⟩; have HB' := Lib.hid hb'; clear hb'))
        go_roundw
        case rel => exact ⟨i + 1, HLT.out, by go_num, HP.out, HBW.out.trans (HB'.out.mono HBW.out.size)⟩
        case measure => have := HLT.out; simp [intOf]; omega
    · obtain rfl : i = n := by omega
      have HP := Lib.hid (show z = -1 by
        have h0 : l.take i = l := List.take_of_length_le (by rw [← HN.out]; exact Nat.le_refl _)
        have h := HOK.out
        rw [h0] at h
        rw [HZ.out, ixZ, ixP_all _ h, if_neg (by omega)])
      clear hlt
      go_wp2_with fail
      go_ret
      exact ⟨by rw [HP.out]; rfl, HBW.out⟩
def zJn : JoinD := ⟨⟨#[]⟩, ⟨#[]⟩, 0, false⟩
/-- what find gives -/
def jfind (l : List JoinD) (s : ByteArray) : JoinD × Bool := match l.find? (eqJ s) with
  | some k => (k, true)
  | none => (zJn, false)
set_option maxRecDepth 100000 in
set_option maxHeartbeats 2000000 in
theorem jfind_any (l : List JoinD) (s : ByteArray) (A : Option Addr) (c B g : Nat) (w : World) (hr : Rd w B A (rowsV joinCells l)) (hB : B ≤ w.heap.size) (hl : l.length ≤ 1000) (hb : Blk w g 9 #[.string s]) :
    Calls Try.prog 18 #[.slice A l.length c, .func (.func 19) #[] #[.pointer (some ⟨g, 0, none⟩)]] w fun e w' => e = .returned (.tuple #[.agg (joinCells (jfind l s).1), .bool (jfind l s).2]) ∧ Below w.heap.size w w' := by
  have huj := Try.underlying38
  obtain ⟨W0, hW0⟩ : ∃ W0, W0 = w.alloc (.cells (joinCells zJn) 38) := ⟨_, rfl⟩
  have hb0 : Below w.heap.size w W0 := by rw [hW0]; exact (Below.refl _ w).alloc (Nat.le_refl _) _
  have HB0 := Lib.hid hb0
  have HK0 := Lib.hid (show Blk W0 w.heap.size 38 (joinCells zJn) by rw [hW0]; exact Blk.new _ _ _)
  have HI := Lib.hid (jix_any l s A c B g W0 (hr.below (hb0.mono hB)) (Nat.le_trans hB hb0.size) hl (hb.below hb0 hb.lt))
  have HR := Lib.hid hr
  have HBB := Lib.hid hB
  have HW0 := Lib.hid hW0
  have HE := Lib.hid (show jfind l s = match l.find? (eqJ s) with | some k => (k, true) | none => (zJn, false) from rfl)
  have HX := Lib.hid (ix_find (eqJ s) l)
  obtain ⟨R, hR⟩ : ∃ R, R = jfind l s := ⟨_, rfl⟩
  rw [← hR] at HE ⊢
  obtain ⟨z, hz⟩ : ∃ z, z = ixZ (eqJ s) l := ⟨_, rfl⟩
  rw [← hz] at HI
  have HZ := Lib.hid hz
  obtain ⟨n, hn⟩ : ∃ n, n = l.length := ⟨_, rfl⟩
  rw [← hn] at HI ⊢
  have HN := Lib.hid hn
  have hnl : (n : Int) ≤ 1000 := by omega
  clear hW0 hb0 hr hB hl hb hR hz hn
  go_enter Try.func18, Try.ntmps18
  go_upto_region 1 with (fail)
  rw [show w.alloc (.cells #[.string ⟨#[]⟩, .string ⟨#[]⟩, .int .i64 0, .bool false] 38) = W0 from HW0.out.symm]
  go_wp2_with fail
  refine calls_then HI.out ?_
  rintro e w1 ⟨rfl, hb1⟩
  have HB1 := Lib.hid (HB0.out.trans (hb1.mono HB0.out.size))
  have HK1 := Lib.hid (HK0.out.below hb1 HK0.out.lt)
  clear hb1
  rcases HX.out with ⟨hlt, h2, hf⟩ | ⟨hlt, hf⟩
  · obtain ⟨k, hk⟩ : ∃ k, k = ixP (eqJ s) l := ⟨_, rfl⟩
    have hzk : z = (k : Int) := by rw [HZ.out, ixZ, if_pos hlt, hk]
    subst hzk
    have hk2 : k < l.length := by rw [hk]; exact hlt
    obtain ⟨X, hX⟩ : ∃ X, X = l[k] := ⟨_, rfl⟩
    have HRE := Lib.hid (show R = (X, true) by
      rw [HE.out, hf, hX]
      simp only [hk])
    obtain ⟨ad, hA, -, hcell⟩ := rd_rows (f := joinCells) (m := 4) (fun _ => rfl) (by decide) (HR.out.below (HB1.out.mono HBB.out)) hk2
    subst hA
    rw [← hX] at hcell
    have HCL := Lib.hid (show ∀ j u, (joinCells X).toList[j]? = some u → w1.cell? ((ad.add (k * 4)).add j) = some u from fun j u hu => hcell j u (by simpa using hu))
    have hk0 : (0 : Int) ≤ (k : Int) := by omega
    have hkn : (k : Int) < (n : Int) := by rw [HN.out]; omega
    clear hcell hX hk2 hk hf hlt h2
    go_wp2_with (first
      | refine wpList_get_rd (r := (joinCells X).toList) HCL.out rfl rfl rfl huj rfl joinT_size ?_
      | (refine wpList_put_box (x := .tmp 4) (cells := joinCells X) HK1.out rfl rfl rfl rfl joinT_size rfl (joinCells_one X) ?_; intro w9 hb9 hw9))
    have HB9 := Lib.hid hb9
    have HF9 := Lib.hid (hw9.below HB1.out (Nat.le_refl _) HB1.out.size)
    refine bodyPost_ret (results_box_tmp (P := Try.prog) rfl rfl HB9.out huj rfl joinT_size) rfl ?_
    exact ⟨by rw [HRE.out]; rfl, HF9.out⟩
  · have hzk : z = -1 := by rw [HZ.out, ixZ, if_neg hlt]
    subst hzk
    have HRE := Lib.hid (show R = (zJn, false) by rw [HE.out, hf])
    clear hf hlt
    go_wp2_with (first
      | refine wpList_get_box (x := .tmp 7) (cs := joinCells zJn) (Blk.new _ _ _) rfl rfl rfl huj rfl joinT_size ?_
      | (refine wpList_put_box (x := .tmp 4) (cells := joinCells zJn) (HK1.out.alloc _) rfl rfl rfl rfl joinT_size rfl (joinCells_one _) ?_; intro w9 hb9 hw9))
    have HB9 := Lib.hid hb9
    have HF9 := Lib.hid (hw9.below (HB1.out.alloc HB1.out.size _) (Nat.le_refl _) (by have := HB1.out.size; simp; omega))
    refine bodyPost_ret (results_box_tmp (P := Try.prog) rfl rfl HB9.out huj rfl joinT_size) rfl ?_
    exact ⟨by rw [HRE.out]; rfl, HF9.out⟩
def eqN (s : ByteArray) (x : NodeD) : Bool := (x.name.toList == s.toList)
set_option maxRecDepth 100000 in
set_option maxHeartbeats 2000000 in
theorem n1_any (k : NodeD) (s : ByteArray) (g : Nat) (u : World) (hb : Blk u g 9 #[.string s]) :
    Calls Try.prog 41 #[.agg (nodeCells k), .pointer (some ⟨g, 0, none⟩)] u fun e w' => e = .returned (.bool (eqN s k)) ∧ Below u.heap.size u w' := by
  obtain ⟨W0, hW0⟩ : ∃ W0, W0 = u.alloc (.cells (nodeCells k) 40) := ⟨_, rfl⟩
  have HB0 := Lib.hid (show Below u.heap.size u W0 by rw [hW0]; exact (Below.refl _ u).alloc (Nat.le_refl _) _)
  have hk : Blk W0 u.heap.size 40 (nodeCells k) := by rw [hW0]; exact Blk.new _ _ _
  have hg : Blk W0 g 9 #[.string s] := hb.below HB0.out hb.lt
  have a0 : W0.cell? ⟨u.heap.size, 0, none⟩ = some (.string k.name) := hk.cell 0
  have a1 : W0.cell? ⟨g, 0, none⟩ = some (.string s) := hg.cell 0
  have HW0 := Lib.hid hW0
  obtain ⟨q, hq⟩ : ∃ q, q = eqN s k := ⟨_, rfl⟩
  have hqq : (k.name.toList == s.toList) = q := by rw [hq]; rfl
  rw [← hq]
  clear hk hg hb hW0 hq
  go_enter Try.func41, Try.ntmps41
  go_upto_region 1 with (fail)
  rw [← HW0.out]
  generalize Value.agg (nodeCells k) = AV
  cases q with
  | true =>
    go_wp2_with fail
    go_ret
    exact ⟨rfl, HB0.out⟩
  | false =>
    go_wp2_with fail
    go_ret
    exact ⟨rfl, HB0.out⟩
set_option maxRecDepth 100000 in
set_option maxHeartbeats 2000000 in
theorem nix_any (l : List NodeD) (s : ByteArray) (A : Option Addr) (c B g : Nat) (w : World) (hr : Rd w B A (rowsV nodeCells l)) (hB : B ≤ w.heap.size) (hl : l.length ≤ 1000) (hb : Blk w g 9 #[.string s]) :
    Calls Try.prog 51 #[.slice A l.length c, .func (.func 41) #[] #[.pointer (some ⟨g, 0, none⟩)]] w fun e w' => e = .returned (.int .i64 (ixZ (eqN s) l)) ∧ Below w.heap.size w w' := by
  have eg : ∀ args w, (callFunc 41 args).run Try.prog w = .ok (.enter 41 args) w := enters_of Try.func41 (by kernel_rfl) rfl
  have huj := Try.underlying40
  obtain ⟨n, hn⟩ : ∃ n, n = l.length := ⟨_, rfl⟩
  have HN := Lib.hid hn
  have HR := Lib.hid hr
  have HBK := Lib.hid hb
  have HBB := Lib.hid hB
  have HL := Lib.hid (show (n : Int) ≤ 1000 by omega)
  have HR0 := Lib.hid (Below.refl w.heap.size w)
  obtain ⟨z, hz⟩ : ∃ z, z = ixZ (eqN s) l := ⟨_, rfl⟩
  have HZ := Lib.hid hz
  rw [← hn, ← hz]
  clear hr hl hn hB hb hz
  go_enter Try.func51, Try.ntmps51
  go_wp2_with fail
  go_loopw [8] (fun x wr => ∃ i : Nat, i ≤ n ∧ x = .int .i64 (i : Int) ∧ (∀ k ∈ l.take i, eqN s k = false) ∧ Below w.heap.size w wr) (fun x _ => n - (intOf x).toNat)
  case atStart => exact ⟨0, Nat.zero_le _, rfl, by simp, HR0.out⟩
  case round =>
    obtain ⟨i, hi, rfl, hok, hbw⟩ := hrel
    have HOK := Lib.hid hok
    have HBW := Lib.hid hbw
    clear hok hbw
    have hns := HL.out
    by_cases hlt : i < n
    · have hil : i < l.length := by rw [← HN.out]; exact hlt
      have hlt' : (i : Int) < (n : Int) := by omega
      obtain ⟨ad, hA, hadb, hcell⟩ := rd_rows (f := nodeCells) (m := 5) (fun _ => rfl) (by decide) (HR.out.below (HBW.out.mono HBB.out)) hil
      subst hA
      obtain ⟨X, hX⟩ : ∃ X, X = l[i] := ⟨_, rfl⟩
      rw [← hX] at hcell
      have HCL := Lib.hid (show ∀ j u, (nodeCells X).toList[j]? = some u → wr.cell? ((ad.add (i * 5)).add j) = some u from fun j u hu => hcell j u (by simpa using hu))
      have HC := Lib.hid (n1_any X s g wr (HBK.out.below HBW.out HBK.out.lt))
      have HLT := Lib.hid hlt
      obtain ⟨q, hq⟩ : ∃ q, q = eqN s X := ⟨_, rfl⟩
      rw [← hq] at HC
      cases q with
      | true =>
        have HP := Lib.hid (show z = (i : Int) by rw [HZ.out, ixZ, ixP_eq _ HOK.out hil (by rw [← hX]; exact hq.symm), if_pos hil])
        clear hX hcell hadb hil hlt hq
        go_wp2_with (first
          | refine wpList_get_rd (r := (nodeCells X).toList) HCL.out rfl rfl rfl huj rfl nodeT_size ?_
          | (go_at_call 41; refine calls_then HC.out ?_; rintro e W' ⟨rfl, hb'⟩; have HB' := Lib.hid hb'; clear hb'))
        go_ret
        exact ⟨by rw [HP.out]; rfl, HBW.out.trans (HB'.out.mono HBW.out.size)⟩
      | false =>
        have HP := Lib.hid (show ∀ k ∈ l.take (i + 1), eqN s k = false from fun k hk => by
          rw [List.take_succ_eq_append_getElem hil, List.mem_append] at hk
          rcases hk with hk | hk
          · exact HOK.out k hk
          · have e : k = X := by rw [hX]; simpa using hk
            rw [e]
            exact hq.symm)
        clear hX hcell hadb hil hlt hq
        go_wp2_with (first
          | refine wpList_get_rd (r := (nodeCells X).toList) HCL.out rfl rfl rfl huj rfl nodeT_size ?_
          | (go_at_call 41; refine calls_then HC.out ?_; rintro e W' ⟨rfl, hb'⟩; have HB' := Lib.hid hb'; clear hb'))
        go_roundw
        case rel => exact ⟨i + 1, HLT.out, by go_num, HP.out, HBW.out.trans (HB'.out.mono HBW.out.size)⟩
        case measure => have := HLT.out; simp [intOf]; omega
    · obtain rfl : i = n := by omega
      have HP := Lib.hid (show z = -1 by
        have h0 : l.take i = l := List.take_of_length_le (by rw [← HN.out]; exact Nat.le_refl _)
        have h := HOK.out
        rw [h0] at h
        rw [HZ.out, ixZ, ixP_all _ h, if_neg (by omega)])
      clear hlt
      go_wp2_with fail
      go_ret
      exact ⟨by rw [HP.out]; rfl, HBW.out⟩
def zNd : NodeD := ⟨⟨#[]⟩, ⟨#[]⟩, 0, 0, ⟨#[]⟩⟩
/-- what find gives -/
def nfind (l : List NodeD) (s : ByteArray) : NodeD × Bool := match l.find? (eqN s) with
  | some k => (k, true)
  | none => (zNd, false)
set_option maxRecDepth 100000 in
set_option maxHeartbeats 2000000 in
theorem nfind_any (l : List NodeD) (s : ByteArray) (A : Option Addr) (c B g : Nat) (w : World) (hr : Rd w B A (rowsV nodeCells l)) (hB : B ≤ w.heap.size) (hl : l.length ≤ 1000) (hb : Blk w g 9 #[.string s]) :
    Calls Try.prog 40 #[.slice A l.length c, .func (.func 41) #[] #[.pointer (some ⟨g, 0, none⟩)]] w fun e w' => e = .returned (.tuple #[.agg (nodeCells (nfind l s).1), .bool (nfind l s).2]) ∧ Below w.heap.size w w' := by
  have huj := Try.underlying40
  obtain ⟨W0, hW0⟩ : ∃ W0, W0 = w.alloc (.cells (nodeCells zNd) 40) := ⟨_, rfl⟩
  have hb0 : Below w.heap.size w W0 := by rw [hW0]; exact (Below.refl _ w).alloc (Nat.le_refl _) _
  have HB0 := Lib.hid hb0
  have HK0 := Lib.hid (show Blk W0 w.heap.size 40 (nodeCells zNd) by rw [hW0]; exact Blk.new _ _ _)
  have HI := Lib.hid (nix_any l s A c B g W0 (hr.below (hb0.mono hB)) (Nat.le_trans hB hb0.size) hl (hb.below hb0 hb.lt))
  have HR := Lib.hid hr
  have HBB := Lib.hid hB
  have HW0 := Lib.hid hW0
  have HE := Lib.hid (show nfind l s = match l.find? (eqN s) with | some k => (k, true) | none => (zNd, false) from rfl)
  have HX := Lib.hid (ix_find (eqN s) l)
  obtain ⟨R, hR⟩ : ∃ R, R = nfind l s := ⟨_, rfl⟩
  rw [← hR] at HE ⊢
  obtain ⟨z, hz⟩ : ∃ z, z = ixZ (eqN s) l := ⟨_, rfl⟩
  rw [← hz] at HI
  have HZ := Lib.hid hz
  obtain ⟨n, hn⟩ : ∃ n, n = l.length := ⟨_, rfl⟩
  rw [← hn] at HI ⊢
  have HN := Lib.hid hn
  have hnl : (n : Int) ≤ 1000 := by omega
  clear hW0 hb0 hr hB hl hb hR hz hn
  go_enter Try.func40, Try.ntmps40
  go_upto_region 1 with (fail)
  rw [show w.alloc (.cells #[.string ⟨#[]⟩, .string ⟨#[]⟩, .int .i64 0, .int .i64 0, .string ⟨#[]⟩] 40) = W0 from HW0.out.symm]
  go_wp2_with fail
  refine calls_then HI.out ?_
  rintro e w1 ⟨rfl, hb1⟩
  have HB1 := Lib.hid (HB0.out.trans (hb1.mono HB0.out.size))
  have HK1 := Lib.hid (HK0.out.below hb1 HK0.out.lt)
  clear hb1
  rcases HX.out with ⟨hlt, h2, hf⟩ | ⟨hlt, hf⟩
  · obtain ⟨k, hk⟩ : ∃ k, k = ixP (eqN s) l := ⟨_, rfl⟩
    have hzk : z = (k : Int) := by rw [HZ.out, ixZ, if_pos hlt, hk]
    subst hzk
    have hk2 : k < l.length := by rw [hk]; exact hlt
    obtain ⟨X, hX⟩ : ∃ X, X = l[k] := ⟨_, rfl⟩
    have HRE := Lib.hid (show R = (X, true) by
      rw [HE.out, hf, hX]
      simp only [hk])
    obtain ⟨ad, hA, -, hcell⟩ := rd_rows (f := nodeCells) (m := 5) (fun _ => rfl) (by decide) (HR.out.below (HB1.out.mono HBB.out)) hk2
    subst hA
    rw [← hX] at hcell
    have HCL := Lib.hid (show ∀ j u, (nodeCells X).toList[j]? = some u → w1.cell? ((ad.add (k * 5)).add j) = some u from fun j u hu => hcell j u (by simpa using hu))
    have hk0 : (0 : Int) ≤ (k : Int) := by omega
    have hkn : (k : Int) < (n : Int) := by rw [HN.out]; omega
    clear hcell hX hk2 hk hf hlt h2
    go_wp2_with (first
      | refine wpList_get_rd (r := (nodeCells X).toList) HCL.out rfl rfl rfl huj rfl nodeT_size ?_
      | (refine wpList_put_box (x := .tmp 4) (cells := nodeCells X) HK1.out rfl rfl rfl rfl nodeT_size rfl (nodeCells_one X) ?_; intro w9 hb9 hw9))
    have HB9 := Lib.hid hb9
    have HF9 := Lib.hid (hw9.below HB1.out (Nat.le_refl _) HB1.out.size)
    refine bodyPost_ret (results_box_tmp (P := Try.prog) rfl rfl HB9.out huj rfl nodeT_size) rfl ?_
    exact ⟨by rw [HRE.out]; rfl, HF9.out⟩
  · have hzk : z = -1 := by rw [HZ.out, ixZ, if_neg hlt]
    subst hzk
    have HRE := Lib.hid (show R = (zNd, false) by rw [HE.out, hf])
    clear hf hlt
    go_wp2_with (first
      | refine wpList_get_box (x := .tmp 7) (cs := nodeCells zNd) (Blk.new _ _ _) rfl rfl rfl huj rfl nodeT_size ?_
      | (refine wpList_put_box (x := .tmp 4) (cells := nodeCells zNd) (HK1.out.alloc _) rfl rfl rfl rfl nodeT_size rfl (nodeCells_one _) ?_; intro w9 hb9 hw9))
    have HB9 := Lib.hid hb9
    have HF9 := Lib.hid (hw9.below (HB1.out.alloc HB1.out.size _) (Nat.le_refl _) (by have := HB1.out.size; simp; omega))
    refine bodyPost_ret (results_box_tmp (P := Try.prog) rfl rfl HB9.out huj rfl nodeT_size) rfl ?_
    exact ⟨by rw [HRE.out]; rfl, HF9.out⟩
set_option maxHeartbeats 2000000 in
theorem of_any2 (d : LedD) (s : ByteArray) (w : World) (h : LedOk w 900 d) :
    Calls Try.prog 29 #[.agg (ledCells d), .string s] w fun e w' => e = .returned (.tuple #[.agg (nodeCells (nfind d.nodes.l s).1), .bool (nfind d.nodes.l s).2]) ∧ Below w.heap.size w w' := by
  have huj := Try.underlying40
  have hmf : ∀ (fn : Fn) (first cap : Array Value) (u : World), (Instr.makeFunc fn first cap).run Try.prog u = .ok (.func fn first cap) u := fun _ _ _ _ => rfl
  obtain ⟨W0, hW0⟩ : ∃ W0, W0 = ((w.alloc (.cells (ledCells d) 33)).alloc (.cells #[.string s] 9)).alloc (.cells (nodeCells zNd) 40) := ⟨_, rfl⟩
  have hb0 : Below w.heap.size w W0 := by rw [hW0]; exact (((Below.refl _ w).alloc (Nat.le_refl _) _).alloc (by simp) _).alloc (by simp; omega) _
  have HB0 := Lib.hid hb0
  have HK0 := Lib.hid (show Blk W0 w.heap.size 33 (ledCells d) by rw [hW0]; exact ((Blk.new _ _ _).alloc _).alloc _)
  have HS0 := Lib.hid (show Blk W0 (w.heap.size + 1) 9 #[.string s] by rw [hW0]; have := (Blk.new (w.alloc (.cells (ledCells d) 33)) 9 #[.string s]).alloc (.cells (nodeCells zNd) 40); simpa using this)
  have HN0 := Lib.hid (show Blk W0 (w.heap.size + 2) 40 (nodeCells zNd) by rw [hW0]; have := Blk.new ((w.alloc (.cells (ledCells d) 33)).alloc (.cells #[.string s] 9)) 40 (nodeCells zNd); simpa using this)
  have HW0 := Lib.hid hW0
  have hok := h.grow hb0
  have HC := Lib.hid (nfind_any d.nodes.l s d.nodes.A d.nodes.c W0.heap.size (w.heap.size + 1) W0 hok.nodes.row.rd (Nat.le_refl _) (by have := hok.nodes.len; omega) HS0.out)
  have a1 : W0.cell? ⟨w.heap.size, 1, none⟩ = some (.slice d.nodes.A d.nodes.l.length d.nodes.c) := HK0.out.cell 1
  obtain ⟨R, hR⟩ : ∃ R, R = nfind d.nodes.l s := ⟨_, rfl⟩
  rw [← hR] at HC ⊢
  clear hW0 hb0 h hok hR
  go_enter Try.func29, Try.ntmps29
  go_upto_region 1 with (fail)
  rw [show ((w.alloc (.cells (ledCells d) 33)).alloc (.cells #[.string s] 9)).alloc (.cells #[.string ⟨#[]⟩, .string ⟨#[]⟩, .int .i64 0, .int .i64 0, .string ⟨#[]⟩] 40) = W0 from HW0.out.symm]
  generalize Value.agg (ledCells d) = AV
  go_wp2_with fail
  refine calls_then HC.out ?_
  rintro e w1 ⟨rfl, hb1⟩
  have HB1 := Lib.hid (HB0.out.trans (hb1.mono HB0.out.size))
  have HN1 := Lib.hid (HN0.out.below hb1 HN0.out.lt)
  clear hb1 a1
  go_wp2_with (refine wpList_put_box (x := .tmp 4) (cells := nodeCells R.1) HN1.out rfl rfl rfl rfl nodeT_size rfl (nodeCells_one _) ?_; intro w9 hb9 hw9)
  have HB9 := Lib.hid hb9
  have HF9 := Lib.hid (hw9.below HB1.out (by omega) HB1.out.size)
  refine bodyPost_ret (results_box_tmp (P := Try.prog) rfl rfl HB9.out huj rfl nodeT_size) rfl ?_
  exact ⟨rfl, HF9.out⟩
end Go.Proofs.Ytcnebbhnpocofaa
/-
  Walk: the reference's SameOp, of an operation and itself.
-/
namespace Go.Proofs.Ytcnebbhnpocofaa
set_option linter.unusedSimpArgs false
set_option linter.unusedVariables false
open Go.RowKit
theorem same9_nil (w : World) : Calls Try.prog 39 #[.slice none 0 0, .slice none 0 0] w (fun e w' => e = .returned (.bool true) ∧ w' = w) := by
  go_enter Try.func39, Try.ntmps39
  go_wp2_with fail
  refine wp_loop_rounds 1 ?_
  rw [rounds_succ]
  go_wp2_with fail
  go_ret
  exact ⟨rfl, rfl⟩
def zBun : Array Value := #[.string ⟨#[]⟩, .int .i64 0, .slice none 0 0]
set_option maxRecDepth 100000 in
set_option maxHeartbeats 1000000 in
theorem bsame_nil (w : World) : Calls Try.prog 28 #[.agg zBun, .agg zBun] w (fun e w' => e = .returned (.bool true) ∧ Below w.heap.size w w') := by
  obtain ⟨W0, hW0⟩ : ∃ W0, W0 = (w.alloc (.cells zBun 45)).alloc (.cells zBun 45) := ⟨_, rfl⟩
  have hb0 : Below w.heap.size w W0 := by rw [hW0]; exact ((Below.refl _ w).alloc (Nat.le_refl _) _).alloc (by simp) _
  have hk1 : Blk W0 w.heap.size 45 zBun := by rw [hW0]; exact (Blk.new _ _ _).alloc _
  have hk2 : Blk W0 (w.heap.size + 1) 45 zBun := by
    have := Blk.new (w.alloc (.cells zBun 45)) 45 zBun
    rw [hW0]; simpa using this
  have a0 : W0.cell? ⟨w.heap.size, 0, none⟩ = some (.string ⟨#[]⟩) := hk1.cell 0
  have a1 : W0.cell? ⟨w.heap.size, 1, none⟩ = some (.int .i64 0) := hk1.cell 1
  have a2 : W0.cell? ⟨w.heap.size, 2, none⟩ = some (.slice none 0 0) := hk1.cell 2
  have b0 : W0.cell? ⟨w.heap.size + 1, 0, none⟩ = some (.string ⟨#[]⟩) := hk2.cell 0
  have b1 : W0.cell? ⟨w.heap.size + 1, 1, none⟩ = some (.int .i64 0) := hk2.cell 1
  have b2 : W0.cell? ⟨w.heap.size + 1, 2, none⟩ = some (.slice none 0 0) := hk2.cell 2
  have HW0 := Lib.hid hW0
  have HB0 := Lib.hid hb0
  clear hb0 hk1 hk2 hW0
  go_enter Try.func28, Try.ntmps28
  go_upto_region 1 with (fail)
  rw [← HW0.out]
  go_wp2_with fail
  refine wp_loop_rounds 1 ?_
  rw [rounds_succ]
  go_wp2_with fail
  go_ret
  exact ⟨rfl, HB0.out⟩
def zEnt : Array Value := #[.int .i64 0, .string ⟨#[]⟩, .string ⟨#[]⟩, .int .i64 0, .slice none 0 0]
def ledV (g : Nat) : Array Value := #[.slice (some ⟨g, 0, none⟩) 1 1, .slice none 0 0, .slice none 0 0, .slice none 0 0, .slice none 0 0, .slice none 0 0]
theorem ent_size : (Try.prog.info? 36).map (·.size) = some 5 := by kernel_rfl
set_option maxRecDepth 100000 in
set_option maxHeartbeats 2000000 in
theorem lsame_one (g1 g2 : Nat) (w : World) (h1 : Blk w g1 36 zEnt) (h2 : Blk w g2 36 zEnt) : Calls Try.prog 27 #[.agg (ledV g1), .agg (ledV g2)] w (fun e w' => e = .returned (.bool true) ∧ Below w.heap.size w w') := by
  have hue := Try.underlying36
  obtain ⟨W0, hW0⟩ : ∃ W0, W0 = (w.alloc (.cells (ledV g1) 33)).alloc (.cells (ledV g2) 33) := ⟨_, rfl⟩
  have hb0 : Below w.heap.size w W0 := by rw [hW0]; exact ((Below.refl _ w).alloc (Nat.le_refl _) _).alloc (by simp) _
  have hk1 : Blk W0 w.heap.size 33 (ledV g1) := by rw [hW0]; exact (Blk.new _ _ _).alloc _
  have hk2 : Blk W0 (w.heap.size + 1) 33 (ledV g2) := by
    have := Blk.new (w.alloc (.cells (ledV g1) 33)) 33 (ledV g2)
    rw [hW0]; simpa using this
  have he1 := h1.below hb0 h1.lt
  have he2 := h2.below hb0 h2.lt
  have LA := Lib.hid (show ∀ u, Below W0.heap.size W0 u → (u.cell? ⟨w.heap.size, 0, none⟩ = some (.slice (some ⟨g1, 0, none⟩) 1 1) ∧ u.cell? ⟨w.heap.size, 1, none⟩ = some (.slice none 0 0) ∧ u.cell? ⟨w.heap.size, 2, none⟩ = some (.slice none 0 0) ∧ u.cell? ⟨w.heap.size, 3, none⟩ = some (.slice none 0 0) ∧ u.cell? ⟨w.heap.size, 4, none⟩ = some (.slice none 0 0) ∧ u.cell? ⟨w.heap.size, 5, none⟩ = some (.slice none 0 0)) from fun u h => by
    have hk := hk1.below h hk1.lt
    exact ⟨hk.cell 0, hk.cell 1, hk.cell 2, hk.cell 3, hk.cell 4, hk.cell 5⟩)
  have LB := Lib.hid (show ∀ u, Below W0.heap.size W0 u → (u.cell? ⟨w.heap.size + 1, 0, none⟩ = some (.slice (some ⟨g2, 0, none⟩) 1 1) ∧ u.cell? ⟨w.heap.size + 1, 1, none⟩ = some (.slice none 0 0) ∧ u.cell? ⟨w.heap.size + 1, 2, none⟩ = some (.slice none 0 0) ∧ u.cell? ⟨w.heap.size + 1, 3, none⟩ = some (.slice none 0 0) ∧ u.cell? ⟨w.heap.size + 1, 4, none⟩ = some (.slice none 0 0) ∧ u.cell? ⟨w.heap.size + 1, 5, none⟩ = some (.slice none 0 0)) from fun u h => by
    have hk := hk2.below h hk2.lt
    exact ⟨hk.cell 0, hk.cell 1, hk.cell 2, hk.cell 3, hk.cell 4, hk.cell 5⟩)
  have HE1 := Lib.hid he1
  have HE2 := Lib.hid he2
  have HW0 := Lib.hid hW0
  have HB0 := Lib.hid hb0
  obtain ⟨a0, a1, a2, a3, a4, a5⟩ := LA.out W0 (Below.refl _ _)
  obtain ⟨b0, b1, b2, b3, b4, b5⟩ := LB.out W0 (Below.refl _ _)
  clear hb0 hk1 hk2 hW0 he1 he2 h1 h2
  go_enter Try.func27, Try.ntmps27
  go_upto_region 1 with (fail)
  rw [← HW0.out]
  go_wp2_with fail
  refine calls_then (same9_nil _) ?_
  rintro e w1 ⟨rfl, rfl⟩
  go_wp2_with fail
  refine wp_loop_rounds 2 ?_
  rw [rounds_succ]
  have hn1 := Blk.new w1 36 zEnt
  have he1 := HE1.out
  have he2 := HE2.out
  go_wp2_with (first
    | (refine wpList_get_box he1 rfl rfl rfl hue rfl ent_size ?_)
    | (refine wpList_put_box (x := .tmp 7) (cells := zEnt) hn1 rfl rfl rfl rfl ent_size rfl (by simp [zEnt, Value.oneCell']) ?_; intro w2 hb2 hw2; have hbel2 : Below w1.heap.size w1 w2 := hw2.below ((Below.refl _ _).alloc (Nat.le_refl _) _) (Nat.le_refl _) (by simp); obtain ⟨b0, b1, b2, b3, b4, b5⟩ := LB.out w2 hbel2; have hf2 := HE2.out.below hbel2 HE2.out.lt; have hn2 := Blk.new w2 36 zEnt; have HB2 := Lib.hid hb2; have HL2 := Lib.hid hbel2; clear hb2 hw2 hbel2)
    | (refine wpList_get_box hf2 rfl rfl rfl hue rfl ent_size ?_)
    | (refine wpList_put_box (x := .tmp 8) (cells := zEnt) hn2 rfl rfl rfl rfl ent_size rfl (by simp [zEnt, Value.oneCell']) ?_; intro w3 hb3 hw3; have hbel3 : Below w2.heap.size w2 w3 := hw3.below ((Below.refl _ _).alloc (Nat.le_refl _) _) (Nat.le_refl _) (by simp); have hx7 := HB2.out.below hbel3 HB2.out.lt; have c0 : w3.cell? ⟨w1.heap.size, 0, none⟩ = some (.int .i64 0) := hx7.cell 0; have c1 : w3.cell? ⟨w1.heap.size, 1, none⟩ = some (.string ⟨#[]⟩) := hx7.cell 1; have c2 : w3.cell? ⟨w1.heap.size, 2, none⟩ = some (.string ⟨#[]⟩) := hx7.cell 2; have c3 : w3.cell? ⟨w1.heap.size, 3, none⟩ = some (.int .i64 0) := hx7.cell 3; have c4 : w3.cell? ⟨w1.heap.size, 4, none⟩ = some (.slice none 0 0) := hx7.cell 4; have e0 : w3.cell? ⟨w2.heap.size, 0, none⟩ = some (.int .i64 0) := hb3.cell 0; have e1 : w3.cell? ⟨w2.heap.size, 1, none⟩ = some (.string ⟨#[]⟩) := hb3.cell 1; have e2 : w3.cell? ⟨w2.heap.size, 2, none⟩ = some (.string ⟨#[]⟩) := hb3.cell 2; have e3 : w3.cell? ⟨w2.heap.size, 3, none⟩ = some (.int .i64 0) := hb3.cell 3; have e4 : w3.cell? ⟨w2.heap.size, 4, none⟩ = some (.slice none 0 0) := hb3.cell 4; have HL3 := Lib.hid (HL2.out.trans (hbel3.mono HL2.out.size)); clear hb3 hw3 hbel3 hx7))
  obtain ⟨a0, a1, a2, a3, a4, a5⟩ := LA.out w3 HL3.out
  obtain ⟨b0, b1, b2, b3, b4, b5⟩ := LB.out w3 HL3.out
  refine calls_then (same9_nil _) ?_
  rintro e w4 ⟨rfl, rfl⟩
  go_wp2_with fail
  rw [rounds_succ]
  go_wp2_with fail
  refine wp_loop_rounds 1 ?_
  rw [rounds_succ]
  go_wp2_with fail
  refine wp_loop_rounds 1 ?_
  rw [rounds_succ]
  go_wp2_with fail
  refine wp_loop_rounds 1 ?_
  rw [rounds_succ]
  go_wp2_with fail
  refine wp_loop_rounds 1 ?_
  rw [rounds_succ]
  go_wp2_with fail
  go_ret
  exact ⟨rfl, HB0.out.trans (HL3.out.mono HB0.out.size)⟩
end Go.Proofs.Ytcnebbhnpocofaa
/-
  Walk: the reference's SameOp, of an operation with a node and itself.
-/
namespace Go.Proofs.Ytcnebbhnpocofaa
set_option linter.unusedSimpArgs false
set_option linter.unusedVariables false
open Go.RowKit
def opN (kind n : Int) (name : ByteArray) (k : NodeD) : Array Value := #[.int .i64 kind, .int .i64 n, .string name, .int .i64 0, .string ⟨#[]⟩, .string ⟨#[]⟩, .int .i64 0, .slice none 0 0, .string ⟨#[]⟩, .string ⟨#[]⟩, .int .i64 0, .bool false, .string k.name, .string k.key, .int .i64 k.exp, .int .i64 k.seq, .string k.doc, .string ⟨#[]⟩, .string ⟨#[]⟩, .int .i64 0, .int .i64 0, .string ⟨#[]⟩, .int .i64 0, .slice none 0 0]
theorem opN_one (kind n : Int) (name : ByteArray) (k : NodeD) : (opN kind n name k).all (·.oneCell') = true := by simp [opN, Value.oneCell']
theorem eql_node (k : NodeD) (w : World) : (binOp .eql 40 (.agg (nodeCells k)) (.agg (nodeCells k))).run Try.prog w = .ok (.bool true) w := by
  have p0 : ∀ u : World, (part 9 (nodeCells k) 0).run Try.prog u = .ok (.string k.name) u := fun u => by kernel_rfl
  have p1 : ∀ u : World, (part 9 (nodeCells k) 1).run Try.prog u = .ok (.string k.key) u := fun u => by kernel_rfl
  have p2 : ∀ u : World, (part 3 (nodeCells k) 2).run Try.prog u = .ok (.int .i64 k.exp) u := fun u => by kernel_rfl
  have p3 : ∀ u : World, (part 3 (nodeCells k) 3).run Try.prog u = .ok (.int .i64 k.seq) u := fun u => by kernel_rfl
  have p4 : ∀ u : World, (part 9 (nodeCells k) 4).run Try.prog u = .ok (.string k.doc) u := fun u => by kernel_rfl
  have hs := Try.underlying9
  have hi := Try.underlying3
  have hf : Try.prog.fieldsOf 40 = #[{ name := "Name", type := 9, offset := 0, embedded := false, tag := "", pkgPath := "", byteOffset := 0 }, { name := "Key", type := 9, offset := 1, embedded := false, tag := "", pkgPath := "", byteOffset := 16 }, { name := "Expires", type := 3, offset := 2, embedded := false, tag := "", pkgPath := "", byteOffset := 32 }, { name := "Seq", type := 3, offset := 3, embedded := false, tag := "", pkgPath := "", byteOffset := 40 }, { name := "Doc", type := 9, offset := 4, embedded := false, tag := "", pkgPath := "", byteOffset := 48 }] := by kernel_rfl
  rw [run_eql_struct, run_equalIn_struct w 9999 _ _ _ (by kernel_rfl) (by kernel_rfl), hf]
  have s1 : ∀ (d : Nat) (s : ByteArray), (Op.equalIn (d + 1) 9 (.string s) (.string s)).run Try.prog w = .ok true w := fun d s => by rw [run_equalIn_string w d _ s s hs]; simp
  have s2 : ∀ (d : Nat) (n : Int), (Op.equalIn (d + 1) 3 (.int .i64 n) (.int .i64 n)).run Try.prog w = .ok true w := fun d n => by rw [run_equalIn_int w d _ _ _ n n hi]; simp
  have e1 := fun s => s1 9998 s
  have e2 := fun n => s2 9998 n
  simp only [Nat.reduceAdd] at e1 e2
  simp [Op.eqFields, Sem.run_bind, p0, p1, p2, p3, p4, Result.andThen, e1, e2]
theorem led_zeroN (g : Nat) : Try.prog.built 33 [(0, .slice (some ⟨g, 0, none⟩) 1 1)] = some (ledV g) := by kernel_rfl
theorem wpList_build_ledN {ops : Array Oper} {rest : List Oper} {o : Oper} {a : Act} {w : World} {Q : Exit → Act → World → Prop} {cells : Array Value} (hg : o.guard = none) (parts : Array (Nat × Operand)) (ho : o.op = .build 33 parts)
    (hf : Try.prog.built 33 (parts.map fun (i, x) => (i, a.eval x)).toList = some cells) (h : wpList Try.prog ops Q rest (a.put o.dst (.agg cells)) w) : wpList Try.prog ops Q (o :: rest) a w := by
  refine wpList_build hg _ parts ho (by rw [hf]; rfl) ?_
  rw [hf]
  exact h
theorem opCells_bunN (kind n : Int) (name : ByteArray) (k : NodeD) : (((opN kind n name k).toList.drop 21).take 3).toArray = zBun := rfl
theorem bun_sizeN : (Try.prog.info? 45).map (·.size) = some 3 := by kernel_rfl
theorem zEnt_foldN : Array.foldl (fun (cs : Array Value) x => cs.setIfInBounds x.snd x.fst) #[Value.int IntKind.i64 0, Value.string { data := #[] }, Value.string { data := #[] }, Value.int IntKind.i64 0, Value.slice none 0 0] zEnt.zipIdx 0 zEnt.size = zEnt := by kernel_rfl
theorem ent_litN : Try.prog.builtSlice 36 1 [(0, .agg zEnt)] = some zEnt := by kernel_rfl
theorem opCells_entN (kind n : Int) (name : ByteArray) (k : NodeD) : (((opN kind n name k).toList.drop 3).take 5).toArray = zEnt := rfl
set_option maxRecDepth 100000 in
set_option maxHeartbeats 400000 in
theorem sameOpN_any (kind n : Int) (name : ByteArray) (k : NodeD) (w : World) : Calls Try.prog 9 #[.agg (opN kind n name k), .agg (opN kind n name k)] w (fun e w' => e = .returned (.bool true) ∧ Below w.heap.size w w') := by
  have hue := Try.underlying47
  have hubun := Try.underlying45
  have huent := Try.underlying36
  have husl := Try.underlying26
  obtain ⟨W0, hW0⟩ : ∃ W0, W0 = (w.alloc (.cells (opN kind n name k) 47)).alloc (.cells (opN kind n name k) 47) := ⟨_, rfl⟩
  have hb0 : Below w.heap.size w W0 := by rw [hW0]; exact ((Below.refl _ w).alloc (Nat.le_refl _) _).alloc (by simp) _
  have hk1 : Blk W0 w.heap.size 47 (opN kind n name k) := by rw [hW0]; exact (Blk.new _ _ _).alloc _
  have hk2 : Blk W0 (w.heap.size + 1) 47 (opN kind n name k) := by
    have := Blk.new (w.alloc (.cells (opN kind n name k) 47)) 47 (opN kind n name k)
    rw [hW0]; simpa using this
  have HK1 := Lib.hid hk1
  have HK2 := Lib.hid hk2
  have HW0 := Lib.hid hW0
  have HB0 := Lib.hid hb0
  clear hb0 hk1 hk2 hW0
  obtain ⟨oc, hoc⟩ : ∃ o, o = opN kind n name k := ⟨_, rfl⟩
  rw [← hoc] at HK1 HK2 HW0 ⊢
  have HOC := Lib.hid hoc
  clear hoc
  go_enter Try.func9, Try.ntmps9
  go_upto_region 1 with (fail)
  rw [← HW0.out]
  have hk1 := HK1.out
  have hk2 := HK2.out
  rw [HOC.out] at hk1 hk2
  have hg1 := Blk.new W0 36 zEnt
  have hg2 := Blk.new (W0.alloc (.cells zEnt 36)) 36 zEnt
  go_wp2_with (first
    | (refine wpList_get_part (r := zEnt) (k := 3) (n := 5) hk1 (by simp [opN]) (opCells_entN _ _ _ _) rfl rfl rfl huent rfl ent_size ?_)
    | (refine wpList_get_part (r := zEnt) (k := 3) (n := 5) (hk2.alloc _) (by simp [opN]) (opCells_entN _ _ _ _) rfl rfl rfl huent rfl ent_size ?_)
    | (refine Great.wpList_buildSliceTo rfl _ _ 1 _ rfl _ rfl _ rfl husl zEnt ent_litN ?_)
    | (refine wpList_build_ledN rfl _ rfl (led_zeroN _) ?_))
  obtain ⟨W1, hW1⟩ : ∃ W1, W1 = (W0.alloc (.cells zEnt 36)).alloc (.cells zEnt 36) := ⟨_, rfl⟩
  have hb1 : Below W0.heap.size W0 W1 := by rw [hW1]; exact ((Below.refl _ W0).alloc (Nat.le_refl _) _).alloc (by simp) _
  have hg1' : Blk W1 W0.heap.size 36 zEnt := by rw [hW1]; exact hg1.alloc _
  have hg2' : Blk W1 (W0.heap.size + 1) 36 zEnt := by rw [hW1]; simpa using hg2
  rw [zEnt_foldN]
  rw [← hW1]
  refine calls_then (lsame_one _ _ _ hg1' hg2') ?_
  rintro e w2 ⟨rfl, hb2⟩
  have hB2 := hb1.trans (hb2.mono hb1.size)
  have HF2 := Lib.hid (HB0.out.trans (hB2.mono HB0.out.size))
  replace hk1 := hk1.below hB2 HK1.out.lt
  replace hk2 := hk2.below hB2 HK2.out.lt
  clear hg1 hg2 hg1' hg2' hb1 hb2 hB2 hW1
  go_wp2_with (first
    | (refine wpList_get_part (r := zBun) (k := 21) (n := 3) hk1 (by simp [opN]) (opCells_bunN _ _ _ _) rfl rfl rfl hubun rfl bun_sizeN ?_)
    | (refine wpList_get_part (r := zBun) (k := 21) (n := 3) hk2 (by simp [opN]) (opCells_bunN _ _ _ _) rfl rfl rfl hubun rfl bun_sizeN ?_))
  refine calls_then (bsame_nil _) ?_
  rintro e w3 ⟨rfl, hb3⟩
  have HF3 := Lib.hid (HF2.out.trans (hb3.mono HF2.out.size))
  replace hk1 := hk1.below hb3 hk1.lt
  replace hk2 := hk2.below hb3 hk2.lt
  clear hb3
  have a0 : w3.cell? ⟨w.heap.size, 0, none⟩ = some (.int .i64 kind) := hk1.cell 0
  have a1 : w3.cell? ⟨w.heap.size, 1, none⟩ = some (.int .i64 n) := hk1.cell 1
  have a2 : w3.cell? ⟨w.heap.size, 2, none⟩ = some (.string name) := hk1.cell 2
  have a8 : w3.cell? ⟨w.heap.size, 8, none⟩ = some (.string ⟨#[]⟩) := hk1.cell 8
  have a9 : w3.cell? ⟨w.heap.size, 9, none⟩ = some (.string ⟨#[]⟩) := hk1.cell 9
  have a10 : w3.cell? ⟨w.heap.size, 10, none⟩ = some (.int .i64 0) := hk1.cell 10
  have a11 : w3.cell? ⟨w.heap.size, 11, none⟩ = some (.bool false) := hk1.cell 11
  have a12 : w3.cell? ⟨w.heap.size, 12, none⟩ = some (.string k.name) := hk1.cell 12
  have a13 : w3.cell? ⟨w.heap.size, 13, none⟩ = some (.string k.key) := hk1.cell 13
  have a14 : w3.cell? ⟨w.heap.size, 14, none⟩ = some (.int .i64 k.exp) := hk1.cell 14
  have a15 : w3.cell? ⟨w.heap.size, 15, none⟩ = some (.int .i64 k.seq) := hk1.cell 15
  have a16 : w3.cell? ⟨w.heap.size, 16, none⟩ = some (.string k.doc) := hk1.cell 16
  have a17 : w3.cell? ⟨w.heap.size, 17, none⟩ = some (.string ⟨#[]⟩) := hk1.cell 17
  have a18 : w3.cell? ⟨w.heap.size, 18, none⟩ = some (.string ⟨#[]⟩) := hk1.cell 18
  have a19 : w3.cell? ⟨w.heap.size, 19, none⟩ = some (.int .i64 0) := hk1.cell 19
  have a20 : w3.cell? ⟨w.heap.size, 20, none⟩ = some (.int .i64 0) := hk1.cell 20
  have b0 : w3.cell? ⟨w.heap.size + 1, 0, none⟩ = some (.int .i64 kind) := hk2.cell 0
  have b1 : w3.cell? ⟨w.heap.size + 1, 1, none⟩ = some (.int .i64 n) := hk2.cell 1
  have b2 : w3.cell? ⟨w.heap.size + 1, 2, none⟩ = some (.string name) := hk2.cell 2
  have b8 : w3.cell? ⟨w.heap.size + 1, 8, none⟩ = some (.string ⟨#[]⟩) := hk2.cell 8
  have b9 : w3.cell? ⟨w.heap.size + 1, 9, none⟩ = some (.string ⟨#[]⟩) := hk2.cell 9
  have b10 : w3.cell? ⟨w.heap.size + 1, 10, none⟩ = some (.int .i64 0) := hk2.cell 10
  have b11 : w3.cell? ⟨w.heap.size + 1, 11, none⟩ = some (.bool false) := hk2.cell 11
  have b12 : w3.cell? ⟨w.heap.size + 1, 12, none⟩ = some (.string k.name) := hk2.cell 12
  have b13 : w3.cell? ⟨w.heap.size + 1, 13, none⟩ = some (.string k.key) := hk2.cell 13
  have b14 : w3.cell? ⟨w.heap.size + 1, 14, none⟩ = some (.int .i64 k.exp) := hk2.cell 14
  have b15 : w3.cell? ⟨w.heap.size + 1, 15, none⟩ = some (.int .i64 k.seq) := hk2.cell 15
  have b16 : w3.cell? ⟨w.heap.size + 1, 16, none⟩ = some (.string k.doc) := hk2.cell 16
  have b17 : w3.cell? ⟨w.heap.size + 1, 17, none⟩ = some (.string ⟨#[]⟩) := hk2.cell 17
  have b18 : w3.cell? ⟨w.heap.size + 1, 18, none⟩ = some (.string ⟨#[]⟩) := hk2.cell 18
  have b19 : w3.cell? ⟨w.heap.size + 1, 19, none⟩ = some (.int .i64 0) := hk2.cell 19
  have b20 : w3.cell? ⟨w.heap.size + 1, 20, none⟩ = some (.int .i64 0) := hk2.cell 20
  have heqk : ∀ u : World, (binOp .eql 42 (.agg #[.string ⟨#[]⟩, .string ⟨#[]⟩, .int .i64 0, .int .i64 0]) (.agg #[.string ⟨#[]⟩, .string ⟨#[]⟩, .int .i64 0, .int .i64 0])).run Try.prog u = .ok (.bool true) u := fun u => by kernel_rfl
  have heqj : ∀ u : World, (binOp .eql 38 (.agg #[.string ⟨#[]⟩, .string ⟨#[]⟩, .int .i64 0, .bool false]) (.agg #[.string ⟨#[]⟩, .string ⟨#[]⟩, .int .i64 0, .bool false])).run Try.prog u = .ok (.bool true) u := fun u => by kernel_rfl
  have heqn : ∀ u : World, (binOp .eql 40 (.agg #[.string k.name, .string k.key, .int .i64 k.exp, .int .i64 k.seq, .string k.doc]) (.agg #[.string k.name, .string k.key, .int .i64 k.exp, .int .i64 k.seq, .string k.doc])).run Try.prog u = .ok (.bool true) u := fun u => by exact eql_node k u
  go_wp2_with fail
  go_ret
  exact ⟨rfl, HF3.out⟩
end Go.Proofs.Ytcnebbhnpocofaa
/-
  Walks: sound, until, slices.Contains; attest.Join and the document's.
-/
namespace Go.Proofs.Ytcnebbhnpocofaa
set_option linter.unusedSimpArgs false
set_option linter.unusedVariables false
open Go.RowKit

def soundB (key : ByteArray) (now ttl : Int) : Bool := decide (key.size = 32) && decide (0 ≤ now) && decide (now ≤ 1099511627776) && decide (1 ≤ ttl) && decide (ttl ≤ 1000)
theorem has15c_any (l : List ByteArray) (s : ByteArray) (A : Option Addr) (c B : Nat) (w : World) (hr : Rd w B A (rowsV strCell l)) (hl : l.length ≤ 1000) :
    Calls Try.prog 22 #[.slice A l.length c, .string s] w fun e w' => e = .returned (.bool (hasB l s)) ∧ w' = w := by
  have hbs : ∀ x : ByteArray, Js.bs x.data.toList = x := fun x => by apply ByteArray.ext; simp [Js.bs]
  have hrow : rowsV Js.sCell (l.map fun x => x.data.toList) = rowsV strCell l := by
    clear hr hl
    induction l with
    | nil => rfl
    | cons x r ih =>
      rw [List.map_cons, rowsV_cons_r, rowsV_cons_r, ih]
      simp [Js.sCell, strCell, hbs]
  have h := Js.has_any (l.map fun x => x.data.toList) s.data.toList A c B w (by rw [hrow]; exact hr) (by rw [List.length_map]; omega)
  rw [List.length_map, hbs] at h
  have e : decide (s.data.toList ∈ l.map fun x => x.data.toList) = hasB l s := by
    rw [hasB, Bool.eq_iff_iff, decide_eq_true_iff, List.any_eq_true]
    constructor
    · intro h
      obtain ⟨x, hx, he⟩ := List.mem_map.1 h
      refine ⟨x, hx, ?_⟩
      have : x = s := by rw [← hbs x, ← hbs s, he]
      simpa using this
    · rintro ⟨x, hx, he⟩
      have : x = s := by simpa using he
      exact List.mem_map.2 ⟨x, hx, by rw [this]⟩
  rw [e] at h
  exact h
set_option maxHeartbeats 2000000 in
theorem runtil_any (a b : Int) (ha : InR a) (hb : InR b) (w : World) : Calls Try.prog 26 #[.int .i64 a, .int .i64 b] w fun e w' => e = .returned (.int .i64 (timeC a b)) ∧ w' = w := by
  have HA := Lib.hid (radd17_any a b ha hb w)
  have HT := Lib.hid (rtime_any (satA a b) w)
  have HE := Lib.hid (timeC_eq a b ha hb)
  obtain ⟨s, hs⟩ : ∃ s, s = satA a b := ⟨_, rfl⟩
  rw [← hs] at HA HT HE
  clear hs ha hb
  go_enter Try.func26, Try.ntmps26
  go_wp2_with fail
  refine calls_then HA.out ?_
  rintro e w1 ⟨rfl, rfl⟩
  go_wp2_with fail
  refine calls_then HT.out ?_
  rintro e w1 ⟨rfl, rfl⟩
  go_wp2_with fail
  go_ret
  exact ⟨by rw [HE.out]; rfl, rfl⟩
set_option maxHeartbeats 2000000 in
theorem csound_any (key : ByteArray) (now ttl : Int) (w : World) : Calls Try.prog 21 #[.string key, .int .i64 now, .int .i64 ttl] w fun e w' => e = .returned (.bool (soundB key now ttl)) ∧ w' = w := by
  obtain ⟨r, hr⟩ : ∃ r, r = soundB key now ttl := ⟨_, rfl⟩
  rw [← hr]
  have HR := Lib.hid hr
  clear hr
  go_enter Try.func21, Try.ntmps21
  by_cases h1 : (key.size : Int) = 32
  · have h1' : ((key.size : Int) == (32 : Int)) = true := by simp [h1]
    have k1 : key.size = 32 := by omega
    by_cases h2 : 0 ≤ now
    · by_cases h3 : now ≤ 1099511627776
      · by_cases h4 : 1 ≤ ttl
        · by_cases h5 : ttl ≤ 1000
          · have HRT := Lib.hid (show r = true by rw [HR.out, soundB]; simp [k1, h2, h3, h4, h5])
            clear k1 h1
            go_wp2_with fail
            go_ret
            exact ⟨by rw [HRT.out]; rfl, rfl⟩
          · have HRT := Lib.hid (show r = false by rw [HR.out, soundB]; simp [h5])
            clear k1 h1
            go_wp2_with fail
            go_ret
            exact ⟨by rw [HRT.out]; rfl, rfl⟩
        · have HRT := Lib.hid (show r = false by rw [HR.out, soundB]; simp [h4])
          clear k1 h1
          go_wp2_with fail
          go_ret
          exact ⟨by rw [HRT.out]; rfl, rfl⟩
      · have HRT := Lib.hid (show r = false by rw [HR.out, soundB]; simp [h3])
        clear k1 h1
        go_wp2_with fail
        go_ret
        exact ⟨by rw [HRT.out]; rfl, rfl⟩
    · have HRT := Lib.hid (show r = false by rw [HR.out, soundB]; simp [h2])
      clear k1 h1
      go_wp2_with fail
      go_ret
      exact ⟨by rw [HRT.out]; rfl, rfl⟩
  · have h1' : ((key.size : Int) == (32 : Int)) = false := by simpa using h1
    have HRT := Lib.hid (show r = false by rw [HR.out, soundB]; simp [show ¬ key.size = 32 by omega])
    clear h1
    go_wp2_with fail
    go_ret
    exact ⟨by rw [HRT.out]; rfl, rfl⟩
set_option maxHeartbeats 2000000 in
theorem rsound_any (key : ByteArray) (now ttl : Int) (w : World) : Calls Try.prog 24 #[.string key, .int .i64 now, .int .i64 ttl] w fun e w' => e = .returned (.bool (soundB key now ttl)) ∧ w' = w := by
  obtain ⟨r, hr⟩ : ∃ r, r = soundB key now ttl := ⟨_, rfl⟩
  rw [← hr]
  have HR := Lib.hid hr
  clear hr
  go_enter Try.func24, Try.ntmps24
  by_cases h1 : (key.size : Int) = 32
  · have h1' : ((key.size : Int) == (32 : Int)) = true := by simp [h1]
    have k1 : key.size = 32 := by omega
    by_cases h2 : 0 ≤ now
    · by_cases h3 : now ≤ 1099511627776
      · by_cases h4 : 1 ≤ ttl
        · by_cases h5 : ttl ≤ 1000
          · have HRT := Lib.hid (show r = true by rw [HR.out, soundB]; simp [k1, h2, h3, h4, h5])
            clear k1 h1
            go_wp2_with fail
            go_ret
            exact ⟨by rw [HRT.out]; rfl, rfl⟩
          · have HRT := Lib.hid (show r = false by rw [HR.out, soundB]; simp [h5])
            clear k1 h1
            go_wp2_with fail
            go_ret
            exact ⟨by rw [HRT.out]; rfl, rfl⟩
        · have HRT := Lib.hid (show r = false by rw [HR.out, soundB]; simp [h4])
          clear k1 h1
          go_wp2_with fail
          go_ret
          exact ⟨by rw [HRT.out]; rfl, rfl⟩
      · have HRT := Lib.hid (show r = false by rw [HR.out, soundB]; simp [h3])
        clear k1 h1
        go_wp2_with fail
        go_ret
        exact ⟨by rw [HRT.out]; rfl, rfl⟩
    · have HRT := Lib.hid (show r = false by rw [HR.out, soundB]; simp [h2])
      clear k1 h1
      go_wp2_with fail
      go_ret
      exact ⟨by rw [HRT.out]; rfl, rfl⟩
  · have h1' : ((key.size : Int) == (32 : Int)) = false := by simpa using h1
    have HRT := Lib.hid (show r = false by rw [HR.out, soundB]; simp [show ¬ key.size = 32 by omega])
    clear h1
    go_wp2_with fail
    go_ret
    exact ⟨by rw [HRT.out]; rfl, rfl⟩
end Go.Proofs.Ytcnebbhnpocofaa
/-
  Law: a struct is built whole.
-/
namespace Go.Proofs.Ytcnebbhnpocofaa
set_option linter.unusedSimpArgs false
set_option linter.unusedVariables false
open Go.RowKit

theorem wpList_build_any {T : TypeId} {ops : Array Oper} {rest : List Oper} {o : Oper} {a : Act} {w : World} {Q : Exit → Act → World → Prop} {cells : Array Value} (hg : o.guard = none) (parts : Array (Nat × Operand)) (ho : o.op = .build T parts)
    (hf : Try.prog.built T (parts.map fun (i, x) => (i, a.eval x)).toList = some cells) (h : wpList Try.prog ops Q rest (a.put o.dst (.agg cells)) w) : wpList Try.prog ops Q (o :: rest) a w := by
  refine wpList_build hg _ parts ho (by rw [hf]; rfl) ?_
  rw [hf]
  exact h
end Go.Proofs.Ytcnebbhnpocofaa
/-
  Walks: attest.of, attest.Good, brevetref20.Good. (Printed by gen/gd20.py.)
-/
namespace Go.Proofs.Ytcnebbhnpocofaa
set_option linter.unusedSimpArgs false
set_option linter.unusedVariables false
open Go.RowKit

theorem node_zero : Try.prog.built 40 [] = some (nodeCells zNd) := by kernel_rfl
/-- which node is good -/
def goodX (d : LedD) (ag : ByteArray) (now : Int) : NodeD × Int :=
  if hasB d.bans.l ag = true then (zNd, 21) else match d.nodes.l.find? (eqN ag) with
  | none => (zNd, 24)
  | some k => if k.exp ≤ now then (zNd, 15) else (k, 0)
def GdPost (d : LedD) (ag : ByteArray) (now : Int) (w : World) (e : Ending) (w' : World) : Prop := e = .returned (.tuple #[.agg (nodeCells (goodX d ag now).1), .int .i64 (goodX d ag now).2]) ∧ Below w.heap.size w w'
def OfPost (R : NodeD × Bool) (w : World) (e : Ending) (w' : World) : Prop := e = .returned (.tuple #[.agg (nodeCells R.1), .bool R.2]) ∧ Below w.heap.size w w'
set_option maxRecDepth 100000 in
set_option maxHeartbeats 4000000 in
theorem of_any (d : LedD) (ag : ByteArray) (w : World) (h : LedOk w 900 d) :
    Calls Try.prog 29 #[.agg (ledCells d), .string ag] w (OfPost (nfind d.nodes.l ag) w) := by
  have huj := Try.underlying40
  have hmf : ∀ (fn : Fn) (first cap : Array Value) (u : World), (Instr.makeFunc fn first cap).run Try.prog u = .ok (.func fn first cap) u := fun _ _ _ _ => rfl
  obtain ⟨W0, hW0⟩ : ∃ W0, W0 = ((w.alloc (.cells (ledCells d) 33)).alloc (.cells #[.string ag] 9)).alloc (.cells (nodeCells zNd) 40) := ⟨_, rfl⟩
  have hb0 : Below w.heap.size w W0 := by rw [hW0]; exact (((Below.refl _ w).alloc (Nat.le_refl _) _).alloc (by simp) _).alloc (by simp; omega) _
  have HB0 := Lib.hid hb0
  have HK0 := Lib.hid (show Blk W0 w.heap.size 33 (ledCells d) by rw [hW0]; exact ((Blk.new _ _ _).alloc _).alloc _)
  have HS0 := Lib.hid (show Blk W0 (w.heap.size + 1) 9 #[.string ag] by rw [hW0]; have := (Blk.new (w.alloc (.cells (ledCells d) 33)) 9 #[.string ag]).alloc (.cells (nodeCells zNd) 40); simpa using this)
  have HO0 := Lib.hid (show Blk W0 (w.heap.size + 2) 40 (nodeCells zNd) by rw [hW0]; have := Blk.new ((w.alloc (.cells (ledCells d) 33)).alloc (.cells #[.string ag] 9)) 40 (nodeCells zNd); simpa using this)
  have HW0 := Lib.hid hW0
  have hok := h.grow hb0
  have HC := Lib.hid (nfind_any d.nodes.l ag d.nodes.A d.nodes.c W0.heap.size (w.heap.size + 1) W0 hok.nodes.row.rd (Nat.le_refl _) (by have := hok.nodes.len; omega) HS0.out)
  have a1 : W0.cell? ⟨w.heap.size, 1, none⟩ = some (.slice d.nodes.A d.nodes.l.length d.nodes.c) := HK0.out.cell 1
  obtain ⟨J0, hJ0⟩ : ∃ J, J = nfind d.nodes.l ag := ⟨_, rfl⟩
  rw [← hJ0] at HC ⊢
  clear hW0 hb0 h hok hJ0
  go_enter Try.func29, Try.ntmps29
  go_upto_region 1 with (fail)
  rw [show ((w.alloc (.cells (ledCells d) 33)).alloc (.cells #[.string ag] 9)).alloc (.cells #[.string ⟨#[]⟩, .string ⟨#[]⟩, .int .i64 0, .int .i64 0, .string ⟨#[]⟩] 40) = W0 from HW0.out.symm]
  generalize Value.agg (ledCells d) = AV
  go_wp2_with fail
  refine calls_then HC.out ?_
  rintro e w1 ⟨rfl, hb1⟩
  have HB1 := Lib.hid (HB0.out.trans (hb1.mono HB0.out.size))
  have HO1 := Lib.hid (HO0.out.below hb1 HO0.out.lt)
  clear hb1 a1 HC
  go_wp2_with (refine wpList_put_box (x := .tmp 4) (cells := nodeCells J0.1) HO1.out rfl rfl rfl rfl nodeT_size rfl (nodeCells_one _) ?_; intro w9 hb9 hw9)
  have HB9 := Lib.hid hb9
  have HF9 := Lib.hid (hw9.below HB1.out (by omega) (HB1.out).size)
  refine bodyPost_ret (results_box_tmp (P := Try.prog) rfl rfl HB9.out huj rfl nodeT_size) rfl ?_
  exact ⟨rfl, HF9.out⟩
set_option maxRecDepth 100000 in
set_option maxHeartbeats 8000000 in
theorem agood_any (d : LedD) (ag : ByteArray) (now : Int) (w : World) (h : LedOk w 900 d) :
    Calls Try.prog 11 #[.agg (ledCells d), .string ag, .int .i64 now] w (GdPost d ag now w) := by
  have hul := Try.underlying33
  have huj := Try.underlying40
  obtain ⟨W0, hW0⟩ : ∃ W0, W0 = (w.alloc (.cells (ledCells d) 33)).alloc (.cells (nodeCells zNd) 40) := ⟨_, rfl⟩
  have hb0 : Below w.heap.size w W0 := by rw [hW0]; exact ((Below.refl _ w).alloc (Nat.le_refl _) _).alloc (by simp) _
  have HB0 := Lib.hid hb0
  have HK0 := Lib.hid (show Blk W0 w.heap.size 33 (ledCells d) by rw [hW0]; exact (Blk.new _ _ _).alloc _)
  have HO0 := Lib.hid (show Blk W0 (w.heap.size + 1) 40 (nodeCells zNd) by rw [hW0]; have := Blk.new (w.alloc (.cells (ledCells d) 33)) 40 (nodeCells zNd); simpa using this)
  have HW0 := Lib.hid hW0
  have hok := h.grow hb0
  have HOK := Lib.hid hok
  have HC := Lib.hid (of_any d ag W0 hok)
  have HX := Lib.hid (show GdPost d ag now w = fun e w' => e = .returned (.tuple #[.agg (nodeCells (goodX d ag now).1), .int .i64 (goodX d ag now).2]) ∧ Below w.heap.size w w' from rfl)
  have HJX := Lib.hid (show goodX d ag now = if hasB d.bans.l ag = true then ((zNd, 21) : NodeD × Int) else match d.nodes.l.find? (eqN ag) with
    | none => (zNd, 24)
    | some k => if k.exp ≤ now then (zNd, 15) else (k, 0) from rfl)
  have HJF := Lib.hid (show nfind d.nodes.l ag = match d.nodes.l.find? (eqN ag) with | some k => (k, true) | none => (zNd, false) from rfl)
  have CH := Lib.hid (show ∀ u, Below W0.heap.size W0 u → Calls Try.prog 22 #[.slice d.bans.A d.bans.l.length d.bans.c, .string ag] u fun e w' => e = .returned (.bool (hasB d.bans.l ag)) ∧ w' = u from fun u hu => by
    have := (HOK.out.grow hu).bans
    exact has15c_any d.bans.l ag d.bans.A d.bans.c u.heap.size u this.row.rd (by have := this.len; omega))
  have HA2 := Lib.hid (show ∀ u, Below W0.heap.size W0 u → u.cell? ⟨w.heap.size, 2, none⟩ = some (.slice d.bans.A d.bans.l.length d.bans.c) from fun u hu => (HK0.out.below hu HK0.out.lt).cell 2)
  obtain ⟨J0, hJ0⟩ : ∃ J, J = nfind d.nodes.l ag := ⟨_, rfl⟩
  rw [← hJ0] at HC HJF
  obtain ⟨F, hF⟩ : ∃ F, F = d.nodes.l.find? (eqN ag) := ⟨_, rfl⟩
  rw [← hF] at HJX HJF
  obtain ⟨RX, hRX⟩ : ∃ R, R = goodX d ag now := ⟨_, rfl⟩
  rw [← hRX] at HJX HX
  rw [HX.out]
  obtain ⟨hb, hhb⟩ : ∃ b, b = hasB d.bans.l ag := ⟨_, rfl⟩
  rw [← hhb] at HJX CH
  clear hW0 hb0 h hok hJ0 hF hRX hhb
  go_enter Try.func11, Try.ntmps11
  go_upto_region 1 with (fail)
  rw [show (w.alloc (.cells (ledCells d) 33)).alloc (.cells #[.string ⟨#[]⟩, .string ⟨#[]⟩, .int .i64 0, .int .i64 0, .string ⟨#[]⟩] 40) = W0 from HW0.out.symm]
  obtain ⟨AV, hAV⟩ : ∃ A, A = Value.agg (ledCells d) := ⟨_, rfl⟩
  rw [← hAV] at HC ⊢
  have HAV := Lib.hid hAV
  clear hAV
  go_wp2_with (refine wpList_get_box (x := .tmp 3) (cs := ledCells d) HK0.out rfl rfl rfl hul rfl ledT_size ?_)
  rw [show Value.agg (ledCells d) = AV from HAV.out.symm]
  refine calls_then HC.out ?_
  rintro e w1 ⟨rfl, hb1⟩
  have HB1 := Lib.hid hb1
  clear hb1 HC
  go_upto_region 2 with (refine wpList_put_box (cells := nodeCells J0.1) (Blk.new _ _ _) rfl rfl rfl rfl nodeT_size rfl (nodeCells_one _) ?_; intro w2 hb2 hw2)
  have hbw2 : Below w1.heap.size w1 w2 := box_low9 hw2
  obtain ⟨H, hH⟩ : ∃ H, H = w1.heap.size := ⟨_, rfl⟩
  rw [← hH] at hb2 ⊢
  have HJ2 := Lib.hid hb2
  have HB2 := Lib.hid (HB1.out.trans (hbw2.mono HB1.out.size))
  have HO2 := Lib.hid (HO0.out.below HB2.out HO0.out.lt)
  have HBW := Lib.hid (HB0.out.trans (HB2.out.mono HB0.out.size))
  clear hb2 hw2 hbw2 hH
  obtain ⟨JD, JB⟩ := J0
  dsimp only at HJ2 ⊢
  have b2 := HA2.out _ HB2.out
  go_wp2_with fail
  refine calls_then (CH.out _ HB2.out) ?_
  rintro e w5 ⟨rfl, rfl⟩
  cases hb with
  | true =>
    have HRX := Lib.hid (show RX = (zNd, 21) by rw [HJX.out, if_pos rfl])
    go_wp2_with (first
      | (refine wpList_build_any (cells := nodeCells zNd) rfl #[] rfl node_zero ?_)
      | (refine wpList_put_box (x := .tmp 6) (cells := nodeCells zNd) HO2.out rfl rfl rfl rfl nodeT_size rfl (nodeCells_one _) ?_; intro w9 hb9 hw9))
    have HB9 := Lib.hid hb9
    have HF9 := Lib.hid (hw9.below HBW.out (by omega) (HBW.out).size)
    refine bodyPost_ret (results_box_tmp (P := Try.prog) rfl rfl HB9.out huj rfl nodeT_size) rfl ?_
    exact ⟨by rw [HRX.out]; rfl, HF9.out⟩
  | false =>
    clear b2
    cases F with
    | none =>
      have hJ : (JD, JB) = (zNd, false) := HJF.out
      injection hJ with hJ1 hJ2
      subst hJ2
      have HRX := Lib.hid (show RX = (zNd, 24) by rw [HJX.out, if_neg (by simp)])
      go_wp2_with (first
        | (refine wpList_build_any (cells := nodeCells zNd) rfl #[] rfl node_zero ?_)
        | (refine wpList_put_box (x := .tmp 6) (cells := nodeCells zNd) HO2.out rfl rfl rfl rfl nodeT_size rfl (nodeCells_one _) ?_; intro w9 hb9 hw9))
      have HB9 := Lib.hid hb9
      have HF9 := Lib.hid (hw9.below HBW.out (by omega) (HBW.out).size)
      refine bodyPost_ret (results_box_tmp (P := Try.prog) rfl rfl HB9.out huj rfl nodeT_size) rfl ?_
      exact ⟨by rw [HRX.out]; rfl, HF9.out⟩
    | some k =>
      have hJ : (JD, JB) = (k, true) := HJF.out
      injection hJ with hJ1 hJ2
      subst hJ1 hJ2
      have c2 : w5.cell? ⟨H, 2, none⟩ = some (.int .i64 JD.exp) := HJ2.out.cell 2
      obtain ⟨ov, hov⟩ : ∃ ov, ov = decide (JD.exp ≤ now) := ⟨_, rfl⟩
      have CO := Lib.hid (show Calls Try.prog 20 #[.int .i64 now, .int .i64 JD.exp] w5 (fun e w' => e = .returned (.bool ov) ∧ w' = w5) by rw [hov]; exact cover_any now JD.exp w5)
      have HOV := Lib.hid hov
      clear hov
      go_wp2_with fail
      refine calls_then CO.out ?_
      rintro e w3 ⟨rfl, rfl⟩
      cases ov with
      | true =>
        have HRX := Lib.hid (show RX = (zNd, 15) by rw [HJX.out, if_neg (by simp)]; exact if_pos (of_decide_eq_true HOV.out.symm))
        go_wp2_with (first
          | (refine wpList_build_any (cells := nodeCells zNd) rfl #[] rfl node_zero ?_)
          | (refine wpList_put_box (x := .tmp 6) (cells := nodeCells zNd) HO2.out rfl rfl rfl rfl nodeT_size rfl (nodeCells_one _) ?_; intro w9 hb9 hw9))
        have HB9 := Lib.hid hb9
        have HF9 := Lib.hid (hw9.below HBW.out (by omega) (HBW.out).size)
        refine bodyPost_ret (results_box_tmp (P := Try.prog) rfl rfl HB9.out huj rfl nodeT_size) rfl ?_
        exact ⟨by rw [HRX.out]; rfl, HF9.out⟩
      | false =>
        have HRX := Lib.hid (show RX = (JD, 0) by rw [HJX.out, if_neg (by simp)]; exact if_neg (of_decide_eq_false HOV.out.symm))
        go_wp2_with (first
          | (refine wpList_get_box (x := .tmp 8) (cs := nodeCells JD) HJ2.out rfl rfl rfl huj rfl nodeT_size ?_)
          | (refine wpList_put_box (x := .tmp 6) (cells := nodeCells JD) HO2.out rfl rfl rfl rfl nodeT_size rfl (nodeCells_one _) ?_; intro w9 hb9 hw9))
        have HB9 := Lib.hid hb9
        have HF9 := Lib.hid (hw9.below HBW.out (by omega) (HBW.out).size)
        refine bodyPost_ret (results_box_tmp (P := Try.prog) rfl rfl HB9.out huj rfl nodeT_size) rfl ?_
        exact ⟨by rw [HRX.out]; rfl, HF9.out⟩
set_option maxRecDepth 100000 in
set_option maxHeartbeats 8000000 in
theorem rgood_any (d : LedD) (ag : ByteArray) (now : Int) (w : World) (h : LedOk w 900 d) :
    Calls Try.prog 12 #[.agg (ledCells d), .string ag, .int .i64 now] w (GdPost d ag now w) := by
  have huj := Try.underlying40
  obtain ⟨W0, hW0⟩ : ∃ W0, W0 = (w.alloc (.cells (ledCells d) 33)).alloc (.cells (nodeCells zNd) 40) := ⟨_, rfl⟩
  have hb0 : Below w.heap.size w W0 := by rw [hW0]; exact ((Below.refl _ w).alloc (Nat.le_refl _) _).alloc (by simp) _
  have HB0 := Lib.hid hb0
  have HK0 := Lib.hid (show Blk W0 w.heap.size 33 (ledCells d) by rw [hW0]; exact (Blk.new _ _ _).alloc _)
  have HO0 := Lib.hid (show Blk W0 (w.heap.size + 1) 40 (nodeCells zNd) by rw [hW0]; have := Blk.new (w.alloc (.cells (ledCells d) 33)) 40 (nodeCells zNd); simpa using this)
  have HW0 := Lib.hid hW0
  have hok := h.grow hb0
  have HOK := Lib.hid hok
  obtain ⟨lj, hlj⟩ : ∃ lj, lj = d.nodes := ⟨_, rfl⟩
  have HL := Lib.hid (show (lj.l.length : Int) ≤ 900 by rw [hlj]; have := hok.nodes.len; omega)
  have HR := Lib.hid (show ∀ u, Below W0.heap.size W0 u → Rd u u.heap.size lj.A (rowsV nodeCells lj.l) from fun u hu => by rw [hlj]; exact (hok.grow hu).nodes.row.rd)
  have HA3 := Lib.hid (show ∀ u, Below W0.heap.size W0 u → u.cell? ⟨w.heap.size, 1, none⟩ = some (.slice lj.A lj.l.length lj.c) from fun u hu => by rw [hlj]; exact (HK0.out.below hu HK0.out.lt).cell 1)
  have a2 : W0.cell? ⟨w.heap.size, 2, none⟩ = some (.slice d.bans.A d.bans.l.length d.bans.c) := HK0.out.cell 2
  have HX := Lib.hid (show GdPost d ag now w = fun e w' => e = .returned (.tuple #[.agg (nodeCells (goodX d ag now).1), .int .i64 (goodX d ag now).2]) ∧ Below w.heap.size w w' from rfl)
  have HJX := Lib.hid (show goodX d ag now = if hasB d.bans.l ag = true then ((zNd, 21) : NodeD × Int) else match lj.l.find? (eqN ag) with
    | none => (zNd, 24)
    | some k => if k.exp ≤ now then (zNd, 15) else (k, 0) from by rw [hlj]; rfl)
  have CH := Lib.hid (show Calls Try.prog 25 #[.slice d.bans.A d.bans.l.length d.bans.c, .string ag] W0 fun e w' => e = .returned (.bool (hasB d.bans.l ag)) ∧ w' = W0 from by
    have := hok.bans
    exact (has9_any d.bans.l (by have := this.len; omega) ag d.bans.A d.bans.c W0.heap.size W0 (by have h := this.row.rd; rw [show rowsV strCell d.bans.l = d.bans.l.map Value.string from rowsV_str _] at h; exact h)).mono fun e w' h => ⟨h.1, h.2.symm⟩)
  obtain ⟨RX, hRX⟩ : ∃ R, R = goodX d ag now := ⟨_, rfl⟩
  rw [← hRX] at HJX HX
  rw [HX.out]
  obtain ⟨hb, hhb⟩ : ∃ b, b = hasB d.bans.l ag := ⟨_, rfl⟩
  rw [← hhb] at HJX CH
  clear hW0 hb0 h hok hRX hhb hlj
  go_enter Try.func12, Try.ntmps12
  go_upto_region 1 with (fail)
  rw [show (w.alloc (.cells (ledCells d) 33)).alloc (.cells #[.string ⟨#[]⟩, .string ⟨#[]⟩, .int .i64 0, .int .i64 0, .string ⟨#[]⟩] 40) = W0 from HW0.out.symm]
  generalize Value.agg (ledCells d) = AV
  go_wp2_with fail
  refine calls_then CH.out ?_
  rintro e w5 ⟨rfl, rfl⟩
  clear CH a2
  have HO2 := Lib.hid HO0.out
  have HBW := Lib.hid HB0.out
  cases hb with
  | true =>
    have HRX := Lib.hid (show RX = (zNd, 21) by rw [HJX.out, if_pos rfl])
    go_wp2_with (first
      | (refine wpList_build_any (cells := nodeCells zNd) rfl #[] rfl node_zero ?_)
      | (refine wpList_put_box (x := .tmp 6) (cells := nodeCells zNd) HO2.out rfl rfl rfl rfl nodeT_size rfl (nodeCells_one _) ?_; intro w9 hb9 hw9))
    have HB9 := Lib.hid hb9
    have HF9 := Lib.hid (hw9.below HBW.out (by omega) (HBW.out).size)
    refine bodyPost_ret (results_box_tmp (P := Try.prog) rfl rfl HB9.out huj rfl nodeT_size) rfl ?_
    exact ⟨by rw [HRX.out]; rfl, HF9.out⟩
  | false =>
    have HJ9 := Lib.hid (show RX = match lj.l.find? (eqN ag) with
      | none => (zNd, 24)
      | some k => if k.exp ≤ now then (zNd, 15) else (k, 0) by rw [HJX.out, if_neg (by simp)])
    go_wp2_with fail
    go_loopw [9] (fun x wr => ∃ i : Nat, i ≤ lj.l.length ∧ x = .int .i64 (i : Int) ∧ (∀ k ∈ lj.l.take i, eqN ag k = false) ∧ wr = w5) (fun x _ => lj.l.length - (intOf x).toNat)
    case atStart => exact ⟨0, Nat.zero_le _, rfl, by simp, rfl⟩
    case round =>
      obtain ⟨i, hi, rfl, hok, rfl⟩ := hrel
      have HNK := Lib.hid hok
      have a3 := HA3.out wr (Below.refl _ _)
      clear hok
      have hns := HL.out
      by_cases hlt : i < lj.l.length
      · have hlt' : (i : Int) < (lj.l.length : Int) := by omega
        have hi0 : (0 : Int) ≤ (i : Int) := by omega
        obtain ⟨ad, hA, -, hcell⟩ := rd_rows (f := nodeCells) (m := 5) (fun _ => rfl) (by decide) (HR.out wr (Below.refl _ _)) hlt
        rw [hA] at a3
        obtain ⟨JD, hX⟩ : ∃ X, X = lj.l[i] := ⟨_, rfl⟩
        rw [← hX] at hcell
        have HCL := Lib.hid (show ∀ j u, (nodeCells JD).toList[j]? = some u → wr.cell? ((ad.add (i * 5)).add j) = some u from fun j u hu => hcell j u (by simpa using hu))
        have c0 : wr.cell? (ad.add (i * 5)) = some (.string JD.name) := hcell 0 _ rfl
        have c2 : wr.cell? ⟨(ad.add (i * 5)).block, (ad.add (i * 5)).off + 2, none⟩ = some (.int .i64 JD.exp) := hcell 2 _ rfl
        have HLT := Lib.hid hlt
        have HXE := Lib.hid (show ∀ h : i < lj.l.length, JD = lj.l[i]'h from fun _ => hX)
        clear hX hcell hA hlt
        obtain ⟨q, hq⟩ : ∃ q, (JD.name.toList == ag.toList) = q := ⟨_, rfl⟩
        cases q with
        | false =>
          have HNN := Lib.hid (show ∀ k ∈ lj.l.take (i + 1), eqN ag k = false by
            intro k hk
            rw [List.take_succ_eq_append_getElem HLT.out] at hk
            rcases List.mem_append.1 hk with hk | hk
            · exact HNK.out k hk
            · rw [List.mem_singleton] at hk
              rw [hk, ← HXE.out HLT.out]
              exact hq)
          go_wp2_with fail
          go_roundw
          case rel => exact ⟨i + 1, HLT.out, by go_num, HNN.out, by first | trivial | rfl⟩
          case measure => have := HLT.out; simp [intOf]; omega
        | true =>
          have HJ1 := Lib.hid (show RX = if JD.exp ≤ now then (zNd, 15) else (JD, 0) by
            rw [HJ9.out, find_at (eqN ag) HNK.out HLT.out (by rw [← HXE.out HLT.out]; exact hq), ← HXE.out HLT.out])
          by_cases hov : JD.exp ≤ now
          · have HE1 := Lib.hid hov
            have HRX := Lib.hid (show RX = (zNd, 15) by rw [HJ1.out, if_pos HE1.out])
            go_wp2_with (first
              | (refine wpList_build_any (cells := nodeCells zNd) rfl #[] rfl node_zero ?_)
              | (refine wpList_put_box (x := .tmp 6) (cells := nodeCells zNd) HO2.out rfl rfl rfl rfl nodeT_size rfl (nodeCells_one _) ?_; intro w9 hb9 hw9))
            have HB9 := Lib.hid hb9
            have HF9 := Lib.hid (hw9.below HBW.out (by omega) (HBW.out).size)
            refine bodyPost_ret (results_box_tmp (P := Try.prog) rfl rfl HB9.out huj rfl nodeT_size) rfl ?_
            exact ⟨by rw [HRX.out]; rfl, HF9.out⟩
          · have HE0 := Lib.hid hov
            have HRX := Lib.hid (show RX = (JD, 0) by rw [HJ1.out, if_neg (show ¬ JD.exp ≤ now by have := HE0.out; omega)])
            go_wp2_with (first
              | (refine wpList_get_rd (r := (nodeCells JD).toList) HCL.out rfl rfl rfl huj rfl nodeT_size ?_)
              | (refine wpList_put_box (x := .tmp 6) (cells := nodeCells JD) HO2.out rfl rfl rfl rfl nodeT_size rfl (nodeCells_one _) ?_; intro w9 hb9 hw9))
            have HB9 := Lib.hid hb9
            have HF9 := Lib.hid (hw9.below HBW.out (by omega) (HBW.out).size)
            refine bodyPost_ret (results_box_tmp (P := Try.prog) rfl rfl HB9.out huj rfl nodeT_size) rfl ?_
            exact ⟨by rw [HRX.out]; rfl, HF9.out⟩
      · have hlt' : ¬ (i : Int) < (lj.l.length : Int) := by omega
        have HRX := Lib.hid (show RX = (zNd, 24) by
          rw [HJ9.out, List.find?_eq_none.2 (fun x hx => by
            have := HNK.out x (by rw [List.take_of_length_le (by omega)]; exact hx)
            simp [this])])
        go_wp2_with (first
          | (refine wpList_build_any (cells := nodeCells zNd) rfl #[] rfl node_zero ?_)
          | (refine wpList_put_box (x := .tmp 6) (cells := nodeCells zNd) HO2.out rfl rfl rfl rfl nodeT_size rfl (nodeCells_one _) ?_; intro w9 hb9 hw9))
        have HB9 := Lib.hid hb9
        have HF9 := Lib.hid (hw9.below HBW.out (by omega) (HBW.out).size)
        refine bodyPost_ret (results_box_tmp (P := Try.prog) rfl rfl HB9.out huj rfl nodeT_size) rfl ?_
        exact ⟨by rw [HRX.out]; rfl, HF9.out⟩

end Go.Proofs.Ytcnebbhnpocofaa
