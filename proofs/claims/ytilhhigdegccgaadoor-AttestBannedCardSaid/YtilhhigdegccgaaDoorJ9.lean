/-
  Joined texts: Tail.
-/
import Derived.Test.YtilhhigdegccgaaDoorJ8
/-
  Regions that draw their order: operations that give one value each (some of them pure), and a tail of operations, one behind the other, that may turn on the world.
-/
namespace Go.Proofs.YtilhhigdegccgaaDoor
set_option linter.unusedSimpArgs false
set_option linter.unusedVariables false
section
variable {P : Program}
def DetStepQ (P : Program) (ops : Array Oper) (C : World → Prop) (p : Bool) (Φ : (Nat → Value) → Prop) (i : Nat) (a0 : Act) (o : Oper) (v : Value) : Prop :=
  ∀ vals, Φ vals → ∀ w, (p = false → C w) → ∀ E : Act → World → Prop, (∀ w', (if p = true then w' = w else C w') → E ((putAll ops vals (waitsOf ops i) a0).put o.dst v) w') → wpList P ops (EndOf E) [o] (putAll ops vals (waitsOf ops i) a0) w
def DetQ (P : Program) (ops : Array Oper) (C : World → Prop) (pu : Nat → Bool) (a0 : Act) (K : ((Nat → Value) → Prop) → Prop) : Nat → List Oper → ((Nat → Value) → Prop) → Prop
  | _, [], Φ => K Φ
  | i, o :: rest, Φ => ∃ v, DetStepQ P ops C (pu i) Φ i a0 o v ∧ DetQ P ops C pu a0 K (i + 1) rest fun vals => Φ vals ∧ vals i = v
theorem detQ_all {ops : Array Oper} {C : World → Prop} {pu : Nat → Bool} {a0 : Act} {K : ((Nat → Value) → Prop) → Prop} : ∀ (rest : List Oper) (i : Nat) (Φ : (Nat → Value) → Prop),
    (∀ v1 v2 : Nat → Value, (∀ j, j < i → v1 j = v2 j) → Φ v1 → Φ v2) → (∃ vals, Φ vals) → DetQ P ops C pu a0 K i rest Φ →
    ∃ (vs : Nat → Value) (Ψ : (Nat → Value) → Prop), K Ψ ∧ Φ vs ∧ (∀ vals, (∀ j, j < i + rest.length → vals j = vs j) → Ψ vals) ∧
      ∀ j o, rest[j]? = some o → ∀ vals w, (pu (i + j) = false → C w) → (∀ k, k < i + j → vals k = vs k) → ∀ E : Act → World → Prop, (∀ w', (if pu (i + j) = true then w' = w else C w') → E ((putAll ops vals (waitsOf ops (i + j)) a0).put o.dst (vs (i + j))) w') → wpList P ops (EndOf E) [o] (putAll ops vals (waitsOf ops (i + j)) a0) w
  | [], i, Φ, hΦ, ⟨v0, h0⟩, h => ⟨v0, Φ, h, h0, fun vals hv => hΦ _ _ (fun j hj => (hv j (by simpa using hj)).symm) h0, fun j o ho => by simp at ho⟩
  | o :: rest, i, Φ, hΦ, ⟨v0, h0⟩, ⟨v, h1, h2⟩ => by
    obtain ⟨vs, Ψ, k1, k2, k3, k4⟩ := detQ_all rest (i + 1) (fun vals => Φ vals ∧ vals i = v)
      (fun v1 v2 hv hp => ⟨hΦ v1 v2 (fun j hj => hv j (by omega)) hp.1, by rw [← hv i (by omega)]; exact hp.2⟩)
      ⟨upd v0 i v, hΦ v0 _ (fun j hj => by simp [upd, Nat.ne_of_lt hj]) h0, by simp [upd]⟩ h2
    refine ⟨vs, Ψ, k1, k2.1, fun vals hv => k3 vals fun j hj => hv j (by simp only [List.length_cons] at hj ⊢; omega), fun j o' ho vals w hc hv => ?_⟩
    cases j with
    | zero =>
      simp at ho
      subst ho
      have hΦv : Φ vals := hΦ vs _ (fun j hj => (hv j (by omega)).symm) k2.1
      intro E hE
      refine h1 vals hΦv w hc E fun w'' hd => ?_
      have h4 := hE w'' hd
      rw [Nat.add_zero, k2.2] at h4
      exact h4
    | succ j =>
      rw [show i + (j + 1) = i + 1 + j by omega] at hc hv ⊢
      exact k4 j o' (by simpa using ho) vals w hc hv
theorem wp_region_tailq {id : Nat} {l : List Oper} {a0 : Act} {w0 : World} {Q : Exit → Act → World → Prop} (C : World → Prop) (pu : Nat → Bool) (d : Nat) (ps : List (Nat × Option Tmp))
    (hm : P.follows .mixedOrders = true) (hok : regionOk l.toArray = true) (hd : d < l.length)
    (hlast : ((List.range l.length).all fun k => decide (k < d) || (((List.range k).all fun i => (deepWaits l.toArray 5 k).contains i || (pu i && decide (i < d))) && (k == d || (waitsOf l.toArray k).contains (k - 1)))) = true)
    (hps : ∀ vals, putAll l.toArray vals (List.range l.toArray.size) a0 = puts vals ps a0) (hC : C w0.drew)
    (h : DetQ P l.toArray C pu a0 (fun Φ => ∀ vals, Φ vals → ∀ w, C w → tailP P l.toArray a0 (fun vals w => Q .normal (puts vals ps a0) w) d (l.drop d) vals w) 0 (l.take d) (fun _ => True)) :
    (Code.region id l.toArray true).wp P Q a0 w0 := by
  obtain ⟨vs, Ψ, k1, _, k3, k4⟩ := detQ_all (P := P) (l.take d) 0 (fun _ => True) (fun _ _ _ h => h) ⟨fun _ => undef, trivial⟩ h
  have htl : (l.take d).length = d := by rw [List.length_take]; omega
  simp only [Nat.zero_add, htl] at k3 k4
  have hdeep : ∀ k, k < l.length → d ≤ k → ∀ i, i < k → (deepWaits l.toArray 5 k).contains i = true ∨ (pu i = true ∧ i < d) := fun k hk hdk i hi => by
    have h1 := (List.all_eq_true.1 hlast) k (List.mem_range.2 hk)
    simp only [Bool.or_eq_true, decide_eq_true_eq, Bool.and_eq_true] at h1
    rcases h1 with h1 | h1
    · omega
    · have h2 := (List.all_eq_true.1 h1.1) i (List.mem_range.2 hi)
      simpa only [Bool.or_eq_true, Bool.and_eq_true, decide_eq_true_eq] using h2
  have hprev : ∀ k, k < l.length → d < k → (waitsOf l.toArray k).contains (k - 1) = true := fun k hk hdk => by
    have h1 := (List.all_eq_true.1 hlast) k (List.mem_range.2 hk)
    simp only [Bool.or_eq_true, decide_eq_true_eq, Bool.and_eq_true, beq_iff_eq] at h1
    rcases h1 with h1 | ⟨_, h1 | h1⟩
    · omega
    · omega
    · exact h1
  let Kf : (Nat → Value) → World → Prop := fun vals w => Q .normal (puts vals ps a0) w
  let kills : Nat → Nat → Bool := fun i k => decide (d ≤ k) && (decide (k < i) || decide (l.length ≤ k))
  refine wp_region_rel (fun _ => True) (fun _ => C) (fun _ i => decide (d ≤ i))
    (fun i vals w => if i < d then vals i = vs i else tailP P l.toArray a0 Kf (i + 1) (l.drop (i + 1)) (mergeV d vs vals) w)
    (fun i w w' => if d ≤ i then True else if pu i = true then w' = w else (C w → C w')) kills hm hok trivial (fun _ => hC) ?_ ?_ ?_ ?_
  · intro _ i hi w w' hS hc
    have hne : ¬ d ≤ i := by simpa using hi
    rw [if_neg hne] at hS
    by_cases hp : pu i = true
    · rw [if_pos hp] at hS; rw [hS]; exact hc
    · rw [if_neg hp] at hS; exact hS hc
  · intro i k hi hik hk hdk vals v w w' hS hF
    by_cases hkd : k < d
    · simp only [hkd, if_true] at hF ⊢
      simp [upd, Ne.symm hik, hF]
    · have hki : ¬ k < i := by
        intro hlt
        have h9 : kills i k = true := by
          have a1 : d ≤ k := by omega
          simp [kills, a1, hlt]
        rw [h9] at hk; cases hk
      have hkl : k < l.length ∨ l.length ≤ k := Nat.lt_or_ge _ _
      rcases hkl with hkl | hkl
      · rcases hdeep k hkl (by omega) i (by omega) with h8 | ⟨h8, h7⟩
        · rw [h8] at hdk; cases hdk
        · simp only [hkd, if_false] at hF ⊢
          rw [if_neg (by omega), if_pos h8] at hS
          subst hS
          have e : mergeV d vs (upd vals i v) = mergeV d vs vals := by
            funext j
            unfold mergeV upd
            by_cases h1 : j = i
            · subst h1; simp [h7]
            · simp [h1]
          rw [e]; exact hF
      · have h9 : kills i k = true := by
          have a1 : d ≤ k := by omega
          simp [kills, a1, hkl]
        rw [h9] at hk; cases hk
  · intro i o ho w vals _ hini hav
    have hil : i < l.length := by have := (Array.getElem?_eq_some_iff.1 ho).1; simpa using this
    have hok1 := okAt hok ho
    by_cases hid : i < d
    · have hcw : pu i = false → C w := fun hpf => hini false (by
        unfold availIni
        rw [List.all_eq_true]
        intro k hk
        have hk' : k < l.length := by simpa using hk
        by_cases hki : k = i
        · simp [hki]
        · by_cases hkd : d ≤ k
          · rcases hdeep k hk' hkd i (by omega) with h8 | ⟨h8, _⟩
            · simp only [h8, Bool.or_true]
            · rw [h8] at hpf; cases hpf
          · simp [hkd])
      have hvals : ∀ j ∈ waitsOf l.toArray i, vals j = vs j := fun j hj => by
        have hji : j < d := by
          have := hok1.before j hj
          omega
        have h1 : availAt l.toArray kills j i = true := by
          unfold availAt
          simp only [kills, Bool.and_eq_true]
          refine ⟨by simpa using hj, ?_⟩
          rw [List.all_eq_true]
          intro k _
          have : ¬ d ≤ j := by omega
          simp [this]
        have := hav j h1
        dsimp only at this
        rw [if_pos hji] at this
        exact this
      have hcon : putAll l.toArray vals (waitsOf l.toArray i) a0 = putAll l.toArray vs (waitsOf l.toArray i) a0 := putAll_congr _ _ _ _ _ hvals
      have ho2 : (l.take d)[i]? = some o := by rw [List.getElem?_take, if_pos hid]; simpa using ho
      have h3 := k4 i o ho2 vs w hcw (fun _ _ => rfl)
      rw [hcon]
      refine h3 _ fun w' hd' => ?_
      refine ⟨vs i, rfl, ?_, trivial, ?_⟩
      · dsimp only; rw [if_pos hid]; simp [upd]
      · dsimp only
        rw [if_neg (by omega)]
        by_cases hp : pu i = true
        · rw [if_pos hp] at hd' ⊢; exact hd'
        · rw [if_neg hp] at hd' ⊢; exact fun _ => hd'
    · have hget : l.drop i = o :: l.drop (i + 1) := by
        have h1 : l[i]? = some o := by simpa using ho
        have h2 := List.drop_eq_getElem_cons hil
        rw [List.getElem?_eq_getElem hil] at h1
        rw [h2, Option.some.inj h1]
      have hvals : ∀ j ∈ waitsOf l.toArray i, vals j = mergeV d vs vals j := fun j hj => by
        unfold mergeV
        split
        · rename_i hjd
          have h1 : availAt l.toArray kills j i = true := by
            unfold availAt
            simp only [kills, Bool.and_eq_true]
            refine ⟨by simpa using hj, ?_⟩
            rw [List.all_eq_true]
            intro k _
            have : ¬ d ≤ j := by omega
            simp [this]
          have := hav j h1
          dsimp only at this
          rw [if_pos hjd] at this
          exact this
        · rfl
      have hcon : putAll l.toArray vals (waitsOf l.toArray i) a0 = putAll l.toArray (mergeV d vs vals) (waitsOf l.toArray i) a0 := putAll_congr _ _ _ _ _ hvals
      have htail : tailP P l.toArray a0 Kf i (l.drop i) (mergeV d vs vals) w := by
        by_cases he : i = d
        · subst he
          have hcw : C w := hini false (by
            unfold availIni
            rw [List.all_eq_true]
            intro k hk
            have hk' : k < l.length := by simpa using hk
            by_cases hki : k = i
            · simp [hki]
            · by_cases hkd : i ≤ k
              · rcases hdeep k hk' hkd i (by omega) with h8 | ⟨_, h8⟩
                · simp only [h8, Bool.or_true]
                · omega
              · simp [hkd])
          exact k1 _ (k3 _ fun j hj => by simp [mergeV, hj]) w hcw
        · have hav1 : availAt l.toArray kills (i - 1) i = true := by
            unfold availAt
            rw [Bool.and_eq_true]
            refine ⟨hprev i hil (by omega), ?_⟩
            rw [List.all_eq_true]
            intro k hk
            have hk' : k < l.length := by simpa using hk
            by_cases hki : k = i
            · simp [hki]
            · by_cases hki2 : i < k
              · rcases hdeep k hk' (by omega) i hki2 with h8 | ⟨_, h8⟩
                · simp only [h8, Bool.or_true]
                · omega
              · have : ¬ i - 1 < k ∨ k = i - 1 := by omega
                rcases this with h1 | h1
                · have h8 : ¬ l.length ≤ i - 1 := by omega
                  simp [kills, h1, h8]
                · simp [h1]
          have := hav (i - 1) hav1
          dsimp only at this
          rw [if_neg (by omega), show i - 1 + 1 = i by omega] at this
          exact this
      rw [hget] at htail
      rw [hcon]
      refine htail _ fun v w' ht => ?_
      refine ⟨v, rfl, ?_, trivial, ?_⟩
      · dsimp only
        rw [if_neg hid, mergeV_upd _ _ _ (by omega)]
        exact ht
      · dsimp only; rw [if_pos (by omega)]; trivial
  · intro w vals _ hF
    have hn1 : l.length - 1 < l.length := by omega
    have halive : aliveAt l.toArray kills (l.length - 1) = true := by
      unfold aliveAt
      rw [List.all_eq_true]
      intro k hk
      have hk' : k < l.length := by simpa using hk
      have : ¬ l.length - 1 < k := by omega
      have h8 : ¬ l.length ≤ l.length - 1 := by omega
      simp [kills, this, h8]
    have h1 := hF (l.length - 1) (by simpa using hn1) halive
    rw [if_neg (by omega), show l.length - 1 + 1 = l.length by omega, List.drop_length] at h1
    have hcon : putAll l.toArray vals (List.range l.toArray.size) a0 = putAll l.toArray (mergeV d vs vals) (List.range l.toArray.size) a0 := putAll_congr _ _ _ _ _ fun j hj => by
      unfold mergeV
      split
      · rename_i hjd
        have hal : aliveAt l.toArray kills j = true := by
          unfold aliveAt
          rw [List.all_eq_true]
          intro k _
          have : ¬ d ≤ j := by omega
          simp [kills, this]
        have := hF j (by simpa using (List.mem_range.1 hj)) hal
        rw [if_pos hjd] at this
        exact this
      · rfl
    rw [hcon, hps]
    exact h1
section
variable {ops : Array Oper} {C D : World → Prop} {a0 : Act} {K : ((Nat → Value) → Prop) → Prop} {i : Nat} {Φ : (Nat → Value) → Prop} {o : Oper}
theorem DetQ.next {v : Value} {rest : List Oper} {pu : Nat → Bool} (hs : DetStepQ P ops C (pu i) Φ i a0 o v) (h : DetQ P ops C pu a0 K (i + 1) rest fun vals => Φ vals ∧ vals i = v) : DetQ P ops C pu a0 K i (o :: rest) Φ := ⟨v, hs, h⟩
theorem DetQ.done {pu : Nat → Bool} (h : K Φ) : DetQ P ops C pu a0 K i [] Φ := h
end
end
end Go.Proofs.YtilhhigdegccgaaDoor
