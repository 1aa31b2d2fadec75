/-
  Joined texts: Tailb OfS HsS.
-/
import Derived.Test.YtilhhigdegccgaaDoorJ9
import Derived.Test.YtilhhigdegccgaaDoorJ17
import Derived.Test.YtilhhigdegccgaaDoorJ20
import Derived.Test.YtilhhigdegccgaaDoorJ15
import Derived.Test.YtilhhigdegccgaaDoorJ16
import Derived.Test.YtilhhigdegccgaaDoorJ14
/-
  The same, where the tail begins with operations that only make memory.
-/
namespace Go.Proofs.YtilhhigdegccgaaDoor
set_option linter.unusedSimpArgs false
set_option linter.unusedVariables false
open Go.RowKit
section
variable {P : Program}
def DetStepR (P : Program) (ops : Array Oper) (C : World → Prop) (p : Bool) (Φ : (Nat → Value) → Prop) (i : Nat) (a0 : Act) (o : Oper) (v : Value) : Prop :=
  ∀ vals, Φ vals → ∀ w, C w → ∀ E : Act → World → Prop, (∀ w', (if p = true then w' = w else C w') → E ((putAll ops vals (waitsOf ops i) a0).put o.dst v) w') → wpList P ops (EndOf E) [o] (putAll ops vals (waitsOf ops i) a0) w
def DetR (P : Program) (ops : Array Oper) (C : World → Prop) (pu : Nat → Bool) (a0 : Act) (K : ((Nat → Value) → Prop) → Prop) : Nat → List Oper → ((Nat → Value) → Prop) → Prop
  | _, [], Φ => K Φ
  | i, o :: rest, Φ => ∃ v, DetStepR P ops C (pu i) Φ i a0 o v ∧ DetR P ops C pu a0 K (i + 1) rest fun vals => Φ vals ∧ vals i = v
theorem detR_all {ops : Array Oper} {C : World → Prop} {pu : Nat → Bool} {a0 : Act} {K : ((Nat → Value) → Prop) → Prop} : ∀ (rest : List Oper) (i : Nat) (Φ : (Nat → Value) → Prop),
    (∀ v1 v2 : Nat → Value, (∀ j, j < i → v1 j = v2 j) → Φ v1 → Φ v2) → (∃ vals, Φ vals) → DetR P ops C pu a0 K i rest Φ →
    ∃ (vs : Nat → Value) (Ψ : (Nat → Value) → Prop), K Ψ ∧ Φ vs ∧ (∀ vals, (∀ j, j < i + rest.length → vals j = vs j) → Ψ vals) ∧
      ∀ j o, rest[j]? = some o → ∀ vals w, C w → (∀ k, k < i + j → vals k = vs k) → ∀ E : Act → World → Prop, (∀ w', (if pu (i + j) = true then w' = w else C w') → E ((putAll ops vals (waitsOf ops (i + j)) a0).put o.dst (vs (i + j))) w') → wpList P ops (EndOf E) [o] (putAll ops vals (waitsOf ops (i + j)) a0) w
  | [], i, Φ, hΦ, ⟨v0, h0⟩, h => ⟨v0, Φ, h, h0, fun vals hv => hΦ _ _ (fun j hj => (hv j (by simpa using hj)).symm) h0, fun j o ho => by simp at ho⟩
  | o :: rest, i, Φ, hΦ, ⟨v0, h0⟩, ⟨v, h1, h2⟩ => by
    obtain ⟨vs, Ψ, k1, k2, k3, k4⟩ := detR_all rest (i + 1) (fun vals => Φ vals ∧ vals i = v)
      (fun v1 v2 hv hp => ⟨hΦ v1 v2 (fun j hj => hv j (by omega)) hp.1, by rw [← hv i (by omega)]; exact hp.2⟩)
      ⟨upd v0 i v, hΦ v0 _ (fun j hj => by simp [upd, Nat.ne_of_lt hj]) h0, by simp [upd]⟩ h2
    refine ⟨vs, Ψ, k1, k2.1, fun vals hv => k3 vals fun j hj => hv j (by simp only [List.length_cons] at hj ⊢; omega), fun j o' ho vals w hc hv => ?_⟩
    cases j with
    | zero =>
      simp at ho
      subst ho
      have hΦv : Φ vals := hΦ vs _ (fun j hj => (hv j (by omega)).symm) k2.1
      intro E hE
      refine h1 vals hΦv w hc E fun w'' hd => ?_
      have h4 := hE w'' hd
      rw [Nat.add_zero, k2.2] at h4
      exact h4
    | succ j =>
      rw [show i + (j + 1) = i + 1 + j by omega] at hv ⊢
      exact k4 j o' (by simpa using ho) vals w hc hv
def tailP2 (P : Program) (ops : Array Oper) (a0 : Act) (d2 : Nat) (Kf : (Nat → Value) → World → Prop) : Nat → List Oper → (Nat → Value) → World → Prop
  | _, [], vals, w => Kf vals w
  | i, o :: r, vals, w => ∀ E : Act → World → Prop, (∀ v w', (i < d2 → Below w.heap.size w w') → tailP2 P ops a0 d2 Kf (i + 1) r (upd vals i v) w' → E ((putAll ops vals (waitsOf ops i) a0).put o.dst v) w') → wpList P ops (EndOf E) [o] (putAll ops vals (waitsOf ops i) a0) w
theorem wp_region_tail2 {id : Nat} {l : List Oper} {a0 : Act} {w0 : World} {Q : Exit → Act → World → Prop} (C : World → Prop) (pu : Nat → Bool) (d d2 : Nat) (ps : List (Nat × Option Tmp))
    (hm : P.follows .mixedOrders = true) (hok : regionOk l.toArray = true) (hd : d < l.length)
    (hlast : ((List.range l.length).all fun k => decide (k < d) || (((List.range k).all fun i => (deepWaits l.toArray 5 k).contains i || (pu i && decide (i < d) && decide (k < d2))) && (k == d || (waitsOf l.toArray k).contains (k - 1)))) = true)
    (hps : ∀ vals, putAll l.toArray vals (List.range l.toArray.size) a0 = puts vals ps a0) (hC : C w0.drew) (hCs : ∀ w w', Below w.heap.size w w' → C w → C w') (hdd : d ≤ d2)
    (h : DetR P l.toArray C pu a0 (fun Φ => ∀ vals, Φ vals → ∀ w, C w → tailP2 P l.toArray a0 d2 (fun vals w => Q .normal (puts vals ps a0) w) d (l.drop d) vals w) 0 (l.take d) (fun _ => True)) :
    (Code.region id l.toArray true).wp P Q a0 w0 := by
  obtain ⟨vs, Ψ, k1, _, k3, k4⟩ := detR_all (P := P) (l.take d) 0 (fun _ => True) (fun _ _ _ h => h) ⟨fun _ => undef, trivial⟩ h
  have htl : (l.take d).length = d := by rw [List.length_take]; omega
  simp only [Nat.zero_add, htl] at k3 k4
  have hdeep : ∀ k, k < l.length → d ≤ k → ∀ i, i < k → (deepWaits l.toArray 5 k).contains i = true ∨ ((pu i = true ∧ i < d) ∧ k < d2) := fun k hk hdk i hi => by
    have h1 := (List.all_eq_true.1 hlast) k (List.mem_range.2 hk)
    simp only [Bool.or_eq_true, decide_eq_true_eq, Bool.and_eq_true] at h1
    rcases h1 with h1 | h1
    · omega
    · have h2 := (List.all_eq_true.1 h1.1) i (List.mem_range.2 hi)
      simpa only [Bool.or_eq_true, Bool.and_eq_true, decide_eq_true_eq] using h2
  have hprev : ∀ k, k < l.length → d < k → (waitsOf l.toArray k).contains (k - 1) = true := fun k hk hdk => by
    have h1 := (List.all_eq_true.1 hlast) k (List.mem_range.2 hk)
    simp only [Bool.or_eq_true, decide_eq_true_eq, Bool.and_eq_true, beq_iff_eq] at h1
    rcases h1 with h1 | ⟨_, h1 | h1⟩
    · omega
    · omega
    · exact h1
  let Kf : (Nat → Value) → World → Prop := fun vals w => Q .normal (puts vals ps a0) w
  let kills : Nat → Nat → Bool := fun i k => decide (d ≤ k) && (decide (k < i) || decide (l.length ≤ k))
  refine wp_region_rel (fun _ => True) (fun _ => C) (fun _ i => decide (d2 ≤ i))
    (fun i vals w => if i < d then vals i = vs i else tailP2 P l.toArray a0 d2 Kf (i + 1) (l.drop (i + 1)) (mergeV d vs vals) w)
    (fun i w w' => if d2 ≤ i then True else if d ≤ i then (C w → C w') else if pu i = true then w' = w else (C w → C w')) kills hm hok trivial (fun _ => hC) ?_ ?_ ?_ ?_
  · intro _ i hi w w' hS hc
    have hne : ¬ d2 ≤ i := by simpa using hi
    rw [if_neg hne] at hS
    by_cases hdi : d ≤ i
    · rw [if_pos hdi] at hS; exact hS hc
    · rw [if_neg hdi] at hS
      by_cases hp : pu i = true
      · rw [if_pos hp] at hS; rw [hS]; exact hc
      · rw [if_neg hp] at hS; exact hS hc
  · intro i k hi hik hk hdk vals v w w' hS hF
    by_cases hkd : k < d
    · simp only [hkd, if_true] at hF ⊢
      simp [upd, Ne.symm hik, hF]
    · have hki : ¬ k < i := by
        intro hlt
        have h9 : kills i k = true := by
          have a1 : d ≤ k := by omega
          simp [kills, a1, hlt]
        rw [h9] at hk; cases hk
      have hkl : k < l.length ∨ l.length ≤ k := Nat.lt_or_ge _ _
      rcases hkl with hkl | hkl
      · rcases hdeep k hkl (by omega) i (by omega) with h8 | ⟨⟨h8, h7⟩, h6⟩
        · rw [h8] at hdk; cases hdk
        · simp only [hkd, if_false] at hF ⊢
          rw [if_neg (by omega), if_neg (by omega), if_pos h8] at hS
          subst hS
          have e : mergeV d vs (upd vals i v) = mergeV d vs vals := by
            funext j
            unfold mergeV upd
            by_cases h1 : j = i
            · subst h1; simp [h7]
            · simp [h1]
          rw [e]; exact hF
      · have h9 : kills i k = true := by
          have a1 : d ≤ k := by omega
          simp [kills, a1, hkl]
        rw [h9] at hk; cases hk
  · intro i o ho w vals _ hini hav
    have hil : i < l.length := by have := (Array.getElem?_eq_some_iff.1 ho).1; simpa using this
    have hok1 := okAt hok ho
    by_cases hid : i < d
    · have hcw : C w := hini false (by
        unfold availIni
        rw [List.all_eq_true]
        intro k hk
        have hk' : k < l.length := by simpa using hk
        by_cases hki : k = i
        · simp [hki]
        · by_cases hkd : d2 ≤ k
          · rcases hdeep k hk' (by omega) i (by omega) with h8 | ⟨_, h8⟩
            · simp only [h8, Bool.or_true]
            · omega
          · simp [hkd])
      have hvals : ∀ j ∈ waitsOf l.toArray i, vals j = vs j := fun j hj => by
        have hji : j < d := by
          have := hok1.before j hj
          omega
        have h1 : availAt l.toArray kills j i = true := by
          unfold availAt
          simp only [kills, Bool.and_eq_true]
          refine ⟨by simpa using hj, ?_⟩
          rw [List.all_eq_true]
          intro k _
          have : ¬ d ≤ j := by omega
          simp [this]
        have := hav j h1
        dsimp only at this
        rw [if_pos hji] at this
        exact this
      have hcon : putAll l.toArray vals (waitsOf l.toArray i) a0 = putAll l.toArray vs (waitsOf l.toArray i) a0 := putAll_congr _ _ _ _ _ hvals
      have ho2 : (l.take d)[i]? = some o := by rw [List.getElem?_take, if_pos hid]; simpa using ho
      have h3 := k4 i o ho2 vs w hcw (fun _ _ => rfl)
      rw [hcon]
      refine h3 _ fun w' hd' => ?_
      refine ⟨vs i, rfl, ?_, trivial, ?_⟩
      · dsimp only; rw [if_pos hid]; simp [upd]
      · dsimp only
        rw [if_neg (by omega), if_neg (by omega)]
        by_cases hp : pu i = true
        · rw [if_pos hp] at hd' ⊢; exact hd'
        · rw [if_neg hp] at hd' ⊢; exact fun _ => hd'
    · have hget : l.drop i = o :: l.drop (i + 1) := by
        have h1 : l[i]? = some o := by simpa using ho
        have h2 := List.drop_eq_getElem_cons hil
        rw [List.getElem?_eq_getElem hil] at h1
        rw [h2, Option.some.inj h1]
      have hvals : ∀ j ∈ waitsOf l.toArray i, vals j = mergeV d vs vals j := fun j hj => by
        unfold mergeV
        split
        · rename_i hjd
          have h1 : availAt l.toArray kills j i = true := by
            unfold availAt
            simp only [kills, Bool.and_eq_true]
            refine ⟨by simpa using hj, ?_⟩
            rw [List.all_eq_true]
            intro k _
            have : ¬ d ≤ j := by omega
            simp [this]
          have := hav j h1
          dsimp only at this
          rw [if_pos hjd] at this
          exact this
        · rfl
      have hcon : putAll l.toArray vals (waitsOf l.toArray i) a0 = putAll l.toArray (mergeV d vs vals) (waitsOf l.toArray i) a0 := putAll_congr _ _ _ _ _ hvals
      have htail : tailP2 P l.toArray a0 d2 Kf i (l.drop i) (mergeV d vs vals) w := by
        by_cases he : i = d
        · subst he
          have hcw : C w := hini false (by
            unfold availIni
            rw [List.all_eq_true]
            intro k hk
            have hk' : k < l.length := by simpa using hk
            by_cases hki : k = i
            · simp [hki]
            · by_cases hkd : d2 ≤ k
              · rcases hdeep k hk' (by omega) i (by omega) with h8 | ⟨_, h8⟩
                · simp only [h8, Bool.or_true]
                · omega
              · simp [hkd])
          exact k1 _ (k3 _ fun j hj => by simp [mergeV, hj]) w hcw
        · have hav1 : availAt l.toArray kills (i - 1) i = true := by
            unfold availAt
            rw [Bool.and_eq_true]
            refine ⟨hprev i hil (by omega), ?_⟩
            rw [List.all_eq_true]
            intro k hk
            have hk' : k < l.length := by simpa using hk
            by_cases hki : k = i
            · simp [hki]
            · by_cases hki2 : i < k
              · rcases hdeep k hk' (by omega) i hki2 with h8 | ⟨⟨_, h8⟩, _⟩
                · simp only [h8, Bool.or_true]
                · omega
              · have : ¬ i - 1 < k ∨ k = i - 1 := by omega
                rcases this with h1 | h1
                · have h8 : ¬ l.length ≤ i - 1 := by omega
                  simp [kills, h1, h8]
                · simp [h1]
          have := hav (i - 1) hav1
          dsimp only at this
          rw [if_neg (by omega), show i - 1 + 1 = i by omega] at this
          exact this
      rw [hget] at htail
      rw [hcon]
      refine htail _ fun v w' hbw ht => ?_
      refine ⟨v, rfl, ?_, trivial, ?_⟩
      · dsimp only
        rw [if_neg hid, mergeV_upd _ _ _ (by omega)]
        exact ht
      · dsimp only
        by_cases h2 : d2 ≤ i
        · rw [if_pos h2]; trivial
        · rw [if_neg h2, if_pos (by omega)]
          exact fun hc => hCs _ _ (hbw (by omega)) hc
  · intro w vals _ hF
    have hn1 : l.length - 1 < l.length := by omega
    have halive : aliveAt l.toArray kills (l.length - 1) = true := by
      unfold aliveAt
      rw [List.all_eq_true]
      intro k hk
      have hk' : k < l.length := by simpa using hk
      have : ¬ l.length - 1 < k := by omega
      have h8 : ¬ l.length ≤ l.length - 1 := by omega
      simp [kills, this, h8]
    have h1 := hF (l.length - 1) (by simpa using hn1) halive
    rw [if_neg (by omega), show l.length - 1 + 1 = l.length by omega, List.drop_length] at h1
    have hcon : putAll l.toArray vals (List.range l.toArray.size) a0 = putAll l.toArray (mergeV d vs vals) (List.range l.toArray.size) a0 := putAll_congr _ _ _ _ _ fun j hj => by
      unfold mergeV
      split
      · rename_i hjd
        have hal : aliveAt l.toArray kills j = true := by
          unfold aliveAt
          rw [List.all_eq_true]
          intro k _
          have : ¬ d ≤ j := by omega
          simp [kills, this]
        have := hF j (by simpa using (List.mem_range.1 hj)) hal
        rw [if_pos hjd] at this
        exact this
      · rfl
    rw [hcon, hps]
    exact h1
section
variable {ops : Array Oper} {C D : World → Prop} {a0 : Act} {K : ((Nat → Value) → Prop) → Prop} {i : Nat} {Φ : (Nat → Value) → Prop} {o : Oper}
theorem detStepR_of {v : Value} (h : DetStep P ops C C Φ i a0 o v) : DetStepR P ops C false Φ i a0 o v := fun vals hp w hc E hE => h vals hp w hc E fun w' hc' => hE w' (by simpa using hc')
theorem detStepR_pure {v : Value} (ps : List (Nat × Option Tmp)) (hps : ∀ vals, putAll ops vals (waitsOf ops i) a0 = puts vals ps a0) (hg : o.guard = none)
    (h : ∀ vals, Φ vals → ∀ w, C w → ∀ E : Act → World → Prop, E ((puts vals ps a0).put o.dst v) w → wpList P #[] (EndOf E) [o] (puts vals ps a0) w) : DetStepR P ops C true Φ i a0 o v := by
  intro vals hp w hc E hE
  have h0 := hE w (by simp)
  rw [hps] at h0 ⊢
  have h1 := h vals hp w hc E h0
  have hw : ∀ (O : Array Oper) (t : Array Value), Region.wanted o (yielded O t) = true := fun O t => by simp [Region.wanted, hg]
  simp only [wpList, hw, if_true] at h1 ⊢
  exact h1
theorem tail_step2 {d2 : Nat} {Kf : (Nat → Value) → World → Prop} {r : List Oper} {vals : Nat → Value} {w : World} (ps : List (Nat × Option Tmp)) (hps : ∀ vals, putAll ops vals (waitsOf ops i) a0 = puts vals ps a0) (hg : o.guard = none)
    (h : ∀ E : Act → World → Prop, (∀ v w', (i < d2 → Below w.heap.size w w') → tailP2 P ops a0 d2 Kf (i + 1) r (upd vals i v) w' → E ((puts vals ps a0).put o.dst v) w') → wpList P #[] (EndOf E) [o] (puts vals ps a0) w) : tailP2 P ops a0 d2 Kf i (o :: r) vals w := by
  intro E hE
  rw [hps] at hE ⊢
  have h1 := h E hE
  have hw : ∀ (O : Array Oper) (t : Array Value), Region.wanted o (yielded O t) = true := fun O t => by simp [Region.wanted, hg]
  simp only [wpList, hw, if_true] at h1 ⊢
  exact h1
theorem tail_end2 {d2 : Nat} {Kf : (Nat → Value) → World → Prop} {vals : Nat → Value} {w : World} (h : Kf vals w) : tailP2 P ops a0 d2 Kf i [] vals w := h
theorem DetR.next {v : Value} {rest : List Oper} {pu : Nat → Bool} (hs : DetStepR P ops C (pu i) Φ i a0 o v) (h : DetR P ops C pu a0 K (i + 1) rest fun vals => Φ vals ∧ vals i = v) : DetR P ops C pu a0 K i (o :: rest) Φ := ⟨v, hs, h⟩
theorem DetR.done {pu : Nat → Bool} (h : K Φ) : DetR P ops C pu a0 K i [] Φ := h
end
end
end Go.Proofs.YtilhhigdegccgaaDoor
/-
  The state while the reference's Of makes its H.
-/
namespace Go.Proofs.YtilhhigdegccgaaDoor.Sh
set_option linter.unusedSimpArgs false
set_option linter.unusedVariables false
open Go.RowKit
theorem own_ne_own {w : World} {B1 B2 n1 n2 s1 s2 : Nat} {e1 e2 : TypeId} {v1 v2 : Value} {x1 x2 : List Value} (h1 : OwnX w B1 e1 s1 v1 n1 x1) (h2 : OwnX w B2 e2 s2 v2 n2 x2) (hne : e1 ≠ e2) : v1.ownBlock = none ∨ v1.ownBlock ≠ v2.ownBlock := by
  rcases h1.2 with ⟨rfl, _⟩ | ⟨g, cap, cur, fz, rfl, _, hg, _⟩
  · exact .inl rfl
  · refine .inr fun e => ?_
    have e2' : v2.ownBlock = some g := e.symm
    rcases h2.2 with ⟨rfl, _⟩ | ⟨g', cap', cur', fz', rfl, _, hg', _⟩
    · simp [Value.ownBlock] at e2'
    · simp [Value.ownBlock] at e2'
      subst e2'
      rw [hg] at hg'
      simp at hg'
      exact hne hg'.2.1
theorem slu_size : (Tryd.prog.info? 106).map (·.size) = some 1 := by kernel_rfl
structure OfG where
  g0 : Nat
  gh : Nat
  ga : Nat
  gb : Nat
  gc : Nat
  gd : Nat
structure OfSt (w0 : World) (G : OfG) (F : ShaF) (z : Array Value) (vP : Value) (cs : Array Value) (vK : Value) (kl : List Nat) (vF : Value) (fl : List Nat) (u : World) : Prop where
  bel : Below G.g0 w0 u
  res : Blk u G.g0 108 z
  h : Blk u G.gh 108 cs
  a : Blk u G.ga 3 (tri F.s0).toArray
  b : Blk u G.gb 3 (tri F.s1).toArray
  c : Blk u G.gc 3 (tri F.t0).toArray
  d : Blk u G.gd 3 (tri F.t1).toArray
  p : OwnX u G.g0 3 1 vP 80 (wordsV .i64 primes80)
  k : OwnX u G.g0 114 1 vK kl.length (wordsV .u64 kl)
  f : OwnX u G.g0 114 1 vF fl.length (wordsV .u64 fl)
  ne : vF.ownBlock = none ∨ vF.ownBlock ≠ vK.ownBlock
  lt : G.g0 < G.gh
section
variable {w0 u u' : World} {G : OfG} {F : ShaF} {z cs cs' : Array Value} {vP vK vF v' : Value} {kl fl : List Nat}
theorem OfSt.next (h : OfSt w0 G F z vP cs vK kl vF fl u) (hb : Below u.heap.size u u') : OfSt w0 G F z vP cs vK kl vF fl u' :=
  ⟨h.bel.trans (hb.mono (by have := h.res.lt; omega)), h.res.below hb h.res.lt, h.h.below hb h.h.lt, h.a.below hb h.a.lt, h.b.below hb h.b.lt, h.c.below hb h.c.lt, h.d.below hb h.d.lt,
    h.p.below hb (Nat.le_refl _), h.k.below hb (Nat.le_refl _), h.f.below hb (Nat.le_refl _), h.ne, h.lt⟩
theorem OfSt.drew (h : OfSt w0 G F z vP cs vK kl vF fl u) : OfSt w0 G F z vP cs vK kl vF fl u.drew := h.next (Below.refl _ _).drew
theorem OfSt.put (h : OfSt w0 G F z vP cs vK kl vF fl u) (hw : Wrote G.gh u u') (hb : Blk u' G.gh 108 cs') (hd : G.ga ≠ G.gh ∧ G.gb ≠ G.gh ∧ G.gc ≠ G.gh ∧ G.gd ≠ G.gh) : OfSt w0 G F z vP cs' vK kl vF fl u' :=
  ⟨hw.below h.bel (Nat.le_of_lt h.lt) (by have := h.res.lt; omega), hw.blk h.res (Nat.ne_of_lt h.lt), hb, hw.blk h.a hd.1, hw.blk h.b hd.2.1, hw.blk h.c hd.2.2.1, hw.blk h.d hd.2.2.2,
    hw.own h.p (own_ne_blk h.p h.h (by decide)), hw.own h.k (own_ne_blk h.k h.h (by decide)), hw.own h.f (own_ne_blk h.f h.h (by decide)), h.ne, h.lt⟩
theorem ne_some {g : Nat} {o : Option Nat} (h : o ≠ some g) : some g ≠ o := fun e => h e.symm
theorem OfSt.appK {x : Nat} (h : OfSt w0 G F z vP cs vK kl vF fl u) (ho : OwnX u' G.g0 114 1 v' (kl.length + 1) (wordsV .u64 kl ++ [.int .u64 (x : Int)])) (hg : u.grownBy u' vK.ownBlock) (hn : vF.ownBlock = none) : OfSt w0 G F z vP cs v' (kl ++ [x]) vF fl u' :=
  ⟨h.bel.grown hg (by have := h.res.lt; omega) (fun k hk => (h.k.lt k hk).1), h.res.grown hg (ne_some (own_ne_blk h.k h.res (by decide))), h.h.grown hg (ne_some (own_ne_blk h.k h.h (by decide))), h.a.grown hg (ne_some (own_ne_blk h.k h.a (by decide))), h.b.grown hg (ne_some (own_ne_blk h.k h.b (by decide))),
    h.c.grown hg (ne_some (own_ne_blk h.k h.c (by decide))), h.d.grown hg (ne_some (own_ne_blk h.k h.d (by decide))), h.p.kept hg (own_ne_own h.p h.k (by decide)), by rw [List.length_append, wordsV_snoc]; exact ho, h.f.kept hg (.inl hn), .inl hn, h.lt⟩
theorem OfSt.appF {x : Nat} (h : OfSt w0 G F z vP cs vK kl vF fl u) (ho : OwnX u' G.g0 114 1 v' (fl.length + 1) (wordsV .u64 fl ++ [.int .u64 (x : Int)])) (hg : u.grownBy u' vF.ownBlock) (hn : Next u vF v') : OfSt w0 G F z vP cs vK kl v' (fl ++ [x]) u' := by
  refine ⟨h.bel.grown hg (by have := h.res.lt; omega) (fun k hk => (h.f.lt k hk).1), h.res.grown hg (ne_some (own_ne_blk h.f h.res (by decide))), h.h.grown hg (ne_some (own_ne_blk h.f h.h (by decide))), h.a.grown hg (ne_some (own_ne_blk h.f h.a (by decide))), h.b.grown hg (ne_some (own_ne_blk h.f h.b (by decide))),
    h.c.grown hg (ne_some (own_ne_blk h.f h.c (by decide))), h.d.grown hg (ne_some (own_ne_blk h.f h.d (by decide))), h.p.kept hg (own_ne_own h.p h.f (by decide)), h.k.kept hg ?_, by rw [List.length_append, wordsV_snoc]; exact ho, ?_, h.lt⟩
  · rcases h.ne with h1 | h1
    · rw [h1]
      cases vK.ownBlock with
      | none => exact .inl rfl
      | some k => exact .inr (by simp)
    · exact .inr (Ne.symm h1)
  · rcases hn with h1 | h1
    · rw [h1]; exact h.ne
    · cases ho2 : v'.ownBlock with
      | none => exact .inl rfl
      | some k =>
        have h2 := h1 k ho2
        refine .inr fun e => ?_
        have := (h.k.lt k e.symm).2
        omega
end
def OfPost (F : ShaF) (w : World) (e : Ending) (w' : World) : Prop :=
  ∃ p : HP, e = .returned (.agg (hv F p)) ∧ HOk F p w' w'.heap.size ∧ Below w.heap.size w w'
theorem prime_lt (i : Nat) (h : i < 80) : primes80.getD i 0 < 65536 := by
  have hm : primes80.getD i 0 ∈ primes80 := by
    rw [List.getD_eq_getElem?_getD, List.getElem?_eq_getElem (show i < primes80.length from h)]; exact List.getElem_mem _
  have := (List.all_eq_true.1 primes_lt) _ hm
  rw [decide_eq_true_eq] at this
  exact this.2
end Go.Proofs.YtilhhigdegccgaaDoor.Sh
/-
  The state while the reference makes a digest.
-/
namespace Go.Proofs.YtilhhigdegccgaaDoor.Sh
set_option linter.unusedSimpArgs false
set_option linter.unusedVariables false
open Go.RowKit
structure HsSt (w0 : World) (gf : Nat) (F : ShaF) (p : HP) (dA : Option Addr) (data : List UInt8) (u : World) : Prop where
  bel : Below gf w0 u
  h : Blk u gf 108 (hv F p)
  ok : HOk F p u gf
  rd : Rd u gf dA (bytesV data)
structure HsA (w0 : World) (gf : Nat) (F : ShaF) (p : HP) (dA : Option Addr) (data : List UInt8) (v : Value) (xs : List UInt8) (u : World) : Prop where
  st : HsSt w0 gf F p dA data u
  own : OwnX u (gf + 1) 5 1 v xs.length (bytesV xs)
structure HsB (w0 : World) (gf : Nat) (F : ShaF) (p : HP) (dA : Option Addr) (data : List UInt8) (v : Value) (xs : List UInt8) (A : Option Addr) (c : Nat) (V : S8) (u : World) : Prop where
  a : HsA w0 gf F p dA data v xs u
  s : OwnX u (gf + 1) 114 1 (.slice A 8 c) 8 (wordsV .u64 (s8L V))
section
variable {w0 u u' : World} {gf : Nat} {F : ShaF} {p : HP} {dA A A' : Option Addr} {data xs ys : List UInt8} {v v' : Value} {c c' : Nat} {V V' : S8}
theorem HsSt.keep (h : HsSt w0 gf F p dA data u) (hb : Below (gf + 1) u u') : HsSt w0 gf F p dA data u' :=
  ⟨h.bel.trans (hb.mono (by omega)), h.h.below hb (by omega), h.ok.below (hb.mono (by omega)), h.rd.below (hb.mono (by omega))⟩
theorem HsSt.next (h : HsSt w0 gf F p dA data u) (hb : Below u.heap.size u u') : HsSt w0 gf F p dA data u' := h.keep (hb.mono (by have := h.h.lt; omega))
theorem HsSt.grow {e : TypeId} {s n : Nat} {v : Value} {zs : List Value} (h : HsSt w0 gf F p dA data u) (ho : OwnX u (gf + 1) e s v n zs) (hg : u.grownBy u' v.ownBlock) : HsSt w0 gf F p dA data u' :=
  h.keep (below_of_grown hg (by have := h.h.lt; omega) (fun k hk => (ho.lt k hk).1))
theorem HsA.next (h : HsA w0 gf F p dA data v xs u) (hb : Below u.heap.size u u') : HsA w0 gf F p dA data v xs u' := ⟨h.st.next hb, h.own.below hb (Nat.le_refl _)⟩
theorem HsA.drew (h : HsA w0 gf F p dA data v xs u) : HsA w0 gf F p dA data v xs u.drew := h.next (Below.refl _ _).drew
theorem HsA.app (h : HsA w0 gf F p dA data v xs u) (hg : u.grownBy u' v.ownBlock) (ho : OwnX u' (gf + 1) 5 1 v' ys.length (bytesV ys)) : HsA w0 gf F p dA data v' ys u' := ⟨h.st.grow h.own hg, ho⟩
theorem HsB.next (h : HsB w0 gf F p dA data v xs A c V u) (hb : Below u.heap.size u u') : HsB w0 gf F p dA data v xs A c V u' := ⟨h.a.next hb, h.s.below hb (Nat.le_refl _)⟩
theorem HsB.drew (h : HsB w0 gf F p dA data v xs A c V u) : HsB w0 gf F p dA data v xs A c V u.drew := h.next (Below.refl _ _).drew
theorem HsB.app (h : HsB w0 gf F p dA data v xs A c V u) (hg : u.grownBy u' v.ownBlock) (ho : OwnX u' (gf + 1) 5 1 v' ys.length (bytesV ys)) : HsB w0 gf F p dA data v' ys A c V u' :=
  ⟨h.a.app hg ho, h.s.kept hg (own_ne_own h.s h.a.own (by decide))⟩
end
def zeroR (F : ShaF) (n : Nat) : Nat := (2 * F.bits - (n + 1 + F.bits / 4) % (2 * F.bits)) % (2 * F.bits)
def lenB (F : ShaF) (n : Nat) : List UInt8 := List.replicate (F.bits / 4 - 8) 0 ++ be8 (n * 8) 8
theorem padR32 (data : List UInt8) (_ : data.length ≤ 1000) : oneZ data (zeroR F32 data.length) ++ lenB F32 data.length = padS F32 data := by
  have h : zeroR F32 data.length = zeroN F32 data.length := by simp only [zeroR, zeroN, F32]; omega
  simp [padS, lenB, oneZ, moreN, F32] at *
  rw [h]
theorem be8_get (n : Nat) : ∀ (k i : Nat), i < k → (be8 n k)[i]? = some (UInt8.ofNat (n / 2 ^ (56 - 8 * i)))
  | k + 1, i, h => by
    rw [be8, List.getElem?_append, be8_length]
    split
    · rename_i h2; exact be8_get n k i h2
    · obtain rfl : i = k := by omega
      simp
theorem lenB32_get (n i j : Nat) (h : i + j + 1 = 8) : (bytesV (lenB F32 n))[i]? = some (.int .u8 ((n * 8 / 256 ^ j % 256 : Nat) : Int)) := by
  have e : lenB F32 n = be8 (n * 8) 8 := rfl
  rw [e, bytesV, List.getElem?_map, be8_get _ _ _ (by omega), show 56 - 8 * i = 8 * j by omega, Nat.pow_mul]
  simp [byteV]
theorem backC_set_app (e : Nat) (ws : List UInt8) (j i : Nat) (v : Value) (R : Array Value) (hw : ws.length = e) (hi : i + j + 1 = e) (hv : (bytesV ws)[i]? = some v) : (backC e ws j ++ R).setIfInBounds i v = backC e ws (j + 1) ++ R := by
  rw [← backC_set e ws j i v hw hi hv]
  apply Array.ext'
  rw [Array.toList_setIfInBounds, Array.toList_append, Array.toList_append, Array.toList_setIfInBounds, List.set_append_left]
  rw [Array.length_toList, backC_size e ws j hw (by omega)]; omega
theorem backC_app_get (e : Nat) (ws : List UInt8) (j i : Nat) (R : Array Value) (hw : ws.length = e) (hi : i + j + 1 = e) : ∃ v, (backC e ws j ++ R)[i]? = some v := by
  have h := backC_size e ws j hw (by omega)
  refine ⟨_, Array.getElem?_eq_getElem (by rw [Array.size_append, h]; omega)⟩
theorem own_blk {w : World} {base e n c : Nat} {A : Option Addr} {xs : List Value} (h : w.ownsRow base e 1 (.slice A n c) n xs) (hn : 0 < n) : ∃ g R, A = some ⟨g, 0, none⟩ ∧ base ≤ g ∧ n ≤ c ∧ Blk w g e (xs.toArray ++ R) := by
  rcases h.2 with ⟨_, h0⟩ | ⟨g, cap, cur, hv, hb, hg, hnc, _, _, ht⟩
  · omega
  · injection hv with h1 _ h3
    subst h1; subst h3
    refine ⟨g, (cur.toList.drop n).toArray, rfl, hb, hnc, ?_⟩
    have : xs.toArray ++ (cur.toList.drop n).toArray = cur := by
      apply Array.ext'
      rw [Array.toList_append, ← ht, Nat.mul_one]
      simp
    rw [this]; exact hg
theorem _root_.Go.Proofs.YtilhhigdegccgaaDoor.Rd.of_blk_app {w : World} {g B : Nat} {t : TypeId} {l : List Value} {R : Array Value} (h : Blk w g t (l.toArray ++ R)) (hB : g < B) : Rd w B (some ⟨g, 0, none⟩) l := fun i u hu => by
  refine ⟨_, rfl, hB, ?_⟩
  have hadd : (⟨g, 0, none⟩ : Addr).add i = ⟨g, i, none⟩ := by unfold Addr.add; split <;> simp_all
  have hlt := (List.getElem?_eq_some_iff.1 hu).1
  rw [hadd, h.cell i, Array.getElem?_append_left (by simpa using hlt)]
  simpa using hu
def HSumPost (F : ShaF) (m : Nat) (data : List UInt8) (w : World) (e : Ending) (w' : World) : Prop :=
  ∃ A c, e = .returned (.slice A m c) ∧ OwnX w' w.heap.size 5 1 (.slice A m c) m (bytesV (digS F data)) ∧ Below w.heap.size w w'
end Go.Proofs.YtilhhigdegccgaaDoor.Sh
