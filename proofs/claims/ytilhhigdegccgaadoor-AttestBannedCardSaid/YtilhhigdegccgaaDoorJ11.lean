/-
  Joined texts: Seqg Seqh.
-/
import Derived.Test.YtilhhigdegccgaaDoorJ10
/-
  A drawn region walked in order, some of whose operations give values that turn on the world: what is said of such a value stays under every operation's step, and is at hand to those that wait for it.
-/
namespace Go.Proofs.YtilhhigdegccgaaDoor
set_option linter.unusedSimpArgs false
set_option linter.unusedVariables false
open Go.RowKit
variable {P : Program}
def SeqG (P : Program) (ops : Array Oper) (C : World → Prop) (St : World → World → Prop) (L : List Value) (G : Nat → Option (Value → World → Prop)) (K : Act → (Nat → World → Prop) → Prop) : Nat → List Oper → Act → (Nat → World → Prop) → Prop
  | _, [], a, Γ => K a Γ
  | i, o :: r, a, Γ => match G i with
    | none => (∀ w, C w → (∀ k ∈ waitsOf ops i, Γ k w) → ∀ E : Act → World → Prop, (∀ w', C w' → St w w' → E (a.put o.dst (L.getD i undef)) w') → wpList P ops (EndOf E) [o] a w) ∧
        SeqG P ops C St L G K (i + 1) r (a.put o.dst (L.getD i undef)) Γ
    | some g => (∀ w, C w → (∀ k ∈ waitsOf ops i, Γ k w) → ∀ E : Act → World → Prop, (∀ x w', C w' → St w w' → g x w' → E (a.put o.dst x) w') → wpList P ops (EndOf E) [o] a w) ∧
        ∀ x, SeqG P ops C St L G K (i + 1) r (a.put o.dst x) (fun k w => (k = i → g x w) ∧ Γ k w)
def valG (L : List Value) (G : Nat → Option (Value → World → Prop)) (vals : Nat → Value) : Nat → Value := fun j => match G j with
  | none => L.getD j undef
  | some _ => vals j
def facG (L : List Value) (G : Nat → Option (Value → World → Prop)) (i : Nat) (vals : Nat → Value) (w : World) : Prop := match G i with
  | none => vals i = L.getD i undef
  | some g => g (vals i) w
theorem seqg_all {ops : Array Oper} {C : World → Prop} {St : World → World → Prop} {L : List Value} {G : Nat → Option (Value → World → Prop)} {K : Act → (Nat → World → Prop) → Prop} {a0 : Act} (vals : Nat → Value) :
    ∀ (rest : List Oper) (i : Nat) (Γ : Nat → World → Prop), (∀ j o, rest[j]? = some o → ops[i + j]? = some o) → (∀ k w, (∀ g, k < i → G k = some g → g (vals k) w) → Γ k w) →
      SeqG P ops C St L G K i rest (putAll ops (valG L G vals) (List.range i) a0) Γ →
      (∀ j o, rest[j]? = some o → ∀ w, C w → (∀ k ∈ waitsOf ops (i + j), ∀ g, k < i + j → G k = some g → g (vals k) w) → ∀ E : Act → World → Prop,
        (match G (i + j) with
          | none => ∀ w', C w' → St w w' → E ((putAll ops (valG L G vals) (List.range (i + j)) a0).put o.dst (L.getD (i + j) undef)) w'
          | some g => ∀ x w', C w' → St w w' → g x w' → E ((putAll ops (valG L G vals) (List.range (i + j)) a0).put o.dst x) w') →
        wpList P ops (EndOf E) [o] (putAll ops (valG L G vals) (List.range (i + j)) a0) w) ∧
      ∃ Γ' : Nat → World → Prop, (∀ k w, (∀ g, k < i + rest.length → G k = some g → g (vals k) w) → Γ' k w) ∧ K (putAll ops (valG L G vals) (List.range (i + rest.length)) a0) Γ'
  | [], i, Γ, _, hΓ, h => ⟨fun j o hj => by simp at hj, Γ, hΓ, h⟩
  | o :: r, i, Γ, hat, hΓ, h => by
    have ho : ops[i]? = some o := by simpa using hat 0 o rfl
    have hdo : dstAt ops i = o.dst := by simp [dstAt, ho]
    have hat' : ∀ j o', r[j]? = some o' → ops[i + 1 + j]? = some o' := fun j o' hj => by
      rw [show i + 1 + j = i + (j + 1) by omega]
      exact hat (j + 1) o' (by simpa using hj)
    have hsn : putAll ops (valG L G vals) (List.range (i + 1)) a0 = (putAll ops (valG L G vals) (List.range i) a0).put o.dst (valG L G vals i) := by
      rw [List.range_succ, putAll_snoc, hdo]
    unfold SeqG at h
    have hlen : i + (o :: r).length = i + 1 + r.length := by simp only [List.length_cons]; omega
    cases hG : G i with
    | none =>
      rw [hG] at h
      obtain ⟨h1, h2⟩ := h
      have hv : valG L G vals i = L.getD i undef := by simp [valG, hG]
      rw [hv] at hsn
      rw [← hsn] at h2
      obtain ⟨k1, Γ', k2, k3⟩ := seqg_all vals r (i + 1) Γ hat' (fun k w hk => hΓ k w fun g hki hg => hk g (by omega) hg) h2
      refine ⟨fun j o' hj => ?_, Γ', fun k w hk => k2 k w fun g hki hg => hk g (by rw [hlen]; exact hki) hg, by rw [hlen]; exact k3⟩
      cases j with
      | zero =>
        simp at hj
        subst hj
        intro w hc hf E hE
        rw [Nat.add_zero, hG] at hE
        rw [Nat.add_zero] at hf ⊢
        exact h1 w hc (fun k hk => hΓ k w fun g hki hg => hf k hk g hki hg) E hE
      | succ j =>
        have := k1 j o' (by simpa using hj)
        rw [show i + 1 + j = i + (j + 1) by omega] at this
        exact this
    | some g0 =>
      rw [hG] at h
      obtain ⟨h1, h2⟩ := h
      have hv : valG L G vals i = vals i := by simp [valG, hG]
      rw [hv] at hsn
      have h3 := h2 (vals i)
      rw [← hsn] at h3
      obtain ⟨k1, Γ', k2, k3⟩ := seqg_all vals r (i + 1) _ hat' (fun k w hk => ⟨fun e => by subst e; exact hk g0 (by omega) hG, hΓ k w fun g hki hg => hk g (by omega) hg⟩) h3
      refine ⟨fun j o' hj => ?_, Γ', fun k w hk => k2 k w fun g hki hg => hk g (by rw [hlen]; exact hki) hg, by rw [hlen]; exact k3⟩
      cases j with
      | zero =>
        simp at hj
        subst hj
        intro w hc hf E hE
        rw [Nat.add_zero, hG] at hE
        rw [Nat.add_zero] at hf ⊢
        exact h1 w hc (fun k hk => hΓ k w fun g hki hg => hf k hk g hki hg) E hE
      | succ j =>
        have := k1 j o' (by simpa using hj)
        rw [show i + 1 + j = i + (j + 1) by omega] at this
        exact this
theorem wp_region_seqg {id : Nat} {l : List Oper} {a0 : Act} {w0 : World} {Q : Exit → Act → World → Prop} (C : World → Prop) (St : World → World → Prop) (L : List Value) (G : Nat → Option (Value → World → Prop))
    (hm : P.follows .mixedOrders = true) (hok : regionOk l.toArray = true) (hst : ∀ i g, G i = some g → ∀ x w w', St w w' → g x w → g x w') (hC : C w0.drew)
    (h : SeqG P l.toArray C St L G (fun a Γ => ∀ w, C w → (∀ k, Γ k w) → Q .normal a w) 0 l a0 (fun _ _ => True)) :
    (Code.region id l.toArray true).wp P Q a0 w0 := by
  have hall : ∀ vals : Nat → Value, _ := fun vals => seqg_all (P := P) (ops := l.toArray) (C := C) (St := St) (L := L) (G := G) (a0 := a0) vals l 0 (fun _ _ => True) (by simp) (fun _ _ _ => trivial) h
  have hdist := region_dist hok
  refine wp_region_rel C (fun _ _ => True) (fun _ _ => true) (facG L G) (fun _ => St) (fun _ _ => false) hm hok hC (fun _ => trivial) ?_ ?_ ?_ ?_
  · intro _ i hi
    cases hi
  · intro i k hi hik _ hdk vals v w w' hS hF
    unfold facG at hF ⊢
    cases hG : G k with
    | none =>
      rw [hG] at hF
      simp only [hG] at hF ⊢
      simp [upd, Ne.symm hik, hF]
    | some g =>
      rw [hG] at hF
      simp only [hG] at hF ⊢
      have := hst k g hG _ _ _ hS hF
      simpa [upd, Ne.symm hik] using this
  · intro i o ho w vals hcw _ hav
    have ok := okAt hok ho
    have hav' : ∀ j ∈ waitsOf l.toArray i, facG L G j vals w := fun j hj => hav j (by
      unfold availAt
      simp [hj])
    have hvals : ∀ j ∈ waitsOf l.toArray i, vals j = valG L G vals j := fun j hj => by
      have h1 := hav' j hj
      unfold facG at h1
      unfold valG
      cases hG : G j with
      | none => rw [hG] at h1; exact h1
      | some g => rfl
    have hcon : putAll l.toArray vals (waitsOf l.toArray i) a0 = putAll l.toArray (valG L G vals) (waitsOf l.toArray i) a0 := putAll_congr _ _ _ _ _ hvals
    obtain ⟨k1, _⟩ := hall vals
    have k2 := k1 i o (by simpa using ho) w hcw (fun k hk g _ hg => by
      rw [Nat.zero_add] at hk
      have h1 := hav' k hk
      unfold facG at h1
      rw [hg] at h1
      exact h1)
    rw [Nat.zero_add] at k2
    have hsz : (putAll l.toArray vals (waitsOf l.toArray i) a0).tmps.size = (putAll l.toArray (valG L G vals) (List.range i) a0).tmps.size := by
      rw [(putAll_look hdist vals (waitsOf l.toArray i) a0).1, (putAll_look hdist (valG L G vals) (List.range i) a0).1]
    have hlk : ∀ t ∈ o.looksAt l.toArray, (putAll l.toArray vals (waitsOf l.toArray i) a0).tmps[t]? = (putAll l.toArray (valG L G vals) (List.range i) a0).tmps[t]? := by
      rw [hcon]
      exact seq_look hok ho (valG L G vals) a0
    cases hG : G i with
    | none =>
      rw [hG] at k2
      have h3 := k2 (fun a' w' => ∃ v, a' = (putAll l.toArray (valG L G vals) (List.range i) a0).put o.dst v ∧ (v = L.getD i undef ∧ C w' ∧ St w w')) fun w' h1 h2 => ⟨_, rfl, rfl, h1, h2⟩
      refine seq_move (R := fun v w' => v = L.getD i undef ∧ C w' ∧ St w w') ok.sel hsz hlk h3 ?_
      rintro v w' ⟨rfl, h1, h2⟩
      refine ⟨_, rfl, ?_, h1, h2⟩
      unfold facG
      rw [hG]
      simp [upd]
    | some g =>
      rw [hG] at k2
      have h3 := k2 (fun a' w' => ∃ v, a' = (putAll l.toArray (valG L G vals) (List.range i) a0).put o.dst v ∧ (g v w' ∧ C w' ∧ St w w')) fun x w' h1 h2 h3 => ⟨_, rfl, h3, h1, h2⟩
      refine seq_move (R := fun v w' => g v w' ∧ C w' ∧ St w w') ok.sel hsz hlk h3 ?_
      rintro v w' ⟨h1, h2, h3⟩
      refine ⟨_, rfl, ?_, h2, h3⟩
      unfold facG
      rw [hG]
      simpa [upd] using h1
  · intro w vals hcw hF
    have hal : ∀ j, aliveAt l.toArray (fun _ _ => false) j = true := fun j => by simp [aliveAt]
    obtain ⟨_, Γ', k2, k3⟩ := hall vals
    rw [Nat.zero_add] at k2 k3
    have hcon : putAll l.toArray vals (List.range l.toArray.size) a0 = putAll l.toArray (valG L G vals) (List.range l.length) a0 := by
      rw [show l.toArray.size = l.length by simp]
      refine putAll_congr _ _ _ _ _ fun j hj => ?_
      have h1 := hF j (by simpa using List.mem_range.1 hj) (hal _)
      unfold facG at h1
      unfold valG
      cases hG : G j with
      | none => rw [hG] at h1; exact h1
      | some g => rfl
    rw [hcon]
    refine k3 w hcw fun k => k2 k w fun g hk hg => ?_
    have h1 := hF k (by simpa using hk) (hal _)
    unfold facG at h1
    rw [hg] at h1
    exact h1
def gOf (ps : List (Nat × (Value → World → Prop))) (i : Nat) : Option (Value → World → Prop) := ps.lookup i
def StabL (St : World → World → Prop) : List (Nat × (Value → World → Prop)) → Prop
  | [] => True
  | p :: r => (∀ x w w', St w w' → p.2 x w → p.2 x w') ∧ StabL St r
theorem stabL_of {St : World → World → Prop} : ∀ (ps : List (Nat × (Value → World → Prop))), StabL St ps → ∀ i g, gOf ps i = some g → ∀ x w w', St w w' → g x w → g x w'
  | [], _, i, g, h => by simp [gOf] at h
  | (k, p) :: r, hs, i, g, h => by
    unfold gOf at h
    rw [List.lookup_cons] at h
    split at h
    · injection h with h
      subst h
      exact hs.1
    · exact stabL_of r hs.2 i g h
section
variable {ops : Array Oper} {C : World → Prop} {St : World → World → Prop} {L : List Value} {G : Nat → Option (Value → World → Prop)} {K : Act → (Nat → World → Prop) → Prop} {Γ : Nat → World → Prop} {i : Nat} {o : Oper} {r : List Oper} {a a' : Act} {v : Value}
theorem SeqG.nil (h : K a Γ) : SeqG P ops C St L G K i [] a Γ := h
theorem SeqG.next (hG : G i = none) (hv : L.getD i undef = v) (hg : o.guard = none) (ha : a.put o.dst v = a')
    (h : ∀ w, C w → (∀ k ∈ waitsOf ops i, Γ k w) → ∀ E : Act → World → Prop, (∀ w', C w' → St w w' → E a' w') → wpList P #[] (EndOf E) [o] a w)
    (hr : SeqG P ops C St L G K (i + 1) r a' Γ) : SeqG P ops C St L G K i (o :: r) a Γ := by
  subst ha
  unfold SeqG
  rw [hG]
  refine ⟨fun w hc hf E hE => ?_, by rw [hv]; exact hr⟩
  have h1 := h w hc hf E (fun w' h1 h2 => by have := hE w' h1 h2; rwa [hv] at this)
  have hw : ∀ (O : Array Oper) (t : Array Value), Region.wanted o (yielded O t) = true := fun O t => by simp [Region.wanted, hg]
  simp only [wpList, hw, if_true] at h1 ⊢
  exact h1
theorem SeqG.some {g : Value → World → Prop} (hG : G i = some g) (hg : o.guard = none)
    (h : ∀ w, C w → (∀ k ∈ waitsOf ops i, Γ k w) → ∀ E : Act → World → Prop, (∀ x w', g x w' → C w' → St w w' → E (a.put o.dst x) w') → wpList P #[] (EndOf E) [o] a w)
    (hr : ∀ x, SeqG P ops C St L G K (i + 1) r (a.put o.dst x) (fun k w => (k = i → g x w) ∧ Γ k w)) : SeqG P ops C St L G K i (o :: r) a Γ := by
  unfold SeqG
  rw [hG]
  refine ⟨fun w hc hf E hE => ?_, hr⟩
  have h1 := h w hc hf E (fun x w' h1 h2 h3 => hE x w' h2 h3 h1)
  have hw : ∀ (O : Array Oper) (t : Array Value), Region.wanted o (yielded O t) = true := fun O t => by simp [Region.wanted, hg]
  simp only [wpList, hw, if_true] at h1 ⊢
  exact h1
theorem seqg_open {E : Act → World → Prop} {w : World} {g : Nat} {t : Tmp} {b : Bool} (hg : o.guard = Option.some (g, b)) (hd : dstAt ops g = Option.some t) (ht : a.tmps[t]? = Option.some (.bool b))
    (h1 : wpList P #[] (EndOf E) [{ o with guard := none }] a w) : wpList P ops (EndOf E) [o] a w := by
  have hw : Region.wanted o (yielded ops a.tmps) = true := by
    unfold dstAt at hd
    simp [Region.wanted, hg, yielded, hd, ht]
  have hw' : ∀ (O : Array Oper) (t : Array Value), Region.wanted { o with guard := none } (yielded O t) = true := fun O t => by simp [Region.wanted]
  simp only [wpList, hw, hw', if_true] at h1 ⊢
  have hk : ∀ a w, Oper.asks P { o with guard := none } a w = Oper.asks P o a w := fun a w => rfl
  rw [hk] at h1
  exact h1
theorem SeqG.yes {g : Nat} {t : Tmp} {b : Bool} (hG : G i = none) (hv : L.getD i undef = v) (hg : o.guard = Option.some (g, b)) (hd : dstAt ops g = Option.some t) (ht : a.tmps[t]? = Option.some (.bool b)) (ha : a.put o.dst v = a')
    (h : ∀ w, C w → (∀ k ∈ waitsOf ops i, Γ k w) → ∀ E : Act → World → Prop, (∀ w', C w' → St w w' → E a' w') → wpList P #[] (EndOf E) [{ o with guard := none }] a w)
    (hr : SeqG P ops C St L G K (i + 1) r a' Γ) : SeqG P ops C St L G K i (o :: r) a Γ := by
  subst ha
  unfold SeqG
  rw [hG]
  refine ⟨fun w hc hf E hE => ?_, by rw [hv]; exact hr⟩
  exact seqg_open hg hd ht (h w hc hf E (fun w' h1 h2 => by have := hE w' h1 h2; rwa [hv] at this))
theorem SeqG.yesS {f : Value → World → Prop} {g : Nat} {t : Tmp} {b : Bool} (hG : G i = Option.some f) (hg : o.guard = Option.some (g, b)) (hd : dstAt ops g = Option.some t) (ht : a.tmps[t]? = Option.some (.bool b))
    (h : ∀ w, C w → (∀ k ∈ waitsOf ops i, Γ k w) → ∀ E : Act → World → Prop, (∀ x w', f x w' → C w' → St w w' → E (a.put o.dst x) w') → wpList P #[] (EndOf E) [{ o with guard := none }] a w)
    (hr : ∀ x, SeqG P ops C St L G K (i + 1) r (a.put o.dst x) (fun k w => (k = i → f x w) ∧ Γ k w)) : SeqG P ops C St L G K i (o :: r) a Γ := by
  unfold SeqG
  rw [hG]
  exact ⟨fun w hc hf E hE => seqg_open hg hd ht (h w hc hf E fun x w' h1 h2 h3 => hE x w' h2 h3 h1), hr⟩
theorem SeqG.no {g : Nat} {t : Tmp} {b : Bool} (hst : ∀ w, St w w) (hG : G i = none) (hv : L.getD i undef = undef) (hg : o.guard = Option.some (g, b)) (hd : dstAt ops g = Option.some t) (ht : a.tmps[t]? = Option.some (.bool !b)) (ha : a.put o.dst undef = a')
    (hr : SeqG P ops C St L G K (i + 1) r a' Γ) : SeqG P ops C St L G K i (o :: r) a Γ := by
  subst ha
  unfold SeqG
  rw [hG]
  refine ⟨fun w hc hf E hE => ?_, by rw [hv]; exact hr⟩
  have hd' : (ops[g]?).bind (·.dst) = Option.some t := hd
  have hw : ¬ Region.wanted o (yielded ops a.tmps) = true := by
    simp [Region.wanted, hg, yielded, hd', ht]
  simp only [wpList, if_neg hw]
  have := hE w hc (hst w)
  rw [hv] at this
  exact ⟨rfl, this⟩
end
end Go.Proofs.YtilhhigdegccgaaDoor
/-
  XSeqg's drawn regions with a tail of operations that come last, one behind the other.
-/
namespace Go.Proofs.YtilhhigdegccgaaDoor
set_option linter.unusedSimpArgs false
set_option linter.unusedVariables false
open Go.RowKit
variable {P : Program}
def mergeG (d : Nat) (L : List Value) (G : Nat → Option (Value → World → Prop)) (vals : Nat → Value) : Nat → Value := fun j => if j < d then valG L G vals j else vals j
theorem mergeG_upd {d i : Nat} (L : List Value) (G : Nat → Option (Value → World → Prop)) (vals : Nat → Value) (v : Value) (h : d ≤ i) : mergeG d L G (upd vals i v) = upd (mergeG d L G vals) i v := by
  funext j
  unfold mergeG upd valG
  by_cases h1 : j = i
  · subst h1
    have : ¬ j < d := by omega
    simp [this]
  · simp only [h1, if_false]
theorem wp_region_seqh {id : Nat} {l : List Oper} {a0 : Act} {w0 : World} {Q : Exit → Act → World → Prop} (C : World → Prop) (St : World → World → Prop) (L : List Value) (G : Nat → Option (Value → World → Prop)) (d : Nat)
    (hm : P.follows .mixedOrders = true) (hok : regionOk l.toArray = true) (hd : d < l.length)
    (hlast : ((List.range l.length).all fun k => decide (k < d) || (((List.range k).all fun i => (deepWaits l.toArray 5 k).contains i) && (k == d || (waitsOf l.toArray k).contains (k - 1)))) = true)
    (hst : ∀ i g, G i = some g → ∀ x w w', St w w' → g x w → g x w') (hC : C w0.drew)
    (h : SeqG P l.toArray C St L G (fun a Γ => ∀ w, C w → (∀ k ∈ waitsOf l.toArray d, Γ k w) → SeqT P l.toArray (fun a w => Q .normal a w) (l.drop d) a w) 0 (l.take d) a0 (fun _ _ => True)) :
    (Code.region id l.toArray true).wp P Q a0 w0 := by
  have hdist := region_dist hok
  have htl : (l.take d).length = d := by rw [List.length_take]; omega
  have hall : ∀ vals : Nat → Value, _ := fun vals => seqg_all (P := P) (ops := l.toArray) (C := C) (St := St) (L := L) (G := G) (a0 := a0) vals (l.take d) 0 (fun _ _ => True) (fun j o hj => by
    rw [List.getElem?_take] at hj
    split at hj
    · simpa using hj
    · cases hj) (fun _ _ _ => trivial) h
  have hdeep : ∀ k, k < l.length → d ≤ k → ∀ i, i < k → (deepWaits l.toArray 5 k).contains i = true := fun k hk hdk i hi => by
    have h1 := (List.all_eq_true.1 hlast) k (List.mem_range.2 hk)
    simp only [Bool.or_eq_true, decide_eq_true_eq, Bool.and_eq_true] at h1
    rcases h1 with h1 | h1
    · omega
    · exact (List.all_eq_true.1 h1.1) i (List.mem_range.2 hi)
  have hprev : ∀ k, k < l.length → d < k → (waitsOf l.toArray k).contains (k - 1) = true := fun k hk hdk => by
    have h1 := (List.all_eq_true.1 hlast) k (List.mem_range.2 hk)
    simp only [Bool.or_eq_true, decide_eq_true_eq, Bool.and_eq_true, beq_iff_eq] at h1
    rcases h1 with h1 | ⟨_, h1 | h1⟩
    · omega
    · omega
    · exact h1
  let Kf : (Nat → Value) → World → Prop := fun vals w => Q .normal (putAll l.toArray vals (List.range l.length) a0) w
  let kills : Nat → Nat → Bool := fun i k => (decide (d ≤ k) && (decide (k < i) || decide (l.length ≤ k))) || (decide (d ≤ i) && decide (k < d) && (G k).isSome)
  have hkl : ∀ k j, j < d → (∀ g, G j ≠ some g) → kills k j = false := fun k j hj hg => by
    have a1 : ¬ d ≤ j := by omega
    have a2 : (G j).isSome = false := by
      cases hG : G j with
      | none => rfl
      | some g => exact absurd hG (hg g)
    simp [kills, a1, a2]
  -- what is said of those that i waits for
  have hfa : ∀ i j, j ∈ waitsOf l.toArray i → i < l.length → j < d → availAt l.toArray kills j i = true ∨ (∃ g, G j = some g) := fun i j hj hi hjd => by
    cases hG : G j with
    | some g => exact .inr ⟨g, rfl⟩
    | none =>
      refine .inl ?_
      unfold availAt
      rw [Bool.and_eq_true]
      refine ⟨by simpa using hj, ?_⟩
      rw [List.all_eq_true]
      intro k _
      rw [hkl k j hjd (by rw [hG]; exact fun g h => by cases h)]
      simp
  have hfb : ∀ i j, j ∈ waitsOf l.toArray i → i ≤ d → i < l.length → j < i → availAt l.toArray kills j i = true := fun i j hj hi hil hji => by
    unfold availAt
    rw [Bool.and_eq_true]
    refine ⟨by simpa using hj, ?_⟩
    rw [List.all_eq_true]
    intro k hk
    have hk' : k < l.length := by simpa using hk
    by_cases hkd : d ≤ k
    · by_cases hki : k = i
      · simp [hki]
      · simp only [hdeep k hk' hkd i (by omega), Bool.or_true]
    · have a1 : ¬ d ≤ j := by omega
      have : kills k j = false := by simp [kills, a1, hkd]
      rw [this]
      simp
  refine wp_region_rel (fun _ => True) (fun _ => C) (fun _ i => decide (d ≤ i))
    (fun i vals w => if i < d then facG L G i vals w else tailP P l.toArray a0 Kf (i + 1) (l.drop (i + 1)) (mergeG d L G vals) w)
    (fun i w w' => if d ≤ i then True else (St w w' ∧ (C w → C w'))) kills hm hok trivial (fun _ => hC) ?_ ?_ ?_ ?_
  · intro _ i hi w w' hS hc
    have hne : ¬ d ≤ i := by simpa using hi
    rw [if_neg hne] at hS
    exact hS.2 hc
  · intro i k hi hik hk hdk vals v w w' hS hF
    by_cases hkd : k < d
    · simp only [hkd, if_true] at hF ⊢
      unfold facG at hF ⊢
      cases hG : G k with
      | none =>
        rw [hG] at hF
        simp only [hG] at hF ⊢
        simp [upd, Ne.symm hik, hF]
      | some g =>
        rw [hG] at hF
        simp only [hG] at hF ⊢
        by_cases hid : d ≤ i
        · have : kills i k = true := by simp [kills, hid, hkd, hG]
          rw [this] at hk
          cases hk
        · rw [if_neg hid] at hS
          have := hst k g hG _ _ _ hS.1 hF
          simpa [upd, Ne.symm hik] using this
    · have hki : ¬ k < i := by
        intro hlt
        have h9 : kills i k = true := by
          have a1 : d ≤ k := by omega
          simp [kills, a1, hlt]
        rw [h9] at hk; cases hk
      have hkl : k < l.length ∨ l.length ≤ k := Nat.lt_or_ge _ _
      rcases hkl with hkl | hkl
      · rw [hdeep k hkl (by omega) i (by omega)] at hdk
        cases hdk
      · have h9 : kills i k = true := by
          have a1 : d ≤ k := by omega
          simp [kills, a1, hkl]
        rw [h9] at hk; cases hk
  · intro i o ho w vals _ hini hav
    have hil : i < l.length := by have := (Array.getElem?_eq_some_iff.1 ho).1; simpa using this
    have ok := okAt hok ho
    have hvals : ∀ j ∈ waitsOf l.toArray i, vals j = mergeG d L G vals j := fun j hj => by
      unfold mergeG
      split
      · rename_i hjd
        unfold valG
        rcases hfa i j hj hil hjd with h1 | ⟨g, hg⟩
        · have h2 := hav j h1
          dsimp only at h2
          rw [if_pos hjd] at h2
          unfold facG at h2
          cases hG : G j with
          | none => rw [hG] at h2; exact h2
          | some g => rfl
        · rw [hg]
      · rfl
    have hcon : putAll l.toArray vals (waitsOf l.toArray i) a0 = putAll l.toArray (mergeG d L G vals) (waitsOf l.toArray i) a0 := putAll_congr _ _ _ _ _ hvals
    have hci : i ≤ d → C w := fun hid => hini false (by
      unfold availIni
      rw [List.all_eq_true]
      intro k hk
      have hk' : k < l.length := by simpa using hk
      by_cases hki : k = i
      · simp [hki]
      · by_cases hkd : d ≤ k
        · simp only [hdeep k hk' hkd i (by omega), Bool.or_true]
        · simp [hkd])
    have hfg : i ≤ d → ∀ k ∈ waitsOf l.toArray i, ∀ g, k < d → G k = some g → g (vals k) w := fun hid k hk g hkd hg => by
      have h1 := hav k (hfb i k hk hid hil (ok.before k hk))
      dsimp only at h1
      rw [if_pos hkd] at h1
      unfold facG at h1
      rw [hg] at h1
      exact h1
    by_cases hid : i < d
    · have hr : putAll l.toArray (mergeG d L G vals) (List.range i) a0 = putAll l.toArray (valG L G vals) (List.range i) a0 := putAll_congr _ _ _ _ _ fun j hj => by
        have := List.mem_range.1 hj
        unfold mergeG
        rw [if_pos (by omega)]
      obtain ⟨k1, _⟩ := hall vals
      have ho2 : (l.take d)[i]? = some o := by rw [List.getElem?_take, if_pos hid]; simpa using ho
      have k2 := k1 i o ho2 w (hci (by omega)) (fun k hk g hki hg => by
        rw [Nat.zero_add] at hk hki
        exact hfg (by omega) k hk g (by omega) hg)
      rw [Nat.zero_add] at k2
      have hsz : (putAll l.toArray vals (waitsOf l.toArray i) a0).tmps.size = (putAll l.toArray (valG L G vals) (List.range i) a0).tmps.size := by
        rw [(putAll_look hdist vals (waitsOf l.toArray i) a0).1, (putAll_look hdist (valG L G vals) (List.range i) a0).1]
      have hlk : ∀ t ∈ o.looksAt l.toArray, (putAll l.toArray vals (waitsOf l.toArray i) a0).tmps[t]? = (putAll l.toArray (valG L G vals) (List.range i) a0).tmps[t]? := by
        rw [hcon, ← hr]
        exact seq_look hok ho (mergeG d L G vals) a0
      cases hG : G i with
      | none =>
        rw [hG] at k2
        have h3 := k2 (fun a' w' => ∃ v, a' = (putAll l.toArray (valG L G vals) (List.range i) a0).put o.dst v ∧ (v = L.getD i undef ∧ C w' ∧ St w w')) fun w' h1 h2 => ⟨_, rfl, rfl, h1, h2⟩
        refine seq_move (R := fun v w' => v = L.getD i undef ∧ C w' ∧ St w w') ok.sel hsz hlk h3 ?_
        rintro v w' ⟨rfl, h1, h2⟩
        refine ⟨_, rfl, ?_, trivial, ?_⟩
        · dsimp only
          rw [if_pos hid]
          unfold facG
          rw [hG]
          simp [upd]
        · dsimp only
          rw [if_neg (by omega)]
          exact ⟨h2, fun _ => h1⟩
      | some g =>
        rw [hG] at k2
        have h3 := k2 (fun a' w' => ∃ v, a' = (putAll l.toArray (valG L G vals) (List.range i) a0).put o.dst v ∧ (g v w' ∧ C w' ∧ St w w')) fun x w' h1 h2 h3 => ⟨_, rfl, h3, h1, h2⟩
        refine seq_move (R := fun v w' => g v w' ∧ C w' ∧ St w w') ok.sel hsz hlk h3 ?_
        rintro v w' ⟨h1, h2, h3⟩
        refine ⟨_, rfl, ?_, trivial, ?_⟩
        · dsimp only
          rw [if_pos hid]
          unfold facG
          rw [hG]
          simpa [upd] using h1
        · dsimp only
          rw [if_neg (by omega)]
          exact ⟨h3, fun _ => h2⟩
    · have hget : l.drop i = o :: l.drop (i + 1) := by
        have h1 : l[i]? = some o := by simpa using ho
        have h2 := List.drop_eq_getElem_cons hil
        rw [List.getElem?_eq_getElem hil] at h1
        rw [h2, Option.some.inj h1]
      have htail : tailP P l.toArray a0 Kf i (l.drop i) (mergeG d L G vals) w := by
        by_cases he : i = d
        · subst he
          obtain ⟨_, Γ', k2, k3⟩ := hall vals
          rw [Nat.zero_add, htl] at k2 k3
          have hr : putAll l.toArray (mergeG i L G vals) (List.range i) a0 = putAll l.toArray (valG L G vals) (List.range i) a0 := putAll_congr _ _ _ _ _ fun j hj => by
            have := List.mem_range.1 hj
            unfold mergeG
            rw [if_pos (by omega)]
          exact seq_tail (P := P) (Kq := fun a w => Q .normal a w) (n := l.length) hok (l.drop i) i (mergeG i L G vals) _ w (fun j o hj => by
            rw [List.getElem?_drop] at hj
            simpa using hj) (by rw [List.length_drop]; omega) hr (k3 w (hci (Nat.le_refl _)) fun k hk => k2 k w fun g hki hg => hfg (Nat.le_refl _) k hk g hki hg)
        · have hav1 : availAt l.toArray kills (i - 1) i = true := by
            unfold availAt
            rw [Bool.and_eq_true]
            refine ⟨hprev i hil (by omega), ?_⟩
            rw [List.all_eq_true]
            intro k hk
            have hk' : k < l.length := by simpa using hk
            by_cases hki : k = i
            · simp [hki]
            · by_cases hki2 : i < k
              · simp only [hdeep k hk' (by omega) i hki2, Bool.or_true]
              · have : ¬ i - 1 < k ∨ k = i - 1 := by omega
                have h8 : ¬ l.length ≤ i - 1 := by omega
                have h7 : ¬ i - 1 < d := by omega
                rcases this with h1 | h1
                · simp [kills, h1, h8, h7]
                · simp [h1]
          have := hav (i - 1) hav1
          dsimp only at this
          rw [if_neg (by omega), show i - 1 + 1 = i by omega] at this
          exact this
      rw [hget] at htail
      rw [hcon]
      refine htail _ fun v w' ht => ?_
      refine ⟨v, rfl, ?_, trivial, ?_⟩
      · dsimp only
        rw [if_neg hid, mergeG_upd _ _ _ _ (by omega)]
        exact ht
      · dsimp only; rw [if_pos (by omega)]; trivial
  · intro w vals _ hF
    have hn1 : l.length - 1 < l.length := by omega
    have halive : aliveAt l.toArray kills (l.length - 1) = true := by
      unfold aliveAt
      rw [List.all_eq_true]
      intro k hk
      have hk' : k < l.length := by simpa using hk
      have h7 : ¬ l.length - 1 < k := by omega
      have h8 : ¬ l.length ≤ l.length - 1 := by omega
      have h6 : ¬ l.length - 1 < d := by omega
      simp [kills, h7, h8, h6]
    have h1 := hF (l.length - 1) (by simpa using hn1) halive
    rw [if_neg (by omega), show l.length - 1 + 1 = l.length by omega, List.drop_length] at h1
    have hcon : putAll l.toArray vals (List.range l.toArray.size) a0 = putAll l.toArray (mergeG d L G vals) (List.range l.length) a0 := by
      rw [show l.toArray.size = l.length by simp]
      refine putAll_congr _ _ _ _ _ fun j hj => ?_
      unfold mergeG
      split
      · rename_i hjd
        unfold valG
        cases hG : G j with
        | some g => rfl
        | none =>
          have hal : aliveAt l.toArray kills j = true := by
            unfold aliveAt
            rw [List.all_eq_true]
            intro k _
            rw [hkl k j hjd (by rw [hG]; exact fun g h => by cases h)]
            simp
          have := hF j (by simpa using (List.mem_range.1 hj)) hal
          rw [if_pos hjd] at this
          unfold facG at this
          rw [hG] at this
          exact this
      · rfl
    rw [hcon]
    exact h1
end Go.Proofs.YtilhhigdegccgaaDoor
