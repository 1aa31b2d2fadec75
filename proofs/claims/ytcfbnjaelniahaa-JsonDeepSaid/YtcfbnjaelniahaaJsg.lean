/-
  Plain: JSON's texts: blanks around.
-/
import Derived.Test.YtcfbnjaelniahaaJst
namespace Go.Proofs.Ytcfbnjaelniahaa.Js
set_option linter.unusedVariables false

-- blanks behind
def allBl (g : Bs) : Prop := ∀ c ∈ g, isBl c = true
/-- the one, and blanks behind it -/
def Ext (r r2 : Bs) : Prop := ∃ g, allBl g ∧ r2 = r ++ g
theorem skip_bl : ∀ {g : Bs}, allBl g → skip g = []
  | [], _ => rfl
  | c :: g, h => by
    have h1 := h c (List.mem_cons_self ..)
    simp only [skip, h1, if_true]
    exact skip_bl (fun x hx => h x (List.mem_cons_of_mem _ hx))
theorem skip_app : ∀ (r g : Bs), allBl g → skip (r ++ g) = skip r ++ (if skip r = [] then [] else g)
  | [], g, h => by simp [skip, skip_bl h]
  | c :: r, g, h => by
    by_cases hc : isBl c = true
    · simp only [List.cons_append, skip, hc, if_true, skip_app r g h]
    · simp [skip, hc]
theorem Ext.skip {r r2 : Bs} (h : Ext r r2) : Ext (skip r) (skip r2) := by
  obtain ⟨g, hg, rfl⟩ := h
  rw [skip_app r g hg]
  refine ⟨_, ?_, rfl⟩
  split
  · intro c hc; simp at hc
  · exact hg
theorem skip_pre {g : Bs} (r : Bs) (h : allBl g) : skip (g ++ r) = skip r := by
  induction g with
  | nil => rfl
  | cons c g ih =>
    have h1 := h c (List.mem_cons_self ..)
    simp only [List.cons_append, skip, h1, if_true]
    exact ih (fun x hx => h x (List.mem_cons_of_mem _ hx))
theorem bl_look {g : Bs} (h : allBl g) {c : UInt8} (hc : isBl c = false) (h0 : c ≠ 0) : look g ≠ c := by
  cases g with
  | nil => exact fun h => h0 h.symm
  | cons x g =>
    rintro rfl
    have := h x (List.mem_cons_self ..)
    simp [look] at hc
    rw [this] at hc
    cases hc
theorem Ext.look {r r2 : Bs} (h : Ext r r2) {c : UInt8} (hc : isBl c = false) (h0 : c ≠ 0) : (look r2 = c ↔ Js.look r = c) := by
  obtain ⟨g, hg, rfl⟩ := h
  cases r with
  | nil =>
    simp only [List.nil_append]
    exact ⟨fun h => absurd h (bl_look hg hc h0), fun h => absurd h.symm h0⟩
  | cons x r => simp [Js.look]
theorem Ext.tail {r r2 : Bs} {c : UInt8} (h : Ext r r2) (hr : Js.look r = c) (h0 : c ≠ 0) : Ext r.tail r2.tail := by
  obtain ⟨g, hg, rfl⟩ := h
  cases r with
  | nil => exact absurd hr.symm h0
  | cons x r => exact ⟨g, hg, rfl⟩
theorem Ext.sign {c : UInt8} {r r2 : Bs} (h : Ext r r2) (hc : isBl c = false) (h0 : c ≠ 0) : (signP c r2).1 = (signP c r).1 ∧ Ext (signP c r).2 (signP c r2).2 := by
  have hl := h.skip.look hc h0
  unfold signP
  by_cases h1 : Js.look (Js.skip r) = c
  · rw [if_pos h1, if_pos (hl.2 h1)]
    exact ⟨rfl, (h.skip.tail h1 h0).skip⟩
  · rw [if_neg h1, if_neg (fun h => h1 (hl.1 h))]
    exact ⟨rfl, h.skip⟩
/-- the same answer, and blanks behind the rest -/
def Same2 {α : Type} (x y : Except Int (α × Bs)) : Prop := match x with
  | .error e => y = .error e
  | .ok (a, r) => ∃ r2, y = .ok (a, r2) ∧ Ext r r2
def Same1 (x y : Except Int Bs) : Prop := match x with
  | .error e => y = .error e
  | .ok r => ∃ r2, y = .ok r2 ∧ Ext r r2
def SameO {α : Type} (x y : Option (α × Bs)) : Prop := match x with
  | none => y = none
  | some (a, r) => ∃ r2, y = some (a, r2) ∧ Ext r r2
theorem Ext.must {c : UInt8} {r r2 : Bs} (h : Ext r r2) (hc : isBl c = false) (h0 : c ≠ 0) : Same1 (mustP c r) (mustP c r2) := by
  have hl := h.skip.look hc h0
  unfold mustP
  by_cases h1 : Js.look (Js.skip r) = c
  · rw [if_pos h1, if_pos (hl.2 h1)]
    exact ⟨_, rfl, (h.skip.tail h1 h0).skip⟩
  · rw [if_neg h1, if_neg (fun h => h1 (hl.1 h))]
    rfl
theorem bl_cases {c : UInt8} (h : isBl c = true) : c = 32 ∨ c = 9 ∨ c = 10 ∨ c = 13 := by
  simpa [isBl, or_assoc] using h
theorem escP_bl {g : Bs} (h : allBl g) : escP g = none := by
  cases g with
  | nil => rfl
  | cons c g =>
    rcases bl_cases (h c (List.mem_cons_self ..)) with rfl | rfl | rfl | rfl <;> simp [escP, esc]
theorem hexP_bl {a0 a1 a2 a3 : UInt8} (h : isBl a0 = true ∨ isBl a1 = true ∨ isBl a2 = true ∨ isBl a3 = true) : hexP a0 a1 a2 a3 = none := by
  have hx : ∀ c, isBl c = true → hexv (low c) = none := fun c hc => by
    rcases bl_cases hc with rfl | rfl | rfl | rfl <;> decide
  unfold hexP
  split
  · rename_i h0
    obtain ⟨rfl, rfl⟩ := h0
    rcases h with h | h | h | h
    · exact absurd h (by decide)
    · exact absurd h (by decide)
    · rw [hx _ h]
    · rw [hx _ h]
      cases hexv (low a2) <;> rfl
  · rfl
theorem Ext.esc {r r2 : Bs} (h : Ext r r2) : SameO (escP r) (escP r2) := by
  obtain ⟨g, hg, rfl⟩ := h
  match r with
  | [] => exact escP_bl hg
  | d :: r =>
    simp only [List.cons_append, escP]
    cases he : Js.esc d with
    | some b => exact ⟨_, rfl, g, hg, rfl⟩
    | none =>
      simp only
      by_cases hd : d = 117
      · simp only [hd, if_true]
        have bl : ∀ {l : Bs}, allBl l → ∀ {x y : UInt8} {r' : Bs}, True := fun _ _ _ _ => trivial
        match r with
        | a0 :: a1 :: a2 :: a3 :: r' =>
          simp only [List.cons_append]
          cases hexP a0 a1 a2 a3 with
          | some b => exact ⟨_, rfl, g, hg, rfl⟩
          | none => rfl
        | [] =>
          show (match [] ++ g with | a0 :: a1 :: a2 :: a3 :: r2 => _ | _ => _) = none
          rw [List.nil_append]
          match g, hg with
          | a0 :: a1 :: a2 :: a3 :: r2, hg => simp only [hexP_bl (.inl (hg a0 (by simp)))]
          | [], _ | [_], _ | [_, _], _ | [_, _, _], _ => rfl
        | [x] =>
          match g, hg with
          | a1 :: a2 :: a3 :: r2, hg => simp only [List.cons_append, List.nil_append, hexP_bl (.inr (.inl (hg a1 (by simp))))]; rfl
          | [], _ | [_], _ | [_, _], _ => rfl
        | [x, y] =>
          match g, hg with
          | a2 :: a3 :: r2, hg => simp only [List.cons_append, List.nil_append, hexP_bl (.inr (.inr (.inl (hg a2 (by simp)))))]; rfl
          | [], _ | [_], _ => rfl
        | [x, y, z] =>
          match g, hg with
          | a3 :: r2, hg => simp only [List.cons_append, List.nil_append, hexP_bl (.inr (.inr (.inr (hg a3 (by simp)))))]; rfl
          | [], _ => rfl
      · simp only [hd, if_false]
        rfl
theorem strA_bl : ∀ (n : Nat) (acc g : Bs), allBl g → strA n acc g = none
  | 0, acc, g, _ => rfl
  | n + 1, acc, [], _ => rfl
  | n + 1, acc, c :: g, h => by
    have ih := strA_bl n (acc ++ [c]) g (fun x hx => h x (List.mem_cons_of_mem _ hx))
    rcases bl_cases (h c (List.mem_cons_self ..)) with rfl | rfl | rfl | rfl <;> simp [strA]
    exact ih
theorem strA_ext : ∀ (n n2 : Nat) (acc r r2 : Bs), r.length < n → r2.length < n2 → Ext r r2 → SameO (strA n acc r) (strA n2 acc r2)
  | 0, _, _, _, _, h, _, _ => by omega
  | _, 0, _, _, _, _, h, _ => by omega
  | n + 1, n2 + 1, acc, [], r2, _, _, h => by
    obtain ⟨g, hg, rfl⟩ := h
    rw [strA_bl _ _ _ hg]
    rfl
  | n + 1, n2 + 1, acc, c :: r, r2, h1, h2, h => by
    have h0 := h
    obtain ⟨g, hg, rfl⟩ := h
    have hr : Ext r (r ++ g) := ⟨g, hg, rfl⟩
    simp only [List.cons_append, List.length_cons] at h1 h2 ⊢
    simp only [strA]
    by_cases c1 : c < 32 ∨ 126 < c
    · simp only [c1, if_true]; rfl
    simp only [c1, if_false]
    by_cases c2 : c = 34
    · simp only [c2, if_true]; exact ⟨_, rfl, hr⟩
    simp only [c2, if_false]
    by_cases c3 : c = 92
    · simp only [c3, if_true]
      have he := hr.esc
      cases hx : escP r with
      | none => rw [hx] at he; rw [he]; rfl
      | some p =>
        obtain ⟨b, r'⟩ := p
        rw [hx] at he
        obtain ⟨r3, e1, e2⟩ := he
        rw [e1]
        have := escP_len hx
        have := escP_len e1
        exact strA_ext n n2 _ _ _ (by omega) (by omega) e2
    · simp only [c3, if_false]
      exact strA_ext n n2 _ _ _ (by omega) (by omega) hr
theorem Ext.text {r r2 : Bs} (h : Ext r r2) : SameO (textP r) (textP r2) := by
  have hl := h.look (c := 34) (by decide) (by decide)
  unfold textP
  by_cases h1 : Js.look r = 34
  · rw [if_pos h1, if_pos (hl.2 h1)]
    have l : ∀ {x : Bs}, Js.look x = 34 → x.tail.length < x.length := fun {x} hx => by
      cases x with
      | nil => exact absurd hx (by decide)
      | cons y x => simp
    exact strA_ext _ _ _ _ _ (l h1) (l (hl.2 h1)) (h.tail h1 (by decide))
  · rw [if_neg h1, if_neg (fun h => h1 (hl.1 h))]
    rfl
theorem takeD_ext : ∀ (n : Nat) (r g : Bs), allBl g → takeD n (r ++ g) = ((takeD n r).1, (takeD n r).2 ++ g)
  | 0, r, g, _ => by simp [takeD]
  | n + 1, [], g, h => by
    cases g with
    | nil => rfl
    | cons c g =>
      have hc := h c (List.mem_cons_self ..)
      have : isDig c = false := by rcases bl_cases hc with rfl | rfl | rfl | rfl <;> decide
      simp [takeD, this]
  | n + 1, c :: r, g, h => by
    simp only [List.cons_append, takeD, takeD_ext n r g h]
    split <;> rfl
theorem Ext.num {r r2 : Bs} (h : Ext r r2) : SameO (numP r) (numP r2) := by
  have hl := h.look (c := 45) (by decide) (by decide)
  have e1 : negP r2 = negP r := by
    unfold negP
    by_cases h1 : Js.look r = 45
    · rw [h1, hl.2 h1]
    · have h2 : Js.look r2 ≠ 45 := fun h => h1 (hl.1 h)
      rw [beq_eq_false_iff_ne.2 h1, beq_eq_false_iff_ne.2 h2]
  have e2 : (digP r2).1 = (digP r).1 ∧ Ext (digP r).2 (digP r2).2 := by
    unfold digP
    rw [e1]
    have key : ∀ {a b : Bs}, Ext a b → (takeD 17 b).1 = (takeD 17 a).1 ∧ Ext (takeD 17 a).2 (takeD 17 b).2 := fun {a b} hab => by
      obtain ⟨g, hg, rfl⟩ := hab
      rw [takeD_ext _ _ _ hg]
      exact ⟨rfl, g, hg, rfl⟩
    by_cases h1 : negP r = true
    · rw [if_pos h1, if_pos h1]
      exact key (h.tail (c := 45) (by simpa [negP] using h1) (by decide))
    · rw [if_neg h1, if_neg h1]
      exact key h
  unfold numP
  rw [e1, e2.1]
  split
  · rfl
  · exact ⟨_, rfl, e2.2⟩
theorem pre_ext : ∀ (w r g : Bs), (∀ c ∈ w, isBl c = false) → allBl g → w.isPrefixOf (r ++ g) = w.isPrefixOf r
  | [], r, g, _, _ => by simp [List.isPrefixOf]
  | c :: w, [], g, hw, hg => by
    cases g with
    | nil => rfl
    | cons x g =>
      have h1 := hw c (List.mem_cons_self ..)
      have h2 := hg x (List.mem_cons_self ..)
      have : c ≠ x := by rintro rfl; rw [h1] at h2; cases h2
      simp [List.isPrefixOf, this]
  | c :: w, x :: r, g, hw, hg => by
    simp only [List.cons_append, List.isPrefixOf, pre_ext w r g (fun x hx => hw x (List.mem_cons_of_mem _ hx)) hg]
theorem Ext.word {r r2 : Bs} (h : Ext r r2) (w : Bs) (v : JT) (hw : ∀ c ∈ w, isBl c = false) : Same2 (wordR w r v) (wordR w r2 v) := by
  obtain ⟨g, hg, rfl⟩ := h
  have e := pre_ext w r g hw hg
  unfold wordR wordP
  rw [e]
  by_cases hp : w.isPrefixOf r = true
  · rw [if_pos hp, if_pos hp]
    have := List.IsPrefix.length_le (List.isPrefixOf_iff_prefix.1 hp)
    exact ⟨_, rfl, g, hg, by rw [List.drop_append_of_le_length this]⟩
  · rw [if_neg hp, if_neg hp]
    rfl
theorem Ext.optR {α : Type} {x y : Option (α × Bs)} (f : α → JT) (h : SameO x y) : Same2 (optR x f) (optR y f) := by
  match x with
  | none => rw [show y = none from h]; rfl
  | some (a, r) =>
    obtain ⟨r2, rfl, h2⟩ := h
    exact ⟨_, rfl, h2⟩
theorem listL_ext (val : Bs → Except Int (JT × Bs)) (m : Bool) (hv : ∀ {r r2}, Ext r r2 → Same2 (val r) (val r2)) (hlen : ∀ {r v r'}, val r = .ok (v, r') → r'.length < r.length) :
    ∀ (n n2 : Nat) (ns : List Bs) (ks : List JT) (r r2 : Bs), r.length < n → r2.length < n2 → Ext r r2 →
      (match listL val m n ns ks r with
        | .error e => listL val m n2 ns ks r2 = .error e
        | .ok (a, b, r') => ∃ r3, listL val m n2 ns ks r2 = .ok (a, b, r3) ∧ Ext r' r3)
  | 0, _, _, _, _, _, h, _, _ => by omega
  | _, 0, _, _, _, _, _, h, _ => by omega
  | n + 1, n2 + 1, ns, ks, r, r2, h1, h2, h => by
    obtain ⟨s1, s2⟩ := h.sign (c := endC m) (endC_nb m).1 (by cases m <;> decide)
    have L1 := signP_len (endC m) r
    have L2 := signP_len (endC m) r2
    rw [listL, listL]
    cases hs : signP (endC m) r with
    | mk b r1 =>
    cases hs2 : signP (endC m) r2 with
    | mk b2 r12 =>
    rw [hs, hs2] at s1 s2
    rw [hs] at L1
    rw [hs2] at L2
    simp only at s1 s2 L1 L2
    subst s1
    cases b2 with
    | true => exact ⟨_, rfl, s2⟩
    | false =>
      have hc : Same1 (commaP ks.isEmpty r1) (commaP ks.isEmpty r12) := by
        unfold commaP
        split
        · exact ⟨_, rfl, s2⟩
        · exact s2.must (by decide) (by decide)
      simp only
      cases hc1 : commaP ks.isEmpty r1 with
      | error e => rw [hc1] at hc; rw [show commaP ks.isEmpty r12 = .error e from hc]
      | ok r3 =>
        rw [hc1] at hc
        obtain ⟨r32, hc2, hc3⟩ := hc
        have Lc : ∀ {a b : Bs}, commaP ks.isEmpty a = .ok b → b.length ≤ a.length := fun {a b} hab => by
          unfold commaP at hab
          split at hab
          · injection hab with hab; subst hab; exact Nat.le_refl _
          · exact mustP_len hab
        have L3 := Lc hc1
        have L4 := Lc hc2
        rw [hc2]
        simp only
        have hk : Same2 (keyP m ns r3) (keyP m ns r32) := by
          unfold keyP
          split
          · unfold nameP
            have ht := hc3.text
            cases ht1 : textP r3 with
            | none => rw [ht1] at ht; rw [show textP r32 = none from ht]; rfl
            | some p =>
              obtain ⟨s, r5⟩ := p
              rw [ht1] at ht
              obtain ⟨r52, ht2, ht3⟩ := ht
              rw [ht2]
              simp only
              split
              · rfl
              · have hm := ht3.must (c := 58) (by decide) (by decide)
                cases hm1 : mustP 58 r5 with
                | error e => rw [hm1] at hm; rw [show mustP 58 r52 = .error e from hm]; rfl
                | ok r6 =>
                  rw [hm1] at hm
                  obtain ⟨r62, hm2, hm3⟩ := hm
                  rw [hm2]
                  exact ⟨_, rfl, hm3⟩
          · exact ⟨_, rfl, hc3⟩
        have Lk : ∀ {a b : Bs} {x : List Bs}, keyP m ns a = .ok (x, b) → b.length ≤ a.length := fun {a b x} hab => by
          unfold keyP at hab
          split at hab
          · exact nameP_len hab
          · injection hab with hab; injection hab with h1 h2; subst h2; exact Nat.le_refl _
        cases hk1 : keyP m ns r3 with
        | error e => rw [hk1] at hk; rw [show keyP m ns r32 = .error e from hk]
        | ok p =>
          obtain ⟨ns', r4⟩ := p
          rw [hk1] at hk
          obtain ⟨r42, hk2, hk3⟩ := hk
          have L5 := Lk hk1
          have L6 := Lk hk2
          rw [hk2]
          simp only
          have hvv := hv hk3
          cases hv1 : val r4 with
          | error e => rw [hv1] at hvv; rw [show val r42 = .error e from hvv]
          | ok p =>
            obtain ⟨k, r7⟩ := p
            rw [hv1] at hvv
            obtain ⟨r72, hv2, hv3⟩ := hvv
            have L7 := hlen hv1
            have L8 := hlen hv2
            rw [hv2]
            simp only
            exact listL_ext val m hv hlen n n2 _ _ _ _ (by omega) (by omega) hv3
theorem listP_ext {val : Bs → Except Int (JT × Bs)} (hv : ∀ {r r2}, Ext r r2 → Same2 (val r) (val r2)) (hlen : ∀ {r v r'}, val r = .ok (v, r') → r'.length < r.length) {r r2 : Bs} (h : Ext r r2) (hr : Js.look r = 91 ∨ Js.look r = 123) : Same2 (listP val r) (listP val r2) := by
  have e1 : (Js.look r2 == 123) = (Js.look r == 123) := by
    have hl := h.look (c := 123) (by decide) (by decide)
    by_cases h1 : Js.look r = 123
    · rw [h1, hl.2 h1]
    · have h2 : Js.look r2 ≠ 123 := fun h => h1 (hl.1 h)
      rw [beq_eq_false_iff_ne.2 h1, beq_eq_false_iff_ne.2 h2]
  have ht : Ext r.tail r2.tail := by
    rcases hr with hr | hr
    · exact h.tail hr (by decide)
    · exact h.tail hr (by decide)
  have hne : r ≠ [] := by rintro rfl; rcases hr with h | h <;> exact absurd h (by decide)
  have hlen1 : (skip r.tail).length < r.length := by
    have := skip_len r.tail
    have := List.length_pos_iff.2 hne
    simp at *
    omega
  have hlen2 : (skip r2.tail).length < r2.length := by
    have := skip_len r2.tail
    obtain ⟨g, hg, rfl⟩ := h
    have := List.length_pos_iff.2 hne
    simp at *
    omega
  have key := listL_ext val (Js.look r == 123) hv hlen r.length r2.length [] [] _ _ hlen1 hlen2 ht.skip
  unfold listP
  rw [e1]
  cases hx : listL val (Js.look r == 123) r.length [] [] (skip r.tail) with
  | error e => rw [hx] at key; simp only at key; rw [key]; rfl
  | ok p =>
    obtain ⟨a, b, r'⟩ := p
    rw [hx] at key
    obtain ⟨r3, k1, k2⟩ := key
    rw [k1]
    exact ⟨_, rfl, k2⟩
theorem rawP_ext {lp : Bs → Except Int (JT × Bs)} (hl : ∀ {r r2}, Ext r r2 → (Js.look r = 91 ∨ Js.look r = 123) → Same2 (lp r) (lp r2)) {r r2 : Bs} (h : Ext r r2) : Same2 (rawP lp r) (rawP lp r2) := by
  have hx : ∀ c : UInt8, isBl c = false → c ≠ 0 → (Js.look r2 = c) = (Js.look r = c) := fun c h1 h2 => propext (h.look h1 h2)
  unfold rawP
  simp only [hx 110 (by decide) (by decide), hx 116 (by decide) (by decide), hx 102 (by decide) (by decide), hx 34 (by decide) (by decide), hx 91 (by decide) (by decide), hx 123 (by decide) (by decide)]
  split
  · exact h.word _ _ (by decide)
  split
  · exact h.word _ _ (by decide)
  split
  · exact h.word _ _ (by decide)
  split
  · exact Ext.optR _ h.text
  split
  · rename_i hq
    exact hl h hq
  · exact Ext.optR _ h.num
theorem skipR_ext {x y : Except Int (JT × Bs)} (h : Same2 x y) : Same2 (skipR x) (skipR y) := by
  match x with
  | .error e => rw [show y = .error e from h]; rfl
  | .ok (a, r) =>
    obtain ⟨r2, rfl, h2⟩ := h
    exact ⟨_, rfl, h2.skip⟩
theorem valueP_ext : ∀ (d : Nat) {r r2 : Bs}, Ext r r2 → Same2 (valueP d r) (valueP d r2)
  | 0, r, r2, h => skipR_ext (rawP_ext (lp := fun _ => .error 9) (fun _ _ => rfl) h.skip)
  | d + 1, r, r2, h => skipR_ext (rawP_ext (fun h hr => listP_ext (valueP_ext d) (valueP_len d) h hr) h.skip)
theorem valueP_pre (d : Nat) {g : Bs} (r : Bs) (h : allBl g) : valueP d (g ++ r) = valueP d r := by
  cases d <;> simp only [valueP, skip_pre r h]
theorem readP_gap {s g g2 : Bs} (hg : allBl g) (hg2 : allBl g2) (hl : (g ++ s ++ g2).length ≤ 2000) : readP (g ++ s ++ g2) = readP s := by
  have h1 : s.length ≤ 2000 := by simp at hl; omega
  have key := valueP_ext 6 (r := s) (r2 := s ++ g2) ⟨g2, hg2, rfl⟩
  rw [readP, readP, if_neg (by omega), if_neg (by omega), List.append_assoc, valueP_pre 6 _ hg]
  cases hx : valueP 6 s with
  | error e => rw [hx] at key; rw [show valueP 6 (s ++ g2) = .error e from key]
  | ok p =>
    obtain ⟨v, r⟩ := p
    rw [hx] at key
    obtain ⟨r2, k1, g3, hg3, rfl⟩ := key
    rw [k1]
    have hs : skip (r ++ g3) = r ++ g3 := by
      have : valueP 6 (s ++ g2) = skipR (rawP (listP (valueP 5)) (skip (s ++ g2))) := rfl
      rw [this] at k1
      obtain ⟨r0, _, e⟩ := skipR_ok k1
      rw [e, skip_skip]
    cases r with
    | nil =>
      rw [List.nil_append, skip_bl hg3] at hs
      rw [List.nil_append, ← hs]
    | cons c r => rfl
end Go.Proofs.Ytcfbnjaelniahaa.Js
