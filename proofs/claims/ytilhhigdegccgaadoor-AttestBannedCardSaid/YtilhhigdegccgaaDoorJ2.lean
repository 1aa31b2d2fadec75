/-
  Joined texts: Region.
-/
import Derived.Orders
import Derived.WalkKit
/-
  Regions that draw their order, by one step for each operation: each operation is shown, in whatever world, to give what is said of it out of what is said of those that it waits for; what is said stays under the others' steps.
-/
namespace Go.Proofs.YtilhhigdegccgaaDoor
set_option linter.unusedSimpArgs false
set_option linter.unusedVariables false
section
variable {P : Program} {ops : Array Oper}
def dstAt (ops : Array Oper) (i : Nat) : Option Tmp := (ops[i]?).bind (·.dst)
def waitsOf (ops : Array Oper) (i : Nat) : List Nat :=
  match ops[i]? with
  | some o => o.after.toList.filterMap fun e => if Region.binds .any e then some e.on else none
  | none => []
def putAll (ops : Array Oper) (vals : Nat → Value) : List Nat → Act → Act
  | [], a => a
  | j :: r, a => putAll ops vals r (a.put (dstAt ops j) (vals j))
def regionOk (ops : Array Oper) : Bool :=
  (List.range ops.size).all fun i =>
    match ops[i]? with
    | none => false
    | some o =>
      (match o.op with | .select .. => false | _ => true) &&
      (waitsOf ops i).all (· < i) &&
      (o.looksAt ops).all (fun t => (List.range ops.size).all fun j => dstAt ops j != some t || (waitsOf ops i).contains j || (waitsOf ops j).contains i) &&
      (match o.guard with | some (g, _) => (waitsOf ops i).contains g | none => true) &&
      (List.range ops.size).all fun j => j == i || dstAt ops i == none || dstAt ops j != dstAt ops i
def deepWaits (ops : Array Oper) : Nat → Nat → List Nat
  | 0, i => waitsOf ops i
  | f + 1, i => waitsOf ops i ++ (waitsOf ops i).flatMap (deepWaits ops f)
theorem deep_listed {ops : Array Oper} {L : Nat → Prop} (hc : ∀ j, L j → ∀ i ∈ waitsOf ops j, L i) : ∀ (f j : Nat), L j → ∀ i ∈ deepWaits ops f j, L i
  | 0, j, hj, i, hi => hc j hj i hi
  | f + 1, j, hj, i, hi => by
    rcases List.mem_append.1 hi with h | h
    · exact hc j hj i h
    · obtain ⟨k, hk, hik⟩ := List.mem_flatMap.1 h
      exact deep_listed hc f k (hc j hj k hk) i hik
def availAt (ops : Array Oper) (kills : Nat → Nat → Bool) (j i : Nat) : Bool :=
  (waitsOf ops i).contains j && (List.range ops.size).all fun k => k == i || k == j || !kills k j || (deepWaits ops 5 k).contains i
def availIni (ops : Array Oper) (ik : Nat → Bool) (i : Nat) : Bool :=
  (List.range ops.size).all fun k => k == i || !ik k || (deepWaits ops 5 k).contains i
def aliveAt (ops : Array Oper) (kills : Nat → Nat → Bool) (j : Nat) : Bool :=
  (List.range ops.size).all fun k => k == j || !kills k j
theorem put_size (a : Act) (d : Option Tmp) (v : Value) : (a.put d v).tmps.size = a.tmps.size := by cases d <;> simp [Act.put]
theorem put_defers (a : Act) (d : Option Tmp) (v : Value) : (a.put d v).defers = a.defers := by cases d <;> rfl
theorem put_at (a : Act) (d : Tmp) (v : Value) (h : d < a.tmps.size) : (a.put (some d) v).tmps[d]? = some v := by simp [Act.put, h]
theorem put_other (a : Act) (d : Option Tmp) (v : Value) (t : Tmp) (h : d ≠ some t) : (a.put d v).tmps[t]? = a.tmps[t]? := by
  cases d with
  | none => rfl
  | some d => simp [Act.put, Array.getElem?_setIfInBounds_ne (show d ≠ t from fun e => h (by rw [e]))]
structure OkAt (ops : Array Oper) (i : Nat) (o : Oper) : Prop where
  sel : ∀ cs b, o.op ≠ .select cs b
  before : ∀ j ∈ waitsOf ops i, j < i
  look : ∀ t ∈ o.looksAt ops, ∀ j, dstAt ops j = some t → j ∈ waitsOf ops i ∨ i ∈ waitsOf ops j
  guard : ∀ g b, o.guard = some (g, b) → g ∈ waitsOf ops i
  dist : ∀ j, j ≠ i → ∀ d, dstAt ops i = some d → dstAt ops j ≠ some d
theorem dst_lt {j : Nat} {d : Tmp} (h : dstAt ops j = some d) : j < ops.size := by
  rcases Nat.lt_or_ge j ops.size with h' | h'
  · exact h'
  · simp [dstAt, Array.getElem?_eq_none h'] at h
theorem okAt (hok : regionOk ops = true) {i : Nat} {o : Oper} (ho : ops[i]? = some o) : OkAt ops i o := by
  have hi : i < ops.size := (Array.getElem?_eq_some_iff.1 ho).1
  have h := (List.all_eq_true.1 hok) i (List.mem_range.2 hi)
  simp only [ho, Bool.and_eq_true] at h
  obtain ⟨⟨⟨⟨h1, h2⟩, h3⟩, h4⟩, h5⟩ := h
  refine ⟨fun cs b e => by simp [e] at h1, fun j hj => by simpa using (List.all_eq_true.1 h2) j hj, fun t ht j hj => ?_, fun g b hg => ?_, fun j hj d hd => ?_⟩
  · have := (List.all_eq_true.1 ((List.all_eq_true.1 h3) t ht)) j (List.mem_range.2 (dst_lt hj))
    simpa [hj] using this
  · rw [hg] at h4
    simpa using h4
  · intro e
    have := (List.all_eq_true.1 h5) j (List.mem_range.2 (dst_lt e))
    simp [hj, hd, e] at this
theorem putAll_look (hdist : ∀ i j d, i ≠ j → dstAt ops i = some d → dstAt ops j ≠ some d) (vals : Nat → Value) : ∀ (l : List Nat) (a : Act),
    (putAll ops vals l a).tmps.size = a.tmps.size ∧ (putAll ops vals l a).defers = a.defers ∧
    (∀ j ∈ l, ∀ d, dstAt ops j = some d → d < a.tmps.size → (putAll ops vals l a).tmps[d]? = some (vals j)) ∧
    (∀ t, (∀ j ∈ l, dstAt ops j ≠ some t) → (putAll ops vals l a).tmps[t]? = a.tmps[t]?)
  | [], a => ⟨rfl, rfl, fun j hj => by simp at hj, fun _ _ => rfl⟩
  | j :: r, a => by
    obtain ⟨h1, h2, h3, h4⟩ := putAll_look hdist vals r (a.put (dstAt ops j) (vals j))
    simp only [putAll]
    refine ⟨h1.trans (put_size _ _ _), h2.trans (put_defers _ _ _), fun k hk d hd hlt => ?_, fun t ht => ?_⟩
    · by_cases hkr : k ∈ r
      · exact h3 k hkr d hd (by rw [put_size]; exact hlt)
      · have hkj : k = j := by
          rcases List.mem_cons.1 hk with h | h
          · exact h
          · exact absurd h hkr
        subst hkj
        rw [h4 d (fun m hm e => hdist k m d (fun e' => hkr (e' ▸ hm)) hd e), hd]
        exact put_at a d _ hlt
    · rw [h4 t (fun m hm => ht m (List.mem_cons_of_mem _ hm))]
      exact put_other a _ _ t (ht j (List.mem_cons_self ..))
def upd (vals : Nat → Value) (i : Nat) (v : Value) : Nat → Value := fun k => if k = i then v else vals k
structure RI (ops : Array Oper) (a0 : Act) (C : World → Prop) (I0 : Bool → World → Prop) (ik : Bool → Nat → Bool) (F : Nat → (Nat → Value) → World → Prop) (kills : Nat → Nat → Bool) (listed : Array Bool) (a : Act) (w : World) (vals : Nat → Value) : Prop where
  size : listed.size = ops.size
  tsize : a.tmps.size = a0.tmps.size
  defers : a.defers = a0.defers
  done : ∀ j, listed.getD j false = true → ∀ d, dstAt ops j = some d → d < a0.tmps.size → a.tmps[d]? = some (vals j)
  other : ∀ t, (∀ j, listed.getD j false = true → dstAt ops j ≠ some t) → a.tmps[t]? = a0.tmps[t]?
  closed : ∀ j, listed.getD j false = true → ∀ i ∈ waitsOf ops j, listed.getD i false = true
  c : C w
  ini : ∀ m, (∀ k, listed.getD k false = true → ik m k = false) → I0 m w
  facts : ∀ j, listed.getD j false = true → (∀ k, listed.getD k false = true → k ≠ j → kills k j = false) → F j vals w
theorem mem_waits {i j : Nat} {o : Oper} (ho : ops[i]? = some o) : j ∈ waitsOf ops i ↔ ∃ e ∈ o.after, Region.binds .any e = true ∧ e.on = j := by
  simp [waitsOf, ho]
theorem getD_set_self (l : Array Bool) (i : Nat) (h : i < l.size) : (l.setIfInBounds i true).getD i false = true := by simp [h]
theorem getD_set_other (l : Array Bool) {i j : Nat} (h : i ≠ j) : (l.setIfInBounds i true).getD j false = l.getD j false := by
  simp [Array.getElem?_setIfInBounds_ne h]
def StepAt (P : Program) (ops : Array Oper) (a0 : Act) (C : World → Prop) (I0 : Bool → World → Prop) (ik : Bool → Nat → Bool) (F : Nat → (Nat → Value) → World → Prop) (St : Nat → World → World → Prop) (kills : Nat → Nat → Bool) (i : Nat) (o : Oper) : Prop :=
  ∀ (w : World) (vals : Nat → Value), C w → (∀ m, availIni ops (ik m) i = true → I0 m w) → (∀ j, availAt ops kills j i = true → F j vals w) →
    wpList P ops (fun e a' w' => e = .normal ∧ ∃ v, a' = (putAll ops vals (waitsOf ops i) a0).put o.dst v ∧ F i (upd vals i v) w' ∧ C w' ∧ St i w w') [o] (putAll ops vals (waitsOf ops i) a0) w
theorem RI.step {a0 : Act} {C : World → Prop} {I0 : Bool → World → Prop} {ik : Bool → Nat → Bool} {F : Nat → (Nat → Value) → World → Prop} {St : Nat → World → World → Prop} {kills : Nat → Nat → Bool} {Q : Exit → Act → World → Prop}
    (hok : regionOk ops = true) (hini : ∀ m i, ik m i = false → ∀ w w', St i w w' → I0 m w → I0 m w') (hpres : ∀ i k, i < ops.size → i ≠ k → kills i k = false → (deepWaits ops 5 k).contains i = false → ∀ vals v w w', St i w w' → F k vals w → F k (upd vals i v) w')
    (hstep : ∀ i o, ops[i]? = some o → StepAt P ops a0 C I0 ik F St kills i o)
    {listed : Array Bool} {a : Act} {w : World} {vals : Nat → Value} (h : RI ops a0 C I0 ik F kills listed a w vals) {i : Nat} (hi : i ∈ Region.ready .any ops listed) :
    wpOp P ops Q i (fun a' w' => ∃ vals', RI ops a0 C I0 ik F kills (listed.setIfInBounds i true) a' w' vals') a w := by
  obtain ⟨hun, o, ho, hall⟩ := mem_ready.1 hi
  have hlt : i < ops.size := (Array.getElem?_eq_some_iff.1 ho).1
  have hltl : i < listed.size := by rw [h.size]; exact hlt
  have hunf : listed.getD i false = false := by
    simp [hltl] at hun ⊢; exact hun
  have ok := okAt hok ho
  have hdist : ∀ i j d, i ≠ j → dstAt ops i = some d → dstAt ops j ≠ some d := fun i j d hij hd => by
    have hil := dst_lt hd
    exact (okAt hok (Array.getElem?_eq_getElem hil)).dist j (Ne.symm hij) d hd
  have hw : ∀ j ∈ waitsOf ops i, listed.getD j false = true := fun j hj => by
    obtain ⟨e, he, hb, rfl⟩ := (mem_waits ho).1 hj
    exact hall e he hb
  obtain ⟨p1, p2, p3, p4⟩ := putAll_look hdist vals (waitsOf ops i) a0
  -- what the operation looks at is the same in both frames
  have hlook : ∀ t ∈ o.looksAt ops, a.tmps[t]? = (putAll ops vals (waitsOf ops i) a0).tmps[t]? := by
    intro t ht
    by_cases hex : ∃ j, dstAt ops j = some t
    · obtain ⟨j, hj⟩ := hex
      rcases ok.look t ht j hj with hji | hij
      · by_cases hts : t < a0.tmps.size
        · rw [h.done j (hw j hji) t hj hts, p3 j hji t hj hts]
        · rw [Array.getElem?_eq_none (by rw [h.tsize]; exact Nat.le_of_not_lt hts), Array.getElem?_eq_none (by rw [p1]; exact Nat.le_of_not_lt hts)]
      · have hjl : ¬ listed.getD j false = true := fun hj' => by rw [h.closed j hj' i hij] at hunf; cases hunf
        rw [h.other t (fun k hk e => by
          have : k = j := by
            rcases Nat.decEq k j with hne | he
            · exact absurd e (hdist j k t (Ne.symm hne) hj)
            · exact he
          subst this; exact hjl hk)]
        rw [p4 t (fun k hk e => by
          have : k = j := by
            rcases Nat.decEq k j with hne | he
            · exact absurd e (hdist j k t (Ne.symm hne) hj)
            · exact he
          subst this; exact hjl (hw k hk))]
    · have hno : ∀ j, dstAt ops j ≠ some t := fun j e => hex ⟨j, e⟩
      rw [h.other t (fun j _ => hno j), p4 t (fun j _ => hno j)]
  have heval : ∀ x ∈ o.op.operands, a.eval x = (putAll ops vals (waitsOf ops i) a0).eval x := by
    intro x hx
    cases x with
    | tmp t =>
      have := hlook t (List.mem_append_left _ (List.mem_filterMap.2 ⟨.tmp t, by simpa using hx, rfl⟩))
      simp only [Act.eval, Array.getD_eq_getD_getElem?, this]
    | _ => rfl
  have hexec : execOp a.eval o = execOp (putAll ops vals (waitsOf ops i) a0).eval o := execOp_congr o ok.sel heval
  have hwant : Region.wanted o (yielded ops a.tmps) = Region.wanted o (yielded ops (putAll ops vals (waitsOf ops i) a0).tmps) := by
    unfold Region.wanted
    cases hg : o.guard with
    | none => rfl
    | some gw =>
      obtain ⟨g, want⟩ := gw
      have : yielded ops a.tmps g = yielded ops (putAll ops vals (waitsOf ops i) a0).tmps g := by
        unfold yielded
        cases ht : (ops[g]?).bind (·.dst) with
        | none => rfl
        | some t =>
          have := hlook t (by
            refine List.mem_append_right _ ?_
            simp [hg, ht])
          simp only [Option.bind_some, this]
      simp only [this]
  have havail : ∀ j, availAt ops kills j i = true → F j vals w := by
    intro j hj
    simp only [availAt, Bool.and_eq_true] at hj
    obtain ⟨hj1, hj2⟩ := hj
    have hjl := hw j (by simpa using hj1)
    refine h.facts j hjl fun k hk hkj => ?_
    have hkl : k < ops.size := by
      rcases Nat.lt_or_ge k ops.size with h' | h'
      · exact h'
      · rw [← h.size] at h'; simp [Array.getElem?_eq_none h'] at hk
    have := (List.all_eq_true.1 hj2) k (List.mem_range.2 hkl)
    simp only [Bool.or_eq_true, beq_iff_eq, Bool.not_eq_true'] at this
    rcases this with ((this | this) | this) | this
    · subst this; rw [hunf] at hk; cases hk
    · exact absurd this hkj
    · exact this
    · have := deep_listed (L := fun j => listed.getD j false = true) h.closed 5 k hk i (by simpa using this)
      simp only [hunf] at this; cases this
  have hini0 : ∀ m, availIni ops (ik m) i = true → I0 m w := by
    intro m hj2
    refine h.ini m fun k hk => ?_
    have hkl : k < ops.size := by
      rcases Nat.lt_or_ge k ops.size with h' | h'
      · exact h'
      · rw [← h.size] at h'; simp [Array.getElem?_eq_none h'] at hk
    have := (List.all_eq_true.1 hj2) k (List.mem_range.2 hkl)
    simp only [Bool.or_eq_true, beq_iff_eq, Bool.not_eq_true'] at this
    rcases this with (this | this) | this
    · subst this; rw [hunf] at hk; cases hk
    · exact this
    · have := deep_listed (L := fun j => listed.getD j false = true) h.closed 5 k hk i (by simpa using this)
      simp only [hunf] at this; cases this
  -- the end of the step
  have hend : ∀ (v : Value) (w' : World), (∃ v', (putAll ops vals (waitsOf ops i) a0).put o.dst v = (putAll ops vals (waitsOf ops i) a0).put o.dst v' ∧ F i (upd vals i v') w' ∧ C w' ∧ St i w w') →
      ∃ vals', RI ops a0 C I0 ik F kills (listed.setIfInBounds i true) (a.put o.dst v) w' vals' := by
    rintro v w' ⟨v', hv, hF, hC, hSt⟩
    have hdo : dstAt ops i = o.dst := by simp [dstAt, ho]
    refine ⟨upd vals i v', ⟨by simp [h.size], (put_size _ _ _).trans h.tsize, (put_defers _ _ _).trans h.defers, ?_, ?_, ?_, hC, ?_, ?_⟩⟩
    · intro j hj d hd hlt'
      by_cases hji : j = i
      · subst hji
        rw [hdo] at hd
        simp only [upd, if_true]
        rw [hd] at hv ⊢
        rw [put_at _ _ _ (by rw [h.tsize]; exact hlt')]
        have := congrArg (fun a : Act => a.tmps[d]?) hv
        rw [put_at _ _ _ (by rw [p1]; exact hlt'), put_at _ _ _ (by rw [p1]; exact hlt')] at this
        exact this
      · simp only [upd, hji, if_false]
        rw [getD_set_other _ (Ne.symm hji)] at hj
        rw [put_other _ _ _ _ (fun e => hdist j i d hji hd (hdo.trans e))]
        exact h.done j hj d hd hlt'
    · intro t ht
      rw [put_other _ _ _ _ (fun e => ht i (getD_set_self _ _ hltl) (hdo.trans e))]
      refine h.other t fun j hj => ?_
      by_cases hji : j = i
      · subst hji; rw [hunf] at hj; cases hj
      · exact ht j (by rw [getD_set_other _ (Ne.symm hji)]; exact hj)
    · intro j hj k hk
      by_cases hki : k = i
      · subst hki; exact getD_set_self _ _ hltl
      · rw [getD_set_other _ (Ne.symm hki)]
        by_cases hji : j = i
        · subst hji; exact hw k hk
        · rw [getD_set_other _ (Ne.symm hji)] at hj
          exact h.closed j hj k hk
    · intro m hk
      refine hini m i (hk i (getD_set_self _ _ hltl)) _ _ hSt (h.ini m fun k hk' => hk k ?_)
      by_cases hki : k = i
      · subst hki; exact getD_set_self _ _ hltl
      · rw [getD_set_other _ (Ne.symm hki)]; exact hk'
    · intro j hj hk
      by_cases hji : j = i
      · subst hji; exact hF
      · have hj0 := hj
        rw [getD_set_other _ (Ne.symm hji)] at hj
        refine hpres i j hlt (Ne.symm hji) (hk i (getD_set_self _ _ hltl) (Ne.symm hji)) (by
          by_cases hc : (deepWaits ops 5 j).contains i = true
          · have := deep_listed (L := fun j => listed.getD j false = true) h.closed 5 j hj i (by simpa using hc)
            simp only [hunf] at this; cases this
          · simpa using hc) _ _ _ _ hSt (h.facts j hj fun k hk' hkj => ?_)
        refine hk k ?_ hkj
        by_cases hki : k = i
        · subst hki; exact getD_set_self _ _ hltl
        · rw [getD_set_other _ (Ne.symm hki)]; exact hk'
  have hs := hstep i o ho w vals h.c hini0 havail
  unfold wpOp
  simp only [ho]
  simp only [wpList] at hs
  rw [hwant]
  split
  · rename_i hwt
    rw [if_pos hwt] at hs
    rcases hs with hs | ⟨_, a₀, w₀, hq⟩
    case inr => exact absurd hq.1 (by simp)
    refine .inl ?_
    unfold Oper.wp at *
    rw [hexec]
    generalize (execOp (putAll ops vals (waitsOf ops i) a0).eval o).run P w = r at *
    cases r with
    | ok n w' =>
      cases n <;> simp only [Oper.upon] at hs ⊢
      case value v => exact hend v w' hs.2
      case skip => exact hend _ w' hs.2
      case defer d =>
        obtain ⟨_, v, hv, _⟩ := hs
        have := congrArg Act.defers hv
        rw [put_defers, put_defers] at this
        exact absurd this (by simp)
      case enter f args =>
        refine Calls.mono hs fun e w'' he => ?_
        cases e with
        | returned v => exact hend v w'' he.2
        | panicked c => exact absurd he.1 (by simp)
        | outgrown => obtain ⟨_, _, hq⟩ := he; exact absurd hq.1 (by simp)
      case row row args => exact Rows.mono hs fun v w'' he => hend v w'' he.2
    | halt x w' =>
      cases x <;> simp only [Oper.upon] at hs ⊢
      exact absurd hs.1 (by simp)
  · rename_i hwt
    rw [if_neg hwt] at hs
    exact hend _ _ hs.2
theorem count_set {l : Array Bool} {i : Nat} (hi : i < l.size) (hf : l.getD i false = false) {n : Nat} (hn : l.toList.countP (fun b => !b) ≤ n + 1) : (l.setIfInBounds i true).toList.countP (fun b => !b) ≤ n := by
  have hf' : l.toList[i]'(by simpa using hi) = false := by simpa [hi] using hf
  rw [Array.toList_setIfInBounds, List.countP_set (by simpa using hi)]
  rw [hf', if_pos (by rfl), if_neg (by simp)]
  omega
theorem all_listed (hok : regionOk ops = true) {listed : Array Bool} (hs : listed.size = ops.size) (hr : Region.ready .any ops listed = []) : ∀ n, ∀ i, i < n → i < ops.size → listed.getD i false = true := by
  intro n
  induction n with
  | zero => intro i h; omega
  | succ n ih =>
    intro i hin hi
    by_cases hl : listed.getD i false = true
    · exact hl
    · exfalso
      have ho : ops[i]? = some ops[i] := Array.getElem?_eq_getElem hi
      have ok := okAt hok ho
      have : i ∈ Region.ready .any ops listed := by
        refine mem_ready.2 ⟨?_, ops[i], ho, fun e he hb => ?_⟩
        · have : i < listed.size := by rw [hs]; exact hi
          simp [this] at hl ⊢; exact hl
        · have hlt := ok.before e.on ((mem_waits ho).2 ⟨e, he, hb, rfl⟩)
          exact ih e.on (by omega) (by omega)
      rw [hr] at this
      cases this
theorem wp_region_rel {id : Nat} {a0 : Act} {w0 : World} {Q : Exit → Act → World → Prop} (C : World → Prop) (I0 : Bool → World → Prop) (ik : Bool → Nat → Bool) (F : Nat → (Nat → Value) → World → Prop) (St : Nat → World → World → Prop) (kills : Nat → Nat → Bool)
    (hm : P.follows .mixedOrders = true) (hok : regionOk ops = true) (hC : C w0.drew) (hI : ∀ m, I0 m w0.drew) (hini : ∀ m i, ik m i = false → ∀ w w', St i w w' → I0 m w → I0 m w')
    (hpres : ∀ i k, i < ops.size → i ≠ k → kills i k = false → (deepWaits ops 5 k).contains i = false → ∀ vals v w w', St i w w' → F k vals w → F k (upd vals i v) w')
    (hstep : ∀ i o, ops[i]? = some o → StepAt P ops a0 C I0 ik F St kills i o)
    (hfin : ∀ w vals, C w → (∀ j, j < ops.size → aliveAt ops kills j = true → F j vals w) → Q .normal (putAll ops vals (List.range ops.size) a0) w) :
    (Code.region id ops true).wp P Q a0 w0 := by
  have hdist : ∀ i j d, i ≠ j → dstAt ops i = some d → dstAt ops j ≠ some d := fun i j d hij hd => by
    have hil := dst_lt hd
    exact (okAt hok (Array.getElem?_eq_getElem hil)).dist j (Ne.symm hij) d hd
  have final : ∀ listed a w vals, RI ops a0 C I0 ik F kills listed a w vals → Region.ready .any ops listed = [] → Q .normal a w := by
    intro listed a w vals h hr
    have hall : ∀ j, j < ops.size → listed.getD j false = true := fun j hj => all_listed hok h.size hr (j + 1) j (by omega) hj
    obtain ⟨p1, p2, p3, p4⟩ := putAll_look hdist vals (List.range ops.size) a0
    have ha : a = putAll ops vals (List.range ops.size) a0 := by
      have ht : a.tmps = (putAll ops vals (List.range ops.size) a0).tmps := by
        apply Array.ext_getElem?
        intro t
        by_cases hex : ∃ j, dstAt ops j = some t
        · obtain ⟨j, hj⟩ := hex
          have hjl := dst_lt hj
          by_cases hts : t < a0.tmps.size
          · rw [h.done j (hall j hjl) t hj hts, p3 j (List.mem_range.2 hjl) t hj hts]
          · rw [Array.getElem?_eq_none (by rw [h.tsize]; exact Nat.le_of_not_lt hts), Array.getElem?_eq_none (by rw [p1]; exact Nat.le_of_not_lt hts)]
        · have hno : ∀ j, dstAt ops j ≠ some t := fun j e => hex ⟨j, e⟩
          rw [h.other t (fun j _ => hno j), p4 t (fun j _ => hno j)]
      have hd : a.defers = (putAll ops vals (List.range ops.size) a0).defers := h.defers.trans p2.symm
      cases a
      simp only at ht hd
      rw [ht, hd]
    rw [ha]
    refine hfin w vals h.c fun j hj hal => h.facts j (hall j hj) fun k hk hkj => ?_
    have hkl : k < ops.size := by
      rcases Nat.lt_or_ge k ops.size with h' | h'
      · exact h'
      · rw [← h.size] at h'; simp [Array.getElem?_eq_none h'] at hk
    have := (List.all_eq_true.1 hal) k (List.mem_range.2 hkl)
    simpa [hkj] using this
  refine wp_region_any hm ?_
  have key : ∀ (fuel : Nat) (listed : Array Bool) (a : Act) (w : World) (vals : Nat → Value), listed.toList.countP (fun b => !b) ≤ fuel → RI ops a0 C I0 ik F kills listed a w vals → wpAny P .any ops Q fuel listed a w := by
    intro fuel
    induction fuel with
    | zero =>
      intro listed a w vals hc h
      have hr : Region.ready .any ops listed = [] := by
        refine List.eq_nil_iff_forall_not_mem.2 fun i hi => ?_
        obtain ⟨hun, o, ho, _⟩ := mem_ready.1 hi
        have hlt : i < listed.size := by rw [h.size]; exact (Array.getElem?_eq_some_iff.1 ho).1
        have h0 : listed.toList.countP (fun b => !b) = 0 := by omega
        rw [List.countP_eq_zero] at h0
        have := h0 (listed[i]) (by simp)
        simp [hlt] at hun
        simp [hun] at this
      exact ⟨hr, final listed a w vals h hr⟩
    | succ fuel ih =>
      intro listed a w vals hc h
      refine ⟨fun hr => final listed a w vals h hr, fun i hi => ?_⟩
      obtain ⟨hun, o, ho, _⟩ := mem_ready.1 hi
      have hlt : i < listed.size := by rw [h.size]; exact (Array.getElem?_eq_some_iff.1 ho).1
      refine wpOp_mono (fun a' w' ⟨vals', h'⟩ => ih _ _ _ vals' (count_set hlt (by simp [hlt] at hun ⊢; exact hun) hc) h') (h.step (Q := Q) hok hini hpres hstep hi)
  refine key _ _ _ _ (fun _ => undef) ?_ ⟨by simp, rfl, rfl, ?_, ?_, ?_, hC, fun m _ => hI m, ?_⟩
  · have := List.countP_le_length (p := fun b : Bool => !b) (l := (Array.replicate ops.size false).toList)
    simpa using this
  · intro j hj; simp [Array.getElem?_replicate] at hj; split at hj <;> simp at hj
  · intro t _; rfl
  · intro j hj; simp [Array.getElem?_replicate] at hj; split at hj <;> simp at hj
  · intro j hj; simp [Array.getElem?_replicate] at hj; split at hj <;> simp at hj
/-! ### For the walk -/
def puts (vals : Nat → Value) : List (Nat × Option Tmp) → Act → Act
  | [], a => a
  | (j, d) :: r, a => puts vals r (a.put d (vals j))
def GoodEnd (o : Oper) (ai : Act) (R : Value → World → Prop) : Exit → Act → World → Prop := fun e a' w' => e = .normal ∧ ∃ v, a' = ai.put o.dst v ∧ R v w'
def fct (Fs : List ((Nat → Value) → World → Prop)) (i : Nat) : (Nat → Value) → World → Prop := (Fs[i]?).getD fun _ _ => True
def stp (Sts : List (World → World → Prop)) (i : Nat) : World → World → Prop := (Sts[i]?).getD Eq
def StepsL (p : Nat → Oper → Prop) : Nat → List Oper → Prop
  | _, [] => True
  | k, o :: r => p k o ∧ StepsL p (k + 1) r
theorem stepsL_spec {p : Nat → Oper → Prop} : ∀ {l : List Oper} {k : Nat}, StepsL p k l → ∀ i o, l[i]? = some o → p (k + i) o
  | [], _, _, i, o, h => by simp at h
  | o :: r, k, h, 0, o', ho => by simp at ho; subst ho; exact h.1
  | o :: r, k, h, i + 1, o', ho => by
    have := stepsL_spec h.2 i o' (by simpa using ho)
    rwa [show k + 1 + i = k + (i + 1) by omega] at this
def Keeps (kill skip : Nat → Bool) (i : Nat) (S : World → World → Prop) : Nat → List ((Nat → Value) → World → Prop) → Prop
  | _, [] => True
  | k, F :: r => (i = k ∨ kill k = true ∨ skip k = true ∨ ∀ vals v w w', S w w' → F vals w → F (upd vals i v) w') ∧ Keeps kill skip i S (k + 1) r
theorem keeps_spec {kill skip : Nat → Bool} {i : Nat} {S : World → World → Prop} : ∀ {Fs : List ((Nat → Value) → World → Prop)} {k : Nat}, Keeps kill skip i S k Fs →
    ∀ j, i ≠ k + j → kill (k + j) = false → skip (k + j) = false → ∀ vals v w w', S w w' → fct Fs j vals w → fct Fs j (upd vals i v) w'
  | [], _, _, j, _, _, _, vals, v, w, w', _, hf => trivial
  | F :: r, k, h, 0, hj, hk, hs, vals, v, w, w', hS, hf => by
    rcases h.1 with h1 | h1 | h1 | h1
    · exact absurd h1 hj
    · simp only [Nat.add_zero] at hk; rw [hk] at h1; cases h1
    · simp only [Nat.add_zero] at hs; rw [hs] at h1; cases h1
    · exact h1 vals v w w' hS hf
  | F :: r, k, h, j + 1, hj, hk, hs, vals, v, w, w', hS, hf => by
    have e : k + (j + 1) = k + 1 + j := by omega
    rw [e] at hj hk hs
    exact keeps_spec h.2 j hj hk hs vals v w w' hS hf
def KeepsL (kills skips : Nat → Nat → Bool) (Fs : List ((Nat → Value) → World → Prop)) : Nat → List (World → World → Prop) → Prop
  | _, [] => True
  | i, S :: r => Keeps (kills i) (skips i) i S 0 Fs ∧ KeepsL kills skips Fs (i + 1) r
theorem keepsL_spec {kills skips : Nat → Nat → Bool} {Fs : List ((Nat → Value) → World → Prop)} : ∀ {Sts : List (World → World → Prop)} {i : Nat}, KeepsL kills skips Fs i Sts →
    ∀ j k, i + j ≠ k → kills (i + j) k = false → skips (i + j) k = false → j < Sts.length → ∀ vals v w w', stp Sts j w w' → fct Fs k vals w → fct Fs k (upd vals (i + j) v) w'
  | [], i, _, j, k, _, _, _, hl, _, _, _, _, _, _ => by simp at hl
  | S :: r, i, h, 0, k, hj, hk, hs, _, vals, v, w, w', hS, hf => by
    have := keeps_spec h.1 k (by simpa using hj) (by simpa using hk) (by simpa using hs) vals v w w' hS
    exact this hf
  | S :: r, i, h, j + 1, k, hj, hk, hs, hl, vals, v, w, w', hS, hf => by
    have e : i + (j + 1) = i + 1 + j := by omega
    rw [e] at hj hk hs ⊢
    exact keepsL_spec h.2 j k hj hk hs (by simpa using hl) vals v w w' hS hf
def IniL (ik : Nat → Bool) (I0 : World → Prop) : Nat → List (World → World → Prop) → Prop
  | _, [] => True
  | i, S :: r => (ik i = true ∨ ∀ w w', S w w' → I0 w → I0 w') ∧ IniL ik I0 (i + 1) r
theorem iniL_spec {ik : Nat → Bool} {I0 : World → Prop} : ∀ {Sts : List (World → World → Prop)} {i : Nat}, IniL ik I0 i Sts → ∀ j, ik (i + j) = false → ∀ w w', stp Sts j w w' → I0 w → I0 w'
  | [], i, _, j, _, w, w', hS, h => by
    have : w = w' := hS
    subst this; exact h
  | S :: r, i, h, 0, hj, w, w', hS, h0 => by
    rcases h.1 with h1 | h1
    · simp only [Nat.add_zero] at hj; rw [hj] at h1; cases h1
    · exact h1 w w' hS h0
  | S :: r, i, h, j + 1, hj, w, w', hS, h0 => by
    have e : i + (j + 1) = i + 1 + j := by omega
    rw [e] at hj
    exact iniL_spec h.2 j hj w w' hS h0
theorem wp_region_list {id : Nat} {l : List Oper} {a0 : Act} {w0 : World} {Q : Exit → Act → World → Prop} (C : World → Prop) (I0 : Bool → World → Prop) (ik : Bool → Nat → Bool) (Fs : List ((Nat → Value) → World → Prop)) (Sts : List (World → World → Prop)) (kills : Nat → Nat → Bool) (ps : List (Nat × Option Tmp))
    (hm : P.follows .mixedOrders = true) (hok : regionOk l.toArray = true) (hlen : Sts.length = l.length) (hps : ∀ vals, putAll l.toArray vals (List.range l.toArray.size) a0 = puts vals ps a0) (hC : C w0.drew) (hI : ∀ m, I0 m w0.drew) (hini : ∀ m, IniL (ik m) (I0 m) 0 Sts)
    (hpres : KeepsL kills (fun i k => (deepWaits l.toArray 5 k).contains i) Fs 0 Sts)
    (hstep : StepsL (StepAt P l.toArray a0 C I0 ik (fct Fs) (stp Sts) kills) 0 l)
    (hfin : ∀ w vals, C w → (∀ j, j < l.toArray.size → aliveAt l.toArray kills j = true → fct Fs j vals w) → Q .normal (puts vals ps a0) w) :
    (Code.region id l.toArray true).wp P Q a0 w0 :=
  wp_region_rel C I0 ik (fct Fs) (stp Sts) kills hm hok hC hI (fun m i hi w w' hS h => by
      have := iniL_spec (hini m) i (by simpa using hi) w w' hS
      exact this h)
    (fun i k hil hik hk hs vals v w w' hS hf => by
      have := keepsL_spec hpres i k (by simpa using hik) (by simpa using hk) (by simpa using hs) (by rw [hlen]; simpa using hil) vals v w w' hS
      rw [Nat.zero_add] at this
      exact this hf)
    (fun i o ho => by
      have := stepsL_spec hstep i o (by simpa using ho)
      simpa using this)
    (fun w vals hc hf => by rw [hps]; exact hfin w vals hc hf)
theorem act_put (t : Array Value) (d : List Deferred) (i : Tmp) (v : Value) : Act.put ⟨t, d⟩ (some i) v = ⟨t.setIfInBounds i v, d⟩ := rfl
theorem act_put_none (a : Act) (v : Value) : Act.put a none v = a := rfl
def EndOf (E : Act → World → Prop) : Exit → Act → World → Prop := fun e a w => e = .normal ∧ E a w
theorem EndOf.mk {E : Act → World → Prop} {a : Act} {w : World} (h : E a w) : EndOf E .normal a w := ⟨rfl, h⟩
theorem step_plain {a0 : Act} {C : World → Prop} {I0 : Bool → World → Prop} {ik : Bool → Nat → Bool} {F : Nat → (Nat → Value) → World → Prop} {St : Nat → World → World → Prop} {kills : Nat → Nat → Bool} {i : Nat} {o : Oper} (ps : List (Nat × Option Tmp))
    (hps : ∀ vals, putAll ops vals (waitsOf ops i) a0 = puts vals ps a0) (hg : o.guard = none)
    (h : ∀ w vals, C w → (∀ m, availIni ops (ik m) i = true → I0 m w) → (∀ j, availAt ops kills j i = true → F j vals w) →
      ∀ E : Act → World → Prop, (∀ v w', F i (upd vals i v) w' → C w' → St i w w' → E ((puts vals ps a0).put o.dst v) w') → wpList P #[] (EndOf E) [o] (puts vals ps a0) w) :
    StepAt P ops a0 C I0 ik F St kills i o := by
  intro w vals hc h0 hf
  have h1 := h w vals hc h0 hf (fun a' w' => ∃ v, a' = (puts vals ps a0).put o.dst v ∧ F i (upd vals i v) w' ∧ C w' ∧ St i w w') fun v w' h1 h2 h3 => ⟨v, rfl, h1, h2, h3⟩
  rw [hps]
  show wpList P ops (EndOf fun a' w' => ∃ v, a' = (puts vals ps a0).put o.dst v ∧ F i (upd vals i v) w' ∧ C w' ∧ St i w w') [o] (puts vals ps a0) w
  have hw : ∀ (O : Array Oper) (t : Array Value), Region.wanted o (yielded O t) = true := fun O t => by simp [Region.wanted, hg]
  simp only [wpList, hw, if_true] at h1 ⊢
  exact h1
theorem step_guard {a0 : Act} {C : World → Prop} {I0 : Bool → World → Prop} {ik : Bool → Nat → Bool} {F : Nat → (Nat → Value) → World → Prop} {St : Nat → World → World → Prop} {kills : Nat → Nat → Bool} {i : Nat} {o : Oper} (ps : List (Nat × Option Tmp))
    (hps : ∀ vals, putAll ops vals (waitsOf ops i) a0 = puts vals ps a0) (g : Nat) (t : Tmp) (want : Bool) (hg : o.guard = some (g, want)) (hd : dstAt ops g = some t)
    (hyes : ∀ w vals, C w → (∀ m, availIni ops (ik m) i = true → I0 m w) → (∀ j, availAt ops kills j i = true → F j vals w) → (puts vals ps a0).tmps[t]? = some (.bool want) →
      ∀ E : Act → World → Prop, (∀ v w', F i (upd vals i v) w' → C w' → St i w w' → E ((puts vals ps a0).put o.dst v) w') → wpList P #[] (EndOf E) [{ o with guard := none }] (puts vals ps a0) w)
    (hno : ∀ w vals, C w → (∀ m, availIni ops (ik m) i = true → I0 m w) → (∀ j, availAt ops kills j i = true → F j vals w) → (puts vals ps a0).tmps[t]? ≠ some (.bool want) → F i (upd vals i undef) w ∧ St i w w) :
    StepAt P ops a0 C I0 ik F St kills i o := by
  intro w vals hc h0 hf
  rw [hps]
  show wpList P ops (EndOf fun a' w' => ∃ v, a' = (puts vals ps a0).put o.dst v ∧ F i (upd vals i v) w' ∧ C w' ∧ St i w w') [o] (puts vals ps a0) w
  have hd' : (ops[g]?).bind (·.dst) = some t := hd
  by_cases hy : (puts vals ps a0).tmps[t]? = some (.bool want)
  · have h1 := hyes w vals hc h0 hf hy (fun a' w' => ∃ v, a' = (puts vals ps a0).put o.dst v ∧ F i (upd vals i v) w' ∧ C w' ∧ St i w w') fun v w' h1 h2 h3 => ⟨v, rfl, h1, h2, h3⟩
    have hw : Region.wanted o (yielded ops (puts vals ps a0).tmps) = true := by simp [Region.wanted, hg, yielded, hd', hy]
    have hw' : ∀ (O : Array Oper) (t : Array Value), Region.wanted { o with guard := none } (yielded O t) = true := fun O t => by simp [Region.wanted]
    simp only [wpList, hw, hw', if_true] at h1 ⊢
    have he : ∀ ρ, execOp ρ { o with guard := none } = execOp ρ o := fun ρ => rfl
    have ha : ∀ a w, Oper.asks P { o with guard := none } a w = Oper.asks P o a w := fun a w => rfl
    rw [ha] at h1
    exact h1
  · obtain ⟨hF, hS⟩ := hno w vals hc h0 hf hy
    have hw : ¬ Region.wanted o (yielded ops (puts vals ps a0).tmps) = true := by
      simp only [Region.wanted, hg, yielded, hd', Option.bind_some, beq_iff_eq]
      intro e
      apply hy
      split at e
      · rename_i b hb; simp at e; subst e; exact hb
      · cases e
    simp only [wpList, if_neg hw]
    exact ⟨rfl, undef, rfl, hF, hc, hS⟩
end
end Go.Proofs.YtilhhigdegccgaaDoor
