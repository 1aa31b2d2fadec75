/-
  Joined texts: Region Guard Det Jtx Jnu Tail Seq Seq2 Jva Jvl Jwr Jkl Turned Cut32 Part.
-/
import Derived.Orders
import Derived.WalkKit
import Derived.Deep.QuietTactic
import Derived.BigQuiet
import Derived.Laws.Runes
import Derived.Deep.DeepCutAuto
import Derived.Carry
import Derived.Test.YtoihgnkhalhocaaGreatDoorProg
import Derived.IntWalk
import Derived.Laws.CopyRow
import Derived.Laws.Unary
import Derived.Laws.Bits64
import Derived.Laws.BitsLemmas
import Derived.Test.YtoihgnkhalhocaaGreatDoorH1
/-
  Regions that draw their order, by one step for each operation: each operation is shown, in whatever world, to give what is said of it out of what is said of those that it waits for; what is said stays under the others' steps.
-/
namespace Go.Proofs.YtoihgnkhalhocaaGreatDoor
set_option linter.unusedSimpArgs false
set_option linter.unusedVariables false
section
variable {P : Program} {ops : Array Oper}
def dstAt (ops : Array Oper) (i : Nat) : Option Tmp := (ops[i]?).bind (·.dst)
def waitsOf (ops : Array Oper) (i : Nat) : List Nat :=
  match ops[i]? with
  | some o => o.after.toList.filterMap fun e => if Region.binds .any e then some e.on else none
  | none => []
def putAll (ops : Array Oper) (vals : Nat → Value) : List Nat → Act → Act
  | [], a => a
  | j :: r, a => putAll ops vals r (a.put (dstAt ops j) (vals j))
def regionOk (ops : Array Oper) : Bool :=
  (List.range ops.size).all fun i =>
    match ops[i]? with
    | none => false
    | some o =>
      (match o.op with | .select .. => false | _ => true) &&
      (waitsOf ops i).all (· < i) &&
      (o.looksAt ops).all (fun t => (List.range ops.size).all fun j => dstAt ops j != some t || (waitsOf ops i).contains j || (waitsOf ops j).contains i) &&
      (match o.guard with | some (g, _) => (waitsOf ops i).contains g | none => true) &&
      (List.range ops.size).all fun j => j == i || dstAt ops i == none || dstAt ops j != dstAt ops i
def deepWaits (ops : Array Oper) : Nat → Nat → List Nat
  | 0, i => waitsOf ops i
  | f + 1, i => waitsOf ops i ++ (waitsOf ops i).flatMap (deepWaits ops f)
theorem deep_listed {ops : Array Oper} {L : Nat → Prop} (hc : ∀ j, L j → ∀ i ∈ waitsOf ops j, L i) : ∀ (f j : Nat), L j → ∀ i ∈ deepWaits ops f j, L i
  | 0, j, hj, i, hi => hc j hj i hi
  | f + 1, j, hj, i, hi => by
    rcases List.mem_append.1 hi with h | h
    · exact hc j hj i h
    · obtain ⟨k, hk, hik⟩ := List.mem_flatMap.1 h
      exact deep_listed hc f k (hc j hj k hk) i hik
def availAt (ops : Array Oper) (kills : Nat → Nat → Bool) (j i : Nat) : Bool :=
  (waitsOf ops i).contains j && (List.range ops.size).all fun k => k == i || k == j || !kills k j || (deepWaits ops 5 k).contains i
def availIni (ops : Array Oper) (ik : Nat → Bool) (i : Nat) : Bool :=
  (List.range ops.size).all fun k => k == i || !ik k || (deepWaits ops 5 k).contains i
def aliveAt (ops : Array Oper) (kills : Nat → Nat → Bool) (j : Nat) : Bool :=
  (List.range ops.size).all fun k => k == j || !kills k j
theorem put_size (a : Act) (d : Option Tmp) (v : Value) : (a.put d v).tmps.size = a.tmps.size := by cases d <;> simp [Act.put]
theorem put_defers (a : Act) (d : Option Tmp) (v : Value) : (a.put d v).defers = a.defers := by cases d <;> rfl
theorem put_at (a : Act) (d : Tmp) (v : Value) (h : d < a.tmps.size) : (a.put (some d) v).tmps[d]? = some v := by simp [Act.put, h]
theorem put_other (a : Act) (d : Option Tmp) (v : Value) (t : Tmp) (h : d ≠ some t) : (a.put d v).tmps[t]? = a.tmps[t]? := by
  cases d with
  | none => rfl
  | some d => simp [Act.put, Array.getElem?_setIfInBounds_ne (show d ≠ t from fun e => h (by rw [e]))]
structure OkAt (ops : Array Oper) (i : Nat) (o : Oper) : Prop where
  sel : ∀ cs b, o.op ≠ .select cs b
  before : ∀ j ∈ waitsOf ops i, j < i
  look : ∀ t ∈ o.looksAt ops, ∀ j, dstAt ops j = some t → j ∈ waitsOf ops i ∨ i ∈ waitsOf ops j
  guard : ∀ g b, o.guard = some (g, b) → g ∈ waitsOf ops i
  dist : ∀ j, j ≠ i → ∀ d, dstAt ops i = some d → dstAt ops j ≠ some d
theorem dst_lt {j : Nat} {d : Tmp} (h : dstAt ops j = some d) : j < ops.size := by
  rcases Nat.lt_or_ge j ops.size with h' | h'
  · exact h'
  · simp [dstAt, Array.getElem?_eq_none h'] at h
theorem okAt (hok : regionOk ops = true) {i : Nat} {o : Oper} (ho : ops[i]? = some o) : OkAt ops i o := by
  have hi : i < ops.size := (Array.getElem?_eq_some_iff.1 ho).1
  have h := (List.all_eq_true.1 hok) i (List.mem_range.2 hi)
  simp only [ho, Bool.and_eq_true] at h
  obtain ⟨⟨⟨⟨h1, h2⟩, h3⟩, h4⟩, h5⟩ := h
  refine ⟨fun cs b e => by simp [e] at h1, fun j hj => by simpa using (List.all_eq_true.1 h2) j hj, fun t ht j hj => ?_, fun g b hg => ?_, fun j hj d hd => ?_⟩
  · have := (List.all_eq_true.1 ((List.all_eq_true.1 h3) t ht)) j (List.mem_range.2 (dst_lt hj))
    simpa [hj] using this
  · rw [hg] at h4
    simpa using h4
  · intro e
    have := (List.all_eq_true.1 h5) j (List.mem_range.2 (dst_lt e))
    simp [hj, hd, e] at this
theorem putAll_look (hdist : ∀ i j d, i ≠ j → dstAt ops i = some d → dstAt ops j ≠ some d) (vals : Nat → Value) : ∀ (l : List Nat) (a : Act),
    (putAll ops vals l a).tmps.size = a.tmps.size ∧ (putAll ops vals l a).defers = a.defers ∧
    (∀ j ∈ l, ∀ d, dstAt ops j = some d → d < a.tmps.size → (putAll ops vals l a).tmps[d]? = some (vals j)) ∧
    (∀ t, (∀ j ∈ l, dstAt ops j ≠ some t) → (putAll ops vals l a).tmps[t]? = a.tmps[t]?)
  | [], a => ⟨rfl, rfl, fun j hj => by simp at hj, fun _ _ => rfl⟩
  | j :: r, a => by
    obtain ⟨h1, h2, h3, h4⟩ := putAll_look hdist vals r (a.put (dstAt ops j) (vals j))
    simp only [putAll]
    refine ⟨h1.trans (put_size _ _ _), h2.trans (put_defers _ _ _), fun k hk d hd hlt => ?_, fun t ht => ?_⟩
    · by_cases hkr : k ∈ r
      · exact h3 k hkr d hd (by rw [put_size]; exact hlt)
      · have hkj : k = j := by
          rcases List.mem_cons.1 hk with h | h
          · exact h
          · exact absurd h hkr
        subst hkj
        rw [h4 d (fun m hm e => hdist k m d (fun e' => hkr (e' ▸ hm)) hd e), hd]
        exact put_at a d _ hlt
    · rw [h4 t (fun m hm => ht m (List.mem_cons_of_mem _ hm))]
      exact put_other a _ _ t (ht j (List.mem_cons_self ..))
def upd (vals : Nat → Value) (i : Nat) (v : Value) : Nat → Value := fun k => if k = i then v else vals k
structure RI (ops : Array Oper) (a0 : Act) (C : World → Prop) (I0 : Bool → World → Prop) (ik : Bool → Nat → Bool) (F : Nat → (Nat → Value) → World → Prop) (kills : Nat → Nat → Bool) (listed : Array Bool) (a : Act) (w : World) (vals : Nat → Value) : Prop where
  size : listed.size = ops.size
  tsize : a.tmps.size = a0.tmps.size
  defers : a.defers = a0.defers
  done : ∀ j, listed.getD j false = true → ∀ d, dstAt ops j = some d → d < a0.tmps.size → a.tmps[d]? = some (vals j)
  other : ∀ t, (∀ j, listed.getD j false = true → dstAt ops j ≠ some t) → a.tmps[t]? = a0.tmps[t]?
  closed : ∀ j, listed.getD j false = true → ∀ i ∈ waitsOf ops j, listed.getD i false = true
  c : C w
  ini : ∀ m, (∀ k, listed.getD k false = true → ik m k = false) → I0 m w
  facts : ∀ j, listed.getD j false = true → (∀ k, listed.getD k false = true → k ≠ j → kills k j = false) → F j vals w
theorem mem_waits {i j : Nat} {o : Oper} (ho : ops[i]? = some o) : j ∈ waitsOf ops i ↔ ∃ e ∈ o.after, Region.binds .any e = true ∧ e.on = j := by
  simp [waitsOf, ho]
theorem getD_set_self (l : Array Bool) (i : Nat) (h : i < l.size) : (l.setIfInBounds i true).getD i false = true := by simp [h]
theorem getD_set_other (l : Array Bool) {i j : Nat} (h : i ≠ j) : (l.setIfInBounds i true).getD j false = l.getD j false := by
  simp [Array.getElem?_setIfInBounds_ne h]
def StepAt (P : Program) (ops : Array Oper) (a0 : Act) (C : World → Prop) (I0 : Bool → World → Prop) (ik : Bool → Nat → Bool) (F : Nat → (Nat → Value) → World → Prop) (St : Nat → World → World → Prop) (kills : Nat → Nat → Bool) (i : Nat) (o : Oper) : Prop :=
  ∀ (w : World) (vals : Nat → Value), C w → (∀ m, availIni ops (ik m) i = true → I0 m w) → (∀ j, availAt ops kills j i = true → F j vals w) →
    wpList P ops (fun e a' w' => e = .normal ∧ ∃ v, a' = (putAll ops vals (waitsOf ops i) a0).put o.dst v ∧ F i (upd vals i v) w' ∧ C w' ∧ St i w w') [o] (putAll ops vals (waitsOf ops i) a0) w
theorem RI.step {a0 : Act} {C : World → Prop} {I0 : Bool → World → Prop} {ik : Bool → Nat → Bool} {F : Nat → (Nat → Value) → World → Prop} {St : Nat → World → World → Prop} {kills : Nat → Nat → Bool} {Q : Exit → Act → World → Prop}
    (hok : regionOk ops = true) (hini : ∀ m i, ik m i = false → ∀ w w', St i w w' → I0 m w → I0 m w') (hpres : ∀ i k, i < ops.size → i ≠ k → kills i k = false → (deepWaits ops 5 k).contains i = false → ∀ vals v w w', St i w w' → F k vals w → F k (upd vals i v) w')
    (hstep : ∀ i o, ops[i]? = some o → StepAt P ops a0 C I0 ik F St kills i o)
    {listed : Array Bool} {a : Act} {w : World} {vals : Nat → Value} (h : RI ops a0 C I0 ik F kills listed a w vals) {i : Nat} (hi : i ∈ Region.ready .any ops listed) :
    wpOp P ops Q i (fun a' w' => ∃ vals', RI ops a0 C I0 ik F kills (listed.setIfInBounds i true) a' w' vals') a w := by
  obtain ⟨hun, o, ho, hall⟩ := mem_ready.1 hi
  have hlt : i < ops.size := (Array.getElem?_eq_some_iff.1 ho).1
  have hltl : i < listed.size := by rw [h.size]; exact hlt
  have hunf : listed.getD i false = false := by
    simp [hltl] at hun ⊢; exact hun
  have ok := okAt hok ho
  have hdist : ∀ i j d, i ≠ j → dstAt ops i = some d → dstAt ops j ≠ some d := fun i j d hij hd => by
    have hil := dst_lt hd
    exact (okAt hok (Array.getElem?_eq_getElem hil)).dist j (Ne.symm hij) d hd
  have hw : ∀ j ∈ waitsOf ops i, listed.getD j false = true := fun j hj => by
    obtain ⟨e, he, hb, rfl⟩ := (mem_waits ho).1 hj
    exact hall e he hb
  obtain ⟨p1, p2, p3, p4⟩ := putAll_look hdist vals (waitsOf ops i) a0
  -- what the operation looks at is the same in both frames
  have hlook : ∀ t ∈ o.looksAt ops, a.tmps[t]? = (putAll ops vals (waitsOf ops i) a0).tmps[t]? := by
    intro t ht
    by_cases hex : ∃ j, dstAt ops j = some t
    · obtain ⟨j, hj⟩ := hex
      rcases ok.look t ht j hj with hji | hij
      · by_cases hts : t < a0.tmps.size
        · rw [h.done j (hw j hji) t hj hts, p3 j hji t hj hts]
        · rw [Array.getElem?_eq_none (by rw [h.tsize]; exact Nat.le_of_not_lt hts), Array.getElem?_eq_none (by rw [p1]; exact Nat.le_of_not_lt hts)]
      · have hjl : ¬ listed.getD j false = true := fun hj' => by rw [h.closed j hj' i hij] at hunf; cases hunf
        rw [h.other t (fun k hk e => by
          have : k = j := by
            rcases Nat.decEq k j with hne | he
            · exact absurd e (hdist j k t (Ne.symm hne) hj)
            · exact he
          subst this; exact hjl hk)]
        rw [p4 t (fun k hk e => by
          have : k = j := by
            rcases Nat.decEq k j with hne | he
            · exact absurd e (hdist j k t (Ne.symm hne) hj)
            · exact he
          subst this; exact hjl (hw k hk))]
    · have hno : ∀ j, dstAt ops j ≠ some t := fun j e => hex ⟨j, e⟩
      rw [h.other t (fun j _ => hno j), p4 t (fun j _ => hno j)]
  have heval : ∀ x ∈ o.op.operands, a.eval x = (putAll ops vals (waitsOf ops i) a0).eval x := by
    intro x hx
    cases x with
    | tmp t =>
      have := hlook t (List.mem_append_left _ (List.mem_filterMap.2 ⟨.tmp t, by simpa using hx, rfl⟩))
      simp only [Act.eval, Array.getD_eq_getD_getElem?, this]
    | _ => rfl
  have hexec : execOp a.eval o = execOp (putAll ops vals (waitsOf ops i) a0).eval o := execOp_congr o ok.sel heval
  have hwant : Region.wanted o (yielded ops a.tmps) = Region.wanted o (yielded ops (putAll ops vals (waitsOf ops i) a0).tmps) := by
    unfold Region.wanted
    cases hg : o.guard with
    | none => rfl
    | some gw =>
      obtain ⟨g, want⟩ := gw
      have : yielded ops a.tmps g = yielded ops (putAll ops vals (waitsOf ops i) a0).tmps g := by
        unfold yielded
        cases ht : (ops[g]?).bind (·.dst) with
        | none => rfl
        | some t =>
          have := hlook t (by
            refine List.mem_append_right _ ?_
            simp [hg, ht])
          simp only [Option.bind_some, this]
      simp only [this]
  have havail : ∀ j, availAt ops kills j i = true → F j vals w := by
    intro j hj
    simp only [availAt, Bool.and_eq_true] at hj
    obtain ⟨hj1, hj2⟩ := hj
    have hjl := hw j (by simpa using hj1)
    refine h.facts j hjl fun k hk hkj => ?_
    have hkl : k < ops.size := by
      rcases Nat.lt_or_ge k ops.size with h' | h'
      · exact h'
      · rw [← h.size] at h'; simp [Array.getElem?_eq_none h'] at hk
    have := (List.all_eq_true.1 hj2) k (List.mem_range.2 hkl)
    simp only [Bool.or_eq_true, beq_iff_eq, Bool.not_eq_true'] at this
    rcases this with ((this | this) | this) | this
    · subst this; rw [hunf] at hk; cases hk
    · exact absurd this hkj
    · exact this
    · have := deep_listed (L := fun j => listed.getD j false = true) h.closed 5 k hk i (by simpa using this)
      simp only [hunf] at this; cases this
  have hini0 : ∀ m, availIni ops (ik m) i = true → I0 m w := by
    intro m hj2
    refine h.ini m fun k hk => ?_
    have hkl : k < ops.size := by
      rcases Nat.lt_or_ge k ops.size with h' | h'
      · exact h'
      · rw [← h.size] at h'; simp [Array.getElem?_eq_none h'] at hk
    have := (List.all_eq_true.1 hj2) k (List.mem_range.2 hkl)
    simp only [Bool.or_eq_true, beq_iff_eq, Bool.not_eq_true'] at this
    rcases this with (this | this) | this
    · subst this; rw [hunf] at hk; cases hk
    · exact this
    · have := deep_listed (L := fun j => listed.getD j false = true) h.closed 5 k hk i (by simpa using this)
      simp only [hunf] at this; cases this
  -- the end of the step
  have hend : ∀ (v : Value) (w' : World), (∃ v', (putAll ops vals (waitsOf ops i) a0).put o.dst v = (putAll ops vals (waitsOf ops i) a0).put o.dst v' ∧ F i (upd vals i v') w' ∧ C w' ∧ St i w w') →
      ∃ vals', RI ops a0 C I0 ik F kills (listed.setIfInBounds i true) (a.put o.dst v) w' vals' := by
    rintro v w' ⟨v', hv, hF, hC, hSt⟩
    have hdo : dstAt ops i = o.dst := by simp [dstAt, ho]
    refine ⟨upd vals i v', ⟨by simp [h.size], (put_size _ _ _).trans h.tsize, (put_defers _ _ _).trans h.defers, ?_, ?_, ?_, hC, ?_, ?_⟩⟩
    · intro j hj d hd hlt'
      by_cases hji : j = i
      · subst hji
        rw [hdo] at hd
        simp only [upd, if_true]
        rw [hd] at hv ⊢
        rw [put_at _ _ _ (by rw [h.tsize]; exact hlt')]
        have := congrArg (fun a : Act => a.tmps[d]?) hv
        rw [put_at _ _ _ (by rw [p1]; exact hlt'), put_at _ _ _ (by rw [p1]; exact hlt')] at this
        exact this
      · simp only [upd, hji, if_false]
        rw [getD_set_other _ (Ne.symm hji)] at hj
        rw [put_other _ _ _ _ (fun e => hdist j i d hji hd (hdo.trans e))]
        exact h.done j hj d hd hlt'
    · intro t ht
      rw [put_other _ _ _ _ (fun e => ht i (getD_set_self _ _ hltl) (hdo.trans e))]
      refine h.other t fun j hj => ?_
      by_cases hji : j = i
      · subst hji; rw [hunf] at hj; cases hj
      · exact ht j (by rw [getD_set_other _ (Ne.symm hji)]; exact hj)
    · intro j hj k hk
      by_cases hki : k = i
      · subst hki; exact getD_set_self _ _ hltl
      · rw [getD_set_other _ (Ne.symm hki)]
        by_cases hji : j = i
        · subst hji; exact hw k hk
        · rw [getD_set_other _ (Ne.symm hji)] at hj
          exact h.closed j hj k hk
    · intro m hk
      refine hini m i (hk i (getD_set_self _ _ hltl)) _ _ hSt (h.ini m fun k hk' => hk k ?_)
      by_cases hki : k = i
      · subst hki; exact getD_set_self _ _ hltl
      · rw [getD_set_other _ (Ne.symm hki)]; exact hk'
    · intro j hj hk
      by_cases hji : j = i
      · subst hji; exact hF
      · have hj0 := hj
        rw [getD_set_other _ (Ne.symm hji)] at hj
        refine hpres i j hlt (Ne.symm hji) (hk i (getD_set_self _ _ hltl) (Ne.symm hji)) (by
          by_cases hc : (deepWaits ops 5 j).contains i = true
          · have := deep_listed (L := fun j => listed.getD j false = true) h.closed 5 j hj i (by simpa using hc)
            simp only [hunf] at this; cases this
          · simpa using hc) _ _ _ _ hSt (h.facts j hj fun k hk' hkj => ?_)
        refine hk k ?_ hkj
        by_cases hki : k = i
        · subst hki; exact getD_set_self _ _ hltl
        · rw [getD_set_other _ (Ne.symm hki)]; exact hk'
  have hs := hstep i o ho w vals h.c hini0 havail
  unfold wpOp
  simp only [ho]
  simp only [wpList] at hs
  rw [hwant]
  split
  · rename_i hwt
    rw [if_pos hwt] at hs
    rcases hs with hs | ⟨_, a₀, w₀, hq⟩
    case inr => exact absurd hq.1 (by simp)
    refine .inl ?_
    unfold Oper.wp at *
    rw [hexec]
    generalize (execOp (putAll ops vals (waitsOf ops i) a0).eval o).run P w = r at *
    cases r with
    | ok n w' =>
      cases n <;> simp only [Oper.upon] at hs ⊢
      case value v => exact hend v w' hs.2
      case skip => exact hend _ w' hs.2
      case defer d =>
        obtain ⟨_, v, hv, _⟩ := hs
        have := congrArg Act.defers hv
        rw [put_defers, put_defers] at this
        exact absurd this (by simp)
      case enter f args =>
        refine Calls.mono hs fun e w'' he => ?_
        cases e with
        | returned v => exact hend v w'' he.2
        | panicked c => exact absurd he.1 (by simp)
        | outgrown => obtain ⟨_, _, hq⟩ := he; exact absurd hq.1 (by simp)
      case row row args => exact Rows.mono hs fun v w'' he => hend v w'' he.2
    | halt x w' =>
      cases x <;> simp only [Oper.upon] at hs ⊢
      exact absurd hs.1 (by simp)
  · rename_i hwt
    rw [if_neg hwt] at hs
    exact hend _ _ hs.2
theorem count_set {l : Array Bool} {i : Nat} (hi : i < l.size) (hf : l.getD i false = false) {n : Nat} (hn : l.toList.countP (fun b => !b) ≤ n + 1) : (l.setIfInBounds i true).toList.countP (fun b => !b) ≤ n := by
  have hf' : l.toList[i]'(by simpa using hi) = false := by simpa [hi] using hf
  rw [Array.toList_setIfInBounds, List.countP_set (by simpa using hi)]
  rw [hf', if_pos (by rfl), if_neg (by simp)]
  omega
theorem all_listed (hok : regionOk ops = true) {listed : Array Bool} (hs : listed.size = ops.size) (hr : Region.ready .any ops listed = []) : ∀ n, ∀ i, i < n → i < ops.size → listed.getD i false = true := by
  intro n
  induction n with
  | zero => intro i h; omega
  | succ n ih =>
    intro i hin hi
    by_cases hl : listed.getD i false = true
    · exact hl
    · exfalso
      have ho : ops[i]? = some ops[i] := Array.getElem?_eq_getElem hi
      have ok := okAt hok ho
      have : i ∈ Region.ready .any ops listed := by
        refine mem_ready.2 ⟨?_, ops[i], ho, fun e he hb => ?_⟩
        · have : i < listed.size := by rw [hs]; exact hi
          simp [this] at hl ⊢; exact hl
        · have hlt := ok.before e.on ((mem_waits ho).2 ⟨e, he, hb, rfl⟩)
          exact ih e.on (by omega) (by omega)
      rw [hr] at this
      cases this
theorem wp_region_rel {id : Nat} {a0 : Act} {w0 : World} {Q : Exit → Act → World → Prop} (C : World → Prop) (I0 : Bool → World → Prop) (ik : Bool → Nat → Bool) (F : Nat → (Nat → Value) → World → Prop) (St : Nat → World → World → Prop) (kills : Nat → Nat → Bool)
    (hm : P.follows .mixedOrders = true) (hok : regionOk ops = true) (hC : C w0.drew) (hI : ∀ m, I0 m w0.drew) (hini : ∀ m i, ik m i = false → ∀ w w', St i w w' → I0 m w → I0 m w')
    (hpres : ∀ i k, i < ops.size → i ≠ k → kills i k = false → (deepWaits ops 5 k).contains i = false → ∀ vals v w w', St i w w' → F k vals w → F k (upd vals i v) w')
    (hstep : ∀ i o, ops[i]? = some o → StepAt P ops a0 C I0 ik F St kills i o)
    (hfin : ∀ w vals, C w → (∀ j, j < ops.size → aliveAt ops kills j = true → F j vals w) → Q .normal (putAll ops vals (List.range ops.size) a0) w) :
    (Code.region id ops true).wp P Q a0 w0 := by
  have hdist : ∀ i j d, i ≠ j → dstAt ops i = some d → dstAt ops j ≠ some d := fun i j d hij hd => by
    have hil := dst_lt hd
    exact (okAt hok (Array.getElem?_eq_getElem hil)).dist j (Ne.symm hij) d hd
  have final : ∀ listed a w vals, RI ops a0 C I0 ik F kills listed a w vals → Region.ready .any ops listed = [] → Q .normal a w := by
    intro listed a w vals h hr
    have hall : ∀ j, j < ops.size → listed.getD j false = true := fun j hj => all_listed hok h.size hr (j + 1) j (by omega) hj
    obtain ⟨p1, p2, p3, p4⟩ := putAll_look hdist vals (List.range ops.size) a0
    have ha : a = putAll ops vals (List.range ops.size) a0 := by
      have ht : a.tmps = (putAll ops vals (List.range ops.size) a0).tmps := by
        apply Array.ext_getElem?
        intro t
        by_cases hex : ∃ j, dstAt ops j = some t
        · obtain ⟨j, hj⟩ := hex
          have hjl := dst_lt hj
          by_cases hts : t < a0.tmps.size
          · rw [h.done j (hall j hjl) t hj hts, p3 j (List.mem_range.2 hjl) t hj hts]
          · rw [Array.getElem?_eq_none (by rw [h.tsize]; exact Nat.le_of_not_lt hts), Array.getElem?_eq_none (by rw [p1]; exact Nat.le_of_not_lt hts)]
        · have hno : ∀ j, dstAt ops j ≠ some t := fun j e => hex ⟨j, e⟩
          rw [h.other t (fun j _ => hno j), p4 t (fun j _ => hno j)]
      have hd : a.defers = (putAll ops vals (List.range ops.size) a0).defers := h.defers.trans p2.symm
      cases a
      simp only at ht hd
      rw [ht, hd]
    rw [ha]
    refine hfin w vals h.c fun j hj hal => h.facts j (hall j hj) fun k hk hkj => ?_
    have hkl : k < ops.size := by
      rcases Nat.lt_or_ge k ops.size with h' | h'
      · exact h'
      · rw [← h.size] at h'; simp [Array.getElem?_eq_none h'] at hk
    have := (List.all_eq_true.1 hal) k (List.mem_range.2 hkl)
    simpa [hkj] using this
  refine wp_region_any hm ?_
  have key : ∀ (fuel : Nat) (listed : Array Bool) (a : Act) (w : World) (vals : Nat → Value), listed.toList.countP (fun b => !b) ≤ fuel → RI ops a0 C I0 ik F kills listed a w vals → wpAny P .any ops Q fuel listed a w := by
    intro fuel
    induction fuel with
    | zero =>
      intro listed a w vals hc h
      have hr : Region.ready .any ops listed = [] := by
        refine List.eq_nil_iff_forall_not_mem.2 fun i hi => ?_
        obtain ⟨hun, o, ho, _⟩ := mem_ready.1 hi
        have hlt : i < listed.size := by rw [h.size]; exact (Array.getElem?_eq_some_iff.1 ho).1
        have h0 : listed.toList.countP (fun b => !b) = 0 := by omega
        rw [List.countP_eq_zero] at h0
        have := h0 (listed[i]) (by simp)
        simp [hlt] at hun
        simp [hun] at this
      exact ⟨hr, final listed a w vals h hr⟩
    | succ fuel ih =>
      intro listed a w vals hc h
      refine ⟨fun hr => final listed a w vals h hr, fun i hi => ?_⟩
      obtain ⟨hun, o, ho, _⟩ := mem_ready.1 hi
      have hlt : i < listed.size := by rw [h.size]; exact (Array.getElem?_eq_some_iff.1 ho).1
      refine wpOp_mono (fun a' w' ⟨vals', h'⟩ => ih _ _ _ vals' (count_set hlt (by simp [hlt] at hun ⊢; exact hun) hc) h') (h.step (Q := Q) hok hini hpres hstep hi)
  refine key _ _ _ _ (fun _ => undef) ?_ ⟨by simp, rfl, rfl, ?_, ?_, ?_, hC, fun m _ => hI m, ?_⟩
  · have := List.countP_le_length (p := fun b : Bool => !b) (l := (Array.replicate ops.size false).toList)
    simpa using this
  · intro j hj; simp [Array.getElem?_replicate] at hj; split at hj <;> simp at hj
  · intro t _; rfl
  · intro j hj; simp [Array.getElem?_replicate] at hj; split at hj <;> simp at hj
  · intro j hj; simp [Array.getElem?_replicate] at hj; split at hj <;> simp at hj
/-! ### For the walk -/
def puts (vals : Nat → Value) : List (Nat × Option Tmp) → Act → Act
  | [], a => a
  | (j, d) :: r, a => puts vals r (a.put d (vals j))
def GoodEnd (o : Oper) (ai : Act) (R : Value → World → Prop) : Exit → Act → World → Prop := fun e a' w' => e = .normal ∧ ∃ v, a' = ai.put o.dst v ∧ R v w'
def fct (Fs : List ((Nat → Value) → World → Prop)) (i : Nat) : (Nat → Value) → World → Prop := (Fs[i]?).getD fun _ _ => True
def stp (Sts : List (World → World → Prop)) (i : Nat) : World → World → Prop := (Sts[i]?).getD Eq
def StepsL (p : Nat → Oper → Prop) : Nat → List Oper → Prop
  | _, [] => True
  | k, o :: r => p k o ∧ StepsL p (k + 1) r
theorem stepsL_spec {p : Nat → Oper → Prop} : ∀ {l : List Oper} {k : Nat}, StepsL p k l → ∀ i o, l[i]? = some o → p (k + i) o
  | [], _, _, i, o, h => by simp at h
  | o :: r, k, h, 0, o', ho => by simp at ho; subst ho; exact h.1
  | o :: r, k, h, i + 1, o', ho => by
    have := stepsL_spec h.2 i o' (by simpa using ho)
    rwa [show k + 1 + i = k + (i + 1) by omega] at this
def Keeps (kill skip : Nat → Bool) (i : Nat) (S : World → World → Prop) : Nat → List ((Nat → Value) → World → Prop) → Prop
  | _, [] => True
  | k, F :: r => (i = k ∨ kill k = true ∨ skip k = true ∨ ∀ vals v w w', S w w' → F vals w → F (upd vals i v) w') ∧ Keeps kill skip i S (k + 1) r
theorem keeps_spec {kill skip : Nat → Bool} {i : Nat} {S : World → World → Prop} : ∀ {Fs : List ((Nat → Value) → World → Prop)} {k : Nat}, Keeps kill skip i S k Fs →
    ∀ j, i ≠ k + j → kill (k + j) = false → skip (k + j) = false → ∀ vals v w w', S w w' → fct Fs j vals w → fct Fs j (upd vals i v) w'
  | [], _, _, j, _, _, _, vals, v, w, w', _, hf => trivial
  | F :: r, k, h, 0, hj, hk, hs, vals, v, w, w', hS, hf => by
    rcases h.1 with h1 | h1 | h1 | h1
    · exact absurd h1 hj
    · simp only [Nat.add_zero] at hk; rw [hk] at h1; cases h1
    · simp only [Nat.add_zero] at hs; rw [hs] at h1; cases h1
    · exact h1 vals v w w' hS hf
  | F :: r, k, h, j + 1, hj, hk, hs, vals, v, w, w', hS, hf => by
    have e : k + (j + 1) = k + 1 + j := by omega
    rw [e] at hj hk hs
    exact keeps_spec h.2 j hj hk hs vals v w w' hS hf
def KeepsL (kills skips : Nat → Nat → Bool) (Fs : List ((Nat → Value) → World → Prop)) : Nat → List (World → World → Prop) → Prop
  | _, [] => True
  | i, S :: r => Keeps (kills i) (skips i) i S 0 Fs ∧ KeepsL kills skips Fs (i + 1) r
theorem keepsL_spec {kills skips : Nat → Nat → Bool} {Fs : List ((Nat → Value) → World → Prop)} : ∀ {Sts : List (World → World → Prop)} {i : Nat}, KeepsL kills skips Fs i Sts →
    ∀ j k, i + j ≠ k → kills (i + j) k = false → skips (i + j) k = false → j < Sts.length → ∀ vals v w w', stp Sts j w w' → fct Fs k vals w → fct Fs k (upd vals (i + j) v) w'
  | [], i, _, j, k, _, _, _, hl, _, _, _, _, _, _ => by simp at hl
  | S :: r, i, h, 0, k, hj, hk, hs, _, vals, v, w, w', hS, hf => by
    have := keeps_spec h.1 k (by simpa using hj) (by simpa using hk) (by simpa using hs) vals v w w' hS
    exact this hf
  | S :: r, i, h, j + 1, k, hj, hk, hs, hl, vals, v, w, w', hS, hf => by
    have e : i + (j + 1) = i + 1 + j := by omega
    rw [e] at hj hk hs ⊢
    exact keepsL_spec h.2 j k hj hk hs (by simpa using hl) vals v w w' hS hf
def IniL (ik : Nat → Bool) (I0 : World → Prop) : Nat → List (World → World → Prop) → Prop
  | _, [] => True
  | i, S :: r => (ik i = true ∨ ∀ w w', S w w' → I0 w → I0 w') ∧ IniL ik I0 (i + 1) r
theorem iniL_spec {ik : Nat → Bool} {I0 : World → Prop} : ∀ {Sts : List (World → World → Prop)} {i : Nat}, IniL ik I0 i Sts → ∀ j, ik (i + j) = false → ∀ w w', stp Sts j w w' → I0 w → I0 w'
  | [], i, _, j, _, w, w', hS, h => by
    have : w = w' := hS
    subst this; exact h
  | S :: r, i, h, 0, hj, w, w', hS, h0 => by
    rcases h.1 with h1 | h1
    · simp only [Nat.add_zero] at hj; rw [hj] at h1; cases h1
    · exact h1 w w' hS h0
  | S :: r, i, h, j + 1, hj, w, w', hS, h0 => by
    have e : i + (j + 1) = i + 1 + j := by omega
    rw [e] at hj
    exact iniL_spec h.2 j hj w w' hS h0
theorem wp_region_list {id : Nat} {l : List Oper} {a0 : Act} {w0 : World} {Q : Exit → Act → World → Prop} (C : World → Prop) (I0 : Bool → World → Prop) (ik : Bool → Nat → Bool) (Fs : List ((Nat → Value) → World → Prop)) (Sts : List (World → World → Prop)) (kills : Nat → Nat → Bool) (ps : List (Nat × Option Tmp))
    (hm : P.follows .mixedOrders = true) (hok : regionOk l.toArray = true) (hlen : Sts.length = l.length) (hps : ∀ vals, putAll l.toArray vals (List.range l.toArray.size) a0 = puts vals ps a0) (hC : C w0.drew) (hI : ∀ m, I0 m w0.drew) (hini : ∀ m, IniL (ik m) (I0 m) 0 Sts)
    (hpres : KeepsL kills (fun i k => (deepWaits l.toArray 5 k).contains i) Fs 0 Sts)
    (hstep : StepsL (StepAt P l.toArray a0 C I0 ik (fct Fs) (stp Sts) kills) 0 l)
    (hfin : ∀ w vals, C w → (∀ j, j < l.toArray.size → aliveAt l.toArray kills j = true → fct Fs j vals w) → Q .normal (puts vals ps a0) w) :
    (Code.region id l.toArray true).wp P Q a0 w0 :=
  wp_region_rel C I0 ik (fct Fs) (stp Sts) kills hm hok hC hI (fun m i hi w w' hS h => by
      have := iniL_spec (hini m) i (by simpa using hi) w w' hS
      exact this h)
    (fun i k hil hik hk hs vals v w w' hS hf => by
      have := keepsL_spec hpres i k (by simpa using hik) (by simpa using hk) (by simpa using hs) (by rw [hlen]; simpa using hil) vals v w w' hS
      rw [Nat.zero_add] at this
      exact this hf)
    (fun i o ho => by
      have := stepsL_spec hstep i o (by simpa using ho)
      simpa using this)
    (fun w vals hc hf => by rw [hps]; exact hfin w vals hc hf)
theorem act_put (t : Array Value) (d : List Deferred) (i : Tmp) (v : Value) : Act.put ⟨t, d⟩ (some i) v = ⟨t.setIfInBounds i v, d⟩ := rfl
theorem act_put_none (a : Act) (v : Value) : Act.put a none v = a := rfl
def EndOf (E : Act → World → Prop) : Exit → Act → World → Prop := fun e a w => e = .normal ∧ E a w
theorem EndOf.mk {E : Act → World → Prop} {a : Act} {w : World} (h : E a w) : EndOf E .normal a w := ⟨rfl, h⟩
theorem step_plain {a0 : Act} {C : World → Prop} {I0 : Bool → World → Prop} {ik : Bool → Nat → Bool} {F : Nat → (Nat → Value) → World → Prop} {St : Nat → World → World → Prop} {kills : Nat → Nat → Bool} {i : Nat} {o : Oper} (ps : List (Nat × Option Tmp))
    (hps : ∀ vals, putAll ops vals (waitsOf ops i) a0 = puts vals ps a0) (hg : o.guard = none)
    (h : ∀ w vals, C w → (∀ m, availIni ops (ik m) i = true → I0 m w) → (∀ j, availAt ops kills j i = true → F j vals w) →
      ∀ E : Act → World → Prop, (∀ v w', F i (upd vals i v) w' → C w' → St i w w' → E ((puts vals ps a0).put o.dst v) w') → wpList P #[] (EndOf E) [o] (puts vals ps a0) w) :
    StepAt P ops a0 C I0 ik F St kills i o := by
  intro w vals hc h0 hf
  have h1 := h w vals hc h0 hf (fun a' w' => ∃ v, a' = (puts vals ps a0).put o.dst v ∧ F i (upd vals i v) w' ∧ C w' ∧ St i w w') fun v w' h1 h2 h3 => ⟨v, rfl, h1, h2, h3⟩
  rw [hps]
  show wpList P ops (EndOf fun a' w' => ∃ v, a' = (puts vals ps a0).put o.dst v ∧ F i (upd vals i v) w' ∧ C w' ∧ St i w w') [o] (puts vals ps a0) w
  have hw : ∀ (O : Array Oper) (t : Array Value), Region.wanted o (yielded O t) = true := fun O t => by simp [Region.wanted, hg]
  simp only [wpList, hw, if_true] at h1 ⊢
  exact h1
theorem step_guard {a0 : Act} {C : World → Prop} {I0 : Bool → World → Prop} {ik : Bool → Nat → Bool} {F : Nat → (Nat → Value) → World → Prop} {St : Nat → World → World → Prop} {kills : Nat → Nat → Bool} {i : Nat} {o : Oper} (ps : List (Nat × Option Tmp))
    (hps : ∀ vals, putAll ops vals (waitsOf ops i) a0 = puts vals ps a0) (g : Nat) (t : Tmp) (want : Bool) (hg : o.guard = some (g, want)) (hd : dstAt ops g = some t)
    (hyes : ∀ w vals, C w → (∀ m, availIni ops (ik m) i = true → I0 m w) → (∀ j, availAt ops kills j i = true → F j vals w) → (puts vals ps a0).tmps[t]? = some (.bool want) →
      ∀ E : Act → World → Prop, (∀ v w', F i (upd vals i v) w' → C w' → St i w w' → E ((puts vals ps a0).put o.dst v) w') → wpList P #[] (EndOf E) [{ o with guard := none }] (puts vals ps a0) w)
    (hno : ∀ w vals, C w → (∀ m, availIni ops (ik m) i = true → I0 m w) → (∀ j, availAt ops kills j i = true → F j vals w) → (puts vals ps a0).tmps[t]? ≠ some (.bool want) → F i (upd vals i undef) w ∧ St i w w) :
    StepAt P ops a0 C I0 ik F St kills i o := by
  intro w vals hc h0 hf
  rw [hps]
  show wpList P ops (EndOf fun a' w' => ∃ v, a' = (puts vals ps a0).put o.dst v ∧ F i (upd vals i v) w' ∧ C w' ∧ St i w w') [o] (puts vals ps a0) w
  have hd' : (ops[g]?).bind (·.dst) = some t := hd
  by_cases hy : (puts vals ps a0).tmps[t]? = some (.bool want)
  · have h1 := hyes w vals hc h0 hf hy (fun a' w' => ∃ v, a' = (puts vals ps a0).put o.dst v ∧ F i (upd vals i v) w' ∧ C w' ∧ St i w w') fun v w' h1 h2 h3 => ⟨v, rfl, h1, h2, h3⟩
    have hw : Region.wanted o (yielded ops (puts vals ps a0).tmps) = true := by simp [Region.wanted, hg, yielded, hd', hy]
    have hw' : ∀ (O : Array Oper) (t : Array Value), Region.wanted { o with guard := none } (yielded O t) = true := fun O t => by simp [Region.wanted]
    simp only [wpList, hw, hw', if_true] at h1 ⊢
    have he : ∀ ρ, execOp ρ { o with guard := none } = execOp ρ o := fun ρ => rfl
    have ha : ∀ a w, Oper.asks P { o with guard := none } a w = Oper.asks P o a w := fun a w => rfl
    rw [ha] at h1
    exact h1
  · obtain ⟨hF, hS⟩ := hno w vals hc h0 hf hy
    have hw : ¬ Region.wanted o (yielded ops (puts vals ps a0).tmps) = true := by
      simp only [Region.wanted, hg, yielded, hd', Option.bind_some, beq_iff_eq]
      intro e
      apply hy
      split at e
      · rename_i b hb; simp at e; subst e; exact hb
      · cases e
    simp only [wpList, if_neg hw]
    exact ⟨rfl, undef, rfl, hF, hc, hS⟩
end
end Go.Proofs.YtoihgnkhalhocaaGreatDoor
/-
  A guarded operation whose guard holds.
-/
namespace Go.Proofs.YtoihgnkhalhocaaGreatDoor
set_option linter.unusedSimpArgs false
set_option linter.unusedVariables false
open Go.RowKit
section
variable {P : Program}
theorem wpList_open {w : World} {ops : Array Oper} {rest : List Oper} {o : Oper} {a : Act} {Q : Exit → Act → World → Prop}
    (hw : Region.wanted o (yielded ops a.tmps) = true) (h : wpList P ops Q ({ o with guard := none } :: rest) a w) : wpList P ops Q (o :: rest) a w := by
  have hw' : ∀ (O : Array Oper) (t : Array Value), Region.wanted { o with guard := none } (yielded O t) = true := fun O t => by simp [Region.wanted]
  simp only [wpList, hw, hw', if_true] at h ⊢
  have ha : ∀ a w, Oper.asks P { o with guard := none } a w = Oper.asks P o a w := fun a w => rfl
  rw [ha] at h
  exact h
end
end Go.Proofs.YtoihgnkhalhocaaGreatDoor
/-
  Regions that draw their order and whose operations give one value each, whatever the order: one step for each operation, in the order of the text; the last one may write.
-/
namespace Go.Proofs.YtoihgnkhalhocaaGreatDoor
set_option linter.unusedSimpArgs false
set_option linter.unusedVariables false
section
variable {P : Program}
theorem putAll_congr (ops : Array Oper) (v1 v2 : Nat → Value) : ∀ (l : List Nat) (a : Act), (∀ j ∈ l, v1 j = v2 j) → putAll ops v1 l a = putAll ops v2 l a
  | [], _, _ => rfl
  | j :: r, a, h => by
    rw [putAll, putAll, h j (List.mem_cons_self ..)]
    exact putAll_congr ops v1 v2 r _ fun k hk => h k (List.mem_cons_of_mem _ hk)
def DetStep (P : Program) (ops : Array Oper) (C D : World → Prop) (Φ : (Nat → Value) → Prop) (i : Nat) (a0 : Act) (o : Oper) (v : Value) : Prop :=
  ∀ vals, Φ vals → ∀ w, C w → ∀ E : Act → World → Prop, (∀ w', D w' → E ((putAll ops vals (waitsOf ops i) a0).put o.dst v) w') → wpList P ops (EndOf E) [o] (putAll ops vals (waitsOf ops i) a0) w
def DetL (P : Program) (ops : Array Oper) (C D : World → Prop) (a0 : Act) (K : ((Nat → Value) → Prop) → Prop) : Nat → List Oper → ((Nat → Value) → Prop) → Prop
  | _, [], Φ => K Φ
  | i, [o], Φ => ∃ v, DetStep P ops C D Φ i a0 o v ∧ K fun vals => Φ vals ∧ vals i = v
  | i, o :: r :: rest, Φ => ∃ v, DetStep P ops C C Φ i a0 o v ∧ DetL P ops C D a0 K (i + 1) (r :: rest) fun vals => Φ vals ∧ vals i = v
theorem detL_all {ops : Array Oper} {C D : World → Prop} {a0 : Act} {K : ((Nat → Value) → Prop) → Prop} : ∀ (rest : List Oper) (i : Nat) (Φ : (Nat → Value) → Prop),
    (∀ v1 v2 : Nat → Value, (∀ j, j < i → v1 j = v2 j) → Φ v1 → Φ v2) → (∃ vals, Φ vals) → DetL P ops C D a0 K i rest Φ →
    ∃ (vs : Nat → Value) (Ψ : (Nat → Value) → Prop), K Ψ ∧ Φ vs ∧ (∀ vals, (∀ j, j < i + rest.length → vals j = vs j) → Ψ vals) ∧
      ∀ j o, rest[j]? = some o → ∀ vals w, C w → (∀ k, k < i + j → vals k = vs k) → ∀ E : Act → World → Prop, (∀ w', (if j + 1 = rest.length then D w' else C w') → E ((putAll ops vals (waitsOf ops (i + j)) a0).put o.dst (vs (i + j))) w') → wpList P ops (EndOf E) [o] (putAll ops vals (waitsOf ops (i + j)) a0) w
  | [], i, Φ, hΦ, ⟨v0, h0⟩, h => ⟨v0, Φ, h, h0, fun vals hv => hΦ _ _ (fun j hj => (hv j (by simpa using hj)).symm) h0, fun j o ho => by simp at ho⟩
  | [o], i, Φ, hΦ, ⟨v0, h0⟩, ⟨v, h1, h2⟩ => by
    refine ⟨upd v0 i v, _, h2, hΦ v0 _ (fun j hj => by simp [upd, Nat.ne_of_lt hj]) h0, fun vals hv => ⟨hΦ v0 _ (fun j hj => ?_) h0, ?_⟩, fun j o' ho w => ?_⟩
    · have := hv j (by simp; omega)
      rw [this]; simp [upd, Nat.ne_of_lt hj]
    · have := hv i (by simp)
      rw [this]; simp [upd]
    · cases j with
      | zero =>
        simp at ho
        subst ho
        intro w' hc hv
        have hΦv : Φ w := hΦ v0 _ (fun j hj => by rw [hv j (by omega)]; simp [upd, Nat.ne_of_lt hj]) h0
        intro E hE
        refine h1 w hΦv w' hc E fun w'' hd => ?_
        have := hE w'' (by simpa using hd)
        simpa [upd] using this
      | succ j => simp at ho
  | o :: r :: rest, i, Φ, hΦ, ⟨v0, h0⟩, ⟨v, h1, h2⟩ => by
    obtain ⟨vs, Ψ, k1, k2, k3, k4⟩ := detL_all (r :: rest) (i + 1) (fun vals => Φ vals ∧ vals i = v)
      (fun v1 v2 hv hp => ⟨hΦ v1 v2 (fun j hj => hv j (by omega)) hp.1, by rw [← hv i (by omega)]; exact hp.2⟩)
      ⟨upd v0 i v, hΦ v0 _ (fun j hj => by simp [upd, Nat.ne_of_lt hj]) h0, by simp [upd]⟩ h2
    refine ⟨vs, Ψ, k1, k2.1, fun vals hv => k3 vals fun j hj => hv j (by simp only [List.length_cons] at hj ⊢; omega), fun j o' ho vals w hc hv => ?_⟩
    cases j with
    | zero =>
      simp at ho
      subst ho
      have hΦv : Φ vals := hΦ vs _ (fun j hj => (hv j (by omega)).symm) k2.1
      intro E hE
      refine h1 vals hΦv w hc E fun w'' hd => ?_
      have : ¬ 0 + 1 = (o :: r :: rest).length := by simp
      have h4 := hE w'' (by rw [if_neg this]; exact hd)
      rw [Nat.add_zero, k2.2] at h4
      exact h4
    | succ j =>
      have h3 := k4 j o' (by simpa using ho) vals w hc (fun k hk => hv k (by omega))
      intro E hE
      rw [show i + (j + 1) = i + 1 + j by omega] at hE ⊢
      refine h3 E fun w'' hd => hE w'' ?_
      have e : (j + 1 + 1 = (o :: r :: rest).length) = (j + 1 = (r :: rest).length) := by simp
      simp only [e]
      exact hd
theorem wp_region_det {id : Nat} {l : List Oper} {a0 : Act} {w0 : World} {Q : Exit → Act → World → Prop} (C D : World → Prop) (ps : List (Nat × Option Tmp))
    (hm : P.follows .mixedOrders = true) (hok : regionOk l.toArray = true) (hpos : 0 < l.length)
    (hlast : ((List.range (l.length - 1)).all fun i => (deepWaits l.toArray 5 (l.length - 1)).contains i) = true)
    (hps : ∀ vals, putAll l.toArray vals (List.range l.toArray.size) a0 = puts vals ps a0) (hC : C w0.drew)
    (h : DetL P l.toArray C D a0 (fun Φ => ∀ vals, Φ vals → ∀ w, D w → Q .normal (puts vals ps a0) w) 0 l (fun _ => True)) :
    (Code.region id l.toArray true).wp P Q a0 w0 := by
  obtain ⟨vs, Ψ, k1, _, k3, k4⟩ := detL_all (P := P) l 0 (fun _ => True) (fun _ _ _ h => h) ⟨fun _ => undef, trivial⟩ h
  have hafter : ∀ i, i < l.length → i ≠ l.length - 1 → (deepWaits l.toArray 5 (l.length - 1)).contains i = true := fun i hi hne =>
    (List.all_eq_true.1 hlast) i (List.mem_range.2 (by omega))
  refine wp_region_rel (fun _ => True) (fun _ => C) (fun _ i => i == l.length - 1) (fun i vals w => vals i = vs i ∧ (i = l.length - 1 → D w)) (fun i w w' => if i = l.length - 1 then True else (C w → C w')) (fun _ _ => false) hm hok trivial (fun _ => hC) ?_ ?_ ?_ ?_
  · intro _ i hi w w' hS hc
    have hne : ¬ i = l.length - 1 := by simpa using hi
    rw [if_neg hne] at hS
    exact hS hc
  · intro i k hi hik _ hdk vals v w w' _ hF
    refine ⟨by simp [upd, Ne.symm hik, hF.1], fun hk => ?_⟩
    subst hk
    have := hafter i (by simpa using hi) hik
    rw [this] at hdk
    cases hdk
  · intro i o ho w vals _ hini hav
    have hil : i < l.length := by have := (Array.getElem?_eq_some_iff.1 ho).1; simpa using this
    have hok1 := okAt hok ho
    have hcw : C w := hini false (by
      unfold availIni
      rw [List.all_eq_true]
      intro k hk
      have hk' : k < l.length := by simpa using hk
      by_cases hki : k = i
      · simp [hki]
      · by_cases hkl : k = l.length - 1
        · have := hafter i hil (by omega)
          subst hkl
          simp only [this, Bool.or_true]
        · simp [hkl])
    have hvals : ∀ j ∈ waitsOf l.toArray i, vals j = vs j := fun j hj => by
      have h1 : availAt l.toArray (fun _ _ => false) j i = true := by
        unfold availAt
        simp [hj]
      exact (hav j h1).1
    have hcon : putAll l.toArray vals (waitsOf l.toArray i) a0 = putAll l.toArray vs (waitsOf l.toArray i) a0 := putAll_congr _ _ _ _ _ hvals
    have h3 := k4 i o (by simpa using ho) vs w hcw (fun _ _ => rfl)
    rw [Nat.zero_add] at h3
    rw [hcon]
    refine h3 (fun a' w' => ∃ v, a' = (putAll l.toArray vs (waitsOf l.toArray i) a0).put o.dst v ∧ (upd vals i v i = vs i ∧ (i = l.length - 1 → D w')) ∧ True ∧ (if i = l.length - 1 then True else (C w → C w'))) fun w' hd => ?_
    refine ⟨vs i, rfl, ⟨by simp [upd], fun hi => ?_⟩, trivial, ?_⟩
    · rw [if_pos (by omega)] at hd; exact hd
    · by_cases hi : i = l.length - 1
      · rw [if_pos hi]; trivial
      · rw [if_neg hi]
        intro _
        rw [if_neg (by omega)] at hd; exact hd
  · intro w vals _ hF
    rw [hps]
    have hal : ∀ j, aliveAt l.toArray (fun _ _ => false) j = true := fun j => by simp [aliveAt]
    have hD : D w := (hF (l.length - 1) (by simp; omega) (hal _)).2 rfl
    exact k1 vals (k3 vals fun j hj => (hF j (by simpa using hj) (hal _)).1) w hD
def tailP (P : Program) (ops : Array Oper) (a0 : Act) (Kf : (Nat → Value) → World → Prop) : Nat → List Oper → (Nat → Value) → World → Prop
  | _, [], vals, w => Kf vals w
  | i, o :: r, vals, w => ∀ E : Act → World → Prop, (∀ v w', tailP P ops a0 Kf (i + 1) r (upd vals i v) w' → E ((putAll ops vals (waitsOf ops i) a0).put o.dst v) w') → wpList P ops (EndOf E) [o] (putAll ops vals (waitsOf ops i) a0) w
def mergeV (d : Nat) (vs vals : Nat → Value) : Nat → Value := fun j => if j < d then vs j else vals j
theorem mergeV_upd {d i : Nat} (vs vals : Nat → Value) (v : Value) (h : d ≤ i) : mergeV d vs (upd vals i v) = upd (mergeV d vs vals) i v := by
  funext j
  unfold mergeV upd
  by_cases h1 : j = i
  · subst h1
    have : ¬ j < d := by omega
    simp [this]
  · simp [h1]
theorem wp_region_tail {id : Nat} {l : List Oper} {a0 : Act} {w0 : World} {Q : Exit → Act → World → Prop} (C : World → Prop) (d : Nat) (ps : List (Nat × Option Tmp))
    (hm : P.follows .mixedOrders = true) (hok : regionOk l.toArray = true) (hd : d < l.length)
    (hlast : ((List.range l.length).all fun k => decide (k < d) || (((List.range k).all fun i => (deepWaits l.toArray 5 k).contains i) && (k == d || (waitsOf l.toArray k).contains (k - 1)))) = true)
    (hps : ∀ vals, putAll l.toArray vals (List.range l.toArray.size) a0 = puts vals ps a0) (hC : C w0.drew)
    (h : DetL P l.toArray C C a0 (fun Φ => ∀ vals, Φ vals → ∀ w, C w → tailP P l.toArray a0 (fun vals w => Q .normal (puts vals ps a0) w) d (l.drop d) vals w) 0 (l.take d) (fun _ => True)) :
    (Code.region id l.toArray true).wp P Q a0 w0 := by
  obtain ⟨vs, Ψ, k1, _, k3, k4⟩ := detL_all (P := P) (l.take d) 0 (fun _ => True) (fun _ _ _ h => h) ⟨fun _ => undef, trivial⟩ h
  have htl : (l.take d).length = d := by rw [List.length_take]; omega
  rw [htl] at k4
  simp only [Nat.zero_add, htl] at k3 k4
  have hdeep : ∀ k, k < l.length → d ≤ k → ∀ i, i < k → (deepWaits l.toArray 5 k).contains i = true := fun k hk hdk i hi => by
    have h1 := (List.all_eq_true.1 hlast) k (List.mem_range.2 hk)
    simp only [Bool.or_eq_true, decide_eq_true_eq, Bool.and_eq_true] at h1
    rcases h1 with h1 | h1
    · omega
    · exact (List.all_eq_true.1 h1.1) i (List.mem_range.2 hi)
  have hprev : ∀ k, k < l.length → d < k → (waitsOf l.toArray k).contains (k - 1) = true := fun k hk hdk => by
    have h1 := (List.all_eq_true.1 hlast) k (List.mem_range.2 hk)
    simp only [Bool.or_eq_true, decide_eq_true_eq, Bool.and_eq_true, beq_iff_eq] at h1
    rcases h1 with h1 | ⟨_, h1 | h1⟩
    · omega
    · omega
    · exact h1
  let Kf : (Nat → Value) → World → Prop := fun vals w => Q .normal (puts vals ps a0) w
  let kills : Nat → Nat → Bool := fun i k => decide (d ≤ k) && (decide (k < i) || decide (l.length ≤ k))
  refine wp_region_rel (fun _ => True) (fun _ => C) (fun _ i => decide (d ≤ i))
    (fun i vals w => if i < d then vals i = vs i else tailP P l.toArray a0 Kf (i + 1) (l.drop (i + 1)) (mergeV d vs vals) w)
    (fun i w w' => if d ≤ i then True else (C w → C w')) kills hm hok trivial (fun _ => hC) ?_ ?_ ?_ ?_
  · intro _ i hi w w' hS hc
    have hne : ¬ d ≤ i := by simpa using hi
    rw [if_neg hne] at hS
    exact hS hc
  · intro i k hi hik hk hdk vals v w w' _ hF
    by_cases hkd : k < d
    · simp only [hkd, if_true] at hF ⊢
      simp [upd, Ne.symm hik, hF]
    · exfalso
      have hki : ¬ k < i := by
        intro hlt
        have h9 : kills i k = true := by
          have a1 : d ≤ k := by omega
          simp [kills, a1, hlt]
        rw [h9] at hk; cases hk
      have hkl : k < l.length ∨ l.length ≤ k := Nat.lt_or_ge _ _
      rcases hkl with hkl | hkl
      · have := hdeep k hkl (by omega) i (by omega)
        rw [this] at hdk; cases hdk
      · have h9 : kills i k = true := by
          have a1 : d ≤ k := by omega
          simp [kills, a1, hkl]
        rw [h9] at hk; cases hk
  · intro i o ho w vals _ hini hav
    have hil : i < l.length := by have := (Array.getElem?_eq_some_iff.1 ho).1; simpa using this
    have hok1 := okAt hok ho
    by_cases hid : i < d
    · have hcw : C w := hini false (by
        unfold availIni
        rw [List.all_eq_true]
        intro k hk
        have hk' : k < l.length := by simpa using hk
        by_cases hki : k = i
        · simp [hki]
        · by_cases hkd : d ≤ k
          · have := hdeep k hk' hkd i (by omega)
            simp only [this, Bool.or_true]
          · simp [hkd])
      have hvals : ∀ j ∈ waitsOf l.toArray i, vals j = vs j := fun j hj => by
        have hji : j < d := by
          have := hok1.before j hj
          omega
        have h1 : availAt l.toArray kills j i = true := by
          unfold availAt
          simp only [kills, Bool.and_eq_true]
          refine ⟨by simpa using hj, ?_⟩
          rw [List.all_eq_true]
          intro k _
          have : ¬ d ≤ j := by omega
          simp [this]
        have := hav j h1
        dsimp only at this
        rw [if_pos hji] at this
        exact this
      have hcon : putAll l.toArray vals (waitsOf l.toArray i) a0 = putAll l.toArray vs (waitsOf l.toArray i) a0 := putAll_congr _ _ _ _ _ hvals
      have ho2 : (l.take d)[i]? = some o := by rw [List.getElem?_take, if_pos hid]; simpa using ho
      have h3 := k4 i o ho2 vs w hcw (fun _ _ => rfl)
      rw [hcon]
      refine h3 _ fun w' hd' => ?_
      refine ⟨vs i, rfl, ?_, trivial, ?_⟩
      · dsimp only; rw [if_pos hid]; simp [upd]
      · have hcw' : C w' := by
          by_cases he : i + 1 = d
          · rw [if_pos he] at hd'; exact hd'
          · rw [if_neg he] at hd'; exact hd'
        dsimp only
        rw [if_neg (by omega)]
        exact fun _ => hcw'
    · have hget : l.drop i = o :: l.drop (i + 1) := by
        have h1 : l[i]? = some o := by simpa using ho
        have h2 := List.drop_eq_getElem_cons hil
        rw [List.getElem?_eq_getElem hil] at h1
        rw [h2, Option.some.inj h1]
      have hvals : ∀ j ∈ waitsOf l.toArray i, vals j = mergeV d vs vals j := fun j hj => by
        unfold mergeV
        split
        · rename_i hjd
          have h1 : availAt l.toArray kills j i = true := by
            unfold availAt
            simp only [kills, Bool.and_eq_true]
            refine ⟨by simpa using hj, ?_⟩
            rw [List.all_eq_true]
            intro k _
            have : ¬ d ≤ j := by omega
            simp [this]
          have := hav j h1
          dsimp only at this
          rw [if_pos hjd] at this
          exact this
        · rfl
      have hcon : putAll l.toArray vals (waitsOf l.toArray i) a0 = putAll l.toArray (mergeV d vs vals) (waitsOf l.toArray i) a0 := putAll_congr _ _ _ _ _ hvals
      have htail : tailP P l.toArray a0 Kf i (l.drop i) (mergeV d vs vals) w := by
        by_cases he : i = d
        · subst he
          have hcw : C w := hini false (by
            unfold availIni
            rw [List.all_eq_true]
            intro k hk
            have hk' : k < l.length := by simpa using hk
            by_cases hki : k = i
            · simp [hki]
            · by_cases hkd : i ≤ k
              · have := hdeep k hk' hkd i (by omega)
                simp only [this, Bool.or_true]
              · simp [hkd])
          exact k1 _ (k3 _ fun j hj => by simp [mergeV, hj]) w hcw
        · have hav1 : availAt l.toArray kills (i - 1) i = true := by
            unfold availAt
            rw [Bool.and_eq_true]
            refine ⟨hprev i hil (by omega), ?_⟩
            rw [List.all_eq_true]
            intro k hk
            have hk' : k < l.length := by simpa using hk
            by_cases hki : k = i
            · simp [hki]
            · by_cases hki2 : i < k
              · have := hdeep k hk' (by omega) i hki2
                simp only [this, Bool.or_true]
              · have : ¬ i - 1 < k ∨ k = i - 1 := by omega
                rcases this with h1 | h1
                · have h8 : ¬ l.length ≤ i - 1 := by omega
                  simp [kills, h1, h8]
                · simp [h1]
          have := hav (i - 1) hav1
          dsimp only at this
          rw [if_neg (by omega), show i - 1 + 1 = i by omega] at this
          exact this
      rw [hget] at htail
      rw [hcon]
      refine htail _ fun v w' ht => ?_
      refine ⟨v, rfl, ?_, trivial, ?_⟩
      · dsimp only
        rw [if_neg hid, mergeV_upd _ _ _ (by omega)]
        exact ht
      · dsimp only; rw [if_pos (by omega)]; trivial
  · intro w vals _ hF
    have hn1 : l.length - 1 < l.length := by omega
    have halive : aliveAt l.toArray kills (l.length - 1) = true := by
      unfold aliveAt
      rw [List.all_eq_true]
      intro k hk
      have hk' : k < l.length := by simpa using hk
      have : ¬ l.length - 1 < k := by omega
      have h8 : ¬ l.length ≤ l.length - 1 := by omega
      simp [kills, this, h8]
    have h1 := hF (l.length - 1) (by simpa using hn1) halive
    rw [if_neg (by omega), show l.length - 1 + 1 = l.length by omega, List.drop_length] at h1
    have hcon : putAll l.toArray vals (List.range l.toArray.size) a0 = putAll l.toArray (mergeV d vs vals) (List.range l.toArray.size) a0 := putAll_congr _ _ _ _ _ fun j hj => by
      unfold mergeV
      split
      · rename_i hjd
        have hal : aliveAt l.toArray kills j = true := by
          unfold aliveAt
          rw [List.all_eq_true]
          intro k _
          have : ¬ d ≤ j := by omega
          simp [kills, this]
        have := hF j (by simpa using (List.mem_range.1 hj)) hal
        rw [if_pos hjd] at this
        exact this
      · rfl
    rw [hcon, hps]
    exact h1
section
variable {ops : Array Oper} {C D : World → Prop} {a0 : Act} {K : ((Nat → Value) → Prop) → Prop} {i : Nat} {Φ : (Nat → Value) → Prop} {o : Oper}
theorem detStep_plain {v : Value} (ps : List (Nat × Option Tmp)) (hps : ∀ vals, putAll ops vals (waitsOf ops i) a0 = puts vals ps a0) (hg : o.guard = none)
    (h : ∀ vals, Φ vals → ∀ w, C w → ∀ E : Act → World → Prop, (∀ w', D w' → E ((puts vals ps a0).put o.dst v) w') → wpList P #[] (EndOf E) [o] (puts vals ps a0) w) : DetStep P ops C D Φ i a0 o v := by
  intro vals hp w hc E hE
  rw [hps] at hE ⊢
  have h1 := h vals hp w hc E hE
  have hw : ∀ (O : Array Oper) (t : Array Value), Region.wanted o (yielded O t) = true := fun O t => by simp [Region.wanted, hg]
  simp only [wpList, hw, if_true] at h1 ⊢
  exact h1
theorem detStep_yes {v : Value} (ps : List (Nat × Option Tmp)) (hps : ∀ vals, putAll ops vals (waitsOf ops i) a0 = puts vals ps a0) (g : Nat) (t : Tmp) (want : Bool) (hg : o.guard = some (g, want)) (hd : dstAt ops g = some t)
    (hy : ∀ vals, Φ vals → (puts vals ps a0).tmps[t]? = some (.bool want))
    (h : ∀ vals, Φ vals → ∀ w, C w → ∀ E : Act → World → Prop, (∀ w', D w' → E ((puts vals ps a0).put o.dst v) w') → wpList P #[] (EndOf E) [{ o with guard := none }] (puts vals ps a0) w) : DetStep P ops C D Φ i a0 o v := by
  intro vals hp w hc E hE
  rw [hps] at hE ⊢
  have h1 := h vals hp w hc E hE
  have hd' : (ops[g]?).bind (·.dst) = some t := hd
  have hw : Region.wanted o (yielded ops (puts vals ps a0).tmps) = true := by simp [Region.wanted, hg, yielded, hd', hy vals hp]
  have hw' : ∀ (O : Array Oper) (t : Array Value), Region.wanted { o with guard := none } (yielded O t) = true := fun O t => by simp [Region.wanted]
  simp only [wpList, hw, hw', if_true] at h1 ⊢
  have ha : ∀ a w, Oper.asks P { o with guard := none } a w = Oper.asks P o a w := fun a w => rfl
  rw [ha] at h1
  exact h1
theorem detStep_no (ps : List (Nat × Option Tmp)) (hps : ∀ vals, putAll ops vals (waitsOf ops i) a0 = puts vals ps a0) (g : Nat) (t : Tmp) (want : Bool) (hg : o.guard = some (g, want)) (hd : dstAt ops g = some t)
    (hy : ∀ vals, Φ vals → (puts vals ps a0).tmps[t]? = some (.bool !want)) (hCD : ∀ w, C w → D w) : DetStep P ops C D Φ i a0 o undef := by
  intro vals hp w hc E hE
  rw [hps] at hE ⊢
  have hd' : (ops[g]?).bind (·.dst) = some t := hd
  have hw : ¬ Region.wanted o (yielded ops (puts vals ps a0).tmps) = true := by
    simp [Region.wanted, hg, yielded, hd', hy vals hp]
  simp only [wpList, if_neg hw]
  exact ⟨rfl, hE w (hCD w hc)⟩
theorem tail_step {Kf : (Nat → Value) → World → Prop} {r : List Oper} {vals : Nat → Value} {w : World} (ps : List (Nat × Option Tmp)) (hps : ∀ vals, putAll ops vals (waitsOf ops i) a0 = puts vals ps a0) (hg : o.guard = none)
    (h : ∀ E : Act → World → Prop, (∀ v w', tailP P ops a0 Kf (i + 1) r (upd vals i v) w' → E ((puts vals ps a0).put o.dst v) w') → wpList P #[] (EndOf E) [o] (puts vals ps a0) w) : tailP P ops a0 Kf i (o :: r) vals w := by
  intro E hE
  rw [hps] at hE ⊢
  have h1 := h E hE
  have hw : ∀ (O : Array Oper) (t : Array Value), Region.wanted o (yielded O t) = true := fun O t => by simp [Region.wanted, hg]
  simp only [wpList, hw, if_true] at h1 ⊢
  exact h1
theorem tail_end {Kf : (Nat → Value) → World → Prop} {vals : Nat → Value} {w : World} (h : Kf vals w) : tailP P ops a0 Kf i [] vals w := h
theorem upd_self (vals : Nat → Value) (i : Nat) (v : Value) : upd vals i v i = v := if_pos rfl
theorem upd_ne {vals : Nat → Value} {i j : Nat} {v : Value} (h : j ≠ i) : upd vals i v j = vals j := if_neg h
theorem DetL.next {v : Value} {r : Oper} {rest : List Oper} (hs : DetStep P ops C C Φ i a0 o v) (h : DetL P ops C D a0 K (i + 1) (r :: rest) fun vals => Φ vals ∧ vals i = v) : DetL P ops C D a0 K i (o :: r :: rest) Φ := ⟨v, hs, h⟩
theorem DetL.last {v : Value} (hs : DetStep P ops C D Φ i a0 o v) (h : K fun vals => Φ vals ∧ vals i = v) : DetL P ops C D a0 K i [o] Φ := ⟨v, hs, h⟩
end
end
end Go.Proofs.YtoihgnkhalhocaaGreatDoor
/-
  Walk: json's writer: a text.
-/
namespace Go.Proofs.YtoihgnkhalhocaaGreatDoor.Js
set_option linter.unusedSimpArgs false
set_option linter.unusedVariables false
open Go.RowKit
theorem enc_one (n : Nat) (h : n < 128) : Utf8.encode (n : Int) = ⟨#[UInt8.ofNat n]⟩ := by
  have hv : Utf8.valid (n : Int) = true := by rw [validRune_eq]; simp [validRune]; omega
  simp [Utf8.encode, hv, h]
theorem jwT : BT 74 := ⟨by kernel_rfl, by decide⟩
theorem hex_at (n : Nat) (h : n < 16) (h2 : n < (⟨#[48, 49, 50, 51, 52, 53, 54, 55, 56, 57, 97, 98, 99, 100, 101, 102]⟩ : ByteArray).size) : ((⟨#[48, 49, 50, 51, 52, 53, 54, 55, 56, 57, 97, 98, 99, 100, 101, 102]⟩ : ByteArray)[n]'h2) = hexd n := by
  have : n = 0 ∨ n = 1 ∨ n = 2 ∨ n = 3 ∨ n = 4 ∨ n = 5 ∨ n = 6 ∨ n = 7 ∨ n = 8 ∨ n = 9 ∨ n = 10 ∨ n = 11 ∨ n = 12 ∨ n = 13 ∨ n = 14 ∨ n = 15 := by omega
  rcases this with h | h | h | h | h | h | h | h | h | h | h | h | h | h | h | h <;> subst h <;> rfl
theorem cat6 (a b : UInt8) : ((⟨#[92, 117, 48, 48]⟩ : ByteArray) ++ ⟨#[a]⟩ ++ ⟨#[b]⟩).data.toList = [92, 117, 48, 48, a, b] := by
  rw [ByteArray.data_append, ByteArray.data_append]
  rfl
theorem cat2 (a : UInt8) : ((⟨#[92]⟩ : ByteArray) ++ ⟨#[a]⟩).data.toList = [92, a] := by
  rw [ByteArray.data_append]
  rfl
theorem size_of_list {s : ByteArray} {l : Bs} (h : s.data.toList = l) : s.size = l.length := by rw [← h]; rfl
structure StepQ (c L C1 : Bs) (k : Nat) (x : UInt8) : Prop where
  eq : C1 ++ quoteC x = c ++ 34 :: (L.take (k + 1)).flatMap quoteC
theorem quoteC_len (x : UInt8) : 1 ≤ (quoteC x).length := by unfold quoteC; split <;> (try split) <;> simp
theorem quote_len (L : Bs) : L.length ≤ (quote L).length := by
  have h : ∀ L : Bs, L.length ≤ (L.flatMap quoteC).length := fun L => by
    induction L with
    | nil => simp
    | cons x r ih =>
      have := quoteC_len x
      rw [List.flatMap_cons, List.length_append, List.length_cons]
      omega
  have := h L
  simp only [quote, List.length_cons, List.length_append]
  omega
def WB (w0 : World) (B p : Nat) (c : Bs) (w : World) : Prop := IsB w B 74 p c ∧ BK B p w0 w
theorem WB.drew {w0 w : World} {B p : Nat} {c : Bs} (h : WB w0 B p c w) : WB w0 B p c w.drew := ⟨h.1, h.2.drew⟩
theorem WB.next {w0 w w' : World} {B p : Nat} {c c' : Bs} (h : WB w0 B p c w) (h1 : IsB w' B 74 p c') (h2 : BK B p w w') : WB w0 B p c' w' := ⟨h1, h.2.trans h2⟩
set_option maxRecDepth 100000 in
set_option maxHeartbeats 4000000 in
theorem wtext_any (s : ByteArray) (B p : Nat) (c : Bs) (w0 w : World) (hb : WB w0 B p c w) (hl : c.length + (quote s.data.toList).length ≤ 1099511627776) :
    Calls Tryz.prog 66 #[.pointer (some ⟨p, 0, none⟩), .string s] w fun e w' => e = .returned (.tuple #[]) ∧ WB w0 B p (c ++ quote s.data.toList) w' := by
  obtain ⟨L, hL⟩ : ∃ L, L = s.data.toList := ⟨_, rfl⟩
  have hLs : L.length = s.size := by rw [hL]; rfl
  rw [← hL] at hl ⊢
  have hq : (quote L).length = (L.flatMap quoteC).length + 2 := by simp [quote]
  have hs : s.size ≤ 1099511627776 := by have := quote_len L; omega
  have hsz : (s.size : Int) ≤ 1099511627776 := by omega
  have HQ := Lib.hid hl
  have HQ2 := Lib.hid hq
  have HLS := Lib.hid hLs
  have CB := Lib.hid (fun (c : Bs) (x : UInt8) (u : World) (h : IsB u B 74 p c) (h2 : c.length + 1 ≤ 140737488355328) => bld_byte jwT B p c x u h h2)
  have CS := Lib.hid (fun (c : Bs) (x : ByteArray) (u : World) (h : IsB u B 74 p c) (h2 : c.length + x.size ≤ 140737488355328) => bld_str jwT B p c x u h h2)
  have HB := Lib.hid hb
  have HL := Lib.hid hL
  clear hb hl hq hLs hL hs
  unfold byteV at CB
  go_enter Tryz.func66, Tryz.ntmps66
  go_wp2_with fail
  refine calls_then (CB.out c 34 _ HB.out.1 (by have := HQ.out; have := HQ2.out; omega)) ?_
  rintro e w1 ⟨rfl, hb1, hw1⟩
  have HB1 := Lib.hid (HB.out.next hb1 hw1)
  clear hb1 hw1
  go_wp2_with fail
  go_loopw [12] (fun i wr => ∃ k : Nat, k ≤ s.size ∧ i = .int .i64 (k : Int) ∧ WB w0 B p (c ++ 34 :: (L.take k).flatMap quoteC) wr) (fun i _ => s.size - (intOf i).toNat)
  case atStart => exact ⟨0, by omega, rfl, by simpa using HB1.out⟩
  case round =>
    obtain ⟨k, hk, rfl, hwr⟩ := hrel
    have HWR := Lib.hid hwr
    clear hwr
    by_cases hlt : k < s.size
    · have hlt' : (k : Int) < (s.size : Int) := by omega
      have hkL : k < L.length := by have := HLS.out; omega
      have hx : L[k]'hkL = s[k] := by
        have := HL.out
        subst this
        rfl
      obtain ⟨x, hxx⟩ : ∃ x, x = s[k] := ⟨_, rfl⟩
      have HST := StepQ.mk (show (c ++ 34 :: (L.take k).flatMap quoteC) ++ quoteC x = c ++ 34 :: (L.take (k + 1)).flatMap quoteC by
        rw [List.take_succ_eq_append_getElem hkL, List.flatMap_append, hx, hxx]
        simp)
      have HLN := Lib.hid (show (c ++ 34 :: (L.take k).flatMap quoteC).length + 6 ≤ 140737488355328 by
        have h1 := HQ.out
        have h2 := HQ2.out
        have h3 : L.flatMap quoteC = (L.take k).flatMap quoteC ++ (L.drop k).flatMap quoteC := by rw [← List.flatMap_append, List.take_append_drop]
        rw [h3] at h2
        simp at h2 ⊢
        omega)
      obtain ⟨C1, hC1⟩ : ∃ C1, C1 = c ++ 34 :: (L.take k).flatMap quoteC := ⟨_, rfl⟩
      rw [← hC1] at HST HLN HWR
      clear hx hkL hC1
      obtain ⟨n, hn⟩ : ∃ n : Nat, n = x.toNat := ⟨_, rfl⟩
      have hn' : s[k].toNat = n := by rw [hn, hxx]
      have hxn : UInt8.ofNat n = x := by rw [hn]; simp
      have HN := Lib.hid hn
      have HXN := Lib.hid hxn
      have HNL := Lib.hid (show n < 256 by rw [hn]; exact x.toNat_lt)
      clear hn hxn hxx
      by_cases h32 : n < 32
      · have h32' : ((s[k].toNat : Nat) : Int) < 32 := by omega
        have HQC := Lib.hid (show quoteC x = [92, 117, 48, 48, hexd (n / 16), hexd (n % 16)] by
          have : x < 32 := by rw [UInt8.lt_iff_toNat_lt, ← HN.out]; exact h32
          rw [quoteC, if_pos this, ← HN.out])
        have a1 : n / 16 < 16 := by omega
        have a2 : n % 16 < 16 := by omega
        have HH1 := Lib.hid (show (hexd (n / 16)).toNat < 128 by unfold hexd; split <;> simp <;> omega)
        have HH2 := Lib.hid (show (hexd (n % 16)).toNat < 128 by unfold hexd; split <;> simp <;> omega)
        have HC0 := HWR.out.drew
        have d32 : decide ((n : Int) < 32) = true := by rw [decide_eq_true_iff]; omega
        clear HWR
        go_wp2_with fail
        clear h32 h32' hn' d32
        refine wp_region_det (fun u => WB w0 B p C1 u) (fun u => WB w0 B p (C1 ++ quoteC x) u) [(0, some 26), (1, some 27), (2, some 28), (3, some 29), (4, some 30), (5, some 31), (6, some 32), (7, some 33), (8, some 34), (9, some 35), (10, some 36), (11, some 37), (12, some 38), (13, some 39)] (by kernel_rfl) (by kernel_rfl) (by decide) (by kernel_rfl) (fun _ => rfl) HC0 ?_
        apply DetL.next
        · -- 0: Op.move (Operand.tmp 0)
          apply detStep_plain []
          exact fun _ => rfl
          rfl
          rintro vals - w1 hC1 E hE
          simp only [puts, act_put, act_put_none, List.setIfInBounds_toArray, List.set_cons_zero, List.set_cons_succ] at hE ⊢
          go_wp2
          exact .mk (hE _ hC1)
        apply DetL.next
        · -- 1: Op.nilCheck (Operand.tmp 26)
          apply detStep_plain [(0, some 26)]
          exact fun _ => rfl
          rfl
          rintro vals ⟨-, f0⟩ w1 hC1 E hE
          simp only [puts, act_put, act_put_none, List.setIfInBounds_toArray, List.set_cons_zero, List.set_cons_succ, f0] at hE ⊢
          clear f0
          go_wp2
          exact .mk (hE _ hC1)
        apply DetL.next
        · -- 2: Op.fieldAddr 74 (Operand.tmp 27) 0
          apply detStep_plain [(1, some 27)]
          exact fun _ => rfl
          rfl
          rintro vals ⟨⟨-, -⟩, f1⟩ w1 hC1 E hE
          simp only [puts, act_put, act_put_none, List.setIfInBounds_toArray, List.set_cons_zero, List.set_cons_succ, f1] at hE ⊢
          clear f1
          go_wp2
          exact .mk (hE _ hC1)
        apply DetL.next
        · -- 3: Op.move (Operand.tmp 5)
          apply detStep_plain []
          exact fun _ => rfl
          rfl
          rintro vals ⟨⟨⟨-, -⟩, -⟩, -⟩ w1 hC1 E hE
          simp only [puts, act_put, act_put_none, List.setIfInBounds_toArray, List.set_cons_zero, List.set_cons_succ] at hE ⊢
          go_wp2
          exact .mk (hE _ hC1)
        apply DetL.next (v := .int .u8 ((n / 16 : Nat) : Int))
        · -- 4: Op.binOp BinOp.shr 5 (Operand.tmp 29) (Operand.const (Value.int IntKind.u64 4)) 94
          apply detStep_plain [(3, some 29)]
          exact fun _ => rfl
          rfl
          rintro vals ⟨⟨⟨⟨-, -⟩, -⟩, -⟩, f3⟩ w1 hC1 E hE
          simp only [puts, act_put, act_put_none, List.setIfInBounds_toArray, List.set_cons_zero, List.set_cons_succ, f3] at hE ⊢
          clear f3
          go_wp2
          exact .mk (hE _ hC1)
        apply DetL.next
        · -- 5: Op.index 9 (Operand.const (Value.string { data := #[48, 49, 50, 51, 52, 53, 54, 55, 56, 57, 97, 98, 99, 100, 1
          apply detStep_plain [(4, some 30)]
          exact fun _ => rfl
          rfl
          rintro vals ⟨⟨⟨⟨⟨-, -⟩, -⟩, -⟩, -⟩, f4⟩ w1 hC1 E hE
          simp only [puts, act_put, act_put_none, List.setIfInBounds_toArray, List.set_cons_zero, List.set_cons_succ, f4] at hE ⊢
          clear f4
          go_wp2
          rw [hex_at (n / 16) a1]
          exact .mk (hE _ hC1)
        apply DetL.next
        · -- 6: Op.convert 5 9 (Operand.tmp 31)
          apply detStep_plain [(5, some 31)]
          exact fun _ => rfl
          rfl
          rintro vals ⟨⟨⟨⟨⟨⟨-, -⟩, -⟩, -⟩, -⟩, -⟩, f5⟩ w1 hC1 E hE
          simp only [puts, act_put, act_put_none, List.setIfInBounds_toArray, List.set_cons_zero, List.set_cons_succ, f5] at hE ⊢
          clear f5
          go_wp2
          rw [enc_one _ HH1.out]
          exact .mk (hE _ hC1)
        apply DetL.next
        · -- 7: Op.binOp BinOp.add 9 (Operand.const (Value.string { data := #[92, 117, 48, 48] })) (Operand.tmp 32) 9
          apply detStep_plain [(6, some 32)]
          exact fun _ => rfl
          rfl
          rintro vals ⟨⟨⟨⟨⟨⟨⟨-, -⟩, -⟩, -⟩, -⟩, -⟩, -⟩, f6⟩ w1 hC1 E hE
          simp only [puts, act_put, act_put_none, List.setIfInBounds_toArray, List.set_cons_zero, List.set_cons_succ, f6] at hE ⊢
          clear f6
          go_wp2
          exact .mk (hE _ hC1)
        apply DetL.next
        · -- 8: Op.move (Operand.tmp 5)
          apply detStep_plain []
          exact fun _ => rfl
          rfl
          rintro vals ⟨⟨⟨⟨⟨⟨⟨⟨-, -⟩, -⟩, -⟩, -⟩, -⟩, -⟩, -⟩, -⟩ w1 hC1 E hE
          simp only [puts, act_put, act_put_none, List.setIfInBounds_toArray, List.set_cons_zero, List.set_cons_succ] at hE ⊢
          go_wp2
          exact .mk (hE _ hC1)
        apply DetL.next (v := .int .u8 ((n % 16 : Nat) : Int))
        · -- 9: Op.binOp BinOp.and 5 (Operand.tmp 34) (Operand.const (Value.int IntKind.u8 15)) 5
          apply detStep_plain [(8, some 34)]
          exact fun _ => rfl
          rfl
          rintro vals ⟨⟨⟨⟨⟨⟨⟨⟨⟨-, -⟩, -⟩, -⟩, -⟩, -⟩, -⟩, -⟩, -⟩, f8⟩ w1 hC1 E hE
          simp only [puts, act_put, act_put_none, List.setIfInBounds_toArray, List.set_cons_zero, List.set_cons_succ, f8] at hE ⊢
          clear f8
          go_wp2
          exact .mk (hE _ hC1)
        apply DetL.next
        · -- 10: Op.index 9 (Operand.const (Value.string { data := #[48, 49, 50, 51, 52, 53, 54, 55, 56, 57, 97, 98, 99, 100, 1
          apply detStep_plain [(9, some 35)]
          exact fun _ => rfl
          rfl
          rintro vals ⟨⟨⟨⟨⟨⟨⟨⟨⟨⟨-, -⟩, -⟩, -⟩, -⟩, -⟩, -⟩, -⟩, -⟩, -⟩, f9⟩ w1 hC1 E hE
          simp only [puts, act_put, act_put_none, List.setIfInBounds_toArray, List.set_cons_zero, List.set_cons_succ, f9] at hE ⊢
          clear f9
          go_wp2
          rw [hex_at (n % 16) a2]
          exact .mk (hE _ hC1)
        apply DetL.next
        · -- 11: Op.convert 5 9 (Operand.tmp 36)
          apply detStep_plain [(10, some 36)]
          exact fun _ => rfl
          rfl
          rintro vals ⟨⟨⟨⟨⟨⟨⟨⟨⟨⟨⟨-, -⟩, -⟩, -⟩, -⟩, -⟩, -⟩, -⟩, -⟩, -⟩, -⟩, f10⟩ w1 hC1 E hE
          simp only [puts, act_put, act_put_none, List.setIfInBounds_toArray, List.set_cons_zero, List.set_cons_succ, f10] at hE ⊢
          clear f10
          go_wp2
          rw [enc_one _ HH2.out]
          exact .mk (hE _ hC1)
        apply DetL.next
        · -- 12: Op.binOp BinOp.add 9 (Operand.tmp 33) (Operand.tmp 37) 9
          apply detStep_plain [(7, some 33), (11, some 37)]
          exact fun _ => rfl
          rfl
          rintro vals ⟨⟨⟨⟨⟨⟨⟨⟨⟨⟨⟨⟨-, -⟩, -⟩, -⟩, -⟩, -⟩, -⟩, -⟩, f7⟩, -⟩, -⟩, -⟩, f11⟩ w1 hC1 E hE
          simp only [puts, act_put, act_put_none, List.setIfInBounds_toArray, List.set_cons_zero, List.set_cons_succ, f7, f11] at hE ⊢
          clear f7 f11
          go_wp2
          exact .mk (hE _ hC1)
        apply DetL.last
        · -- 13: Op.call { callee := Callee.value (Operand.func 64), args := #[Operand.tmp 28, Operand.tmp 38], argTypes := #[7
          apply detStep_plain [(2, some 28), (12, some 38)]
          exact fun _ => rfl
          rfl
          rintro vals ⟨⟨⟨⟨⟨⟨⟨⟨⟨⟨⟨⟨⟨-, -⟩, -⟩, f2⟩, -⟩, -⟩, -⟩, -⟩, -⟩, -⟩, -⟩, -⟩, -⟩, f12⟩ w1 hC1 E hE
          simp only [puts, act_put, act_put_none, List.setIfInBounds_toArray, List.set_cons_zero, List.set_cons_succ, f2, f12] at hE ⊢
          clear f2 f12
          go_wp2_with fail
          refine calls_then (CS.out _ _ _ hC1.1 (by rw [size_of_list (cat6 _ _)]; exact HLN.out)) ?_
          rintro e w2 ⟨rfl, hb2, hw2⟩
          go_wp2_with fail
          exact .mk (hE _ (by have h := hC1.next hb2 hw2; rw [cat6] at h; rw [HQC.out]; exact h))
        rintro vals ⟨⟨⟨⟨⟨⟨⟨⟨⟨⟨⟨⟨⟨⟨-, f0⟩, f1⟩, f2⟩, f3⟩, f4⟩, f5⟩, f6⟩, f7⟩, f8⟩, f9⟩, f10⟩, f11⟩, f12⟩, f13⟩ w1 hC1
        simp only [puts, act_put, act_put_none, List.setIfInBounds_toArray, List.set_cons_zero, List.set_cons_succ, f0, f1, f2, f3, f4, f5, f6, f7, f8, f9, f10, f11, f12, f13]
        clear f0 f1 f2 f3 f4 f5 f6 f7 f8 f9 f10 f11 f12 f13
        have HR := Lib.hid hC1
        clear hC1 HC0
        go_wp2_with fail
        go_roundw
        case rel => exact ⟨k + 1, by omega, by go_num, by rw [← HST.eq]; exact HR.out⟩
        case measure => simp [intOf]; omega
      · obtain ⟨z, hz⟩ : ∃ z : Int, ((s[k].toNat : Nat) : Int) = z := ⟨_, rfl⟩
        have HZ := Lib.hid (show z = (n : Int) by rw [← hz, hn'])
        have hz32 : ¬ z < 32 := by have := HZ.out; omega
        by_cases hq : z = 34 ∨ z = 92
        · have HX := Lib.hid (show z = ((x.toNat : Nat) : Int) by rw [HZ.out, HN.out])
          have HQC : ∃ y : UInt8, y.toNat < 128 ∧ z = ((y.toNat : Nat) : Int) ∧ quoteC x = [92, y] := by
            have h2 := HX.out
            refine ⟨x, by omega, h2, ?_⟩
            have h3 : ¬ x < 32 := by rw [UInt8.lt_iff_toNat_lt]; show ¬ x.toNat < 32; omega
            have h4 : x = 34 ∨ x = 92 := by
              rcases hq with h | h
              · exact .inl (UInt8.toNat.inj (by show x.toNat = 34; omega))
              · exact .inr (UInt8.toNat.inj (by show x.toNat = 92; omega))
            rw [quoteC, if_neg h3, if_pos h4]
          obtain ⟨y, hy1, hy2, hy3⟩ := HQC
          have HE := Lib.hid (show Utf8.encode z = ⟨#[y]⟩ by rw [hy2, enc_one _ hy1]; simp)
          have HY := Lib.hid hy3
          have e3 : (z == 34 || z == 92) = true := by rcases hq with h | h <;> simp [h]
          clear hn' h32 hy1 hy2 hy3
          rcases hq with rfl | rfl
          · clear hz32 e3
            go_wp2_with fail
            rw [HE.out]
            refine calls_then (CS.out C1 _ _ HWR.out.1 (by rw [size_of_list (cat2 _)]; have := HLN.out; simp; omega)) ?_
            rintro e w2 ⟨rfl, hb2, hw2⟩
            have HB2 := Lib.hid (HWR.out.next hb2 hw2)
            clear hb2 hw2
            go_wp2_with fail
            go_roundw
            case rel => exact ⟨k + 1, by omega, by go_num, by rw [← HST.eq, HY.out]; have h := HB2.out; rw [cat2] at h; exact h⟩
            case measure => simp [intOf]; omega
          · clear hz32 e3
            go_wp2_with fail
            rw [HE.out]
            refine calls_then (CS.out C1 _ _ HWR.out.1 (by rw [size_of_list (cat2 _)]; have := HLN.out; simp; omega)) ?_
            rintro e w2 ⟨rfl, hb2, hw2⟩
            have HB2 := Lib.hid (HWR.out.next hb2 hw2)
            clear hb2 hw2
            go_wp2_with fail
            go_roundw
            case rel => exact ⟨k + 1, by omega, by go_num, by rw [← HST.eq, HY.out]; have h := HB2.out; rw [cat2] at h; exact h⟩
            case measure => simp [intOf]; omega
        · have e34 : (z == 34) = false := by simpa using fun h => hq (.inl h)
          have e92 : (z == 92) = false := by simpa using fun h => hq (.inr h)
          have HQC := Lib.hid (show quoteC x = [x] by
            have h1 := HN.out
            have h2 := HZ.out
            have h3 : ¬ x < 32 := by rw [UInt8.lt_iff_toNat_lt]; show ¬ x.toNat < 32; omega
            have h4 : ¬ (x = 34 ∨ x = 92) := by
              rintro (rfl | rfl)
              · exact hq (.inl (by rw [h2, h1]; rfl))
              · exact hq (.inr (by rw [h2, h1]; rfl))
            rw [quoteC, if_neg h3, if_neg h4])
          clear hq hn' h32
          go_wp2_with fail
          rw [show z = ((x.toNat : Nat) : Int) by rw [HZ.out, HN.out]]
          refine calls_then (CB.out C1 x _ HWR.out.1 (by have := HLN.out; omega)) ?_
          rintro e w2 ⟨rfl, hb2, hw2⟩
          have HB2 := Lib.hid (HWR.out.next hb2 hw2)
          clear hb2 hw2
          go_wp2_with fail
          go_roundw
          case rel => exact ⟨k + 1, by omega, by go_num, by rw [← HST.eq, HQC.out]; exact HB2.out⟩
          case measure => simp [intOf]; omega
    · obtain rfl : k = s.size := by omega
      have HE := Lib.hid (show L.take s.size = L by rw [← HLS.out, List.take_length])
      have HLN := Lib.hid (show (c ++ 34 :: (L.take s.size).flatMap quoteC).length + 1 ≤ 140737488355328 by
        have h1 := HQ.out
        have h2 := HQ2.out
        rw [HE.out]
        simp at h2 ⊢
        omega)
      go_wp2_with fail
      refine calls_then (CB.out _ 34 _ HWR.out.1 HLN.out) ?_
      rintro e w2 ⟨rfl, hb2, hw2⟩
      have HB2 := Lib.hid (HWR.out.next hb2 hw2)
      clear hb2 hw2
      go_wp2_with fail
      go_end0
      refine ⟨rfl, ?_⟩
      have h := HB2.out
      rw [HE.out] at h
      simpa [quote] using h
end Go.Proofs.YtoihgnkhalhocaaGreatDoor.Js
/-
  Walk: json's writer: a number.
-/
namespace Go.Proofs.YtoihgnkhalhocaaGreatDoor.Js
set_option linter.unusedSimpArgs false
set_option linter.unusedVariables false
open Go.RowKit
theorem isB_kept {w w' : World} {B g p : Nat} {T : TypeId} {l : Bs} (h : IsB w B T p l) (hg : w.grownBy w' (some g)) (hlt : w.heap.size ≤ g) : IsB w' B T p l := by
  obtain ⟨h1, self, A, c, h2, h3, h4⟩ := h
  exact ⟨h1, self, A, c, h2, h3.grown hg (by intro e; injection e with e; have := h3.lt; omega), h4.kept hg (.inr (fun e => by have := (h4.lt g e).2; omega))⟩
structure DigS (N j m : Nat) (suf : Bs) : Prop where
  eq : digB 16 N = digB (16 - j) m ++ suf
  len : suf.length = j
  lt : m < 10 ^ (16 - j)
  j16 : j < 16
theorem DigS.start {N : Nat} (h : N < 10 ^ 16) : DigS N 0 N [] := ⟨by simp, rfl, h, by decide⟩
theorem DigS.last {N j m : Nat} {suf : Bs} (h : DigS N j m suf) (hm : m < 10) : digB 16 N = dg m :: suf := by
  obtain ⟨k, hk⟩ : ∃ k, 16 - j = k + 1 := ⟨15 - j, by have := h.j16; omega⟩
  have e0 : digB (k + 1) m = [dg m] := by rw [digB, if_pos hm]
  rw [h.eq, hk, e0]
  rfl
theorem DigS.next {N j m : Nat} {suf : Bs} (h : DigS N j m suf) (hm : ¬ m < 10) : DigS N (j + 1) (m / 10) (dg (m % 10) :: suf) := by
  obtain ⟨k, hk⟩ : ∃ k, 16 - j = k + 1 := ⟨15 - j, by have := h.j16; omega⟩
  have h1 := h.eq
  have h2 := h.lt
  rw [hk] at h1 h2
  rw [show digB (k + 1) m = digB k (m / 10) ++ [dg (m % 10)] by rw [digB, if_neg hm]] at h1
  rw [Nat.pow_succ] at h2
  have e : 16 - (j + 1) = k := by omega
  have h3 : m / 10 < 10 ^ k := Nat.div_lt_of_lt_mul (by omega)
  refine ⟨by rw [e, h1]; simp, by simp [h.len], by rw [e]; exact h3, ?_⟩
  rcases Nat.eq_zero_or_pos k with rfl | h4
  · simp at h3; omega
  · omega
theorem rd_tail {w : World} {g a : Nat} {t : TypeId} {cs : List Value} {l : Bs} (h : Blk w g t cs.toArray) (hd : cs.drop a = bytesV l) : Rd w (g + 1) (some ⟨g, a, none⟩) (bytesV l) := fun i u hu => by
  refine ⟨_, rfl, Nat.lt_succ_self g, ?_⟩
  rw [← hd, List.getElem?_drop] at hu
  have e : (⟨g, a, none⟩ : Addr).add i = ⟨g, a + i, none⟩ := by
    unfold Addr.add
    by_cases h2 : i = 0 <;> simp [h2]
  rw [e, h.cell]
  simpa using hu
theorem slice16 (g a : Nat) (h : a < 16) (w : World) : (Instr.sliceAt 146 (.pointer (some ⟨g, 0, none⟩)) (some (.int .i64 a)) none none).run Tryz.prog w = .ok (.slice (some ((⟨g, 0, none⟩ : Addr).add a)) (16 - a) (16 - a)) w := by
  have e1 : Tryz.prog.arrayLen 146 = 16 := by kernel_rfl
  have e2 : Tryz.prog.elem 146 = 5 := by kernel_rfl
  have hs : (Tryz.prog.info? 5).map (·.size) = some 1 := by kernel_rfl
  rw [run_sliceAt_array_l w 146 ⟨g, 0, none⟩ (by rw [e1, e2]; exact Tryz.underlying146) .i64 a (by omega) (by rw [e1]; omega), e1, e2]
  cases hq : Tryz.prog.info? 5 with
  | none => simp [hq] at hs
  | some j =>
    have hj : j.size = 1 := by simpa [hq] using hs
    have : ¬ 16 = a := by omega
    simp [sizeOf, typeInfo, hq, hj, slicedAt, this, Result.andThen]
set_option maxRecDepth 100000 in
set_option maxHeartbeats 4000000 in
theorem wnum_any (n : Int) (hn1 : -1000000000000000 ≤ n) (hn2 : n ≤ 1000000000000000) (B p : Nat) (c : Bs) (w0 w : World) (hb : WB w0 B p c w) (hl : c.length + (intB n).length ≤ 1099511627776) :
    Calls Tryz.prog 65 #[.pointer (some ⟨p, 0, none⟩), .int .i64 n] w fun e w' => e = .returned (.tuple #[]) ∧ WB w0 B p (c ++ intB n) w' := by
  obtain ⟨N, hN⟩ : ∃ N, N = n.natAbs := ⟨_, rfl⟩
  obtain ⟨c1, hc1⟩ : ∃ c1, c1 = c ++ (if n < 0 then [45] else []) := ⟨_, rfl⟩
  have hall : c ++ intB n = c1 ++ digB 16 N := by
    rw [hc1, hN, intB]
    split <;> simp
  have hdl : (digB 16 N).length ≤ 16 := (digB_ok 16 N (by omega)).2.2.1
  have hcl : c1.length + 16 ≤ 140737488355328 := by
    have : (c ++ intB n).length ≤ 1099511627776 := by simpa using hl
    rw [hc1]
    simp at this ⊢
    split <;> simp <;> omega
  rw [hall]
  have CB := Lib.hid (fun (c : Bs) (x : UInt8) (u : World) (h : IsB u B 74 p c) (h2 : c.length + 1 ≤ 140737488355328) => bld_byte jwT B p c x u h h2)
  have HB := Lib.hid hb
  have HN := Lib.hid hN
  have HCL := Lib.hid hcl
  have HDL := Lib.hid hdl
  have HC1 := Lib.hid hc1
  have HNB := Lib.hid (show N < 10 ^ 16 by omega)
  have HCC := Lib.hid (show c.length + 1 ≤ 140737488355328 by omega)
  have HR1 := Lib.hid hn1
  have HR2 := Lib.hid hn2
  unfold byteV at CB
  clear hb hN hc1 hall hdl hcl hl hn1 hn2
  go_enter Tryz.func65, Tryz.ntmps65
  go_upto_if 7 with (fail)
  go_cut [1] (fun x wr => x = .int .i64 (N : Int) ∧ WB w0 B p c1 wr)
  case first =>
    by_cases h0 : n < 0
    · have d0 : decide (n < 0) = true := by simpa using h0
      go_wp2_with fail
      refine calls_then (CB.out c 45 _ HB.out.1 HCC.out) ?_
      rintro e w1 ⟨rfl, hb1, hw1⟩
      have HB1 := Lib.hid (HB.out.next hb1 hw1)
      clear hb1 hw1
      have hr : -n < 9223372036854775808 := by have := HR1.out; omega
      go_wp2_with fail
      go_meet
      exact ⟨by rw [HN.out]; congr 1; omega, by rw [HC1.out, if_pos h0]; exact HB1.out⟩
    · have d0 : decide (n < 0) = false := by simpa using h0
      go_wp2_with fail
      go_meet
      exact ⟨by rw [HN.out]; congr 1; omega, by rw [HC1.out, if_neg (by omega), List.append_nil]; exact HB.out⟩
  case rest =>
  obtain ⟨rfl, hwx⟩ := hcut
  have HWC := Lib.hid hwx
  clear hwx
  go_wp2_with fail
  go_loopw [1, 5] (fun x a wr => ∃ (j m : Nat) (suf : Bs) (cs : List Value), DigS N j m suf ∧ x = .int .i64 (m : Int) ∧ a = .int .i64 ((16 - j : Nat) : Int) ∧ Blk wr wc.heap.size 146 cs.toArray ∧ cs.length = 16 ∧ cs.drop (16 - j) = bytesV suf ∧ wc.grownBy wr (some wc.heap.size)) (fun _ a _ => (intOf a).toNat)
  case atStart => exact ⟨0, N, [], List.replicate 16 (.int .u8 0), DigS.start HNB.out, rfl, rfl, Blk.new _ _ _, rfl, rfl, grown_alloc (World.grownBy.refl _ _) _⟩
  case round =>
    obtain ⟨j, m, suf, cs, hd, rfl, rfl, hk, hcs, hsuf, hgr⟩ := hrel
    have hj := hd.j16
    obtain ⟨a, ha⟩ : ∃ a, a = 15 - j := ⟨_, rfl⟩
    have e1 : (16 - j : Nat) = a + 1 := by omega
    rw [e1]
    have ha' : (a : Int) < 16 := by omega
    have hm0 : (0 : Int) ≤ (m : Int) := by omega
    have hr0 : (0 : Int) ≤ (m : Int) % 10 := by omega
    have hr1 : (m : Int) % 10 < 10 := by omega
    have HK := Lib.hid hk
    have HD := Lib.hid hd
    have HCS := Lib.hid hcs
    have HSUF := Lib.hid hsuf
    have HGR := Lib.hid hgr
    have HA := Lib.hid ha
    obtain ⟨q, hq⟩ : ∃ q, q = m / 10 := ⟨_, rfl⟩
    have hwq : wrap64 ((m : Int) / 10) = (q : Int) := by
      have h1 := hd.lt
      have h2 : 10 ^ (16 - j) ≤ 10 ^ 16 := Nat.pow_le_pow_right (by decide) (by omega)
      rw [show wrap64 ((m : Int) / 10) = (m : Int) / 10 by unfold wrap64; omega, hq]
      omega
    have HQ := Lib.hid hq
    obtain ⟨y, hy⟩ : ∃ y, y = dg (m % 10) := ⟨_, rfl⟩
    have HY := Lib.hid hy
    have HYV := Lib.hid (show Value.int IntKind.u8 (48 + (m : Int) % 10) = byteV y by
      have h1 : m % 10 < 10 := by omega
      have h2 := (dig_of h1).2
      have h3 : (dg (m % 10)).toNat = 48 + m % 10 := by
        unfold dg
        rw [UInt8.toNat_ofNat']
        omega
      unfold byteV
      rw [hy, h3]
      congr 1)
    have HCU := Lib.hid (show ∀ v, (cs.set a v).drop a = v :: cs.drop (a + 1) from fun v => by
      rw [List.set_eq_take_append_cons_drop, if_pos (by omega), List.drop_left' (by rw [List.length_take]; omega)])
    clear hk hd hcs hsuf hgr ha e1 hq hy
    by_cases hz : q = 0
    · have hz' : ((q : Int) == 0) = true := by simp [hz]
      have HZ := Lib.hid hz
      clear hz
      go_wp2_with (refine wpList_put_cell (x := .tmp 21) (i := a) HK.out rfl rfl rfl rfl (by kernel_rfl) (by rw [List.size_toArray, HCS.out]; omega) rfl ?_; intro w5 hb5 hw5)
      have hg5 := HGR.out.trans hw5.grown
      have hwb := HWC.out
      have HW5 := Lib.hid (show WB w0 B p c1 w5 from ⟨isB_kept hwb.1 hg5 (Nat.le_refl _), hwb.2.trans (.fresh hg5 (Nat.le_refl _) (by have := hwb.1.lt; omega))⟩)
      have HB5 := Lib.hid (show Blk w5 wc.heap.size 146 (cs.set a (byteV y)).toArray by rw [← HYV.out, ← List.setIfInBounds_toArray]; exact hb5)
      have HDR := Lib.hid (show (cs.set a (byteV y)).drop a = bytesV (y :: suf) by
        have h1 := HA.out
        have h2 := HD.out.j16
        rw [HCU.out, show a + 1 = 16 - j by omega, HSUF.out]
        rfl)
      have HEND := Lib.hid (show digB 16 N = y :: suf by
        have h1 := HQ.out
        have h2 := HZ.out
        have h3 : m < 10 := by omega
        rw [HD.out.last h3, HY.out, Nat.mod_eq_of_lt h3])
      have HLN := Lib.hid (show (y :: suf).length = 16 - a by
        have h1 := HA.out
        have h2 := HD.out.j16
        have h3 := HD.out.len
        simp
        omega)
      have HGP := Lib.hid (show wc.heap.size ≠ p by have := hwb.1.lt; omega)
      have HAL := Lib.hid (show a < 16 by omega)
      clear hb5 hw5 hg5 hwb
      have HC0 : WB w0 B p c1 w5.drew ∧ Blk w5.drew wc.heap.size 146 (cs.set a (byteV y)).toArray := ⟨HW5.out.drew, HB5.out⟩
      clear hwq hz'
      refine wp_region_det (fun u => WB w0 B p c1 u ∧ Blk u wc.heap.size 146 (cs.set a (byteV y)).toArray) (fun u => WB w0 B p (c1 ++ (y :: suf)) u) [(0, some 26), (1, some 27), (2, some 28), (3, some 29), (4, some 30), (5, some 31)] (by kernel_rfl) (by kernel_rfl) (by decide) (by kernel_rfl) (fun _ => rfl) HC0 ?_
      apply DetL.next
      · -- 0: Op.move (Operand.tmp 0)
        apply detStep_plain []
        exact fun _ => rfl
        rfl
        rintro vals - w1 hC1 E hE
        simp only [puts, act_put, act_put_none, List.setIfInBounds_toArray, List.set_cons_zero, List.set_cons_succ] at hE ⊢
        go_wp2
        exact .mk (hE _ hC1)
      apply DetL.next
      · -- 1: Op.nilCheck (Operand.tmp 26)
        apply detStep_plain [(0, some 26)]
        exact fun _ => rfl
        rfl
        rintro vals ⟨-, f0⟩ w1 hC1 E hE
        simp only [puts, act_put, act_put_none, List.setIfInBounds_toArray, List.set_cons_zero, List.set_cons_succ, f0] at hE ⊢
        clear f0
        go_wp2
        exact .mk (hE _ hC1)
      apply DetL.next
      · -- 2: Op.fieldAddr 74 (Operand.tmp 27) 0
        apply detStep_plain [(1, some 27)]
        exact fun _ => rfl
        rfl
        rintro vals ⟨⟨-, -⟩, f1⟩ w1 hC1 E hE
        simp only [puts, act_put, act_put_none, List.setIfInBounds_toArray, List.set_cons_zero, List.set_cons_succ, f1] at hE ⊢
        clear f1
        go_wp2
        exact .mk (hE _ hC1)
      apply DetL.next
      · -- 3: Op.move (Operand.tmp 5)
        apply detStep_plain []
        exact fun _ => rfl
        rfl
        rintro vals ⟨⟨⟨-, -⟩, -⟩, -⟩ w1 hC1 E hE
        simp only [puts, act_put, act_put_none, List.setIfInBounds_toArray, List.set_cons_zero, List.set_cons_succ] at hE ⊢
        go_wp2
        exact .mk (hE _ hC1)
      apply DetL.next
      · -- 4: Op.slice 146 (Operand.tmp 4) (some (Operand.tmp 29)) none none
        apply detStep_plain [(3, some 29)]
        exact fun _ => rfl
        rfl
        rintro vals ⟨⟨⟨⟨-, -⟩, -⟩, -⟩, f3⟩ w1 hC1 E hE
        simp only [puts, act_put, act_put_none, List.setIfInBounds_toArray, List.set_cons_zero, List.set_cons_succ, f3] at hE ⊢
        clear f3
        have hsl := slice16 wc.heap.size a HAL.out w1
        go_wp2
        exact .mk (hE _ hC1)
      apply DetL.last
      · -- 5: Op.call { callee := Callee.value (Operand.func 99), args := #[Operand.tmp 28, Operand.tmp 30], argTypes := #[7
        apply detStep_plain [(2, some 28), (4, some 30)]
        exact fun _ => rfl
        rfl
        rintro vals ⟨⟨⟨⟨⟨-, -⟩, -⟩, f2⟩, -⟩, f4⟩ w1 hC1 E hE
        simp only [puts, act_put, act_put_none, List.setIfInBounds_toArray, List.set_cons_zero, List.set_cons_succ, f2, f4] at hE ⊢
        clear f2 f4
        go_wp2_with fail
        refine calls_then (bld_write jwT B p (wc.heap.size + 1) (16 - a) (16 - a) _ c1 (y :: suf) _ hC1.1.1 (rd_tail hC1.2 HDR.out) (fun ad h => by injection h with h; rw [← h]; exact HGP.out) HLN.out (by have := HCL.out; omega)) ?_
        rintro e w2 ⟨rfl, hb2, hw2⟩
        go_wp2_with fail
        exact .mk (hE _ (hC1.1.next hb2 hw2))
      rintro vals ⟨⟨⟨⟨⟨⟨-, f0⟩, f1⟩, f2⟩, f3⟩, f4⟩, f5⟩ w1 hC1
      simp only [puts, act_put, act_put_none, List.setIfInBounds_toArray, List.set_cons_zero, List.set_cons_succ, f0, f1, f2, f3, f4, f5]
      clear f0 f1 f2 f3 f4 f5
      have HR := Lib.hid hC1
      clear hC1 HC0
      go_wp2_with fail
      go_end0
      exact ⟨rfl, by rw [HEND.out]; exact HR.out⟩
    · have hz' : ((q : Int) == 0) = false := by simpa using hz
      have HZ := Lib.hid hz
      clear hz
      go_wp2_with (refine wpList_put_cell (x := .tmp 21) (i := a) HK.out rfl rfl rfl rfl (by kernel_rfl) (by rw [List.size_toArray, HCS.out]; omega) rfl ?_; intro w5 hb5 hw5)
      refine ⟨⟨j + 1, q, y :: suf, cs.set a (byteV y), ?_, by rw [hwq], ?_, ?_, by rw [List.length_set]; exact HCS.out, ?_, HGR.out.trans hw5.grown⟩, by simp [intOf]⟩
      · have h1 := HQ.out
        have h2 := HZ.out
        rw [HQ.out, HY.out]
        exact HD.out.next (by omega)
      · have h1 := HA.out
        congr 2
        omega
      · rw [← HYV.out, ← List.setIfInBounds_toArray]
        exact hb5
      · have h1 := HA.out
        have h2 := HD.out.j16
        rw [show 16 - (j + 1) = a by omega, HCU.out, show a + 1 = 16 - j by omega, HSUF.out]
        rfl
end Go.Proofs.YtoihgnkhalhocaaGreatDoor.Js
/-
  Regions that draw their order: operations that give one value each (some of them pure), and a tail of operations, one behind the other, that may turn on the world.
-/
namespace Go.Proofs.YtoihgnkhalhocaaGreatDoor
set_option linter.unusedSimpArgs false
set_option linter.unusedVariables false
section
variable {P : Program}
def DetStepQ (P : Program) (ops : Array Oper) (C : World → Prop) (p : Bool) (Φ : (Nat → Value) → Prop) (i : Nat) (a0 : Act) (o : Oper) (v : Value) : Prop :=
  ∀ vals, Φ vals → ∀ w, (p = false → C w) → ∀ E : Act → World → Prop, (∀ w', (if p = true then w' = w else C w') → E ((putAll ops vals (waitsOf ops i) a0).put o.dst v) w') → wpList P ops (EndOf E) [o] (putAll ops vals (waitsOf ops i) a0) w
def DetQ (P : Program) (ops : Array Oper) (C : World → Prop) (pu : Nat → Bool) (a0 : Act) (K : ((Nat → Value) → Prop) → Prop) : Nat → List Oper → ((Nat → Value) → Prop) → Prop
  | _, [], Φ => K Φ
  | i, o :: rest, Φ => ∃ v, DetStepQ P ops C (pu i) Φ i a0 o v ∧ DetQ P ops C pu a0 K (i + 1) rest fun vals => Φ vals ∧ vals i = v
theorem detQ_all {ops : Array Oper} {C : World → Prop} {pu : Nat → Bool} {a0 : Act} {K : ((Nat → Value) → Prop) → Prop} : ∀ (rest : List Oper) (i : Nat) (Φ : (Nat → Value) → Prop),
    (∀ v1 v2 : Nat → Value, (∀ j, j < i → v1 j = v2 j) → Φ v1 → Φ v2) → (∃ vals, Φ vals) → DetQ P ops C pu a0 K i rest Φ →
    ∃ (vs : Nat → Value) (Ψ : (Nat → Value) → Prop), K Ψ ∧ Φ vs ∧ (∀ vals, (∀ j, j < i + rest.length → vals j = vs j) → Ψ vals) ∧
      ∀ j o, rest[j]? = some o → ∀ vals w, (pu (i + j) = false → C w) → (∀ k, k < i + j → vals k = vs k) → ∀ E : Act → World → Prop, (∀ w', (if pu (i + j) = true then w' = w else C w') → E ((putAll ops vals (waitsOf ops (i + j)) a0).put o.dst (vs (i + j))) w') → wpList P ops (EndOf E) [o] (putAll ops vals (waitsOf ops (i + j)) a0) w
  | [], i, Φ, hΦ, ⟨v0, h0⟩, h => ⟨v0, Φ, h, h0, fun vals hv => hΦ _ _ (fun j hj => (hv j (by simpa using hj)).symm) h0, fun j o ho => by simp at ho⟩
  | o :: rest, i, Φ, hΦ, ⟨v0, h0⟩, ⟨v, h1, h2⟩ => by
    obtain ⟨vs, Ψ, k1, k2, k3, k4⟩ := detQ_all rest (i + 1) (fun vals => Φ vals ∧ vals i = v)
      (fun v1 v2 hv hp => ⟨hΦ v1 v2 (fun j hj => hv j (by omega)) hp.1, by rw [← hv i (by omega)]; exact hp.2⟩)
      ⟨upd v0 i v, hΦ v0 _ (fun j hj => by simp [upd, Nat.ne_of_lt hj]) h0, by simp [upd]⟩ h2
    refine ⟨vs, Ψ, k1, k2.1, fun vals hv => k3 vals fun j hj => hv j (by simp only [List.length_cons] at hj ⊢; omega), fun j o' ho vals w hc hv => ?_⟩
    cases j with
    | zero =>
      simp at ho
      subst ho
      have hΦv : Φ vals := hΦ vs _ (fun j hj => (hv j (by omega)).symm) k2.1
      intro E hE
      refine h1 vals hΦv w hc E fun w'' hd => ?_
      have h4 := hE w'' hd
      rw [Nat.add_zero, k2.2] at h4
      exact h4
    | succ j =>
      rw [show i + (j + 1) = i + 1 + j by omega] at hc hv ⊢
      exact k4 j o' (by simpa using ho) vals w hc hv
theorem wp_region_tailq {id : Nat} {l : List Oper} {a0 : Act} {w0 : World} {Q : Exit → Act → World → Prop} (C : World → Prop) (pu : Nat → Bool) (d : Nat) (ps : List (Nat × Option Tmp))
    (hm : P.follows .mixedOrders = true) (hok : regionOk l.toArray = true) (hd : d < l.length)
    (hlast : ((List.range l.length).all fun k => decide (k < d) || (((List.range k).all fun i => (deepWaits l.toArray 5 k).contains i || (pu i && decide (i < d))) && (k == d || (waitsOf l.toArray k).contains (k - 1)))) = true)
    (hps : ∀ vals, putAll l.toArray vals (List.range l.toArray.size) a0 = puts vals ps a0) (hC : C w0.drew)
    (h : DetQ P l.toArray C pu a0 (fun Φ => ∀ vals, Φ vals → ∀ w, C w → tailP P l.toArray a0 (fun vals w => Q .normal (puts vals ps a0) w) d (l.drop d) vals w) 0 (l.take d) (fun _ => True)) :
    (Code.region id l.toArray true).wp P Q a0 w0 := by
  obtain ⟨vs, Ψ, k1, _, k3, k4⟩ := detQ_all (P := P) (l.take d) 0 (fun _ => True) (fun _ _ _ h => h) ⟨fun _ => undef, trivial⟩ h
  have htl : (l.take d).length = d := by rw [List.length_take]; omega
  simp only [Nat.zero_add, htl] at k3 k4
  have hdeep : ∀ k, k < l.length → d ≤ k → ∀ i, i < k → (deepWaits l.toArray 5 k).contains i = true ∨ (pu i = true ∧ i < d) := fun k hk hdk i hi => by
    have h1 := (List.all_eq_true.1 hlast) k (List.mem_range.2 hk)
    simp only [Bool.or_eq_true, decide_eq_true_eq, Bool.and_eq_true] at h1
    rcases h1 with h1 | h1
    · omega
    · have h2 := (List.all_eq_true.1 h1.1) i (List.mem_range.2 hi)
      simpa only [Bool.or_eq_true, Bool.and_eq_true, decide_eq_true_eq] using h2
  have hprev : ∀ k, k < l.length → d < k → (waitsOf l.toArray k).contains (k - 1) = true := fun k hk hdk => by
    have h1 := (List.all_eq_true.1 hlast) k (List.mem_range.2 hk)
    simp only [Bool.or_eq_true, decide_eq_true_eq, Bool.and_eq_true, beq_iff_eq] at h1
    rcases h1 with h1 | ⟨_, h1 | h1⟩
    · omega
    · omega
    · exact h1
  let Kf : (Nat → Value) → World → Prop := fun vals w => Q .normal (puts vals ps a0) w
  let kills : Nat → Nat → Bool := fun i k => decide (d ≤ k) && (decide (k < i) || decide (l.length ≤ k))
  refine wp_region_rel (fun _ => True) (fun _ => C) (fun _ i => decide (d ≤ i))
    (fun i vals w => if i < d then vals i = vs i else tailP P l.toArray a0 Kf (i + 1) (l.drop (i + 1)) (mergeV d vs vals) w)
    (fun i w w' => if d ≤ i then True else if pu i = true then w' = w else (C w → C w')) kills hm hok trivial (fun _ => hC) ?_ ?_ ?_ ?_
  · intro _ i hi w w' hS hc
    have hne : ¬ d ≤ i := by simpa using hi
    rw [if_neg hne] at hS
    by_cases hp : pu i = true
    · rw [if_pos hp] at hS; rw [hS]; exact hc
    · rw [if_neg hp] at hS; exact hS hc
  · intro i k hi hik hk hdk vals v w w' hS hF
    by_cases hkd : k < d
    · simp only [hkd, if_true] at hF ⊢
      simp [upd, Ne.symm hik, hF]
    · have hki : ¬ k < i := by
        intro hlt
        have h9 : kills i k = true := by
          have a1 : d ≤ k := by omega
          simp [kills, a1, hlt]
        rw [h9] at hk; cases hk
      have hkl : k < l.length ∨ l.length ≤ k := Nat.lt_or_ge _ _
      rcases hkl with hkl | hkl
      · rcases hdeep k hkl (by omega) i (by omega) with h8 | ⟨h8, h7⟩
        · rw [h8] at hdk; cases hdk
        · simp only [hkd, if_false] at hF ⊢
          rw [if_neg (by omega), if_pos h8] at hS
          subst hS
          have e : mergeV d vs (upd vals i v) = mergeV d vs vals := by
            funext j
            unfold mergeV upd
            by_cases h1 : j = i
            · subst h1; simp [h7]
            · simp [h1]
          rw [e]; exact hF
      · have h9 : kills i k = true := by
          have a1 : d ≤ k := by omega
          simp [kills, a1, hkl]
        rw [h9] at hk; cases hk
  · intro i o ho w vals _ hini hav
    have hil : i < l.length := by have := (Array.getElem?_eq_some_iff.1 ho).1; simpa using this
    have hok1 := okAt hok ho
    by_cases hid : i < d
    · have hcw : pu i = false → C w := fun hpf => hini false (by
        unfold availIni
        rw [List.all_eq_true]
        intro k hk
        have hk' : k < l.length := by simpa using hk
        by_cases hki : k = i
        · simp [hki]
        · by_cases hkd : d ≤ k
          · rcases hdeep k hk' hkd i (by omega) with h8 | ⟨h8, _⟩
            · simp only [h8, Bool.or_true]
            · rw [h8] at hpf; cases hpf
          · simp [hkd])
      have hvals : ∀ j ∈ waitsOf l.toArray i, vals j = vs j := fun j hj => by
        have hji : j < d := by
          have := hok1.before j hj
          omega
        have h1 : availAt l.toArray kills j i = true := by
          unfold availAt
          simp only [kills, Bool.and_eq_true]
          refine ⟨by simpa using hj, ?_⟩
          rw [List.all_eq_true]
          intro k _
          have : ¬ d ≤ j := by omega
          simp [this]
        have := hav j h1
        dsimp only at this
        rw [if_pos hji] at this
        exact this
      have hcon : putAll l.toArray vals (waitsOf l.toArray i) a0 = putAll l.toArray vs (waitsOf l.toArray i) a0 := putAll_congr _ _ _ _ _ hvals
      have ho2 : (l.take d)[i]? = some o := by rw [List.getElem?_take, if_pos hid]; simpa using ho
      have h3 := k4 i o ho2 vs w hcw (fun _ _ => rfl)
      rw [hcon]
      refine h3 _ fun w' hd' => ?_
      refine ⟨vs i, rfl, ?_, trivial, ?_⟩
      · dsimp only; rw [if_pos hid]; simp [upd]
      · dsimp only
        rw [if_neg (by omega)]
        by_cases hp : pu i = true
        · rw [if_pos hp] at hd' ⊢; exact hd'
        · rw [if_neg hp] at hd' ⊢; exact fun _ => hd'
    · have hget : l.drop i = o :: l.drop (i + 1) := by
        have h1 : l[i]? = some o := by simpa using ho
        have h2 := List.drop_eq_getElem_cons hil
        rw [List.getElem?_eq_getElem hil] at h1
        rw [h2, Option.some.inj h1]
      have hvals : ∀ j ∈ waitsOf l.toArray i, vals j = mergeV d vs vals j := fun j hj => by
        unfold mergeV
        split
        · rename_i hjd
          have h1 : availAt l.toArray kills j i = true := by
            unfold availAt
            simp only [kills, Bool.and_eq_true]
            refine ⟨by simpa using hj, ?_⟩
            rw [List.all_eq_true]
            intro k _
            have : ¬ d ≤ j := by omega
            simp [this]
          have := hav j h1
          dsimp only at this
          rw [if_pos hjd] at this
          exact this
        · rfl
      have hcon : putAll l.toArray vals (waitsOf l.toArray i) a0 = putAll l.toArray (mergeV d vs vals) (waitsOf l.toArray i) a0 := putAll_congr _ _ _ _ _ hvals
      have htail : tailP P l.toArray a0 Kf i (l.drop i) (mergeV d vs vals) w := by
        by_cases he : i = d
        · subst he
          have hcw : C w := hini false (by
            unfold availIni
            rw [List.all_eq_true]
            intro k hk
            have hk' : k < l.length := by simpa using hk
            by_cases hki : k = i
            · simp [hki]
            · by_cases hkd : i ≤ k
              · rcases hdeep k hk' hkd i (by omega) with h8 | ⟨_, h8⟩
                · simp only [h8, Bool.or_true]
                · omega
              · simp [hkd])
          exact k1 _ (k3 _ fun j hj => by simp [mergeV, hj]) w hcw
        · have hav1 : availAt l.toArray kills (i - 1) i = true := by
            unfold availAt
            rw [Bool.and_eq_true]
            refine ⟨hprev i hil (by omega), ?_⟩
            rw [List.all_eq_true]
            intro k hk
            have hk' : k < l.length := by simpa using hk
            by_cases hki : k = i
            · simp [hki]
            · by_cases hki2 : i < k
              · rcases hdeep k hk' (by omega) i hki2 with h8 | ⟨_, h8⟩
                · simp only [h8, Bool.or_true]
                · omega
              · have : ¬ i - 1 < k ∨ k = i - 1 := by omega
                rcases this with h1 | h1
                · have h8 : ¬ l.length ≤ i - 1 := by omega
                  simp [kills, h1, h8]
                · simp [h1]
          have := hav (i - 1) hav1
          dsimp only at this
          rw [if_neg (by omega), show i - 1 + 1 = i by omega] at this
          exact this
      rw [hget] at htail
      rw [hcon]
      refine htail _ fun v w' ht => ?_
      refine ⟨v, rfl, ?_, trivial, ?_⟩
      · dsimp only
        rw [if_neg hid, mergeV_upd _ _ _ (by omega)]
        exact ht
      · dsimp only; rw [if_pos (by omega)]; trivial
  · intro w vals _ hF
    have hn1 : l.length - 1 < l.length := by omega
    have halive : aliveAt l.toArray kills (l.length - 1) = true := by
      unfold aliveAt
      rw [List.all_eq_true]
      intro k hk
      have hk' : k < l.length := by simpa using hk
      have : ¬ l.length - 1 < k := by omega
      have h8 : ¬ l.length ≤ l.length - 1 := by omega
      simp [kills, this, h8]
    have h1 := hF (l.length - 1) (by simpa using hn1) halive
    rw [if_neg (by omega), show l.length - 1 + 1 = l.length by omega, List.drop_length] at h1
    have hcon : putAll l.toArray vals (List.range l.toArray.size) a0 = putAll l.toArray (mergeV d vs vals) (List.range l.toArray.size) a0 := putAll_congr _ _ _ _ _ fun j hj => by
      unfold mergeV
      split
      · rename_i hjd
        have hal : aliveAt l.toArray kills j = true := by
          unfold aliveAt
          rw [List.all_eq_true]
          intro k _
          have : ¬ d ≤ j := by omega
          simp [kills, this]
        have := hF j (by simpa using (List.mem_range.1 hj)) hal
        rw [if_pos hjd] at this
        exact this
      · rfl
    rw [hcon, hps]
    exact h1
section
variable {ops : Array Oper} {C D : World → Prop} {a0 : Act} {K : ((Nat → Value) → Prop) → Prop} {i : Nat} {Φ : (Nat → Value) → Prop} {o : Oper}
theorem DetQ.next {v : Value} {rest : List Oper} {pu : Nat → Bool} (hs : DetStepQ P ops C (pu i) Φ i a0 o v) (h : DetQ P ops C pu a0 K (i + 1) rest fun vals => Φ vals ∧ vals i = v) : DetQ P ops C pu a0 K i (o :: rest) Φ := ⟨v, hs, h⟩
theorem DetQ.done {pu : Nat → Bool} (h : K Φ) : DetQ P ops C pu a0 K i [] Φ := h
end
end
end Go.Proofs.YtoihgnkhalhocaaGreatDoor
/-
  Regions that draw their order, walked as if in order: each operation gives one value whatever the world, as long as C holds; a tail of operations comes last, one behind the other.
-/
namespace Go.Proofs.YtoihgnkhalhocaaGreatDoor
set_option linter.unusedSimpArgs false
set_option linter.unusedVariables false
open Go.RowKit
variable {P : Program}
def SeqL (P : Program) (ops : Array Oper) (C : World → Prop) (pu : Nat → Bool) (K : Act → Prop) : Nat → List Oper → Act → Prop
  | _, [], a => K a
  | i, o :: r, a => ∃ v, (∀ w, (pu i = false → C w) → ∀ E : Act → World → Prop, (∀ w', (if pu i = true then w' = w else C w') → E (a.put o.dst v) w') → wpList P ops (EndOf E) [o] a w) ∧ SeqL P ops C pu K (i + 1) r (a.put o.dst v)
def SeqT (P : Program) (ops : Array Oper) (K : Act → World → Prop) : List Oper → Act → World → Prop
  | [], a, w => K a w
  | o :: r, a, w => ∀ E : Act → World → Prop, (∀ v w', SeqT P ops K r (a.put o.dst v) w' → E (a.put o.dst v) w') → wpList P ops (EndOf E) [o] a w
theorem put_like {A1 A2 : Act} {d : Option Tmp} {v v' : Value} (hs : A1.tmps.size = A2.tmps.size) (h : A2.put d v = A2.put d v') : A1.put d v = A1.put d v' := by
  cases d with
  | none => rfl
  | some d =>
    by_cases hd : d < A2.tmps.size
    · have h1 := congrArg (fun a : Act => a.tmps[d]?) h
      simp only [put_at _ _ _ hd] at h1
      rw [Option.some.inj h1]
    · have h2 : ¬ d < A1.tmps.size := by rw [hs]; exact hd
      simp only [Act.put, Array.setIfInBounds, h2, dif_neg, not_false_eq_true]
theorem seq_move {ops : Array Oper} {o : Oper} {A1 A2 : Act} {w : World} {R : Value → World → Prop} {E1 : Act → World → Prop} (hsel : ∀ cs b, o.op ≠ .select cs b)
    (hs : A1.tmps.size = A2.tmps.size) (hlook : ∀ t ∈ o.looksAt ops, A1.tmps[t]? = A2.tmps[t]?)
    (h : wpList P ops (EndOf fun a' w' => ∃ v, a' = A2.put o.dst v ∧ R v w') [o] A2 w) (hE : ∀ v w', R v w' → E1 (A1.put o.dst v) w') : wpList P ops (EndOf E1) [o] A1 w := by
  have heval : ∀ x ∈ o.op.operands, A1.eval x = A2.eval x := by
    intro x hx
    cases x with
    | tmp t =>
      have := hlook t (List.mem_append_left _ (List.mem_filterMap.2 ⟨.tmp t, by simpa using hx, rfl⟩))
      simp only [Act.eval, Array.getD_eq_getD_getElem?, this]
    | _ => rfl
  have hexec : execOp A1.eval o = execOp A2.eval o := execOp_congr o hsel heval
  have hwant : Region.wanted o (yielded ops A1.tmps) = Region.wanted o (yielded ops A2.tmps) := by
    unfold Region.wanted
    cases hg : o.guard with
    | none => rfl
    | some gw =>
      obtain ⟨g, want⟩ := gw
      have : yielded ops A1.tmps g = yielded ops A2.tmps g := by
        unfold yielded
        cases ht : (ops[g]?).bind (·.dst) with
        | none => rfl
        | some t =>
          have := hlook t (by
            refine List.mem_append_right _ ?_
            simp [hg, ht])
          simp only [Option.bind_some, this]
      simp only [this]
  have hend : ∀ (v : Value) (w' : World), (∃ v', A2.put o.dst v = A2.put o.dst v' ∧ R v' w') → E1 (A1.put o.dst v) w' := by
    rintro v w' ⟨v', h1, h2⟩
    rw [put_like hs h1]
    exact hE v' w' h2
  simp only [wpList] at h ⊢
  rw [hwant]
  split
  · rename_i hwt
    rw [if_pos hwt] at h
    rcases h with h | ⟨_, a₀, w₀, hq⟩
    case inr => exact absurd hq.1 (by simp)
    refine .inl ?_
    unfold Oper.wp at *
    rw [hexec]
    generalize (execOp A2.eval o).run P w = r at *
    cases r with
    | ok n w' =>
      cases n <;> simp only [Oper.upon] at h ⊢
      case value v => exact ⟨rfl, hend v w' h.2⟩
      case skip => exact ⟨rfl, hend _ w' h.2⟩
      case defer d =>
        obtain ⟨_, v, hv, _⟩ := h
        have := congrArg Act.defers hv
        rw [put_defers, put_defers] at this
        exact absurd this (by simp)
      case enter f args =>
        refine Calls.mono h fun e w'' he => ?_
        cases e with
        | returned v => exact ⟨rfl, hend v w'' he.2⟩
        | panicked c => exact absurd he.1 (by simp)
        | outgrown => obtain ⟨_, _, hq⟩ := he; exact absurd hq.1 (by simp)
      case row row args => exact Rows.mono h fun v w'' he => ⟨rfl, hend v w'' he.2⟩
    | halt x w' =>
      cases x <;> simp only [Oper.upon] at h ⊢
      exact absurd h.1 (by simp)
  · rename_i hwt
    rw [if_neg hwt] at h
    exact ⟨rfl, hend _ _ h.2⟩
theorem putAll_snoc (ops : Array Oper) (vals : Nat → Value) (i : Nat) : ∀ (l : List Nat) (a : Act), putAll ops vals (l ++ [i]) a = (putAll ops vals l a).put (dstAt ops i) (vals i)
  | [], a => rfl
  | j :: r, a => putAll_snoc ops vals i r _
theorem region_dist {ops : Array Oper} (hok : regionOk ops = true) : ∀ i j d, i ≠ j → dstAt ops i = some d → dstAt ops j ≠ some d := fun i j d hij hd => by
  have hil := dst_lt hd
  exact (okAt hok (Array.getElem?_eq_getElem hil)).dist j (Ne.symm hij) d hd
theorem seq_look {ops : Array Oper} (hok : regionOk ops = true) {i : Nat} {o : Oper} (ho : ops[i]? = some o) (vals : Nat → Value) (a0 : Act) :
    ∀ t ∈ o.looksAt ops, (putAll ops vals (waitsOf ops i) a0).tmps[t]? = (putAll ops vals (List.range i) a0).tmps[t]? := by
  intro t ht
  have hdist := region_dist hok
  obtain ⟨p1, p2, p3, p4⟩ := putAll_look hdist vals (waitsOf ops i) a0
  obtain ⟨q1, q2, q3, q4⟩ := putAll_look hdist vals (List.range i) a0
  have ok := okAt hok ho
  by_cases hex : ∃ j, dstAt ops j = some t
  · obtain ⟨j, hj⟩ := hex
    rcases ok.look t ht j hj with hji | hij
    · have hlt := ok.before j hji
      by_cases hts : t < a0.tmps.size
      · rw [p3 j hji t hj hts, q3 j (List.mem_range.2 hlt) t hj hts]
      · rw [Array.getElem?_eq_none (by rw [p1]; exact Nat.le_of_not_lt hts), Array.getElem?_eq_none (by rw [q1]; exact Nat.le_of_not_lt hts)]
    · have hjl := dst_lt hj
      have hlt : i < j := (okAt hok (Array.getElem?_eq_getElem hjl)).before i hij
      have no : ∀ k, k < i → dstAt ops k ≠ some t := fun k hk e => by
        by_cases hkj : k = j
        · omega
        · exact hdist j k t (fun e => hkj e.symm) hj e
      rw [p4 t fun k hk => no k (ok.before k hk), q4 t fun k hk => no k (List.mem_range.1 hk)]
  · have hno : ∀ j, dstAt ops j ≠ some t := fun j e => hex ⟨j, e⟩
    rw [p4 t fun k _ => hno k, q4 t fun k _ => hno k]
theorem seq_detQ {ops : Array Oper} {C : World → Prop} {pu : Nat → Bool} {a0 : Act} {K : ((Nat → Value) → Prop) → Prop} {Ks : Act → Prop} (hok : regionOk ops = true) :
    ∀ (rest : List Oper) (i : Nat) (Φ : (Nat → Value) → Prop) (a : Act), (∀ j o, rest[j]? = some o → ops[i + j]? = some o) → (∀ vals, Φ vals → putAll ops vals (List.range i) a0 = a) →
      (∀ (a : Act) (Ψ : (Nat → Value) → Prop), (∀ vals, Ψ vals → putAll ops vals (List.range (i + rest.length)) a0 = a) → Ks a → K Ψ) → SeqL P ops C pu Ks i rest a → DetQ P ops C pu a0 K i rest Φ
  | [], i, Φ, a, _, hΦ, hK, h => hK a Φ hΦ h
  | o :: r, i, Φ, a, hat, hΦ, hK, ⟨v, h1, h2⟩ => by
    have ho : ops[i]? = some o := by simpa using hat 0 o rfl
    have hdo : dstAt ops i = o.dst := by simp [dstAt, ho]
    have ok := okAt hok ho
    refine ⟨v, ?_, ?_⟩
    · intro vals hv w hc E hE
      have ha := hΦ vals hv
      have h3 := h1 w hc (fun a' w' => ∃ v', a' = a.put o.dst v' ∧ (v' = v ∧ (if pu i = true then w' = w else C w'))) fun w' hw' => ⟨v, rfl, rfl, hw'⟩
      have hdist := region_dist hok
      refine seq_move (A2 := a) (R := fun v' w' => v' = v ∧ (if pu i = true then w' = w else C w')) ok.sel ?_ ?_ h3 ?_
      · rw [← ha, (putAll_look hdist vals (waitsOf ops i) a0).1, (putAll_look hdist vals (List.range i) a0).1]
      · rw [← ha]
        exact seq_look hok ho vals a0
      · rintro v' w' ⟨rfl, hw'⟩
        exact hE w' hw'
    · refine seq_detQ hok r (i + 1) _ (a.put o.dst v) (fun j o' hj => by rw [show i + 1 + j = i + (j + 1) by omega]; exact hat (j + 1) o' (by simpa using hj)) ?_ ?_ h2
      · rintro vals ⟨hv, hvi⟩
        rw [List.range_succ, putAll_snoc, hΦ vals hv, hdo, hvi]
      · intro a' Ψ hΨ hk
        refine hK a' Ψ (fun vals hv => ?_) hk
        rw [← hΨ vals hv]
        congr 2
        simp only [List.length_cons]
        omega
theorem putAll_puts (ops : Array Oper) (vals : Nat → Value) : ∀ (l : List Nat) (a : Act), putAll ops vals l a = puts vals (l.map fun j => (j, dstAt ops j)) a
  | [], _ => rfl
  | j :: r, a => putAll_puts ops vals r _
theorem seq_tail {ops : Array Oper} {a0 : Act} {Kq : Act → World → Prop} {n : Nat} (hok : regionOk ops = true) : ∀ (rest : List Oper) (i : Nat) (vals : Nat → Value) (a : Act) (w : World), (∀ j o, rest[j]? = some o → ops[i + j]? = some o) → i + rest.length = n →
    putAll ops vals (List.range i) a0 = a → SeqT P ops Kq rest a w → tailP P ops a0 (fun vals w => Kq (putAll ops vals (List.range n) a0) w) i rest vals w
  | [], i, vals, a, w, _, hn, ha, h => by
    have hn' : i = n := by simpa using hn
    show Kq (putAll ops vals (List.range n) a0) w
    rw [← hn', ha]
    exact h
  | o :: r, i, vals, a, w, hat, hn, ha, h => by
    have ho : ops[i]? = some o := by simpa using hat 0 o rfl
    have hdo : dstAt ops i = o.dst := by simp [dstAt, ho]
    have ok := okAt hok ho
    have hdist := region_dist hok
    intro E hE
    have h3 := h (fun a' w' => ∃ v, a' = a.put o.dst v ∧ SeqT P ops Kq r (a.put o.dst v) w') fun v w' hv => ⟨v, rfl, hv⟩
    refine seq_move (A2 := a) (R := fun v w' => SeqT P ops Kq r (a.put o.dst v) w') ok.sel ?_ ?_ h3 ?_
    · rw [← ha, (putAll_look hdist vals (waitsOf ops i) a0).1, (putAll_look hdist vals (List.range i) a0).1]
    · rw [← ha]
      exact seq_look hok ho vals a0
    · intro v w' hv
      refine hE v w' ?_
      refine seq_tail hok r (i + 1) (upd vals i v) (a.put o.dst v) w' (fun j o' hj => by rw [show i + 1 + j = i + (j + 1) by omega]; exact hat (j + 1) o' (by simpa using hj)) (by simp only [List.length_cons] at hn; omega) ?_ hv
      rw [List.range_succ, putAll_snoc, hdo]
      rw [putAll_congr ops (upd vals i v) vals (List.range i) a0 (fun j hj => by have := List.mem_range.1 hj; simp [upd, Nat.ne_of_lt this]), ha]
      simp [upd]
theorem wp_region_seq {id : Nat} {l : List Oper} {a0 : Act} {w0 : World} {Q : Exit → Act → World → Prop} (C : World → Prop)
    (hm : P.follows .mixedOrders = true) (hok : regionOk l.toArray = true) (hC : C w0.drew)
    (h : SeqL P l.toArray C (fun _ => false) (fun a => ∀ w, C w → Q .normal a w) 0 l a0) :
    (Code.region id l.toArray true).wp P Q a0 w0 := by
  have hd := seq_detQ (K := fun Φ => ∀ vals, Φ vals → ∀ w, C w → Q .normal (putAll l.toArray vals (List.range l.toArray.size) a0) w) hok l 0 (fun _ => True) a0 (by simp) (fun _ _ => rfl)
    (fun a Ψ hΨ hk vals hv w hc => by
      have := hΨ vals hv
      rw [Nat.zero_add] at this
      rw [show l.toArray.size = l.length by simp, this]
      exact hk w hc) h
  obtain ⟨vs, Ψ, k1, _, k3, k4⟩ := detQ_all (P := P) l 0 (fun _ => True) (fun _ _ _ h => h) ⟨fun _ => undef, trivial⟩ hd
  refine wp_region_rel C (fun _ _ => True) (fun _ _ => true) (fun i vals w => vals i = vs i) (fun _ _ _ => True) (fun _ _ => false) hm hok hC (fun _ => trivial) ?_ ?_ ?_ ?_
  · intro _ i hi
    cases hi
  · intro i k hi hik _ hdk vals v w w' _ hF
    show upd vals i v k = vs k
    simp [upd, Ne.symm hik, hF]
  · intro i o ho w vals hcw _ hav
    have hvals : ∀ j ∈ waitsOf l.toArray i, vals j = vs j := fun j hj => by
      have h1 : availAt l.toArray (fun _ _ => false) j i = true := by
        unfold availAt
        simp [hj]
      exact hav j h1
    have hcon : putAll l.toArray vals (waitsOf l.toArray i) a0 = putAll l.toArray vs (waitsOf l.toArray i) a0 := putAll_congr _ _ _ _ _ hvals
    have h3 := k4 i o (by simpa using ho) vs w (fun _ => hcw) (fun _ _ => rfl)
    rw [Nat.zero_add] at h3
    rw [hcon]
    refine h3 (fun a' w' => ∃ v, a' = (putAll l.toArray vs (waitsOf l.toArray i) a0).put o.dst v ∧ upd vals i v i = vs i ∧ C w' ∧ True) fun w' hd => ?_
    exact ⟨vs i, rfl, by simp [upd], by simpa using hd, trivial⟩
  · intro w vals hcw hF
    have hal : ∀ j, aliveAt l.toArray (fun _ _ => false) j = true := fun j => by simp [aliveAt]
    exact k1 vals (k3 vals fun j hj => hF j (by simpa using hj) (hal _)) w hcw
theorem wp_region_seqt {id : Nat} {l : List Oper} {a0 : Act} {w0 : World} {Q : Exit → Act → World → Prop} (C : World → Prop) (pu : Nat → Bool) (d : Nat)
    (hm : P.follows .mixedOrders = true) (hok : regionOk l.toArray = true) (hd : d < l.length)
    (hlast : ((List.range l.length).all fun k => decide (k < d) || (((List.range k).all fun i => (deepWaits l.toArray 5 k).contains i || (pu i && decide (i < d))) && (k == d || (waitsOf l.toArray k).contains (k - 1)))) = true)
    (hC : C w0.drew)
    (h : SeqL P l.toArray C pu (fun a => ∀ w, C w → SeqT P l.toArray (fun a w => Q .normal a w) (l.drop d) a w) 0 (l.take d) a0) :
    (Code.region id l.toArray true).wp P Q a0 w0 := by
  refine wp_region_tailq C pu d ((List.range l.toArray.size).map fun j => (j, dstAt l.toArray j)) hm hok hd hlast (fun vals => putAll_puts _ _ _ _) hC ?_
  have htl : (l.take d).length = d := by rw [List.length_take]; omega
  refine seq_detQ hok (l.take d) 0 (fun _ => True) a0 (fun j o hj => ?_) (fun _ _ => rfl) (fun a Ψ hΨ hk vals hv w hc => ?_) h
  · rw [List.getElem?_take] at hj
    split at hj
    · simpa using hj
    · cases hj
  · have ha := hΨ vals hv
    rw [Nat.zero_add, htl] at ha
    have h9 := seq_tail (P := P) (Kq := fun a w => Q .normal a w) (n := l.length) hok (l.drop d) d vals a w (fun j o hj => by
      rw [List.getElem?_drop] at hj
      simpa using hj) (by rw [List.length_drop]; omega) ha (hk w hc)
    have e : (fun (vals : Nat → Value) w => Q .normal (puts vals ((List.range l.toArray.size).map fun j => (j, dstAt l.toArray j)) a0) w) = fun vals w => Q .normal (putAll l.toArray vals (List.range l.length) a0) w := by
      funext vals w
      rw [← putAll_puts]
      simp
    rw [e]
    exact h9
section
variable {ops : Array Oper} {C : World → Prop} {pu : Nat → Bool} {K : Act → Prop} {i : Nat} {o : Oper} {r : List Oper} {a a' : Act} {v : Value}
theorem SeqL.nil (h : K a) : SeqL P ops C pu K i [] a := h
theorem SeqT.nil {K : Act → World → Prop} {w : World} (h : K a w) : SeqT P ops K [] a w := h
theorem SeqL.next (hp : pu i = false) (hg : o.guard = none) (ha : a.put o.dst v = a')
    (h : ∀ w, C w → ∀ E : Act → World → Prop, (∀ w', C w' → E a' w') → wpList P #[] (EndOf E) [o] a w)
    (hr : SeqL P ops C pu K (i + 1) r a') : SeqL P ops C pu K i (o :: r) a := by
  subst ha
  refine ⟨v, fun w hc E hE => ?_, hr⟩
  have h1 := h w (hc hp) E (fun w' hw' => hE w' (by rw [hp]; simpa using hw'))
  have hw : ∀ (O : Array Oper) (t : Array Value), Region.wanted o (yielded O t) = true := fun O t => by simp [Region.wanted, hg]
  simp only [wpList, hw, if_true] at h1 ⊢
  exact h1
theorem SeqL.pure (hp : pu i = true) (hg : o.guard = none) (ha : a.put o.dst v = a')
    (h : ∀ w, ∀ E : Act → World → Prop, E a' w → wpList P #[] (EndOf E) [o] a w)
    (hr : SeqL P ops C pu K (i + 1) r a') : SeqL P ops C pu K i (o :: r) a := by
  subst ha
  refine ⟨v, fun w hc E hE => ?_, hr⟩
  have h1 := h w E (hE w (by rw [hp]; simp))
  have hw : ∀ (O : Array Oper) (t : Array Value), Region.wanted o (yielded O t) = true := fun O t => by simp [Region.wanted, hg]
  simp only [wpList, hw, if_true] at h1 ⊢
  exact h1
theorem SeqL.yes {g : Nat} {t : Tmp} {b : Bool} (hp : pu i = false) (hg : o.guard = some (g, b)) (hd : dstAt ops g = some t) (ht : a.tmps[t]? = some (.bool b)) (ha : a.put o.dst v = a')
    (h : ∀ w, C w → ∀ E : Act → World → Prop, (∀ w', C w' → E a' w') → wpList P #[] (EndOf E) [{ o with guard := none }] a w)
    (hr : SeqL P ops C pu K (i + 1) r a') : SeqL P ops C pu K i (o :: r) a := by
  subst ha
  refine ⟨v, fun w hc E hE => ?_, hr⟩
  have h1 := h w (hc hp) E (fun w' hw' => hE w' (by rw [hp]; simpa using hw'))
  have hw : Region.wanted o (yielded ops a.tmps) = true := by
    unfold dstAt at hd
    simp [Region.wanted, hg, yielded, hd, ht]
  have hw' : ∀ (O : Array Oper) (t : Array Value), Region.wanted { o with guard := none } (yielded O t) = true := fun O t => by simp [Region.wanted]
  simp only [wpList, hw, hw', if_true] at h1 ⊢
  have hk : ∀ a w, Oper.asks P { o with guard := none } a w = Oper.asks P o a w := fun a w => rfl
  rw [hk] at h1
  exact h1
theorem SeqL.no {g : Nat} {t : Tmp} {b : Bool} (hg : o.guard = some (g, b)) (hd : dstAt ops g = some t) (ht : a.tmps[t]? = some (.bool !b)) (ha : a.put o.dst undef = a')
    (hr : SeqL P ops C pu K (i + 1) r a') : SeqL P ops C pu K i (o :: r) a := by
  subst ha
  refine ⟨undef, fun w hc E hE => ?_, hr⟩
  have hd' : (ops[g]?).bind (·.dst) = some t := hd
  have hw : ¬ Region.wanted o (yielded ops a.tmps) = true := by
    simp [Region.wanted, hg, yielded, hd', ht]
  simp only [wpList, if_neg hw]
  refine ⟨rfl, hE w ?_⟩
  split
  · rfl
  · rename_i h
    exact hc (by simpa using h)
theorem SeqT.step {K : Act → World → Prop} {w : World} (hg : o.guard = none)
    (h : ∀ E : Act → World → Prop, (∀ v w', SeqT P ops K r (a.put o.dst v) w' → E (a.put o.dst v) w') → wpList P #[] (EndOf E) [o] a w) : SeqT P ops K (o :: r) a w := by
  intro E hE
  have h1 := h E hE
  have hw : ∀ (O : Array Oper) (t : Array Value), Region.wanted o (yielded O t) = true := fun O t => by simp [Region.wanted, hg]
  simp only [wpList, hw, if_true] at h1 ⊢
  exact h1
end
end Go.Proofs.YtoihgnkhalhocaaGreatDoor
/-
  A drawn region walked in order: an operation that gives no value (a store that keeps C).
-/
namespace Go.Proofs.YtoihgnkhalhocaaGreatDoor
set_option linter.unusedSimpArgs false
set_option linter.unusedVariables false
variable {P : Program} {ops : Array Oper} {C : World → Prop} {pu : Nat → Bool} {K : Act → Prop} {i : Nat} {o : Oper} {r : List Oper} {a : Act}
theorem SeqL.store (hp : pu i = false) (hg : o.guard = none) (hd : o.dst = none)
    (h : ∀ w, C w → ∀ E : Act → World → Prop, (∀ w', C w' → E a w') → wpList P #[] (EndOf E) [o] a w)
    (hr : SeqL P ops C pu K (i + 1) r a) : SeqL P ops C pu K i (o :: r) a :=
  SeqL.next (v := undef) hp hg (by rw [hd]; rfl) h hr
theorem SeqT.last {K : Act → World → Prop} {D : World → Prop} {v : Value} {a' : Act} (hg : o.guard = none) (ha : a.put o.dst v = a')
    (h : ∀ w, C w → ∀ E : Act → World → Prop, (∀ w', D w' → E a' w') → wpList P #[] (EndOf E) [o] a w) (hq : ∀ w, D w → K a' w) : ∀ w, C w → SeqT P ops K [o] a w := by
  subst ha
  intro w hc
  exact SeqT.step hg fun E hE => h w hc E fun w' hd => hE v w' (hq w' hd)
end Go.Proofs.YtoihgnkhalhocaaGreatDoor
/-
  Walks: json's writer: a value, a list, a map. (Printed by gen/jkids.py.)
-/
namespace Go.Proofs.YtoihgnkhalhocaaGreatDoor.Js
set_option linter.unusedSimpArgs false
set_option linter.unusedVariables false
open Go.RowKit
theorem jT_size : (Tryz.prog.info? 55).map (·.size) = some 5 := by kernel_rfl
def WVal (d : Nat) : Prop := ∀ (j : JT) (v : JV) (B p : Nat) (c : Bs) (w0 w : World), rightV d j = true → JRep w (fun b => b < B) j v → WB w0 B p c w → c.length + (writeV j).length ≤ 1099511627776 →
  Calls Tryz.prog 37 #[.pointer (some ⟨p, 0, none⟩), .agg (jvCells v)] w fun e w' => e = .returned (.tuple #[]) ∧ ∃ c', Out c (writeV j) c' ∧ WB w0 B p c' w'
def kidsB (m : Bool) (ns : List Bs) (ks : List JT) (k : Nat) : Bs := itemsV m (ns.take k) (ks.take k) true
theorem _root_.Go.Proofs.YtoihgnkhalhocaaGreatDoor.Blk.keep9 {w : World} {g : Nat} {t : TypeId} {cs : Array Value} (h : Blk w g t cs) : Blk w g t cs := h
theorem app_len (a b : Bs) : (a ++ b).length = a.length + b.length := List.length_append
structure StepK (a b : Bs) : Prop where
  eq : a = b
theorem itemsV_snoc (m : Bool) : ∀ (ks : List JT) (ns : List Bs) (k : JT) (s : Bs) (f : Bool), (m = true → ns.length = ks.length) →
    itemsV m (if m then ns ++ [s] else []) (ks ++ [k]) f = itemsV m (if m then ns else []) ks f ++ ((if (f && ks.isEmpty) then [] else [44]) ++ ((if m then quote s ++ [58] else []) ++ writeV k))
  | [], ns, k, s, f, h => by
    cases m with
    | true =>
      have : ns = [] := by simpa using h rfl
      subst this
      cases f <;> simp [itemsV]
    | false => cases f <;> simp [itemsV]
  | k1 :: ks, ns, k, s, f, h => by
    cases m with
    | true =>
      cases ns with
      | nil => simp at h
      | cons s1 ns =>
        have ih := itemsV_snoc true ks ns k s false (fun _ => by simpa using h rfl)
        simp only [if_true, Bool.false_and, Bool.false_eq_true, if_false] at ih
        cases f <;> simp [itemsV, ih]
    | false =>
      have ih := itemsV_snoc false ks [] k s false (by simp)
      simp at ih
      cases f <;> simp [itemsV, ih]
theorem itemsV_take (m : Bool) : ∀ (ks : List JT) (ns : List Bs) (f : Bool) (k : Nat), ∃ r, itemsV m ns ks f = itemsV m (ns.take k) (ks.take k) f ++ r
  | [], ns, f, k => ⟨[], by simp [itemsV]⟩
  | x :: ks, ns, f, 0 => ⟨_, by simp [itemsV]; rfl⟩
  | x :: ks, ns, f, k + 1 => by
    obtain ⟨r, hr⟩ := itemsV_take m ks ns.tail false k
    refine ⟨r, ?_⟩
    cases ns with
    | nil => simp at hr; simp [itemsV, hr]
    | cons s ns => simp at hr; simp [itemsV, hr]
theorem kidsB_len (m : Bool) (ns : List Bs) (ks : List JT) (k : Nat) : (kidsB m ns ks k).length ≤ (itemsV m ns ks true).length := by
  obtain ⟨r, hr⟩ := itemsV_take m ks ns true k
  rw [hr, kidsB]
  simp
theorem kidsB_map {ns : List Bs} {ks : List JT} {k : Nat} (h : ns.length = ks.length) (hk : k < ks.length) :
    kidsB true ns ks (k + 1) = kidsB true ns ks k ++ ((if k = 0 then [] else [44]) ++ ((quote (ns[k]'(by omega)) ++ [58]) ++ writeV ks[k])) := by
  have e := itemsV_snoc true (ks.take k) (ns.take k) ks[k] (ns[k]'(by omega)) true (fun _ => by simp [h])
  simp only [if_true, Bool.true_and] at e
  rw [kidsB, List.take_succ_eq_append_getElem hk, List.take_succ_eq_append_getElem (by omega), e]
  cases k with
  | zero => simp [kidsB]
  | succ k =>
    have : (ks.take (k + 1)).isEmpty = false := by
      cases ks with
      | nil => simp at hk
      | cons a r => rfl
    rw [this]
    simp [kidsB]
theorem kidsB_list {ks : List JT} {k : Nat} (hk : k < ks.length) : kidsB false [] ks (k + 1) = kidsB false [] ks k ++ ((if k = 0 then [] else [44]) ++ writeV ks[k]) := by
  have e := itemsV_snoc false (ks.take k) [] ks[k] [] true (fun h => by cases h)
  simp only [Bool.false_eq_true, if_false, Bool.true_and, List.nil_append] at e
  rw [kidsB, List.take_succ_eq_append_getElem hk, List.take_nil, e]
  cases k with
  | zero => simp [kidsB]
  | succ k =>
    have : (ks.take (k + 1)).isEmpty = false := by
      cases ks with
      | nil => simp at hk
      | cons a r => rfl
    rw [this]
    simp [kidsB]
theorem itemsV_len (m : Bool) : ∀ (ks : List JT) (ns : List Bs) (f : Bool), ks.length ≤ (itemsV m ns ks f).length + 1
  | [], _, _ => by simp [itemsV]
  | [k], _, _ => by simp
  | k :: k2 :: r, ns, f => by
    have := itemsV_len2 m (k2 :: r) ns.tail
    rw [itemsV]
    simp only [List.length_append, List.length_cons] at this ⊢
    omega
where
  itemsV_len2 (m : Bool) : ∀ (ks : List JT) (ns : List Bs), ks.length ≤ (itemsV m ns ks false).length
  | [], _ => by simp [itemsV]
  | k :: r, ns => by
    have := itemsV_len2 m r ns.tail
    rw [itemsV]
    simp only [Bool.false_eq_true, if_false, List.length_append, List.length_cons, List.length_nil]
    omega
set_option maxRecDepth 100000 in
set_option maxHeartbeats 4000000 in
theorem wmap_any (d : Nat) (IH : WVal d) (v : JV) (hvk : v.k = 5) (ns : List Bs) (ks : List JT) (kv : List JV) (B p : Nat) (c : Bs) (w0 w : World)
    (hnr : RdS w (fun b => b < B) v.nA (rowsV sCell ns)) (hn : v.nn = ns.length) (hkn : v.kn = ks.length) (hkv : kv.length = ks.length) (hkr : RdS w (fun b => b < B) v.kA (rowsV jvCells kv))
    (hkids : ∀ i (h : i < ks.length) (h' : i < kv.length), JRep w (fun b => b < B) ks[i] kv[i]) (hright : ∀ x ∈ ks, rightV d x = true) (hlen : ns.length = ks.length)
    (hb : WB w0 B p c w) (hl : c.length + ((123 :: (itemsV true ns ks true ++ [125])) : Bs).length ≤ 1099511627776) :
    Calls Tryz.prog 67 #[.pointer (some ⟨p, 0, none⟩), .agg (jvCells v)] w fun e w' => e = .returned (.tuple #[]) ∧ ∃ c', Out c (123 :: (itemsV true ns ks true ++ [125])) c' ∧ WB w0 B p c' w' := by
  have hu := Tryz.underlying55
  obtain ⟨W0, hW0⟩ : ∃ W0, W0 = w.alloc (.cells (jvCells v) 55) := ⟨_, rfl⟩
  have hb0 : Below w.heap.size w W0 := by rw [hW0]; exact (Below.refl _ w).alloc (Nat.le_refl _) _
  obtain ⟨hBp, hpw⟩ := hb.1.lt
  obtain ⟨G, hG⟩ : ∃ G, G = w.heap.size := ⟨_, rfl⟩
  have HG := Lib.hid (show p < G by omega)
  have hG0 : W0.heap.size = G + 1 := by rw [hW0, hG]; simp
  have HKB := Lib.hid (show Blk W0 G 55 (jvCells v) by rw [hW0, hG]; exact Blk.new _ _ _)
  have HS := Lib.hid (show BK B p w0 W0 from hb.2.trans (.all hb0 (by omega)))
  have HB := Lib.hid (show WB W0 B p c W0 from ⟨hb.1.below hb0, BK.refl _ _ _⟩)
  have HKR := Lib.hid (show Rd W0 B v.kA (rowsV jvCells kv) from (hkr.rd (fun _ _ h => h)).below (hb0.mono (by omega)))
  have HNR := Lib.hid (show Rd W0 B v.nA (rowsV sCell ns) from (hnr.rd (fun _ _ h => h)).below (hb0.mono (by omega)))
  have HKD := Lib.hid (show ∀ i (h : i < ks.length) (h' : i < kv.length), JRep W0 (fun b => b < B) ks[i] kv[i] from fun i h h' => (hkids i h h').under (hb0.mono (by omega)))
  have HRI := Lib.hid hright
  have HL := Lib.hid hl
  have HLEN := Lib.hid hlen
  have HKV := Lib.hid hkv
  obtain ⟨n, hnn⟩ : ∃ n, n = ks.length := ⟨_, rfl⟩
  have HN := Lib.hid hnn
  have HBP := Lib.hid hBp
  have HNL := Lib.hid (show (v.nn : Int) = (ns.length : Int) by rw [hn])
  have HNS := Lib.hid (show (n : Int) ≤ 1099511627776 by
    have h1 := itemsV_len true ks ns true
    have h2 := hl
    simp at h2
    omega)
  have HW0 := Lib.hid hW0
  have CB := Lib.hid (fun (c : Bs) (x : UInt8) (u : World) (h : IsB u B 74 p c) (h2 : c.length + 1 ≤ 140737488355328) => bld_byte jwT B p c x u h h2)
  have CT := Lib.hid (fun (s : ByteArray) (c : Bs) (u : World) (h : IsB u B 74 p c) (h2 : c.length + (quote s.data.toList).length ≤ 1099511627776) => wtext_any s B p c u u ⟨h, BK.refl _ _ _⟩ h2)
  unfold byteV at CB
  obtain ⟨vk, vn, vt, nA, nn, nc, kA, kn, kc⟩ := v
  dsimp only at *
  subst hvk
  obtain rfl : kn = n := by rw [hkn, hnn]
  have a0 : W0.cell? ⟨G, 0, none⟩ = some (.int .i64 5) := HKB.out.cell 0
  have a4 : W0.cell? ⟨G, 4, none⟩ = some (.slice kA kn kc) := HKB.out.cell 4
  clear hb hb0 hG0 hW0 hnr hkr hkids hright hl hlen hkv hnn hn hkn hBp hpw
  rw [hG] at *
  clear hG
  go_enter Tryz.func67, Tryz.ntmps67
  go_upto_region 1 with (fail)
  rw [← HW0.out]
  go_wp2_with fail
  have HC0 := HB.out.drew
  clear a0 a4
  refine wp_region_seqt (fun u => WB W0 B p c u) (fun _ => false) 5 (by kernel_rfl) (by kernel_rfl) (by decide) (by kernel_rfl) HC0 ?_
  simp only [List.take_succ_cons, List.take_zero, List.drop_succ_cons, List.drop_zero]
  iterate 5
    ((first | (apply SeqL.next; rfl; rfl)); (simp only [act_put, act_put_none, List.setIfInBounds_toArray, List.set_cons_zero, List.set_cons_succ]; rfl); (intro w1 hC1 E hE; go_wp2; exact .mk (hE _ hC1)))
  refine SeqL.nil ?_
  apply SeqT.last (D := fun u => WB W0 B p (c ++ [123]) u)
  · rfl
  · simp only [act_put, act_put_none, List.setIfInBounds_toArray, List.set_cons_zero, List.set_cons_succ]
    rfl
  · intro w1 hC1 E hE
    go_wp2_with fail
    refine calls_then (CB.out c 123 _ hC1.1 (by have := HL.out; simp at this; omega)) ?_
    rintro e w2 ⟨rfl, hb2, hw2⟩
    go_wp2_with fail
    exact .mk (hE _ (hC1.next hb2 hw2))
  intro w1 hC1
  have HB1 := Lib.hid hC1
  have hkb1 := hC1.2.blk HKB.out (by have := HG.out; omega) (by decide)
  have a4 : w1.cell? ⟨w.heap.size, 4, none⟩ = some (.slice kA kn kc) := hkb1.cell 4
  clear HC0 hC1 hkb1
  go_wp2_with fail
  go_loopw [19] (fun x wr => ∃ (i : Nat) (c' : Bs), i ≤ kn ∧ x = .int .i64 (i : Int) ∧ Out (c ++ [123]) (kidsB true ns ks i) c' ∧ WB W0 B p c' wr) (fun x _ => kn - (intOf x).toNat)
  case atStart => exact ⟨0, _, by omega, rfl, by simp [kidsB, itemsV]; exact Out.refl _, HB1.out⟩
  case round =>
    obtain ⟨i, c', hi, rfl, hout, hwr⟩ := hrel
    have HO := Lib.hid hout
    have HWR := Lib.hid hwr
    clear hout hwr
    by_cases hlt : i < kn
    · have hik : i < ks.length := by rw [← HN.out]; exact hlt
      have hiv : i < kv.length := by rw [HKV.out]; exact hik
      have hlt' : (i : Int) < (kn : Int) := by omega
      have HLT := Lib.hid hlt
      obtain ⟨ad, hA, hadb, hcell⟩ := rd_rows (f := jvCells) (m := 5) (fun _ => rfl) (by decide) HKR.out hiv
      subst hA
      obtain ⟨X, hX⟩ : ∃ X, X = kv[i] := ⟨_, rfl⟩
      obtain ⟨J, hJ⟩ : ∃ J, J = ks[i] := ⟨_, rfl⟩
      have HJX := Lib.hid (show JRep W0 (fun b => b < B) J X by rw [hX, hJ]; exact HKD.out i hik hiv)
      have HJR := Lib.hid (show rightV d J = true by rw [hJ]; exact HRI.out _ (List.getElem_mem hik))
      have HST := StepK.mk (show kidsB true ns ks (i + 1) = kidsB true ns ks i ++ ((if i = 0 then [] else [44]) ++ ((quote (ns[i]'(by rw [HLEN.out]; exact hik)) ++ [58]) ++ writeV J)) by rw [hJ]; exact kidsB_map HLEN.out hik)
      have HLN := Lib.hid (show (c ++ [123]).length + (kidsB true ns ks (i + 1)).length ≤ 1099511627776 by
        have h1 := kidsB_len true ns ks (i + 1)
        have h2 := HL.out
        simp at h2 ⊢
        omega)
      rw [← hX] at hcell
      have HCE := Lib.hid (show ∀ u, Below B W0 u → ∀ j x, (jvCells X).toList[j]? = some x → u.cell? ((ad.add (i * 5)).add j) = some x from fun u hu j x hx => by
        rw [hu.cell (p := (ad.add (i * 5)).add j) (by rw [block_of_add, block_of_add]; exact hadb)]
        exact hcell j x (by simpa using hx))
      obtain ⟨ad2, hA2, hadb2, hcell2⟩ := rd_rows (f := sCell) (m := 1) (fun _ => rfl) (by decide) HNR.out (show i < ns.length by rw [HLEN.out]; exact hik)
      subst hA2
      obtain ⟨Sx, hSx⟩ : ∃ s, s = ns[i]'(by rw [HLEN.out]; exact hik) := ⟨_, rfl⟩
      rw [← hSx] at HST hcell2
      have HSC := Lib.hid (show ∀ u, Below B W0 u → u.cell? (ad2.add i) = some (.string (bs Sx)) from fun u hu => by
        rw [hu.cell (p := ad2.add i) (by rw [block_of_add]; exact hadb2)]
        have h := hcell2 0 _ rfl
        rw [Nat.mul_one] at h
        exact h)
      clear hSx hcell2
      clear hX hJ hcell hik hiv
      go_upto_if 25 with (first
        | (refine wpList_get_rd (r := (jvCells X).toList) (HCE.out _ HWR.out.2.below) rfl rfl rfl hu rfl jT_size ?_)
        | (refine wpList_put_box (x := .tmp 6) (cells := jvCells X) (Blk.new _ _ _) rfl rfl rfl rfl jT_size rfl (jvCells_one X) ?_; intro w2 hb2 hw2; have hk2 := box_low9 hw2; have HK2 := Lib.hid (Blk.keep9 hb2); have HW2 := Lib.hid (show WB W0 B p c' w2 from ⟨HWR.out.1.below hk2, HWR.out.2.trans (.all hk2 (by have := HWR.out.1.lt; omega))⟩); have HSZ := Lib.hid (show p < wr.heap.size from HWR.out.1.lt.2)))
      generalize hkb : wr.heap.size = kb at *
      go_cut [] (fun wx => ∃ c1 : Bs, Out (c ++ [123]) (kidsB true ns ks i ++ (if i = 0 then [] else [44])) c1 ∧ WB W0 B p c1 wx ∧ Blk wx kb 55 (jvCells X))
      case first =>
        go_wp2_with fail
        · have H0 := Lib.hid (show ¬ i = 0 by omega)
          refine calls_then (CB.out c' 44 _ HW2.out.1 (by have h1 := HO.out.2.1; have h2 := HLN.out; rw [HST.eq] at h2; simp at h1 h2; omega)) ?_
          rintro e w3 ⟨rfl, hb3, hw3⟩
          have HW3 := Lib.hid (HW2.out.next hb3 hw3)
          have HK3 := Lib.hid (hw3.blk HK2.out (by have := HSZ.out; omega) (by decide))
          clear hb3 hw3
          go_wp2_with fail
          go_meet
          exact ⟨_, by rw [if_neg H0.out]; exact HO.out.trans (Out.all _ _), HW3.out, HK3.out⟩
        · have H0 := Lib.hid (show i = 0 by omega)
          go_meet
          exact ⟨c', by rw [if_pos H0.out, List.append_nil]; exact HO.out, HW2.out, HK2.out⟩
      case rest =>
      obtain ⟨c1, hout1, hw3, hk3⟩ := hcut
      have HO1 := Lib.hid hout1
      have HW3 := Lib.hid hw3
      have HK3 := Lib.hid hk3
      have hkb3 := hw3.2.blk HKB.out (by have := HG.out; omega) (by decide)
      have a0 : wc.cell? ⟨w.heap.size, 0, none⟩ = some (.int .i64 5) := hkb3.cell 0
      have HT := Lib.hid (show (c ++ [123]).length + ((kidsB true ns ks i).length + (if i = 0 then [] else [44] : Bs).length) + ((quote Sx).length + 1 + (writeV J).length) ≤ 1099511627776 by
        have h2 := HLN.out
        rw [HST.eq] at h2
        simp only [List.length_append, List.length_cons, List.length_nil] at h2 ⊢
        omega)
      have HT1 := Lib.hid (show c1.length ≤ (c ++ [123]).length + ((kidsB true ns ks i).length + (if i = 0 then [] else [44] : Bs).length) by
        have h1 := HO1.out.2.1
        rw [app_len (kidsB true ns ks i)] at h1
        exact h1)
      have a3 : wc.cell? ⟨w.heap.size, 3, none⟩ = some (.slice (some ad2) nn nc) := hkb3.cell 3
      have hsc := HSC.out wc hw3.2.below
      have hnl := HNL.out
      have hin : (i : Int) < (nn : Int) := by rw [hnl, HLEN.out, ← HN.out]; exact hlt'
      clear hnl
      go_wp2_with fail
      refine calls_then (CT.out _ c1 _ HW3.out.1 (by have h1 := HT.out; have h2 := HT1.out; rw [show (bs Sx).data.toList = Sx from rfl]; omega)) ?_
      rintro e w4 ⟨rfl, hb4, hw4⟩
      have HW4 := Lib.hid (show WB W0 B p (c1 ++ quote Sx) w4 from HW3.out.next hb4 hw4)
      have HK4 := Lib.hid (hw4.blk HK3.out (by have := HSZ.out; omega) (by decide))
      clear hb4 hw4
      go_wp2_with fail
      refine calls_then (CB.out _ 58 _ HW4.out.1 (by have h1 := HT.out; have h2 := HT1.out; simp only [List.length_append] at h1 h2 ⊢; omega)) ?_
      rintro e w5 ⟨rfl, hb5, hw5⟩
      have HW5 := Lib.hid (HW4.out.next hb5 hw5)
      have HK5 := Lib.hid (hw5.blk HK4.out (by have := HSZ.out; omega) (by decide))
      clear hb5 hw5
      go_wp2_with (refine wpList_get_box (x := .tmp 6) (cs := jvCells X) HK5.out rfl rfl rfl hu rfl jT_size ?_)
      clear hout1 hw3 hk3 hkb3
      refine calls_then (IH J X B p (c1 ++ quote Sx ++ [58]) W0 _ HJR.out (HJX.out.under HW5.out.2.below) HW5.out (by have h1 := HT.out; have h2 := HT1.out; simp only [List.length_append, List.length_cons, List.length_nil] at h1 h2 ⊢; omega)) ?_
      rintro e w6 ⟨rfl, c4, ho4, hw6⟩
      have HO4 := Lib.hid ho4
      have HW6 := Lib.hid hw6
      clear ho4 hw6
      have hns := HNS.out
      have hlt9 := HLT.out
      go_wp2_with fail
      go_roundw
      case rel => exact ⟨i + 1, c4, HLT.out, by go_num, by rw [HST.eq]; have h := ((HO1.out.trans (Out.all c1 (quote Sx))).trans (Out.all _ [58])).trans HO4.out; simpa only [List.append_assoc] using h, HW6.out⟩
      case measure => have := HLT.out; simp [intOf]; omega
    · obtain rfl : i = kn := by omega
      have HCL := Lib.hid (show c'.length + 1 ≤ 140737488355328 by
        have h1 := HO.out.2.1
        have h2 := kidsB_len true ns ks i
        have h3 := HL.out
        simp at h1 h3
        omega)
      have HC0 := HWR.out.drew
      go_wp2_with fail
      refine wp_region_seqt (fun u => WB W0 B p c' u) (fun _ => false) 5 (by kernel_rfl) (by kernel_rfl) (by decide) (by kernel_rfl) HC0 ?_
      simp only [List.take_succ_cons, List.take_zero, List.drop_succ_cons, List.drop_zero]
      iterate 5
        ((first | (apply SeqL.next; rfl; rfl)); (simp only [act_put, act_put_none, List.setIfInBounds_toArray, List.set_cons_zero, List.set_cons_succ]; rfl); (intro w1 hC1 E hE; go_wp2; exact .mk (hE _ hC1)))
      refine SeqL.nil ?_
      apply SeqT.last (D := fun u => WB W0 B p (c' ++ [125]) u)
      · rfl
      · simp only [act_put, act_put_none, List.setIfInBounds_toArray, List.set_cons_zero, List.set_cons_succ]
        rfl
      · intro w1 hC1 E hE
        go_wp2_with fail
        refine calls_then (CB.out c' 125 _ hC1.1 HCL.out) ?_
        rintro e w2 ⟨rfl, hb2, hw2⟩
        go_wp2_with fail
        exact .mk (hE _ (hC1.next hb2 hw2))
      intro w1 hC1
      have HR := Lib.hid hC1
      clear hC1 HC0
      go_wp2_with fail
      go_end0
      refine ⟨rfl, _, ?_, ⟨HR.out.1, HS.out.trans HR.out.2⟩⟩
      have hall : kidsB true ns ks i = itemsV true ns ks true := by
        rw [kidsB, HN.out, List.take_length]
        rw [← HLEN.out, List.take_length]
      have h := ((Out.all c [123]).trans HO.out).trans (Out.all c' [125])
      rw [hall] at h
      simpa only [List.append_assoc, List.cons_append, List.nil_append] using h
set_option maxRecDepth 100000 in
set_option maxHeartbeats 4000000 in
theorem wlist_any (d : Nat) (IH : WVal d) (v : JV) (hvk : v.k = 4) (ns : List Bs) (ks : List JT) (kv : List JV) (B p : Nat) (c : Bs) (w0 w : World)
    (hnr : RdS w (fun b => b < B) v.nA (rowsV sCell ns)) (hn : v.nn = ns.length) (hkn : v.kn = ks.length) (hkv : kv.length = ks.length) (hkr : RdS w (fun b => b < B) v.kA (rowsV jvCells kv))
    (hkids : ∀ i (h : i < ks.length) (h' : i < kv.length), JRep w (fun b => b < B) ks[i] kv[i]) (hright : ∀ x ∈ ks, rightV d x = true) (hlen : ns = [])
    (hb : WB w0 B p c w) (hl : c.length + ((91 :: (itemsV false ns ks true ++ [93])) : Bs).length ≤ 1099511627776) :
    Calls Tryz.prog 67 #[.pointer (some ⟨p, 0, none⟩), .agg (jvCells v)] w fun e w' => e = .returned (.tuple #[]) ∧ ∃ c', Out c (91 :: (itemsV false ns ks true ++ [93])) c' ∧ WB w0 B p c' w' := by
  have hu := Tryz.underlying55
  obtain ⟨W0, hW0⟩ : ∃ W0, W0 = w.alloc (.cells (jvCells v) 55) := ⟨_, rfl⟩
  have hb0 : Below w.heap.size w W0 := by rw [hW0]; exact (Below.refl _ w).alloc (Nat.le_refl _) _
  obtain ⟨hBp, hpw⟩ := hb.1.lt
  obtain ⟨G, hG⟩ : ∃ G, G = w.heap.size := ⟨_, rfl⟩
  have HG := Lib.hid (show p < G by omega)
  have hG0 : W0.heap.size = G + 1 := by rw [hW0, hG]; simp
  have HKB := Lib.hid (show Blk W0 G 55 (jvCells v) by rw [hW0, hG]; exact Blk.new _ _ _)
  have HS := Lib.hid (show BK B p w0 W0 from hb.2.trans (.all hb0 (by omega)))
  have HB := Lib.hid (show WB W0 B p c W0 from ⟨hb.1.below hb0, BK.refl _ _ _⟩)
  have HKR := Lib.hid (show Rd W0 B v.kA (rowsV jvCells kv) from (hkr.rd (fun _ _ h => h)).below (hb0.mono (by omega)))
  have HNR := Lib.hid (show Rd W0 B v.nA (rowsV sCell ns) from (hnr.rd (fun _ _ h => h)).below (hb0.mono (by omega)))
  have HKD := Lib.hid (show ∀ i (h : i < ks.length) (h' : i < kv.length), JRep W0 (fun b => b < B) ks[i] kv[i] from fun i h h' => (hkids i h h').under (hb0.mono (by omega)))
  have HRI := Lib.hid hright
  have HL := Lib.hid hl
  have HLEN := Lib.hid hlen
  have HKV := Lib.hid hkv
  obtain ⟨n, hnn⟩ : ∃ n, n = ks.length := ⟨_, rfl⟩
  have HN := Lib.hid hnn
  have HBP := Lib.hid hBp
  have HNL := Lib.hid (show (v.nn : Int) = (ns.length : Int) by rw [hn])
  have HNS := Lib.hid (show (n : Int) ≤ 1099511627776 by
    have h1 := itemsV_len false ks ns true
    have h2 := hl
    simp at h2
    omega)
  have HW0 := Lib.hid hW0
  have CB := Lib.hid (fun (c : Bs) (x : UInt8) (u : World) (h : IsB u B 74 p c) (h2 : c.length + 1 ≤ 140737488355328) => bld_byte jwT B p c x u h h2)
  have CT := Lib.hid (fun (s : ByteArray) (c : Bs) (u : World) (h : IsB u B 74 p c) (h2 : c.length + (quote s.data.toList).length ≤ 1099511627776) => wtext_any s B p c u u ⟨h, BK.refl _ _ _⟩ h2)
  unfold byteV at CB
  obtain ⟨vk, vn, vt, nA, nn, nc, kA, kn, kc⟩ := v
  dsimp only at *
  subst hvk
  obtain rfl : kn = n := by rw [hkn, hnn]
  have a0 : W0.cell? ⟨G, 0, none⟩ = some (.int .i64 4) := HKB.out.cell 0
  have a4 : W0.cell? ⟨G, 4, none⟩ = some (.slice kA kn kc) := HKB.out.cell 4
  clear hb hb0 hG0 hW0 hnr hkr hkids hright hl hlen hkv hnn hn hkn hBp hpw
  rw [hG] at *
  clear hG
  go_enter Tryz.func67, Tryz.ntmps67
  go_upto_region 1 with (fail)
  rw [← HW0.out]
  go_wp2_with fail
  have HC0 := HB.out.drew
  clear a0 a4
  refine wp_region_seqt (fun u => WB W0 B p c u) (fun _ => false) 5 (by kernel_rfl) (by kernel_rfl) (by decide) (by kernel_rfl) HC0 ?_
  simp only [List.take_succ_cons, List.take_zero, List.drop_succ_cons, List.drop_zero]
  iterate 5
    ((first | (apply SeqL.next; rfl; rfl)); (simp only [act_put, act_put_none, List.setIfInBounds_toArray, List.set_cons_zero, List.set_cons_succ]; rfl); (intro w1 hC1 E hE; go_wp2; exact .mk (hE _ hC1)))
  refine SeqL.nil ?_
  apply SeqT.last (D := fun u => WB W0 B p (c ++ [91]) u)
  · rfl
  · simp only [act_put, act_put_none, List.setIfInBounds_toArray, List.set_cons_zero, List.set_cons_succ]
    rfl
  · intro w1 hC1 E hE
    go_wp2_with fail
    refine calls_then (CB.out c 91 _ hC1.1 (by have := HL.out; simp at this; omega)) ?_
    rintro e w2 ⟨rfl, hb2, hw2⟩
    go_wp2_with fail
    exact .mk (hE _ (hC1.next hb2 hw2))
  intro w1 hC1
  have HB1 := Lib.hid hC1
  have hkb1 := hC1.2.blk HKB.out (by have := HG.out; omega) (by decide)
  have a4 : w1.cell? ⟨w.heap.size, 4, none⟩ = some (.slice kA kn kc) := hkb1.cell 4
  clear HC0 hC1 hkb1
  go_wp2_with fail
  go_loopw [19] (fun x wr => ∃ (i : Nat) (c' : Bs), i ≤ kn ∧ x = .int .i64 (i : Int) ∧ Out (c ++ [91]) (kidsB false ns ks i) c' ∧ WB W0 B p c' wr) (fun x _ => kn - (intOf x).toNat)
  case atStart => exact ⟨0, _, by omega, rfl, by simp [kidsB, itemsV]; exact Out.refl _, HB1.out⟩
  case round =>
    obtain ⟨i, c', hi, rfl, hout, hwr⟩ := hrel
    have HO := Lib.hid hout
    have HWR := Lib.hid hwr
    clear hout hwr
    by_cases hlt : i < kn
    · have hik : i < ks.length := by rw [← HN.out]; exact hlt
      have hiv : i < kv.length := by rw [HKV.out]; exact hik
      have hlt' : (i : Int) < (kn : Int) := by omega
      have HLT := Lib.hid hlt
      obtain ⟨ad, hA, hadb, hcell⟩ := rd_rows (f := jvCells) (m := 5) (fun _ => rfl) (by decide) HKR.out hiv
      subst hA
      obtain ⟨X, hX⟩ : ∃ X, X = kv[i] := ⟨_, rfl⟩
      obtain ⟨J, hJ⟩ : ∃ J, J = ks[i] := ⟨_, rfl⟩
      have HJX := Lib.hid (show JRep W0 (fun b => b < B) J X by rw [hX, hJ]; exact HKD.out i hik hiv)
      have HJR := Lib.hid (show rightV d J = true by rw [hJ]; exact HRI.out _ (List.getElem_mem hik))
      have HST := StepK.mk (show kidsB false ns ks (i + 1) = kidsB false ns ks i ++ ((if i = 0 then [] else [44]) ++ writeV J) by rw [hJ, HLEN.out]; exact kidsB_list hik)
      have HLN := Lib.hid (show (c ++ [91]).length + (kidsB false ns ks (i + 1)).length ≤ 1099511627776 by
        have h1 := kidsB_len false ns ks (i + 1)
        have h2 := HL.out
        simp at h2 ⊢
        omega)
      rw [← hX] at hcell
      have HCE := Lib.hid (show ∀ u, Below B W0 u → ∀ j x, (jvCells X).toList[j]? = some x → u.cell? ((ad.add (i * 5)).add j) = some x from fun u hu j x hx => by
        rw [hu.cell (p := (ad.add (i * 5)).add j) (by rw [block_of_add, block_of_add]; exact hadb)]
        exact hcell j x (by simpa using hx))
      clear hX hJ hcell hik hiv
      go_upto_if 25 with (first
        | (refine wpList_get_rd (r := (jvCells X).toList) (HCE.out _ HWR.out.2.below) rfl rfl rfl hu rfl jT_size ?_)
        | (refine wpList_put_box (x := .tmp 6) (cells := jvCells X) (Blk.new _ _ _) rfl rfl rfl rfl jT_size rfl (jvCells_one X) ?_; intro w2 hb2 hw2; have hk2 := box_low9 hw2; have HK2 := Lib.hid (Blk.keep9 hb2); have HW2 := Lib.hid (show WB W0 B p c' w2 from ⟨HWR.out.1.below hk2, HWR.out.2.trans (.all hk2 (by have := HWR.out.1.lt; omega))⟩); have HSZ := Lib.hid (show p < wr.heap.size from HWR.out.1.lt.2)))
      generalize hkb : wr.heap.size = kb at *
      go_cut [] (fun wx => ∃ c1 : Bs, Out (c ++ [91]) (kidsB false ns ks i ++ (if i = 0 then [] else [44])) c1 ∧ WB W0 B p c1 wx ∧ Blk wx kb 55 (jvCells X))
      case first =>
        go_wp2_with fail
        · have H0 := Lib.hid (show ¬ i = 0 by omega)
          refine calls_then (CB.out c' 44 _ HW2.out.1 (by have h1 := HO.out.2.1; have h2 := HLN.out; rw [HST.eq] at h2; simp at h1 h2; omega)) ?_
          rintro e w3 ⟨rfl, hb3, hw3⟩
          have HW3 := Lib.hid (HW2.out.next hb3 hw3)
          have HK3 := Lib.hid (hw3.blk HK2.out (by have := HSZ.out; omega) (by decide))
          clear hb3 hw3
          go_wp2_with fail
          go_meet
          exact ⟨_, by rw [if_neg H0.out]; exact HO.out.trans (Out.all _ _), HW3.out, HK3.out⟩
        · have H0 := Lib.hid (show i = 0 by omega)
          go_meet
          exact ⟨c', by rw [if_pos H0.out, List.append_nil]; exact HO.out, HW2.out, HK2.out⟩
      case rest =>
      obtain ⟨c1, hout1, hw3, hk3⟩ := hcut
      have HO1 := Lib.hid hout1
      have HW3 := Lib.hid hw3
      have HK3 := Lib.hid hk3
      have hkb3 := hw3.2.blk HKB.out (by have := HG.out; omega) (by decide)
      have a0 : wc.cell? ⟨w.heap.size, 0, none⟩ = some (.int .i64 4) := hkb3.cell 0
      have HT := Lib.hid (show (c ++ [91]).length + ((kidsB false ns ks i).length + (if i = 0 then [] else [44] : Bs).length) + ((writeV J).length) ≤ 1099511627776 by
        have h2 := HLN.out
        rw [HST.eq] at h2
        simp only [List.length_append, List.length_cons, List.length_nil] at h2 ⊢
        omega)
      have HT1 := Lib.hid (show c1.length ≤ (c ++ [91]).length + ((kidsB false ns ks i).length + (if i = 0 then [] else [44] : Bs).length) by
        have h1 := HO1.out.2.1
        rw [app_len (kidsB false ns ks i)] at h1
        exact h1)
      go_wp2_with (refine wpList_get_box (x := .tmp 6) (cs := jvCells X) HK3.out rfl rfl rfl hu rfl jT_size ?_)
      have HW5 := Lib.hid HW3.out
      clear hout1 hw3 hk3 hkb3
      refine calls_then (IH J X B p c1 W0 _ HJR.out (HJX.out.under HW5.out.2.below) HW5.out (by have h1 := HT.out; have h2 := HT1.out; simp only [List.length_append, List.length_cons, List.length_nil] at h1 h2 ⊢; omega)) ?_
      rintro e w6 ⟨rfl, c4, ho4, hw6⟩
      have HO4 := Lib.hid ho4
      have HW6 := Lib.hid hw6
      clear ho4 hw6
      have hns := HNS.out
      have hlt9 := HLT.out
      go_wp2_with fail
      go_roundw
      case rel => exact ⟨i + 1, c4, HLT.out, by go_num, by rw [HST.eq]; have h := HO1.out.trans HO4.out; simpa only [List.append_assoc] using h, HW6.out⟩
      case measure => have := HLT.out; simp [intOf]; omega
    · obtain rfl : i = kn := by omega
      have HCL := Lib.hid (show c'.length + 1 ≤ 140737488355328 by
        have h1 := HO.out.2.1
        have h2 := kidsB_len false ns ks i
        have h3 := HL.out
        simp at h1 h3
        omega)
      have HC0 := HWR.out.drew
      go_wp2_with fail
      refine wp_region_seqt (fun u => WB W0 B p c' u) (fun _ => false) 5 (by kernel_rfl) (by kernel_rfl) (by decide) (by kernel_rfl) HC0 ?_
      simp only [List.take_succ_cons, List.take_zero, List.drop_succ_cons, List.drop_zero]
      iterate 5
        ((first | (apply SeqL.next; rfl; rfl)); (simp only [act_put, act_put_none, List.setIfInBounds_toArray, List.set_cons_zero, List.set_cons_succ]; rfl); (intro w1 hC1 E hE; go_wp2; exact .mk (hE _ hC1)))
      refine SeqL.nil ?_
      apply SeqT.last (D := fun u => WB W0 B p (c' ++ [93]) u)
      · rfl
      · simp only [act_put, act_put_none, List.setIfInBounds_toArray, List.set_cons_zero, List.set_cons_succ]
        rfl
      · intro w1 hC1 E hE
        go_wp2_with fail
        refine calls_then (CB.out c' 93 _ hC1.1 HCL.out) ?_
        rintro e w2 ⟨rfl, hb2, hw2⟩
        go_wp2_with fail
        exact .mk (hE _ (hC1.next hb2 hw2))
      intro w1 hC1
      have HR := Lib.hid hC1
      clear hC1 HC0
      go_wp2_with fail
      go_end0
      refine ⟨rfl, _, ?_, ⟨HR.out.1, HS.out.trans HR.out.2⟩⟩
      have hall : kidsB false ns ks i = itemsV false ns ks true := by
        rw [kidsB, HN.out, List.take_length]
        rw [HLEN.out, List.take_nil]
      have h := ((Out.all c [91]).trans HO.out).trans (Out.all c' [93])
      rw [hall] at h
      simpa only [List.append_assoc, List.cons_append, List.nil_append] using h
end Go.Proofs.YtoihgnkhalhocaaGreatDoor.Js
/-
  Walk: json's writer: a value.
-/
namespace Go.Proofs.YtoihgnkhalhocaaGreatDoor.Js
set_option linter.unusedSimpArgs false
set_option linter.unusedVariables false
open Go.RowKit
set_option maxRecDepth 100000 in
set_option maxHeartbeats 4000000 in
theorem wval_step (d : Nat) (IH : ∀ d', d' < d → WVal d') : WVal d := by
  intro j v B p c w0 w hr hj hb hl
  have hu := Tryz.underlying55
  obtain ⟨ns, ks, kv, rfl, hn, _, hnr, hkn, _, hkv, hkr, hkids⟩ := hj.inv
  obtain ⟨W0, hW0⟩ : ∃ W0, W0 = w.alloc (.cells (jvCells v) 55) := ⟨_, rfl⟩
  have hb0 : Below w.heap.size w W0 := by rw [hW0]; exact (Below.refl _ w).alloc (Nat.le_refl _) _
  obtain ⟨hBp, hpw⟩ := hb.1.lt
  obtain ⟨G, hG⟩ : ∃ G, G = w.heap.size := ⟨_, rfl⟩
  have HG := Lib.hid (show p < G by omega)
  have HKB := Lib.hid (show Blk W0 G 55 (jvCells v) by rw [hW0, hG]; exact Blk.new _ _ _)
  have HS := Lib.hid (show BK B p w0 W0 from hb.2.trans (.all hb0 (by omega)))
  have HB := Lib.hid (show WB W0 B p c W0 from ⟨hb.1.below hb0, BK.refl _ _ _⟩)
  have HW0 := Lib.hid hW0
  have CL := Lib.hid (fun (u : World) (h : IsB u B 74 p c) => bld_len B p c u h)
  have CS := Lib.hid (fun (x : ByteArray) (u : World) (h : IsB u B 74 p c) (h2 : c.length + x.size ≤ 140737488355328) => bld_str jwT B p c x u h h2)
  have HL := Lib.hid hl
  have hfin : ∀ x (w' : World), WB W0 B p x w' → WB w0 B p x w' := fun x w' h => ⟨h.1, HS.out.trans h.2⟩
  have HF := Lib.hid hfin
  rw [rightV] at hr
  simp only [plainJ, Bool.and_eq_true, Bool.or_eq_true, Bool.not_eq_true', beq_iff_eq, decide_eq_true_eq, List.isEmpty_iff, bne_iff_ne] at hr
  obtain ⟨⟨⟨⟨⟨⟨⟨⟨⟨⟨⟨hvn, hvk⟩, hvns⟩, hvt⟩, hd⟩, hk0⟩, hlen⟩, hot⟩, _⟩, hint⟩, _⟩, hks⟩ := hr
  have HI := Lib.hid hint
  clear hint
  have HKI := Lib.hid (show ∀ i (h : i < ks.length) (h' : i < kv.length), JRep W0 (fun b => b < B) ks[i] kv[i] from fun i h h' => (hkids i h h').under (hb0.mono (by omega)))
  have HNR := Lib.hid (show RdS W0 (fun b => b < B) v.nA (rowsV sCell ns) from hnr.heap fun b _ hb' => hb0.block b (by omega))
  have HKR := Lib.hid (show RdS W0 (fun b => b < B) v.kA (rowsV jvCells kv) from hkr.heap fun b _ hb' => hb0.block b (by omega))
  clear hW0 hb0 hb hl hfin hnr hkr hkids
  obtain ⟨vk, vn, vt, nA, nn, nc, kA, kn, kc⟩ := v
  dsimp only at *
  subst hn hkn
  have a0 : W0.cell? ⟨G, 0, none⟩ = some (.int .i64 vk) := HKB.out.cell 0
  have a1 : W0.cell? ⟨G, 1, none⟩ = some (.int .i64 vn) := HKB.out.cell 1
  have a2 : W0.cell? ⟨G, 2, none⟩ = some (.string (bs vt)) := HKB.out.cell 2
  rw [hG] at *
  clear hG hBp hpw
  go_enter Tryz.func37, Tryz.ntmps37
  go_upto_region 1 with (fail)
  rw [← HW0.out]
  go_wp2_with fail
  refine calls_then (CL.out _ HB.out.1) ?_
  rintro e W1 ⟨rfl, rfl⟩
  by_cases hlong : 2000 < c.length
  · have hc : (2000 : Int) < (c.length : Int) := by omega
    go_wp2_with fail
    refine bodyPost_ret (results_none rfl _ _ _) rfl ?_
    exact ⟨rfl, c, Out.stop _ hlong, HF.out _ _ HB.out⟩
  · have hc : ¬ (2000 : Int) < (c.length : Int) := by omega
    have HLG := Lib.hid hlong
    clear hlong
    have hvk4 : vk = 0 ∨ vk = 1 ∨ vk = 2 ∨ vk = 3 ∨ vk = 4 ∨ vk = 5 := by omega
    rcases hvk4 with rfl | rfl | rfl | rfl | rfl | rfl
    · go_wp2_with fail
      refine calls_then (CS.out _ _ HB.out.1 (by have := HLG.out; simp [ByteArray.size]; omega)) ?_
      rintro e w2 ⟨rfl, hb2, hw2⟩
      have HB2 := Lib.hid (HB.out.next hb2 hw2)
      clear hb2 hw2
      go_wp2_with fail
      go_end0
      exact ⟨rfl, _, Out.all _ _, HF.out _ _ HB2.out⟩
    · have hvn' : vn = 0 ∨ vn = 1 := by
        simp at hvn
        exact hvn
      clear hvn
      rcases hvn' with rfl | rfl
      · clear hvk hvns hvt hd hk0 hlen hot hks hkv
        have HGP := Lib.hid (show w.heap.size ≠ p by have := HG.out; omega)
        go_wp2_with fail
        have HC0 : BK B p W1 W1.drew := HB.out.2.drew
        have HI0 : IsB W1.drew B 74 p c := HB.out.1
        refine wp_region_list (fun u => BK B p W1 u) (fun | false => (fun u => IsB u B 74 p c) | true => (fun _ => True)) (fun | false, i => i == 8 | true, _ => false)
          [fun z _ => z 0 = .pointer (some ⟨p, 0, none⟩),
           fun z _ => z 1 = .pointer (some ⟨p, 0, none⟩),
           fun z _ => z 2 = .pointer (some ⟨p, 0, none⟩),
           fun z u => (fun v u => ∃ g, v = .slice (some ⟨g, 0, none⟩) 2 2 ∧ Blk u g 9 #[.string ⟨#[102, 97, 108, 115, 101]⟩, .string ⟨#[116, 114, 117, 101]⟩]) (z 3) u,
           fun z _ => z 4 = .pointer (some ⟨w.heap.size, 1, none⟩),
           fun z _ => z 5 = .int .i64 0,
           fun z u => (fun v u => ∃ g, v = .pointer (some ⟨g, 0, none⟩) ∧ Blk u g 9 #[.string ⟨#[102, 97, 108, 115, 101]⟩, .string ⟨#[116, 114, 117, 101]⟩]) (z 6) u,
           fun z _ => z 7 = .string ⟨#[102, 97, 108, 115, 101]⟩,
           fun z u => IsB u B 74 p (c ++ [102, 97, 108, 115, 101])]
          [Eq, Eq, Eq, fun u u' => Below u.heap.size u u', Eq, Eq, Eq, Eq, fun _ _ => True]
          (fun i k => (i == 8 && k == 3) || (i == 8 && k == 6)) [(0, some 22), (1, some 23), (2, some 24), (3, some 25), (4, some 26), (5, some 27), (6, some 28), (7, some 29), (8, some 30)] (by kernel_rfl) (by kernel_rfl) rfl (fun _ => rfl) ?_ ?_ ?_ ?_ ?_ ?_
        · exact HC0
        · intro m; cases m; exact HI0; exact trivial
        · intro m; cases m
          · exact ⟨.inr (fun _ _ h h0 => h ▸ h0), .inr (fun _ _ h h0 => h ▸ h0), .inr (fun _ _ h h0 => h ▸ h0), .inr (fun _ _ h h0 => h0.below h), .inr (fun _ _ h h0 => h ▸ h0), .inr (fun _ _ h h0 => h ▸ h0), .inr (fun _ _ h h0 => h ▸ h0), .inr (fun _ _ h h0 => h ▸ h0), .inl rfl, trivial⟩
          · exact ⟨.inr (fun _ _ h h0 => h ▸ h0), .inr (fun _ _ h h0 => h ▸ h0), .inr (fun _ _ h h0 => h ▸ h0), .inr (fun _ _ _ h => h), .inr (fun _ _ h h0 => h ▸ h0), .inr (fun _ _ h h0 => h ▸ h0), .inr (fun _ _ h h0 => h ▸ h0), .inr (fun _ _ h h0 => h ▸ h0), .inr (fun _ _ _ h => h), trivial⟩
        · exact ⟨⟨.inl rfl, .inr (.inr (.inl rfl)), .inr (.inr (.inl rfl)), .inr (.inr (.inr (fun _ _ _ _ h h0 => by cases h; exact h0))), .inr (.inr (.inr (fun _ _ _ _ _ h => h))), .inr (.inr (.inr (fun _ _ _ _ _ h => h))), .inr (.inr (.inr (fun _ _ _ _ h h0 => by cases h; exact h0))), .inr (.inr (.inr (fun _ _ _ _ _ h => h))), .inr (.inr (.inl rfl)), trivial⟩,
            ⟨.inr (.inr (.inr (fun _ _ _ _ _ h => h))), .inl rfl, .inr (.inr (.inl rfl)), .inr (.inr (.inr (fun _ _ _ _ h h0 => by cases h; exact h0))), .inr (.inr (.inr (fun _ _ _ _ _ h => h))), .inr (.inr (.inr (fun _ _ _ _ _ h => h))), .inr (.inr (.inr (fun _ _ _ _ h h0 => by cases h; exact h0))), .inr (.inr (.inr (fun _ _ _ _ _ h => h))), .inr (.inr (.inl rfl)), trivial⟩,
            ⟨.inr (.inr (.inr (fun _ _ _ _ _ h => h))), .inr (.inr (.inr (fun _ _ _ _ _ h => h))), .inl rfl, .inr (.inr (.inr (fun _ _ _ _ h h0 => by cases h; exact h0))), .inr (.inr (.inr (fun _ _ _ _ _ h => h))), .inr (.inr (.inr (fun _ _ _ _ _ h => h))), .inr (.inr (.inr (fun _ _ _ _ h h0 => by cases h; exact h0))), .inr (.inr (.inr (fun _ _ _ _ _ h => h))), .inr (.inr (.inl rfl)), trivial⟩,
            ⟨.inr (.inr (.inr (fun _ _ _ _ _ h => h))), .inr (.inr (.inr (fun _ _ _ _ _ h => h))), .inr (.inr (.inr (fun _ _ _ _ _ h => h))), .inl rfl, .inr (.inr (.inr (fun _ _ _ _ _ h => h))), .inr (.inr (.inr (fun _ _ _ _ _ h => h))), .inr (.inr (.inl rfl)), .inr (.inr (.inl rfl)), .inr (.inr (.inl rfl)), trivial⟩,
            ⟨.inr (.inr (.inr (fun _ _ _ _ _ h => h))), .inr (.inr (.inr (fun _ _ _ _ _ h => h))), .inr (.inr (.inr (fun _ _ _ _ _ h => h))), .inr (.inr (.inr (fun _ _ _ _ h h0 => by cases h; exact h0))), .inl rfl, .inr (.inr (.inl rfl)), .inr (.inr (.inl rfl)), .inr (.inr (.inl rfl)), .inr (.inr (.inr (fun _ _ _ _ h h0 => by cases h; exact h0))), trivial⟩,
            ⟨.inr (.inr (.inr (fun _ _ _ _ _ h => h))), .inr (.inr (.inr (fun _ _ _ _ _ h => h))), .inr (.inr (.inr (fun _ _ _ _ _ h => h))), .inr (.inr (.inr (fun _ _ _ _ h h0 => by cases h; exact h0))), .inr (.inr (.inr (fun _ _ _ _ _ h => h))), .inl rfl, .inr (.inr (.inl rfl)), .inr (.inr (.inl rfl)), .inr (.inr (.inl rfl)), trivial⟩,
            ⟨.inr (.inr (.inr (fun _ _ _ _ _ h => h))), .inr (.inr (.inr (fun _ _ _ _ _ h => h))), .inr (.inr (.inr (fun _ _ _ _ _ h => h))), .inr (.inr (.inr (fun _ _ _ _ h h0 => by cases h; exact h0))), .inr (.inr (.inr (fun _ _ _ _ _ h => h))), .inr (.inr (.inr (fun _ _ _ _ _ h => h))), .inl rfl, .inr (.inr (.inl rfl)), .inr (.inr (.inl rfl)), trivial⟩,
            ⟨.inr (.inr (.inr (fun _ _ _ _ _ h => h))), .inr (.inr (.inr (fun _ _ _ _ _ h => h))), .inr (.inr (.inr (fun _ _ _ _ _ h => h))), .inr (.inr (.inr (fun _ _ _ _ h h0 => by cases h; exact h0))), .inr (.inr (.inr (fun _ _ _ _ _ h => h))), .inr (.inr (.inr (fun _ _ _ _ _ h => h))), .inr (.inr (.inr (fun _ _ _ _ h h0 => by cases h; exact h0))), .inl rfl, .inr (.inr (.inl rfl)), trivial⟩,
            ⟨.inr (.inr (.inr (fun _ _ _ _ _ h => h))), .inr (.inr (.inr (fun _ _ _ _ _ h => h))), .inr (.inr (.inr (fun _ _ _ _ _ h => h))), .inr (.inl rfl), .inr (.inr (.inr (fun _ _ _ _ _ h => h))), .inr (.inr (.inr (fun _ _ _ _ _ h => h))), .inr (.inl rfl), .inr (.inr (.inr (fun _ _ _ _ _ h => h))), .inl rfl, trivial⟩, trivial⟩
        · refine ⟨?_, ?_, ?_, ?_, ?_, ?_, ?_, ?_, ?_, trivial⟩
          · -- 0: Op.move (Operand.tmp 0)
            refine step_plain [] (fun _ => rfl) rfl ?_
            intro w1 vals hC1 hi0 hf E hE
            have hI1 : (fun u => IsB u B 74 p c) w1 := hi0 false rfl
            try dsimp only at hI1
            clear hi0
            clear hf
            simp only [puts, act_put, act_put_none, List.setIfInBounds_toArray, List.set_cons_zero, List.set_cons_succ] at hE ⊢
            go_wp2
            exact .mk (hE _ _ rfl hC1 rfl)
          · -- 1: Op.nilCheck (Operand.tmp 22)
            refine step_plain [(0, some 22)] (fun _ => rfl) rfl ?_
            intro w1 vals hC1 hi0 hf E hE
            have hI1 : (fun u => IsB u B 74 p c) w1 := hi0 false rfl
            try dsimp only at hI1
            clear hi0
            have f0 : vals 0 = .pointer (some ⟨p, 0, none⟩) := hf 0 rfl
            try dsimp only at f0
            clear hf
            simp only [puts, act_put, act_put_none, List.setIfInBounds_toArray, List.set_cons_zero, List.set_cons_succ, f0] at hE ⊢
            clear f0
            go_wp2
            exact .mk (hE _ _ rfl hC1 rfl)
          · -- 2: Op.fieldAddr 74 (Operand.tmp 23) 0
            refine step_plain [(1, some 23)] (fun _ => rfl) rfl ?_
            intro w1 vals hC1 hi0 hf E hE
            have hI1 : (fun u => IsB u B 74 p c) w1 := hi0 false rfl
            try dsimp only at hI1
            clear hi0
            have f1 : vals 1 = .pointer (some ⟨p, 0, none⟩) := hf 1 rfl
            try dsimp only at f1
            clear hf
            simp only [puts, act_put, act_put_none, List.setIfInBounds_toArray, List.set_cons_zero, List.set_cons_succ, f1] at hE ⊢
            clear f1
            go_wp2
            exact .mk (hE _ _ rfl hC1 rfl)
          · -- 3: Op.buildSlice 49 2 #[(0, Operand.const (Value.string { data := #[102, 97, 108, 115, 101] })), (1, Operand.cons
            refine step_plain [] (fun _ => rfl) rfl ?_
            intro w1 vals hC1 hi0 hf E hE
            have hI1 : (fun u => IsB u B 74 p c) w1 := hi0 false rfl
            try dsimp only at hI1
            clear hi0
            clear hf
            simp only [puts, act_put, act_put_none, List.setIfInBounds_toArray, List.set_cons_zero, List.set_cons_succ] at hE ⊢
            go_wp2
            exact .mk (hE _ _ ⟨_, rfl, Blk.new _ _ _⟩ (hC1.trans (.all ((Below.refl _ _).alloc (Nat.le_refl _) _) (by have := hI1.lt; omega))) ((Below.refl _ _).alloc (Nat.le_refl _) _))
          · -- 4: Op.fieldAddr 55 (Operand.tmp 3) 1
            refine step_plain [] (fun _ => rfl) rfl ?_
            intro w1 vals hC1 hi0 hf E hE
            clear hi0
            clear hf
            simp only [puts, act_put, act_put_none, List.setIfInBounds_toArray, List.set_cons_zero, List.set_cons_succ] at hE ⊢
            go_wp2
            exact .mk (hE _ _ rfl hC1 rfl)
          · -- 5: Op.load 3 (Operand.tmp 26)
            refine step_plain [(4, some 26)] (fun _ => rfl) rfl ?_
            intro w1 vals hC1 hi0 hf E hE
            have hI1 : (fun u => IsB u B 74 p c) w1 := hi0 false rfl
            try dsimp only at hI1
            clear hi0
            have f4 : vals 4 = .pointer (some ⟨w.heap.size, 1, none⟩) := hf 4 rfl
            try dsimp only at f4
            clear hf
            have a9 : w1.cell? ⟨w.heap.size, 1, none⟩ = some (.int .i64 0) := (hC1.blk HKB.out HGP.out (by decide)).cell 1
            simp only [puts, act_put, act_put_none, List.setIfInBounds_toArray, List.set_cons_zero, List.set_cons_succ, f4] at hE ⊢
            clear f4
            go_wp2
            exact .mk (hE _ _ rfl hC1 rfl)
          · -- 6: Op.indexAddr 49 (Operand.tmp 25) (Operand.tmp 27)
            refine step_plain [(3, some 25), (5, some 27)] (fun _ => rfl) rfl ?_
            intro w1 vals hC1 hi0 hf E hE
            have hI1 : (fun u => IsB u B 74 p c) w1 := hi0 false rfl
            try dsimp only at hI1
            clear hi0
            have f3 : (fun v u => ∃ g, v = .slice (some ⟨g, 0, none⟩) 2 2 ∧ Blk u g 9 #[.string ⟨#[102, 97, 108, 115, 101]⟩, .string ⟨#[116, 114, 117, 101]⟩]) (vals 3) w1 := hf 3 rfl
            have f5 : vals 5 = .int .i64 0 := hf 5 rfl
            try dsimp only at f3 f5
            clear hf
            obtain ⟨g3, hx3, hg3⟩ := f3
            simp only [puts, act_put, act_put_none, List.setIfInBounds_toArray, List.set_cons_zero, List.set_cons_succ, f5, hx3] at hE ⊢
            clear f5
            clear hx3
            go_wp2
            exact .mk (hE _ _ ⟨g3, rfl, hg3⟩ hC1 rfl)
          · -- 7: Op.load 9 (Operand.tmp 28)
            refine step_plain [(6, some 28)] (fun _ => rfl) rfl ?_
            intro w1 vals hC1 hi0 hf E hE
            have hI1 : (fun u => IsB u B 74 p c) w1 := hi0 false rfl
            try dsimp only at hI1
            clear hi0
            have f6 : (fun v u => ∃ g, v = .pointer (some ⟨g, 0, none⟩) ∧ Blk u g 9 #[.string ⟨#[102, 97, 108, 115, 101]⟩, .string ⟨#[116, 114, 117, 101]⟩]) (vals 6) w1 := hf 6 rfl
            try dsimp only at f6
            clear hf
            obtain ⟨g6, hx6, hg6⟩ := f6
            have a9 := hg6.cell 0
            simp only [puts, act_put, act_put_none, List.setIfInBounds_toArray, List.set_cons_zero, List.set_cons_succ, hx6] at hE ⊢
            clear hx6
            go_wp2
            exact .mk (hE _ _ rfl hC1 rfl)
          · -- 8: Op.call { callee := Callee.value (Operand.func 64), args := #[Operand.tmp 24, Operand.tmp 29], argTypes := #[7
            refine step_plain [(2, some 24), (7, some 29)] (fun _ => rfl) rfl ?_
            intro w1 vals hC1 hi0 hf E hE
            have hI1 : (fun u => IsB u B 74 p c) w1 := hi0 false rfl
            try dsimp only at hI1
            clear hi0
            have f2 : vals 2 = .pointer (some ⟨p, 0, none⟩) := hf 2 rfl
            have f7 : vals 7 = .string ⟨#[102, 97, 108, 115, 101]⟩ := hf 7 rfl
            try dsimp only at f2 f7
            clear hf
            simp only [puts, act_put, act_put_none, List.setIfInBounds_toArray, List.set_cons_zero, List.set_cons_succ, f2, f7] at hE ⊢
            clear f2 f7
            go_wp2_with fail
            refine calls_then (CS.out _ _ hI1 (by have := HLG.out; simp [ByteArray.size]; omega)) ?_
            rintro e w2 ⟨rfl, hb2, hw2⟩
            go_wp2_with fail
            exact .mk (hE _ _ hb2 (hC1.trans hw2) trivial)
        intro w1 vals hC1 hf
        have f0 : vals 0 = .pointer (some ⟨p, 0, none⟩) := hf 0 (by decide) rfl
        have f1 : vals 1 = .pointer (some ⟨p, 0, none⟩) := hf 1 (by decide) rfl
        have f2 : vals 2 = .pointer (some ⟨p, 0, none⟩) := hf 2 (by decide) rfl
        have f4 : vals 4 = .pointer (some ⟨w.heap.size, 1, none⟩) := hf 4 (by decide) rfl
        have f5 : vals 5 = .int .i64 0 := hf 5 (by decide) rfl
        have f7 : vals 7 = .string ⟨#[102, 97, 108, 115, 101]⟩ := hf 7 (by decide) rfl
        have f8 : (fun z u => IsB u B 74 p (c ++ [102, 97, 108, 115, 101])) vals w1 := hf 8 (by decide) rfl
        try dsimp only at f0 f1 f2 f4 f5 f7 f8
        clear hf
        simp only [puts, act_put, act_put_none, List.setIfInBounds_toArray, List.set_cons_zero, List.set_cons_succ, f0, f1, f2, f4, f5, f7]
        clear f0 f1 f2 f4 f5 f7
        generalize vals 3 = x3 at *
        generalize vals 6 = x6 at *
        generalize vals 8 = x8 at *
        have HR := Lib.hid (show WB W1 B p (c ++ [102, 97, 108, 115, 101]) _ from ⟨f8, hC1⟩)
        clear HC0 HI0 hC1 f8
        go_wp2_with fail
        go_end0
        exact ⟨rfl, _, by rw [writeV, if_neg (by decide), if_pos rfl]; exact Out.all _ _, HF.out _ _ HR.out⟩
      · clear hvk hvns hvt hd hk0 hlen hot hks hkv
        have HGP := Lib.hid (show w.heap.size ≠ p by have := HG.out; omega)
        go_wp2_with fail
        have HC0 : BK B p W1 W1.drew := HB.out.2.drew
        have HI0 : IsB W1.drew B 74 p c := HB.out.1
        refine wp_region_list (fun u => BK B p W1 u) (fun | false => (fun u => IsB u B 74 p c) | true => (fun _ => True)) (fun | false, i => i == 8 | true, _ => false)
          [fun z _ => z 0 = .pointer (some ⟨p, 0, none⟩),
           fun z _ => z 1 = .pointer (some ⟨p, 0, none⟩),
           fun z _ => z 2 = .pointer (some ⟨p, 0, none⟩),
           fun z u => (fun v u => ∃ g, v = .slice (some ⟨g, 0, none⟩) 2 2 ∧ Blk u g 9 #[.string ⟨#[102, 97, 108, 115, 101]⟩, .string ⟨#[116, 114, 117, 101]⟩]) (z 3) u,
           fun z _ => z 4 = .pointer (some ⟨w.heap.size, 1, none⟩),
           fun z _ => z 5 = .int .i64 1,
           fun z u => (fun v u => ∃ g, v = .pointer (some ⟨g, 1, none⟩) ∧ Blk u g 9 #[.string ⟨#[102, 97, 108, 115, 101]⟩, .string ⟨#[116, 114, 117, 101]⟩]) (z 6) u,
           fun z _ => z 7 = .string ⟨#[116, 114, 117, 101]⟩,
           fun z u => IsB u B 74 p (c ++ [116, 114, 117, 101])]
          [Eq, Eq, Eq, fun u u' => Below u.heap.size u u', Eq, Eq, Eq, Eq, fun _ _ => True]
          (fun i k => (i == 8 && k == 3) || (i == 8 && k == 6)) [(0, some 22), (1, some 23), (2, some 24), (3, some 25), (4, some 26), (5, some 27), (6, some 28), (7, some 29), (8, some 30)] (by kernel_rfl) (by kernel_rfl) rfl (fun _ => rfl) ?_ ?_ ?_ ?_ ?_ ?_
        · exact HC0
        · intro m; cases m; exact HI0; exact trivial
        · intro m; cases m
          · exact ⟨.inr (fun _ _ h h0 => h ▸ h0), .inr (fun _ _ h h0 => h ▸ h0), .inr (fun _ _ h h0 => h ▸ h0), .inr (fun _ _ h h0 => h0.below h), .inr (fun _ _ h h0 => h ▸ h0), .inr (fun _ _ h h0 => h ▸ h0), .inr (fun _ _ h h0 => h ▸ h0), .inr (fun _ _ h h0 => h ▸ h0), .inl rfl, trivial⟩
          · exact ⟨.inr (fun _ _ h h0 => h ▸ h0), .inr (fun _ _ h h0 => h ▸ h0), .inr (fun _ _ h h0 => h ▸ h0), .inr (fun _ _ _ h => h), .inr (fun _ _ h h0 => h ▸ h0), .inr (fun _ _ h h0 => h ▸ h0), .inr (fun _ _ h h0 => h ▸ h0), .inr (fun _ _ h h0 => h ▸ h0), .inr (fun _ _ _ h => h), trivial⟩
        · exact ⟨⟨.inl rfl, .inr (.inr (.inl rfl)), .inr (.inr (.inl rfl)), .inr (.inr (.inr (fun _ _ _ _ h h0 => by cases h; exact h0))), .inr (.inr (.inr (fun _ _ _ _ _ h => h))), .inr (.inr (.inr (fun _ _ _ _ _ h => h))), .inr (.inr (.inr (fun _ _ _ _ h h0 => by cases h; exact h0))), .inr (.inr (.inr (fun _ _ _ _ _ h => h))), .inr (.inr (.inl rfl)), trivial⟩,
            ⟨.inr (.inr (.inr (fun _ _ _ _ _ h => h))), .inl rfl, .inr (.inr (.inl rfl)), .inr (.inr (.inr (fun _ _ _ _ h h0 => by cases h; exact h0))), .inr (.inr (.inr (fun _ _ _ _ _ h => h))), .inr (.inr (.inr (fun _ _ _ _ _ h => h))), .inr (.inr (.inr (fun _ _ _ _ h h0 => by cases h; exact h0))), .inr (.inr (.inr (fun _ _ _ _ _ h => h))), .inr (.inr (.inl rfl)), trivial⟩,
            ⟨.inr (.inr (.inr (fun _ _ _ _ _ h => h))), .inr (.inr (.inr (fun _ _ _ _ _ h => h))), .inl rfl, .inr (.inr (.inr (fun _ _ _ _ h h0 => by cases h; exact h0))), .inr (.inr (.inr (fun _ _ _ _ _ h => h))), .inr (.inr (.inr (fun _ _ _ _ _ h => h))), .inr (.inr (.inr (fun _ _ _ _ h h0 => by cases h; exact h0))), .inr (.inr (.inr (fun _ _ _ _ _ h => h))), .inr (.inr (.inl rfl)), trivial⟩,
            ⟨.inr (.inr (.inr (fun _ _ _ _ _ h => h))), .inr (.inr (.inr (fun _ _ _ _ _ h => h))), .inr (.inr (.inr (fun _ _ _ _ _ h => h))), .inl rfl, .inr (.inr (.inr (fun _ _ _ _ _ h => h))), .inr (.inr (.inr (fun _ _ _ _ _ h => h))), .inr (.inr (.inl rfl)), .inr (.inr (.inl rfl)), .inr (.inr (.inl rfl)), trivial⟩,
            ⟨.inr (.inr (.inr (fun _ _ _ _ _ h => h))), .inr (.inr (.inr (fun _ _ _ _ _ h => h))), .inr (.inr (.inr (fun _ _ _ _ _ h => h))), .inr (.inr (.inr (fun _ _ _ _ h h0 => by cases h; exact h0))), .inl rfl, .inr (.inr (.inl rfl)), .inr (.inr (.inl rfl)), .inr (.inr (.inl rfl)), .inr (.inr (.inr (fun _ _ _ _ h h0 => by cases h; exact h0))), trivial⟩,
            ⟨.inr (.inr (.inr (fun _ _ _ _ _ h => h))), .inr (.inr (.inr (fun _ _ _ _ _ h => h))), .inr (.inr (.inr (fun _ _ _ _ _ h => h))), .inr (.inr (.inr (fun _ _ _ _ h h0 => by cases h; exact h0))), .inr (.inr (.inr (fun _ _ _ _ _ h => h))), .inl rfl, .inr (.inr (.inl rfl)), .inr (.inr (.inl rfl)), .inr (.inr (.inl rfl)), trivial⟩,
            ⟨.inr (.inr (.inr (fun _ _ _ _ _ h => h))), .inr (.inr (.inr (fun _ _ _ _ _ h => h))), .inr (.inr (.inr (fun _ _ _ _ _ h => h))), .inr (.inr (.inr (fun _ _ _ _ h h0 => by cases h; exact h0))), .inr (.inr (.inr (fun _ _ _ _ _ h => h))), .inr (.inr (.inr (fun _ _ _ _ _ h => h))), .inl rfl, .inr (.inr (.inl rfl)), .inr (.inr (.inl rfl)), trivial⟩,
            ⟨.inr (.inr (.inr (fun _ _ _ _ _ h => h))), .inr (.inr (.inr (fun _ _ _ _ _ h => h))), .inr (.inr (.inr (fun _ _ _ _ _ h => h))), .inr (.inr (.inr (fun _ _ _ _ h h0 => by cases h; exact h0))), .inr (.inr (.inr (fun _ _ _ _ _ h => h))), .inr (.inr (.inr (fun _ _ _ _ _ h => h))), .inr (.inr (.inr (fun _ _ _ _ h h0 => by cases h; exact h0))), .inl rfl, .inr (.inr (.inl rfl)), trivial⟩,
            ⟨.inr (.inr (.inr (fun _ _ _ _ _ h => h))), .inr (.inr (.inr (fun _ _ _ _ _ h => h))), .inr (.inr (.inr (fun _ _ _ _ _ h => h))), .inr (.inl rfl), .inr (.inr (.inr (fun _ _ _ _ _ h => h))), .inr (.inr (.inr (fun _ _ _ _ _ h => h))), .inr (.inl rfl), .inr (.inr (.inr (fun _ _ _ _ _ h => h))), .inl rfl, trivial⟩, trivial⟩
        · refine ⟨?_, ?_, ?_, ?_, ?_, ?_, ?_, ?_, ?_, trivial⟩
          · -- 0: Op.move (Operand.tmp 0)
            refine step_plain [] (fun _ => rfl) rfl ?_
            intro w1 vals hC1 hi0 hf E hE
            have hI1 : (fun u => IsB u B 74 p c) w1 := hi0 false rfl
            try dsimp only at hI1
            clear hi0
            clear hf
            simp only [puts, act_put, act_put_none, List.setIfInBounds_toArray, List.set_cons_zero, List.set_cons_succ] at hE ⊢
            go_wp2
            exact .mk (hE _ _ rfl hC1 rfl)
          · -- 1: Op.nilCheck (Operand.tmp 22)
            refine step_plain [(0, some 22)] (fun _ => rfl) rfl ?_
            intro w1 vals hC1 hi0 hf E hE
            have hI1 : (fun u => IsB u B 74 p c) w1 := hi0 false rfl
            try dsimp only at hI1
            clear hi0
            have f0 : vals 0 = .pointer (some ⟨p, 0, none⟩) := hf 0 rfl
            try dsimp only at f0
            clear hf
            simp only [puts, act_put, act_put_none, List.setIfInBounds_toArray, List.set_cons_zero, List.set_cons_succ, f0] at hE ⊢
            clear f0
            go_wp2
            exact .mk (hE _ _ rfl hC1 rfl)
          · -- 2: Op.fieldAddr 74 (Operand.tmp 23) 0
            refine step_plain [(1, some 23)] (fun _ => rfl) rfl ?_
            intro w1 vals hC1 hi0 hf E hE
            have hI1 : (fun u => IsB u B 74 p c) w1 := hi0 false rfl
            try dsimp only at hI1
            clear hi0
            have f1 : vals 1 = .pointer (some ⟨p, 0, none⟩) := hf 1 rfl
            try dsimp only at f1
            clear hf
            simp only [puts, act_put, act_put_none, List.setIfInBounds_toArray, List.set_cons_zero, List.set_cons_succ, f1] at hE ⊢
            clear f1
            go_wp2
            exact .mk (hE _ _ rfl hC1 rfl)
          · -- 3: Op.buildSlice 49 2 #[(0, Operand.const (Value.string { data := #[102, 97, 108, 115, 101] })), (1, Operand.cons
            refine step_plain [] (fun _ => rfl) rfl ?_
            intro w1 vals hC1 hi0 hf E hE
            have hI1 : (fun u => IsB u B 74 p c) w1 := hi0 false rfl
            try dsimp only at hI1
            clear hi0
            clear hf
            simp only [puts, act_put, act_put_none, List.setIfInBounds_toArray, List.set_cons_zero, List.set_cons_succ] at hE ⊢
            go_wp2
            exact .mk (hE _ _ ⟨_, rfl, Blk.new _ _ _⟩ (hC1.trans (.all ((Below.refl _ _).alloc (Nat.le_refl _) _) (by have := hI1.lt; omega))) ((Below.refl _ _).alloc (Nat.le_refl _) _))
          · -- 4: Op.fieldAddr 55 (Operand.tmp 3) 1
            refine step_plain [] (fun _ => rfl) rfl ?_
            intro w1 vals hC1 hi0 hf E hE
            clear hi0
            clear hf
            simp only [puts, act_put, act_put_none, List.setIfInBounds_toArray, List.set_cons_zero, List.set_cons_succ] at hE ⊢
            go_wp2
            exact .mk (hE _ _ rfl hC1 rfl)
          · -- 5: Op.load 3 (Operand.tmp 26)
            refine step_plain [(4, some 26)] (fun _ => rfl) rfl ?_
            intro w1 vals hC1 hi0 hf E hE
            have hI1 : (fun u => IsB u B 74 p c) w1 := hi0 false rfl
            try dsimp only at hI1
            clear hi0
            have f4 : vals 4 = .pointer (some ⟨w.heap.size, 1, none⟩) := hf 4 rfl
            try dsimp only at f4
            clear hf
            have a9 : w1.cell? ⟨w.heap.size, 1, none⟩ = some (.int .i64 1) := (hC1.blk HKB.out HGP.out (by decide)).cell 1
            simp only [puts, act_put, act_put_none, List.setIfInBounds_toArray, List.set_cons_zero, List.set_cons_succ, f4] at hE ⊢
            clear f4
            go_wp2
            exact .mk (hE _ _ rfl hC1 rfl)
          · -- 6: Op.indexAddr 49 (Operand.tmp 25) (Operand.tmp 27)
            refine step_plain [(3, some 25), (5, some 27)] (fun _ => rfl) rfl ?_
            intro w1 vals hC1 hi0 hf E hE
            have hI1 : (fun u => IsB u B 74 p c) w1 := hi0 false rfl
            try dsimp only at hI1
            clear hi0
            have f3 : (fun v u => ∃ g, v = .slice (some ⟨g, 0, none⟩) 2 2 ∧ Blk u g 9 #[.string ⟨#[102, 97, 108, 115, 101]⟩, .string ⟨#[116, 114, 117, 101]⟩]) (vals 3) w1 := hf 3 rfl
            have f5 : vals 5 = .int .i64 1 := hf 5 rfl
            try dsimp only at f3 f5
            clear hf
            obtain ⟨g3, hx3, hg3⟩ := f3
            simp only [puts, act_put, act_put_none, List.setIfInBounds_toArray, List.set_cons_zero, List.set_cons_succ, f5, hx3] at hE ⊢
            clear f5
            clear hx3
            go_wp2
            exact .mk (hE _ _ ⟨g3, rfl, hg3⟩ hC1 rfl)
          · -- 7: Op.load 9 (Operand.tmp 28)
            refine step_plain [(6, some 28)] (fun _ => rfl) rfl ?_
            intro w1 vals hC1 hi0 hf E hE
            have hI1 : (fun u => IsB u B 74 p c) w1 := hi0 false rfl
            try dsimp only at hI1
            clear hi0
            have f6 : (fun v u => ∃ g, v = .pointer (some ⟨g, 1, none⟩) ∧ Blk u g 9 #[.string ⟨#[102, 97, 108, 115, 101]⟩, .string ⟨#[116, 114, 117, 101]⟩]) (vals 6) w1 := hf 6 rfl
            try dsimp only at f6
            clear hf
            obtain ⟨g6, hx6, hg6⟩ := f6
            have a9 := hg6.cell 1
            simp only [puts, act_put, act_put_none, List.setIfInBounds_toArray, List.set_cons_zero, List.set_cons_succ, hx6] at hE ⊢
            clear hx6
            go_wp2
            exact .mk (hE _ _ rfl hC1 rfl)
          · -- 8: Op.call { callee := Callee.value (Operand.func 64), args := #[Operand.tmp 24, Operand.tmp 29], argTypes := #[7
            refine step_plain [(2, some 24), (7, some 29)] (fun _ => rfl) rfl ?_
            intro w1 vals hC1 hi0 hf E hE
            have hI1 : (fun u => IsB u B 74 p c) w1 := hi0 false rfl
            try dsimp only at hI1
            clear hi0
            have f2 : vals 2 = .pointer (some ⟨p, 0, none⟩) := hf 2 rfl
            have f7 : vals 7 = .string ⟨#[116, 114, 117, 101]⟩ := hf 7 rfl
            try dsimp only at f2 f7
            clear hf
            simp only [puts, act_put, act_put_none, List.setIfInBounds_toArray, List.set_cons_zero, List.set_cons_succ, f2, f7] at hE ⊢
            clear f2 f7
            go_wp2_with fail
            refine calls_then (CS.out _ _ hI1 (by have := HLG.out; simp [ByteArray.size]; omega)) ?_
            rintro e w2 ⟨rfl, hb2, hw2⟩
            go_wp2_with fail
            exact .mk (hE _ _ hb2 (hC1.trans hw2) trivial)
        intro w1 vals hC1 hf
        have f0 : vals 0 = .pointer (some ⟨p, 0, none⟩) := hf 0 (by decide) rfl
        have f1 : vals 1 = .pointer (some ⟨p, 0, none⟩) := hf 1 (by decide) rfl
        have f2 : vals 2 = .pointer (some ⟨p, 0, none⟩) := hf 2 (by decide) rfl
        have f4 : vals 4 = .pointer (some ⟨w.heap.size, 1, none⟩) := hf 4 (by decide) rfl
        have f5 : vals 5 = .int .i64 1 := hf 5 (by decide) rfl
        have f7 : vals 7 = .string ⟨#[116, 114, 117, 101]⟩ := hf 7 (by decide) rfl
        have f8 : (fun z u => IsB u B 74 p (c ++ [116, 114, 117, 101])) vals w1 := hf 8 (by decide) rfl
        try dsimp only at f0 f1 f2 f4 f5 f7 f8
        clear hf
        simp only [puts, act_put, act_put_none, List.setIfInBounds_toArray, List.set_cons_zero, List.set_cons_succ, f0, f1, f2, f4, f5, f7]
        clear f0 f1 f2 f4 f5 f7
        generalize vals 3 = x3 at *
        generalize vals 6 = x6 at *
        generalize vals 8 = x8 at *
        have HR := Lib.hid (show WB W1 B p (c ++ [116, 114, 117, 101]) _ from ⟨f8, hC1⟩)
        clear HC0 HI0 hC1 f8
        go_wp2_with fail
        go_end0
        exact ⟨rfl, _, by rw [writeV, if_neg (by decide), if_pos rfl]; exact Out.all _ _, HF.out _ _ HR.out⟩
    · go_wp2_with fail
      refine calls_then (wnum_any vn (by have := HI.out; omega) (by have := HI.out; omega) B p c W1 _ HB.out (by have h := HL.out; rw [writeV, if_neg (by decide), if_neg (by decide), if_pos rfl] at h; exact h)) ?_
      rintro e w2 ⟨rfl, hw2⟩
      have HB2 := Lib.hid hw2
      clear hw2
      go_wp2_with fail
      go_end0
      exact ⟨rfl, _, by rw [writeV, if_neg (by decide), if_neg (by decide), if_pos rfl]; exact Out.all _ _, HF.out _ _ HB2.out⟩
    · go_wp2_with fail
      refine calls_then (wtext_any (bs vt) B p c W1 _ HB.out (by have h := HL.out; rw [writeV, if_neg (by decide), if_neg (by decide), if_neg (by decide), if_pos rfl] at h; exact h)) ?_
      rintro e w2 ⟨rfl, hw2⟩
      have HB2 := Lib.hid hw2
      clear hw2
      go_wp2_with fail
      go_end0
      exact ⟨rfl, _, by rw [writeV, if_neg (by decide), if_neg (by decide), if_neg (by decide), if_pos rfl]; exact Out.all _ _, HF.out _ _ HB2.out⟩
    · have HD := Lib.hid (show 0 < d by simp at hd; omega)
      have HW := Lib.hid (show writeV (.mk 4 vn vt ns ks) = 91 :: (itemsV false ns ks true ++ [93]) by
        rw [writeV, if_neg (by decide), if_neg (by decide), if_neg (by decide), if_neg (by decide)]
        rfl)
      have hns : ns = [] := by simpa using hvns
      have C := Lib.hid (wlist_any (d - 1) (IH _ (by have := HD.out; omega)) ⟨4, vn, vt, nA, ns.length, nc, kA, ks.length, kc⟩ rfl ns ks kv B p c W1 W1 HNR.out rfl rfl hkv HKR.out HKI.out ((rightsV_iff _ _).1 hks) hns HB.out (by rw [← HW.out]; exact HL.out))
      clear hvn hvk hvns hvt hd hk0 hlen hot hks hkv hns
      go_wp2_with (refine wpList_get_box (x := .tmp 3) HKB.out rfl rfl rfl hu rfl jT_size ?_)
      refine calls_then C.out ?_
      rintro e w2 ⟨rfl, c', ho, hw2⟩
      have HO := Lib.hid ho
      have HB2 := Lib.hid hw2
      clear hw2 ho
      go_wp2_with fail
      go_end0
      exact ⟨rfl, _, by rw [HW.out]; exact HO.out, HF.out _ _ HB2.out⟩
    · have HD := Lib.hid (show 0 < d by simp at hd; omega)
      have HW := Lib.hid (show writeV (.mk 5 vn vt ns ks) = 123 :: (itemsV true ns ks true ++ [125]) by
        rw [writeV, if_neg (by decide), if_neg (by decide), if_neg (by decide), if_neg (by decide)]
        rfl)
      have hlen' : ns.length = ks.length := by simpa using hlen
      have C := Lib.hid (wmap_any (d - 1) (IH _ (by have := HD.out; omega)) ⟨5, vn, vt, nA, ns.length, nc, kA, ks.length, kc⟩ rfl ns ks kv B p c W1 W1 HNR.out rfl rfl hkv HKR.out HKI.out ((rightsV_iff _ _).1 hks) hlen' HB.out (by rw [← HW.out]; exact HL.out))
      clear hvn hvk hvns hvt hd hk0 hlen hot hks hkv hlen'
      go_wp2_with (refine wpList_get_box (x := .tmp 3) HKB.out rfl rfl rfl hu rfl jT_size ?_)
      refine calls_then C.out ?_
      rintro e w2 ⟨rfl, c', ho, hw2⟩
      have HO := Lib.hid ho
      have HB2 := Lib.hid hw2
      clear hw2 ho
      go_wp2_with fail
      go_end0
      exact ⟨rfl, _, by rw [HW.out]; exact HO.out, HF.out _ _ HB2.out⟩
theorem wval_any : ∀ d, WVal d := fun d => Nat.strongRecOn d fun d ih => wval_step d ih
end Go.Proofs.YtoihgnkhalhocaaGreatDoor.Js
/-
  Walk: json.Write.
-/
namespace Go.Proofs.YtoihgnkhalhocaaGreatDoor.Js
set_option linter.unusedSimpArgs false
set_option linter.unusedVariables false
open Go.RowKit
def wrE (j : JT) : Bs × Int := if rightV 6 j = false then ([], 1) else if 2000 < (writeV j).length then ([], 4) else (writeV j, 0)
theorem writeV_ne (j : JT) (h : rightV 6 j = true) : writeV j ≠ [] := by
  obtain ⟨c, l, h1, _⟩ := writeV_first j 6 h
  rw [h1]
  simp
set_option maxRecDepth 100000 in
set_option maxHeartbeats 4000000 in
theorem jwrite_any (j : JT) (v : JV) (B : Nat) (w : World) (hs : smallJ j = true) (hj : JRep w (fun b => b < B) j v) (hB : B ≤ w.heap.size) (hl : (writeV j).length ≤ 1099511627776) :
    Calls Tryz.prog 26 #[.agg (jvCells v)] w fun e w' => e = .returned (.tuple #[.string (bs (wrE j).1), .int .i64 (wrE j).2]) ∧ Below w.heap.size w w' := by
  have hu := Tryz.underlying55
  obtain ⟨G, hG⟩ : ∃ G, G = w.heap.size := ⟨_, rfl⟩
  obtain ⟨W0, hW0⟩ : ∃ W0, W0 = w.alloc (.cells (jvCells v) 55) := ⟨_, rfl⟩
  have hb0 : Below w.heap.size w W0 := by rw [hW0]; exact (Below.refl _ w).alloc (Nat.le_refl _) _
  have HB0 := Lib.hid hb0
  have HKB := Lib.hid (show Blk W0 G 55 (jvCells v) by rw [hW0, hG]; exact Blk.new _ _ _)
  have HJ := Lib.hid (hj.under (hb0.mono hB))
  have HBB := Lib.hid (show B ≤ W0.heap.size from Nat.le_trans hB hb0.size)
  have HL := Lib.hid hl
  have C := Lib.hid (right_any 6 (by decide) j v B W0 hs HJ.out HBB.out)
  have HW0 := Lib.hid hW0
  obtain ⟨R, hR⟩ : ∃ R, R = rightV 6 j := ⟨_, rfl⟩
  rw [← hR] at C
  have HR := Lib.hid hR
  clear hW0 hb0 hs hj hB hl hR
  rw [hG] at *
  clear hG
  go_enter Tryz.func26, Tryz.ntmps26
  go_upto_region 1 with (fail)
  rw [← HW0.out]
  clear HW0
  generalize Value.agg (jvCells v) = AV
  go_wp2_with (refine wpList_get_box (x := .tmp 1) (cs := jvCells v) HKB.out rfl rfl rfl hu rfl jT_size2 ?_)
  refine calls_then C.out ?_
  rintro e w1 ⟨rfl, hb1⟩
  have HB1 := Lib.hid hb1
  clear hb1
  cases R with
  | false =>
    have HE := Lib.hid (show wrE j = ([], 1) by rw [wrE, if_pos HR.out.symm])
    go_wp2_with fail
    go_ret2
    exact ⟨by rw [HE.out]; rfl, HB0.out.trans (HB1.out.mono HB0.out.size)⟩
  | true =>
    have HK1 := Lib.hid (HKB.out.below HB1.out HKB.out.lt)
    go_upto_region 4 with (fail)
    obtain ⟨W2, hW2⟩ : ∃ W2, W2 = w1.alloc (.cells #[.pointer none, .slice none 0 0] 74) := ⟨_, rfl⟩
    rw [← hW2]
    have hb2 : Below w1.heap.size w1 W2 := by rw [hW2]; exact (Below.refl _ w1).alloc (Nat.le_refl _) _
    have HB2 := Lib.hid (HB1.out.trans (hb2.mono HB1.out.size))
    have HK2 := Lib.hid (show Blk W2 w.heap.size 55 (jvCells v) from HK1.out.below hb2 HK1.out.lt)
    have HS := Lib.hid (show w1.heap.size < W2.heap.size by rw [hW2]; simp)
    have hj2 : JRep W2 (fun b => b < w1.heap.size) j v := (HJ.out.under ((HB1.out.trans (hb2.mono HB1.out.size)).mono HBB.out)).imp (fun b _ h => Nat.lt_of_lt_of_le h (Nat.le_trans HBB.out HB1.out.size))
    have hib : IsB W2 w1.heap.size 74 w1.heap.size [] := by rw [hW2]; exact IsB.new _ _ (Nat.le_refl _)
    have C2 := Lib.hid (wval_any 6 j v w1.heap.size w1.heap.size [] W2 W2 HR.out.symm hj2 ⟨hib, BK.refl _ _ _⟩ (by have := HL.out; simp; omega))
    clear hW2 hb2 hj2 hib C
    have HWP := Lib.hid (show w.heap.size ≤ w1.heap.size from Nat.le_trans HB0.out.size HB1.out.size)
    generalize hp : w1.heap.size = p at *
    go_wp2_with (refine wpList_get_box (x := .tmp 1) (cs := jvCells v) HK2.out rfl rfl rfl hu rfl jT_size2 ?_)
    refine calls_then C2.out ?_
    rintro e w3 ⟨rfl, c', hout, hw3⟩
    have HO := Lib.hid (Out.end_ hout)
    have HB3 := Lib.hid hw3.1
    have HF := Lib.hid (show Below w.heap.size w w3 from HB0.out.trans ((HB2.out.mono HB0.out.size).trans (hw3.2.below.mono HWP.out)))
    clear hout hw3
    go_wp2_with fail
    refine calls_then (bld_len _ _ _ _ HB3.out) ?_
    rintro e w4 ⟨rfl, rfl⟩
    by_cases hlong : 2000 < c'.length
    · have hc : (2000 : Int) < (c'.length : Int) := by omega
      have HE := Lib.hid (show wrE j = ([], 4) by rw [wrE, if_neg (by rw [← HR.out]; decide), if_pos (HO.out.2 hlong)])
      clear hlong
      go_wp2_with fail
      go_ret2
      exact ⟨by rw [HE.out]; rfl, HF.out⟩
    · have hc : ¬ (2000 : Int) < (c'.length : Int) := by omega
      have h1 := HO.out.1 (by omega)
      have HE := Lib.hid (show wrE j = (writeV j, 0) by rw [wrE, if_neg (by rw [← HR.out]; decide), if_neg (by omega)])
      have HC := Lib.hid h1.1
      have HNE := Lib.hid (show c' ≠ [] by rw [h1.1]; exact writeV_ne j HR.out.symm)
      clear hlong h1
      go_wp2_with fail
      refine calls_then (bld_string _ _ c' _ HB3.out HNE.out) ?_
      rintro e w5 ⟨rfl, hb5⟩
      have HB5 := Lib.hid hb5
      clear hb5
      go_wp2_with fail
      go_ret2
      exact ⟨by rw [HE.out, HC.out]; rfl, HF.out.trans (HB5.out.mono HWP.out)⟩
end Go.Proofs.YtoihgnkhalhocaaGreatDoor.Js
/-
  Walks: jwk.text; jwk.may and jwk.Write at a bundle without keys; the law's example.
-/
namespace Go.Proofs.YtoihgnkhalhocaaGreatDoor.Js
set_option linter.unusedSimpArgs false
set_option linter.unusedVariables false
open Go.RowKit
theorem jT_size4 : (Tryz.prog.info? 55).map (·.size) = some 5 := by kernel_rfl
def flatV (k n : Int) (t : Bs) : JV := ⟨k, n, t, none, 0, 0, none, 0, 0⟩
set_option maxHeartbeats 2000000 in
theorem jtext_any (s : Bs) (w : World) : Calls Tryz.prog 27 #[.string (bs s)] w fun e w' => e = .returned (.agg (jvCells (flatV 3 0 s))) ∧ Below w.heap.size w w' := by
  have hu := Tryz.underlying55
  obtain ⟨G, hG⟩ : ∃ G, G = w.heap.size := ⟨_, rfl⟩
  obtain ⟨W0, hW0⟩ : ∃ W0, W0 = w.alloc (.cells #[.int .i64 0, .int .i64 0, .string ⟨#[]⟩, .slice none 0 0, .slice none 0 0] 55) := ⟨_, rfl⟩
  have HB0 := Lib.hid (show Below w.heap.size w W0 by rw [hW0]; exact (Below.refl _ w).alloc (Nat.le_refl _) _)
  have HK := Lib.hid (show Blk W0 w.heap.size 55 (jvCells (flatV 0 0 [])) by rw [hW0]; exact Blk.new _ _ _)
  have HW0 := Lib.hid hW0
  have HF := Lib.hid (fun (u : World) (hw : Wrote w.heap.size W0 u) => show Below w.heap.size w u by
    rw [hW0] at hw
    exact box_low9 hw)
  clear hW0 hG
  go_enter Tryz.func27, Tryz.ntmps27
  go_upto_region 1 with (fail)
  rw [← HW0.out]
  go_wp2_with (refine wpList_put_box (x := .tmp 2) (cells := jvCells (flatV 3 0 s)) HK.out rfl rfl rfl rfl jT_size4 rfl (jvCells_one _) ?_; intro w9 hb9 hw9)
  have HB9 := Lib.hid hb9
  have HF9 := Lib.hid (HF.out _ hw9)
  refine bodyPost_ret (results_box (P := Tryz.prog) rfl rfl HB9.out hu rfl jT_size4) rfl ?_
  exact ⟨rfl, HF9.out⟩
def exD : Bs := [97, 46, 111, 114, 103]
def exB : BD := ⟨exD, 3, []⟩
theorem exD_size : ((bs exD).size : Int) ≤ 100000000 := by decide +kernel
theorem exD_dom : domB (bs exD).data.toList = true := by decide +kernel
set_option maxHeartbeats 2000000 in
theorem may0_any (D : ByteArray) (hd : domB D.data.toList = true) (hs : (D.size : Int) ≤ 100000000) (w : World) : Calls Tryz.prog 24 #[.agg #[.string D, .int .i64 3, .slice none 0 0]] w fun e w' => e = .returned (.bool true) ∧ Below w.heap.size w w' := by
  obtain ⟨W0, hW0⟩ : ∃ W0, W0 = w.alloc (.cells #[.string D, .int .i64 3, .slice none 0 0] 25) := ⟨_, rfl⟩
  have HB0 := Lib.hid (show Below w.heap.size w W0 by rw [hW0]; exact (Below.refl _ w).alloc (Nat.le_refl _) _)
  have HK := Lib.hid (show Blk W0 w.heap.size 25 #[.string D, .int .i64 3, .slice none 0 0] by rw [hW0]; exact Blk.new _ _ _)
  have HW0 := Lib.hid hW0
  have C := Lib.hid (domain_any D hs W0)
  rw [hd] at C
  have a0 : W0.cell? ⟨w.heap.size, 0, none⟩ = some (.string D) := HK.out.cell 0
  clear hW0 hd hs
  go_enter Tryz.func24, Tryz.ntmps24
  go_upto_region 1 with (fail)
  rw [← HW0.out]
  go_wp2_with fail
  refine calls_then C.out ?_
  rintro e u1 ⟨rfl, hb1⟩
  have HK1 := Lib.hid (HK.out.below hb1 HK.out.lt)
  have HB1 := Lib.hid (HB0.out.trans (hb1.mono HB0.out.size))
  have a1 : u1.cell? ⟨w.heap.size, 1, none⟩ = some (.int .i64 3) := HK1.out.cell 1
  have a2 : u1.cell? ⟨w.heap.size, 2, none⟩ = some (.slice none 0 0) := HK1.out.cell 2
  clear a0 hb1
  have hmm := @run_makeMap Tryz.prog
  go_upto_region 4 with (fail)
  have HB2 := Lib.hid (HB1.out.alloc (by have := HB0.out.size; have := HB1.out.size; omega) (.map #[] 0))
  obtain ⟨W2, hW2⟩ : ∃ W2, W2 = u1.alloc (.map #[] 0) := ⟨_, rfl⟩
  rw [← hW2] at HB2
  have b2 : W2.cell? ⟨w.heap.size, 2, none⟩ = some (.slice none 0 0) := by
    rw [hW2]
    exact (HK1.out.alloc _).cell 2
  rw [← hW2]
  clear hW2 a1 a2 hmm
  go_wp2_with fail
  go_loopw [30] (fun x wr => x = .int .i64 0 ∧ wr = W2) (fun x _ => 0)
  case atStart => exact ⟨rfl, rfl⟩
  case round =>
    obtain ⟨rfl, rfl⟩ := hrel
    go_wp2_with fail
    go_ret
    exact ⟨rfl, HB2.out⟩
theorem exB_small : smallJ (bundleJ exB) = true := by decide +kernel
theorem exB_len : (writeV (bundleJ exB)).length ≤ 1099511627776 := by decide +kernel
def RowAt (u : World) (t : TypeId) (n : Nat) (xs : List Value) (v : Value) : Prop := ∃ g, v = .slice (some ⟨g, 0, none⟩) n n ∧ Blk u g t xs.toArray
theorem RowAt.step {u u' : World} {t : TypeId} {n : Nat} {xs : List Value} {v : Value} (h : RowAt u t n xs v) (hb : Below u.heap.size u u') : RowAt u' t n xs v := by
  obtain ⟨g, h1, h2⟩ := h
  exact ⟨g, h1, h2.below hb h2.lt⟩
theorem rep_step {u u' : World} {j : JT} {v : Value} (h : ∃ jv, v = .agg (jvCells jv) ∧ JRep u (fun b => b < u.heap.size) j jv) (hb : Below u.heap.size u u') : ∃ jv, v = .agg (jvCells jv) ∧ JRep u' (fun b => b < u'.heap.size) j jv := by
  obtain ⟨jv, h1, h2⟩ := h
  exact ⟨jv, h1, (h2.under hb).imp fun b _ h => Nat.lt_of_lt_of_le h hb.size⟩
theorem bundle_rep {u : World} {gn gk : Nat} {tn tk : TypeId} (b : BD) (kv : JV) (hn : Blk u gn tn [Value.string (bs [100, 111, 109, 97, 105, 110]), .string (bs [107, 101, 121, 115]), .string (bs [110, 117, 109, 98, 101, 114])].toArray)
    (hk : Blk u gk tk (rowsV jvCells [flatV 3 0 b.dom, kv, flatV 2 b.num []]).toArray) (hj : JRep u (fun x => x < u.heap.size) (.mk 4 0 [] [] (b.keys.map keyJ)) kv) :
    JRep u (fun x => x < u.heap.size) (bundleJ b) ⟨5, 0, [], some ⟨gn, 0, none⟩, 3, 3, some ⟨gk, 0, none⟩, 3, 3⟩ := by
  have h1 : Rd u u.heap.size (some ⟨gn, 0, none⟩) (rowsV sCell [[100, 111, 109, 97, 105, 110], [107, 101, 121, 115], [110, 117, 109, 98, 101, 114]]) := Rd.of_blk hn hn.lt
  have h2 : Rd u u.heap.size (some ⟨gk, 0, none⟩) (rowsV jvCells [flatV 3 0 b.dom, kv, flatV 2 b.num []]) := Rd.of_blk hk hk.lt
  refine JRep.mk (⟨5, 0, [], some ⟨gn, 0, none⟩, 3, 3, some ⟨gk, 0, none⟩, 3, 3⟩ : JV) [[100, 111, 109, 97, 105, 110], [107, 101, 121, 115], [110, 117, 109, 98, 101, 114]] [jtext b.dom, .mk 4 0 [] [] (b.keys.map keyJ), jint b.num] [flatV 3 0 b.dom, kv, flatV 2 b.num []] rfl (Nat.le_refl _) (RdS.of_rd h1) rfl (Nat.le_refl _) rfl (RdS.of_rd h2) ?_
  intro i h h'
  match i, h, h' with
  | 0, _, _ => exact JRep.flat _ _ _ _ _
  | 1, _, _ => exact hj
  | 2, _, _ => exact JRep.flat _ _ _ _ _
  | n + 3, h, _ => exact absurd h (by simp)
theorem exB_right : (wrE (bundleJ exB)) = ([123, 34, 100, 111, 109, 97, 105, 110, 34, 58, 34, 97, 46, 111, 114, 103, 34, 44, 34, 107, 101, 121, 115, 34, 58, 91, 93, 44, 34, 110, 117, 109, 98, 101, 114, 34, 58, 51, 125], 0) := by decide +kernel
set_option maxRecDepth 100000 in
set_option maxHeartbeats 4000000 in
theorem write0_any (w : World) : Calls Tryz.prog 16 #[.agg #[.string (bs exD), .int .i64 3, .slice none 0 0]] w fun e w' => e = .returned (.tuple #[.string (bs (wrE (bundleJ exB)).1), .int .i64 0]) ∧ Below w.heap.size w w' := by
  have hu := Tryz.underlying55
  have hub := Tryz.underlying25
  have hbi : (Tryz.prog.info? 25).map (·.size) = some 3 := by kernel_rfl
  obtain ⟨W0, hW0⟩ : ∃ W0, W0 = w.alloc (.cells #[.string (bs exD), .int .i64 3, .slice none 0 0] 25) := ⟨_, rfl⟩
  have HB0 := Lib.hid (show Below w.heap.size w W0 by rw [hW0]; exact (Below.refl _ w).alloc (Nat.le_refl _) _)
  have HK := Lib.hid (show Blk W0 w.heap.size 25 #[.string (bs exD), .int .i64 3, .slice none 0 0] by rw [hW0]; exact Blk.new _ _ _)
  have HW0 := Lib.hid hW0
  have C := Lib.hid (may0_any (bs exD) exD_dom exD_size W0)
  clear hW0
  go_enter Tryz.func16, Tryz.ntmps16
  go_upto_region 1 with (fail)
  rw [← HW0.out]
  go_wp2_with (refine wpList_get_box (x := .tmp 1) (cs := #[.string (bs exD), .int .i64 3, .slice none 0 0]) HK.out rfl rfl rfl hub rfl hbi ?_)
  refine calls_then C.out ?_
  rintro e u1 ⟨rfl, hb1⟩
  have HK1 := Lib.hid (HK.out.below hb1 HK.out.lt)
  have HB1 := Lib.hid (HB0.out.trans (hb1.mono HB0.out.size))
  have HS1 := Lib.hid (show w.heap.size < u1.heap.size from HK1.out.lt)
  clear hb1
  go_upto_region 4 with (first | (refine wpList_put_box (cells := jvCells (flatV 4 0 [])) (Blk.new _ _ _) rfl rfl rfl rfl jT_size4 rfl (jvCells_one _) ?_; intro w9 hb9 hw9))
  have HB9 := Lib.hid hb9
  have HF9 := Lib.hid (HB1.out.trans ((box_low9 hw9).mono HB1.out.size))
  have HK9 := Lib.hid (HK1.out.below (box_low9 hw9) HK1.out.lt)
  have hs9 : u1.heap.size < w9.heap.size := hb9.lt
  have HS9 := Lib.hid hs9
  have b2 : w9.cell? ⟨w.heap.size, 2, none⟩ = some (.slice none 0 0) := HK9.out.cell 2
  clear hb9 hw9 hs9
  go_wp2_with fail
  go_loopw [14] (fun x wr => x = .int .i64 0 ∧ wr = w9) (fun x _ => 0)
  case atStart => exact ⟨rfl, rfl⟩
  case round =>
    obtain ⟨rfl, rfl⟩ := hrel
    have b0 : wr.cell? ⟨w.heap.size, 0, none⟩ = some (.string (bs exD)) := HK9.out.cell 0
    have b1 : wr.cell? ⟨w.heap.size, 1, none⟩ = some (.int .i64 3) := HK9.out.cell 1
    have HTX := Lib.hid (jtext_any exD)
    have HWR := Lib.hid (fun (u : World) (v : JV) (h : JRep u (fun b => b < u.heap.size) (bundleJ exB) v) => jwrite_any (bundleJ exB) v u.heap.size u exB_small h (Nat.le_refl _) exB_len)
    have HR := Lib.hid exB_right
    have HKJ := Lib.hid HB9.out
    go_wp2_with fail
    have HC0 : Below wr.heap.size wr wr.drew := (Below.refl _ _).drew
    refine wp_region_list (fun u => Below wr.heap.size wr u) (fun | false => (fun _ => True) | true => (fun _ => True)) (fun | false, _ => false | true, _ => false)
      [fun z u => (fun v u => RowAt u 9 3 [.string (bs [100, 111, 109, 97, 105, 110]), .string (bs [107, 101, 121, 115]), .string (bs [110, 117, 109, 98, 101, 114])] v) (z 0) u,
       fun z _ => z 1 = .pointer (some ⟨w.heap.size, 0, none⟩),
       fun z _ => z 2 = .string (bs exD),
       fun z _ => z 3 = .agg (jvCells (flatV 3 0 exD)),
       fun z _ => z 4 = .agg (jvCells (flatV 4 0 [])),
       fun z _ => z 5 = .pointer (some ⟨w.heap.size, 1, none⟩),
       fun z _ => z 6 = .int .i64 3,
       fun z _ => z 7 = .agg (jvCells (flatV 2 3 [])),
       fun z u => (fun v u => RowAt u 55 3 (rowsV jvCells [flatV 3 0 exD, flatV 4 0 [], flatV 2 3 []]) v) (z 8) u,
       fun z u => (fun v u => ∃ jv, v = .agg (jvCells jv) ∧ JRep u (fun b => b < u.heap.size) (bundleJ exB) jv) (z 9) u,
       fun z _ => z 10 = .tuple #[.string (bs (wrE (bundleJ exB)).1), .int .i64 (wrE (bundleJ exB)).2],
       fun z _ => z 11 = .string (bs (wrE (bundleJ exB)).1),
       fun z _ => z 12 = .int .i64 (wrE (bundleJ exB)).2,
       fun z _ => z 13 = .string (bs (wrE (bundleJ exB)).1),
       fun z _ => z 14 = .int .i64 (wrE (bundleJ exB)).2]
      [fun u u' => Below u.heap.size u u', Eq, Eq, fun u u' => Below u.heap.size u u', Eq, Eq, Eq, Eq, fun u u' => Below u.heap.size u u', Eq, fun u u' => Below u.heap.size u u', Eq, Eq, Eq, Eq]
      (fun _ _ => false) [(0, some 26), (1, some 27), (2, some 28), (3, some 29), (4, some 30), (5, some 31), (6, some 32), (7, some 33), (8, some 34), (9, some 35), (10, some 36), (11, some 37), (12, some 38), (13, some 2), (14, some 3)] (by kernel_rfl) (by kernel_rfl) rfl (fun _ => rfl) ?_ ?_ ?_ ?_ ?_ ?_
    · exact HC0
    · intro m; cases m; exact trivial; exact trivial
    · intro m; cases m
      · exact ⟨.inr (fun _ _ _ h => h), .inr (fun _ _ h h0 => h ▸ h0), .inr (fun _ _ h h0 => h ▸ h0), .inr (fun _ _ _ h => h), .inr (fun _ _ h h0 => h ▸ h0), .inr (fun _ _ h h0 => h ▸ h0), .inr (fun _ _ h h0 => h ▸ h0), .inr (fun _ _ h h0 => h ▸ h0), .inr (fun _ _ _ h => h), .inr (fun _ _ h h0 => h ▸ h0), .inr (fun _ _ _ h => h), .inr (fun _ _ h h0 => h ▸ h0), .inr (fun _ _ h h0 => h ▸ h0), .inr (fun _ _ h h0 => h ▸ h0), .inr (fun _ _ h h0 => h ▸ h0), trivial⟩
      · exact ⟨.inr (fun _ _ _ h => h), .inr (fun _ _ h h0 => h ▸ h0), .inr (fun _ _ h h0 => h ▸ h0), .inr (fun _ _ _ h => h), .inr (fun _ _ h h0 => h ▸ h0), .inr (fun _ _ h h0 => h ▸ h0), .inr (fun _ _ h h0 => h ▸ h0), .inr (fun _ _ h h0 => h ▸ h0), .inr (fun _ _ _ h => h), .inr (fun _ _ h h0 => h ▸ h0), .inr (fun _ _ _ h => h), .inr (fun _ _ h h0 => h ▸ h0), .inr (fun _ _ h h0 => h ▸ h0), .inr (fun _ _ h h0 => h ▸ h0), .inr (fun _ _ h h0 => h ▸ h0), trivial⟩
    · exact ⟨⟨.inl rfl, .inr (.inr (.inr (fun _ _ _ _ _ h => h))), .inr (.inr (.inr (fun _ _ _ _ _ h => h))), .inr (.inr (.inr (fun _ _ _ _ _ h => h))), .inr (.inr (.inr (fun _ _ _ _ _ h => h))), .inr (.inr (.inr (fun _ _ _ _ _ h => h))), .inr (.inr (.inr (fun _ _ _ _ _ h => h))), .inr (.inr (.inr (fun _ _ _ _ _ h => h))), .inr (.inr (.inr (fun _ _ _ _ h h0 => h0.step h))), .inr (.inr (.inl rfl)), .inr (.inr (.inl rfl)), .inr (.inr (.inl rfl)), .inr (.inr (.inl rfl)), .inr (.inr (.inl rfl)), .inr (.inr (.inl rfl)), trivial⟩,
        ⟨.inr (.inr (.inr (fun _ _ _ _ h h0 => by cases h; exact h0))), .inl rfl, .inr (.inr (.inl rfl)), .inr (.inr (.inl rfl)), .inr (.inr (.inr (fun _ _ _ _ _ h => h))), .inr (.inr (.inr (fun _ _ _ _ _ h => h))), .inr (.inr (.inr (fun _ _ _ _ _ h => h))), .inr (.inr (.inr (fun _ _ _ _ _ h => h))), .inr (.inr (.inl rfl)), .inr (.inr (.inr (fun _ _ _ _ h h0 => by cases h; exact h0))), .inr (.inr (.inl rfl)), .inr (.inr (.inr (fun _ _ _ _ _ h => h))), .inr (.inr (.inr (fun _ _ _ _ _ h => h))), .inr (.inr (.inl rfl)), .inr (.inr (.inl rfl)), trivial⟩,
        ⟨.inr (.inr (.inr (fun _ _ _ _ h h0 => by cases h; exact h0))), .inr (.inr (.inr (fun _ _ _ _ _ h => h))), .inl rfl, .inr (.inr (.inl rfl)), .inr (.inr (.inr (fun _ _ _ _ _ h => h))), .inr (.inr (.inr (fun _ _ _ _ _ h => h))), .inr (.inr (.inr (fun _ _ _ _ _ h => h))), .inr (.inr (.inr (fun _ _ _ _ _ h => h))), .inr (.inr (.inl rfl)), .inr (.inr (.inl rfl)), .inr (.inr (.inl rfl)), .inr (.inr (.inl rfl)), .inr (.inr (.inl rfl)), .inr (.inr (.inl rfl)), .inr (.inr (.inl rfl)), trivial⟩,
        ⟨.inr (.inr (.inr (fun _ _ _ _ h h0 => h0.step h))), .inr (.inr (.inr (fun _ _ _ _ _ h => h))), .inr (.inr (.inr (fun _ _ _ _ _ h => h))), .inl rfl, .inr (.inr (.inr (fun _ _ _ _ _ h => h))), .inr (.inr (.inr (fun _ _ _ _ _ h => h))), .inr (.inr (.inr (fun _ _ _ _ _ h => h))), .inr (.inr (.inr (fun _ _ _ _ _ h => h))), .inr (.inr (.inl rfl)), .inr (.inr (.inl rfl)), .inr (.inr (.inl rfl)), .inr (.inr (.inl rfl)), .inr (.inr (.inl rfl)), .inr (.inr (.inl rfl)), .inr (.inr (.inl rfl)), trivial⟩,
        ⟨.inr (.inr (.inr (fun _ _ _ _ h h0 => by cases h; exact h0))), .inr (.inr (.inr (fun _ _ _ _ _ h => h))), .inr (.inr (.inr (fun _ _ _ _ _ h => h))), .inr (.inr (.inr (fun _ _ _ _ _ h => h))), .inl rfl, .inr (.inr (.inr (fun _ _ _ _ _ h => h))), .inr (.inr (.inr (fun _ _ _ _ _ h => h))), .inr (.inr (.inr (fun _ _ _ _ _ h => h))), .inr (.inr (.inl rfl)), .inr (.inr (.inl rfl)), .inr (.inr (.inl rfl)), .inr (.inr (.inr (fun _ _ _ _ _ h => h))), .inr (.inr (.inr (fun _ _ _ _ _ h => h))), .inr (.inr (.inl rfl)), .inr (.inr (.inl rfl)), trivial⟩,
        ⟨.inr (.inr (.inr (fun _ _ _ _ h h0 => by cases h; exact h0))), .inr (.inr (.inr (fun _ _ _ _ _ h => h))), .inr (.inr (.inr (fun _ _ _ _ _ h => h))), .inr (.inr (.inr (fun _ _ _ _ _ h => h))), .inr (.inr (.inr (fun _ _ _ _ _ h => h))), .inl rfl, .inr (.inr (.inl rfl)), .inr (.inr (.inl rfl)), .inr (.inr (.inl rfl)), .inr (.inr (.inr (fun _ _ _ _ h h0 => by cases h; exact h0))), .inr (.inr (.inr (fun _ _ _ _ _ h => h))), .inr (.inr (.inr (fun _ _ _ _ _ h => h))), .inr (.inr (.inr (fun _ _ _ _ _ h => h))), .inr (.inr (.inl rfl)), .inr (.inr (.inl rfl)), trivial⟩,
        ⟨.inr (.inr (.inr (fun _ _ _ _ h h0 => by cases h; exact h0))), .inr (.inr (.inr (fun _ _ _ _ _ h => h))), .inr (.inr (.inr (fun _ _ _ _ _ h => h))), .inr (.inr (.inr (fun _ _ _ _ _ h => h))), .inr (.inr (.inr (fun _ _ _ _ _ h => h))), .inr (.inr (.inr (fun _ _ _ _ _ h => h))), .inl rfl, .inr (.inr (.inl rfl)), .inr (.inr (.inl rfl)), .inr (.inr (.inl rfl)), .inr (.inr (.inr (fun _ _ _ _ _ h => h))), .inr (.inr (.inr (fun _ _ _ _ _ h => h))), .inr (.inr (.inr (fun _ _ _ _ _ h => h))), .inr (.inr (.inl rfl)), .inr (.inr (.inl rfl)), trivial⟩,
        ⟨.inr (.inr (.inr (fun _ _ _ _ h h0 => by cases h; exact h0))), .inr (.inr (.inr (fun _ _ _ _ _ h => h))), .inr (.inr (.inr (fun _ _ _ _ _ h => h))), .inr (.inr (.inr (fun _ _ _ _ _ h => h))), .inr (.inr (.inr (fun _ _ _ _ _ h => h))), .inr (.inr (.inr (fun _ _ _ _ _ h => h))), .inr (.inr (.inr (fun _ _ _ _ _ h => h))), .inl rfl, .inr (.inr (.inl rfl)), .inr (.inr (.inl rfl)), .inr (.inr (.inl rfl)), .inr (.inr (.inr (fun _ _ _ _ _ h => h))), .inr (.inr (.inr (fun _ _ _ _ _ h => h))), .inr (.inr (.inl rfl)), .inr (.inr (.inl rfl)), trivial⟩,
        ⟨.inr (.inr (.inr (fun _ _ _ _ h h0 => h0.step h))), .inr (.inr (.inr (fun _ _ _ _ _ h => h))), .inr (.inr (.inr (fun _ _ _ _ _ h => h))), .inr (.inr (.inr (fun _ _ _ _ _ h => h))), .inr (.inr (.inr (fun _ _ _ _ _ h => h))), .inr (.inr (.inr (fun _ _ _ _ _ h => h))), .inr (.inr (.inr (fun _ _ _ _ _ h => h))), .inr (.inr (.inr (fun _ _ _ _ _ h => h))), .inl rfl, .inr (.inr (.inl rfl)), .inr (.inr (.inl rfl)), .inr (.inr (.inl rfl)), .inr (.inr (.inl rfl)), .inr (.inr (.inl rfl)), .inr (.inr (.inl rfl)), trivial⟩,
        ⟨.inr (.inr (.inr (fun _ _ _ _ h h0 => by cases h; exact h0))), .inr (.inr (.inr (fun _ _ _ _ _ h => h))), .inr (.inr (.inr (fun _ _ _ _ _ h => h))), .inr (.inr (.inr (fun _ _ _ _ _ h => h))), .inr (.inr (.inr (fun _ _ _ _ _ h => h))), .inr (.inr (.inr (fun _ _ _ _ _ h => h))), .inr (.inr (.inr (fun _ _ _ _ _ h => h))), .inr (.inr (.inr (fun _ _ _ _ _ h => h))), .inr (.inr (.inr (fun _ _ _ _ h h0 => by cases h; exact h0))), .inl rfl, .inr (.inr (.inl rfl)), .inr (.inr (.inl rfl)), .inr (.inr (.inl rfl)), .inr (.inr (.inl rfl)), .inr (.inr (.inl rfl)), trivial⟩,
        ⟨.inr (.inr (.inr (fun _ _ _ _ h h0 => h0.step h))), .inr (.inr (.inr (fun _ _ _ _ _ h => h))), .inr (.inr (.inr (fun _ _ _ _ _ h => h))), .inr (.inr (.inr (fun _ _ _ _ _ h => h))), .inr (.inr (.inr (fun _ _ _ _ _ h => h))), .inr (.inr (.inr (fun _ _ _ _ _ h => h))), .inr (.inr (.inr (fun _ _ _ _ _ h => h))), .inr (.inr (.inr (fun _ _ _ _ _ h => h))), .inr (.inr (.inr (fun _ _ _ _ h h0 => h0.step h))), .inr (.inr (.inr (fun _ _ _ _ h h0 => rep_step h0 h))), .inl rfl, .inr (.inr (.inl rfl)), .inr (.inr (.inl rfl)), .inr (.inr (.inl rfl)), .inr (.inr (.inl rfl)), trivial⟩,
        ⟨.inr (.inr (.inr (fun _ _ _ _ h h0 => by cases h; exact h0))), .inr (.inr (.inr (fun _ _ _ _ _ h => h))), .inr (.inr (.inr (fun _ _ _ _ _ h => h))), .inr (.inr (.inr (fun _ _ _ _ _ h => h))), .inr (.inr (.inr (fun _ _ _ _ _ h => h))), .inr (.inr (.inr (fun _ _ _ _ _ h => h))), .inr (.inr (.inr (fun _ _ _ _ _ h => h))), .inr (.inr (.inr (fun _ _ _ _ _ h => h))), .inr (.inr (.inr (fun _ _ _ _ h h0 => by cases h; exact h0))), .inr (.inr (.inr (fun _ _ _ _ h h0 => by cases h; exact h0))), .inr (.inr (.inr (fun _ _ _ _ _ h => h))), .inl rfl, .inr (.inr (.inr (fun _ _ _ _ _ h => h))), .inr (.inr (.inl rfl)), .inr (.inr (.inl rfl)), trivial⟩,
        ⟨.inr (.inr (.inr (fun _ _ _ _ h h0 => by cases h; exact h0))), .inr (.inr (.inr (fun _ _ _ _ _ h => h))), .inr (.inr (.inr (fun _ _ _ _ _ h => h))), .inr (.inr (.inr (fun _ _ _ _ _ h => h))), .inr (.inr (.inr (fun _ _ _ _ _ h => h))), .inr (.inr (.inr (fun _ _ _ _ _ h => h))), .inr (.inr (.inr (fun _ _ _ _ _ h => h))), .inr (.inr (.inr (fun _ _ _ _ _ h => h))), .inr (.inr (.inr (fun _ _ _ _ h h0 => by cases h; exact h0))), .inr (.inr (.inr (fun _ _ _ _ h h0 => by cases h; exact h0))), .inr (.inr (.inr (fun _ _ _ _ _ h => h))), .inr (.inr (.inr (fun _ _ _ _ _ h => h))), .inl rfl, .inr (.inr (.inl rfl)), .inr (.inr (.inl rfl)), trivial⟩,
        ⟨.inr (.inr (.inr (fun _ _ _ _ h h0 => by cases h; exact h0))), .inr (.inr (.inr (fun _ _ _ _ _ h => h))), .inr (.inr (.inr (fun _ _ _ _ _ h => h))), .inr (.inr (.inr (fun _ _ _ _ _ h => h))), .inr (.inr (.inr (fun _ _ _ _ _ h => h))), .inr (.inr (.inr (fun _ _ _ _ _ h => h))), .inr (.inr (.inr (fun _ _ _ _ _ h => h))), .inr (.inr (.inr (fun _ _ _ _ _ h => h))), .inr (.inr (.inr (fun _ _ _ _ h h0 => by cases h; exact h0))), .inr (.inr (.inr (fun _ _ _ _ h h0 => by cases h; exact h0))), .inr (.inr (.inr (fun _ _ _ _ _ h => h))), .inr (.inr (.inr (fun _ _ _ _ _ h => h))), .inr (.inr (.inr (fun _ _ _ _ _ h => h))), .inl rfl, .inr (.inr (.inl rfl)), trivial⟩,
        ⟨.inr (.inr (.inr (fun _ _ _ _ h h0 => by cases h; exact h0))), .inr (.inr (.inr (fun _ _ _ _ _ h => h))), .inr (.inr (.inr (fun _ _ _ _ _ h => h))), .inr (.inr (.inr (fun _ _ _ _ _ h => h))), .inr (.inr (.inr (fun _ _ _ _ _ h => h))), .inr (.inr (.inr (fun _ _ _ _ _ h => h))), .inr (.inr (.inr (fun _ _ _ _ _ h => h))), .inr (.inr (.inr (fun _ _ _ _ _ h => h))), .inr (.inr (.inr (fun _ _ _ _ h h0 => by cases h; exact h0))), .inr (.inr (.inr (fun _ _ _ _ h h0 => by cases h; exact h0))), .inr (.inr (.inr (fun _ _ _ _ _ h => h))), .inr (.inr (.inr (fun _ _ _ _ _ h => h))), .inr (.inr (.inr (fun _ _ _ _ _ h => h))), .inr (.inr (.inr (fun _ _ _ _ _ h => h))), .inl rfl, trivial⟩, trivial⟩
    · refine ⟨?_, ?_, ?_, ?_, ?_, ?_, ?_, ?_, ?_, ?_, ?_, ?_, ?_, ?_, ?_, trivial⟩
      · -- 0: Op.buildSlice 49 3 #[(0, Operand.const (Value.string { data := #[100, 111, 109, 97, 105, 110] })), (1, Operand
        refine step_plain [] (fun _ => rfl) rfl ?_
        intro w1 vals hC1 hi0 hf E hE
        clear hi0
        clear hf
        simp only [puts, act_put, act_put_none, List.setIfInBounds_toArray, List.set_cons_zero, List.set_cons_succ] at hE ⊢
        go_wp2
        exact .mk (hE _ _ ⟨_, rfl, Blk.new _ _ _⟩ (hC1.alloc hC1.size _) ((Below.refl _ _).alloc (Nat.le_refl _) _))
      · -- 1: Op.fieldAddr 25 (Operand.tmp 1) 0
        refine step_plain [] (fun _ => rfl) rfl ?_
        intro w1 vals hC1 hi0 hf E hE
        clear hi0
        clear hf
        simp only [puts, act_put, act_put_none, List.setIfInBounds_toArray, List.set_cons_zero, List.set_cons_succ] at hE ⊢
        go_wp2
        exact .mk (hE _ _ rfl hC1 rfl)
      · -- 2: Op.load 9 (Operand.tmp 27)
        refine step_plain [(1, some 27)] (fun _ => rfl) rfl ?_
        intro w1 vals hC1 hi0 hf E hE
        clear hi0
        have f1 : vals 1 = .pointer (some ⟨w.heap.size, 0, none⟩) := hf 1 rfl
        try dsimp only at f1
        clear hf
        simp only [puts, act_put, act_put_none, List.setIfInBounds_toArray, List.set_cons_zero, List.set_cons_succ, f1] at hE ⊢
        clear f1
        have d0 := (HK9.out.below hC1 HK9.out.lt).cell 0
        simp only [List.getElem?_toArray, List.getElem?_cons_zero] at d0
        go_wp2
        exact .mk (hE _ _ rfl hC1 rfl)
      · -- 3: Op.call { callee := Callee.value (Operand.func 27), args := #[Operand.tmp 28], argTypes := #[9] }
        refine step_plain [(2, some 28)] (fun _ => rfl) rfl ?_
        intro w1 vals hC1 hi0 hf E hE
        clear hi0
        have f2 : vals 2 = .string (bs exD) := hf 2 rfl
        try dsimp only at f2
        clear hf
        simp only [puts, act_put, act_put_none, List.setIfInBounds_toArray, List.set_cons_zero, List.set_cons_succ, f2] at hE ⊢
        clear f2
        go_wp2_with fail
        refine calls_then (HTX.out _) ?_
        rintro e w2 ⟨rfl, hb2⟩
        go_wp2_with fail
        exact .mk (hE _ _ rfl (hC1.trans (hb2.mono hC1.size)) hb2)
      · -- 4: Op.load 55 (Operand.tmp 4)
        refine step_plain [] (fun _ => rfl) rfl ?_
        intro w1 vals hC1 hi0 hf E hE
        clear hi0
        clear hf
        simp only [puts, act_put, act_put_none, List.setIfInBounds_toArray, List.set_cons_zero, List.set_cons_succ] at hE ⊢
        refine wpList_get_box (cs := jvCells (flatV 4 0 [])) (HKJ.out.below hC1 HKJ.out.lt) rfl rfl rfl hu rfl jT_size4 ?_
        go_wp2_with fail
        exact .mk (hE _ _ rfl hC1 rfl)
      · -- 5: Op.fieldAddr 25 (Operand.tmp 1) 1
        refine step_plain [] (fun _ => rfl) rfl ?_
        intro w1 vals hC1 hi0 hf E hE
        clear hi0
        clear hf
        simp only [puts, act_put, act_put_none, List.setIfInBounds_toArray, List.set_cons_zero, List.set_cons_succ] at hE ⊢
        go_wp2
        exact .mk (hE _ _ rfl hC1 rfl)
      · -- 6: Op.load 3 (Operand.tmp 31)
        refine step_plain [(5, some 31)] (fun _ => rfl) rfl ?_
        intro w1 vals hC1 hi0 hf E hE
        clear hi0
        have f5 : vals 5 = .pointer (some ⟨w.heap.size, 1, none⟩) := hf 5 rfl
        try dsimp only at f5
        clear hf
        simp only [puts, act_put, act_put_none, List.setIfInBounds_toArray, List.set_cons_zero, List.set_cons_succ, f5] at hE ⊢
        clear f5
        have d0 := (HK9.out.below hC1 HK9.out.lt).cell 1
        simp only [List.getElem?_toArray, List.getElem?_cons_zero, List.getElem?_cons_succ] at d0
        go_wp2
        exact .mk (hE _ _ rfl hC1 rfl)
      · -- 7: Op.build 55 #[(0, Operand.const (Value.int IntKind.i64 2)), (1, Operand.tmp 32)]
        refine step_plain [(6, some 32)] (fun _ => rfl) rfl ?_
        intro w1 vals hC1 hi0 hf E hE
        clear hi0
        have f6 : vals 6 = .int .i64 3 := hf 6 rfl
        try dsimp only at f6
        clear hf
        simp only [puts, act_put, act_put_none, List.setIfInBounds_toArray, List.set_cons_zero, List.set_cons_succ, f6] at hE ⊢
        clear f6
        go_wp2
        exact .mk (hE _ _ rfl hC1 rfl)
      · -- 8: Op.buildSlice 53 3 #[(0, Operand.tmp 29), (1, Operand.tmp 30), (2, Operand.tmp 33)]
        refine step_plain [(3, some 29), (4, some 30), (7, some 33)] (fun _ => rfl) rfl ?_
        intro w1 vals hC1 hi0 hf E hE
        clear hi0
        have f3 : vals 3 = .agg (jvCells (flatV 3 0 exD)) := hf 3 rfl
        have f4 : vals 4 = .agg (jvCells (flatV 4 0 [])) := hf 4 rfl
        have f7 : vals 7 = .agg (jvCells (flatV 2 3 [])) := hf 7 rfl
        try dsimp only at f3 f4 f7
        clear hf
        simp only [puts, act_put, act_put_none, List.setIfInBounds_toArray, List.set_cons_zero, List.set_cons_succ, f3, f4, f7] at hE ⊢
        clear f3 f4 f7
        unfold jvCells flatV
        go_wp2
        exact .mk (hE _ _ ⟨_, rfl, Blk.new _ _ _⟩ (hC1.alloc hC1.size _) ((Below.refl _ _).alloc (Nat.le_refl _) _))
      · -- 9: Op.build 55 #[(0, Operand.const (Value.int IntKind.i64 5)), (3, Operand.tmp 26), (4, Operand.tmp 34)]
        refine step_plain [(0, some 26), (8, some 34)] (fun _ => rfl) rfl ?_
        intro w1 vals hC1 hi0 hf E hE
        clear hi0
        have f0 : (fun v u => RowAt u 9 3 [.string (bs [100, 111, 109, 97, 105, 110]), .string (bs [107, 101, 121, 115]), .string (bs [110, 117, 109, 98, 101, 114])] v) (vals 0) w1 := hf 0 rfl
        have f8 : (fun v u => RowAt u 55 3 (rowsV jvCells [flatV 3 0 exD, flatV 4 0 [], flatV 2 3 []]) v) (vals 8) w1 := hf 8 rfl
        try dsimp only at f0 f8
        clear hf
        obtain ⟨g0, hx0, hg0⟩ := f0
        obtain ⟨g8, hx8, hg8⟩ := f8
        simp only [puts, act_put, act_put_none, List.setIfInBounds_toArray, List.set_cons_zero, List.set_cons_succ, hx0, hx8] at hE ⊢
        clear hx0 hx8
        go_wp2
        exact .mk (hE _ _ ⟨_, rfl, bundle_rep exB (flatV 4 0 []) hg0 hg8 (JRep.flat _ _ _ _ _)⟩ hC1 rfl)
      · -- 10: Op.call { callee := Callee.value (Operand.func 26), args := #[Operand.tmp 35], argTypes := #[55] }
        refine step_plain [(9, some 35), (3, some 29)] (fun _ => rfl) rfl ?_
        intro w1 vals hC1 hi0 hf E hE
        clear hi0
        have f3 : vals 3 = .agg (jvCells (flatV 3 0 exD)) := hf 3 rfl
        have f9 : (fun v u => ∃ jv, v = .agg (jvCells jv) ∧ JRep u (fun b => b < u.heap.size) (bundleJ exB) jv) (vals 9) w1 := hf 9 rfl
        try dsimp only at f3 f9
        clear hf
        obtain ⟨jv, hx9, hj9⟩ := f9
        simp only [puts, act_put, act_put_none, List.setIfInBounds_toArray, List.set_cons_zero, List.set_cons_succ, f3, hx9] at hE ⊢
        clear f3
        clear hx9
        go_wp2_with fail
        refine calls_then (HWR.out _ _ hj9) ?_
        rintro e w2 ⟨rfl, hb2⟩
        go_wp2_with fail
        exact .mk (hE _ _ rfl (hC1.trans (hb2.mono hC1.size)) hb2)
      · -- 11: Op.extract (Operand.tmp 36) 0
        refine step_plain [(10, some 36)] (fun _ => rfl) rfl ?_
        intro w1 vals hC1 hi0 hf E hE
        clear hi0
        have f10 : vals 10 = .tuple #[.string (bs (wrE (bundleJ exB)).1), .int .i64 (wrE (bundleJ exB)).2] := hf 10 rfl
        try dsimp only at f10
        clear hf
        simp only [puts, act_put, act_put_none, List.setIfInBounds_toArray, List.set_cons_zero, List.set_cons_succ, f10] at hE ⊢
        clear f10
        go_wp2
        exact .mk (hE _ _ rfl hC1 rfl)
      · -- 12: Op.extract (Operand.tmp 36) 1
        refine step_plain [(10, some 36)] (fun _ => rfl) rfl ?_
        intro w1 vals hC1 hi0 hf E hE
        clear hi0
        have f10 : vals 10 = .tuple #[.string (bs (wrE (bundleJ exB)).1), .int .i64 (wrE (bundleJ exB)).2] := hf 10 rfl
        try dsimp only at f10
        clear hf
        simp only [puts, act_put, act_put_none, List.setIfInBounds_toArray, List.set_cons_zero, List.set_cons_succ, f10] at hE ⊢
        clear f10
        go_wp2
        exact .mk (hE _ _ rfl hC1 rfl)
      · -- 13: Op.assign (Operand.tmp 37)
        refine step_plain [(11, some 37), (10, some 36), (0, some 26), (1, some 27), (2, some 28), (3, some 29), (4, some 30), (5, some 31), (6, some 32), (7, some 33), (8, some 34), (9, some 35), (10, some 36), (11, some 37), (12, some 38)] (fun _ => rfl) rfl ?_
        intro w1 vals hC1 hi0 hf E hE
        clear hi0
        have f0 : (fun v u => RowAt u 9 3 [.string (bs [100, 111, 109, 97, 105, 110]), .string (bs [107, 101, 121, 115]), .string (bs [110, 117, 109, 98, 101, 114])] v) (vals 0) w1 := hf 0 rfl
        have f1 : vals 1 = .pointer (some ⟨w.heap.size, 0, none⟩) := hf 1 rfl
        have f2 : vals 2 = .string (bs exD) := hf 2 rfl
        have f3 : vals 3 = .agg (jvCells (flatV 3 0 exD)) := hf 3 rfl
        have f4 : vals 4 = .agg (jvCells (flatV 4 0 [])) := hf 4 rfl
        have f5 : vals 5 = .pointer (some ⟨w.heap.size, 1, none⟩) := hf 5 rfl
        have f6 : vals 6 = .int .i64 3 := hf 6 rfl
        have f7 : vals 7 = .agg (jvCells (flatV 2 3 [])) := hf 7 rfl
        have f8 : (fun v u => RowAt u 55 3 (rowsV jvCells [flatV 3 0 exD, flatV 4 0 [], flatV 2 3 []]) v) (vals 8) w1 := hf 8 rfl
        have f9 : (fun v u => ∃ jv, v = .agg (jvCells jv) ∧ JRep u (fun b => b < u.heap.size) (bundleJ exB) jv) (vals 9) w1 := hf 9 rfl
        have f10 : vals 10 = .tuple #[.string (bs (wrE (bundleJ exB)).1), .int .i64 (wrE (bundleJ exB)).2] := hf 10 rfl
        have f11 : vals 11 = .string (bs (wrE (bundleJ exB)).1) := hf 11 rfl
        have f12 : vals 12 = .int .i64 (wrE (bundleJ exB)).2 := hf 12 rfl
        try dsimp only at f0 f1 f2 f3 f4 f5 f6 f7 f8 f9 f10 f11 f12
        clear hf
        simp only [puts, act_put, act_put_none, List.setIfInBounds_toArray, List.set_cons_zero, List.set_cons_succ, f1, f2, f3, f4, f5, f6, f7, f10, f11, f12] at hE ⊢
        clear f1 f2 f3 f4 f5 f6 f7 f10 f11 f12
        go_wp2
        exact .mk (hE _ _ rfl hC1 rfl)
      · -- 14: Op.assign (Operand.tmp 38)
        refine step_plain [(12, some 38), (13, some 2), (0, some 26), (1, some 27), (2, some 28), (3, some 29), (4, some 30), (5, some 31), (6, some 32), (7, some 33), (8, some 34), (9, some 35), (10, some 36), (11, some 37), (12, some 38), (13, some 2)] (fun _ => rfl) rfl ?_
        intro w1 vals hC1 hi0 hf E hE
        clear hi0
        have f0 : (fun v u => RowAt u 9 3 [.string (bs [100, 111, 109, 97, 105, 110]), .string (bs [107, 101, 121, 115]), .string (bs [110, 117, 109, 98, 101, 114])] v) (vals 0) w1 := hf 0 rfl
        have f1 : vals 1 = .pointer (some ⟨w.heap.size, 0, none⟩) := hf 1 rfl
        have f2 : vals 2 = .string (bs exD) := hf 2 rfl
        have f3 : vals 3 = .agg (jvCells (flatV 3 0 exD)) := hf 3 rfl
        have f4 : vals 4 = .agg (jvCells (flatV 4 0 [])) := hf 4 rfl
        have f5 : vals 5 = .pointer (some ⟨w.heap.size, 1, none⟩) := hf 5 rfl
        have f6 : vals 6 = .int .i64 3 := hf 6 rfl
        have f7 : vals 7 = .agg (jvCells (flatV 2 3 [])) := hf 7 rfl
        have f8 : (fun v u => RowAt u 55 3 (rowsV jvCells [flatV 3 0 exD, flatV 4 0 [], flatV 2 3 []]) v) (vals 8) w1 := hf 8 rfl
        have f9 : (fun v u => ∃ jv, v = .agg (jvCells jv) ∧ JRep u (fun b => b < u.heap.size) (bundleJ exB) jv) (vals 9) w1 := hf 9 rfl
        have f10 : vals 10 = .tuple #[.string (bs (wrE (bundleJ exB)).1), .int .i64 (wrE (bundleJ exB)).2] := hf 10 rfl
        have f11 : vals 11 = .string (bs (wrE (bundleJ exB)).1) := hf 11 rfl
        have f12 : vals 12 = .int .i64 (wrE (bundleJ exB)).2 := hf 12 rfl
        have f13 : vals 13 = .string (bs (wrE (bundleJ exB)).1) := hf 13 rfl
        try dsimp only at f0 f1 f2 f3 f4 f5 f6 f7 f8 f9 f10 f11 f12 f13
        clear hf
        simp only [puts, act_put, act_put_none, List.setIfInBounds_toArray, List.set_cons_zero, List.set_cons_succ, f1, f2, f3, f4, f5, f6, f7, f10, f11, f12, f13] at hE ⊢
        clear f1 f2 f3 f4 f5 f6 f7 f10 f11 f12 f13
        go_wp2
        exact .mk (hE _ _ rfl hC1 rfl)
    intro w1 vals hC1 hf
    have f0 : (fun v u => RowAt u 9 3 [.string (bs [100, 111, 109, 97, 105, 110]), .string (bs [107, 101, 121, 115]), .string (bs [110, 117, 109, 98, 101, 114])] v) (vals 0) w1 := hf 0 (by decide) rfl
    have f1 : vals 1 = .pointer (some ⟨w.heap.size, 0, none⟩) := hf 1 (by decide) rfl
    have f2 : vals 2 = .string (bs exD) := hf 2 (by decide) rfl
    have f3 : vals 3 = .agg (jvCells (flatV 3 0 exD)) := hf 3 (by decide) rfl
    have f4 : vals 4 = .agg (jvCells (flatV 4 0 [])) := hf 4 (by decide) rfl
    have f5 : vals 5 = .pointer (some ⟨w.heap.size, 1, none⟩) := hf 5 (by decide) rfl
    have f6 : vals 6 = .int .i64 3 := hf 6 (by decide) rfl
    have f7 : vals 7 = .agg (jvCells (flatV 2 3 [])) := hf 7 (by decide) rfl
    have f8 : (fun v u => RowAt u 55 3 (rowsV jvCells [flatV 3 0 exD, flatV 4 0 [], flatV 2 3 []]) v) (vals 8) w1 := hf 8 (by decide) rfl
    have f9 : (fun v u => ∃ jv, v = .agg (jvCells jv) ∧ JRep u (fun b => b < u.heap.size) (bundleJ exB) jv) (vals 9) w1 := hf 9 (by decide) rfl
    have f10 : vals 10 = .tuple #[.string (bs (wrE (bundleJ exB)).1), .int .i64 (wrE (bundleJ exB)).2] := hf 10 (by decide) rfl
    have f11 : vals 11 = .string (bs (wrE (bundleJ exB)).1) := hf 11 (by decide) rfl
    have f12 : vals 12 = .int .i64 (wrE (bundleJ exB)).2 := hf 12 (by decide) rfl
    have f13 : vals 13 = .string (bs (wrE (bundleJ exB)).1) := hf 13 (by decide) rfl
    have f14 : vals 14 = .int .i64 (wrE (bundleJ exB)).2 := hf 14 (by decide) rfl
    try dsimp only at f0 f1 f2 f3 f4 f5 f6 f7 f8 f9 f10 f11 f12 f13 f14
    clear hf
    simp only [puts, act_put, act_put_none, List.setIfInBounds_toArray, List.set_cons_zero, List.set_cons_succ, f1, f2, f3, f4, f5, f6, f7, f10, f11, f12, f13, f14]
    clear f1 f2 f3 f4 f5 f6 f7 f10 f11 f12 f13 f14
    generalize vals 0 = x0 at *
    generalize vals 8 = x8 at *
    generalize vals 9 = x9 at *
    have HC9 := Lib.hid hC1
    rw [HR.out]
    go_wp2_with fail
    go_ret2
    exact ⟨rfl, HF9.out.trans (HC9.out.mono HF9.out.size)⟩
end Go.Proofs.YtoihgnkhalhocaaGreatDoor.Js
/-
  Walks: sha's form.turned, form.all, cut.
-/
namespace Go.Proofs.YtoihgnkhalhocaaGreatDoor.Sh
set_option linter.unusedSimpArgs false
set_option linter.unusedVariables false
open Go.RowKit
def f64C : Array Value := #[.int .i64 64, .int .i64 80, .int .i64 28, .int .i64 34, .int .i64 39, .int .i64 14, .int .i64 18, .int .i64 41, .int .i64 1, .int .i64 8, .int .i64 7, .int .i64 19, .int .i64 61, .int .i64 6]
def f32C : Array Value := #[.int .i64 32, .int .i64 64, .int .i64 2, .int .i64 13, .int .i64 22, .int .i64 6, .int .i64 11, .int .i64 25, .int .i64 7, .int .i64 18, .int .i64 3, .int .i64 17, .int .i64 19, .int .i64 10]
theorem below_new (w : World) (o : Obj) : Below w.heap.size w (w.alloc o) := (Below.refl _ _).alloc (Nat.le_refl _) _
theorem turned32_any (x n : Nat) (w : World) (hx : x < 18446744073709551616) (hn : n < 32) :
    Calls Tryz.prog 157 #[.agg f32C, .int .u64 x, .int .i64 n] w fun e w' => e = .returned (.int .u64 (turnedN 32 x n : Nat)) ∧ Below w.heap.size w w' := by
  have c0 := (Blk.new w 141 f32C).cell 0
  simp only [f32C, List.getElem?_toArray, List.getElem?_cons_zero] at c0
  have hnn : (0 : Int) ≤ (32 : Int) - (n : Int) := by omega
  have hn1 : (n : Int) < 32 := by omega
  have hx1 : (x : Int) < 18446744073709551616 := by omega
  have HX := Lib.hid hx
  clear hx
  rw [f32C]
  go_enter Tryz.func157, Tryz.ntmps157
  go_wp2
  go_quiet (fail)
  go_wp2
  go_ret
  refine ⟨ret_int' ?_, below_drewN' (below_new _ _) _⟩
  exact rot_walk32' x n
theorem form_size : (Tryz.prog.info? 141).map (·.size) = some 14 := by kernel_rfl
set_option maxHeartbeats 1000000 in
theorem all32_any (x p q c : Nat) (shift : Bool) (w : World) (hx : x < 18446744073709551616) (hp : p < 32) (hq : q < 32) (hc : c < 32) :
    Calls Tryz.prog 147 #[.agg f32C, .int .u64 x, .agg #[.int .i64 p, .int .i64 q, .int .i64 c], .bool shift] w fun e w' => e = .returned (.int .u64 (allN 32 x p q c shift : Nat)) ∧ Below w.heap.size w w' := by
  obtain ⟨W0, hW0⟩ : ∃ W0, W0 = ((w.alloc (.cells f32C 141)).alloc (.cells #[.int .i64 p, .int .i64 q, .int .i64 c] 137)) := ⟨_, rfl⟩
  have hb : Below w.heap.size w W0 := by rw [hW0]; exact (below_new _ _).alloc (by simp) _
  have hb4 : Blk W0 w.heap.size 141 f32C := by rw [hW0]; exact (Blk.new _ _ _).alloc _
  have hb6 : Blk W0 (w.heap.size + 1) 137 #[.int .i64 p, .int .i64 q, .int .i64 c] := by
    have := Blk.new (w.alloc (.cells f32C 141)) 137 #[.int .i64 p, .int .i64 q, .int .i64 c]
    rw [hW0]; simpa using this
  have hl4 := hb4.lt
  have hl6 := hb6.lt
  have HB := Lib.hid hb
  have H4 := Lib.hid hb4
  have H6 := Lib.hid hb6
  have HW := Lib.hid hW0
  have hu := Tryz.underlying141
  have hx1 : (x : Int) < 18446744073709551616 := by omega
  have HX := Lib.hid hx
  have hc1 : (c : Int) < 32 := by omega
  obtain ⟨L, hL⟩ : ∃ L : Nat, L = lastN 32 x c shift := ⟨_, rfl⟩
  have HL := Lib.hid hL
  have c2 := hb6.cell 2
  simp at c2
  have hb40 := hb4
  have c20 := c2
  rw [hW0] at hb40 c20
  have hHC : ∀ (f : List Value), f = f := fun _ => rfl
  clear hb hb4 hb6 hW0 hx hL hHC
  cases shift with
  | false =>
    go_enter Tryz.func147, Tryz.ntmps147
    go_wp2_with (refine wpList_get_box (x := .tmp 4) hb40 rfl rfl rfl hu rfl form_size ?_)
    rw [← HW.out]
    clear hb40 c20
    refine calls_then (turned32_any x c W0 HX.out hc) ?_
    rintro e w1 ⟨rfl, hb1⟩
    rw [show turnedN 32 x c = L from HL.out.symm]
    have g4 := H4.out.below hb1 hl4
    have g6 := H6.out.below hb1 hl6
    have hBw := HB.out.trans (hb1.mono HB.out.size)
    have h14 := g4.lt
    have h16 := g6.lt
    have G4 := Lib.hid g4
    have G6 := Lib.hid g6
    have HBw := Lib.hid hBw
    clear g4 g6 hBw hb1 c2
    go_wp2_with fail
    have HC0 : Below w1.heap.size w1 w1.drew := (Below.refl _ _).drew
    refine wp_region_seq (fun u => Below w1.heap.size w1 u) (by kernel_rfl) (by kernel_rfl) HC0 ?_
    apply SeqL.next
    · rfl
    · rfl
    · simp only [act_put, act_put_none, List.setIfInBounds_toArray, List.set_cons_zero, List.set_cons_succ]
      rfl
    · intro w1 hC1 E hE
      refine wpList_get_box (G4.out.below hC1 h14) rfl rfl rfl hu rfl form_size ?_
      go_wp2_with fail
      exact .mk (hE _ hC1)
    iterate 2
      ((first | (apply SeqL.next; rfl; rfl)); (simp only [act_put, act_put_none, List.setIfInBounds_toArray, List.set_cons_zero, List.set_cons_succ]; rfl); (intro w1 hC1 E hE; go_wp2; exact .mk (hE _ hC1)))
    apply SeqL.next
    · rfl
    · rfl
    · simp only [act_put, act_put_none, List.setIfInBounds_toArray, List.set_cons_zero, List.set_cons_succ]
      rfl
    · intro w1 hC1 E hE
      have d0 := (G6.out.below hC1 h16).cell 0
      simp at d0
      go_wp2
      exact .mk (hE _ hC1)
    apply SeqL.next
    · rfl
    · rfl
    · simp only [act_put, act_put_none, List.setIfInBounds_toArray, List.set_cons_zero, List.set_cons_succ]
      rfl
    · intro w1 hC1 E hE
      go_wp2_with fail
      refine calls_then (turned32_any x p _ HX.out hp) ?_
      rintro e w2 ⟨rfl, hb2⟩
      go_wp2_with fail
      exact .mk (hE _ (hC1.trans (hb2.mono hC1.size)))
    apply SeqL.next
    · rfl
    · rfl
    · simp only [act_put, act_put_none, List.setIfInBounds_toArray, List.set_cons_zero, List.set_cons_succ]
      rfl
    · intro w1 hC1 E hE
      refine wpList_get_box (G4.out.below hC1 h14) rfl rfl rfl hu rfl form_size ?_
      go_wp2_with fail
      exact .mk (hE _ hC1)
    iterate 2
      ((first | (apply SeqL.next; rfl; rfl)); (simp only [act_put, act_put_none, List.setIfInBounds_toArray, List.set_cons_zero, List.set_cons_succ]; rfl); (intro w1 hC1 E hE; go_wp2; exact .mk (hE _ hC1)))
    apply SeqL.next
    · rfl
    · rfl
    · simp only [act_put, act_put_none, List.setIfInBounds_toArray, List.set_cons_zero, List.set_cons_succ]
      rfl
    · intro w1 hC1 E hE
      have d0 := (G6.out.below hC1 h16).cell 1
      simp at d0
      go_wp2
      exact .mk (hE _ hC1)
    apply SeqL.next
    · rfl
    · rfl
    · simp only [act_put, act_put_none, List.setIfInBounds_toArray, List.set_cons_zero, List.set_cons_succ]
      rfl
    · intro w1 hC1 E hE
      go_wp2_with fail
      refine calls_then (turned32_any x q _ HX.out hq) ?_
      rintro e w2 ⟨rfl, hb2⟩
      go_wp2_with fail
      exact .mk (hE _ (hC1.trans (hb2.mono hC1.size)))
    iterate 4
      ((first | (apply SeqL.next; rfl; rfl)); (simp only [act_put, act_put_none, List.setIfInBounds_toArray, List.set_cons_zero, List.set_cons_succ]; rfl); (intro w1 hC1 E hE; go_wp2; exact .mk (hE _ hC1)))
    refine SeqL.nil ?_
    intro w1 hC1
    go_wp2_with fail
    go_ret
    refine ⟨ret_int' ?_, HBw.out.trans (hC1.mono HBw.out.size)⟩
    rw [xor64 _ _ (turnedN_lt HX.out) (turnedN_lt HX.out), xor64 _ _ (xor_lt64 (turnedN_lt HX.out) (turnedN_lt HX.out)) (by rw [HL.out]; exact lastN_lt HX.out), HL.out]
    rfl
  | true =>
    go_enter Tryz.func147, Tryz.ntmps147
    go_wp2_with (refine wpList_get_box (x := .tmp 4) hb40 rfl rfl rfl hu rfl form_size ?_)
    rw [← HW.out]
    clear hb40 c20
    refine calls_then (turned32_any x c W0 HX.out hc) ?_
    rintro e w1 ⟨rfl, hb1⟩
    have g4 := H4.out.below hb1 hl4
    have g6 := H6.out.below hb1 hl6
    have hBw := HB.out.trans (hb1.mono HB.out.size)
    have h14 := g4.lt
    have h16 := g6.lt
    have cc := g6.cell 2
    simp at cc
    have G4 := Lib.hid g4
    have G6 := Lib.hid g6
    have HBw := Lib.hid hBw
    clear g4 g6 hBw hb1 c2
    go_wp2_with fail
    rw [show (x : Int) / 2 ^ c = (L : Int) by rw [HL.out, shr_int]; rfl]
    clear cc
    have HC0 : Below w1.heap.size w1 w1.drew := (Below.refl _ _).drew
    refine wp_region_seq (fun u => Below w1.heap.size w1 u) (by kernel_rfl) (by kernel_rfl) HC0 ?_
    apply SeqL.next
    · rfl
    · rfl
    · simp only [act_put, act_put_none, List.setIfInBounds_toArray, List.set_cons_zero, List.set_cons_succ]
      rfl
    · intro w1 hC1 E hE
      refine wpList_get_box (G4.out.below hC1 h14) rfl rfl rfl hu rfl form_size ?_
      go_wp2_with fail
      exact .mk (hE _ hC1)
    iterate 2
      ((first | (apply SeqL.next; rfl; rfl)); (simp only [act_put, act_put_none, List.setIfInBounds_toArray, List.set_cons_zero, List.set_cons_succ]; rfl); (intro w1 hC1 E hE; go_wp2; exact .mk (hE _ hC1)))
    apply SeqL.next
    · rfl
    · rfl
    · simp only [act_put, act_put_none, List.setIfInBounds_toArray, List.set_cons_zero, List.set_cons_succ]
      rfl
    · intro w1 hC1 E hE
      have d0 := (G6.out.below hC1 h16).cell 0
      simp at d0
      go_wp2
      exact .mk (hE _ hC1)
    apply SeqL.next
    · rfl
    · rfl
    · simp only [act_put, act_put_none, List.setIfInBounds_toArray, List.set_cons_zero, List.set_cons_succ]
      rfl
    · intro w1 hC1 E hE
      go_wp2_with fail
      refine calls_then (turned32_any x p _ HX.out hp) ?_
      rintro e w2 ⟨rfl, hb2⟩
      go_wp2_with fail
      exact .mk (hE _ (hC1.trans (hb2.mono hC1.size)))
    apply SeqL.next
    · rfl
    · rfl
    · simp only [act_put, act_put_none, List.setIfInBounds_toArray, List.set_cons_zero, List.set_cons_succ]
      rfl
    · intro w1 hC1 E hE
      refine wpList_get_box (G4.out.below hC1 h14) rfl rfl rfl hu rfl form_size ?_
      go_wp2_with fail
      exact .mk (hE _ hC1)
    iterate 2
      ((first | (apply SeqL.next; rfl; rfl)); (simp only [act_put, act_put_none, List.setIfInBounds_toArray, List.set_cons_zero, List.set_cons_succ]; rfl); (intro w1 hC1 E hE; go_wp2; exact .mk (hE _ hC1)))
    apply SeqL.next
    · rfl
    · rfl
    · simp only [act_put, act_put_none, List.setIfInBounds_toArray, List.set_cons_zero, List.set_cons_succ]
      rfl
    · intro w1 hC1 E hE
      have d0 := (G6.out.below hC1 h16).cell 1
      simp at d0
      go_wp2
      exact .mk (hE _ hC1)
    apply SeqL.next
    · rfl
    · rfl
    · simp only [act_put, act_put_none, List.setIfInBounds_toArray, List.set_cons_zero, List.set_cons_succ]
      rfl
    · intro w1 hC1 E hE
      go_wp2_with fail
      refine calls_then (turned32_any x q _ HX.out hq) ?_
      rintro e w2 ⟨rfl, hb2⟩
      go_wp2_with fail
      exact .mk (hE _ (hC1.trans (hb2.mono hC1.size)))
    iterate 4
      ((first | (apply SeqL.next; rfl; rfl)); (simp only [act_put, act_put_none, List.setIfInBounds_toArray, List.set_cons_zero, List.set_cons_succ]; rfl); (intro w1 hC1 E hE; go_wp2; exact .mk (hE _ hC1)))
    refine SeqL.nil ?_
    intro w1 hC1
    go_wp2_with fail
    go_ret
    refine ⟨ret_int' ?_, HBw.out.trans (hC1.mono HBw.out.size)⟩
    rw [xor64 _ _ (turnedN_lt HX.out) (turnedN_lt HX.out), xor64 _ _ (xor_lt64 (turnedN_lt HX.out) (turnedN_lt HX.out)) (by rw [HL.out]; exact lastN_lt HX.out), HL.out]
    rfl
end Go.Proofs.YtoihgnkhalhocaaGreatDoor.Sh
/-
  Walk: sha's cut to 32 bits.
-/
namespace Go.Proofs.YtoihgnkhalhocaaGreatDoor.Sh
set_option linter.unusedSimpArgs false
set_option linter.unusedVariables false
open Go.RowKit
theorem cut32_any (x : Nat) (w : World) (hx : x < 18446744073709551616) : Calls Tryz.prog 128 #[.int .u64 x] w fun e w' => e = .returned (.int .u32 (x % 4294967296 : Nat)) ∧ w = w' := by
  have hx1 : (x : Int) < 18446744073709551616 := by omega
  clear hx
  go_enter Tryz.func128, Tryz.ntmps128
  go_wp2
  go_ret
  exact ⟨ret_int' (by omega), rfl⟩
end Go.Proofs.YtoihgnkhalhocaaGreatDoor.Sh
/-
  A struct or an array that is a part of a block: loaded whole; a cell stored.
-/
namespace Go.Proofs.YtoihgnkhalhocaaGreatDoor
set_option linter.unusedSimpArgs false
set_option linter.unusedVariables false
open Go.RowKit
theorem blk_setCell_at {w : World} {g i : Nat} {t : TypeId} {cs : Array Value} (h : Blk w g t cs) (u : Value) : Blk (w.setCell ⟨g, i, none⟩ u) g t (cs.setIfInBounds i u) := by
  unfold Blk at *
  simp only [World.setCell, Array.getElem?_modify, if_pos, h]
  rfl
theorem wrote_setCell_at (w : World) (g i : Nat) (u : Value) : Wrote g w (w.setCell ⟨g, i, none⟩ u) :=
  ⟨⟨rfl, rfl, rfl, by simp [World.setCell], fun k _ hk => Below.heap_setCell _ _ _ _ (by simpa using hk)⟩, by simp [World.setCell]⟩
theorem rd_drop {w : World} {B : Nat} {ad : Addr} {xs : List Value} (h : Rd w B (some ad) xs) (n : Nat) : Rd w B (some (ad.add n)) (xs.drop n) := fun i u hu => by
  rw [List.getElem?_drop] at hu
  obtain ⟨ad', e, hb, hc⟩ := h _ u hu
  injection e with e
  subst e
  refine ⟨_, rfl, by rw [block_of_add]; exact hb, ?_⟩
  rw [show (ad.add n).add i = ad.add (n + i) from ?_]
  · exact hc
  · unfold Addr.add
    by_cases h1 : n = 0 <;> by_cases h2 : i = 0 <;> simp [h1, h2, Nat.add_assoc]
theorem rd_take {w : World} {B : Nat} {A : Option Addr} {xs : List Value} (h : Rd w B A xs) (n : Nat) : Rd w B A (xs.take n) := fun i u hu => by
  rw [List.getElem?_take] at hu
  split at hu
  · exact h i u hu
  · simp at hu
theorem blk_src {w : World} {g : Nat} {t : TypeId} {cs : Array Value} (h : Blk w g t cs) (n : Nat) : ∀ j v, (cs.toList.take n)[j]? = some v → w.cell? ((⟨g, 0, none⟩ : Addr).add j) = some v := fun j v hv => by
  have hadd : (⟨g, 0, none⟩ : Addr).add j = ⟨g, j, none⟩ := by unfold Addr.add; split <;> simp_all
  rw [hadd, h.cell]
  rw [List.getElem?_take] at hv
  split at hv
  · simpa using hv
  · cases hv
section
variable {P : Program}
theorem run_loadVar_part {w : World} {g o n : Nat} {t ty : TypeId} {cs r : Array Value} {d : TypeDesc} (hg : Blk w g t cs) (ho : o + n ≤ cs.size) (hr : ((cs.toList.drop o).take n).toArray = r)
    (hu : P.underlying ty = some d) (hd : (match d with | .struct _ | .array _ _ => true | _ => false) = true) (hi : (P.info? ty).map (·.size) = some n) :
    (loadVar ty ⟨g, o, none⟩).run P w = .ok (.agg r) w := by
  subst hr
  have hlen : ((cs.toList.drop o).take n).length = n := by simp; omega
  have hl : (loadCells ⟨g, o, none⟩ ((cs.toList.drop o).take n).length).run P w = .ok ((cs.toList.drop o).take n).toArray w :=
    run_loadCells_list (P := P) w ⟨g, o, none⟩ ((cs.toList.drop o).take n) (fun j v hv => by
      have hadd : (⟨g, o, none⟩ : Addr).add j = ⟨g, o + j, none⟩ := by unfold Addr.add; split <;> simp_all
      rw [hadd, hg.cell]
      rw [List.getElem?_take] at hv
      split at hv
      · rw [List.getElem?_drop] at hv
        simpa using hv
      · cases hv)
  rw [hlen] at hl
  cases hq : P.info? ty with
  | none => simp [hq] at hi
  | some i =>
    have hs : i.size = n := by simpa [hq] using hi
    have hagg : (isAgg ty).run P w = .ok true w := by
      unfold isAgg
      rw [Sem.run_bind, run_underlying hu w]
      cases d <;> simp_all
    simp [loadVar, Sem.run_bind, hagg, sizeOf, typeInfo, hq, hs, hl]
theorem wpList_get_part {w : World} {ops : Array Oper} {rest : List Oper} {o : Oper} {a : Act} {Q : Exit → Act → World → Prop} {ty : TypeId} {x : Operand} {g k n : Nat} {cs r : Array Value} {t : TypeId} {d : TypeDesc}
    (hg : Blk w g t cs) (hk : k + n ≤ cs.size) (hr : ((cs.toList.drop k).take n).toArray = r) (hgd : o.guard = none) (ho : o.op = .load ty x) (hx : a.eval x = .pointer (some ⟨g, k, none⟩))
    (hu : P.underlying ty = some d) (hd : (match d with | .struct _ | .array _ _ => true | _ => false) = true) (hi : (P.info? ty).map (·.size) = some n)
    (h : wpList P ops Q rest (a.put o.dst (.agg r)) w) : wpList P ops Q (o :: rest) a w := by
  refine wpList_plain hgd fun K hK => ?_
  have hrun := run_loadVar_part (P := P) hg hk hr hu hd hi
  unfold Oper.wp execOp
  simp only [ho, hx, Instr.loadAt, Instr.sureAddr, Sem.run_bind, Sem.run_pure, Result.andThen_ok, hrun]
  exact hK _ _ h
theorem wpList_copy_blk {w : World} {ops : Array Oper} {rest : List Oper} {o : Oper} {a : Act} {Q : Exit → Act → World → Prop} {d s : Operand} {dT sT elem t : TypeId} {g off dLen dCap sLen sCap : Nat} {ad : Addr} {cur new : Array Value} (cs : List Value)
    (hg : Blk w g t cur) (hgd : o.guard = none) (ho : o.op = .call { callee := .builtin .copy, args := #[d, s], argTypes := #[dT, sT] }) (hu : P.underlying dT = some (.slice elem)) (hsz : (P.info? elem).map (·.size) = some 1)
    (hd : a.eval d = .slice (some ⟨g, off, none⟩) dLen dCap) (hs : a.eval s = .slice (some ad) sLen sCap) (hn : cs.length = Nat.min sLen dLen)
    (hsrc : ∀ j v, cs[j]? = some v → w.cell? (ad.add j) = some v) (hfit : off + cs.length ≤ cur.size) (h1 : ∀ v ∈ cs, v.oneCell' = true)
    (hnew : (cur.toList.take off ++ cs ++ cur.toList.drop (off + cs.length)).toArray = new)
    (h : ∀ w', Blk w' g t new → Wrote g w w' → wpList P ops Q rest (a.put o.dst (goInt cs.length)) w') : wpList P ops Q (o :: rest) a w := by
  refine wpList_plain hgd fun K hK => ?_
  have hr := run_copy_row (P := P) w dT sT o.type elem g off dLen dCap ad sLen sCap cur t cs hu hsz hg hn hsrc hfit h1
  rw [hnew] at hr
  unfold Oper.wp execOp
  simp only [ho, resolve, invoke, builtin, Sem.run_bind, Sem.run_pure, Result.andThen_ok, List.map_toArray, List.map_cons, List.map_nil, hs, hd, hr]
  exact hK _ _ (h _ (setRow_heap w g cur _ t (0, 0) hg) (wrote_setRow w g _))
theorem run_not32 {w : World} (e : Nat) (he : e < 4294967296) : (Op.unary .xor (.int .u32 (e : Int))).run P w = .ok (.int .u32 ((4294967295 - e : Nat) : Int)) w := by
  have h1 : BitVec.ofInt 32 (4294967295 : Int) = BitVec.allOnes 32 := by decide
  have h : bits .xor .u32 (4294967295 : Int) (e : Int) = ((4294967295 - e : Nat) : Int) := by
    show IntKind.u32.wrap ((BitVec.ofInt 32 (4294967295 : Int) ^^^ BitVec.ofInt 32 (e : Int)).toNat : Int) = _
    rw [h1, BitVec.allOnes_xor, BitVec.toNat_not, BitVec.ofInt_natCast, BitVec.toNat_ofNat, Nat.mod_eq_of_lt he, IntKind.wrap_u32]
    omega
  have hm : IntKind.u32.max = 4294967295 := by decide
  rw [unary_xor]
  simp only [IntKind.signed, hm, Bool.false_eq_true, if_false]
  rw [← h]
  rfl
theorem wpList_unary {w : World} {ops : Array Oper} {rest : List Oper} {o : Oper} {a : Act} {Q : Exit → Act → World → Prop} {u : UnOp} {ty : TypeId} {x : Operand} {v r : Value}
    (hr : (Op.unary u v).run P w = .ok r w) (hgd : o.guard = none) (ho : o.op = .unOp u ty x) (hx : a.eval x = v) (h : wpList P ops Q rest (a.put o.dst r) w) : wpList P ops Q (o :: rest) a w := by
  refine wpList_plain hgd fun K hK => ?_
  unfold Oper.wp execOp
  simp only [ho, hx, Sem.run_bind, Sem.run_pure, Result.andThen_ok, hr]
  exact hK _ _ h
theorem run_index_array {w : World} {t e : TypeId} {n : Nat} {cs : Array Value} {k : Nat} {v : Value} (h : P.underlying t = some (.array n e)) (hk : k < n) (hv : cs[k]? = some v) (hs : (P.info? e).map (·.size) = some 1)
    (hag : (match P.underlying e with | some (.struct _) | some (.array _ _) => true | _ => false) = false) (hu : ∃ d, P.underlying e = some d) : (Instr.index t (.agg cs) (.int .i64 (k : Int))).run P w = .ok v w := by
  obtain ⟨d, hd⟩ := hu
  have h0 : (0 : Int) ≤ (k : Int) ∧ (k : Int) < (n : Int) := by omega
  cases hq : P.info? e with
  | none => simp [hq] at hs
  | some j =>
    have hj : j.size = 1 := by simpa [hq] using hs
    have hagg : (isAgg e).run P w = .ok false w := by
      unfold isAgg
      rw [Sem.run_bind, run_underlying hd w]
      rw [hd] at hag
      cases d <;> simp_all
    simp [Instr.index, run_underlying h, asIntOf, h0, sizeOf, typeInfo, hq, hj, part, hagg, hv, go_sem]
    intro hle
    omega
end
end Go.Proofs.YtoihgnkhalhocaaGreatDoor
