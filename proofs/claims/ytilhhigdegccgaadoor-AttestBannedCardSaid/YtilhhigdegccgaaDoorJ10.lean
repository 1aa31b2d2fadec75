/-
  Joined texts: Seq Seq2.
-/
import Derived.Test.YtilhhigdegccgaaDoorJ9
/-
  Regions that draw their order, walked as if in order: each operation gives one value whatever the world, as long as C holds; a tail of operations comes last, one behind the other.
-/
namespace Go.Proofs.YtilhhigdegccgaaDoor
set_option linter.unusedSimpArgs false
set_option linter.unusedVariables false
open Go.RowKit
variable {P : Program}
def SeqL (P : Program) (ops : Array Oper) (C : World → Prop) (pu : Nat → Bool) (K : Act → Prop) : Nat → List Oper → Act → Prop
  | _, [], a => K a
  | i, o :: r, a => ∃ v, (∀ w, (pu i = false → C w) → ∀ E : Act → World → Prop, (∀ w', (if pu i = true then w' = w else C w') → E (a.put o.dst v) w') → wpList P ops (EndOf E) [o] a w) ∧ SeqL P ops C pu K (i + 1) r (a.put o.dst v)
def SeqT (P : Program) (ops : Array Oper) (K : Act → World → Prop) : List Oper → Act → World → Prop
  | [], a, w => K a w
  | o :: r, a, w => ∀ E : Act → World → Prop, (∀ v w', SeqT P ops K r (a.put o.dst v) w' → E (a.put o.dst v) w') → wpList P ops (EndOf E) [o] a w
theorem put_like {A1 A2 : Act} {d : Option Tmp} {v v' : Value} (hs : A1.tmps.size = A2.tmps.size) (h : A2.put d v = A2.put d v') : A1.put d v = A1.put d v' := by
  cases d with
  | none => rfl
  | some d =>
    by_cases hd : d < A2.tmps.size
    · have h1 := congrArg (fun a : Act => a.tmps[d]?) h
      simp only [put_at _ _ _ hd] at h1
      rw [Option.some.inj h1]
    · have h2 : ¬ d < A1.tmps.size := by rw [hs]; exact hd
      simp only [Act.put, Array.setIfInBounds, h2, dif_neg, not_false_eq_true]
theorem seq_move {ops : Array Oper} {o : Oper} {A1 A2 : Act} {w : World} {R : Value → World → Prop} {E1 : Act → World → Prop} (hsel : ∀ cs b, o.op ≠ .select cs b)
    (hs : A1.tmps.size = A2.tmps.size) (hlook : ∀ t ∈ o.looksAt ops, A1.tmps[t]? = A2.tmps[t]?)
    (h : wpList P ops (EndOf fun a' w' => ∃ v, a' = A2.put o.dst v ∧ R v w') [o] A2 w) (hE : ∀ v w', R v w' → E1 (A1.put o.dst v) w') : wpList P ops (EndOf E1) [o] A1 w := by
  have heval : ∀ x ∈ o.op.operands, A1.eval x = A2.eval x := by
    intro x hx
    cases x with
    | tmp t =>
      have := hlook t (List.mem_append_left _ (List.mem_filterMap.2 ⟨.tmp t, by simpa using hx, rfl⟩))
      simp only [Act.eval, Array.getD_eq_getD_getElem?, this]
    | _ => rfl
  have hexec : execOp A1.eval o = execOp A2.eval o := execOp_congr o hsel heval
  have hwant : Region.wanted o (yielded ops A1.tmps) = Region.wanted o (yielded ops A2.tmps) := by
    unfold Region.wanted
    cases hg : o.guard with
    | none => rfl
    | some gw =>
      obtain ⟨g, want⟩ := gw
      have : yielded ops A1.tmps g = yielded ops A2.tmps g := by
        unfold yielded
        cases ht : (ops[g]?).bind (·.dst) with
        | none => rfl
        | some t =>
          have := hlook t (by
            refine List.mem_append_right _ ?_
            simp [hg, ht])
          simp only [Option.bind_some, this]
      simp only [this]
  have hend : ∀ (v : Value) (w' : World), (∃ v', A2.put o.dst v = A2.put o.dst v' ∧ R v' w') → E1 (A1.put o.dst v) w' := by
    rintro v w' ⟨v', h1, h2⟩
    rw [put_like hs h1]
    exact hE v' w' h2
  simp only [wpList] at h ⊢
  rw [hwant]
  split
  · rename_i hwt
    rw [if_pos hwt] at h
    rcases h with h | ⟨_, a₀, w₀, hq⟩
    case inr => exact absurd hq.1 (by simp)
    refine .inl ?_
    unfold Oper.wp at *
    rw [hexec]
    generalize (execOp A2.eval o).run P w = r at *
    cases r with
    | ok n w' =>
      cases n <;> simp only [Oper.upon] at h ⊢
      case value v => exact ⟨rfl, hend v w' h.2⟩
      case skip => exact ⟨rfl, hend _ w' h.2⟩
      case defer d =>
        obtain ⟨_, v, hv, _⟩ := h
        have := congrArg Act.defers hv
        rw [put_defers, put_defers] at this
        exact absurd this (by simp)
      case enter f args =>
        refine Calls.mono h fun e w'' he => ?_
        cases e with
        | returned v => exact ⟨rfl, hend v w'' he.2⟩
        | panicked c => exact absurd he.1 (by simp)
        | outgrown => obtain ⟨_, _, hq⟩ := he; exact absurd hq.1 (by simp)
      case row row args => exact Rows.mono h fun v w'' he => ⟨rfl, hend v w'' he.2⟩
    | halt x w' =>
      cases x <;> simp only [Oper.upon] at h ⊢
      exact absurd h.1 (by simp)
  · rename_i hwt
    rw [if_neg hwt] at h
    exact ⟨rfl, hend _ _ h.2⟩
theorem putAll_snoc (ops : Array Oper) (vals : Nat → Value) (i : Nat) : ∀ (l : List Nat) (a : Act), putAll ops vals (l ++ [i]) a = (putAll ops vals l a).put (dstAt ops i) (vals i)
  | [], a => rfl
  | j :: r, a => putAll_snoc ops vals i r _
theorem region_dist {ops : Array Oper} (hok : regionOk ops = true) : ∀ i j d, i ≠ j → dstAt ops i = some d → dstAt ops j ≠ some d := fun i j d hij hd => by
  have hil := dst_lt hd
  exact (okAt hok (Array.getElem?_eq_getElem hil)).dist j (Ne.symm hij) d hd
theorem seq_look {ops : Array Oper} (hok : regionOk ops = true) {i : Nat} {o : Oper} (ho : ops[i]? = some o) (vals : Nat → Value) (a0 : Act) :
    ∀ t ∈ o.looksAt ops, (putAll ops vals (waitsOf ops i) a0).tmps[t]? = (putAll ops vals (List.range i) a0).tmps[t]? := by
  intro t ht
  have hdist := region_dist hok
  obtain ⟨p1, p2, p3, p4⟩ := putAll_look hdist vals (waitsOf ops i) a0
  obtain ⟨q1, q2, q3, q4⟩ := putAll_look hdist vals (List.range i) a0
  have ok := okAt hok ho
  by_cases hex : ∃ j, dstAt ops j = some t
  · obtain ⟨j, hj⟩ := hex
    rcases ok.look t ht j hj with hji | hij
    · have hlt := ok.before j hji
      by_cases hts : t < a0.tmps.size
      · rw [p3 j hji t hj hts, q3 j (List.mem_range.2 hlt) t hj hts]
      · rw [Array.getElem?_eq_none (by rw [p1]; exact Nat.le_of_not_lt hts), Array.getElem?_eq_none (by rw [q1]; exact Nat.le_of_not_lt hts)]
    · have hjl := dst_lt hj
      have hlt : i < j := (okAt hok (Array.getElem?_eq_getElem hjl)).before i hij
      have no : ∀ k, k < i → dstAt ops k ≠ some t := fun k hk e => by
        by_cases hkj : k = j
        · omega
        · exact hdist j k t (fun e => hkj e.symm) hj e
      rw [p4 t fun k hk => no k (ok.before k hk), q4 t fun k hk => no k (List.mem_range.1 hk)]
  · have hno : ∀ j, dstAt ops j ≠ some t := fun j e => hex ⟨j, e⟩
    rw [p4 t fun k _ => hno k, q4 t fun k _ => hno k]
theorem seq_detQ {ops : Array Oper} {C : World → Prop} {pu : Nat → Bool} {a0 : Act} {K : ((Nat → Value) → Prop) → Prop} {Ks : Act → Prop} (hok : regionOk ops = true) :
    ∀ (rest : List Oper) (i : Nat) (Φ : (Nat → Value) → Prop) (a : Act), (∀ j o, rest[j]? = some o → ops[i + j]? = some o) → (∀ vals, Φ vals → putAll ops vals (List.range i) a0 = a) →
      (∀ (a : Act) (Ψ : (Nat → Value) → Prop), (∀ vals, Ψ vals → putAll ops vals (List.range (i + rest.length)) a0 = a) → Ks a → K Ψ) → SeqL P ops C pu Ks i rest a → DetQ P ops C pu a0 K i rest Φ
  | [], i, Φ, a, _, hΦ, hK, h => hK a Φ hΦ h
  | o :: r, i, Φ, a, hat, hΦ, hK, ⟨v, h1, h2⟩ => by
    have ho : ops[i]? = some o := by simpa using hat 0 o rfl
    have hdo : dstAt ops i = o.dst := by simp [dstAt, ho]
    have ok := okAt hok ho
    refine ⟨v, ?_, ?_⟩
    · intro vals hv w hc E hE
      have ha := hΦ vals hv
      have h3 := h1 w hc (fun a' w' => ∃ v', a' = a.put o.dst v' ∧ (v' = v ∧ (if pu i = true then w' = w else C w'))) fun w' hw' => ⟨v, rfl, rfl, hw'⟩
      have hdist := region_dist hok
      refine seq_move (A2 := a) (R := fun v' w' => v' = v ∧ (if pu i = true then w' = w else C w')) ok.sel ?_ ?_ h3 ?_
      · rw [← ha, (putAll_look hdist vals (waitsOf ops i) a0).1, (putAll_look hdist vals (List.range i) a0).1]
      · rw [← ha]
        exact seq_look hok ho vals a0
      · rintro v' w' ⟨rfl, hw'⟩
        exact hE w' hw'
    · refine seq_detQ hok r (i + 1) _ (a.put o.dst v) (fun j o' hj => by rw [show i + 1 + j = i + (j + 1) by omega]; exact hat (j + 1) o' (by simpa using hj)) ?_ ?_ h2
      · rintro vals ⟨hv, hvi⟩
        rw [List.range_succ, putAll_snoc, hΦ vals hv, hdo, hvi]
      · intro a' Ψ hΨ hk
        refine hK a' Ψ (fun vals hv => ?_) hk
        rw [← hΨ vals hv]
        congr 2
        simp only [List.length_cons]
        omega
theorem putAll_puts (ops : Array Oper) (vals : Nat → Value) : ∀ (l : List Nat) (a : Act), putAll ops vals l a = puts vals (l.map fun j => (j, dstAt ops j)) a
  | [], _ => rfl
  | j :: r, a => putAll_puts ops vals r _
theorem seq_tail {ops : Array Oper} {a0 : Act} {Kq : Act → World → Prop} {n : Nat} (hok : regionOk ops = true) : ∀ (rest : List Oper) (i : Nat) (vals : Nat → Value) (a : Act) (w : World), (∀ j o, rest[j]? = some o → ops[i + j]? = some o) → i + rest.length = n →
    putAll ops vals (List.range i) a0 = a → SeqT P ops Kq rest a w → tailP P ops a0 (fun vals w => Kq (putAll ops vals (List.range n) a0) w) i rest vals w
  | [], i, vals, a, w, _, hn, ha, h => by
    have hn' : i = n := by simpa using hn
    show Kq (putAll ops vals (List.range n) a0) w
    rw [← hn', ha]
    exact h
  | o :: r, i, vals, a, w, hat, hn, ha, h => by
    have ho : ops[i]? = some o := by simpa using hat 0 o rfl
    have hdo : dstAt ops i = o.dst := by simp [dstAt, ho]
    have ok := okAt hok ho
    have hdist := region_dist hok
    intro E hE
    have h3 := h (fun a' w' => ∃ v, a' = a.put o.dst v ∧ SeqT P ops Kq r (a.put o.dst v) w') fun v w' hv => ⟨v, rfl, hv⟩
    refine seq_move (A2 := a) (R := fun v w' => SeqT P ops Kq r (a.put o.dst v) w') ok.sel ?_ ?_ h3 ?_
    · rw [← ha, (putAll_look hdist vals (waitsOf ops i) a0).1, (putAll_look hdist vals (List.range i) a0).1]
    · rw [← ha]
      exact seq_look hok ho vals a0
    · intro v w' hv
      refine hE v w' ?_
      refine seq_tail hok r (i + 1) (upd vals i v) (a.put o.dst v) w' (fun j o' hj => by rw [show i + 1 + j = i + (j + 1) by omega]; exact hat (j + 1) o' (by simpa using hj)) (by simp only [List.length_cons] at hn; omega) ?_ hv
      rw [List.range_succ, putAll_snoc, hdo]
      rw [putAll_congr ops (upd vals i v) vals (List.range i) a0 (fun j hj => by have := List.mem_range.1 hj; simp [upd, Nat.ne_of_lt this]), ha]
      simp [upd]
theorem wp_region_seq {id : Nat} {l : List Oper} {a0 : Act} {w0 : World} {Q : Exit → Act → World → Prop} (C : World → Prop)
    (hm : P.follows .mixedOrders = true) (hok : regionOk l.toArray = true) (hC : C w0.drew)
    (h : SeqL P l.toArray C (fun _ => false) (fun a => ∀ w, C w → Q .normal a w) 0 l a0) :
    (Code.region id l.toArray true).wp P Q a0 w0 := by
  have hd := seq_detQ (K := fun Φ => ∀ vals, Φ vals → ∀ w, C w → Q .normal (putAll l.toArray vals (List.range l.toArray.size) a0) w) hok l 0 (fun _ => True) a0 (by simp) (fun _ _ => rfl)
    (fun a Ψ hΨ hk vals hv w hc => by
      have := hΨ vals hv
      rw [Nat.zero_add] at this
      rw [show l.toArray.size = l.length by simp, this]
      exact hk w hc) h
  obtain ⟨vs, Ψ, k1, _, k3, k4⟩ := detQ_all (P := P) l 0 (fun _ => True) (fun _ _ _ h => h) ⟨fun _ => undef, trivial⟩ hd
  refine wp_region_rel C (fun _ _ => True) (fun _ _ => true) (fun i vals w => vals i = vs i) (fun _ _ _ => True) (fun _ _ => false) hm hok hC (fun _ => trivial) ?_ ?_ ?_ ?_
  · intro _ i hi
    cases hi
  · intro i k hi hik _ hdk vals v w w' _ hF
    show upd vals i v k = vs k
    simp [upd, Ne.symm hik, hF]
  · intro i o ho w vals hcw _ hav
    have hvals : ∀ j ∈ waitsOf l.toArray i, vals j = vs j := fun j hj => by
      have h1 : availAt l.toArray (fun _ _ => false) j i = true := by
        unfold availAt
        simp [hj]
      exact hav j h1
    have hcon : putAll l.toArray vals (waitsOf l.toArray i) a0 = putAll l.toArray vs (waitsOf l.toArray i) a0 := putAll_congr _ _ _ _ _ hvals
    have h3 := k4 i o (by simpa using ho) vs w (fun _ => hcw) (fun _ _ => rfl)
    rw [Nat.zero_add] at h3
    rw [hcon]
    refine h3 (fun a' w' => ∃ v, a' = (putAll l.toArray vs (waitsOf l.toArray i) a0).put o.dst v ∧ upd vals i v i = vs i ∧ C w' ∧ True) fun w' hd => ?_
    exact ⟨vs i, rfl, by simp [upd], by simpa using hd, trivial⟩
  · intro w vals hcw hF
    have hal : ∀ j, aliveAt l.toArray (fun _ _ => false) j = true := fun j => by simp [aliveAt]
    exact k1 vals (k3 vals fun j hj => hF j (by simpa using hj) (hal _)) w hcw
theorem wp_region_seqt {id : Nat} {l : List Oper} {a0 : Act} {w0 : World} {Q : Exit → Act → World → Prop} (C : World → Prop) (pu : Nat → Bool) (d : Nat)
    (hm : P.follows .mixedOrders = true) (hok : regionOk l.toArray = true) (hd : d < l.length)
    (hlast : ((List.range l.length).all fun k => decide (k < d) || (((List.range k).all fun i => (deepWaits l.toArray 5 k).contains i || (pu i && decide (i < d))) && (k == d || (waitsOf l.toArray k).contains (k - 1)))) = true)
    (hC : C w0.drew)
    (h : SeqL P l.toArray C pu (fun a => ∀ w, C w → SeqT P l.toArray (fun a w => Q .normal a w) (l.drop d) a w) 0 (l.take d) a0) :
    (Code.region id l.toArray true).wp P Q a0 w0 := by
  refine wp_region_tailq C pu d ((List.range l.toArray.size).map fun j => (j, dstAt l.toArray j)) hm hok hd hlast (fun vals => putAll_puts _ _ _ _) hC ?_
  have htl : (l.take d).length = d := by rw [List.length_take]; omega
  refine seq_detQ hok (l.take d) 0 (fun _ => True) a0 (fun j o hj => ?_) (fun _ _ => rfl) (fun a Ψ hΨ hk vals hv w hc => ?_) h
  · rw [List.getElem?_take] at hj
    split at hj
    · simpa using hj
    · cases hj
  · have ha := hΨ vals hv
    rw [Nat.zero_add, htl] at ha
    have h9 := seq_tail (P := P) (Kq := fun a w => Q .normal a w) (n := l.length) hok (l.drop d) d vals a w (fun j o hj => by
      rw [List.getElem?_drop] at hj
      simpa using hj) (by rw [List.length_drop]; omega) ha (hk w hc)
    have e : (fun (vals : Nat → Value) w => Q .normal (puts vals ((List.range l.toArray.size).map fun j => (j, dstAt l.toArray j)) a0) w) = fun vals w => Q .normal (putAll l.toArray vals (List.range l.length) a0) w := by
      funext vals w
      rw [← putAll_puts]
      simp
    rw [e]
    exact h9
section
variable {ops : Array Oper} {C : World → Prop} {pu : Nat → Bool} {K : Act → Prop} {i : Nat} {o : Oper} {r : List Oper} {a a' : Act} {v : Value}
theorem SeqL.nil (h : K a) : SeqL P ops C pu K i [] a := h
theorem SeqT.nil {K : Act → World → Prop} {w : World} (h : K a w) : SeqT P ops K [] a w := h
theorem SeqL.next (hp : pu i = false) (hg : o.guard = none) (ha : a.put o.dst v = a')
    (h : ∀ w, C w → ∀ E : Act → World → Prop, (∀ w', C w' → E a' w') → wpList P #[] (EndOf E) [o] a w)
    (hr : SeqL P ops C pu K (i + 1) r a') : SeqL P ops C pu K i (o :: r) a := by
  subst ha
  refine ⟨v, fun w hc E hE => ?_, hr⟩
  have h1 := h w (hc hp) E (fun w' hw' => hE w' (by rw [hp]; simpa using hw'))
  have hw : ∀ (O : Array Oper) (t : Array Value), Region.wanted o (yielded O t) = true := fun O t => by simp [Region.wanted, hg]
  simp only [wpList, hw, if_true] at h1 ⊢
  exact h1
theorem SeqL.pure (hp : pu i = true) (hg : o.guard = none) (ha : a.put o.dst v = a')
    (h : ∀ w, ∀ E : Act → World → Prop, E a' w → wpList P #[] (EndOf E) [o] a w)
    (hr : SeqL P ops C pu K (i + 1) r a') : SeqL P ops C pu K i (o :: r) a := by
  subst ha
  refine ⟨v, fun w hc E hE => ?_, hr⟩
  have h1 := h w E (hE w (by rw [hp]; simp))
  have hw : ∀ (O : Array Oper) (t : Array Value), Region.wanted o (yielded O t) = true := fun O t => by simp [Region.wanted, hg]
  simp only [wpList, hw, if_true] at h1 ⊢
  exact h1
theorem SeqL.yes {g : Nat} {t : Tmp} {b : Bool} (hp : pu i = false) (hg : o.guard = some (g, b)) (hd : dstAt ops g = some t) (ht : a.tmps[t]? = some (.bool b)) (ha : a.put o.dst v = a')
    (h : ∀ w, C w → ∀ E : Act → World → Prop, (∀ w', C w' → E a' w') → wpList P #[] (EndOf E) [{ o with guard := none }] a w)
    (hr : SeqL P ops C pu K (i + 1) r a') : SeqL P ops C pu K i (o :: r) a := by
  subst ha
  refine ⟨v, fun w hc E hE => ?_, hr⟩
  have h1 := h w (hc hp) E (fun w' hw' => hE w' (by rw [hp]; simpa using hw'))
  have hw : Region.wanted o (yielded ops a.tmps) = true := by
    unfold dstAt at hd
    simp [Region.wanted, hg, yielded, hd, ht]
  have hw' : ∀ (O : Array Oper) (t : Array Value), Region.wanted { o with guard := none } (yielded O t) = true := fun O t => by simp [Region.wanted]
  simp only [wpList, hw, hw', if_true] at h1 ⊢
  have hk : ∀ a w, Oper.asks P { o with guard := none } a w = Oper.asks P o a w := fun a w => rfl
  rw [hk] at h1
  exact h1
theorem SeqL.no {g : Nat} {t : Tmp} {b : Bool} (hg : o.guard = some (g, b)) (hd : dstAt ops g = some t) (ht : a.tmps[t]? = some (.bool !b)) (ha : a.put o.dst undef = a')
    (hr : SeqL P ops C pu K (i + 1) r a') : SeqL P ops C pu K i (o :: r) a := by
  subst ha
  refine ⟨undef, fun w hc E hE => ?_, hr⟩
  have hd' : (ops[g]?).bind (·.dst) = some t := hd
  have hw : ¬ Region.wanted o (yielded ops a.tmps) = true := by
    simp [Region.wanted, hg, yielded, hd', ht]
  simp only [wpList, if_neg hw]
  refine ⟨rfl, hE w ?_⟩
  split
  · rfl
  · rename_i h
    exact hc (by simpa using h)
theorem SeqT.step {K : Act → World → Prop} {w : World} (hg : o.guard = none)
    (h : ∀ E : Act → World → Prop, (∀ v w', SeqT P ops K r (a.put o.dst v) w' → E (a.put o.dst v) w') → wpList P #[] (EndOf E) [o] a w) : SeqT P ops K (o :: r) a w := by
  intro E hE
  have h1 := h E hE
  have hw : ∀ (O : Array Oper) (t : Array Value), Region.wanted o (yielded O t) = true := fun O t => by simp [Region.wanted, hg]
  simp only [wpList, hw, if_true] at h1 ⊢
  exact h1
end
end Go.Proofs.YtilhhigdegccgaaDoor
/-
  A drawn region walked in order: an operation that gives no value (a store that keeps C).
-/
namespace Go.Proofs.YtilhhigdegccgaaDoor
set_option linter.unusedSimpArgs false
set_option linter.unusedVariables false
variable {P : Program} {ops : Array Oper} {C : World → Prop} {pu : Nat → Bool} {K : Act → Prop} {i : Nat} {o : Oper} {r : List Oper} {a : Act}
theorem SeqL.store (hp : pu i = false) (hg : o.guard = none) (hd : o.dst = none)
    (h : ∀ w, C w → ∀ E : Act → World → Prop, (∀ w', C w' → E a w') → wpList P #[] (EndOf E) [o] a w)
    (hr : SeqL P ops C pu K (i + 1) r a) : SeqL P ops C pu K i (o :: r) a :=
  SeqL.next (v := undef) hp hg (by rw [hd]; rfl) h hr
theorem SeqT.last {K : Act → World → Prop} {D : World → Prop} {v : Value} {a' : Act} (hg : o.guard = none) (ha : a.put o.dst v = a')
    (h : ∀ w, C w → ∀ E : Act → World → Prop, (∀ w', D w' → E a' w') → wpList P #[] (EndOf E) [o] a w) (hq : ∀ w, D w → K a' w) : ∀ w, C w → SeqT P ops K [o] a w := by
  subst ha
  intro w hc
  exact SeqT.step hg fun E hE => h w hc E fun w' hd => hE v w' (hq w' hd)
end Go.Proofs.YtilhhigdegccgaaDoor
