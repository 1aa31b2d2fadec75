/-
  Joined texts: Jst Js4 Js8 Js9 Js10 Jod Js11 Js12 Owr Js13 Js14 Js15 Js16 Jri Jso Jrr.
-/
import Derived.Test.YtcfbnjaelniahaaProg
import Derived.Lib.OthersKept
import Derived.Lib.DecodeN
import Derived.Lib.Strings
import Derived.Shelf.Abstract
import Derived.Lib.RuneCount
import Derived.Deep.LoopGhost
import Derived.Deep.QuietTactic
import Derived.BigQuiet
import Derived.Maps.AppendAt
import Derived.Defers
import Derived.Deep.DeepCutAuto
import Derived.Test.YtcfbnjaelniahaaW1
/-
  Plain: JSON's texts: what is read may be; what is written is read.
-/
namespace Go.Proofs.Ytcfbnjaelniahaa.Js
set_option linter.unusedVariables false

-- T2: what is read may be
theorem esc_le {c b : UInt8} (h : esc c = some b) : b ≤ 126 := by
  unfold esc at h
  repeat' split at h
  all_goals first
    | (injection h with h; subst h; decide)
    | (simp at h)
theorem hexP_le {a0 a1 a2 a3 b : UInt8} (h : hexP a0 a1 a2 a3 = some b) : b ≤ 126 := by
  unfold hexP at h
  split at h
  · split at h
    · split at h
      · rename_i x y _ _ hq
        injection h with h
        rw [← h, UInt8.le_iff_toNat_le]
        have : (UInt8.ofNat (16 * x + y)).toNat ≤ 16 * x + y := by simp; exact Nat.mod_le _ _
        exact Nat.le_trans this (by simpa using hq)
      · simp at h
    · simp at h
  · simp at h
theorem escP_le {r r' : Bs} {b : UInt8} (h : escP r = some (b, r')) : b ≤ 126 := by
  unfold escP at h
  split at h
  · simp at h
  · split at h
    · rename_i he
      injection h with h; injection h with h1 h2; subst h1
      exact esc_le he
    · split at h
      · split at h
        · split at h
          · rename_i hx
            injection h with h; injection h with h1 h2; subst h1
            exact hexP_le hx
          · simp at h
        · simp at h
      · simp at h
theorem okT_snoc {s : Bs} {c : UInt8} (h : okT s = true) (hc : c ≤ 126) : okT (s ++ [c]) = true := by
  unfold okT at *
  rw [List.all_append, h]
  simpa using hc
theorem strA_ok : ∀ (n : Nat) (acc r : Bs) {s r' : Bs}, okT acc = true → strA n acc r = some (s, r') → okT s = true
  | 0, acc, r, s, r', _, h => by simp [strA] at h
  | n + 1, acc, [], s, r', _, h => by simp [strA] at h
  | n + 1, acc, c :: r, s, r', ha, h => by
    unfold strA at h
    split at h
    · simp at h
    · rename_i hc
      split at h
      · injection h with h; injection h with h1 h2; subst h1; exact ha
      · split at h
        · split at h
          · rename_i b r1 he
            exact strA_ok n _ _ (okT_snoc ha (escP_le he)) h
          · simp at h
        · refine strA_ok n _ _ (okT_snoc ha ?_) h
          rw [UInt8.le_iff_toNat_le]
          have : ¬ 126 < c := fun h => hc (.inr h)
          rw [UInt8.lt_iff_toNat_lt] at this
          simpa using this
theorem textP_ok {r s r' : Bs} (h : textP r = some (s, r')) : okT s = true := by
  unfold textP at h
  split at h
  · exact strA_ok _ _ _ rfl h
  · simp at h
theorem distinct_snoc : ∀ {l : List Bs} {x : Bs}, distinct l = true → x ∉ l → distinct (l ++ [x]) = true
  | [], x, _, _ => by simp [distinct]
  | y :: l, x, h, hx => by
    unfold distinct at h
    rw [List.cons_append, distinct]
    simp only [Bool.and_eq_true, Bool.not_eq_true', List.contains_eq_mem, decide_eq_false_iff_not] at h ⊢
    refine ⟨?_, distinct_snoc h.2 (fun h => hx (List.mem_cons_of_mem _ h))⟩
    rw [List.mem_append]
    rintro (h1 | h1)
    · exact h.1 h1
    · simp at h1
      exact hx (by rw [h1]; exact List.mem_cons_self ..)
structure ListOk (d : Nat) (m : Bool) (ns : List Bs) (ks : List JT) : Prop where
  names : ns.all okT = true
  dis : distinct ns = true
  kids : ∀ k ∈ ks, rightV d k = true
  len : if m then ns.length = ks.length else ns = []
theorem listL_right (val : Bs → Except Int (JT × Bs)) (m : Bool) (d : Nat) (hv : ∀ {r v r'}, val r = .ok (v, r') → rightV d v = true) : ∀ (n : Nat) (ns : List Bs) (ks : List JT) (r : Bs) {ns' : List Bs} {ks' : List JT} {r' : Bs}, ListOk d m ns ks → listL val m n ns ks r = .ok (ns', ks', r') → ListOk d m ns' ks'
  | 0, ns, ks, r, ns', ks', r', _, h => by simp [listL] at h
  | n + 1, ns, ks, r, ns', ks', r', ha, h => by
    rcases listL_ok h with ⟨r1, h1, h2⟩ | ⟨r1, r2, ns1, r3, k, r4, h1, h2, h3, h4, h5⟩
    · injection h2 with h2 h3; injection h3 with h3 h4; subst h2 h3
      exact ha
    · have hkids : ∀ x ∈ ks ++ [k], rightV d x = true := fun x hx => by
        rcases List.mem_append.1 hx with h | h
        · exact ha.kids x h
        · simp at h; subst h; exact hv h4
      refine listL_right val m d hv n _ _ _ ?_ h5
      unfold keyP at h3
      split at h3
      · rename_i hm
        unfold nameP at h3
        split at h3
        · simp at h3
        · rename_i s r5 ht
          split at h3
          · simp at h3
          · rename_i hne
            split at h3
            · simp at h3
            · injection h3 with h3; injection h3 with h3 h6; subst h3
              refine ⟨?_, distinct_snoc ha.dis hne, hkids, ?_⟩
              · rw [List.all_append, ha.names]
                simp [textP_ok ht]
              · have := ha.len
                rw [if_pos hm] at this ⊢
                simp [this]
      · rename_i hm
        injection h3 with h3; injection h3 with h3 h6; subst h3
        refine ⟨ha.names, ha.dis, hkids, ?_⟩
        have := ha.len
        rw [if_neg hm] at this ⊢
        exact this
theorem listP_right {val : Bs → Except Int (JT × Bs)} {d : Nat} (hv : ∀ {r v r'}, val r = .ok (v, r') → rightV d v = true) {r : Bs} {v : JT} {r' : Bs} (h : listP val r = .ok (v, r')) : rightV (d + 1) v = true := by
  unfold listP at h
  split at h
  · simp at h
  · rename_i ns ks r1 ht
    injection h with h; injection h with h1 h2; subst h1
    have hl := listL_right val _ d hv _ _ _ _ ⟨rfl, rfl, fun k hk => by simp at hk, by split <;> rfl⟩ ht
    have hk := (rightsV_iff d ks).2 hl.kids
    have h3 := hl.len
    cases hb : (look r == 123) with
    | true =>
      rw [hb] at h3
      rw [if_pos rfl] at h3
      have hn := hl.names
      unfold okT at hn
      simp [rightV, plainJ, okT, hl.dis, hk, h3]
      simpa using hn
    | false =>
      rw [hb] at h3
      rw [if_neg (by decide)] at h3
      subst h3
      simp [rightV, plainJ, okT, hk, distinct]
theorem numP_right {r r' : Bs} {n : Int} (d : Nat) (h : numP r = some (n, r')) : rightV d (jint n) = true := by
  obtain ⟨h1, h2, _⟩ := numP_ok h
  have h3 : decV 0 (digP r).1 ≤ 1000000000000000 := by
    unfold badN at h1
    simp only [Bool.or_eq_false_iff] at h1
    simpa using h1.2
  have h4 : -1000000000000000 ≤ n ∧ n ≤ 1000000000000000 := by
    rw [h2]
    split <;> omega
  simp [rightV, jint, plainJ, okT, distinct, rightsV, h4]
theorem rawP_right {lp : Bs → Except Int (JT × Bs)} {d : Nat} (hl : ∀ {r v r'}, lp r = .ok (v, r') → rightV d v = true) {r : Bs} {v : JT} {r' : Bs} (h : rawP lp r = .ok (v, r')) : rightV d v = true := by
  have hw : ∀ {w : Bs} {u : JT}, wordR w r u = .ok (v, r') → rightV d u = true → rightV d v = true := fun {w u} h hu => by
    unfold wordR at h
    split at h
    · simp at h
    · injection h with h; injection h with h1 h2; subst h1; exact hu
  unfold rawP at h
  split at h
  · exact hw h (by simp [rightV, jzero, plainJ, okT, distinct, rightsV])
  split at h
  · exact hw h (by simp [rightV, jtrue, plainJ, okT, distinct, rightsV])
  split at h
  · exact hw h (by simp [rightV, jfalse, plainJ, okT, distinct, rightsV])
  split at h
  · unfold optR at h
    split at h
    · simp at h
    · rename_i ht
      injection h with h; injection h with h1 h2; subst h1
      have := textP_ok ht
      unfold okT at this
      simp [rightV, jtext, plainJ, okT, distinct, rightsV]
      simpa using this
  split at h
  · exact hl h
  · unfold optR at h
    split at h
    · simp at h
    · rename_i ht
      injection h with h; injection h with h1 h2; subst h1
      exact numP_right d ht
theorem valueP_right : ∀ (d : Nat) {r : Bs} {v : JT} {r' : Bs}, valueP d r = .ok (v, r') → rightV d v = true
  | 0, r, v, r', h => by
    obtain ⟨r0, h1, rfl⟩ := skipR_ok h
    exact rawP_right (by intro _ _ _ h; simp at h) h1
  | d + 1, r, v, r', h => by
    obtain ⟨r0, h1, rfl⟩ := skipR_ok h
    exact rawP_right (fun h => listP_right (fun h => valueP_right d h) h) h1
theorem readP_right {s : Bs} {v : JT} (h : readP s = .ok v) : rightV 6 v = true := by
  unfold readP at h
  split at h
  · simp at h
  · split at h
    · simp at h
    · rename_i v' hv
      injection h with h; subst h
      exact valueP_right 6 hv
    · simp at h

-- T1: what is written is read
theorem skip_nb {c : UInt8} {r : Bs} (h : isBl c = false) : skip (c :: r) = c :: r := by simp [skip, h]
theorem hex_ctl {c : UInt8} (h : c < 32) : hexP 48 48 (hexd (c.toNat / 16)) (hexd (c.toNat % 16)) = some c := by
  have key : ∀ k : Fin 32, hexP 48 48 (hexd ((UInt8.ofNat k.1).toNat / 16)) (hexd ((UInt8.ofNat k.1).toNat % 16)) = some (UInt8.ofNat k.1) := by decide +kernel
  have h1 : c.toNat < 32 := by rwa [UInt8.lt_iff_toNat_lt] at h
  have := key ⟨c.toNat, h1⟩
  simpa using this
theorem escP_ctl {c : UInt8} (h : c < 32) (r : Bs) : escP (117 :: 48 :: 48 :: hexd (c.toNat / 16) :: hexd (c.toNat % 16) :: r) = some (c, r) := by
  simp [escP, esc, hex_ctl h]
theorem strA_quote : ∀ (s acc : Bs) (n : Nat) (r : Bs), okT s = true → (s.flatMap quoteC).length < n → strA n acc (s.flatMap quoteC ++ 34 :: r) = some (acc ++ s, r)
  | [], acc, n, r, _, hn => by
    obtain ⟨n, rfl⟩ : ∃ m, n = m + 1 := ⟨n - 1, by omega⟩
    simp [strA]
  | c :: s, acc, n, r, hs, hn => by
    obtain ⟨n, rfl⟩ : ∃ m, n = m + 1 := ⟨n - 1, by omega⟩
    have hc : c ≤ 126 := by simp [okT] at hs; exact hs.1
    have hs' : okT s = true := by simp [okT] at hs ⊢; exact hs.2
    have ih := fun acc n => strA_quote s acc n r hs'
    rw [List.flatMap_cons] at hn ⊢
    by_cases h1 : c < 32
    · have e : quoteC c = [92, 117, 48, 48, hexd (c.toNat / 16), hexd (c.toNat % 16)] := by simp [quoteC, h1]
      rw [e] at hn ⊢
      simp only [List.cons_append, List.nil_append, List.length_cons] at hn ⊢
      rw [strA]
      simp only [escP_ctl h1]
      rw [if_neg (by decide), if_neg (by decide), if_pos trivial, ih _ _ (by omega)]
      simp
    · by_cases h2 : c = 34 ∨ c = 92
      · have e : quoteC c = [92, c] := by simp only [quoteC, if_neg h1, if_pos h2]
        rw [e] at hn ⊢
        simp only [List.cons_append, List.nil_append, List.length_cons] at hn ⊢
        rw [strA]
        have e2 : escP (c :: (s.flatMap quoteC ++ 34 :: r)) = some (c, s.flatMap quoteC ++ 34 :: r) := by
          rcases h2 with rfl | rfl <;> simp [escP, esc]
        simp only [e2]
        rw [if_neg (by decide), if_neg (by decide), if_pos trivial, ih _ _ (by omega)]
        simp
      · have e : quoteC c = [c] := by simp only [quoteC, if_neg h1, if_neg h2]
        rw [e] at hn ⊢
        simp only [List.cons_append, List.nil_append, List.length_cons] at hn ⊢
        rw [strA]
        have h3 : ¬ (c < 32 ∨ 126 < c) := by
          rintro (h | h)
          · exact h1 h
          · rw [UInt8.lt_iff_toNat_lt] at h; rw [UInt8.le_iff_toNat_le] at hc; omega
        rw [if_neg h3, if_neg (fun h => h2 (.inl h)), if_neg (fun h => h2 (.inr h)), ih _ _ (by omega)]
        simp
theorem textP_quote (s r : Bs) (hs : okT s = true) : textP (quote s ++ r) = some (s, r) := by
  have h := strA_quote s [] (quote s ++ r).length r hs (by simp [quote]; omega)
  simp only [textP, quote, List.cons_append, look, List.tail_cons, List.append_assoc, List.nil_append] at h ⊢
  simpa using h
theorem takeD_app : ∀ (d : Bs) (n : Nat) (r : Bs), d.length < n → d.all isDig = true → isDig (look r) = false → takeD n (d ++ r) = (d, r)
  | [], n, r, hn, _, hr => by
    obtain ⟨n, rfl⟩ : ∃ m, n = m + 1 := ⟨n - 1, by simp at hn; omega⟩
    cases r with
    | nil => simp [takeD]
    | cons c r => simp [look] at hr; simp [takeD, hr]
  | c :: d, n, r, hn, hd, hr => by
    obtain ⟨n, rfl⟩ : ∃ m, n = m + 1 := ⟨n - 1, by simp at hn; omega⟩
    simp only [List.all_cons, Bool.and_eq_true] at hd
    simp only [List.cons_append, takeD, hd.1, if_true, takeD_app d n r (by simpa using hn) hd.2 hr]
theorem dig_of {k : Nat} (h : k < 10) : isDig (dg k) = true ∧ (dg k).toNat - 48 = k := by
  have key : ∀ k : Fin 10, isDig (dg k.1) = true ∧ (dg k.1).toNat - 48 = k.1 := by decide
  exact key ⟨k, h⟩
theorem decV_snoc (n : Nat) (d : Bs) (c : UInt8) : decV n (d ++ [c]) = 10 * decV n d + (c.toNat - 48) := by simp [decV]
/-- the digits of a number -/
theorem digB_ok : ∀ (f m : Nat), m < 10 ^ f → (digB f m).all isDig = true ∧ decV 0 (digB f m) = m ∧ (digB f m).length ≤ f ∧ (0 < f → digB f m ≠ []) ∧ (look (digB f m) = 48 → 0 < f → digB f m = [48])
  | 0, m, h => by
    simp at h
    subst h
    simp [digB, decV]
  | f + 1, m, h => by
    rw [digB]
    split
    · rename_i hm
      have := dig_of hm
      refine ⟨by simp [this.1], by simp [decV, this.2], by simp, by simp, ?_⟩
      intro h1 _
      simp only [look] at h1
      rw [h1]
    · rename_i hm
      have hf : 0 < f := by
        rcases Nat.eq_zero_or_pos f with rfl | h1
        · simp at h; omega
        · exact h1
      have hq : m / 10 < 10 ^ f := by
        rw [Nat.pow_succ] at h
        exact Nat.div_lt_of_lt_mul (by omega)
      obtain ⟨h1, h2, h3, h4, h5⟩ := digB_ok f (m / 10) hq
      have hd := dig_of (Nat.mod_lt m (by decide : 0 < 10))
      refine ⟨by rw [List.all_append, h1]; simp [hd.1], by rw [decV_snoc, h2, hd.2]; omega, by simp; omega, by simp, ?_⟩
      intro h6 _
      obtain ⟨c, l, hc⟩ : ∃ c l, digB f (m / 10) = c :: l := by
        cases hx : digB f (m / 10) with
        | nil => exact absurd hx (h4 hf)
        | cons c l => exact ⟨c, l, rfl⟩
      rw [hc] at h6
      simp only [List.cons_append, look] at h6
      have h7 := h5 (by rw [hc]; exact h6) hf
      rw [h7] at h2
      simp [decV] at h2
      omega
theorem isDig_ne {c : UInt8} (h : isDig c = true) : c ≠ 45 ∧ c ≠ 110 ∧ c ≠ 116 ∧ c ≠ 102 ∧ c ≠ 34 ∧ c ≠ 91 ∧ c ≠ 123 ∧ isBl c = false ∧ c ≠ 93 ∧ c ≠ 125 := by
  have key : ∀ k : Fin 256, isDig (UInt8.ofNat k.1) = true → UInt8.ofNat k.1 ≠ 45 ∧ UInt8.ofNat k.1 ≠ 110 ∧ UInt8.ofNat k.1 ≠ 116 ∧ UInt8.ofNat k.1 ≠ 102 ∧ UInt8.ofNat k.1 ≠ 34 ∧ UInt8.ofNat k.1 ≠ 91 ∧ UInt8.ofNat k.1 ≠ 123 ∧ isBl (UInt8.ofNat k.1) = false ∧ UInt8.ofNat k.1 ≠ 93 ∧ UInt8.ofNat k.1 ≠ 125 := by decide +kernel
  have := key ⟨c.toNat, c.toNat_lt⟩
  simp only [UInt8.ofNat_toNat] at this
  exact this h
theorem look_dig {f m : Nat} (h : m < 10 ^ f) (hf : 0 < f) : isDig (look (digB f m)) = true ∧ ∃ l, digB f m = look (digB f m) :: l := by
  obtain ⟨h1, h2, h3, h4, h5⟩ := digB_ok f m h
  cases hx : digB f m with
  | nil => exact absurd hx (h4 hf)
  | cons c l =>
    rw [hx] at h1
    simp only [List.all_cons, Bool.and_eq_true] at h1
    exact ⟨h1.1, l, rfl⟩
theorem numP_int (n : Int) (r : Bs) (h1 : -1000000000000000 ≤ n) (h2 : n ≤ 1000000000000000) (hr : isDig (look r) = false) : numP (intB n ++ r) = some (n, r) := by
  have hm : n.natAbs < 10 ^ 16 := by omega
  obtain ⟨a1, a2, a3, a4, a5⟩ := digB_ok 16 n.natAbs hm
  have hb : ∀ neg : Bool, (neg = true → n.natAbs ≠ 0) → badN neg (digB 16 n.natAbs) = false := fun neg hneg => by
    unfold badN
    rw [a2]
    have e1 : (digB 16 n.natAbs).isEmpty = false := by
      cases hx : digB 16 n.natAbs with
      | nil => exact absurd hx (a4 (by decide))
      | cons c l => rfl
    have e2 : decide (1000000000000000 < n.natAbs) = false := by simp; omega
    rw [e1, e2]
    simp only [Bool.false_or, Bool.or_false]
    cases hq : (look (digB 16 n.natAbs) == 48) with
    | false => rfl
    | true =>
      have h6 := a5 (by simpa using hq) (by decide)
      rw [h6]
      cases neg with
      | false => rfl
      | true =>
        rw [h6] at a2
        simp [decV] at a2
        exact absurd (by omega) (hneg rfl)
  by_cases hn : n < 0
  · have e : intB n ++ r = 45 :: (digB 16 n.natAbs ++ r) := by simp [intB, hn]
    have e1 : negP (45 :: (digB 16 n.natAbs ++ r)) = true := by simp [negP, look]
    have e2 : digP (45 :: (digB 16 n.natAbs ++ r)) = (digB 16 n.natAbs, r) := by
      unfold digP
      rw [e1, if_pos rfl, List.tail_cons]
      exact takeD_app _ _ _ (by omega) a1 hr
    rw [e, numP, e1, e2, hb true (fun _ => by omega), if_neg (by decide), if_pos rfl, a2]
    have : -(n.natAbs : Int) = n := by omega
    rw [this]
  · obtain ⟨b1, l, b2⟩ := look_dig hm (by decide)
    have e : intB n ++ r = digB 16 n.natAbs ++ r := by simp [intB, hn]
    have e1 : negP (digB 16 n.natAbs ++ r) = false := by
      have := (isDig_ne b1).1
      unfold negP
      rw [b2, List.cons_append]
      simpa [look] using this
    have e2 : digP (digB 16 n.natAbs ++ r) = (digB 16 n.natAbs, r) := by
      unfold digP
      rw [e1, if_neg (by decide)]
      exact takeD_app _ _ _ (by omega) a1 hr
    rw [e, numP, e1, e2, hb false (by simp), if_neg (by decide), if_neg (by decide), a2]
    have : (n.natAbs : Int) = n := by omega
    rw [this]

theorem textP_ne {r : Bs} (h : look r ≠ 34) : textP r = none := by simp [textP, h]
/-- a value's text begins well -/
theorem writeV_first : ∀ (v : JT) (d : Nat), rightV d v = true → ∃ c l, writeV v = c :: l ∧ isBl c = false ∧ c ≠ 93 ∧ c ≠ 125
  | .mk k n t ns ks, d, h => by
    rw [writeV]
    by_cases h0 : k = 0
    · rw [if_pos h0]; exact ⟨_, _, rfl, by decide, by decide, by decide⟩
    rw [if_neg h0]
    by_cases h1 : k = 1
    · rw [if_pos h1]; split <;> exact ⟨_, _, rfl, by decide, by decide, by decide⟩
    rw [if_neg h1]
    by_cases h2 : k = 2
    · rw [if_pos h2]
      have hn : n.natAbs < 10 ^ 16 := by
        rw [rightV] at h
        simp [h2] at h
        omega
      obtain ⟨b1, l, b2⟩ := look_dig hn (by decide)
      have := isDig_ne b1
      unfold intB
      split
      · exact ⟨_, _, rfl, by decide, by decide, by decide⟩
      · exact ⟨_, _, b2, this.2.2.2.2.2.2.2.1, this.2.2.2.2.2.2.2.2.1, this.2.2.2.2.2.2.2.2.2⟩
    rw [if_neg h2]
    by_cases h3 : k = 3
    · rw [if_pos h3]; exact ⟨_, _, rfl, by decide, by decide, by decide⟩
    rw [if_neg h3]
    split <;> exact ⟨_, _, rfl, by decide, by decide, by decide⟩
theorem endC_nb (m : Bool) : isBl (endC m) = false ∧ isDig (endC m) = false ∧ (44 : UInt8) ≠ endC m ∧ (34 : UInt8) ≠ endC m := by cases m <;> decide
theorem distinct_not {l r : List Bs} {x : Bs} (h : distinct (l ++ x :: r) = true) : x ∉ l := by
  induction l with
  | nil => simp
  | cons y l ih =>
    rw [List.cons_append, distinct] at h
    simp only [Bool.and_eq_true, Bool.not_eq_true', List.contains_eq_mem, decide_eq_false_iff_not] at h
    rintro (_ | ⟨_, h1⟩)
    · exact h.1 (by simp)
    · exact ih h.2 h1
theorem listL_round (val : Bs → Except Int (JT × Bs)) (m : Bool) (d : Nat) (hv : ∀ v r, rightV d v = true → isDig (look r) = false → val (writeV v ++ r) = .ok (v, skip r)) (r : Bs) :
    ∀ (ks : List JT) (ns ns0 : List Bs) (ks0 : List JT) (n : Nat), (∀ k ∈ ks, rightV d k = true) → (if m then ns.length = ks.length else ns = []) → ns.all okT = true → distinct (ns0 ++ ns) = true →
      (itemsV m ns ks ks0.isEmpty ++ endC m :: r).length < n → listL val m n ns0 ks0 (itemsV m ns ks ks0.isEmpty ++ endC m :: r) = .ok (ns0 ++ ns, ks0 ++ ks, skip r)
  | [], ns, ns0, ks0, n, _, hl, _, _, hn => by
    obtain ⟨n, rfl⟩ : ∃ m, n = m + 1 := ⟨n - 1, by omega⟩
    have hns : ns = [] := by
      cases m with
      | true => simpa using hl
      | false => simpa using hl
    subst hns
    have hs : signP (endC m) (endC m :: r) = (true, skip r) := by simp [signP, skip_nb (endC_nb m).1, look]
    rw [itemsV, List.nil_append, listL, hs]
    simp
  | k :: ks, ns, ns0, ks0, n, hk, hl, ho, hd, hn => by
    obtain ⟨n, rfl⟩ : ∃ m, n = m + 1 := ⟨n - 1, by omega⟩
    have hk1 := hk k (List.mem_cons_self ..)
    obtain ⟨c, wl, hw, hb, hc1, hc2⟩ := writeV_first k d hk1
    have hce : c ≠ endC m := by cases m <;> assumption
    -- what stands behind the value
    obtain ⟨T, hT⟩ : ∃ T, T = itemsV m ns.tail ks false ++ endC m :: r := ⟨_, rfl⟩
    have hT1 : ∃ c' l', T = c' :: l' ∧ isBl c' = false ∧ isDig c' = false := by
      rw [hT]
      cases ks with
      | nil => exact ⟨_, _, rfl, (endC_nb m).1, (endC_nb m).2.1⟩
      | cons k' ks' => rw [itemsV]; exact ⟨_, _, rfl, by decide, by decide⟩
    obtain ⟨c', l', hT1, hT2, hT3⟩ := hT1
    have hvk : val (writeV k ++ T) = .ok (k, T) := by
      rw [hv k T hk1 (by rw [hT1]; exact hT3), hT1, skip_nb hT2]
    -- the name
    obtain ⟨U, hU⟩ : ∃ U, U = (if m then quote (ns.headD []) ++ [58] else []) ++ (writeV k ++ T) := ⟨_, rfl⟩
    have hU1 : ∃ c' l', U = c' :: l' ∧ isBl c' = false ∧ c' ≠ endC m := by
      rw [hU]
      cases m with
      | true => exact ⟨_, _, rfl, by decide, by decide⟩
      | false => rw [hw]; exact ⟨_, _, rfl, hb, hce⟩
    obtain ⟨cu, lu, hU1, hU2, hU3⟩ := hU1
    have hin : itemsV m ns (k :: ks) ks0.isEmpty ++ endC m :: r = (if ks0.isEmpty then [] else [44]) ++ U := by
      rw [itemsV, hU, hT]
      simp [List.append_assoc]
    rw [hin] at hn ⊢
    have hs : signP (endC m) ((if ks0.isEmpty then [] else [44]) ++ U) = (false, (if ks0.isEmpty then [] else [44]) ++ U) := by
      cases ks0.isEmpty with
      | true => simp only [if_true, List.nil_append, signP, hU1, skip_nb hU2, look, if_neg hU3]
      | false => simp only [Bool.false_eq_true, if_false, List.cons_append, List.nil_append, signP, skip_nb (show isBl 44 = false by decide), look, if_neg (endC_nb m).2.2.1]
    have hcm : commaP ks0.isEmpty ((if ks0.isEmpty then [] else [44]) ++ U) = .ok U := by
      cases ks0.isEmpty with
      | true => simp [commaP]
      | false => simp [commaP, mustP, skip_nb (show isBl 44 = false by decide), look, hU1, skip_nb hU2]
    have hky : keyP m ns0 U = .ok (ns0 ++ (if m then [ns.headD []] else []), writeV k ++ T) := by
      cases m with
      | false => simp [keyP, hU]
      | true =>
        cases ns with
        | nil => simp at hl
        | cons s ns' =>
          have hos : okT s = true := by simp at ho; exact ho.1
          have h1 : U = quote s ++ 58 :: (writeV k ++ T) := by rw [hU]; simp
          have h2 : mustP 58 (58 :: (writeV k ++ T)) = .ok (writeV k ++ T) := by
            simp [mustP, skip_nb (show isBl 58 = false by decide), look, hw, skip_nb hb]
          rw [keyP, if_pos rfl, nameP, h1, textP_quote s _ hos]
          simp only [if_neg (distinct_not hd), h2]
          simp
    have ih := listL_round val m d hv r ks ns.tail (ns0 ++ (if m then [ns.headD []] else [])) (ks0 ++ [k]) n (fun x hx => hk x (List.mem_cons_of_mem _ hx))
      (by cases m with
        | true => simp at hl ⊢; omega
        | false => simp at hl ⊢; rw [hl]; rfl)
      (by cases ns with
        | nil => rfl
        | cons s ns' => simp at ho ⊢; exact ho.2)
      (by cases m with
        | true =>
          cases ns with
          | nil => simp at hl
          | cons s ns' => simpa using hd
        | false => simp at hl; subst hl; simpa using hd)
    have he : (ks0 ++ [k]).isEmpty = false := by simp
    rw [he, ← hT] at ih
    have hlen : T.length < n := by
      rw [hU] at hn
      simp [hw] at hn
      omega
    rw [listL, hs]
    simp only [hcm, hky, hvk, ih hlen]
    cases m with
    | true =>
      cases ns with
      | nil => simp at hl
      | cons s ns' => simp
    | false => simp at hl; subst hl; simp
theorem wordR_app (w r : Bs) (v : JT) : wordR w (w ++ r) v = .ok (v, r) := by
  have h : w.isPrefixOf (w ++ r) = true := List.isPrefixOf_iff_prefix.2 (List.prefix_append _ _)
  simp [wordR, wordP, h]
theorem skip_skip : ∀ r : Bs, skip (skip r) = skip r
  | [] => rfl
  | c :: r => by
    by_cases h : isBl c = true
    · simp only [skip, h, if_true, skip_skip r]
    · simp [skip, h]
theorem rawP_write (lp : Bs → Except Int (JT × Bs)) (d : Nat) (v : JT) (r : Bs) (h : rightV d v = true) (hr : isDig (look r) = false)
    (hl : ∀ k n t ns ks, v = .mk k n t ns ks → k = 4 ∨ k = 5 → lp (writeV v ++ r) = .ok (v, skip r)) : ∃ r1, rawP lp (writeV v ++ r) = .ok (v, r1) ∧ skip r1 = skip r := by
  obtain ⟨k, n, t, ns, ks⟩ := v
  have h' := h
  rw [rightV] at h
  simp only [plainJ, Bool.and_eq_true, Bool.or_eq_true, Bool.not_eq_true', beq_iff_eq, decide_eq_true_eq, List.isEmpty_iff, bne_iff_ne] at h
  obtain ⟨⟨⟨⟨⟨⟨⟨⟨⟨⟨⟨hn, hk⟩, hns⟩, ht⟩, _⟩, hk0⟩, _⟩, hot⟩, _⟩, hint⟩, _⟩, _⟩ := h
  by_cases h0 : k = 0
  · subst h0
    obtain rfl : n = 0 := by simpa using hn
    obtain rfl : ks = [] := by simpa using hk
    obtain rfl : ns = [] := by simpa using hns
    obtain rfl : t = [] := by simpa using ht
    rw [writeV, if_pos rfl]
    simp only [rawP, List.cons_append, look, if_true]
    exact ⟨r, wordR_app [110, 117, 108, 108] r jzero, rfl⟩
  by_cases h1 : k = 1
  · subst h1
    obtain rfl : ks = [] := by simpa using hk
    obtain rfl : ns = [] := by simpa using hns
    obtain rfl : t = [] := by simpa using ht
    rw [writeV, if_neg (by decide), if_pos rfl]
    by_cases hn1 : n = 1
    · subst hn1
      rw [if_pos rfl]
      have := wordR_app [116, 114, 117, 101] r jtrue
      exact ⟨r, by simpa [rawP, look, jtrue, jfalse] using this, rfl⟩
    · obtain rfl : n = 0 := by
        simp at hn
        rcases hn with h | h
        · exact h
        · exact absurd h hn1
      rw [if_neg (by decide)]
      have := wordR_app [102, 97, 108, 115, 101] r jfalse
      exact ⟨r, by simpa [rawP, look, jtrue, jfalse] using this, rfl⟩
  by_cases h2 : k = 2
  · subst h2
    obtain rfl : ks = [] := by simpa using hk
    obtain rfl : ns = [] := by simpa using hns
    obtain rfl : t = [] := by simpa using ht
    have hb : -1000000000000000 ≤ n ∧ n ≤ 1000000000000000 := by simpa using hint
    obtain ⟨b1, l, b2⟩ := look_dig (show n.natAbs < 10 ^ 16 by omega) (by decide)
    have hx := isDig_ne b1
    rw [writeV, if_neg (by decide), if_neg (by decide), if_pos rfl]
    have hlook : look (intB n ++ r) = if n < 0 then 45 else look (digB 16 n.natAbs) := by
      unfold intB
      split
      · rfl
      · rw [b2]; rfl
    have hq : ∀ c : UInt8, c ≠ 45 → (∀ x, isDig x = true → x ≠ c) → look (intB n ++ r) ≠ c := fun c h1 h2 => by
      rw [hlook]
      split
      · exact fun h => h1 h.symm
      · exact h2 _ b1
    rw [rawP, if_neg (hq 110 (by decide) (fun x h => (isDig_ne h).2.1)), if_neg (hq 116 (by decide) (fun x h => (isDig_ne h).2.2.1)), if_neg (hq 102 (by decide) (fun x h => (isDig_ne h).2.2.2.1)),
      if_neg (hq 34 (by decide) (fun x h => (isDig_ne h).2.2.2.2.1)), if_neg (by
        rintro (h | h)
        · exact hq 91 (by decide) (fun x h => (isDig_ne h).2.2.2.2.2.1) h
        · exact hq 123 (by decide) (fun x h => (isDig_ne h).2.2.2.2.2.2.1) h), numP_int n r hb.1 hb.2 hr]
    exact ⟨r, rfl, rfl⟩
  by_cases h3 : k = 3
  · subst h3
    obtain rfl : n = 0 := by simpa using hn
    obtain rfl : ks = [] := by simpa using hk
    obtain rfl : ns = [] := by simpa using hns
    rw [writeV, if_neg (by decide), if_neg (by decide), if_neg (by decide), if_pos rfl]
    have := textP_quote t r hot
    have hlk : look (quote t ++ r) = 34 := rfl
    rw [rawP, hlk, if_neg (by decide), if_neg (by decide), if_neg (by decide), if_pos rfl, this]
    exact ⟨r, rfl, rfl⟩
  have hk45 : k = 4 ∨ k = 5 := by omega
  have hlk : look (writeV (.mk k n t ns ks) ++ r) = 91 ∨ look (writeV (.mk k n t ns ks) ++ r) = 123 := by
    rw [writeV, if_neg h0, if_neg h1, if_neg h2, if_neg h3]
    rcases hk45 with rfl | rfl
    · exact .inl rfl
    · exact .inr rfl
  have hl := hl _ _ _ _ _ rfl hk45
  rw [rawP]
  rcases hlk with e | e
  · rw [e, if_neg (by decide), if_neg (by decide), if_neg (by decide), if_neg (by decide), if_pos (.inl rfl)]
    exact ⟨_, hl, skip_skip r⟩
  · rw [e, if_neg (by decide), if_neg (by decide), if_neg (by decide), if_neg (by decide), if_pos (.inr rfl)]
    exact ⟨_, hl, skip_skip r⟩
theorem skip_write {v : JT} {d : Nat} (h : rightV d v = true) (r : Bs) : skip (writeV v ++ r) = writeV v ++ r := by
  obtain ⟨c, l, h1, h2, _⟩ := writeV_first v d h
  rw [h1, List.cons_append, skip_nb h2]
theorem valueP_write : ∀ (d : Nat) (v : JT) (r : Bs), rightV d v = true → isDig (look r) = false → valueP d (writeV v ++ r) = .ok (v, skip r)
  | 0, v, r, h, hr => by
    obtain ⟨r1, h1, h2⟩ := rawP_write (fun _ => .error 9) 0 v r h hr (by
      rintro k n t ns ks rfl hk
      rw [rightV] at h
      rcases hk with rfl | rfl <;> simp at h)
    rw [valueP, skip_write h, h1, skipR, h2]
  | d + 1, v, r, h, hr => by
    obtain ⟨r1, h1, h2⟩ := rawP_write (listP (valueP d)) (d + 1) v r h hr (by
      rintro k n t ns ks rfl hk
      have hw : writeV (.mk k n t ns ks) = (if k = 5 then 123 else 91) :: (itemsV (k == 5) ns ks true ++ [if k = 5 then 125 else 93]) := by
        rw [writeV, if_neg (by omega), if_neg (by omega), if_neg (by omega), if_neg (by omega)]
      rw [rightV] at h
      simp only [plainJ, Bool.and_eq_true, Bool.or_eq_true, Bool.not_eq_true', beq_iff_eq, decide_eq_true_eq, List.isEmpty_iff, bne_iff_ne] at h
      obtain ⟨⟨⟨⟨⟨⟨⟨⟨⟨⟨⟨hn, _⟩, hns⟩, ht⟩, _⟩, _⟩, hlen⟩, _⟩, hnames⟩, _⟩, hdis⟩, hkids⟩ := h
      have hkids := (rightsV_iff d ks).1 (by simpa using hkids)
      have hn0 : n = 0 := by omega
      have ht0 : t = [] := by
        rcases ht with h | h
        · exact h
        · omega
      subst hn0 ht0
      have e1 : (k == 5) = true ↔ k = 5 := by simp
      have key := listL_round (valueP d) (k == 5) d (fun v r h hr => valueP_write d v r h hr) r ks ns [] [] (writeV (.mk k 0 [] ns ks) ++ r).length hkids
        (by rcases hk with rfl | rfl
            · simpa using hns
            · simpa using hlen) hnames (by simpa using hdis)
        (by rw [hw]; simp)
      have hin : writeV (.mk k 0 [] ns ks) ++ r = (if k = 5 then 123 else 91) :: (itemsV (k == 5) ns ks true ++ endC (k == 5) :: r) := by
        rw [hw]
        rcases hk with rfl | rfl <;> simp [endC]
      have hl2 : (look ((if k = 5 then 123 else 91) :: (itemsV (k == 5) ns ks true ++ endC (k == 5) :: r)) == 123) = (k == 5) := by
        rcases hk with rfl | rfl <;> rfl
      have hsk : skip (itemsV (k == 5) ns ks true ++ endC (k == 5) :: r) = itemsV (k == 5) ns ks true ++ endC (k == 5) :: r := by
        cases ks with
        | nil => rw [itemsV, List.nil_append, skip_nb (endC_nb _).1]
        | cons k1 kr =>
          obtain ⟨c, l, h1, h2, _⟩ := writeV_first k1 d (hkids k1 (List.mem_cons_self ..))
          rw [itemsV]
          rcases hk with rfl | rfl
          · simp [h1, skip_nb h2]
          · simp [quote, skip_nb (show isBl 34 = false by decide)]
      rw [hin] at key ⊢
      simp only [List.isEmpty_nil, List.nil_append] at key
      rw [listP, hl2, List.tail_cons, hsk, key]
      simp only
      rcases hk with rfl | rfl <;> rfl)
    rw [valueP, skip_write h, h1, skipR, h2]
theorem readP_write (v : JT) (h : rightV 6 v = true) (hl : (writeV v).length ≤ 2000) : readP (writeV v) = .ok v := by
  have := valueP_write 6 v [] h (by decide)
  rw [List.append_nil] at this
  rw [readP, if_neg (by omega), this]
  rfl

end Go.Proofs.Ytcfbnjaelniahaa.Js
/-
  Walks: json's reader: a number.
-/
namespace Go.Proofs.Ytcfbnjaelniahaa.Js
set_option linter.unusedSimpArgs false
set_option linter.unusedVariables false
open Go.RowKit

/-- behind k digits -/
structure DigK (X tk rest : Bs) (k : Nat) : Prop where
  len : tk.length = k
  k17 : k ≤ 17
  eq : takeD 17 X = (tk ++ (takeD (17 - k) rest).1, (takeD (17 - k) rest).2)
  app : X = tk ++ rest
  lt : decV 0 tk < 10 ^ k
theorem DigK.start (X : Bs) : DigK X [] X 0 := ⟨rfl, by decide, by simp, rfl, by simp [decV]⟩
theorem isDig_val {c : UInt8} (h : isDig c = true) : 48 ≤ c.toNat ∧ c.toNat ≤ 57 := by
  unfold isDig at h
  simp only [Bool.and_eq_true, decide_eq_true_eq, UInt8.le_iff_toNat_le] at h
  exact h
theorem DigK.next {X tk rest : Bs} {k : Nat} {c : UInt8} (h : DigK X tk (c :: rest) k) (hc : isDig c = true) (hk : k < 17) : DigK X (tk ++ [c]) rest (k + 1) := by
  have h1 := h.eq
  obtain ⟨m, hm⟩ : ∃ m, 17 - k = m + 1 := ⟨16 - k, by omega⟩
  rw [hm, takeD, if_pos hc] at h1
  have h2 := isDig_val hc
  have h3 := h.lt
  refine ⟨by simp [h.len], by omega, ?_, by rw [h.app]; simp, ?_⟩
  · rw [h1, show 17 - (k + 1) = m by omega]
    simp
  · rw [decV_snoc, Nat.pow_succ]
    omega
theorem DigK.stop {X tk rest : Bs} {k : Nat} (h : DigK X tk rest k) (hs : isDig (look rest) = false ∨ k = 17) : takeD 17 X = (tk, rest) := by
  rw [h.eq]
  have : takeD (17 - k) rest = ([], rest) := by
    rcases hs with hs | hs
    · cases rest with
      | nil => cases 17 - k <;> rfl
      | cons c r =>
        have hc : isDig c = false := hs
        cases hq : 17 - k with
        | zero => rfl
        | succ m => simp [takeD, hc]
    · rw [hs]
      rfl
  rw [this]
  simp
/-- what number hands back -/
def numV : Option (Int × Bs) → JV
  | none => zJV
  | some (n, _) => ⟨2, n, [], none, 0, 0, none, 0, 0⟩
def numE : Option (Int × Bs) → Int
  | none => 13
  | some _ => 0
set_option maxRecDepth 100000 in
set_option maxHeartbeats 4000000 in
theorem number_any (s : ByteArray) (hs : (s.size : Int) ≤ 1000000) (r a : Nat) (d : Int) (w : World) (h : RD w r s a d 0) (ha : a ≤ s.size) :
    Calls Try.prog 38 #[.pointer (some ⟨r, 0, none⟩)] w fun x w' => x = .returned (.agg (jvCells (numV (numP (s.data.toList.drop a))))) ∧ ∃ a', At s a a' (digP (s.data.toList.drop a)).2 ∧
      RD w' r s a' d (numE (numP (s.data.toList.drop a))) ∧ RG r w w' := by
  have hu := Try.underlying25
  obtain ⟨W0, hW0⟩ : ∃ W0, W0 = w.alloc (.cells (jvCells zJV) 25) := ⟨_, rfl⟩
  have hb0 : Below w.heap.size w W0 := by rw [hW0]; exact (Below.refl _ w).alloc (Nat.le_refl _) _
  obtain ⟨G, hG⟩ : ∃ G, G = w.heap.size := ⟨_, rfl⟩
  have HKZ := Lib.hid (show Blk W0 G 25 (jvCells zJV) by rw [hW0, hG]; exact Blk.new _ _ _)
  have HRD := Lib.hid (h.grow hb0)
  have HRG := Lib.hid (show RG r w W0 from .below hb0)
  have HRL := Lib.hid (show r < G by rw [hG]; exact Blk.lt h)
  have HW0 := Lib.hid hW0
  obtain ⟨X, hX⟩ : ∃ X, X = s.data.toList.drop a := ⟨_, rfl⟩
  have HX := Lib.hid hX
  have HA := Lib.hid ha
  have ha' : (a : Int) ≤ (s.size : Int) := by omega
  rw [← hX]
  have CL := Lib.hid (fun (b : Nat) (u : World) (h : RD u r s b d 0) => look_any s r b d 0 u h)
  clear hW0 hb0 h hX ha
  rw [hG] at *
  clear hG
  go_enter Try.func38, Try.ntmps38
  go_upto_region 1 with (fail)
  rw [show (w.alloc (.cells #[.int .i64 0, .int .i64 0, .string ⟨#[]⟩, .slice none 0 0, .slice none 0 0] 25)) = W0 from HW0.out.symm]
  clear HW0
  obtain ⟨c0, c1, -, -⟩ := HRD.out.cells
  go_wp2_with fail
  refine calls_then (CL.out a _ HRD.out) ?_
  rintro y w1 ⟨rfl, hrd, hrg⟩
  have HRD1 := Lib.hid hrd
  have HZ1 := Lib.hid (show Blk w1 w.heap.size 25 (jvCells zJV) from (World.grownBy.block hrg _ HKZ.out.lt (by have := HRL.out; intro h; injection h with h; omega)).trans HKZ.out)
  have HRG1 := Lib.hid (HRG.out.trans hrg)
  clear hrd hrg c0 c1
  obtain ⟨neg, hneg⟩ : ∃ neg, neg = negP X := ⟨_, rfl⟩
  have hlk : lookE s a 0 = look X := by rw [lookE, if_pos rfl, HX.out]
  have hnz : ((((lookE s a 0).toNat : Nat) : Int) == 45) = neg := by
    rw [hneg, hlk, negP, Bool.eq_iff_iff, beq_iff_eq, beq_iff_eq]
    constructor
    · intro h; exact UInt8.toNat.inj (by show (look X).toNat = 45; omega)
    · intro h; rw [h]; rfl
  unfold byteV
  generalize (((lookE s a 0).toNat : Nat) : Int) = z at *
  have HNG := Lib.hid hneg
  obtain ⟨f, hf⟩ : ∃ f, f = (if neg then a + 1 else a) := ⟨_, rfl⟩
  have HF := Lib.hid hf
  have HLT := Lib.hid (show neg = true → a < s.size from fun h => look_lt (by
    rw [h] at hneg
    have : look X = 45 := by simpa [negP] using hneg.symm
    rw [← HX.out, this]
    decide))
  clear hneg hlk hf
  go_upto_if 14 with (fail)
  go_cut [] (fun wx => RD wx r s f d 0 ∧ Blk wx w.heap.size 25 (jvCells zJV) ∧ RG r w wx)
  case first =>
    obtain ⟨c0, c1, -, -⟩ := HRD1.out.cells
    cases neg with
    | true =>
      go_wp2_with (refine wpList_put_cell (x := .tmp 21) (i := 1) HRD1.out rfl rfl rfl rfl (by kernel_rfl) (by simp [rdCells]) rfl ?_; intro w3 hb3 hw3)
      go_meet
      exact ⟨by rw [HF.out]; exact hb3, hw3.blk HZ1.out (by have := HRL.out; omega), HRG1.out.trans (.wrote hw3)⟩
    | false =>
      go_wp2_with fail
      go_meet
      exact ⟨by rw [HF.out]; exact HRD1.out, HZ1.out, HRG1.out⟩
  case rest =>
  obtain ⟨hrd, hz, hrg⟩ := hcut
  have HRD2 := Lib.hid hrd
  have HZ2 := Lib.hid hz
  have HRG2 := Lib.hid hrg
  obtain ⟨X1, hX1⟩ : ∃ X1, X1 = (if neg then X.tail else X) := ⟨_, rfl⟩
  have HX1 := Lib.hid hX1
  have HXF := Lib.hid (show s.data.toList.drop f = X1 by
    rw [HF.out, hX1]
    cases neg with
    | true => simp only [if_true]; rw [drop_tail, HX.out]
    | false => simp only [Bool.false_eq_true, if_false]; rw [HX.out])
  have HFS := Lib.hid (show a ≤ f ∧ f ≤ s.size by
    have h1 := HF.out
    have h2 := HA.out
    cases neg with
    | true => simp only [if_true] at h1; have := HLT.out rfl; omega
    | false => simp only [Bool.false_eq_true, if_false] at h1; omega)
  have hf9 : (f : Int) ≤ 1000000 := by have := HFS.out; omega
  obtain ⟨c0, c1, -, -⟩ := hrd.cells
  clear hrd hz hrg hX1 hnz
  go_wp2_with fail
  refine calls_then (CL.out f _ HRD2.out) ?_
  rintro y w3 ⟨rfl, hrd, hrg⟩
  have HRD3 := Lib.hid hrd
  have HZ3 := Lib.hid (show Blk w3 w.heap.size 25 (jvCells zJV) from (World.grownBy.block hrg _ HZ2.out.lt (by have := HRL.out; intro h; injection h with h; omega)).trans HZ2.out)
  have HRG3 := Lib.hid (HRG2.out.trans hrg)
  have HV3 := Lib.hid (show lookE s f 0 = look X1 by rw [lookE, if_pos rfl, HXF.out])
  clear hrd hrg c0 c1
  go_wp2_with fail
  go_loopg [5, 6] 17 (fun gk x c wr => ∃ (k : Nat) (tk rest : Bs), DigK X1 tk rest k ∧ gk + k = 17 ∧ x = .int .i64 ((decV 0 tk : Nat) : Int) ∧ c = byteV (look rest) ∧ s.data.toList.drop (f + k) = rest ∧ RD wr r s (f + k) d 0 ∧ Blk wr w.heap.size 25 (jvCells zJV) ∧ RG r w wr)
  case atStart => exact ⟨0, [], X1, DigK.start _, rfl, rfl, by rw [HV3.out], HXF.out, HRD3.out, HZ3.out, HRG3.out⟩
  case round =>
    obtain ⟨k, tk, rest, hdk, hgk, rfl, rfl, hrest, hrd, hz, hrg⟩ := hrel
    obtain ⟨c0, c1, -, -⟩ := hrd.cells
    have HDK := Lib.hid hdk
    have HRE := Lib.hid hrest
    have HRD4 := Lib.hid hrd
    have HZ4 := Lib.hid hz
    have HRG4 := Lib.hid hrg
    have hk17 : (k : Int) ≤ 17 := by have := hdk.k17; omega
    clear hdk hrest hrd hz hrg
    obtain ⟨c, hc⟩ : ∃ c, c = look rest := ⟨_, rfl⟩
    rw [← hc]
    have HC := Lib.hid hc
    obtain ⟨z2, hz2⟩ : ∃ z2 : Int, z2 = ((c.toNat : Nat) : Int) := ⟨_, rfl⟩
    have HZ := Lib.hid hz2
    have HDG := Lib.hid (show isDig c = (decide (48 ≤ z2) && decide (z2 ≤ 57)) by
      rw [hz2, isDig, Bool.eq_iff_iff]
      simp only [Bool.and_eq_true, decide_eq_true_eq, UInt8.le_iff_toNat_le]
      show (48 ≤ c.toNat ∧ c.toNat ≤ 57) ↔ _
      omega)
    unfold byteV
    rw [← hz2]
    have hfk : ((f + k : Nat) : Int) = (f : Int) + (k : Int) := by omega
    clear hc hz2
    go_upto_region 7 with (fail)
    go_cut [42] (fun x wx => x = .bool (decide (48 ≤ z2) && decide (z2 ≤ 57) && decide ((k : Int) ≤ 16)) ∧ wx = wr)
    case first =>
      go_wp2_with fail
      all_goals (go_meet; exact ⟨by first | rfl | (simp; done) | (simp_all; done) | grind, rfl⟩)
    case rest =>
    obtain ⟨rfl, rfl⟩ := hcut
    rw [← HDG.out]
    have hdc : isDig c = true → 48 ≤ z2 ∧ z2 ≤ 57 := fun h => by
      rw [HDG.out] at h
      simp only [Bool.and_eq_true, decide_eq_true_eq] at h
      exact h
    have HDC := Lib.hid hdc
    clear hdc
    by_cases hgo : isDig c = true ∧ k ≤ 16
    · obtain ⟨hg1, hg2⟩ := hgo
      obtain ⟨h48, h57⟩ := HDC.out hg1
      have hrt : rest = c :: rest.tail := by
        cases rest with
        | nil =>
          have : c = 0 := HC.out
          rw [this] at hg1
          exact absurd hg1 (by decide)
        | cons x l => rw [HC.out]; rfl
      obtain ⟨tl, htl⟩ : ∃ tl, tl = rest.tail := ⟨_, rfl⟩
      rw [← htl] at hrt
      have HNX := Lib.hid (show DigK X1 (tk ++ [c]) tl (k + 1) from DigK.next (by rw [← hrt]; exact HDK.out) hg1 (by omega))
      have HRT := Lib.hid (show s.data.toList.drop (f + (k + 1)) = tl by
        rw [← Nat.add_assoc, drop_tail, HRE.out, htl])
      have HFK := Lib.hid (show f + k < s.size from look_lt (by
        rw [HRE.out, ← HC.out]
        intro h0
        rw [h0] at hg1
        exact absurd hg1 (by decide)))
      obtain ⟨n, hn⟩ : ∃ n, n = decV 0 tk := ⟨_, rfl⟩
      have HNV := Lib.hid (show ((decV 0 (tk ++ [c]) : Nat) : Int) = 10 * (n : Int) + (z2 - 48) by
        rw [decV_snoc, ← hn, HZ.out]
        have := (isDig_val hg1).1
        omega)
      have hn9 : (n : Int) < 10000000000000000 := by
        have h1 := HDK.out.lt
        have h2 : 10 ^ k ≤ 10 ^ 16 := Nat.pow_le_pow_right (by decide) hg2
        rw [← hn] at h1
        omega
      have hw1 : wrap64 (10 * (n : Int)) = 10 * (n : Int) := by unfold wrap64; omega
      have hw2 : wrap64 (10 * (n : Int) + (z2 - 48)) = 10 * (n : Int) + (z2 - 48) := by unfold wrap64; omega
      clear hn9
      rw [← hn, hg1, show decide ((k : Int) ≤ 16) = true by simp; omega]
      have HGK := Lib.hid hg2
      clear hg1 hg2 hrt htl hn
      go_wp2_with (refine wpList_put_cell (x := .tmp 57) (i := 1) HRD4.out rfl rfl rfl rfl (by kernel_rfl) (by simp [rdCells]) rfl ?_; intro w5 hb5 hw5)
      have HRD5 := Lib.hid (show RD w5 r s (f + (k + 1)) d 0 from by
        show Blk w5 r _ #[.string s, .int .i64 ((f + (k + 1) : Nat) : Int), .int .i64 d, .int .i64 0]
        have e : ((f + (k + 1) : Nat) : Int) = (f : Int) + (k : Int) + 1 := by omega
        rw [e]
        have h := hb5
        simp only [hfk] at h
        exact h)
      have HZ5 := Lib.hid (hw5.blk HZ4.out (by have := HRL.out; omega))
      have HRG5 := Lib.hid (HRG4.out.trans (.wrote hw5))
      clear hb5 hw5
      refine calls_then (CL.out _ _ HRD5.out) ?_
      rintro y w6 ⟨rfl, hrd, hrg⟩
      have HRD6 := Lib.hid hrd
      have HZ6 := Lib.hid (show Blk w6 w.heap.size 25 (jvCells zJV) from (World.grownBy.block hrg _ HZ5.out.lt (by have := HRL.out; intro h; injection h with h; omega)).trans HZ5.out)
      have HRG6 := Lib.hid (HRG5.out.trans hrg)
      have HV6 := Lib.hid (show lookE s (f + (k + 1)) 0 = look tl by rw [lookE, if_pos rfl, HRT.out])
      clear hrd hrg
      go_wp2_with fail
      go_roundg (gk - 1)
      case measure => have := HGK.out; omega
      case rel => exact ⟨k + 1, tk ++ [c], tl, HNX.out, by have := HGK.out; omega, by rw [HNV.out], by rw [HV6.out], HRT.out, HRD6.out, HZ6.out, HRG6.out⟩
    · have HST := Lib.hid (show takeD 17 X1 = (tk, rest) from HDK.out.stop (by
        by_cases h : isDig c = true
        · exact .inr (by have := HDK.out.k17; have : ¬ k ≤ 16 := fun h' => hgo ⟨h, h'⟩; omega)
        · exact .inl (by rw [← HC.out]; simpa using h)))
      have hb : (isDig c && decide ((k : Int) ≤ 16)) = false := by
        cases hq : isDig c with
        | false => rfl
        | true =>
          have : ¬ k ≤ 16 := fun h' => hgo ⟨hq, h'⟩
          simp
          omega
      rw [hb]
      have HLE := Lib.hid (show f + k ≤ s.size from by
        have h1 := congrArg List.length HRE.out
        have h2 := congrArg List.length HXF.out
        have h3 := congrArg List.length HDK.out.app
        have h4 := HDK.out.len
        have h5 : s.data.toList.length = s.size := rfl
        simp only [List.length_drop, List.length_append] at h1 h2 h3
        have h6 := HFS.out
        omega)
      have hle : (f : Int) + (k : Int) ≤ (s.size : Int) := by have := HLE.out; omega
      clear hb hgo
      go_wp2_with fail
      go_quiet (fail)
      have HDX := Lib.hid (show digP X = (tk, rest) by rw [digP, ← HNG.out, ← HX1.out, HST.out])
      have HEX := Lib.hid (show (s.extract f (f + k)).data.toList = tk by
        rw [Lib.extract_data, HXF.out, HDK.out.app, show f + k - f = k by omega, ← HDK.out.len, List.take_left])
      generalize hT : s.extract f (f + k) = T at *
      have HTS := Lib.hid (show T.data.toList = tk from HEX.out)
      have HRD7 := Lib.hid (show RD (wc.drewN nq) r s (f + k) d 0 from HRD4.out)
      have HZ7 := Lib.hid (show Blk (wc.drewN nq) w.heap.size 25 (jvCells zJV) from HZ4.out)
      have HRG7 := Lib.hid (HRG4.out.drewN nq)
      generalize wc.drewN nq = W7 at *
      go_upto_region 12 with (fail)
      obtain ⟨n, hn⟩ : ∃ n, n = decV 0 tk := ⟨_, rfl⟩
      rw [← hn]
      have HNN := Lib.hid hn
      have HTL := Lib.hid (show T.toList = tk by rw [Lib.toList_data, HTS.out])
      have HTZ := Lib.hid (show T.size = tk.length by rw [← HTS.out]; rfl)
      have haf : decide ((a : Int) < (f : Int)) = neg := by
        rw [HF.out]
        cases neg <;> simp
        omega
      have HAF := Lib.hid haf
      clear hn haf c0 c1
      go_cut [88] (fun x wx => x = .bool (badN neg tk) ∧ wx = W7)
      case first =>
        cases tk with
        | nil =>
          have h0 : (T.toList == []) = true := by rw [HTL.out]; rfl
          go_wp2_with fail
          all_goals (go_meet; exact ⟨by simp [badN], rfl⟩)
        | cons y l =>
          have h0 : (T.toList == []) = false := by rw [HTL.out]; rfl
          have hz : 0 < T.size := by rw [HTZ.out]; simp
          have hz' : (0 : Int) < (T.size : Int) := by omega
          have hy : T[0] = y := by
            have : T.data.toList[0]? = some y := by rw [HTS.out]; rfl
            have h2 : T.data.toList[0]'hz = y := by
              rw [List.getElem?_eq_getElem hz] at this
              injection this
            exact h2
          obtain ⟨q, hq⟩ : ∃ q : Int, ((T[0].toNat : Nat) : Int) = q := ⟨_, rfl⟩
          have HQ := Lib.hid (show (look (y :: l) == 48) = (q == 48) by
            rw [← hq, hy, Bool.eq_iff_iff, beq_iff_eq, beq_iff_eq]
            constructor
            · intro h; rw [show y = 48 from h]; rfl
            · intro h; exact UInt8.toNat.inj (by show y.toNat = 48; omega))
          have HS1 := Lib.hid (show decide (1 < (y :: l).length) = decide ((1 : Int) < (T.size : Int)) by rw [HTZ.out, Bool.eq_iff_iff]; simp; omega)
          have HB := Lib.hid (show badN neg (y :: l) = ((q == 48 && (decide ((1 : Int) < (T.size : Int)) || decide ((a : Int) < (f : Int)))) || decide ((1000000000000000 : Int) < (n : Int))) by
            have hd : decide (1000000000000000 < n) = decide ((1000000000000000 : Int) < (n : Int)) := by rw [Bool.eq_iff_iff, decide_eq_true_iff, decide_eq_true_iff]; omega
            rw [badN, HQ.out, HS1.out, ← HAF.out, ← HNN.out, hd]
            rfl)
          clear hy
          go_wp2_with fail
          all_goals (go_meet; exact ⟨by rw [HB.out]; first | rfl | (simp; done) | (simp_all; done) | grind, rfl⟩)
      case rest =>
      obtain ⟨rfl, rfl⟩ := hcut
      have HNP := Lib.hid (show numP X = if badN neg tk = true then none else some ((if neg = true then -(n : Int) else (n : Int)), rest) by
        rw [numP, ← HNG.out, HDX.out, ← HNN.out])
      have HAT := Lib.hid (show At s a (f + k) (digP X).2 from ⟨by have := HFS.out; omega, .inr (by have := HLE.out; omega), by rw [HDX.out]; exact HRE.out⟩)
      cases hbad : badN neg tk with
      | true =>
        have HN0 := Lib.hid (show numP X = none by rw [HNP.out, hbad]; rfl)
        clear HNP hbad
        have CF := Lib.hid (fail_any 13 s r (f + k) d 0 _ HRD7.out)
        go_wp2_with fail
        refine calls_then CF.out ?_
        rintro y w8 ⟨rfl, hrd, hrg⟩
        have HRD8 := Lib.hid (show RD w8 r s (f + k) d 13 from hrd)
        have HZ8 := Lib.hid (show Blk w8 w.heap.size 25 (jvCells zJV) from (World.grownBy.block hrg _ HZ7.out.lt (by have := HRL.out; intro h; injection h with h; omega)).trans HZ7.out)
        have HRG8 := Lib.hid (HRG7.out.trans hrg)
        clear hrd hrg
        go_wp2_with (refine wpList_put_box (x := .tmp 2) (cells := jvCells zJV) HZ8.out rfl rfl rfl rfl jT_size3 rfl (jvCells_one _) ?_; intro w9 hb9 hw9)
        have HB9 := Lib.hid hb9
        refine bodyPost_ret (results_box (P := Try.prog) rfl rfl HB9.out hu rfl jT_size3) rfl ?_
        rw [HN0.out]
        exact ⟨rfl, f + k, HAT.out, hw9.blk HRD8.out (by have := HRL.out; omega), HRG8.out.wrote_new hw9 (Nat.le_refl _)⟩
      | false =>
        have HN0 := Lib.hid (show numP X = some ((if neg = true then -(n : Int) else (n : Int)), rest) by rw [HNP.out, hbad]; rfl)
        have hn15 : n ≤ 1000000000000000 := by
          unfold badN at hbad
          simp only [Bool.or_eq_false_iff, decide_eq_false_iff_not] at hbad
          have := hbad.2
          rw [← HNN.out] at this
          omega
        have hw : wrap64 (-(n : Int)) = -(n : Int) := by unfold wrap64; omega
        clear HNP hbad hn15
        go_upto_region 15 with (fail)
        go_upto_if 94 with (fail)
        go_cut [5] (fun x wx => x = .int .i64 (if decide ((a : Int) < (f : Int)) = true then -(n : Int) else (n : Int)) ∧ wx = wc)
        case first =>
          go_wp2_with fail
          all_goals (go_meet; exact ⟨by first | rfl | (simp; done) | (simp_all; done) | grind, rfl⟩)
        case rest =>
        obtain ⟨rfl, rfl⟩ := hcut
        rw [HAF.out]
        generalize (if neg = true then -(n : Int) else (n : Int)) = m at *
        go_wp2_with (refine wpList_put_box (x := .tmp 2) (cells := jvCells ⟨2, m, [], none, 0, 0, none, 0, 0⟩) HZ7.out rfl rfl rfl rfl jT_size3 rfl (jvCells_one _) ?_; intro w9 hb9 hw9)
        have HB9 := Lib.hid hb9
        refine bodyPost_ret (results_box (P := Try.prog) rfl rfl HB9.out hu rfl jT_size3) rfl ?_
        rw [HN0.out]
        exact ⟨rfl, f + k, HAT.out, hw9.blk HRD7.out (by have := HRL.out; omega), HRG7.out.wrote_new hw9 (Nat.le_refl _)⟩
end Go.Proofs.Ytcfbnjaelniahaa.Js
/-
  Walks: json's reader: the takers.
-/
namespace Go.Proofs.Ytcfbnjaelniahaa.Js
set_option linter.unusedSimpArgs false
set_option linter.unusedVariables false
open Go.RowKit

def nulJ : JV := zJV
def truJ : JV := ⟨1, 1, [], none, 0, 0, none, 0, 0⟩
def falJ : JV := ⟨1, 0, [], none, 0, 0, none, 0, 0⟩
/-- what a taker of one word hands back -/
def wJ (p : Bool) (v : JV) : JV := if p then v else zJV
def wA (p : Bool) (a n : Nat) : Nat := if p then a + n else a
def wE (p : Bool) : Int := if p then 0 else 13
theorem take1_any (s : ByteArray) (hs : (s.size : Int) ≤ 1000000) (r a : Nat) (d : Int) (w : World) (h : RD w r s a d 0) (ha : a ≤ s.size) :
    Calls Try.prog 47 #[.pointer (some ⟨r, 0, none⟩)] w fun x w' => x = .returned (.agg (jvCells (wJ (List.isPrefixOf [110, 117, 108, 108] (s.data.toList.drop a)) nulJ))) ∧
      RD w' r s (wA (List.isPrefixOf [110, 117, 108, 108] (s.data.toList.drop a)) a 4) d (wE (List.isPrefixOf [110, 117, 108, 108] (s.data.toList.drop a))) ∧ RG r w w' := by
  have hu := Try.underlying25
  obtain ⟨W0, hW0⟩ : ∃ W0, W0 = w.alloc (.cells (jvCells zJV) 25) := ⟨_, rfl⟩
  have hb0 : Below w.heap.size w W0 := by rw [hW0]; exact (Below.refl _ w).alloc (Nat.le_refl _) _
  obtain ⟨G, hG⟩ : ∃ G, G = w.heap.size := ⟨_, rfl⟩
  have HKZ := Lib.hid (show Blk W0 G 25 (jvCells zJV) by rw [hW0, hG]; exact Blk.new _ _ _)
  have HRD := Lib.hid (h.grow hb0)
  have HRG := Lib.hid (show RG r w W0 from .below hb0)
  have HRL := Lib.hid (show r < G by rw [hG]; exact Blk.lt h)
  have HW0 := Lib.hid hW0
  have CW := Lib.hid (show Calls Try.prog 48 #[.pointer (some ⟨r, 0, none⟩), .string (bs [110, 117, 108, 108]), .agg (jvCells nulJ)] W0 fun x w' => x = .returned (.agg (jvCells (wJ (List.isPrefixOf [110, 117, 108, 108] (s.data.toList.drop a)) nulJ))) ∧
      RD w' r s (wA (List.isPrefixOf [110, 117, 108, 108] (s.data.toList.drop a)) a 4) d (wE (List.isPrefixOf [110, 117, 108, 108] (s.data.toList.drop a))) ∧ RG r W0 w' from word_any [110, 117, 108, 108] (by decide) nulJ s hs r a d W0 HRD.out ha)
  obtain ⟨pre, hpre⟩ : ∃ pre, pre = List.isPrefixOf [110, 117, 108, 108] (s.data.toList.drop a) := ⟨_, rfl⟩
  rw [← hpre] at CW ⊢
  clear hW0 hb0 h ha hpre
  rw [hG] at *
  clear hG
  go_enter Try.func47, Try.ntmps47
  go_upto_region 1 with (fail)
  rw [show (w.alloc (.cells #[.int .i64 0, .int .i64 0, .string ⟨#[]⟩, .slice none 0 0, .slice none 0 0] 25)) = W0 from HW0.out.symm]
  clear HW0
  go_wp2_with fail
  refine calls_then CW.out ?_
  rintro y w1 ⟨rfl, hrd, hrg⟩
  have HRD1 := Lib.hid hrd
  have HZ1 := Lib.hid (show Blk w1 w.heap.size 25 (jvCells zJV) from (World.grownBy.block hrg _ HKZ.out.lt (by have := HRL.out; intro h; injection h with h; omega)).trans HKZ.out)
  have HRG1 := Lib.hid (HRG.out.trans hrg)
  clear hrd hrg
  go_wp2_with (refine wpList_put_box (x := .tmp 2) (cells := jvCells (wJ pre nulJ)) HZ1.out rfl rfl rfl rfl jT_size3 rfl (jvCells_one _) ?_; intro w9 hb9 hw9)
  have HB9 := Lib.hid hb9
  refine bodyPost_ret (results_box (P := Try.prog) rfl rfl HB9.out hu rfl jT_size3) rfl ?_
  exact ⟨rfl, hw9.blk HRD1.out (by have := HRL.out; omega), HRG1.out.wrote_new hw9 (Nat.le_refl _)⟩
theorem take2_any (s : ByteArray) (hs : (s.size : Int) ≤ 1000000) (r a : Nat) (d : Int) (w : World) (h : RD w r s a d 0) (ha : a ≤ s.size) :
    Calls Try.prog 49 #[.pointer (some ⟨r, 0, none⟩)] w fun x w' => x = .returned (.agg (jvCells (wJ (List.isPrefixOf [116, 114, 117, 101] (s.data.toList.drop a)) truJ))) ∧
      RD w' r s (wA (List.isPrefixOf [116, 114, 117, 101] (s.data.toList.drop a)) a 4) d (wE (List.isPrefixOf [116, 114, 117, 101] (s.data.toList.drop a))) ∧ RG r w w' := by
  have hu := Try.underlying25
  obtain ⟨W0, hW0⟩ : ∃ W0, W0 = w.alloc (.cells (jvCells zJV) 25) := ⟨_, rfl⟩
  have hb0 : Below w.heap.size w W0 := by rw [hW0]; exact (Below.refl _ w).alloc (Nat.le_refl _) _
  obtain ⟨G, hG⟩ : ∃ G, G = w.heap.size := ⟨_, rfl⟩
  have HKZ := Lib.hid (show Blk W0 G 25 (jvCells zJV) by rw [hW0, hG]; exact Blk.new _ _ _)
  have HRD := Lib.hid (h.grow hb0)
  have HRG := Lib.hid (show RG r w W0 from .below hb0)
  have HRL := Lib.hid (show r < G by rw [hG]; exact Blk.lt h)
  have HW0 := Lib.hid hW0
  have CW := Lib.hid (show Calls Try.prog 48 #[.pointer (some ⟨r, 0, none⟩), .string (bs [116, 114, 117, 101]), .agg (jvCells truJ)] W0 fun x w' => x = .returned (.agg (jvCells (wJ (List.isPrefixOf [116, 114, 117, 101] (s.data.toList.drop a)) truJ))) ∧
      RD w' r s (wA (List.isPrefixOf [116, 114, 117, 101] (s.data.toList.drop a)) a 4) d (wE (List.isPrefixOf [116, 114, 117, 101] (s.data.toList.drop a))) ∧ RG r W0 w' from word_any [116, 114, 117, 101] (by decide) truJ s hs r a d W0 HRD.out ha)
  obtain ⟨pre, hpre⟩ : ∃ pre, pre = List.isPrefixOf [116, 114, 117, 101] (s.data.toList.drop a) := ⟨_, rfl⟩
  rw [← hpre] at CW ⊢
  clear hW0 hb0 h ha hpre
  rw [hG] at *
  clear hG
  go_enter Try.func49, Try.ntmps49
  go_upto_region 1 with (fail)
  rw [show (w.alloc (.cells #[.int .i64 0, .int .i64 0, .string ⟨#[]⟩, .slice none 0 0, .slice none 0 0] 25)) = W0 from HW0.out.symm]
  clear HW0
  go_wp2_with fail
  refine calls_then CW.out ?_
  rintro y w1 ⟨rfl, hrd, hrg⟩
  have HRD1 := Lib.hid hrd
  have HZ1 := Lib.hid (show Blk w1 w.heap.size 25 (jvCells zJV) from (World.grownBy.block hrg _ HKZ.out.lt (by have := HRL.out; intro h; injection h with h; omega)).trans HKZ.out)
  have HRG1 := Lib.hid (HRG.out.trans hrg)
  clear hrd hrg
  go_wp2_with (refine wpList_put_box (x := .tmp 2) (cells := jvCells (wJ pre truJ)) HZ1.out rfl rfl rfl rfl jT_size3 rfl (jvCells_one _) ?_; intro w9 hb9 hw9)
  have HB9 := Lib.hid hb9
  refine bodyPost_ret (results_box (P := Try.prog) rfl rfl HB9.out hu rfl jT_size3) rfl ?_
  exact ⟨rfl, hw9.blk HRD1.out (by have := HRL.out; omega), HRG1.out.wrote_new hw9 (Nat.le_refl _)⟩
theorem take3_any (s : ByteArray) (hs : (s.size : Int) ≤ 1000000) (r a : Nat) (d : Int) (w : World) (h : RD w r s a d 0) (ha : a ≤ s.size) :
    Calls Try.prog 50 #[.pointer (some ⟨r, 0, none⟩)] w fun x w' => x = .returned (.agg (jvCells (wJ (List.isPrefixOf [102, 97, 108, 115, 101] (s.data.toList.drop a)) falJ))) ∧
      RD w' r s (wA (List.isPrefixOf [102, 97, 108, 115, 101] (s.data.toList.drop a)) a 5) d (wE (List.isPrefixOf [102, 97, 108, 115, 101] (s.data.toList.drop a))) ∧ RG r w w' := by
  have hu := Try.underlying25
  obtain ⟨W0, hW0⟩ : ∃ W0, W0 = w.alloc (.cells (jvCells zJV) 25) := ⟨_, rfl⟩
  have hb0 : Below w.heap.size w W0 := by rw [hW0]; exact (Below.refl _ w).alloc (Nat.le_refl _) _
  obtain ⟨G, hG⟩ : ∃ G, G = w.heap.size := ⟨_, rfl⟩
  have HKZ := Lib.hid (show Blk W0 G 25 (jvCells zJV) by rw [hW0, hG]; exact Blk.new _ _ _)
  have HRD := Lib.hid (h.grow hb0)
  have HRG := Lib.hid (show RG r w W0 from .below hb0)
  have HRL := Lib.hid (show r < G by rw [hG]; exact Blk.lt h)
  have HW0 := Lib.hid hW0
  have CW := Lib.hid (show Calls Try.prog 48 #[.pointer (some ⟨r, 0, none⟩), .string (bs [102, 97, 108, 115, 101]), .agg (jvCells falJ)] W0 fun x w' => x = .returned (.agg (jvCells (wJ (List.isPrefixOf [102, 97, 108, 115, 101] (s.data.toList.drop a)) falJ))) ∧
      RD w' r s (wA (List.isPrefixOf [102, 97, 108, 115, 101] (s.data.toList.drop a)) a 5) d (wE (List.isPrefixOf [102, 97, 108, 115, 101] (s.data.toList.drop a))) ∧ RG r W0 w' from word_any [102, 97, 108, 115, 101] (by decide) falJ s hs r a d W0 HRD.out ha)
  obtain ⟨pre, hpre⟩ : ∃ pre, pre = List.isPrefixOf [102, 97, 108, 115, 101] (s.data.toList.drop a) := ⟨_, rfl⟩
  rw [← hpre] at CW ⊢
  clear hW0 hb0 h ha hpre
  rw [hG] at *
  clear hG
  go_enter Try.func50, Try.ntmps50
  go_upto_region 1 with (fail)
  rw [show (w.alloc (.cells #[.int .i64 0, .int .i64 0, .string ⟨#[]⟩, .slice none 0 0, .slice none 0 0] 25)) = W0 from HW0.out.symm]
  clear HW0
  go_wp2_with fail
  refine calls_then CW.out ?_
  rintro y w1 ⟨rfl, hrd, hrg⟩
  have HRD1 := Lib.hid hrd
  have HZ1 := Lib.hid (show Blk w1 w.heap.size 25 (jvCells zJV) from (World.grownBy.block hrg _ HKZ.out.lt (by have := HRL.out; intro h; injection h with h; omega)).trans HKZ.out)
  have HRG1 := Lib.hid (HRG.out.trans hrg)
  clear hrd hrg
  go_wp2_with (refine wpList_put_box (x := .tmp 2) (cells := jvCells (wJ pre falJ)) HZ1.out rfl rfl rfl rfl jT_size3 rfl (jvCells_one _) ?_; intro w9 hb9 hw9)
  have HB9 := Lib.hid hb9
  refine bodyPost_ret (results_box (P := Try.prog) rfl rfl HB9.out hu rfl jT_size3) rfl ?_
  exact ⟨rfl, hw9.blk HRD1.out (by have := HRL.out; omega), HRG1.out.wrote_new hw9 (Nat.le_refl _)⟩
end Go.Proofs.Ytcfbnjaelniahaa.Js
/-
  Walks: json's reader: the map of takers.
-/
namespace Go.Proofs.Ytcfbnjaelniahaa.Js
set_option linter.unusedSimpArgs false
set_option linter.unusedVariables false
open Go.RowKit

def mF (k : Int) (f : Nat) (b : Nat) : MapEntry := ⟨.int .u8 k, .func (.func f) #[] #[], b⟩
def takersE : Array MapEntry := #[mF 110 47 0, mF 116 49 1, mF 102 50 2, mF 34 51 3, mF 91 53 4, mF 123 53 5]
set_option maxHeartbeats 2000000 in
theorem takers_any (w : World) : Calls Try.prog 36 #[] w fun x w' => x = .returned (.map (some w.heap.size)) ∧ MapB w' w.heap.size takersE ∧ Below w.heap.size w w' := by
  have ht := Try.underlying72
  have hk := Try.underlying5
  have hmm := @run_makeMap Try.prog
  have HB := Lib.hid ((Below.refl w.heap.size w).alloc (Nat.le_refl _) (.map #[] 0))
  have M0 := Lib.hid (MapB.new w)
  go_enter Try.func36, Try.ntmps36
  go_wp2_with (first
    | (refine wpList_insert8 (x := 110) ht hk rfl rfl rfl rfl rfl M0.out rfl ?_; intro w1 m1 g1; have M1 := Lib.hid m1; have G1 := Lib.hid (HB.out.grown g1 HB.out.size (by intro k h; injection h with h; omega)); clear m1 g1)
    | (refine wpList_insert8 (x := 116) ht hk rfl rfl rfl rfl rfl M1.out rfl ?_; intro w2 m2 g2; have M2 := Lib.hid m2; have G2 := Lib.hid (G1.out.grown g2 G1.out.size (by intro k h; injection h with h; omega)); clear m2 g2)
    | (refine wpList_insert8 (x := 102) ht hk rfl rfl rfl rfl rfl M2.out rfl ?_; intro w3 m3 g3; have M3 := Lib.hid m3; have G3 := Lib.hid (G2.out.grown g3 G2.out.size (by intro k h; injection h with h; omega)); clear m3 g3)
    | (refine wpList_insert8 (x := 34) ht hk rfl rfl rfl rfl rfl M3.out rfl ?_; intro w4 m4 g4; have M4 := Lib.hid m4; have G4 := Lib.hid (G3.out.grown g4 G3.out.size (by intro k h; injection h with h; omega)); clear m4 g4)
    | (refine wpList_insert8 (x := 91) ht hk rfl rfl rfl rfl rfl M4.out rfl ?_; intro w5 m5 g5; have M5 := Lib.hid m5; have G5 := Lib.hid (G4.out.grown g5 G4.out.size (by intro k h; injection h with h; omega)); clear m5 g5)
    | (refine wpList_insert8 (x := 123) ht hk rfl rfl rfl rfl rfl M5.out rfl ?_; intro w6 m6 g6; have M6 := Lib.hid m6; have G6 := Lib.hid (G5.out.grown g6 G5.out.size (by intro k h; injection h with h; omega)); clear m6 g6))
  go_ret
  exact ⟨rfl, M6.out, G6.out⟩
end Go.Proofs.Ytcfbnjaelniahaa.Js
/-
  Walks: json's reader: the taker of a string.
-/
namespace Go.Proofs.Ytcfbnjaelniahaa.Js
set_option linter.unusedSimpArgs false
set_option linter.unusedVariables false
open Go.RowKit

/-- a string as a value (also where none stood: then the fault is set) -/
def txJ (o : Option (Bs × Bs)) : JV := ⟨3, 0, textS o, none, 0, 0, none, 0, 0⟩
theorem take4_any (s : ByteArray) (hs : (s.size : Int) ≤ 1000000) (r a : Nat) (d : Int) (w : World) (h : RD w r s a d 0) (ha : a ≤ s.size) :
    Calls Try.prog 51 #[.pointer (some ⟨r, 0, none⟩)] w fun x w' => x = .returned (.agg (jvCells (txJ (textP (s.data.toList.drop a))))) ∧ ∃ a' : Nat, (a' : Int) ≤ (s.size : Int) + 5 ∧
      (∀ t r', textP (s.data.toList.drop a) = some (t, r') → At s a a' r') ∧
      RD w' r s a' d (textE (textP (s.data.toList.drop a))) ∧ RG r w w' := by
  have hu := Try.underlying25
  obtain ⟨W0, hW0⟩ : ∃ W0, W0 = w.alloc (.cells (jvCells zJV) 25) := ⟨_, rfl⟩
  have hb0 : Below w.heap.size w W0 := by rw [hW0]; exact (Below.refl _ w).alloc (Nat.le_refl _) _
  obtain ⟨G, hG⟩ : ∃ G, G = w.heap.size := ⟨_, rfl⟩
  have HKZ := Lib.hid (show Blk W0 G 25 (jvCells zJV) by rw [hW0, hG]; exact Blk.new _ _ _)
  have HRD := Lib.hid (h.grow hb0)
  have HRG := Lib.hid (show RG r w W0 from .below hb0)
  have HRL := Lib.hid (show r < G by rw [hG]; exact Blk.lt h)
  have HW0 := Lib.hid hW0
  have CW := Lib.hid (text_any s hs r a d W0 HRD.out ha)
  obtain ⟨o, ho⟩ : ∃ o, o = textP (s.data.toList.drop a) := ⟨_, rfl⟩
  rw [← ho] at CW ⊢
  clear hW0 hb0 h ha ho
  rw [hG] at *
  clear hG
  go_enter Try.func51, Try.ntmps51
  go_upto_region 1 with (fail)
  rw [show (w.alloc (.cells #[.int .i64 0, .int .i64 0, .string ⟨#[]⟩, .slice none 0 0, .slice none 0 0] 25)) = W0 from HW0.out.symm]
  clear HW0
  go_wp2_with fail
  refine calls_then CW.out ?_
  rintro y w1 ⟨rfl, a', ha', hat, hrd, hrg⟩
  have HA' := Lib.hid ha'
  have HAT := Lib.hid hat
  have HRD1 := Lib.hid hrd
  have HZ1 := Lib.hid (show Blk w1 w.heap.size 25 (jvCells zJV) from (World.grownBy.block hrg _ HKZ.out.lt (by have := HRL.out; intro h; injection h with h; omega)).trans HKZ.out)
  have HRG1 := Lib.hid (HRG.out.trans hrg)
  clear hrd hrg hat ha'
  go_wp2_with (refine wpList_put_box (x := .tmp 2) (cells := jvCells (txJ o)) HZ1.out rfl rfl rfl rfl jT_size3 rfl (jvCells_one _) ?_; intro w9 hb9 hw9)
  have HB9 := Lib.hid hb9
  refine bodyPost_ret (results_box (P := Try.prog) rfl rfl HB9.out hu rfl jT_size3) rfl ?_
  exact ⟨rfl, a', HA'.out, HAT.out, hw9.blk HRD1.out (by have := HRL.out; omega), HRG1.out.wrote_new hw9 (Nat.le_refl _)⟩
end Go.Proofs.Ytcfbnjaelniahaa.Js
/-
  Walks: json's texts: which bytes may be; whether a text is in a list.
-/
namespace Go.Proofs.Ytcfbnjaelniahaa.Js
set_option linter.unusedSimpArgs false
set_option linter.unusedVariables false
open Go.RowKit

theorem odd1_any (r : Int) (w : World) : Calls Try.prog 26 #[.int .i32 r] w fun e w' => e = .returned (.bool (decide (126 < r))) ∧ w' = w := by
  go_enter Try.func26, Try.ntmps26
  go_wp2_with fail
  go_ret
  exact ⟨rfl, rfl⟩
theorem decodeN_big (n b0 b1 b2 b3 : Nat) (h : 128 ≤ b0) : 126 < (Lib.decodeN n b0 b1 b2 b3).1 := by
  unfold Lib.decodeN
  rw [if_neg (by omega)]
  repeat' split
  all_goals first | (show 126 < 65533; decide) | (show 126 < _; omega)
theorem decode_big {s : ByteArray} {pos : Nat} (h : pos < s.size) (hb : 126 < (s[pos]'h).toNat) : 126 < (Utf8.decode s pos).1 := by
  by_cases h8 : (s[pos]'h).toNat < 128
  · rw [decode_ascii s pos h h8]
    exact hb
  · rw [Lib.decode_at]
    have : (s.get! pos).toNat = (s[pos]'h).toNat := by
      cases s with
      | mk d => exact congrArg UInt8.toNat (getElem!_pos d pos h)
    have h2 := decodeN_big (s.size - pos) (s.get! pos).toNat (s.get! (pos + 1)).toNat (s.get! (pos + 2)).toNat (s.get! (pos + 3)).toNat (by rw [this]; omega)
    exact h2
set_option maxHeartbeats 2000000 in
theorem idxf_any (s : ByteArray) (w : World) :
    Calls Try.prog 54 #[.string s, .func (.func 26) #[] #[], .bool true] w fun e w' => (∃ k : Int, e = .returned (.int .i64 k) ∧ decide (0 ≤ k) = !okT s.data.toList) ∧ Below w.heap.size w w' := by
  have eg : ∀ args w, (callFunc 26 args).run Try.prog w = .ok (.enter 26 args) w := enters_of Try.func26 (by kernel_rfl) rfl
  have C := Lib.hid odd1_any
  go_enter Try.func54, Try.ntmps54
  go_wp2_with fail
  go_loopg [] s.size (fun gf wx => ∃ pos : Nat, wx.heap[w.heap.size]? = some (.stringIter s pos) ∧ Below w.heap.size w wx ∧ pos + gf = s.size ∧ okT (s.data.toList.take pos) = true)
  case atStart => exact ⟨0, World.iter_heap w s 0, (Below.refl _ w).alloc (Nat.le_refl _) _, by omega, rfl⟩
  case round =>
    obtain ⟨pos, hit, hbw, hfu, hok⟩ := hrel
    by_cases hps : pos < s.size
    · obtain ⟨g', rfl⟩ : ∃ g', gk = g' + 1 := ⟨gk - 1, by omega⟩
      have hpl : pos < s.data.toList.length := hps
      have hst : okT (s.data.toList.take (pos + 1)) = (okT (s.data.toList.take pos) && decide ((s[pos]'hps).toNat ≤ 126)) := by
        rw [List.take_succ_eq_append_getElem hpl]
        simp [okT, UInt8.le_iff_toNat_le]
        rfl
      by_cases hc : (s[pos]'hps).toNat ≤ 126
      · have hnx : ∀ ty, (Instr.next (.pointer (some ⟨w.heap.size, 0, none⟩)) true ty).run Try.prog wr = _ := fun ty => Lib.run_next_ascii_at wr w.heap.size s pos ty hit hps (by omega)
        have HIT := Lib.hid (Lib.iterAt_heap wr w.heap.size s pos (pos + 1) hit)
        have HBW := Lib.hid (Lib.below_iterAt hbw (k := w.heap.size) (Nat.le_refl _) s (pos + 1))
        have HOK := Lib.hid (show okT (s.data.toList.take (pos + 1)) = true by rw [hst, hok]; simpa using hc)
        obtain ⟨n, hn⟩ : ∃ n, (s[pos]'hps).toNat = n := ⟨_, rfl⟩
        rw [hn] at hnx hc
        have hd : decide (126 < (n : Int)) = false := by simp; omega
        have HFU := Lib.hid hfu
        obtain ⟨W, hWd⟩ : ∃ W, wr.iterAt w.heap.size s (pos + 1) = W := ⟨_, rfl⟩
        rw [hWd] at hnx HIT HBW
        clear hit hbw hst hok hc hn hfu hpl hps
        go_wp2_with (go_at_call 26; refine calls_then (C.out _ _) ?_; rintro e W' ⟨rfl, rfl⟩)
        go_roundg g'
        case measure => omega
        case rel => exact ⟨pos + 1, HIT.out, HBW.out, by have := HFU.out; omega, HOK.out⟩
      · have hnx : ∀ ty, (Instr.next (.pointer (some ⟨w.heap.size, 0, none⟩)) true ty).run Try.prog wr = _ := fun ty => Lib.run_next_any_at wr w.heap.size s pos ty hit hps
        have HBW := Lib.hid (Lib.below_iterAt hbw (k := w.heap.size) (Nat.le_refl _) s (pos + (Utf8.decode s pos).2))
        have HB := Lib.hid (decode_big hps (by omega))
        have HNO := Lib.hid (show okT s.data.toList = false by
          cases hq : okT s.data.toList with
          | false => rfl
          | true =>
            unfold okT at hq
            have := List.all_eq_true.1 hq _ (List.getElem_mem hpl)
            simp [UInt8.le_iff_toNat_le] at this
            exact absurd this hc)
        obtain ⟨r, hr⟩ : ∃ r, (Utf8.decode s pos).1 = r := ⟨_, rfl⟩
        rw [hr] at hnx HB
        have hd : decide (126 < (r : Int)) = true := by have := HB.out; simp; omega
        obtain ⟨W, hWd⟩ : ∃ W, wr.iterAt w.heap.size s (pos + (Utf8.decode s pos).2) = W := ⟨_, rfl⟩
        rw [hWd] at hnx HBW
        clear hit hbw hst hok hc hr hfu hpl hps
        go_wp2_with (go_at_call 26; refine calls_then (C.out _ _) ?_; rintro e W' ⟨rfl, rfl⟩)
        go_ret
        exact ⟨⟨_, rfl, by rw [HNO.out]; simp⟩, HBW.out⟩
    · have hnx : ∀ ty, (Instr.next (.pointer (some ⟨w.heap.size, 0, none⟩)) true ty).run Try.prog wr = _ := fun ty => Lib.run_next_end_at wr w.heap.size s pos ty hit hps
      have HBW := Lib.hid hbw
      have HOK := Lib.hid (show okT s.data.toList = true by
        have : s.data.toList.take pos = s.data.toList := List.take_of_length_le (by show s.size ≤ pos; omega)
        rwa [this] at hok)
      clear hit hbw hok hfu hps
      go_wp2_with fail
      go_ret
      exact ⟨⟨_, rfl, by rw [HOK.out]; simp⟩, HBW.out⟩
theorem strf_any (s : ByteArray) (w : World) :
    Calls Try.prog 39 #[.string s, .func (.func 26) #[] #[]] w fun e w' => (∃ k : Int, e = .returned (.int .i64 k) ∧ decide (0 ≤ k) = !okT s.data.toList) ∧ Below w.heap.size w w' := by
  have C := Lib.hid (idxf_any s w)
  go_enter Try.func39, Try.ntmps39
  go_wp2_with fail
  refine calls_then C.out ?_
  rintro e w1 ⟨⟨k, rfl, hk⟩, hb⟩
  have HB := Lib.hid hb
  have HK := Lib.hid hk
  clear hb hk
  go_wp2_with fail
  go_ret
  exact ⟨⟨_, rfl, HK.out⟩, HB.out⟩
theorem conf_any (s : ByteArray) (w : World) :
    Calls Try.prog 25 #[.string s, .func (.func 26) #[] #[]] w fun e w' => e = .returned (.bool (!okT s.data.toList)) ∧ Below w.heap.size w w' := by
  have C := Lib.hid (strf_any s w)
  go_enter Try.func25, Try.ntmps25
  go_wp2_with fail
  refine calls_then C.out ?_
  rintro e w1 ⟨⟨k, rfl, hk⟩, hb⟩
  have HB := Lib.hid hb
  have HK := Lib.hid hk
  clear hb hk
  go_wp2_with fail
  go_ret
  exact ⟨by rw [← HK.out]; rfl, HB.out⟩
theorem odd_any (s : ByteArray) (w : World) :
    Calls Try.prog 24 #[.string s] w fun e w' => e = .returned (.bool (!okT s.data.toList)) ∧ Below w.heap.size w w' := by
  have C := Lib.hid (conf_any s w)
  go_enter Try.func24, Try.ntmps24
  go_wp2_with fail
  refine calls_then C.out ?_
  rintro e w1 ⟨rfl, hb⟩
  have HB := Lib.hid hb
  clear hb
  go_wp2_with fail
  go_ret
  exact ⟨rfl, HB.out⟩
/-- '_slices.IndexFunc' over texts -/
theorem idxs_any (l : List Bs) (A : Option Addr) (c B : Nat) (w : World) (hr : Rd w B A (rowsV sCell l)) (hB : B ≤ w.heap.size) (hl : l.length ≤ 1099511627776) :
    Calls Try.prog 40 #[.slice A l.length c, .func (.func 24) #[] #[]] w fun e w' => (∃ k : Int, e = .returned (.int .i64 k) ∧ decide (0 ≤ k) = !l.all okT) ∧ Below w.heap.size w w' := by
  have eg : ∀ args w, (callFunc 24 args).run Try.prog w = .ok (.enter 24 args) w := enters_of Try.func24 (by kernel_rfl) rfl
  have C := Lib.hid odd_any
  obtain ⟨n, hn⟩ : ∃ n, n = l.length := ⟨_, rfl⟩
  have HN := Lib.hid hn
  have HR := Lib.hid (hr.mono hB)
  have HL := Lib.hid (show (n : Int) ≤ 1099511627776 by omega)
  rw [← hn]
  clear hr hB hl hn
  go_enter Try.func40, Try.ntmps40
  go_wp2_with fail
  go_loopw [8] (fun x wr => ∃ i : Nat, i ≤ n ∧ x = .int .i64 (i : Int) ∧ (l.take i).all okT = true ∧ Below w.heap.size w wr) (fun x _ => n - (intOf x).toNat)
  case atStart => exact ⟨0, by omega, rfl, by simp, Below.refl _ _⟩
  case round =>
    obtain ⟨i, hi, rfl, hok, hb⟩ := hrel
    have HB := Lib.hid hb
    have HOK := Lib.hid hok
    clear hb hok
    by_cases hlt : i < n
    · have hil : i < l.length := by rw [← HN.out]; exact hlt
      have hlt' : (i : Int) < (n : Int) := by omega
      obtain ⟨ad, hA, hadb, hcell⟩ := rd_rows (f := sCell) (m := 1) (fun _ => rfl) (by decide) (HR.out.below HB.out) hil
      subst hA
      obtain ⟨X, hX⟩ : ∃ X, X = l[i] := ⟨_, rfl⟩
      rw [← hX] at hcell
      have hc0 : wr.cell? (ad.add i) = some (.string (bs X)) := by
        have h := hcell 0 _ rfl
        rw [Nat.mul_one] at h
        exact h
      have HST := Lib.hid (show (l.take (i + 1)).all okT = ((l.take i).all okT && okT X) by
        rw [List.take_succ_eq_append_getElem hil, ← hX]
        simp)
      have HALL := Lib.hid (show okT X = false → l.all okT = false from fun h => by
        cases hq : l.all okT with
        | false => rfl
        | true =>
          have := List.all_eq_true.1 hq X (by rw [hX]; exact List.getElem_mem hil)
          rw [h] at this
          cases this)
      have HLT := Lib.hid hlt
      clear hX hcell hadb hil
      go_wp2_with fail
      refine calls_then (C.out _ _) ?_
      rintro e w1 ⟨rfl, hb1⟩
      have HB1 := Lib.hid (HB.out.trans (hb1.mono HB.out.size))
      clear hb1
      rw [show (bs X).data.toList = X from rfl]
      cases hq : okT X with
      | true =>
        have hns := HL.out
        go_wp2_with fail
        go_roundw
        case rel => exact ⟨i + 1, HLT.out, by go_num, by rw [HST.out, HOK.out, hq]; rfl, HB1.out⟩
        case measure => have := HLT.out; simp [intOf]; omega
      | false =>
        have HQ := Lib.hid hq
        clear hq
        go_wp2_with fail
        go_ret
        exact ⟨⟨_, rfl, by rw [HALL.out HQ.out]; simp⟩, HB1.out⟩
    · obtain rfl : i = n := by omega
      have HALL := Lib.hid (show l.all okT = true by
        have := HOK.out
        rwa [HN.out, List.take_length] at this)
      go_wp2_with fail
      go_ret
      exact ⟨⟨_, rfl, by rw [HALL.out]; simp⟩, HB.out⟩
theorem cons_any (l : List Bs) (A : Option Addr) (c B : Nat) (w : World) (hr : Rd w B A (rowsV sCell l)) (hB : B ≤ w.heap.size) (hl : l.length ≤ 1099511627776) :
    Calls Try.prog 27 #[.slice A l.length c, .func (.func 24) #[] #[]] w fun e w' => e = .returned (.bool (!l.all okT)) ∧ Below w.heap.size w w' := by
  have C := Lib.hid (idxs_any l A c B w hr hB hl)
  clear hr
  generalize l.length = n at *
  go_enter Try.func27, Try.ntmps27
  go_wp2_with fail
  refine calls_then C.out ?_
  rintro e w1 ⟨⟨k, rfl, hk⟩, hb⟩
  have HB := Lib.hid hb
  have HK := Lib.hid hk
  clear hb hk
  go_wp2_with fail
  go_ret
  exact ⟨by rw [← HK.out]; rfl, HB.out⟩
theorem bs_toList (a : Bs) : (bs a).toList = a := by
  rw [Lib.toList_data]
  rfl
/-- '_slices.Index' over texts -/
theorem idx_any (l : List Bs) (s : Bs) (A : Option Addr) (c B : Nat) (w : World) (hr : Rd w B A (rowsV sCell l)) (hl : l.length ≤ 1099511627776) :
    Calls Try.prog 41 #[.slice A l.length c, .string (bs s)] w fun e w' => (∃ k : Int, e = .returned (.int .i64 k) ∧ decide (0 ≤ k) = decide (s ∈ l)) ∧ w' = w := by
  obtain ⟨n, hn⟩ : ∃ n, n = l.length := ⟨_, rfl⟩
  have HN := Lib.hid hn
  have HR := Lib.hid hr
  have HL := Lib.hid (show (n : Int) ≤ 1099511627776 by omega)
  rw [← hn]
  clear hr hl hn
  go_enter Try.func41, Try.ntmps41
  go_wp2_with fail
  go_loop [8] (fun x => ∃ i : Nat, i ≤ n ∧ x = .int .i64 (i : Int) ∧ s ∉ l.take i) (fun x => n - (intOf x).toNat)
  case atStart => exact ⟨0, by omega, rfl, by simp⟩
  case round =>
    obtain ⟨i, hi, rfl, hok⟩ := hrel
    have HOK := Lib.hid hok
    clear hok
    by_cases hlt : i < n
    · have hil : i < l.length := by rw [← HN.out]; exact hlt
      have hlt' : (i : Int) < (n : Int) := by omega
      obtain ⟨ad, hA, hadb, hcell⟩ := rd_rows (f := sCell) (m := 1) (fun _ => rfl) (by decide) HR.out hil
      subst hA
      obtain ⟨X, hX⟩ : ∃ X, X = l[i] := ⟨_, rfl⟩
      rw [← hX] at hcell
      have hc0 : w.cell? (ad.add i) = some (.string (bs X)) := by
        have h := hcell 0 _ rfl
        rw [Nat.mul_one] at h
        exact h
      have HST := Lib.hid (show s ≠ X → s ∉ l.take (i + 1) from fun h => by
        rw [List.take_succ_eq_append_getElem hil, ← hX, List.mem_append]
        rintro (h1 | h1)
        · exact HOK.out h1
        · exact h (by simpa using h1))
      have HMEM := Lib.hid (show X ∈ l by rw [hX]; exact List.getElem_mem hil)
      have HLT := Lib.hid hlt
      clear hX hcell hadb hil
      have hns := HL.out
      by_cases hq : s = X
      · subst hq
        clear HST
        go_wp2_with fail
        go_ret
        exact ⟨⟨_, rfl, by simp [HMEM.out]⟩, rfl⟩
      · have hq' : ((bs s).toList == (bs X).toList) = false := by rw [bs_toList, bs_toList]; simpa using hq
        have HQ := Lib.hid hq
        clear hq
        go_wp2_with fail
        exact ⟨⟨i + 1, HLT.out, by go_num, HST.out HQ.out⟩, by have := HLT.out; simp [intOf]; omega⟩
    · obtain rfl : i = n := by omega
      have HALL := Lib.hid (show s ∉ l by
        have := HOK.out
        rwa [HN.out, List.take_length] at this)
      go_wp2_with fail
      go_ret
      exact ⟨⟨_, rfl, by simp [HALL.out]⟩, rfl⟩
theorem has_any (l : List Bs) (s : Bs) (A : Option Addr) (c B : Nat) (w : World) (hr : Rd w B A (rowsV sCell l)) (hl : l.length ≤ 1099511627776) :
    Calls Try.prog 28 #[.slice A l.length c, .string (bs s)] w fun e w' => e = .returned (.bool (decide (s ∈ l))) ∧ w' = w := by
  have C := Lib.hid (idx_any l s A c B w hr hl)
  clear hr
  obtain ⟨b, hb⟩ : ∃ b, b = decide (s ∈ l) := ⟨_, rfl⟩
  rw [← hb] at C ⊢
  clear hl hb
  generalize l.length = n at *
  generalize bs s = t at *
  go_enter Try.func28, Try.ntmps28
  go_wp2_with fail
  refine calls_then C.out ?_
  rintro e w1 ⟨⟨k, rfl, hk⟩, rfl⟩
  have HK := Lib.hid hk
  clear hk
  go_wp2_with fail
  go_ret
  exact ⟨by rw [← HK.out]; rfl, rfl⟩
end Go.Proofs.Ytcfbnjaelniahaa.Js
/-
  Walks: json's reader: a name.
-/
namespace Go.Proofs.Ytcfbnjaelniahaa.Js
set_option linter.unusedSimpArgs false
set_option linter.unusedVariables false
open Go.RowKit

/-- the fault behind a name -/
def nameE (ns : List Bs) (o : Option (Bs × Bs)) : Int := match o with
  | none => 13
  | some (t, r1) => if t ∈ ns then 8 else mustE 58 0 r1
set_option maxHeartbeats 1000000 in
theorem name_any (ns : List Bs) (A : Option Addr) (c base : Nat) (s : ByteArray) (hs : (s.size : Int) ≤ 1000000) (r a : Nat) (d : Int) (w : World) (h : RD w r s a d 0) (ha : a ≤ s.size) (hrb : r < base)
    (hn : OwnX w base 9 1 (.slice A ns.length c) ns.length (rowsV sCell ns)) (hl : ns.length ≤ 1099511627776) :
    Calls Try.prog 62 #[.pointer (some ⟨r, 0, none⟩), .slice A ns.length c] w fun x w' => x = .returned (.string (bs (textS (textP (s.data.toList.drop a))))) ∧ ∃ a1 a' : Nat, (a1 : Int) ≤ (s.size : Int) + 5 ∧
      (∀ t r', textP (s.data.toList.drop a) = some (t, r') → At s a a1 r') ∧ (∃ e1, At s a1 a' (signR 58 e1 (s.data.toList.drop a1)) ∧ (nameE ns (textP (s.data.toList.drop a)) = 0 → e1 = 0)) ∧
      RD w' r s a' d (nameE ns (textP (s.data.toList.drop a))) ∧ RG r w w' := by
  have CW := Lib.hid (text_any s hs r a d w h ha)
  have HN := Lib.hid hn
  have HRB := Lib.hid hrb
  have CH := Lib.hid (fun (t : Bs) (u : World) (hr : Rd u u.heap.size A (rowsV sCell ns)) => has_any ns t A c u.heap.size u hr hl)
  have CM := Lib.hid (fun (b : Nat) (e : Int) (u : World) (h : RD u r s b d e) (hb : (b : Int) ≤ 1500000) => must_any 58 (by decide) s hs r b d e u h hb)
  have CF := Lib.hid (fun (b : Nat) (u : World) (h : RD u r s b d 0) => fail_any 8 s r b d 0 u h)
  obtain ⟨o, ho⟩ : ∃ o, o = textP (s.data.toList.drop a) := ⟨_, rfl⟩
  rw [← ho] at CW ⊢
  clear h ha hn hrb hl ho
  go_enter Try.func62, Try.ntmps62
  go_wp2_with fail
  refine calls_then CW.out ?_
  rintro y w1 ⟨rfl, a1, ha1, hat, hrd, hrg⟩
  have HA1 := Lib.hid ha1
  have HAT := Lib.hid hat
  have HRD1 := Lib.hid hrd
  have HRG1 := Lib.hid hrg
  have HN1 := Lib.hid (HN.out.kept hrg (.inr (by intro h; have := (HN.out.lt r h).1; have := HRB.out; omega)))
  clear hrg hat
  cases o with
  | none =>
    have HR1 := Lib.hid (show RD w1 r s a1 d 13 from HRD1.out)
    obtain ⟨-, -, -, c3⟩ := HR1.out.cells
    clear hrd ha1
    go_wp2_with fail
    refine calls_then (CM.out a1 13 _ HR1.out (by have := HA1.out; omega)) ?_
    rintro y w2 ⟨rfl, a2, hat2, hrd2, hrg2⟩
    have HAT2 := Lib.hid hat2
    have HRD2 := Lib.hid hrd2
    have HRG2 := Lib.hid (HRG1.out.trans hrg2)
    clear hat2 hrd2 hrg2 c3
    go_wp2_with fail
    go_ret
    exact ⟨rfl, a1, a2, HA1.out, HAT.out, ⟨13, HAT2.out, fun h => by cases h⟩, HRD2.out, HRG2.out⟩
  | some p =>
    obtain ⟨t, r1⟩ := p
    have HR1 := Lib.hid (show RD w1 r s a1 d 0 from HRD1.out)
    obtain ⟨-, -, -, c3⟩ := HR1.out.cells
    clear hrd ha1
    go_wp2_with fail
    refine calls_then (CH.out t _ (Rd.of_own HN1.out (Nat.le_refl _))) ?_
    rintro y w2 ⟨rfl, rfl⟩
    by_cases ht : t ∈ ns
    · rw [decide_eq_true ht]
      have HE := Lib.hid (show nameE ns (some (t, r1)) = 8 by unfold nameE; exact if_pos ht)
      clear ht
      go_wp2_with fail
      refine calls_then (CF.out a1 _ HR1.out) ?_
      rintro y w3 ⟨rfl, hrd3, hrg3⟩
      have HR2 := Lib.hid (show RD w3 r s a1 d 8 from hrd3)
      have HRG3 := Lib.hid (HRG1.out.trans hrg3)
      clear hrd3 hrg3 c3
      go_wp2_with fail
      refine calls_then (CM.out a1 8 _ HR2.out (by have := HA1.out; omega)) ?_
      rintro y w4 ⟨rfl, a2, hat2, hrd2, hrg2⟩
      have HAT2 := Lib.hid hat2
      have HRD2 := Lib.hid hrd2
      have HRG2 := Lib.hid (HRG3.out.trans hrg2)
      clear hat2 hrd2 hrg2
      go_wp2_with fail
      go_ret
      rw [HE.out]
      exact ⟨rfl, a1, a2, HA1.out, HAT.out, ⟨8, HAT2.out, fun h => by cases h⟩, HRD2.out, HRG2.out⟩
    · rw [decide_eq_false ht]
      have HX := Lib.hid (show s.data.toList.drop a1 = r1 from (HAT.out t r1 rfl).rest)
      have HE := Lib.hid (show nameE ns (some (t, r1)) = mustE 58 0 (s.data.toList.drop a1) by rw [HX.out]; unfold nameE; exact if_neg ht)
      have HR2 := Lib.hid HR1.out
      have HRG3 := Lib.hid HRG1.out
      clear ht c3
      go_wp2_with fail
      refine calls_then (CM.out a1 0 _ HR2.out (by have := HA1.out; omega)) ?_
      rintro y w4 ⟨rfl, a2, hat2, hrd2, hrg2⟩
      have HAT2 := Lib.hid hat2
      have HRD2 := Lib.hid hrd2
      have HRG2 := Lib.hid (HRG3.out.trans hrg2)
      clear hat2 hrd2 hrg2
      go_wp2_with fail
      go_ret
      rw [HE.out]
      exact ⟨rfl, a1, a2, HA1.out, HAT.out, ⟨0, HAT2.out, fun _ => rfl⟩, HRD2.out, HRG2.out⟩
end Go.Proofs.Ytcfbnjaelniahaa.Js
/-
  Walks: json's reader: what is done where a fault is set already; the contracts of a sign, a name and a value for both.
-/
namespace Go.Proofs.Ytcfbnjaelniahaa.Js
set_option linter.unusedSimpArgs false
set_option linter.unusedVariables false
open Go.RowKit

/-- the fault behind a part -/
def errE {α : Type} : Except Int α → Int
  | .error x => x
  | .ok _ => 0
def errP {α : Type} (e : Int) (p : Except Int α) : Int := if e = 0 then errE p else e
theorem errP_ne {α : Type} {e : Int} (h : e ≠ 0) (p : Except Int α) : errP e p = e := by rw [errP, if_neg h]
theorem errP_z {α : Type} (p : Except Int α) : errP 0 p = errE p := by rw [errP, if_pos rfl]
theorem lookE_ne {s : ByteArray} {a : Nat} {e : Int} (h : e ≠ 0) : lookE s a e = 0 := by rw [lookE, if_neg h]
theorem text_bad (s : ByteArray) (r a : Nat) (d e : Int) (he : e ≠ 0) (w : World) (h : RD w r s a d e) :
    Calls Try.prog 52 #[.pointer (some ⟨r, 0, none⟩)] w fun x w' => x = .returned (.string (bs [])) ∧ RD w' r s a d e ∧ RG r w w' := by
  have CK := Lib.hid (look_any s r a d e w h)
  have CF := Lib.hid (fun (u : World) (h : RD u r s a d e) => fail_any 13 s r a d e u h)
  have HL := Lib.hid (lookE_ne (s := s) (a := a) he)
  have HE := Lib.hid he
  clear h he
  go_enter Try.func52, Try.ntmps52
  go_wp2_with fail
  refine calls_then CK.out ?_
  rintro y w1 ⟨rfl, hrd, hrg⟩
  have HRD1 := Lib.hid hrd
  have HRG1 := Lib.hid hrg
  rw [HL.out, show byteV 0 = Value.int .u8 0 from rfl]
  clear hrd hrg
  go_wp2_with fail
  refine calls_then (CF.out _ HRD1.out) ?_
  rintro y w2 ⟨rfl, hrd, hrg⟩
  have HRD2 := Lib.hid (show RD w2 r s a d e by rw [if_neg HE.out] at hrd; exact hrd)
  have HRG2 := Lib.hid (HRG1.out.trans hrg)
  clear hrd hrg
  go_wp2_with fail
  go_ret
  exact ⟨rfl, HRD2.out, HRG2.out⟩
theorem name_bad (A : Option Addr) (n c : Nat) (s : ByteArray) (hs : (s.size : Int) ≤ 1000000) (r a : Nat) (d e : Int) (he : e ≠ 0) (w : World) (h : RD w r s a d e) (ha : (a : Int) ≤ 1500000) :
    Calls Try.prog 62 #[.pointer (some ⟨r, 0, none⟩), .slice A n c] w fun x w' => x = .returned (.string (bs [])) ∧ ∃ a' : Nat, (a' : Int) ≤ 1500000 ∧ RD w' r s a' d e ∧ RG r w w' := by
  have CW := Lib.hid (text_bad s r a d e he w h)
  have CM := Lib.hid (fun (u : World) (h : RD u r s a d e) => must_any 58 (by decide) s hs r a d e u h ha)
  have HE := Lib.hid he
  have HA := Lib.hid ha
  have HS := Lib.hid hs
  have he' : (e == 0) = false := by simpa using he
  clear h ha hs he
  go_enter Try.func62, Try.ntmps62
  go_wp2_with fail
  refine calls_then CW.out ?_
  rintro y w1 ⟨rfl, hrd, hrg⟩
  have HRD1 := Lib.hid hrd
  have HRG1 := Lib.hid hrg
  obtain ⟨-, -, -, c3⟩ := hrd.cells
  clear hrd hrg
  go_wp2_with fail
  refine calls_then (CM.out _ HRD1.out) ?_
  rintro y w2 ⟨rfl, a2, hat2, hrd2, hrg2⟩
  have HAT2 := Lib.hid hat2
  have HRD2 := Lib.hid (show RD w2 r s a2 d e by unfold mustE at hrd2; rw [if_neg HE.out] at hrd2; exact hrd2)
  have HRG2 := Lib.hid (HRG1.out.trans hrg2)
  clear hat2 hrd2 hrg2 c3
  go_wp2_with fail
  go_ret
  exact ⟨rfl, a2, HAT2.out.big HS.out HA.out, HRD2.out, HRG2.out⟩
theorem value_bad (s : ByteArray) (r a : Nat) (d e : Int) (he : e ≠ 0) (w : World) (h : RD w r s a d e) :
    Calls Try.prog 21 #[.pointer (some ⟨r, 0, none⟩)] w fun x w' => x = .returned (.agg (jvCells zJV)) ∧ RD w' r s a d e ∧ RG r w w' := by
  have hu := Try.underlying25
  obtain ⟨W0, hW0⟩ : ∃ W0, W0 = w.alloc (.cells (jvCells zJV) 25) := ⟨_, rfl⟩
  have hb0 : Below w.heap.size w W0 := by rw [hW0]; exact (Below.refl _ w).alloc (Nat.le_refl _) _
  obtain ⟨G, hG⟩ : ∃ G, G = w.heap.size := ⟨_, rfl⟩
  have HKZ := Lib.hid (show Blk W0 G 25 (jvCells zJV) by rw [hW0, hG]; exact Blk.new _ _ _)
  have HRD := Lib.hid (h.grow hb0)
  have HRG := Lib.hid (show RG r w W0 from .below hb0)
  have HRL := Lib.hid (show r < G by rw [hG]; exact Blk.lt h)
  have HW0 := Lib.hid hW0
  have he' : (e != 0) = true := by simpa using he
  obtain ⟨-, -, -, c3⟩ := (h.grow hb0).cells
  clear hW0 hb0 h he
  rw [hG] at *
  clear hG
  go_enter Try.func21, Try.ntmps21
  go_upto_region 1 with (fail)
  rw [show (w.alloc (.cells #[.int .i64 0, .int .i64 0, .string ⟨#[]⟩, .slice none 0 0, .slice none 0 0] 25)) = W0 from HW0.out.symm]
  clear HW0
  go_wp2_with (refine wpList_put_box (x := .tmp 2) (cells := jvCells zJV) HKZ.out rfl rfl rfl rfl jT_size3 rfl (jvCells_one _) ?_; intro w9 hb9 hw9)
  have HB9 := Lib.hid hb9
  refine bodyPost_ret (results_box (P := Try.prog) rfl rfl HB9.out hu rfl jT_size3) rfl ?_
  exact ⟨rfl, hw9.blk HRD.out (by have := HRL.out; omega), HRG.out.wrote_new hw9 (Nat.le_refl _)⟩
theorem must_all (c : UInt8) (hc0 : c ≠ 0) (s : ByteArray) (hs : (s.size : Int) ≤ 1000000) (r a : Nat) (d : Int) (w : World) (h : RD w r s a d 0) (ha : (a : Int) ≤ 1500000) :
    Calls Try.prog 61 #[.pointer (some ⟨r, 0, none⟩), byteV c] w fun x w' => x = .returned (.tuple #[]) ∧ ∃ a' : Nat, (a' : Int) ≤ 1500000 ∧ RD w' r s a' d (errE (mustP c (s.data.toList.drop a))) ∧ RG r w w' ∧
      ∀ r1, mustP c (s.data.toList.drop a) = .ok r1 → At s a a' r1 := by
  refine (must_any c hc0 s hs r a d 0 w h ha).mono ?_
  rintro x w' ⟨rfl, a', hat, hrd, hrg⟩
  have e1 : mustE c 0 (s.data.toList.drop a) = errE (mustP c (s.data.toList.drop a)) := by
    unfold mustE mustP signP
    rw [if_pos rfl]
    split <;> simp_all [errE]
  rw [e1] at hrd
  refine ⟨rfl, a', hat.big hs ha, hrd, hrg, fun r1 h1 => ?_⟩
  have e2 : signR c 0 (s.data.toList.drop a) = r1 := by
    unfold mustP at h1
    unfold signR signB signP
    split at h1
    · rename_i hl
      injection h1 with h1
      simp [hl, h1]
    · cases h1
  rw [e2] at hat
  exact hat
theorem name_all (ns : List Bs) (A : Option Addr) (c base : Nat) (s : ByteArray) (hs : (s.size : Int) ≤ 1000000) (r a : Nat) (d e : Int) (w : World) (h : RD w r s a d e) (ha : (a : Int) ≤ 1500000) (ha0 : e = 0 → a ≤ s.size) (hrb : r < base)
    (hn : OwnX w base 9 1 (.slice A ns.length c) ns.length (rowsV sCell ns)) (hl : ns.length ≤ 1099511627776) :
    Calls Try.prog 62 #[.pointer (some ⟨r, 0, none⟩), .slice A ns.length c] w fun x w' => ∃ t : Bs, x = .returned (.string (bs t)) ∧ ∃ a' : Nat, (a' : Int) ≤ 1500000 ∧
      RD w' r s a' d (errP e (nameP ns (s.data.toList.drop a))) ∧ RG r w w' ∧ (e = 0 → ∀ ns' r1, nameP ns (s.data.toList.drop a) = .ok (ns', r1) → ns' = ns ++ [t] ∧ At s a a' r1) := by
  by_cases he : e = 0
  · subst he
    refine (name_any ns A c base s hs r a d w h (ha0 rfl) hrb hn hl).mono ?_
    rintro x w' ⟨rfl, a1, a2, ha1, hat1, ⟨e1, hat2, he1⟩, hrd, hrg⟩
    have e2 : nameE ns (textP (s.data.toList.drop a)) = errP 0 (nameP ns (s.data.toList.drop a)) := by
      rw [errP_z]
      unfold nameE nameP
      cases hq : textP (s.data.toList.drop a) with
      | none => rfl
      | some p =>
        obtain ⟨t, r0⟩ := p
        dsimp only
        by_cases hm : t ∈ ns
        · rw [if_pos hm, if_pos hm]
          rfl
        · rw [if_neg hm, if_neg hm]
          unfold mustE mustP signP
          rw [if_pos rfl]
          by_cases hl : look (skip r0) = 58 <;> simp [hl, errE]
    rw [e2] at hrd
    refine ⟨_, rfl, a2, hat2.big hs (by omega), hrd, hrg, fun _ ns' r1 h1 => ?_⟩
    rw [e2, h1] at he1
    have hz : e1 = 0 := he1 rfl
    subst hz
    unfold nameP at h1
    split at h1
    · cases h1
    · rename_i t r0 ht
      have hat0 := hat1 t r0 ht
      rw [hat0.rest] at hat2
      split at h1
      · cases h1
      · split at h1
        · cases h1
        · rename_i r2 hm
          injection h1 with h1
          injection h1 with h1 h2
          subst h1 h2
          rw [ht]
          refine ⟨rfl, hat0.trans ?_⟩
          have e3 : signR 58 0 r0 = r2 := by
            unfold mustP at hm
            unfold signR signB signP
            split at hm
            · rename_i hl
              injection hm with hm
              simp [hl, hm]
            · cases hm
          rw [e3] at hat2
          exact hat2
  · refine (name_bad A ns.length c s hs r a d e he w h ha).mono ?_
    rintro x w' ⟨rfl, a2, ha2, hrd, hrg⟩
    exact ⟨[], rfl, a2, ha2, by rw [errP_ne he]; exact hrd, hrg, fun h0 => absurd h0 he⟩
/-- a value's contract, so many levels left -/
def VRd (d : Nat) : Prop := ∀ (s : ByteArray) (hs : (s.size : Int) ≤ 1000000) (r a : Nat) (D : Int) (hD : D + (d : Int) = 6) (h0 : 0 ≤ D) (w : World) (h : RD w r s a D 0) (ha : a ≤ s.size),
  Calls Try.prog 21 #[.pointer (some ⟨r, 0, none⟩)] w fun x w' => ∃ v : JV, x = .returned (.agg (jvCells v)) ∧ ∃ a' : Nat, (a' : Int) ≤ 1500000 ∧
    RD w' r s a' D (errE (valueP d (s.data.toList.drop a))) ∧ RG r w w' ∧ ∀ j r1, valueP d (s.data.toList.drop a) = .ok (j, r1) → At s a a' r1 ∧ JRep w' (fun b => w.heap.size ≤ b) j v
theorem value_all (d : Nat) (IH : VRd d) (s : ByteArray) (hs : (s.size : Int) ≤ 1000000) (r a : Nat) (D e : Int) (hD : D + (d : Int) = 6) (h0 : 0 ≤ D) (w : World) (h : RD w r s a D e) (ha : (a : Int) ≤ 1500000) (ha0 : e = 0 → a ≤ s.size) :
  Calls Try.prog 21 #[.pointer (some ⟨r, 0, none⟩)] w fun x w' => ∃ v : JV, x = .returned (.agg (jvCells v)) ∧ ∃ a' : Nat, (a' : Int) ≤ 1500000 ∧
    RD w' r s a' D (errP e (valueP d (s.data.toList.drop a))) ∧ RG r w w' ∧ (e = 0 → ∀ j r1, valueP d (s.data.toList.drop a) = .ok (j, r1) → At s a a' r1 ∧ JRep w' (fun b => w.heap.size ≤ b) j v) := by
  by_cases he : e = 0
  · subst he
    refine (IH s hs r a D hD h0 w h (ha0 rfl)).mono ?_
    rintro x w' ⟨v, rfl, a1, ha1, hrd, hrg, hok⟩
    exact ⟨v, rfl, a1, ha1, by rw [errP_z]; exact hrd, hrg, fun _ => hok⟩
  · refine (value_bad s r a D e he w h).mono ?_
    rintro x w' ⟨rfl, hrd, hrg⟩
    exact ⟨zJV, rfl, a, ha, by rw [errP_ne he]; exact hrd, hrg, fun h0 => absurd h0 he⟩
end Go.Proofs.Ytcfbnjaelniahaa.Js
/-
  Laws of my own: rows of structs that the call owns and may write to.
-/
namespace Go.Proofs.Ytcfbnjaelniahaa
set_option linter.unusedSimpArgs false
set_option linter.unusedVariables false
open Go.RowKit

/-- a row that the call owns and may write to -/
def OwnR (w : World) (base : Nat) (e : TypeId) (size : Nat) (A : Option Addr) (c : Nat) (n : Nat) (xs : List Value) : Prop := w.ownsRow base e size (.slice A n c) n xs
section
variable {w w' : World} {base : Nat} {e : TypeId} {size : Nat} {A : Option Addr} {c n : Nat} {xs : List Value}
theorem OwnR.x (h : OwnR w base e size A c n xs) : OwnX w base e size (.slice A n c) n xs := .of h
theorem OwnR.nil (w : World) (base : Nat) (e : TypeId) (size : Nat) : OwnR w base e size none 0 0 [] := ⟨by simp, .inl ⟨rfl, rfl⟩⟩
theorem OwnR.cap (h : OwnR w base e size A c n xs) : n ≤ c := by
  rcases h.2 with ⟨h1, h2⟩ | ⟨g, cap, cur, h1, h2, h3, h4, h5, h6, h7⟩
  · omega
  · injection h1 with e1 e2 e3
    omega
theorem OwnR.capm (h : OwnR w base e size A c n xs) : c ≤ maxLen := by
  rcases h.2 with ⟨h1, h2⟩ | ⟨g, cap, cur, h1, h2, h3, h4, h5, h6, h7⟩
  · injection h1 with e1 e2 e3
    unfold maxLen
    omega
  · injection h1 with e1 e2 e3
    omega
theorem OwnR.lt (h : OwnR w base e size A c n xs) : ∀ k, (Value.slice A n c).ownBlock = some k → base ≤ k ∧ k < w.heap.size := h.x.lt
theorem OwnR.mono {base' : Nat} (h : OwnR w base e size A c n xs) (hb : base' ≤ base) : OwnR w base' e size A c n xs := by
  refine ⟨h.1, ?_⟩
  rcases h.2 with h0 | ⟨g, cap, cur, h1, h2, h3⟩
  · exact .inl h0
  · exact .inr ⟨g, cap, cur, h1, by omega, h3⟩
theorem OwnR.heap (h : OwnR w base e size A c n xs) (hk : ∀ k cs, w.heap[k]? = some (.cells cs e (0, 0)) → base ≤ k → w'.heap[k]? = some (.cells cs e (0, 0))) : OwnR w' base e size A c n xs := by
  refine ⟨h.1, ?_⟩
  rcases h.2 with h0 | ⟨g, cap, cur, h1, h2, h3, h4⟩
  · exact .inl h0
  · exact .inr ⟨g, cap, cur, h1, h2, hk _ _ h3 h2, h4⟩
theorem OwnR.keep {f : TypeId} (h : OwnR w base e size A c n xs) (hk : KeepBut f w w') (ht : e ≠ f) : OwnR w' base e size A c n xs := h.heap fun k cs h1 _ => heap_keep hk ht h1
theorem OwnR.alloc (h : OwnR w base e size A c n xs) (o : Obj) : OwnR (w.alloc o) base e size A c n xs := h.heap fun k cs h1 _ => (Below.heap_alloc w o k (Array.getElem?_eq_some_iff.1 h1).1).trans h1
theorem OwnR.below (h : OwnR w base e size A c n xs) (hb : Below w.heap.size w w') : OwnR w' base e size A c n xs := h.heap fun k cs h1 _ => (hb.block k (Array.getElem?_eq_some_iff.1 h1).1).trans h1
theorem OwnR.row (h : OwnR w base e size A c n xs) : Row w w.heap.size e A xs := .of_own h.x
end
theorem KeepBut.refl (e : TypeId) (w : World) : KeepBut e w w := ⟨Nat.le_refl _, fun _ _ _ _ _ h => h⟩
theorem KeepBut.trans {e : TypeId} {a b c : World} (h : KeepBut e a b) (h' : KeepBut e b c) : KeepBut e a c := ⟨Nat.le_trans h.1 h'.1, fun k cs t fz ht hk => h'.2 k cs t fz ht (h.2 k cs t fz ht hk)⟩
theorem KeepBut.of_below {e : TypeId} {a b : World} (h : Below a.heap.size a b) : KeepBut e a b := ⟨h.size, fun k cs t fz _ hk => (h.block k (Array.getElem?_eq_some_iff.1 hk).1).trans hk⟩
theorem KeepBut.of_wrote {e : TypeId} {a b : World} {g : Nat} {cs : Array Value} (h : Wrote g a b) (hb : Blk a g e cs) : KeepBut e a b := ⟨h.grown.size, fun k cs' t fz ht hk => by
  refine (h.grown.block k (Array.getElem?_eq_some_iff.1 hk).1 (fun hg => ?_)).trans hk
  injection hg with hg
  subst hg
  unfold Blk at hb
  rw [hb] at hk
  injection hk with hk
  injection hk with h1 h2
  exact ht h2.symm⟩
section
variable {P : Program}
/-- 'append(s, x...)', x a row that reads. -/
theorem run_append_r {w : World} {t ty e : TypeId} {size bytes : Nat} (T : SlT P t e size bytes) {base n c : Nat} {A : Option Addr} {xs : List Value} (hown : OwnR w base e size A c n xs)
    {Ad : Option Addr} {m cx : Nat} {news : List Value} (hl : news.length = m * size) (hnews : ∀ j u, news[j]? = some u → ∃ ad, Ad = some ad ∧ w.cell? (ad.add j) = some u) (h1 : ∀ u ∈ news, u.oneCell' = true)
    (h63 : n + m ≤ maxLen) (hbytes : (n + m) * bytes ≤ 140737488355328) (hbase : base ≤ w.heap.size) :
    ∃ A' c' w', (Builtin.append_ #[t, t] ty #[.slice A n c, .slice Ad m cx]).run P w = .ok (.slice A' (n + m) c') w' ∧ OwnR w' base e size A' c' (n + m) (xs ++ news) ∧ w.grownBy w' (Value.slice A n c).ownBlock ∧ Next w (.slice A n c) (.slice A' (n + m) c') := by
  obtain ⟨i, z, hi, hz, hsz, hby, hzs⟩ := T.info
  by_cases hm : m = 0
  · subst hm
    have hnn : news = [] := List.eq_nil_of_length_eq_zero (by simpa using hl)
    subst hnn
    have hcap := hown.cap
    refine ⟨A, c, w, ?_, by simpa using hown, World.grownBy.refl _ _, .inl rfl⟩
    rcases hown.2 with ⟨h1, h2⟩ | ⟨g, cap, cur, h1, h2, h3, h4, h5, h6, h7⟩
    · injection h1 with e1 e2 e3
      subst e1 e2 e3
      cases Ad <;> simp [Builtin.append_, run_underlying T.und, sizeOf, typeInfo, hi, Builtin.lenOf, Builtin.firstCells, loadCells, loadCellsFrom]
    · injection h1 with e1 e2 e3
      subst e1 e3
      cases Ad <;> simp [Builtin.append_, run_underlying T.und, sizeOf, typeInfo, hi, Builtin.lenOf, Builtin.firstCells, loadCells, loadCellsFrom, hcap, storeCells]
  · have hpos : 0 < news.length := by rw [hl]; exact Nat.mul_pos (by omega) T.pos
    obtain ⟨ad, rfl, _⟩ := hnews 0 _ (List.getElem?_eq_getElem hpos)
    have hcells : ∀ j u, news[j]? = some u → w.cell? (ad.add j) = some u := fun j u hu => by
      obtain ⟨ad', he, hc⟩ := hnews j u hu
      injection he with he
      subst he
      exact hc
    obtain ⟨v', w', hr, h2, h3, _, h5⟩ := run_append_own_at (P := P) w base t ty e i z size bytes T.und hi hz hsz hby hzs T.pos (.slice A n c) n xs hown ad m cx news hl hcells h1 h63 hbytes hbase
    have hn : Next w (.slice A n c) v' := by
      rcases h5 with h5 | h5
      · exact .inl h5
      · exact .inr fun k hk => by rw [h5] at hk; simp at hk; omega
    have hv : ∃ A' c', v' = .slice A' (n + m) c' := by
      rcases h2.2 with ⟨_, h0⟩ | ⟨g, cap, cur, rfl, _⟩
      · omega
      · exact ⟨_, _, rfl⟩
    obtain ⟨A', c', rfl⟩ := hv
    exact ⟨A', c', w', hr, h2, h3, hn⟩
theorem wpList_append_r {w : World} {ops : Array Oper} {rest : List Oper} {o : Oper} {a : Act} {Q : Exit → Act → World → Prop} {sl x : Operand} {t e : TypeId} {size bytes : Nat} (T : SlT P t e size bytes)
    (hgd : o.guard = none) (ho : o.op = .call { callee := .builtin .append, args := #[sl, x], argTypes := #[t, t] })
    {base n c B : Nat} {A : Option Addr} {xs : List Value} {Ad : Option Addr} {m cx : Nat} {news : List Value} (hown : OwnR w base e size A c n xs) (hs : a.eval sl = .slice A n c) (hx : a.eval x = .slice Ad m cx)
    (hl : news.length = m * size) (hr : Rd w B Ad news) (h1 : ∀ u ∈ news, u.oneCell' = true)
    (h63 : n + m ≤ maxLen) (hbytes : (n + m) * bytes ≤ 140737488355328) (hbase : base ≤ w.heap.size)
    (h : ∀ A' c' w', OwnR w' base e size A' c' (n + m) (xs ++ news) → w.grownBy w' (Value.slice A n c).ownBlock → Next w (.slice A n c) (.slice A' (n + m) c') → wpList P ops Q rest (a.put o.dst (.slice A' (n + m) c')) w') :
    wpList P ops Q (o :: rest) a w := by
  obtain ⟨A', c', w', hrun, h2, h3, h4⟩ := run_append_r (ty := o.type) (cx := cx) T hown hl (fun j u hu => by
    obtain ⟨ad, h1, _, h3⟩ := hr j u hu
    exact ⟨ad, h1, h3⟩) h1 h63 hbytes hbase
  refine wpList_of_append (R := fun v' w1 => v' = .slice A' (n + m) c' ∧ w1 = w') hgd ho hs hx ⟨_, _, hrun, rfl, rfl⟩ ?_
  rintro v' w1 ⟨rfl, rfl⟩
  exact h _ _ _ h2 h3 h4
/-- 'append(s, x)': the one struct lies in a block that was just laid. -/
theorem wpList_append_r1 {w0 : World} {ys : List Value} {ops : Array Oper} {rest : List Oper} {o : Oper} {a : Act} {Q : Exit → Act → World → Prop} {s x : Operand} {t e : TypeId} {size bytes : Nat} (T : SlT P t e size bytes)
    (hgd : o.guard = none) (ho : o.op = .call { callee := .builtin .append, args := #[s, x], argTypes := #[t, t] })
    {base n c ad : Nat} {A : Option Addr} {xs : List Value} (hown : OwnR w0 base e size A c n xs) (hs : a.eval s = .slice A n c) (hx : a.eval x = .slice (some ⟨ad, 0, none⟩) 1 1) (had : ad = w0.heap.size) (hm : ys.length = size)
    (hy : ∀ u ∈ ys, u.oneCell' = true)
    (h63 : n + 1 ≤ maxLen) (hbytes : (n + 1) * bytes ≤ 140737488355328) (hbase : base ≤ w0.heap.size)
    (h : ∀ A' c' w', OwnR w' base e size A' c' (n + 1) (xs ++ ys) → w0.grownBy w' (Value.slice A n c).ownBlock → Next w0 (.slice A n c) (.slice A' (n + 1) c') → wpList P ops Q rest (a.put o.dst (.slice A' (n + 1) c')) w') :
    wpList P ops Q (o :: rest) a (w0.alloc (.cells ys.toArray e)) := by
  subst had
  obtain ⟨A', c', w', hrun, h2, h3, h4⟩ := run_append_r (ty := o.type) (cx := 1) (Ad := some ⟨w0.heap.size, 0, none⟩) T (hown.alloc (.cells ys.toArray e)) (news := ys) (m := 1) (by omega) (fun j u hu => ⟨_, rfl, by
    have hadd : (⟨w0.heap.size, 0, none⟩ : Addr).add j = ⟨w0.heap.size, j, none⟩ := by unfold Addr.add; split <;> simp_all
    rw [hadd, cell_of_row _ _ _ _ _ (0, 0) (heap_alloc_new w0 _)]
    simpa using hu⟩) hy h63 hbytes (by simp; omega)
  refine wpList_of_append (R := fun v' w1 => v' = .slice A' (n + 1) c' ∧ w1 = w') hgd ho hs hx ⟨_, _, hrun, rfl, rfl⟩ ?_
  rintro v' w1 ⟨rfl, rfl⟩
  exact h _ _ _ h2 ((World.grownBy_alloc w0 _ _).trans h3) (h4.back (by simp))
end
end Go.Proofs.Ytcfbnjaelniahaa
/-
  Plain: json's reader: the memory of a list that is being read.
-/
namespace Go.Proofs.Ytcfbnjaelniahaa.Js
set_option linter.unusedSimpArgs false
set_option linter.unusedVariables false
open Go.RowKit

theorem sl_strz : SlT Try.prog 22 9 1 16 := SlT.mk1 (z := .string ⟨#[]⟩) Try.underlying22 (by kernel_rfl) rfl (by decide)
theorem sl_jsons : SlT Try.prog 23 25 5 80 := SlT.mk1 (z := .agg #[.int .i64 0, .int .i64 0, .string ⟨#[]⟩, .slice none 0 0, .slice none 0 0]) Try.underlying23 (by kernel_rfl) rfl (by decide)
theorem ownR_blk {w : World} {base : Nat} {e : TypeId} {size : Nat} {A : Option Addr} {c n : Nat} {xs : List Value} (h : OwnR w base e size A c n xs) {g : Nat} (hg : (Value.slice A n c).ownBlock = some g) : ∃ cs, w.heap[g]? = some (.cells cs e (0, 0)) := by
  rcases h.2 with ⟨h1, h2⟩ | ⟨g', cap, cur, h1, h2, h3, h4⟩
  · injection h1 with e1
    subst e1
    simp [Value.ownBlock] at hg
  · injection h1 with e1
    subst e1
    simp [Value.ownBlock] at hg
    subst hg
    exact ⟨_, h3⟩
theorem ownR_rds {w : World} {base : Nat} {e : TypeId} {size : Nat} {A : Option Addr} {c n : Nat} {xs : List Value} (h : OwnR w base e size A c n xs) : RdS w (fun b => base ≤ b) A xs := fun i u hu => by
  obtain ⟨ad, h1, h2, h3⟩ := Rd.of_own h.x (Nat.le_refl _) i u hu
  refine ⟨ad, h1, ?_, h3⟩
  exact (h.lt ad.block (by rw [h1]; rfl)).1
/-- what may lie where the trees of a list's kids lie -/
def KS (G : Nat) (X Y : Value) (b : Nat) : Prop := G + 3 ≤ b ∧ X.ownBlock ≠ some b ∧ Y.ownBlock ≠ some b
/-- list's memory, but for its rows -/
structure LsM (w0 : World) (G r : Nat) (s : ByteArray) (D1 : Int) (T : JV) (u : World) (a1 : Nat) (e1 : Int) : Prop where
  low : r < G
  wg : w0.heap.size = G
  box : Blk u G 53 #[.pointer (some ⟨r, 0, none⟩)]
  res : Blk u (G + 1) 25 (jvCells zJV)
  tree : Blk u (G + 2) 25 (jvCells T)
  rd : RD u r s a1 D1 e1
  rg : RG r w0 u
structure Ls (w0 : World) (G r : Nat) (s : ByteArray) (D1 : Int) (T : JV) (A1 : Option Addr) (c1 : Nat) (ns : List Bs) (A2 : Option Addr) (c2 : Nat) (ks : List JT) (u : World) (a1 : Nat) (e1 : Int) : Prop where
  m : LsM w0 G r s D1 T u a1 e1
  names : OwnR u (G + 3) 9 1 A1 c1 ns.length (rowsV sCell ns)
  kids : ∃ kv : List JV, kv.length = ks.length ∧ OwnR u (G + 3) 25 5 A2 c2 ks.length (rowsV jvCells kv) ∧
    ∀ i (h : i < ks.length) (h' : i < kv.length), JRep u (KS G (.slice A1 ns.length c1) (.slice A2 ks.length c2)) ks[i] kv[i]
section
variable {w0 : World} {G r : Nat} {s : ByteArray} {D1 : Int} {T : JV} {A1 : Option Addr} {c1 : Nat} {ns : List Bs} {A2 : Option Addr} {c2 : Nat} {ks : List JT} {u u' : World} {a1 a' : Nat} {e1 e' : Int}
theorem LsM.step {D2 : Int} (h : LsM w0 G r s D1 T u a1 e1) (hg : RG r u u') (hr : RD u' r s a' D2 e') : LsM w0 G r s D2 T u' a' e' :=
  ⟨h.low, h.wg, h.box.grown hg (by have := h.low; intro h; injection h with h; omega), h.res.grown hg (by have := h.low; intro h; injection h with h; omega), h.tree.grown hg (by have := h.low; intro h; injection h with h; omega), hr, h.rg.trans hg⟩
theorem LsM.new (h : LsM w0 G r s D1 T u a1 e1) (hb : Below u.heap.size u u') : LsM w0 G r s D1 T u' a1 e1 := h.step (.below hb) (h.rd.grow hb)
theorem LsM.drew (h : LsM w0 G r s D1 T u a1 e1) : LsM w0 G r s D1 T u.drew a1 e1 := ⟨h.low, h.wg, h.box, h.res, h.tree, h.rd, grown_drew h.rg⟩
theorem LsM.size (h : LsM w0 G r s D1 T u a1 e1) : G + 3 ≤ u.heap.size := h.tree.lt
/-- a row of the list's own was written, or memory was made -/
theorem LsM.grown {g : Option Nat} (h : LsM w0 G r s D1 T u a1 e1) (hg : u.grownBy u' g) (hb : ∀ k, g = some k → G + 3 ≤ k) : LsM w0 G r s D1 T u' a1 e1 := by
  have hne : ∀ k, k < G + 3 → some k ≠ g := fun k hk he => by have := hb k he.symm; omega
  have hl := h.low
  exact ⟨h.low, h.wg, h.box.grown hg (hne _ (by omega)), h.res.grown hg (hne _ (by omega)), h.tree.grown hg (hne _ (by omega)), Blk.grown h.rd hg (hne _ (by omega)), h.rg.andThen hg (fun j hj => .inl (by have := hb j hj; rw [h.wg]; omega))⟩
theorem LsM.put {T' : JV} (h : LsM w0 G r s D1 T u a1 e1) (hw : Wrote (G + 2) u u') (ht : Blk u' (G + 2) 25 (jvCells T')) : LsM w0 G r s D1 T' u' a1 e1 :=
  ⟨h.low, h.wg, hw.blk h.box (by omega), hw.blk h.res (by omega), ht, hw.blk h.rd (by have := h.low; omega), h.rg.wrote_new hw (by rw [h.wg]; omega)⟩
theorem KS.le {X Y : Value} {b : Nat} (h : KS G X Y b) : G + 3 ≤ b := h.1
theorem Ls.heap (h : Ls w0 G r s D1 T A1 c1 ns A2 c2 ks u a1 e1) (hm : LsM w0 G r s D1 T u' a' e') (hk : ∀ b, b < u.heap.size → G + 3 ≤ b → u'.heap[b]? = u.heap[b]?) : Ls w0 G r s D1 T A1 c1 ns A2 c2 ks u' a' e' := by
  obtain ⟨kv, h1, h2, h3⟩ := h.kids
  have hlt : ∀ {k cs t}, u.heap[k]? = some (.cells cs t (0, 0)) → k < u.heap.size := fun hq => (Array.getElem?_eq_some_iff.1 hq).1
  exact ⟨hm, h.names.heap fun k cs hq hl => (hk k (hlt hq) hl).trans hq, kv, h1, h2.heap fun k cs hq hl => (hk k (hlt hq) hl).trans hq, fun i hi hi' => (h3 i hi hi').heap fun b hb hs => hk b hb hs.le⟩
theorem Ls.step (h : Ls w0 G r s D1 T A1 c1 ns A2 c2 ks u a1 e1) (hg : RG r u u') (hr : RD u' r s a' D1 e') : Ls w0 G r s D1 T A1 c1 ns A2 c2 ks u' a' e' :=
  h.heap (h.m.step hg hr) fun b hb hl => hg.block b hb (by have := h.m.low; intro h; injection h with h; omega)
theorem Ls.new (h : Ls w0 G r s D1 T A1 c1 ns A2 c2 ks u a1 e1) (hb : Below u.heap.size u u') : Ls w0 G r s D1 T A1 c1 ns A2 c2 ks u' a1 e1 := h.step (.below hb) (h.m.rd.grow hb)
theorem Ls.drew (h : Ls w0 G r s D1 T A1 c1 ns A2 c2 ks u a1 e1) : Ls w0 G r s D1 T A1 c1 ns A2 c2 ks u.drew a1 e1 := h.heap h.m.drew fun b _ _ => rfl
theorem Ls.put {T' : JV} (h : Ls w0 G r s D1 T A1 c1 ns A2 c2 ks u a1 e1) (hw : Wrote (G + 2) u u') (ht : Blk u' (G + 2) 25 (jvCells T')) : Ls w0 G r s D1 T' A1 c1 ns A2 c2 ks u' a1 e1 := by
  obtain ⟨kv, h1, h2, h3⟩ := h.kids
  have hk : ∀ b, b < u.heap.size → G + 3 ≤ b → u'.heap[b]? = u.heap[b]? := fun b hb hl => hw.grown.block b hb (by intro h; injection h with h; omega)
  have hlt : ∀ {k cs t}, u.heap[k]? = some (.cells cs t (0, 0)) → k < u.heap.size := fun hq => (Array.getElem?_eq_some_iff.1 hq).1
  exact ⟨h.m.put hw ht, h.names.heap fun k cs hq hl => (hk k (hlt hq) hl).trans hq, kv, h1, h2.heap fun k cs hq hl => (hk k (hlt hq) hl).trans hq, fun i hi hi' => (h3 i hi hi').heap fun b hb hs => hk b hb hs.le⟩
/-- a name more -/
theorem Ls.name {t : Bs} {A' : Option Addr} {c' : Nat} (h : Ls w0 G r s D1 T A1 c1 ns A2 c2 ks u a1 e1) (ho : OwnR u' (G + 3) 9 1 A' c' (ns.length + 1) (rowsV sCell ns ++ [.string (bs t)])) (hg : u.grownBy u' (Value.slice A1 ns.length c1).ownBlock)
    (hn : Next u (.slice A1 ns.length c1) (.slice A' (ns.length + 1) c')) : Ls w0 G r s D1 T A' c' (ns ++ [t]) A2 c2 ks u' a1 e1 := by
  obtain ⟨kv, h1, h2, h3⟩ := h.kids
  refine ⟨h.m.grown hg (fun k hk => (h.names.lt k hk).1), by rw [rowsV_append, rowsV_one, List.length_append]; exact ho, kv, h1, h2.heap fun k cs hq hl => ?_, fun i hi hi' => ?_⟩
  · refine (hg.block k (Array.getElem?_eq_some_iff.1 hq).1 fun he => ?_).trans hq
    obtain ⟨cs', hq'⟩ := ownR_blk h.names he.symm
    rw [hq] at hq'
    injection hq' with hq'
    injection hq' with _ ht
    exact absurd ht (by decide)
  · have h5 : JRep u (fun b => KS G (.slice A1 ns.length c1) (.slice A2 ks.length c2) b ∧ KS G (.slice A' (ns ++ [t]).length c') (.slice A2 ks.length c2) b) ks[i] kv[i] := (h3 i hi hi').imp fun b hb hs => ⟨hs, hs.1, fun he => by
      rw [List.length_append] at he
      rcases hn with hn | hn
      · exact hs.2.1 (hn.symm.trans he)
      · have := hn b he
        omega, hs.2.2⟩
    exact (h5.grown hg (fun b hb he => hb.1.2.1 he.symm)).imp fun b _ hs => hs.2
/-- a kid more -/
theorem Ls.kid {k : JT} {v : JV} {A' : Option Addr} {c' : Nat} (h : Ls w0 G r s D1 T A1 c1 ns A2 c2 ks u a1 e1) (hv : JRep u (KS G (.slice A1 ns.length c1) (.slice A2 ks.length c2)) k v)
    {kv : List JV} (h1 : kv.length = ks.length) (h2 : OwnR u (G + 3) 25 5 A2 c2 ks.length (rowsV jvCells kv)) (h3 : ∀ i (h : i < ks.length) (h' : i < kv.length), JRep u (KS G (.slice A1 ns.length c1) (.slice A2 ks.length c2)) ks[i] kv[i])
    (ho : OwnR u' (G + 3) 25 5 A' c' (ks.length + 1) (rowsV jvCells kv ++ (jvCells v).toList)) (hg : u.grownBy u' (Value.slice A2 ks.length c2).ownBlock)
    (hn : Next u (.slice A2 ks.length c2) (.slice A' (ks.length + 1) c')) : Ls w0 G r s D1 T A1 c1 ns A' c' (ks ++ [k]) u' a1 e1 := by
  have hS : ∀ b, b < u.heap.size → KS G (.slice A1 ns.length c1) (.slice A2 ks.length c2) b → KS G (.slice A1 ns.length c1) (.slice A2 ks.length c2) b ∧ KS G (.slice A1 ns.length c1) (.slice A' (ks ++ [k]).length c') b := fun b hb hs => ⟨hs, hs.1, hs.2.1, fun he => by
      rw [List.length_append] at he
      rcases hn with hn | hn
      · exact hs.2.2 (hn.symm.trans he)
      · have := hn b he
        omega⟩
  have hstep : ∀ j x, JRep u (KS G (.slice A1 ns.length c1) (.slice A2 ks.length c2)) j x → JRep u' (KS G (.slice A1 ns.length c1) (.slice A' (ks ++ [k]).length c')) j x := fun j x hj =>
    ((hj.imp hS).grown hg (fun b hb he => hb.1.2.2 he.symm)).imp fun b _ hs => hs.2
  refine ⟨h.m.grown hg (fun k hk => (h2.lt k hk).1), h.names.heap fun k cs hq hl => ?_, kv ++ [v], by simp [h1], by rw [rowsV_append, rowsV_one, List.length_append]; exact ho, fun i hi hi' => ?_⟩
  · refine (hg.block k (Array.getElem?_eq_some_iff.1 hq).1 fun he => ?_).trans hq
    obtain ⟨cs', hq'⟩ := ownR_blk h2 he.symm
    rw [hq] at hq'
    injection hq' with hq'
    injection hq' with _ ht
    exact absurd ht (by decide)
  · by_cases hl : i < ks.length
    · rw [List.getElem_append_left hl, List.getElem_append_left (by omega)]
      exact hstep _ _ (h3 i hl (by omega))
    · have e1 : i = ks.length := by simp at hi; omega
      subst e1
      rw [List.getElem_append_right (Nat.le_refl _), List.getElem_append_right (by omega)]
      simp only [Nat.sub_self, h1, List.getElem_cons_zero]
      exact hstep _ _ hv
/-- the tree, read -/
theorem Ls.rep {kk : Int} (h : Ls w0 G r s D1 T A1 c1 ns A2 c2 ks u a1 e1) : JRep u (fun b => G + 3 ≤ b) (.mk kk 0 [] ns ks) ⟨kk, 0, [], A1, ns.length, c1, A2, ks.length, c2⟩ := by
  obtain ⟨kv, h1, h2, h3⟩ := h.kids
  exact .mk ⟨kk, 0, [], A1, ns.length, c1, A2, ks.length, c2⟩ ns ks kv rfl h.names.cap (ownR_rds h.names) rfl h2.cap h1 (ownR_rds h2)
    (fun i hi hi' => (h3 i hi hi').imp fun b _ hs => hs.le)
theorem LsM.start (h : LsM w0 G r s D1 T u a1 e1) : Ls w0 G r s D1 T none 0 [] none 0 [] u a1 e1 := ⟨h, OwnR.nil _ _ _ _, [], rfl, OwnR.nil _ _ _ _, fun i hi _ => by simp at hi⟩
/-- what a value has laid lies beside the rows -/
theorem Ls.fresh (h : Ls w0 G r s D1 T A1 c1 ns A2 c2 ks u a1 e1) {j : JT} {v : JV} (hj : JRep u' (fun b => u.heap.size ≤ b) j v) : JRep u' (KS G (.slice A1 ns.length c1) (.slice A2 ks.length c2)) j v := by
  obtain ⟨kv, h1, h2, h3⟩ := h.kids
  have hs := h.m.size
  exact hj.imp fun b _ hb => ⟨by omega, fun he => by have := (h.names.lt b he).2; omega, fun he => by have := (h2.lt b he).2; omega⟩
end
def kindV (m : Bool) : Int := if m then 5 else 4
def treeV (m : Bool) (A1 : Option Addr) (n1 c1 : Nat) (A2 : Option Addr) (n2 c2 : Nat) : JV := ⟨kindV m, 0, [], A1, n1, c1, A2, n2, c2⟩
def isMap (X : Bs) : Bool := look X == 123
theorem sign_parts (c : UInt8) (r : Bs) : signB c 0 r = (signP c r).1 ∧ signR c 0 r = (signP c r).2 := by
  unfold signR signB signP
  by_cases h : look (skip r) = c <;> simp [h]
/-- what a list comes to -/
def lres (m : Bool) : Except Int (List Bs × List JT × Bs) → Except Int (JT × Bs)
  | .error e => .error e
  | .ok (ns, ks, r) => .ok (.mk (kindV m) 0 [] ns ks, r)
theorem listP_lres (val : Bs → Except Int (JT × Bs)) (r : Bs) : listP val r = lres (isMap r) (listL val (isMap r) r.length [] [] (skip r.tail)) := by
  unfold listP lres isMap kindV
  cases h : listL val (look r == 123) r.length [] [] (skip r.tail) with
  | error e => rfl
  | ok x => rfl
/-- a comma, and a name -/
def nameK (m : Bool) (ns : List Bs) : Except Int Bs → Except Int (List Bs × Bs)
  | .error e => .error e
  | .ok r2 => keyP m ns r2
/-- and a value -/
def kidK (val : Bs → Except Int (JT × Bs)) : Except Int (List Bs × Bs) → Except Int (List Bs × JT × Bs)
  | .error e => .error e
  | .ok (ns, r3) => match val r3 with
    | .error e => .error e
    | .ok (k, r4) => .ok (ns, k, r4)
/-- and the others -/
def moreK (val : Bs → Except Int (JT × Bs)) (m : Bool) (n : Nat) (ks : List JT) : Except Int (List Bs × JT × Bs) → Except Int (List Bs × List JT × Bs)
  | .error e => .error e
  | .ok (ns, k, r4) => listL val m n ns (ks ++ [k]) r4
theorem listL_end {val : Bs → Except Int (JT × Bs)} {m : Bool} {n : Nat} {ns : List Bs} {ks : List JT} {r r1 : Bs} (h : signP (endC m) r = (true, r1)) : listL val m (n + 1) ns ks r = .ok (ns, ks, r1) := by
  rw [listL, h]
theorem listL_more {val : Bs → Except Int (JT × Bs)} {m : Bool} {n : Nat} {ns : List Bs} {ks : List JT} {r r1 : Bs} (h : signP (endC m) r = (false, r1)) : listL val m (n + 1) ns ks r = moreK val m n ks (kidK val (nameK m ns (commaP ks.isEmpty r1))) := by
  rw [listL, h]
  dsimp only
  unfold moreK kidK nameK
  cases commaP ks.isEmpty r1 with
  | error e => rfl
  | ok r2 =>
    dsimp only
    cases keyP m ns r2 with
    | error e => rfl
    | ok x =>
      dsimp only
      cases val x.2 with
      | error e => rfl
      | ok y => rfl
theorem mustP_err {c : UInt8} {r : Bs} {e : Int} (h : mustP c r = .error e) : e ≠ 0 := by
  unfold mustP at h
  split at h
  · cases h
  · injection h with h
    omega
theorem commaP_err {b : Bool} {r : Bs} {e : Int} (h : commaP b r = .error e) : e ≠ 0 := by
  unfold commaP at h
  split at h
  · cases h
  · exact mustP_err h
theorem nameP_err {ns : List Bs} {r : Bs} {e : Int} (h : nameP ns r = .error e) : e ≠ 0 := by
  unfold nameP at h
  split at h
  · injection h with h; omega
  · split at h
    · injection h with h; omega
    · split at h
      · rename_i hm
        injection h with h
        subst h
        exact mustP_err hm
      · cases h
theorem nameK_err {m : Bool} {ns : List Bs} {b : Bool} {r : Bs} {e : Int} (h : nameK m ns (commaP b r) = .error e) : e ≠ 0 := by
  unfold nameK at h
  split at h
  · rename_i hc
    injection h with h
    subst h
    exact commaP_err hc
  · unfold keyP at h
    split at h
    · exact nameP_err h
    · cases h
theorem kidK_err {val : Bs → Except Int (JT × Bs)} (hv : ∀ {r e}, val r = .error e → e ≠ 0) {m : Bool} {ns : List Bs} {b : Bool} {r : Bs} {e : Int} (h : kidK val (nameK m ns (commaP b r)) = .error e) : e ≠ 0 := by
  unfold kidK at h
  split at h
  · rename_i hc
    injection h with h
    subst h
    exact nameK_err hc
  · split at h
    · rename_i hc
      injection h with h
      subst h
      exact hv hc
    · cases h
theorem listL_err {val : Bs → Except Int (JT × Bs)} (hv : ∀ {r e}, val r = .error e → e ≠ 0) {m : Bool} : ∀ (n : Nat) {ns : List Bs} {ks : List JT} {r : Bs} {e : Int}, listL val m n ns ks r = .error e → e ≠ 0
  | 0, ns, ks, r, e, h => by
    rw [listL] at h
    injection h with h
    omega
  | n + 1, ns, ks, r, e, h => by
    rcases hs : signP (endC m) r with ⟨b, r1⟩
    cases b with
    | true =>
      rw [listL_end hs] at h
      cases h
    | false =>
      rw [listL_more hs] at h
      unfold moreK at h
      split at h
      · rename_i hc
        injection h with h
        subst h
        exact kidK_err hv hc
      · exact listL_err hv n h
theorem lpOf_err {val : Bs → Except Int (JT × Bs)} (hv : ∀ {r e}, val r = .error e → e ≠ 0) {r : Bs} {e : Int} (h : listP val r = .error e) : e ≠ 0 := by
  rw [listP_lres] at h
  unfold lres at h
  split at h
  · rename_i hc
    injection h with h
    subst h
    exact listL_err hv _ hc
  · cases h
theorem rawP_err {lp : Bs → Except Int (JT × Bs)} (hl : ∀ {r e}, lp r = .error e → e ≠ 0) {r : Bs} {e : Int} (h : rawP lp r = .error e) : e ≠ 0 := by
  have hw : ∀ {w r v}, wordR w r v = .error e → e ≠ 0 := by
    intro w r v h
    unfold wordR at h
    split at h
    · injection h with h; omega
    · cases h
  have ho : ∀ {α : Type} {x : Option (α × Bs)} {f : α → JT}, optR x f = .error e → e ≠ 0 := by
    intro α x f h
    unfold optR at h
    split at h
    · injection h with h; omega
    · cases h
  unfold rawP at h
  split at h
  · exact hw h
  split at h
  · exact hw h
  split at h
  · exact hw h
  split at h
  · exact ho h
  split at h
  · exact hl h
  · exact ho h
theorem skipR_err {x : Except Int (JT × Bs)} {e : Int} (h : skipR x = .error e) : x = .error e := by
  unfold skipR at h
  split at h
  · injection h with h
    subst h
    rfl
  · cases h
theorem valueP_err : ∀ (d : Nat) {r : Bs} {e : Int}, valueP d r = .error e → e ≠ 0
  | 0, r, e, h => rawP_err (by intro r e h; injection h with h; omega) (skipR_err h)
  | d + 1, r, e, h => rawP_err (fun h => lpOf_err (fun h => valueP_err d h) h) (skipR_err h)
/-- behind a name -/
def NmQ (s : ByteArray) (a4 : Nat) (e4 : Int) (ns : List Bs) (t : Bs) (a5 : Nat) (e5 : Int) : Prop :=
  (a5 : Int) ≤ 1500000 ∧ e5 = errP e4 (nameP ns (s.data.toList.drop a4)) ∧ (e4 = 0 → ∀ ns' r1, nameP ns (s.data.toList.drop a4) = .ok (ns', r1) → ns' = ns ++ [t] ∧ At s a4 a5 r1)
/-- behind a value -/
def VlQ (s : ByteArray) (a3 : Nat) (E4 : Except Int (List Bs × JT × Bs)) (ns : List Bs) (a6 : Nat) (e6 : Int) : Prop :=
  (a6 : Int) ≤ 1500000 ∧ e6 = errE E4 ∧ ∀ ns' k r4, E4 = .ok (ns', k, r4) → ns' = ns ∧ At s a3 a6 r4
theorem nmq_done {s : ByteArray} {a3 a4 a5 : Nat} {e4 e5 : Int} {ns : List Bs} {t r1 : Bs} {b : Bool} (h : NmQ s a4 e4 ns t a5 e5) (he : e4 = errE (commaP b r1)) (hat : ∀ r2, commaP b r1 = .ok r2 → At s a3 a4 r2) :
    e5 = errE (nameK true ns (commaP b r1)) ∧ ∀ x r3, nameK true ns (commaP b r1) = .ok (x, r3) → x = ns ++ [t] ∧ At s a3 a5 r3 := by
  obtain ⟨h1, h2, h3⟩ := h
  cases hc : commaP b r1 with
  | error e =>
    rw [hc] at he
    have h0 := commaP_err hc
    rw [errP_ne (by rw [he]; exact h0)] at h2
    exact ⟨by rw [h2, he]; rfl, fun x r3 h => by cases h⟩
  | ok r2 =>
    rw [hc] at he
    have he0 : e4 = 0 := he
    have ha := hat r2 hc
    subst he0
    rw [errP_z, ha.rest] at h2
    refine ⟨h2, fun x r3 hx => ?_⟩
    have h5 := h3 rfl x r3 (by rw [ha.rest]; exact hx)
    exact ⟨h5.1, ha.trans h5.2⟩
theorem vlq_of {d : Nat} {s : ByteArray} {a3 a5 a6 : Nat} {ns' : List Bs} {e5 : Int} {K3 : Except Int (List Bs × Bs)} (hK : ∀ e, K3 = .error e → e ≠ 0) (he : e5 = errE K3) (hat : ∀ x r3, K3 = .ok (x, r3) → x = ns' ∧ At s a3 a5 r3)
    {P : JT → Prop} (ha : (a6 : Int) ≤ 1500000) (hok : e5 = 0 → ∀ j r1, valueP d (s.data.toList.drop a5) = .ok (j, r1) → At s a5 a6 r1 ∧ P j) :
    VlQ s a3 (kidK (valueP d) K3) ns' a6 (errP e5 (valueP d (s.data.toList.drop a5))) ∧ ∀ x k r4, kidK (valueP d) K3 = .ok (x, k, r4) → P k := by
  cases hc : K3 with
  | error e =>
    rw [hc] at he
    have h0 := hK e hc
    rw [errP_ne (by rw [he]; exact h0)]
    exact ⟨⟨ha, by rw [he]; rfl, fun x k r4 h => by cases h⟩, fun x k r4 h => by cases h⟩
  | ok y =>
    obtain ⟨x, r3⟩ := y
    rw [hc] at he
    have he0 : e5 = 0 := he
    obtain ⟨rfl, h2⟩ := hat x r3 hc
    subst he0
    rw [errP_z, h2.rest]
    rw [h2.rest] at hok
    unfold kidK
    dsimp only
    cases hv : valueP d r3 with
    | error e => exact ⟨⟨ha, rfl, fun x k r4 h => by cases h⟩, fun x k r4 h => by cases h⟩
    | ok z =>
      obtain ⟨k, r4⟩ := z
      obtain ⟨h5, h6⟩ := hok rfl k r4 hv
      refine ⟨⟨ha, rfl, fun x' k' r4' h => ?_⟩, fun x' k' r4' h => ?_⟩
      · injection h with h
        injection h with h1 h
        injection h with h3 h4
        subst h1 h3 h4
        exact ⟨rfl, h2.trans h5⟩
      · injection h with h
        injection h with h1 h
        injection h with h3 h4
        subst h1 h3 h4
        exact h6
theorem kidK_len {d : Nat} {m b : Bool} {ns x : List Bs} {k : JT} {r1 r4 : Bs} (h : kidK (valueP d) (nameK m ns (commaP b r1)) = .ok (x, k, r4)) : r4.length < r1.length ∧ x.length ≤ ns.length + 1 := by
  unfold kidK at h
  split at h
  · cases h
  · rename_i ns' r3 hn
    have hx : ns' = x ∧ valueP d r3 = .ok (k, r4) := by
      split at h
      · cases h
      · rename_i hv
        injection h with h
        injection h with h1 h
        injection h with h2 h3
        subst h1 h2 h3
        exact ⟨rfl, hv⟩
    obtain ⟨rfl, hv⟩ := hx
    have l4 := valueP_len d hv
    unfold nameK at hn
    split at hn
    · cases hn
    · rename_i r2 hc
      have l2 : r2.length ≤ r1.length := by
        unfold commaP at hc
        split at hc
        · injection hc with hc; subst hc; exact Nat.le_refl _
        · exact mustP_len hc
      unfold keyP at hn
      split at hn
      · have l3 := nameP_len hn
        refine ⟨by omega, ?_⟩
        unfold nameP at hn
        split at hn
        · cases hn
        · split at hn
          · cases hn
          · split at hn
            · cases hn
            · injection hn with hn
              injection hn with hn _
              subst hn
              simp
      · injection hn with hn
        injection hn with h1 h2
        subst h1 h2
        exact ⟨by omega, by omega⟩
end Go.Proofs.Ytcfbnjaelniahaa.Js
/-
  Walks: json's reader: a list: what is deferred; a list too deep.
-/
namespace Go.Proofs.Ytcfbnjaelniahaa.Js
set_option linter.unusedSimpArgs false
set_option linter.unusedVariables false
open Go.RowKit

theorem listd_any (p : Nat) (s : ByteArray) (r a : Nat) (D e : Int) (hD : 0 ≤ D) (hD9 : D ≤ 100) (u : FrameMode) (w : World) (hb : Blk w p 53 #[.pointer (some ⟨r, 0, none⟩)]) (h : RD w r s a (D + 1) e) :
    CallsD Try.prog 59 #[.pointer (some ⟨p, 0, none⟩)] u w fun x u' w' => u' = u ∧ x = .returned (.tuple #[]) ∧ RD w' r s a D e ∧ RG r w w' ∧ Wrote r w w' := by
  have c0 : w.cell? ⟨p, 0, none⟩ = some (.pointer (some ⟨r, 0, none⟩)) := hb.cell 0
  obtain ⟨-, -, c2, -⟩ := h.cells
  have H := Lib.hid h
  have e1 : D + 1 - 1 = D := by omega
  clear hb h
  go_enter_d Try.func59, Try.ntmps59
  go_wp2_with (refine wpList_put_cell (x := .tmp 7) (i := 2) H.out rfl rfl rfl rfl (by kernel_rfl) (by simp [rdCells]) rfl ?_; intro w1 hb1 hw1)
  go_end0
  exact ⟨rfl, hb1, RG.wrote hw1, hw1⟩
/-- the door of a list -/
theorem list_leaves {R : Ending → World → Prop} (tmps : Array Value) (G : Nat) (T : JV) (ht : tmps.getD 2 undef = .pointer (some ⟨G + 1, 0, none⟩)) (s : ByteArray) (r a : Nat) (D e : Int) (hD : 0 ≤ D) (hD9 : D ≤ 100) (hr : r < G) (u : World)
    (hb : Blk u G 53 #[.pointer (some ⟨r, 0, none⟩)]) (hres : Blk u (G + 1) 25 (jvCells T)) (h : RD u r s a (D + 1) e) (hR : ∀ u', RD u' r s a D e → Wrote r u u' → R (.returned (.agg (jvCells T))) u') :
    Leaves Try.prog Try.f53 tmps R [{ target := .fn (.func 59) #[.pointer (some ⟨G, 0, none⟩)], args := #[] }] .returning u := by
  have hu := Try.underlying25
  refine leaves_cons (f := 59) (args := #[.pointer (some ⟨G, 0, none⟩)]) (by simp) (by simp [go_sem]) ?_
  refine (listd_any G s r a D e hD hD9 .returning u hb h).mono ?_
  rintro x u' w' ⟨rfl, rfl, hrd, hrg, hw⟩
  exact ⟨_, results_box (P := Try.prog) rfl ht (hw.blk hres (by omega)) hu rfl jT_size3, hR _ hrd hw⟩
/-- a list's contract -/
def LRd (D : Int) (lp : Bs → Except Int (JT × Bs)) : Prop := ∀ (s : ByteArray) (hs : (s.size : Int) ≤ 1000000) (r a : Nat) (w : World) (h : RD w r s a D 0) (ha : a < s.size),
  Calls Try.prog 53 #[.pointer (some ⟨r, 0, none⟩)] w fun x w' => ∃ v : JV, x = .returned (.agg (jvCells v)) ∧ ∃ a' : Nat, (a' : Int) ≤ 1500000 ∧
    RD w' r s a' D (errE (lp (s.data.toList.drop a))) ∧ RG r w w' ∧ ∀ j r1, lp (s.data.toList.drop a) = .ok (j, r1) → At s a a' r1 ∧ JRep w' (fun b => w.heap.size ≤ b) j v
/-- a list, so many levels left -/
def lpOf : Nat → Bs → Except Int (JT × Bs)
  | 0 => fun _ => .error 9
  | d + 1 => listP (valueP d)
theorem valueP_lp (d : Nat) (r : Bs) : valueP d r = skipR (rawP (lpOf d) (skip r)) := by cases d <;> rfl
set_option maxRecDepth 100000 in
set_option maxHeartbeats 4000000 in
theorem list_step (d : Nat) (D : Int) (hD : D + (d : Int) = 6) (hD0 : 0 ≤ D) (IH : ∀ d', d = d' + 1 → VRd d') : LRd D (lpOf d) := by
  intro s hs r a w h ha
  have hu := Try.underlying25
  have hmf : ∀ (fn : Fn) (first cap : Array Value) (w : World), (Instr.makeFunc fn first cap).run Try.prog w = .ok (.func fn first cap) w := fun _ _ _ _ => rfl
  obtain ⟨G, hG⟩ : ∃ G, G = w.heap.size := ⟨_, rfl⟩
  obtain ⟨W1, hW1⟩ : ∃ W1, W1 = ((w.alloc (.cells #[.pointer (some ⟨r, 0, none⟩)] 53)).alloc (.cells (jvCells zJV) 25)).alloc (.cells (jvCells (treeV false none 0 0 none 0 0)) 25) := ⟨_, rfl⟩
  have hb1 : Below w.heap.size w W1 := by rw [hW1]; exact (((Below.refl _ w).alloc (Nat.le_refl _) _).alloc (by simp) _).alloc (by simp; omega) _
  have HM0 := Lib.hid (show LsM w G r s D (treeV false none 0 0 none 0 0) W1 a 0 from by
    refine ⟨by rw [hG]; exact Blk.lt h, hG.symm, ?_, ?_, ?_, h.grow hb1, .below hb1⟩
    · rw [hW1, hG]
      exact ((Blk.new _ _ _).alloc _).alloc _
    · have := (Blk.new (w.alloc (.cells #[.pointer (some ⟨r, 0, none⟩)] 53)) 25 (jvCells zJV)).alloc (.cells (jvCells (treeV false none 0 0 none 0 0)) 25)
      rw [hW1, hG]
      simpa using this
    · have := Blk.new ((w.alloc (.cells #[.pointer (some ⟨r, 0, none⟩)] 53)).alloc (.cells (jvCells zJV) 25)) 25 (jvCells (treeV false none 0 0 none 0 0))
      rw [hW1, hG]
      simpa [Nat.add_assoc] using this)
  have HW1 := Lib.hid hW1
  have HA := Lib.hid ha
  have HS := Lib.hid hs
  have CK := Lib.hid (look_any s r a D 0 W1 HM0.out.rd)
  have CF := Lib.hid (fun (u : World) (h : RD u r s a D 0) => fail_any 9 s r a D 0 u h)
  obtain ⟨X, hX⟩ : ∃ X, X = s.data.toList.drop a := ⟨_, rfl⟩
  have HX := Lib.hid hX
  rw [← hX]
  have HL := Lib.hid (show lookE s a 0 = look X by rw [lookE, if_pos rfl, HX.out])
  obtain ⟨m, hm⟩ : ∃ m, m = isMap X := ⟨_, rfl⟩
  have HM := Lib.hid hm.symm
  obtain ⟨z, hz⟩ : ∃ z : Int, z = (((look X).toNat : Nat) : Int) := ⟨_, rfl⟩
  have hmz : (z == 123) = m := by
    rw [hz, hm, isMap, Bool.eq_iff_iff, beq_iff_eq, beq_iff_eq]
    constructor
    · intro h
      exact UInt8.toNat.inj (by show (look X).toNat = 123; omega)
    · intro h
      rw [h]
      rfl
  have HZ := Lib.hid (show byteV (lookE s a 0) = .int .u8 z by rw [HL.out, hz]; rfl)
  have a0 : W1.cell? ⟨G, 0, none⟩ = some (.pointer (some ⟨r, 0, none⟩)) := HM0.out.box.cell 0
  have HIH := Lib.hid IH
  have HDD := Lib.hid hD
  clear hW1 hb1 h ha hs hX hm hz hD IH
  rw [hG] at *
  clear hG
  go_enter_defers Try.func53, Try.ntmps53
  go_upto_region 2 with (fail)
  rw [show (((w.alloc (.cells #[.pointer (some ⟨r, 0, none⟩)] 53)).alloc (.cells #[.int .i64 0, .int .i64 0, .string ⟨#[]⟩, .slice none 0 0, .slice none 0 0] 25)).alloc (.cells #[.int .i64 4, .int .i64 0, .string ⟨#[]⟩, .slice none 0 0, .slice none 0 0] 25)) = W1 from HW1.out.symm]
  clear HW1
  go_wp2_with fail
  refine calls_then CK.out ?_
  rintro y w2 ⟨rfl, hrd, hrg⟩
  have HM2 := Lib.hid (HM0.out.step hrg hrd)
  rw [HZ.out]
  clear hrd hrg a0
  go_upto_if 9 with (fail)
  go_cut [4] from 7 to 10 (fun c w3 => c = byteV (endC m) ∧ LsM w w.heap.size r s D (treeV m none 0 0 none 0 0) w3 a 0)
  case first =>
    cases m with
    | false =>
      go_wp2_with fail
      go_meet
      exact ⟨rfl, HM2.out⟩
    | true =>
      go_wp2_with (refine wpList_put_cell (x := .tmp 10) (i := 0) HM2.out.tree rfl rfl rfl rfl (by kernel_rfl) (by simp [jvCells]) rfl ?_; intro w3 hb3 hw3)
      go_meet
      exact ⟨rfl, HM2.out.put hw3 hb3⟩
  case rest =>
  obtain ⟨rfl, hm3⟩ := hcut
  have HM3 := Lib.hid hm3
  clear hm3 HM2 HM0 CK
  obtain ⟨-, -, c2, -⟩ := HM3.out.rd.cells
  have b0 : wc.cell? ⟨w.heap.size, 0, none⟩ = some (.pointer (some ⟨r, 0, none⟩)) := HM3.out.box.cell 0
  cases d with
  | zero =>
    obtain rfl : D = 6 := by have := HDD.out; omega
    go_wp2_with fail
    refine calls_then (CF.out _ HM3.out.rd) ?_
    rintro y w4 ⟨rfl, hrd, hrg⟩
    have HM4 := Lib.hid (HM3.out.step hrg (show RD w4 r s a 6 9 from hrd))
    clear hrd hrg c2 b0
    go_wp2_with (first
      | refine wpList_get_box (x := .tmp 3) HM4.out.tree rfl rfl rfl hu rfl jT_size3 ?_
      | (refine wpList_put_box (x := .tmp 2) (cells := jvCells (treeV m none 0 0 none 0 0)) HM4.out.res rfl rfl rfl rfl jT_size3 rfl (jvCells_one _) ?_; intro w9 hb9 hw9))
    have HRD9 := Lib.hid (show RD w9 r s a 6 9 from hw9.blk HM4.out.rd (by have := HM4.out.low; omega))
    have HRG9 := Lib.hid (show RG r w w9 from HM4.out.rg.wrote_new hw9 (by omega))
    have HA' := HA.out
    have HS' := HS.out
    exact ⟨_, results_box (P := Try.prog) rfl rfl hb9 hu rfl jT_size3, _, rfl, a, by omega, HRD9.out, HRG9.out, fun j r1 h => by cases h⟩
  | succ d =>
    have hD6 : ¬ 6 ≤ D := by have := HDD.out; omega
    have HV := Lib.hid (HIH.out d rfl)
    obtain ⟨LR, hLR⟩ : ∃ LR, LR = lpOf (d + 1) X := ⟨_, rfl⟩
    have HLR := Lib.hid hLR
    have HLP := Lib.hid (show listP (valueP d) X = LR from hLR.symm)
    obtain ⟨c, hc⟩ : ∃ c, c = a + 1 := ⟨_, rfl⟩
    have HC := Lib.hid hc
    have HCI := Lib.hid (show (a : Int) + 1 = (c : Int) by omega)
    have CB := Lib.hid (fun (u : World) (h : RD u r s c (D + 1) 0) => blanks_any s HS.out r c (D + 1) 0 u h (by have := HA.out; have := HS.out; omega))
    have ha' : (a : Int) ≤ 1000000 := by have := HA.out; have := HS.out; omega
    have hD7 : D ≤ 6 := by omega
    clear hLR HIH CF hc
    go_wp2_with (first
      | (refine wpList_put_cell (x := .tmp 25) (i := 2) HM3.out.rd rfl rfl rfl rfl (by kernel_rfl) (by simp [rdCells]) rfl ?_; intro w4 hb4 hw4;
         have HM4 := Lib.hid (HM3.out.step (RG.wrote hw4) (show RD w4 r s a (D + 1) 0 from hb4));
         have b4 : w4.cell? ⟨w.heap.size, 0, none⟩ = some (.pointer (some ⟨r, 0, none⟩)) := HM4.out.box.cell 0;
         have c4 : w4.cell? ⟨r, 1, none⟩ = some (.int .i64 (a : Int)) := HM4.out.rd.cells.2.1)
      | (refine wpList_put_cell (x := .tmp 33) (i := 1) HM4.out.rd rfl rfl rfl rfl (by kernel_rfl) (by simp [rdCells]) rfl ?_; intro w5 hb5 hw5;
         have HM5 := Lib.hid (HM4.out.step (RG.wrote hw5) (show RD w5 r s c (D + 1) 0 from by
          show Blk w5 r _ #[.string s, .int .i64 ((c : Nat) : Int), .int .i64 (D + 1), .int .i64 0]
          rw [← HCI.out]
          exact hb5));
         have b5 : w5.cell? ⟨w.heap.size, 0, none⟩ = some (.pointer (some ⟨r, 0, none⟩)) := HM5.out.box.cell 0))
    refine calls_then (CB.out _ HM5.out.rd) ?_
    rintro y w6 ⟨rfl, a1, h1, h2, h3, hrd, hrg⟩
    have HM6 := Lib.hid (HM5.out.step hrg hrd)
    have HAT6 := Lib.hid (show At s a a1 (skip X.tail) from ⟨by have := HC.out; omega, .inr (by have := HC.out; have := HA.out; omega), by rw [h3, HC.out, drop_tail, HX.out]⟩)
    have b6 : w6.cell? ⟨w.heap.size, 0, none⟩ = some (.pointer (some ⟨r, 0, none⟩)) := HM6.out.box.cell 0
    have CS := Lib.hid (sign_any (endC m) (by cases m <;> decide) s HS.out r a1 (D + 1) 0 w6 HM6.out.rd (by have := HAT6.out.top; have := HA.out; have := HS.out; omega))
    clear hrd hrg h1 h2 h3 b4 c4 b5 c2 b0 hb4 hw4 hb5 hw5
    go_wp2_with fail
    refine calls_then CS.out ?_
    rintro y w7 ⟨rfl, a2, hat, hrd, hrg⟩
    have HM7 := Lib.hid (HM6.out.step hrg hrd)
    obtain ⟨hp1, hp2⟩ := sign_parts (endC m) (s.data.toList.drop a1)
    rw [hp2] at hat
    rw [hp1]
    rw [HAT6.out.rest] at hat ⊢
    obtain ⟨X1, hX1⟩ : ∃ X1, X1 = skip X.tail := ⟨_, rfl⟩
    rw [← hX1] at hat ⊢
    have HAT7 := Lib.hid hat
    have HX1 := Lib.hid hX1
    obtain ⟨b, hb⟩ : ∃ b, b = (signP (endC m) X1).1 := ⟨_, rfl⟩
    rw [← hb]
    have HB := Lib.hid (show signP (endC m) X1 = (b, (signP (endC m) X1).2) by rw [hb])
    obtain ⟨LL, hLL⟩ : ∃ LL, LL = listL (valueP d) m X.length [] [] X1 := ⟨_, rfl⟩
    have HLL := Lib.hid (show LR = lres m LL by rw [← HLP.out, listP_lres, hLL, HM.out, hX1])
    obtain ⟨n, hn⟩ : ∃ n, X.length = n + 1 := ⟨X.length - 1, by have := HA.out; have := HX.out; have h5 : s.data.toList.length = s.size := rfl; rw [HX.out, List.length_drop]; omega⟩
    have HN := Lib.hid (show listL (valueP d) m (n + 1) [] [] X1 = LL by rw [hLL, hn])
    have HN1 := Lib.hid (show X1.length ≤ n by have h1 := skip_len X.tail; rw [← hX1] at h1; simp at h1; omega)
    clear hrd hrg hp1 hp2 hat hX1 hb hLL hn CS b6
    go_wp2_with fail
    go_loopg [5] n (fun gk more wr => ∃ (ns : List Bs) (ks : List JT) (A1 A2 : Option Addr) (c1 c2 a1 : Nat) (b : Bool) (X0 r1 : Bs), more = .bool (!b) ∧ signP (endC m) X0 = (b, r1) ∧ At s a a1 r1 ∧ listL (valueP d) m (gk + 1) ns ks X0 = LL ∧ r1.length ≤ gk ∧
      ns.length ≤ ks.length ∧ ks.length ≤ a1 ∧ Ls w w.heap.size r s (D + 1) (treeV m A1 ns.length c1 A2 ks.length c2) A1 c1 ns A2 c2 ks wr a1 0)
    case atStart =>
      refine ⟨[], [], none, none, 0, 0, a2, b, X1, _, rfl, HB.out, HAT6.out.trans HAT7.out, HN.out, ?_, Nat.le_refl _, Nat.zero_le _, HM7.out.start⟩
      have h1 := signP_len (endC m) X1
      have h2 := HN1.out
      omega
    case round =>
      obtain ⟨ns, ks, A1, A2, c1, c2, a3, b3, X0, r1, rfl, hsg, hat, hll, hlen, hnk, hka, hls⟩ := hrel
      have HSG := Lib.hid hsg
      have HAT := Lib.hid hat
      have HLK := Lib.hid hll
      have HLEN := Lib.hid hlen
      have HNK := Lib.hid hnk
      have HKA := Lib.hid hka
      have HLS := Lib.hid hls
      clear hsg hat hll hlen hnk hka hls
      clear HN HN1 HB HX1 HAT7 HM7 HAT6 HM6 HM5 HM4 HM3 hmz HZ
      cases b3 with
      | true =>
        have HE := Lib.hid (show LL = .ok (ns, ks, r1) by rw [← HLK.out, listL_end HSG.out])
        go_wp2_with (first
          | refine wpList_get_box (x := .tmp 3) HLS.out.m.tree rfl rfl rfl hu rfl jT_size3 ?_
          | (refine wpList_put_box (x := .tmp 2) (cells := jvCells (treeV m A1 ns.length c1 A2 ks.length c2)) HLS.out.m.res rfl rfl rfl rfl jT_size3 rfl (jvCells_one _) ?_; intro w9 hb9 hw9))
        have HM9 := Lib.hid (HLS.out.m)
        refine list_leaves _ w.heap.size (treeV m A1 ns.length c1 A2 ks.length c2) rfl s r a3 D 0 hD0 (by omega) HM9.out.low w9 (hw9.blk HM9.out.box (by omega)) hb9 (hw9.blk HM9.out.rd (by have := HM9.out.low; omega)) fun u' hrd hw => ?_
        have hE : lpOf (d + 1) X = .ok (.mk (kindV m) 0 [] ns ks, r1) := by rw [← HLR.out, HLL.out, HE.out]; rfl
        refine ⟨_, rfl, a3, by have := HAT.out.top; have := HA.out; have := HS.out; omega, by rw [hE]; exact hrd, (HM9.out.rg.wrote_new hw9 (by omega)).trans (RG.wrote hw), fun j q hq => ?_⟩
        rw [hE] at hq
        injection hq with hq
        injection hq with h1 h2
        subst h1 h2
        refine ⟨HAT.out, ?_⟩
        have hlow := HM9.out.low
        exact (((HLS.out.rep).heap fun b hb1 hb => hw9.grown.block b hb1 (by intro h; injection h with h; omega)).heap fun b hb1 hb => hw.grown.block b hb1 (by intro h; injection h with h; omega)).imp fun b _ hb => by omega
      | false =>
        have HE := Lib.hid (show moreK (valueP d) m gk ks (kidK (valueP d) (nameK m ns (commaP ks.isEmpty r1))) = LL by rw [← HLK.out, listL_more HSG.out])
        have HA3 := Lib.hid (show a3 ≤ s.size by have := HAT.out.top; have := HA.out; omega)
        have hks : (ks.length : Int) ≤ 1000000 := by have := HKA.out; have := HA3.out; have := HS.out; omega
        have HKS := Lib.hid hks
        have HRE := Lib.hid (show s.data.toList.drop a3 = r1 from HAT.out.rest)
        have b0 : wr.cell? ⟨w.heap.size, 0, none⟩ = some (.pointer (some ⟨r, 0, none⟩)) := HLS.out.m.box.cell 0
        have b4 : wr.cell? ⟨w.heap.size + 2, 4, none⟩ = some (.slice A2 ks.length c2) := HLS.out.m.tree.cell 4
        have CM := Lib.hid (must_all 44 (by decide) s HS.out r a3 (D + 1) wr HLS.out.m.rd (by have := HA3.out; have := HS.out; omega))
        clear HLK HSG
        obtain ⟨kl, hkl⟩ : ∃ kl, kl = ks.length := ⟨_, rfl⟩
        rw [← hkl] at b4 hks
        have HKL := Lib.hid hkl
        clear hkl
        go_upto_if 48 with (fail)
        go_cut [] from 40 to 75 (fun wx => ∃ (a4 : Nat) (e4 : Int), (a4 : Int) ≤ 1500000 ∧ Ls w w.heap.size r s (D + 1) (treeV m A1 ns.length c1 A2 ks.length c2) A1 c1 ns A2 c2 ks wx a4 e4 ∧ e4 = errE (commaP ks.isEmpty r1) ∧ ∀ r2, commaP ks.isEmpty r1 = .ok r2 → At s a3 a4 r2)
        case first =>
          by_cases hk0 : kl = 0
          · subst hk0
            have HK0 := Lib.hid (show ks.isEmpty = true by have := HKL.out; rw [List.isEmpty_iff]; exact List.eq_nil_of_length_eq_zero this.symm)
            go_wp2_with fail
            go_meet
            rw [HK0.out]
            refine ⟨a3, 0, by have := HA3.out; have := HS.out; omega, HLS.out, rfl, fun r2 h => ?_⟩
            injection h with h
            subst h
            exact ⟨Nat.le_refl _, .inl (Nat.le_refl _), HRE.out⟩
          · have hk1 : (0 : Int) < (kl : Int) := by omega
            have HK0 := Lib.hid (show ks.isEmpty = false by
              have := HKL.out
              cases ks with
              | nil => exact absurd this hk0
              | cons x l => rfl)
            clear hk0
            go_wp2_with fail
            refine calls_then CM.out ?_
            rintro y w8 ⟨rfl, a4, ha4, hrd, hrg, hat⟩
            have HLS8 := Lib.hid (HLS.out.step hrg hrd)
            rw [HRE.out] at hat HLS8
            have HAT8 := Lib.hid hat
            have HA8 := Lib.hid ha4
            clear hat hrd hrg ha4
            go_wp2_with fail
            go_meet
            rw [HK0.out]
            exact ⟨a4, _, HA8.out, HLS8.out, rfl, HAT8.out⟩
        case rest =>
        obtain ⟨a4, e4, ha4, hls4, he4, hat4⟩ := hcut
        have HA4 := Lib.hid ha4
        have HLS4 := Lib.hid hls4
        have HE4 := Lib.hid he4
        have HAT4 := Lib.hid hat4
        have HLOW := Lib.hid hls4.m.low
        clear ha4 hls4 he4 hat4 CM b0 b4
        have k0 : wc.cell? ⟨w.heap.size + 2, 0, none⟩ = some (.int .i64 (kindV m)) := HLS4.out.m.tree.cell 0
        go_upto_if 53 with (fail)
        go_cut [] from 40 to 75 (fun wx => ∃ (ns' : List Bs) (A1' : Option Addr) (c1' a5 : Nat) (e5 : Int), (a5 : Int) ≤ 1500000 ∧ Ls w w.heap.size r s (D + 1) (treeV m A1' ns'.length c1' A2 ks.length c2) A1' c1' ns' A2 c2 ks wx a5 e5 ∧
          e5 = errE (nameK m ns (commaP ks.isEmpty r1)) ∧ ns'.length ≤ ks.length + 1 ∧ ∀ x r3, nameK m ns (commaP ks.isEmpty r1) = .ok (x, r3) → x = ns' ∧ At s a3 a5 r3)
        case first =>
          cases m with
          | false =>
            go_wp2_with fail
            go_meet
            refine ⟨ns, A1, c1, a4, e4, HA4.out, HLS4.out, ?_, by have := HNK.out; omega, fun x r3 h => ?_⟩
            · rw [HE4.out]
              cases commaP ks.isEmpty r1 <;> rfl
            · cases hc : commaP ks.isEmpty r1 with
              | error e => rw [hc] at h; cases h
              | ok r2 =>
                rw [hc] at h
                injection h with h
                injection h with h1 h2
                subst h1 h2
                exact ⟨rfl, HAT4.out _ hc⟩
          | true =>
            have CN := Lib.hid (fun (u : World) (h : Ls w w.heap.size r s (D + 1) (treeV true A1 ns.length c1 A2 ks.length c2) A1 c1 ns A2 c2 ks u a4 e4) =>
              show Calls Try.prog 62 #[.pointer (some ⟨r, 0, none⟩), .slice A1 ns.length c1] u fun x w' => ∃ (t : Bs) (a5 : Nat) (e5 : Int), x = .returned (.string (bs t)) ∧ NmQ s a4 e4 ns t a5 e5 ∧
                Ls w w.heap.size r s (D + 1) (treeV true A1 ns.length c1 A2 ks.length c2) A1 c1 ns A2 c2 ks w' a5 e5 ∧ RG r u w' from by
                refine (name_all ns A1 c1 (w.heap.size + 3) s HS.out r a4 (D + 1) e4 u h.m.rd HA4.out (fun h0 => ?_) (by have := HLOW.out; omega) h.names.x (by have := HNK.out; have := HKS.out; omega)).mono ?_
                · cases hc : commaP ks.isEmpty r1 with
                  | error e => exact absurd (by rw [← h0, HE4.out, hc]; rfl) (commaP_err hc)
                  | ok r2 => have := (HAT4.out r2 hc).top; have := HA3.out; omega
                · rintro x w' ⟨t, rfl, a5, ha5, hrd, hrg, hok⟩
                  exact ⟨t, a5, _, rfl, ⟨ha5, rfl, hok⟩, h.step hrg hrd, hrg⟩)
            have hnl : (ns.length : Int) ≤ 1000000 := by have := HNK.out; have := HKS.out; omega
            clear k0
            go_wp2_with fail
            have HI0 : wc.drew.cell? ⟨w.heap.size, 0, none⟩ = some (.pointer (some ⟨r, 0, none⟩)) ∧ wc.drew.cell? ⟨w.heap.size + 2, 3, none⟩ = some (.slice A1 ns.length c1) := ⟨HLS4.out.m.box.cell 0, HLS4.out.m.tree.cell 3⟩
            have HJ0 : Ls w w.heap.size r s (D + 1) (treeV true A1 ns.length c1 A2 ks.length c2) A1 c1 ns A2 c2 ks wc.drew a4 e4 := HLS4.out.drew
            refine wp_region_list (fun _ => True) (fun | false => (fun u => u.cell? ⟨w.heap.size, 0, none⟩ = some (.pointer (some ⟨r, 0, none⟩)) ∧ u.cell? ⟨w.heap.size + 2, 3, none⟩ = some (.slice A1 ns.length c1)) | true => (fun u => Ls w w.heap.size r s (D + 1) (treeV true A1 ns.length c1 A2 ks.length c2) A1 c1 ns A2 c2 ks u a4 e4)) (fun | false, i => i == 9 | true, i => i == 5 || i == 6 || i == 7 || i == 9)
              [fun z _ => z 0 = .pointer (some ⟨w.heap.size + 2, 3, none⟩),
               fun z _ => z 1 = .slice A1 ns.length c1,
               fun z _ => z 2 = .pointer (some ⟨r, 0, none⟩),
               fun z _ => z 3 = .pointer (some ⟨w.heap.size + 2, 3, none⟩),
               fun z _ => z 4 = .slice A1 ns.length c1,
               fun z u => ∃ (t : Bs) (a5 : Nat) (e5 : Int), z 5 = .string (bs t) ∧ NmQ s a4 e4 ns t a5 e5 ∧ Ls w w.heap.size r s (D + 1) (treeV true A1 ns.length c1 A2 ks.length c2) A1 c1 ns A2 c2 ks u a5 e5,
               fun z u => ∃ (t : Bs) (a5 : Nat) (e5 : Int) (ad : Nat), z 6 = .slice (some ⟨ad, 0, none⟩) 1 1 ∧ Blk u ad 9 #[.string (bs t)] ∧ NmQ s a4 e4 ns t a5 e5 ∧ Ls w w.heap.size r s (D + 1) (treeV true A1 ns.length c1 A2 ks.length c2) A1 c1 ns A2 c2 ks u a5 e5,
               fun z u => ∃ (t : Bs) (a5 : Nat) (e5 : Int) (A' : Option Addr) (c' : Nat), z 7 = .slice A' (ns.length + 1) c' ∧ NmQ s a4 e4 ns t a5 e5 ∧ Ls w w.heap.size r s (D + 1) (treeV true A1 ns.length c1 A2 ks.length c2) A' c' (ns ++ [t]) A2 c2 ks u a5 e5,
               fun z _ => z 8 = .pointer (some ⟨w.heap.size + 2, 3, none⟩),
               fun z u => ∃ (t : Bs) (a5 : Nat) (e5 : Int) (A' : Option Addr) (c' : Nat), NmQ s a4 e4 ns t a5 e5 ∧ Ls w w.heap.size r s (D + 1) (treeV true A' (ns ++ [t]).length c' A2 ks.length c2) A' c' (ns ++ [t]) A2 c2 ks u a5 e5]
              [Eq, Eq, Eq, Eq, Eq, fun u u' => RG r u u', fun u u' => Below u.heap.size u u', fun u u' => ∃ g : Option Nat, u.grownBy u' g ∧ ∀ k, g = some k → w.heap.size + 3 ≤ k, Eq, fun _ _ => True]
              (fun i k => (i == 6 && k == 5) || (i == 7 && k == 5) || (i == 7 && k == 6) || (i == 9 && k == 5) || (i == 9 && k == 6) || (i == 9 && k == 7)) [(0, some 54), (1, some 55), (2, some 56), (3, some 57), (4, some 58), (5, some 59), (6, some 60), (7, some 61), (8, some 62), (9, none)] (by kernel_rfl) (by kernel_rfl) rfl (fun _ => rfl) ?_ ?_ ?_ ?_ ?_ ?_
            · exact (by first | trivial | assumption)
            · intro m; cases m; exact HI0; exact HJ0
            · intro m; cases m
              · exact ⟨.inr (fun _ _ h h0 => h ▸ h0), .inr (fun _ _ h h0 => h ▸ h0), .inr (fun _ _ h h0 => h ▸ h0), .inr (fun _ _ h h0 => h ▸ h0), .inr (fun _ _ h h0 => h ▸ h0), .inr (fun _ _ h h0 => ⟨World.grownBy.cell h h0.1 (by have := HLOW.out; intro e; injection e with e; have e : w.heap.size = r := e; omega), World.grownBy.cell h h0.2 (by have := HLOW.out; intro e; injection e with e; have e : w.heap.size + 2 = r := e; omega)⟩), .inr (fun _ _ h h0 => ⟨(grown_of_below h none).cell h0.1 (by simp), (grown_of_below h none).cell h0.2 (by simp)⟩), .inr (fun _ _ h h0 => by obtain ⟨g, hg, hk⟩ := h; exact ⟨hg.cell h0.1 (by intro e; have : w.heap.size + 3 ≤ w.heap.size := hk _ e.symm; omega), hg.cell h0.2 (by intro e; have : w.heap.size + 3 ≤ w.heap.size + 2 := hk _ e.symm; omega)⟩), .inr (fun _ _ h h0 => h ▸ h0), .inl rfl, trivial⟩
              · exact ⟨.inr (fun _ _ h h0 => h ▸ h0), .inr (fun _ _ h h0 => h ▸ h0), .inr (fun _ _ h h0 => h ▸ h0), .inr (fun _ _ h h0 => h ▸ h0), .inr (fun _ _ h h0 => h ▸ h0), .inl rfl, .inl rfl, .inl rfl, .inr (fun _ _ h h0 => h ▸ h0), .inl rfl, trivial⟩
            · exact ⟨⟨.inl rfl, .inr (.inr (.inl rfl)), .inr (.inr (.inr (fun _ _ _ _ _ h => h))), .inr (.inr (.inr (fun _ _ _ _ _ h => h))), .inr (.inr (.inr (fun _ _ _ _ _ h => h))), .inr (.inr (.inr (fun _ _ _ _ h h0 => by cases h; exact h0))), .inr (.inr (.inr (fun _ _ _ _ h h0 => by cases h; exact h0))), .inr (.inr (.inl rfl)), .inr (.inr (.inl rfl)), .inr (.inr (.inl rfl)), trivial⟩,
                ⟨.inr (.inr (.inr (fun _ _ _ _ _ h => h))), .inl rfl, .inr (.inr (.inr (fun _ _ _ _ _ h => h))), .inr (.inr (.inr (fun _ _ _ _ _ h => h))), .inr (.inr (.inr (fun _ _ _ _ _ h => h))), .inr (.inr (.inr (fun _ _ _ _ h h0 => by cases h; exact h0))), .inr (.inr (.inr (fun _ _ _ _ h h0 => by cases h; exact h0))), .inr (.inr (.inl rfl)), .inr (.inr (.inl rfl)), .inr (.inr (.inl rfl)), trivial⟩,
                ⟨.inr (.inr (.inr (fun _ _ _ _ _ h => h))), .inr (.inr (.inr (fun _ _ _ _ _ h => h))), .inl rfl, .inr (.inr (.inr (fun _ _ _ _ _ h => h))), .inr (.inr (.inr (fun _ _ _ _ _ h => h))), .inr (.inr (.inl rfl)), .inr (.inr (.inl rfl)), .inr (.inr (.inl rfl)), .inr (.inr (.inl rfl)), .inr (.inr (.inl rfl)), trivial⟩,
                ⟨.inr (.inr (.inr (fun _ _ _ _ _ h => h))), .inr (.inr (.inr (fun _ _ _ _ _ h => h))), .inr (.inr (.inr (fun _ _ _ _ _ h => h))), .inl rfl, .inr (.inr (.inl rfl)), .inr (.inr (.inl rfl)), .inr (.inr (.inl rfl)), .inr (.inr (.inl rfl)), .inr (.inr (.inl rfl)), .inr (.inr (.inl rfl)), trivial⟩,
                ⟨.inr (.inr (.inr (fun _ _ _ _ _ h => h))), .inr (.inr (.inr (fun _ _ _ _ _ h => h))), .inr (.inr (.inr (fun _ _ _ _ _ h => h))), .inr (.inr (.inr (fun _ _ _ _ _ h => h))), .inl rfl, .inr (.inr (.inl rfl)), .inr (.inr (.inl rfl)), .inr (.inr (.inl rfl)), .inr (.inr (.inl rfl)), .inr (.inr (.inl rfl)), trivial⟩,
                ⟨.inr (.inr (.inr (fun _ _ _ _ _ h => h))), .inr (.inr (.inr (fun _ _ _ _ _ h => h))), .inr (.inr (.inr (fun _ _ _ _ _ h => h))), .inr (.inr (.inr (fun _ _ _ _ _ h => h))), .inr (.inr (.inr (fun _ _ _ _ _ h => h))), .inl rfl, .inr (.inr (.inl rfl)), .inr (.inr (.inl rfl)), .inr (.inr (.inl rfl)), .inr (.inr (.inl rfl)), trivial⟩,
                ⟨.inr (.inr (.inr (fun _ _ _ _ _ h => h))), .inr (.inr (.inr (fun _ _ _ _ _ h => h))), .inr (.inr (.inr (fun _ _ _ _ _ h => h))), .inr (.inr (.inr (fun _ _ _ _ _ h => h))), .inr (.inr (.inr (fun _ _ _ _ _ h => h))), .inr (.inl rfl), .inl rfl, .inr (.inr (.inl rfl)), .inr (.inr (.inl rfl)), .inr (.inr (.inl rfl)), trivial⟩,
                ⟨.inr (.inr (.inr (fun _ _ _ _ _ h => h))), .inr (.inr (.inr (fun _ _ _ _ _ h => h))), .inr (.inr (.inr (fun _ _ _ _ _ h => h))), .inr (.inr (.inr (fun _ _ _ _ _ h => h))), .inr (.inr (.inr (fun _ _ _ _ _ h => h))), .inr (.inl rfl), .inr (.inl rfl), .inl rfl, .inr (.inr (.inl rfl)), .inr (.inr (.inl rfl)), trivial⟩,
                ⟨.inr (.inr (.inr (fun _ _ _ _ _ h => h))), .inr (.inr (.inr (fun _ _ _ _ _ h => h))), .inr (.inr (.inr (fun _ _ _ _ _ h => h))), .inr (.inr (.inr (fun _ _ _ _ _ h => h))), .inr (.inr (.inr (fun _ _ _ _ _ h => h))), .inr (.inr (.inr (fun _ _ _ _ h h0 => by cases h; exact h0))), .inr (.inr (.inr (fun _ _ _ _ h h0 => by cases h; exact h0))), .inr (.inr (.inr (fun _ _ _ _ h h0 => by cases h; exact h0))), .inl rfl, .inr (.inr (.inl rfl)), trivial⟩,
                ⟨.inr (.inr (.inr (fun _ _ _ _ _ h => h))), .inr (.inr (.inr (fun _ _ _ _ _ h => h))), .inr (.inr (.inr (fun _ _ _ _ _ h => h))), .inr (.inr (.inr (fun _ _ _ _ _ h => h))), .inr (.inr (.inr (fun _ _ _ _ _ h => h))), .inr (.inl rfl), .inr (.inl rfl), .inr (.inl rfl), .inr (.inr (.inr (fun _ _ _ _ _ h => h))), .inl rfl, trivial⟩, trivial⟩
            · refine ⟨?_, ?_, ?_, ?_, ?_, ?_, ?_, ?_, ?_, ?_, trivial⟩
              · -- 0: Op.fieldAddr 25 (Operand.tmp 3) 3
                refine step_plain [] (fun _ => rfl) rfl ?_
                intro w1 vals hC1 hi0 hf E hE
                have hI1 : (fun u => u.cell? ⟨w.heap.size, 0, none⟩ = some (.pointer (some ⟨r, 0, none⟩)) ∧ u.cell? ⟨w.heap.size + 2, 3, none⟩ = some (.slice A1 ns.length c1)) w1 := hi0 false rfl
                try dsimp only at hI1
                clear hi0
                clear hf
                simp only [puts, act_put, act_put_none, List.setIfInBounds_toArray, List.set_cons_zero, List.set_cons_succ] at hE ⊢
                go_wp2
                exact .mk (hE _ _ rfl hC1 rfl)
              · -- 1: Op.load 22 (Operand.tmp 54)
                refine step_plain [(0, some 54)] (fun _ => rfl) rfl ?_
                intro w1 vals hC1 hi0 hf E hE
                have hI1 : (fun u => u.cell? ⟨w.heap.size, 0, none⟩ = some (.pointer (some ⟨r, 0, none⟩)) ∧ u.cell? ⟨w.heap.size + 2, 3, none⟩ = some (.slice A1 ns.length c1)) w1 := hi0 false rfl
                try dsimp only at hI1
                clear hi0
                have f0 : vals 0 = .pointer (some ⟨w.heap.size + 2, 3, none⟩) := hf 0 rfl
                try dsimp only at f0
                clear hf
                obtain ⟨d1, d0⟩ := hI1
                simp only [puts, act_put, act_put_none, List.setIfInBounds_toArray, List.set_cons_zero, List.set_cons_succ, f0] at hE ⊢
                clear f0
                go_wp2
                exact .mk (hE _ _ rfl hC1 rfl)
              · -- 2: Op.load 53 (Operand.tmp 1)
                refine step_plain [] (fun _ => rfl) rfl ?_
                intro w1 vals hC1 hi0 hf E hE
                have hI1 : (fun u => u.cell? ⟨w.heap.size, 0, none⟩ = some (.pointer (some ⟨r, 0, none⟩)) ∧ u.cell? ⟨w.heap.size + 2, 3, none⟩ = some (.slice A1 ns.length c1)) w1 := hi0 false rfl
                try dsimp only at hI1
                have hJ1 : (fun u => Ls w w.heap.size r s (D + 1) (treeV true A1 ns.length c1 A2 ks.length c2) A1 c1 ns A2 c2 ks u a4 e4) w1 := hi0 true rfl
                try dsimp only at hJ1
                clear hi0
                clear hf
                obtain ⟨d1, d0⟩ := hI1
                simp only [puts, act_put, act_put_none, List.setIfInBounds_toArray, List.set_cons_zero, List.set_cons_succ] at hE ⊢
                go_wp2
                exact .mk (hE _ _ rfl hC1 rfl)
              · -- 3: Op.fieldAddr 25 (Operand.tmp 3) 3
                refine step_plain [] (fun _ => rfl) rfl ?_
                intro w1 vals hC1 hi0 hf E hE
                have hI1 : (fun u => u.cell? ⟨w.heap.size, 0, none⟩ = some (.pointer (some ⟨r, 0, none⟩)) ∧ u.cell? ⟨w.heap.size + 2, 3, none⟩ = some (.slice A1 ns.length c1)) w1 := hi0 false rfl
                try dsimp only at hI1
                have hJ1 : (fun u => Ls w w.heap.size r s (D + 1) (treeV true A1 ns.length c1 A2 ks.length c2) A1 c1 ns A2 c2 ks u a4 e4) w1 := hi0 true rfl
                try dsimp only at hJ1
                clear hi0
                clear hf
                simp only [puts, act_put, act_put_none, List.setIfInBounds_toArray, List.set_cons_zero, List.set_cons_succ] at hE ⊢
                go_wp2
                exact .mk (hE _ _ rfl hC1 rfl)
              · -- 4: Op.load 22 (Operand.tmp 57)
                refine step_plain [(3, some 57)] (fun _ => rfl) rfl ?_
                intro w1 vals hC1 hi0 hf E hE
                have hI1 : (fun u => u.cell? ⟨w.heap.size, 0, none⟩ = some (.pointer (some ⟨r, 0, none⟩)) ∧ u.cell? ⟨w.heap.size + 2, 3, none⟩ = some (.slice A1 ns.length c1)) w1 := hi0 false rfl
                try dsimp only at hI1
                have hJ1 : (fun u => Ls w w.heap.size r s (D + 1) (treeV true A1 ns.length c1 A2 ks.length c2) A1 c1 ns A2 c2 ks u a4 e4) w1 := hi0 true rfl
                try dsimp only at hJ1
                clear hi0
                have f3 : vals 3 = .pointer (some ⟨w.heap.size + 2, 3, none⟩) := hf 3 rfl
                try dsimp only at f3
                clear hf
                obtain ⟨d1, d0⟩ := hI1
                simp only [puts, act_put, act_put_none, List.setIfInBounds_toArray, List.set_cons_zero, List.set_cons_succ, f3] at hE ⊢
                clear f3
                go_wp2
                exact .mk (hE _ _ rfl hC1 rfl)
              · -- 5: Op.call { callee := Callee.value (Operand.func 62), args := #[Operand.tmp 56, Operand.tmp 58], argTypes := #[5
                refine step_plain [(2, some 56), (4, some 58)] (fun _ => rfl) rfl ?_
                intro w1 vals hC1 hi0 hf E hE
                have hI1 : (fun u => u.cell? ⟨w.heap.size, 0, none⟩ = some (.pointer (some ⟨r, 0, none⟩)) ∧ u.cell? ⟨w.heap.size + 2, 3, none⟩ = some (.slice A1 ns.length c1)) w1 := hi0 false rfl
                try dsimp only at hI1
                have hJ1 : (fun u => Ls w w.heap.size r s (D + 1) (treeV true A1 ns.length c1 A2 ks.length c2) A1 c1 ns A2 c2 ks u a4 e4) w1 := hi0 true rfl
                try dsimp only at hJ1
                clear hi0
                have f2 : vals 2 = .pointer (some ⟨r, 0, none⟩) := hf 2 rfl
                have f4 : vals 4 = .slice A1 ns.length c1 := hf 4 rfl
                try dsimp only at f2 f4
                clear hf
                have HJ1 := Lib.hid hJ1
                clear hJ1
                simp only [puts, act_put, act_put_none, List.setIfInBounds_toArray, List.set_cons_zero, List.set_cons_succ, f2, f4] at hE ⊢
                clear f2 f4
                go_wp2_with fail
                refine calls_then (CN.out _ HJ1.out) ?_
                rintro y w5 ⟨t, a5, e5, rfl, hq, hl, hg⟩
                have HQ := Lib.hid hq
                have HL := Lib.hid hl
                have HG := Lib.hid hg
                clear hq hl hg
                go_wp2_with fail
                exact .mk (hE _ _ ⟨t, a5, e5, rfl, HQ.out, HL.out⟩ hC1 HG.out)
              · -- 6: Op.buildSlice 22 1 #[(0, Operand.tmp 59)]
                refine step_plain [(5, some 59)] (fun _ => rfl) rfl ?_
                intro w1 vals hC1 hi0 hf E hE
                have hI1 : (fun u => u.cell? ⟨w.heap.size, 0, none⟩ = some (.pointer (some ⟨r, 0, none⟩)) ∧ u.cell? ⟨w.heap.size + 2, 3, none⟩ = some (.slice A1 ns.length c1)) w1 := hi0 false rfl
                try dsimp only at hI1
                clear hi0
                have f5 : (fun z u => ∃ (t : Bs) (a5 : Nat) (e5 : Int), z 5 = .string (bs t) ∧ NmQ s a4 e4 ns t a5 e5 ∧ Ls w w.heap.size r s (D + 1) (treeV true A1 ns.length c1 A2 ks.length c2) A1 c1 ns A2 c2 ks u a5 e5) vals w1 := hf 5 rfl
                try dsimp only at f5
                clear hf
                obtain ⟨t, a5, e5, hx, hq, hl⟩ := f5
                have HQ := Lib.hid hq
                have HL := Lib.hid hl
                clear hq hl
                simp only [puts, act_put, act_put_none, List.setIfInBounds_toArray, List.set_cons_zero, List.set_cons_succ, hx] at hE ⊢
                clear hx
                go_wp2
                exact .mk (hE _ _ ⟨t, a5, e5, _, rfl, Blk.new _ _ _, HQ.out, HL.out.new ((Below.refl _ _).alloc (Nat.le_refl _) _)⟩ hC1 ((Below.refl _ _).alloc (Nat.le_refl _) _))
              · -- 7: Op.call { callee := Callee.builtin Builtin.append, args := #[Operand.tmp 55, Operand.tmp 60], argTypes := #[22
                refine step_plain [(1, some 55), (6, some 60), (5, some 59)] (fun _ => rfl) rfl ?_
                intro w1 vals hC1 hi0 hf E hE
                have hI1 : (fun u => u.cell? ⟨w.heap.size, 0, none⟩ = some (.pointer (some ⟨r, 0, none⟩)) ∧ u.cell? ⟨w.heap.size + 2, 3, none⟩ = some (.slice A1 ns.length c1)) w1 := hi0 false rfl
                try dsimp only at hI1
                clear hi0
                have f1 : vals 1 = .slice A1 ns.length c1 := hf 1 rfl
                have f6 : (fun z u => ∃ (t : Bs) (a5 : Nat) (e5 : Int) (ad : Nat), z 6 = .slice (some ⟨ad, 0, none⟩) 1 1 ∧ Blk u ad 9 #[.string (bs t)] ∧ NmQ s a4 e4 ns t a5 e5 ∧ Ls w w.heap.size r s (D + 1) (treeV true A1 ns.length c1 A2 ks.length c2) A1 c1 ns A2 c2 ks u a5 e5) vals w1 := hf 6 rfl
                try dsimp only at f1 f6
                clear hf
                obtain ⟨t, a5, e5, ad, hx, hk, hq, hl⟩ := f6
                have HQ := Lib.hid hq
                have HL := Lib.hid hl
                have HK := Lib.hid hk
                clear hq hl hk
                simp only [puts, act_put, act_put_none, List.setIfInBounds_toArray, List.set_cons_zero, List.set_cons_succ, f1, hx] at hE ⊢
                clear f1
                clear hx
                go_wp2_with (refine wpList_append_r (news := [.string (bs t)]) (m := 1) sl_strz rfl rfl HL.out.names rfl rfl rfl (Rd.of_blk (l := [.string (bs t)]) HK.out (HK.out.lt)) (by simp [Value.oneCell']) (by unfold maxLen; omega) (by omega) (HL.out.m.size) ?_; intro A' c' w5 ho hg hn)
                exact .mk (hE _ _ ⟨t, a5, e5, A', c', rfl, HQ.out, HL.out.name ho hg hn⟩ hC1 ⟨_, hg, fun k hk => (HL.out.names.lt k hk).1⟩)
              · -- 8: Op.fieldAddr 25 (Operand.tmp 3) 3
                refine step_plain [(0, some 54), (1, some 55), (2, some 56), (3, some 57), (4, some 58), (5, some 59), (6, some 60), (7, some 61)] (fun _ => rfl) rfl ?_
                intro w1 vals hC1 hi0 hf E hE
                have hI1 : (fun u => u.cell? ⟨w.heap.size, 0, none⟩ = some (.pointer (some ⟨r, 0, none⟩)) ∧ u.cell? ⟨w.heap.size + 2, 3, none⟩ = some (.slice A1 ns.length c1)) w1 := hi0 false rfl
                try dsimp only at hI1
                clear hi0
                have f0 : vals 0 = .pointer (some ⟨w.heap.size + 2, 3, none⟩) := hf 0 rfl
                have f1 : vals 1 = .slice A1 ns.length c1 := hf 1 rfl
                have f2 : vals 2 = .pointer (some ⟨r, 0, none⟩) := hf 2 rfl
                have f3 : vals 3 = .pointer (some ⟨w.heap.size + 2, 3, none⟩) := hf 3 rfl
                have f4 : vals 4 = .slice A1 ns.length c1 := hf 4 rfl
                have f7 : (fun z u => ∃ (t : Bs) (a5 : Nat) (e5 : Int) (A' : Option Addr) (c' : Nat), z 7 = .slice A' (ns.length + 1) c' ∧ NmQ s a4 e4 ns t a5 e5 ∧ Ls w w.heap.size r s (D + 1) (treeV true A1 ns.length c1 A2 ks.length c2) A' c' (ns ++ [t]) A2 c2 ks u a5 e5) vals w1 := hf 7 rfl
                try dsimp only at f0 f1 f2 f3 f4 f7
                clear hf
                simp only [puts, act_put, act_put_none, List.setIfInBounds_toArray, List.set_cons_zero, List.set_cons_succ, f0, f1, f2, f3, f4] at hE ⊢
                clear f0 f1 f2 f3 f4
                go_wp2
                exact .mk (hE _ _ rfl hC1 rfl)
              · -- 9: Op.store 22 (Operand.tmp 62) (Operand.tmp 61)
                refine step_plain [(8, some 62), (7, some 61), (7, some 61), (0, some 54), (1, some 55), (2, some 56), (3, some 57), (4, some 58), (5, some 59), (6, some 60), (7, some 61)] (fun _ => rfl) rfl ?_
                intro w1 vals hC1 hi0 hf E hE
                have hI1 : (fun u => u.cell? ⟨w.heap.size, 0, none⟩ = some (.pointer (some ⟨r, 0, none⟩)) ∧ u.cell? ⟨w.heap.size + 2, 3, none⟩ = some (.slice A1 ns.length c1)) w1 := hi0 false rfl
                try dsimp only at hI1
                clear hi0
                have f0 : vals 0 = .pointer (some ⟨w.heap.size + 2, 3, none⟩) := hf 0 rfl
                have f1 : vals 1 = .slice A1 ns.length c1 := hf 1 rfl
                have f2 : vals 2 = .pointer (some ⟨r, 0, none⟩) := hf 2 rfl
                have f3 : vals 3 = .pointer (some ⟨w.heap.size + 2, 3, none⟩) := hf 3 rfl
                have f4 : vals 4 = .slice A1 ns.length c1 := hf 4 rfl
                have f7 : (fun z u => ∃ (t : Bs) (a5 : Nat) (e5 : Int) (A' : Option Addr) (c' : Nat), z 7 = .slice A' (ns.length + 1) c' ∧ NmQ s a4 e4 ns t a5 e5 ∧ Ls w w.heap.size r s (D + 1) (treeV true A1 ns.length c1 A2 ks.length c2) A' c' (ns ++ [t]) A2 c2 ks u a5 e5) vals w1 := hf 7 rfl
                have f8 : vals 8 = .pointer (some ⟨w.heap.size + 2, 3, none⟩) := hf 8 rfl
                try dsimp only at f0 f1 f2 f3 f4 f7 f8
                clear hf
                obtain ⟨t, a5, e5, A', c', hx, hq, hl⟩ := f7
                have HQ := Lib.hid hq
                have HL := Lib.hid hl
                clear hq hl
                simp only [puts, act_put, act_put_none, List.setIfInBounds_toArray, List.set_cons_zero, List.set_cons_succ, f0, f1, f2, f3, f4, f8, hx] at hE ⊢
                clear f0 f1 f2 f3 f4 f8
                clear hx
                go_wp2_with (refine wpList_put_cell (x := .tmp 62) (i := 3) HL.out.m.tree rfl rfl rfl rfl (by kernel_rfl) (by simp [jvCells]) rfl ?_; intro w5 hb5 hw5)
                exact .mk (hE undef _ ⟨t, a5, e5, A', c', HQ.out, HL.out.put hw5 (by rw [List.length_append]; exact hb5)⟩ hC1 trivial)
            intro w1 vals hC1 hf
            have f0 : vals 0 = .pointer (some ⟨w.heap.size + 2, 3, none⟩) := hf 0 (by decide) rfl
            have f1 : vals 1 = .slice A1 ns.length c1 := hf 1 (by decide) rfl
            have f2 : vals 2 = .pointer (some ⟨r, 0, none⟩) := hf 2 (by decide) rfl
            have f3 : vals 3 = .pointer (some ⟨w.heap.size + 2, 3, none⟩) := hf 3 (by decide) rfl
            have f4 : vals 4 = .slice A1 ns.length c1 := hf 4 (by decide) rfl
            have f8 : vals 8 = .pointer (some ⟨w.heap.size + 2, 3, none⟩) := hf 8 (by decide) rfl
            have f9 : (fun z u => ∃ (t : Bs) (a5 : Nat) (e5 : Int) (A' : Option Addr) (c' : Nat), NmQ s a4 e4 ns t a5 e5 ∧ Ls w w.heap.size r s (D + 1) (treeV true A' (ns ++ [t]).length c' A2 ks.length c2) A' c' (ns ++ [t]) A2 c2 ks u a5 e5) vals w1 := hf 9 (by decide) rfl
            try dsimp only at f0 f1 f2 f3 f4 f8 f9
            clear hf
            simp only [puts, act_put, act_put_none, List.setIfInBounds_toArray, List.set_cons_zero, List.set_cons_succ, f0, f1, f2, f3, f4, f8]
            clear f0 f1 f2 f3 f4 f8
            generalize vals 5 = x5 at *
            generalize vals 6 = x6 at *
            generalize vals 7 = x7 at *
            obtain ⟨t, a5, e5, A', c', hq, hl⟩ := f9
            have HQ := Lib.hid hq
            have HL9 := Lib.hid hl
            clear hq hl HI0 HJ0 hC1
            go_wp2_with fail
            go_meet
            obtain ⟨h1, h2⟩ := nmq_done HQ.out HE4.out HAT4.out
            exact ⟨ns ++ [t], A', c', a5, e5, HQ.out.1, HL9.out, h1, by have := HNK.out; rw [List.length_append]; simp; omega, h2⟩
        case rest =>
        obtain ⟨ns', A1', c1', a5, e5, ha5, hls5, he5, hnl5, hat5⟩ := hcut
        have HA5 := Lib.hid ha5
        have HLS5 := Lib.hid hls5
        have HE5 := Lib.hid he5
        have HAT5 := Lib.hid hat5
        have HNL5 := Lib.hid hnl5
        clear ha5 hls5 he5 hat5 hnl5 k0 HLS4 HLS
        obtain ⟨E4, hE4⟩ : ∃ E, E = kidK (valueP d) (nameK m ns (commaP ks.isEmpty r1)) := ⟨_, rfl⟩
        have HE4' := Lib.hid hE4
        rw [← hE4] at HE
        clear hE4
        have CV := Lib.hid (fun (u : World) (h : Ls w w.heap.size r s (D + 1) (treeV m A1' ns'.length c1' A2 ks.length c2) A1' c1' ns' A2 c2 ks u a5 e5) =>
          show Calls Try.prog 21 #[.pointer (some ⟨r, 0, none⟩)] u fun x w' => ∃ (v : JV) (a6 : Nat) (e6 : Int), x = .returned (.agg (jvCells v)) ∧ VlQ s a3 E4 ns' a6 e6 ∧
            Ls w w.heap.size r s (D + 1) (treeV m A1' ns'.length c1' A2 ks.length c2) A1' c1' ns' A2 c2 ks w' a6 e6 ∧ (∀ x k r4, E4 = .ok (x, k, r4) → JRep w' (KS w.heap.size (.slice A1' ns'.length c1') (.slice A2 ks.length c2)) k v) ∧ RG r u w' from by
            have hz : e5 = 0 → a5 ≤ s.size := fun h0 => by
              cases hc : nameK m ns (commaP ks.isEmpty r1) with
              | error e => exact absurd (by rw [← h0, HE5.out, hc]; rfl) (nameK_err hc)
              | ok x => have := (HAT5.out x.1 x.2 hc).2.top; have := HA3.out; omega
            refine (value_all d HV.out s HS.out r a5 (D + 1) e5 (by have := HDD.out; omega) (by omega) u h.m.rd HA5.out hz).mono ?_
            rintro x w' ⟨v, rfl, a6, ha6, hrd, hrg, hok⟩
            obtain ⟨h1, h2⟩ := vlq_of (ns' := ns') (P := fun j => JRep w' (fun b => u.heap.size ≤ b) j v) (fun e he => nameK_err he) HE5.out HAT5.out ha6 hok
            rw [HE4'.out]
            exact ⟨v, a6, _, rfl, h1, h.step hrg hrd, fun x k r4 hx => h.fresh (h2 x k r4 hx), hrg⟩)
        have hnk : (ks.length : Int) ≤ 1000000 := HKS.out
        go_wp2_with fail
        have HI0 : wc.drew.cell? ⟨w.heap.size, 0, none⟩ = some (.pointer (some ⟨r, 0, none⟩)) ∧ wc.drew.cell? ⟨w.heap.size + 2, 4, none⟩ = some (.slice A2 ks.length c2) := ⟨HLS5.out.m.box.cell 0, HLS5.out.m.tree.cell 4⟩
        have HJ0 : Ls w w.heap.size r s (D + 1) (treeV m A1' ns'.length c1' A2 ks.length c2) A1' c1' ns' A2 c2 ks wc.drew a5 e5 := HLS5.out.drew
        refine wp_region_list (fun _ => True) (fun | false => (fun u => u.cell? ⟨w.heap.size, 0, none⟩ = some (.pointer (some ⟨r, 0, none⟩)) ∧ u.cell? ⟨w.heap.size + 2, 4, none⟩ = some (.slice A2 ks.length c2)) | true => (fun u => Ls w w.heap.size r s (D + 1) (treeV m A1' ns'.length c1' A2 ks.length c2) A1' c1' ns' A2 c2 ks u a5 e5)) (fun | false, i => i == 7 | true, i => i == 3 || i == 4 || i == 5 || i == 7)
          [fun z _ => z 0 = .pointer (some ⟨w.heap.size + 2, 4, none⟩),
           fun z _ => z 1 = .slice A2 ks.length c2,
           fun z _ => z 2 = .pointer (some ⟨r, 0, none⟩),
           fun z u => ∃ (v : JV) (a6 : Nat) (e6 : Int), z 3 = .agg (jvCells v) ∧ VlQ s a3 E4 ns' a6 e6 ∧ Ls w w.heap.size r s (D + 1) (treeV m A1' ns'.length c1' A2 ks.length c2) A1' c1' ns' A2 c2 ks u a6 e6 ∧ (∀ x k r4, E4 = .ok (x, k, r4) → JRep u (KS w.heap.size (.slice A1' ns'.length c1') (.slice A2 ks.length c2)) k v),
           fun z u => ∃ (v : JV) (a6 : Nat) (e6 : Int) (ad : Nat), z 4 = .slice (some ⟨ad, 0, none⟩) 1 1 ∧ Blk u ad 25 (jvCells v) ∧ VlQ s a3 E4 ns' a6 e6 ∧ Ls w w.heap.size r s (D + 1) (treeV m A1' ns'.length c1' A2 ks.length c2) A1' c1' ns' A2 c2 ks u a6 e6 ∧ (∀ x k r4, E4 = .ok (x, k, r4) → JRep u (KS w.heap.size (.slice A1' ns'.length c1') (.slice A2 ks.length c2)) k v),
           fun z u => ∃ (a6 : Nat) (e6 : Int) (A' : Option Addr) (c' : Nat), z 5 = .slice A' (ks.length + 1) c' ∧ VlQ s a3 E4 ns' a6 e6 ∧ LsM w w.heap.size r s (D + 1) (treeV m A1' ns'.length c1' A2 ks.length c2) u a6 e6 ∧ (∀ x k r4, E4 = .ok (x, k, r4) → Ls w w.heap.size r s (D + 1) (treeV m A1' ns'.length c1' A2 ks.length c2) A1' c1' ns' A' c' (ks ++ [k]) u a6 e6),
           fun z _ => z 6 = .pointer (some ⟨w.heap.size + 2, 4, none⟩),
           fun z u => ∃ (a6 : Nat) (e6 : Int) (A' : Option Addr) (c' : Nat), VlQ s a3 E4 ns' a6 e6 ∧ LsM w w.heap.size r s (D + 1) (treeV m A1' ns'.length c1' A' (ks.length + 1) c') u a6 e6 ∧ (∀ x k r4, E4 = .ok (x, k, r4) → Ls w w.heap.size r s (D + 1) (treeV m A1' ns'.length c1' A' (ks ++ [k]).length c') A1' c1' ns' A' c' (ks ++ [k]) u a6 e6)]
          [Eq, Eq, Eq, fun u u' => RG r u u', fun u u' => Below u.heap.size u u', fun u u' => ∃ g : Option Nat, u.grownBy u' g ∧ ∀ k, g = some k → w.heap.size + 3 ≤ k, Eq, fun _ _ => True]
          (fun i k => (i == 4 && k == 3) || (i == 5 && k == 3) || (i == 5 && k == 4) || (i == 7 && k == 3) || (i == 7 && k == 4) || (i == 7 && k == 5)) [(0, some 63), (1, some 64), (2, some 65), (3, some 66), (4, some 67), (5, some 68), (6, some 69), (7, none)] (by kernel_rfl) (by kernel_rfl) rfl (fun _ => rfl) ?_ ?_ ?_ ?_ ?_ ?_
        · exact (by first | trivial | assumption)
        · intro m; cases m; exact HI0; exact HJ0
        · intro m; cases m
          · exact ⟨.inr (fun _ _ h h0 => h ▸ h0), .inr (fun _ _ h h0 => h ▸ h0), .inr (fun _ _ h h0 => h ▸ h0), .inr (fun _ _ h h0 => ⟨World.grownBy.cell h h0.1 (by have := HLOW.out; intro e; injection e with e; have e : w.heap.size = r := e; omega), World.grownBy.cell h h0.2 (by have := HLOW.out; intro e; injection e with e; have e : w.heap.size + 2 = r := e; omega)⟩), .inr (fun _ _ h h0 => ⟨(grown_of_below h none).cell h0.1 (by simp), (grown_of_below h none).cell h0.2 (by simp)⟩), .inr (fun _ _ h h0 => by obtain ⟨g, hg, hk⟩ := h; exact ⟨hg.cell h0.1 (by intro e; have : w.heap.size + 3 ≤ w.heap.size := hk _ e.symm; omega), hg.cell h0.2 (by intro e; have : w.heap.size + 3 ≤ w.heap.size + 2 := hk _ e.symm; omega)⟩), .inr (fun _ _ h h0 => h ▸ h0), .inl rfl, trivial⟩
          · exact ⟨.inr (fun _ _ h h0 => h ▸ h0), .inr (fun _ _ h h0 => h ▸ h0), .inr (fun _ _ h h0 => h ▸ h0), .inl rfl, .inl rfl, .inl rfl, .inr (fun _ _ h h0 => h ▸ h0), .inl rfl, trivial⟩
        · exact ⟨⟨.inl rfl, .inr (.inr (.inl rfl)), .inr (.inr (.inr (fun _ _ _ _ _ h => h))), .inr (.inr (.inr (fun _ _ _ _ h h0 => by cases h; exact h0))), .inr (.inr (.inr (fun _ _ _ _ h h0 => by cases h; exact h0))), .inr (.inr (.inl rfl)), .inr (.inr (.inl rfl)), .inr (.inr (.inl rfl)), trivial⟩,
            ⟨.inr (.inr (.inr (fun _ _ _ _ _ h => h))), .inl rfl, .inr (.inr (.inr (fun _ _ _ _ _ h => h))), .inr (.inr (.inr (fun _ _ _ _ h h0 => by cases h; exact h0))), .inr (.inr (.inr (fun _ _ _ _ h h0 => by cases h; exact h0))), .inr (.inr (.inl rfl)), .inr (.inr (.inl rfl)), .inr (.inr (.inl rfl)), trivial⟩,
            ⟨.inr (.inr (.inr (fun _ _ _ _ _ h => h))), .inr (.inr (.inr (fun _ _ _ _ _ h => h))), .inl rfl, .inr (.inr (.inl rfl)), .inr (.inr (.inl rfl)), .inr (.inr (.inl rfl)), .inr (.inr (.inl rfl)), .inr (.inr (.inl rfl)), trivial⟩,
            ⟨.inr (.inr (.inr (fun _ _ _ _ _ h => h))), .inr (.inr (.inr (fun _ _ _ _ _ h => h))), .inr (.inr (.inr (fun _ _ _ _ _ h => h))), .inl rfl, .inr (.inr (.inl rfl)), .inr (.inr (.inl rfl)), .inr (.inr (.inl rfl)), .inr (.inr (.inl rfl)), trivial⟩,
            ⟨.inr (.inr (.inr (fun _ _ _ _ _ h => h))), .inr (.inr (.inr (fun _ _ _ _ _ h => h))), .inr (.inr (.inr (fun _ _ _ _ _ h => h))), .inr (.inl rfl), .inl rfl, .inr (.inr (.inl rfl)), .inr (.inr (.inl rfl)), .inr (.inr (.inl rfl)), trivial⟩,
            ⟨.inr (.inr (.inr (fun _ _ _ _ _ h => h))), .inr (.inr (.inr (fun _ _ _ _ _ h => h))), .inr (.inr (.inr (fun _ _ _ _ _ h => h))), .inr (.inl rfl), .inr (.inl rfl), .inl rfl, .inr (.inr (.inl rfl)), .inr (.inr (.inl rfl)), trivial⟩,
            ⟨.inr (.inr (.inr (fun _ _ _ _ _ h => h))), .inr (.inr (.inr (fun _ _ _ _ _ h => h))), .inr (.inr (.inr (fun _ _ _ _ _ h => h))), .inr (.inr (.inr (fun _ _ _ _ h h0 => by cases h; exact h0))), .inr (.inr (.inr (fun _ _ _ _ h h0 => by cases h; exact h0))), .inr (.inr (.inr (fun _ _ _ _ h h0 => by cases h; exact h0))), .inl rfl, .inr (.inr (.inl rfl)), trivial⟩,
            ⟨.inr (.inr (.inr (fun _ _ _ _ _ h => h))), .inr (.inr (.inr (fun _ _ _ _ _ h => h))), .inr (.inr (.inr (fun _ _ _ _ _ h => h))), .inr (.inl rfl), .inr (.inl rfl), .inr (.inl rfl), .inr (.inr (.inr (fun _ _ _ _ _ h => h))), .inl rfl, trivial⟩, trivial⟩
        · refine ⟨?_, ?_, ?_, ?_, ?_, ?_, ?_, ?_, trivial⟩
          · -- 0: Op.fieldAddr 25 (Operand.tmp 3) 4
            refine step_plain [] (fun _ => rfl) rfl ?_
            intro w1 vals hC1 hi0 hf E hE
            have hI1 : (fun u => u.cell? ⟨w.heap.size, 0, none⟩ = some (.pointer (some ⟨r, 0, none⟩)) ∧ u.cell? ⟨w.heap.size + 2, 4, none⟩ = some (.slice A2 ks.length c2)) w1 := hi0 false rfl
            try dsimp only at hI1
            clear hi0
            clear hf
            simp only [puts, act_put, act_put_none, List.setIfInBounds_toArray, List.set_cons_zero, List.set_cons_succ] at hE ⊢
            go_wp2
            exact .mk (hE _ _ rfl hC1 rfl)
          · -- 1: Op.load 23 (Operand.tmp 63)
            refine step_plain [(0, some 63)] (fun _ => rfl) rfl ?_
            intro w1 vals hC1 hi0 hf E hE
            have hI1 : (fun u => u.cell? ⟨w.heap.size, 0, none⟩ = some (.pointer (some ⟨r, 0, none⟩)) ∧ u.cell? ⟨w.heap.size + 2, 4, none⟩ = some (.slice A2 ks.length c2)) w1 := hi0 false rfl
            try dsimp only at hI1
            clear hi0
            have f0 : vals 0 = .pointer (some ⟨w.heap.size + 2, 4, none⟩) := hf 0 rfl
            try dsimp only at f0
            clear hf
            obtain ⟨d1, d0⟩ := hI1
            simp only [puts, act_put, act_put_none, List.setIfInBounds_toArray, List.set_cons_zero, List.set_cons_succ, f0] at hE ⊢
            clear f0
            go_wp2
            exact .mk (hE _ _ rfl hC1 rfl)
          · -- 2: Op.load 53 (Operand.tmp 1)
            refine step_plain [] (fun _ => rfl) rfl ?_
            intro w1 vals hC1 hi0 hf E hE
            have hI1 : (fun u => u.cell? ⟨w.heap.size, 0, none⟩ = some (.pointer (some ⟨r, 0, none⟩)) ∧ u.cell? ⟨w.heap.size + 2, 4, none⟩ = some (.slice A2 ks.length c2)) w1 := hi0 false rfl
            try dsimp only at hI1
            have hJ1 : (fun u => Ls w w.heap.size r s (D + 1) (treeV m A1' ns'.length c1' A2 ks.length c2) A1' c1' ns' A2 c2 ks u a5 e5) w1 := hi0 true rfl
            try dsimp only at hJ1
            clear hi0
            clear hf
            obtain ⟨d1, d0⟩ := hI1
            simp only [puts, act_put, act_put_none, List.setIfInBounds_toArray, List.set_cons_zero, List.set_cons_succ] at hE ⊢
            go_wp2
            exact .mk (hE _ _ rfl hC1 rfl)
          · -- 3: Op.call { callee := Callee.value (Operand.func 21), args := #[Operand.tmp 65], argTypes := #[53] }
            refine step_plain [(2, some 65)] (fun _ => rfl) rfl ?_
            intro w1 vals hC1 hi0 hf E hE
            have hI1 : (fun u => u.cell? ⟨w.heap.size, 0, none⟩ = some (.pointer (some ⟨r, 0, none⟩)) ∧ u.cell? ⟨w.heap.size + 2, 4, none⟩ = some (.slice A2 ks.length c2)) w1 := hi0 false rfl
            try dsimp only at hI1
            have hJ1 : (fun u => Ls w w.heap.size r s (D + 1) (treeV m A1' ns'.length c1' A2 ks.length c2) A1' c1' ns' A2 c2 ks u a5 e5) w1 := hi0 true rfl
            try dsimp only at hJ1
            clear hi0
            have f2 : vals 2 = .pointer (some ⟨r, 0, none⟩) := hf 2 rfl
            try dsimp only at f2
            clear hf
            have HJ1 := Lib.hid hJ1
            clear hJ1
            simp only [puts, act_put, act_put_none, List.setIfInBounds_toArray, List.set_cons_zero, List.set_cons_succ, f2] at hE ⊢
            clear f2
            go_wp2_with fail
            refine calls_then (CV.out _ HJ1.out) ?_
            rintro y w5 ⟨v, a6, e6, rfl, hq, hl, hj, hg⟩
            have HQ := Lib.hid hq
            have HL := Lib.hid hl
            have HJ := Lib.hid hj
            have HG := Lib.hid hg
            clear hq hl hg hj
            go_wp2_with fail
            exact .mk (hE _ _ ⟨v, a6, e6, rfl, HQ.out, HL.out, HJ.out⟩ hC1 HG.out)
          · -- 4: Op.buildSlice 23 1 #[(0, Operand.tmp 66)]
            refine step_plain [(3, some 66)] (fun _ => rfl) rfl ?_
            intro w1 vals hC1 hi0 hf E hE
            have hI1 : (fun u => u.cell? ⟨w.heap.size, 0, none⟩ = some (.pointer (some ⟨r, 0, none⟩)) ∧ u.cell? ⟨w.heap.size + 2, 4, none⟩ = some (.slice A2 ks.length c2)) w1 := hi0 false rfl
            try dsimp only at hI1
            clear hi0
            have f3 : (fun z u => ∃ (v : JV) (a6 : Nat) (e6 : Int), z 3 = .agg (jvCells v) ∧ VlQ s a3 E4 ns' a6 e6 ∧ Ls w w.heap.size r s (D + 1) (treeV m A1' ns'.length c1' A2 ks.length c2) A1' c1' ns' A2 c2 ks u a6 e6 ∧ (∀ x k r4, E4 = .ok (x, k, r4) → JRep u (KS w.heap.size (.slice A1' ns'.length c1') (.slice A2 ks.length c2)) k v)) vals w1 := hf 3 rfl
            try dsimp only at f3
            clear hf
            obtain ⟨v, a6, e6, hx, hq, hl, hj⟩ := f3
            have HQ := Lib.hid hq
            have HL := Lib.hid hl
            have HJ := Lib.hid hj
            clear hq hl hj
            simp only [puts, act_put, act_put_none, List.setIfInBounds_toArray, List.set_cons_zero, List.set_cons_succ, hx] at hE ⊢
            clear hx
            unfold jvCells
            go_wp2
            exact .mk (hE _ _ ⟨v, a6, e6, _, rfl, Blk.new _ _ _, HQ.out, HL.out.new ((Below.refl _ _).alloc (Nat.le_refl _) _), fun x k r4 h => (HJ.out x k r4 h).heap fun b hb _ => Below.heap_alloc _ _ _ hb⟩ hC1 ((Below.refl _ _).alloc (Nat.le_refl _) _))
          · -- 5: Op.call { callee := Callee.builtin Builtin.append, args := #[Operand.tmp 64, Operand.tmp 67], argTypes := #[23
            refine step_plain [(1, some 64), (4, some 67), (3, some 66)] (fun _ => rfl) rfl ?_
            intro w1 vals hC1 hi0 hf E hE
            have hI1 : (fun u => u.cell? ⟨w.heap.size, 0, none⟩ = some (.pointer (some ⟨r, 0, none⟩)) ∧ u.cell? ⟨w.heap.size + 2, 4, none⟩ = some (.slice A2 ks.length c2)) w1 := hi0 false rfl
            try dsimp only at hI1
            clear hi0
            have f1 : vals 1 = .slice A2 ks.length c2 := hf 1 rfl
            have f4 : (fun z u => ∃ (v : JV) (a6 : Nat) (e6 : Int) (ad : Nat), z 4 = .slice (some ⟨ad, 0, none⟩) 1 1 ∧ Blk u ad 25 (jvCells v) ∧ VlQ s a3 E4 ns' a6 e6 ∧ Ls w w.heap.size r s (D + 1) (treeV m A1' ns'.length c1' A2 ks.length c2) A1' c1' ns' A2 c2 ks u a6 e6 ∧ (∀ x k r4, E4 = .ok (x, k, r4) → JRep u (KS w.heap.size (.slice A1' ns'.length c1') (.slice A2 ks.length c2)) k v)) vals w1 := hf 4 rfl
            try dsimp only at f1 f4
            clear hf
            obtain ⟨v, a6, e6, ad, hx, hk, hq, hl, hj⟩ := f4
            have HQ := Lib.hid hq
            have HL := Lib.hid hl
            have HK := Lib.hid hk
            have HJ := Lib.hid hj
            obtain ⟨kv, hv1, hv2, hv3⟩ := HL.out.kids
            have HO := Lib.hid hv2
            have HV1 := Lib.hid hv1
            have HV3 := Lib.hid hv3
            clear hq hl hk hj hv1 hv2 hv3
            simp only [puts, act_put, act_put_none, List.setIfInBounds_toArray, List.set_cons_zero, List.set_cons_succ, f1, hx] at hE ⊢
            clear f1
            clear hx
            go_wp2_with (refine wpList_append_r (news := (jvCells v).toList) (m := 1) sl_jsons rfl rfl HO.out rfl rfl rfl (Rd.of_blk (l := (jvCells v).toList) HK.out (HK.out.lt)) (by simp [jvCells, Value.oneCell']) (by unfold maxLen; omega) (by omega) (HL.out.m.size) ?_; intro A' c' w5 ho hg hn)
            exact .mk (hE _ _ ⟨a6, e6, A', c', rfl, HQ.out, HL.out.m.grown hg (fun k hk => (HO.out.lt k hk).1), fun x k r4 h => HL.out.kid (HJ.out x k r4 h) HV1.out HO.out HV3.out ho hg hn⟩ hC1 ⟨_, hg, fun k hk => (HO.out.lt k hk).1⟩)
          · -- 6: Op.fieldAddr 25 (Operand.tmp 3) 4
            refine step_plain [(0, some 63), (1, some 64), (2, some 65), (3, some 66), (4, some 67), (5, some 68)] (fun _ => rfl) rfl ?_
            intro w1 vals hC1 hi0 hf E hE
            have hI1 : (fun u => u.cell? ⟨w.heap.size, 0, none⟩ = some (.pointer (some ⟨r, 0, none⟩)) ∧ u.cell? ⟨w.heap.size + 2, 4, none⟩ = some (.slice A2 ks.length c2)) w1 := hi0 false rfl
            try dsimp only at hI1
            clear hi0
            have f0 : vals 0 = .pointer (some ⟨w.heap.size + 2, 4, none⟩) := hf 0 rfl
            have f1 : vals 1 = .slice A2 ks.length c2 := hf 1 rfl
            have f2 : vals 2 = .pointer (some ⟨r, 0, none⟩) := hf 2 rfl
            have f5 : (fun z u => ∃ (a6 : Nat) (e6 : Int) (A' : Option Addr) (c' : Nat), z 5 = .slice A' (ks.length + 1) c' ∧ VlQ s a3 E4 ns' a6 e6 ∧ LsM w w.heap.size r s (D + 1) (treeV m A1' ns'.length c1' A2 ks.length c2) u a6 e6 ∧ (∀ x k r4, E4 = .ok (x, k, r4) → Ls w w.heap.size r s (D + 1) (treeV m A1' ns'.length c1' A2 ks.length c2) A1' c1' ns' A' c' (ks ++ [k]) u a6 e6)) vals w1 := hf 5 rfl
            try dsimp only at f0 f1 f2 f5
            clear hf
            simp only [puts, act_put, act_put_none, List.setIfInBounds_toArray, List.set_cons_zero, List.set_cons_succ, f0, f1, f2] at hE ⊢
            clear f0 f1 f2
            go_wp2
            exact .mk (hE _ _ rfl hC1 rfl)
          · -- 7: Op.store 23 (Operand.tmp 69) (Operand.tmp 68)
            refine step_plain [(6, some 69), (5, some 68), (5, some 68), (0, some 63), (1, some 64), (2, some 65), (3, some 66), (4, some 67), (5, some 68)] (fun _ => rfl) rfl ?_
            intro w1 vals hC1 hi0 hf E hE
            have hI1 : (fun u => u.cell? ⟨w.heap.size, 0, none⟩ = some (.pointer (some ⟨r, 0, none⟩)) ∧ u.cell? ⟨w.heap.size + 2, 4, none⟩ = some (.slice A2 ks.length c2)) w1 := hi0 false rfl
            try dsimp only at hI1
            clear hi0
            have f0 : vals 0 = .pointer (some ⟨w.heap.size + 2, 4, none⟩) := hf 0 rfl
            have f1 : vals 1 = .slice A2 ks.length c2 := hf 1 rfl
            have f2 : vals 2 = .pointer (some ⟨r, 0, none⟩) := hf 2 rfl
            have f5 : (fun z u => ∃ (a6 : Nat) (e6 : Int) (A' : Option Addr) (c' : Nat), z 5 = .slice A' (ks.length + 1) c' ∧ VlQ s a3 E4 ns' a6 e6 ∧ LsM w w.heap.size r s (D + 1) (treeV m A1' ns'.length c1' A2 ks.length c2) u a6 e6 ∧ (∀ x k r4, E4 = .ok (x, k, r4) → Ls w w.heap.size r s (D + 1) (treeV m A1' ns'.length c1' A2 ks.length c2) A1' c1' ns' A' c' (ks ++ [k]) u a6 e6)) vals w1 := hf 5 rfl
            have f6 : vals 6 = .pointer (some ⟨w.heap.size + 2, 4, none⟩) := hf 6 rfl
            try dsimp only at f0 f1 f2 f5 f6
            clear hf
            obtain ⟨a6, e6, A', c', hx, hq, hm, hl⟩ := f5
            have HQ := Lib.hid hq
            have HL := Lib.hid hl
            have HM7 := Lib.hid hm
            clear hq hl hm
            simp only [puts, act_put, act_put_none, List.setIfInBounds_toArray, List.set_cons_zero, List.set_cons_succ, f0, f1, f2, f6, hx] at hE ⊢
            clear f0 f1 f2 f6
            clear hx
            go_wp2_with (refine wpList_put_cell (x := .tmp 69) (i := 4) HM7.out.tree rfl rfl rfl rfl (by kernel_rfl) (by simp [jvCells]) rfl ?_; intro w5 hb5 hw5)
            exact .mk (hE undef _ ⟨a6, e6, A', c', HQ.out, HM7.out.put hw5 hb5, fun x k r4 h => (HL.out x k r4 h).put hw5 (by rw [List.length_append]; exact hb5)⟩ hC1 trivial)
        intro w1 vals hC1 hf
        have f0 : vals 0 = .pointer (some ⟨w.heap.size + 2, 4, none⟩) := hf 0 (by decide) rfl
        have f1 : vals 1 = .slice A2 ks.length c2 := hf 1 (by decide) rfl
        have f2 : vals 2 = .pointer (some ⟨r, 0, none⟩) := hf 2 (by decide) rfl
        have f6 : vals 6 = .pointer (some ⟨w.heap.size + 2, 4, none⟩) := hf 6 (by decide) rfl
        have f7 : (fun z u => ∃ (a6 : Nat) (e6 : Int) (A' : Option Addr) (c' : Nat), VlQ s a3 E4 ns' a6 e6 ∧ LsM w w.heap.size r s (D + 1) (treeV m A1' ns'.length c1' A' (ks.length + 1) c') u a6 e6 ∧ (∀ x k r4, E4 = .ok (x, k, r4) → Ls w w.heap.size r s (D + 1) (treeV m A1' ns'.length c1' A' (ks ++ [k]).length c') A1' c1' ns' A' c' (ks ++ [k]) u a6 e6)) vals w1 := hf 7 (by decide) rfl
        try dsimp only at f0 f1 f2 f6 f7
        clear hf
        simp only [puts, act_put, act_put_none, List.setIfInBounds_toArray, List.set_cons_zero, List.set_cons_succ, f0, f1, f2, f6]
        clear f0 f1 f2 f6
        generalize vals 3 = x3 at *
        generalize vals 4 = x4 at *
        generalize vals 5 = x5 at *
        obtain ⟨a6, e6, A', c', hq, hm, hl⟩ := f7
        have HQ := Lib.hid hq
        have HM8 := Lib.hid hm
        have HL8 := Lib.hid hl
        clear hq hm hl HI0 HJ0 hC1 CV
        have b1 : w1.cell? ⟨w.heap.size, 0, none⟩ = some (.pointer (some ⟨r, 0, none⟩)) := HM8.out.box.cell 0
        obtain ⟨-, -, -, c3⟩ := HM8.out.rd.cells
        cases E4 with
        | error e =>
          have HE0 := Lib.hid (show e ≠ 0 from kidK_err (fun h => valueP_err d h) HE4'.out.symm)
          have he6 : e6 = e := HQ.out.2.1
          subst he6
          have hne : (e6 != 0) = true := by simpa using HE0.out
          go_wp2_with (first
            | refine wpList_get_box (x := .tmp 3) HM8.out.tree rfl rfl rfl hu rfl jT_size3 ?_
            | (refine wpList_put_box (x := .tmp 2) (cells := jvCells (treeV m A1' ns'.length c1' A' (ks.length + 1) c')) HM8.out.res rfl rfl rfl rfl jT_size3 rfl (jvCells_one _) ?_; intro w9 hb9 hw9))
          have HM9 := Lib.hid (HM8.out)
          refine list_leaves _ w.heap.size (treeV m A1' ns'.length c1' A' (ks.length + 1) c') rfl s r a6 D e6 hD0 (by omega) HM9.out.low w9 (hw9.blk HM9.out.box (by omega)) hb9 (hw9.blk HM9.out.rd (by have := HM9.out.low; omega)) fun u' hrd hw => ?_
          have hE : lpOf (d + 1) X = .error e6 := by rw [← HLR.out, HLL.out, ← HE.out]; rfl
          exact ⟨_, rfl, a6, HQ.out.1, by rw [hE]; exact hrd, (HM9.out.rg.wrote_new hw9 (by omega)).trans (RG.wrote hw), fun j q hq => by rw [hE] at hq; cases hq⟩
        | ok y =>
          obtain ⟨x, k, r4⟩ := y
          have he6 : e6 = 0 := HQ.out.2.1
          subst he6
          obtain ⟨hx1, hat6⟩ := HQ.out.2.2 x k r4 rfl
          subst hx1
          have HAT6 := Lib.hid hat6
          have HLL8 := Lib.hid (HL8.out x k r4 rfl)
          have HLT := Lib.hid (kidK_len HE4'.out.symm)
          have CS := Lib.hid (sign_any (endC m) (by cases m <;> decide) s HS.out r a6 (D + 1) 0 w1 HM8.out.rd (by have := HQ.out.1; omega))
          clear hat6 HQ HM8 HL8
          go_wp2_with fail
          refine calls_then CS.out ?_
          rintro y w9 ⟨rfl, a7, hat, hrd, hrg⟩
          have HLS9 := Lib.hid (HLL8.out.step hrg hrd)
          obtain ⟨hp1, hp2⟩ := sign_parts (endC m) (s.data.toList.drop a6)
          rw [hp2] at hat
          rw [hp1]
          rw [HAT6.out.rest] at hat ⊢
          have HAT9 := Lib.hid hat
          obtain ⟨b', hb'⟩ : ∃ b', b' = (signP (endC m) r4).1 := ⟨_, rfl⟩
          rw [← hb']
          have HB' := Lib.hid (show signP (endC m) r4 = (b', (signP (endC m) r4).2) by rw [hb'])
          clear hp1 hp2 hrd hrg hat hb' c3 b1
          go_wp2_with fail
          have hgk : 1 ≤ gk := by have := HLT.out.1; have := HLEN.out; omega
          go_roundg (gk - 1)
          case measure => omega
          case rel =>
            have h1 := HLT.out.1
            have h2 := HLEN.out
            have h3 := signP_len (endC m) r4
            have h4 : a3 < a6 := by
              have e1 := congrArg List.length HAT6.out.rest
              have e2 := congrArg List.length HRE.out
              rw [List.length_drop] at e1 e2
              omega
            refine ⟨x, ks ++ [k], A1', A', c1', c', a7, b', r4, _, rfl, HB'.out, ?_, ?_, by omega, ?_, ?_, HLS9.out⟩
            · exact HAT.out.trans (HAT6.out.trans HAT9.out)
            · rw [Nat.sub_add_cancel hgk, ← HE.out]
              rfl
            · rw [List.length_append]
              have := HNL5.out
              simpa using this
            · rw [List.length_append]
              have := HKA.out
              have := HAT9.out.le
              simp
              omega
end Go.Proofs.Ytcfbnjaelniahaa.Js
/-
  Walks: json's reader: a value.
-/
namespace Go.Proofs.Ytcfbnjaelniahaa.Js
set_option linter.unusedSimpArgs false
set_option linter.unusedVariables false
open Go.RowKit

/-- what a taker does, where a byte of its own stands -/
def TkP (c : UInt8) (f : FuncId) (D : Int) (P : Bs → Except Int (JT × Bs)) : Prop := ∀ (s : ByteArray) (hs : (s.size : Int) ≤ 1000000) (r a : Nat) (w : World) (h : RD w r s a D 0) (ha : a ≤ s.size) (hc : look (s.data.toList.drop a) = c),
  Calls Try.prog f #[.pointer (some ⟨r, 0, none⟩)] w fun x w' => ∃ v : JV, x = .returned (.agg (jvCells v)) ∧ ∃ a' : Nat, (a' : Int) ≤ 1500000 ∧
    RD w' r s a' D (errE (P (s.data.toList.drop a))) ∧ RG r w w' ∧ ∀ j r1, P (s.data.toList.drop a) = .ok (j, r1) → At s a a' r1 ∧ JRep w' (fun b => w.heap.size ≤ b) j v
theorem tk_word {W : Bs} (hW : W.length = 4 ∨ W.length = 5) {v : JV} {s : ByteArray} {a : Nat} {e : Ending} {D : Int} {r : Nat} {w w' : World} {P : Except Int (JT × Bs)} {k n : Int} (hv : v = ⟨k, n, [], none, 0, 0, none, 0, 0⟩) (hs : (s.size : Int) ≤ 1000000) (ha : a ≤ s.size)
    (hP : P = wordR W (s.data.toList.drop a) (.mk k n [] [] []))
    (h : e = .returned (.agg (jvCells (wJ (W.isPrefixOf (s.data.toList.drop a)) v))) ∧ RD w' r s (wA (W.isPrefixOf (s.data.toList.drop a)) a W.length) D (wE (W.isPrefixOf (s.data.toList.drop a))) ∧ RG r w w') :
    ∃ v : JV, e = .returned (.agg (jvCells v)) ∧ ∃ a' : Nat, (a' : Int) ≤ 1500000 ∧ RD w' r s a' D (errE P) ∧ RG r w w' ∧ ∀ j r1, P = .ok (j, r1) → At s a a' r1 ∧ JRep w' (fun b => w.heap.size ≤ b) j v := by
  obtain ⟨h1, h2, h3⟩ := h
  refine ⟨_, h1, wA (W.isPrefixOf (s.data.toList.drop a)) a W.length, ?_, ?_, h3, ?_⟩
  · unfold wA
    split <;> omega
  · rw [hP]
    unfold wordR wordP
    cases hp : W.isPrefixOf (s.data.toList.drop a) <;> rw [hp] at h2 <;> exact h2
  · intro j r1 hj
    rw [hP] at hj
    unfold wordR wordP at hj
    cases hp : W.isPrefixOf (s.data.toList.drop a) with
    | false => rw [hp] at hj; cases hj
    | true =>
      rw [hp] at hj
      injection hj with hj
      injection hj with e1 e2
      subst e1 e2
      have hl := List.IsPrefix.length_le (List.isPrefixOf_iff_prefix.1 hp)
      rw [List.length_drop] at hl
      have h5 : s.data.toList.length = s.size := rfl
      refine ⟨⟨by unfold wA; rw [if_pos rfl]; omega, .inr (by unfold wA; rw [if_pos rfl]; omega), ?_⟩, ?_⟩
      · unfold wA
        rw [if_pos rfl, List.drop_drop]
      · rw [show wJ true v = v from rfl, hv]
        exact JRep.flat _ _ _ _ _
/-- the taker of a byte -/
def pickF (c : UInt8) : FuncId :=
  if c = 110 then 47 else if c = 116 then 49 else if c = 102 then 50 else if c = 34 then 51
  else if c = 91 ∨ c = 123 then 53 else 38
theorem pick_any (c : UInt8) (D : Int) (lp : Bs → Except Int (JT × Bs)) (LH : LRd D lp) : TkP c (pickF c) D (rawP lp) := by
  intro s hs r a w h ha hc
  unfold pickF
  by_cases h1 : c = 110
  · rw [if_pos h1]
    exact (take1_any s hs r a D w h ha).mono fun e w' hq => tk_word (W := [110, 117, 108, 108]) (.inl rfl) (v := nulJ) (k := 0) (n := 0) rfl hs ha (by rw [rawP, if_pos (hc.trans h1)]; rfl) hq
  rw [if_neg h1]
  by_cases h2 : c = 116
  · rw [if_pos h2]
    exact (take2_any s hs r a D w h ha).mono fun e w' hq => tk_word (W := [116, 114, 117, 101]) (.inl rfl) (v := truJ) (k := 1) (n := 1) rfl hs ha (by rw [rawP, if_neg (by rw [hc]; exact h1), if_pos (hc.trans h2)]; rfl) hq
  rw [if_neg h2]
  by_cases h3 : c = 102
  · rw [if_pos h3]
    exact (take3_any s hs r a D w h ha).mono fun e w' hq => tk_word (W := [102, 97, 108, 115, 101]) (.inr rfl) (v := falJ) (k := 1) (n := 0) rfl hs ha (by rw [rawP, if_neg (by rw [hc]; exact h1), if_neg (by rw [hc]; exact h2), if_pos (hc.trans h3)]; rfl) hq
  rw [if_neg h3]
  by_cases h4 : c = 34
  · rw [if_pos h4]
    refine (take4_any s hs r a D w h ha).mono ?_
    rintro e w' ⟨rfl, a', ha', hat, hrd, hrg⟩
    have hP : rawP lp (s.data.toList.drop a) = optR (textP (s.data.toList.drop a)) jtext := by
      rw [rawP, if_neg (by rw [hc]; exact h1), if_neg (by rw [hc]; exact h2), if_neg (by rw [hc]; exact h3), if_pos (hc.trans h4)]
    rw [hP]
    refine ⟨_, rfl, a', by omega, ?_, hrg, ?_⟩
    · cases ht : textP (s.data.toList.drop a) with
      | none => rw [ht] at hrd; exact hrd
      | some p => rw [ht] at hrd; exact hrd
    · intro j r1 hj
      cases ht : textP (s.data.toList.drop a) with
      | none => rw [ht] at hj; cases hj
      | some p =>
        obtain ⟨t, r0⟩ := p
        rw [ht] at hj
        injection hj with hj
        injection hj with e1 e2
        subst e1 e2
        exact ⟨hat _ _ ht, JRep.flat _ _ _ _ _⟩
  rw [if_neg h4]
  by_cases h5 : c = 91 ∨ c = 123
  · rw [if_pos h5]
    have hP : rawP lp (s.data.toList.drop a) = lp (s.data.toList.drop a) := by
      rw [rawP, if_neg (by rw [hc]; exact h1), if_neg (by rw [hc]; exact h2), if_neg (by rw [hc]; exact h3), if_neg (by rw [hc]; exact h4), if_pos (by rw [hc]; exact h5)]
    rw [hP]
    exact LH s hs r a w h (look_lt (by rw [hc]; rcases h5 with rfl | rfl <;> decide))
  rw [if_neg h5]
  refine (number_any s hs r a D w h ha).mono ?_
  rintro e w' ⟨rfl, a', hat, hrd, hrg⟩
  have hP : rawP lp (s.data.toList.drop a) = optR (numP (s.data.toList.drop a)) jint := by
    rw [rawP, if_neg (by rw [hc]; exact h1), if_neg (by rw [hc]; exact h2), if_neg (by rw [hc]; exact h3), if_neg (by rw [hc]; exact h4), if_neg (by rw [hc]; exact h5)]
  rw [hP]
  refine ⟨_, rfl, a', by have := hat.top; omega, ?_, hrg, ?_⟩
  · cases ht : numP (s.data.toList.drop a) with
    | none => rw [ht] at hrd; exact hrd
    | some p => rw [ht] at hrd; exact hrd
  · intro j r1 hj
    cases ht : numP (s.data.toList.drop a) with
    | none => rw [ht] at hj; cases hj
    | some p =>
      obtain ⟨t, r0⟩ := p
      rw [ht] at hj
      injection hj with hj
      injection hj with e1 e2
      subst e1 e2
      rw [(numP_ok ht).2.2]
      exact ⟨hat, JRep.flat _ _ _ _ _⟩
/-- what is found in the map of takers -/
theorem takers_found (c : UInt8) : (∃ i, Instr.findNow (.int .u8) (.int .u8 ((c.toNat : Nat) : Int)) takersE.toList 0 = some (some (i, .func (.func (pickF c)) #[] #[]))) ∨
    (Instr.findNow (.int .u8) (.int .u8 ((c.toNat : Nat) : Int)) takersE.toList 0 = some none ∧ pickF c = 38) := by
  by_cases h1 : c = 110
  · subst h1; exact .inl ⟨0, rfl⟩
  by_cases h2 : c = 116
  · subst h2; exact .inl ⟨1, rfl⟩
  by_cases h3 : c = 102
  · subst h3; exact .inl ⟨2, rfl⟩
  by_cases h4 : c = 34
  · subst h4; exact .inl ⟨3, rfl⟩
  by_cases h5 : c = 91
  · subst h5; exact .inl ⟨4, rfl⟩
  by_cases h6 : c = 123
  · subst h6; exact .inl ⟨5, rfl⟩
  refine .inr ⟨?_, by simp [pickF, h1, h2, h3, h4, h5, h6]⟩
  have e : ∀ d : UInt8, c ≠ d → (((c.toNat : Nat) : Int) == ((d.toNat : Nat) : Int)) = false := fun d hd => by
    rw [beq_eq_false_iff_ne]
    intro h
    exact hd (UInt8.toNat.inj (by omega))
  have e1 := e 110 h1
  have e2 := e 116 h2
  have e3 := e 102 h3
  have e4 := e 34 h4
  have e5 := e 91 h5
  have e6 := e 123 h6
  simp only [takersE, mF, Instr.findNow, Instr.sameNow, if_true]
  rw [show ((110 : UInt8).toNat : Int) = 110 from rfl] at e1
  rw [show ((116 : UInt8).toNat : Int) = 116 from rfl] at e2
  rw [show ((102 : UInt8).toNat : Int) = 102 from rfl] at e3
  rw [show ((34 : UInt8).toNat : Int) = 34 from rfl] at e4
  rw [show ((91 : UInt8).toNat : Int) = 91 from rfl] at e5
  rw [show ((123 : UInt8).toNat : Int) = 123 from rfl] at e6
  simp only [e1, e2, e3, e4, e5, e6]
theorem pick_enters (c : UInt8) : ∀ args w, (callFunc (pickF c) args).run Try.prog w = .ok (.enter (pickF c) args) w := by
  have g1 := enters_of Try.func47 (by kernel_rfl) rfl
  have g2 := enters_of Try.func49 (by kernel_rfl) rfl
  have g3 := enters_of Try.func50 (by kernel_rfl) rfl
  have g4 := enters_of Try.func51 (by kernel_rfl) rfl
  have g5 := enters_of Try.func53 (by kernel_rfl) rfl
  have g6 := enters_of Try.func38 (by kernel_rfl) rfl
  intro args w
  unfold pickF
  split
  · exact g1 args w
  split
  · exact g2 args w
  split
  · exact g3 args w
  split
  · exact g4 args w
  split
  · exact g5 args w
  · exact g6 args w
set_option maxRecDepth 100000 in
set_option maxHeartbeats 4000000 in
theorem value_step (d : Nat) (LH : ∀ D : Int, D + (d : Int) = 6 → 0 ≤ D → LRd D (lpOf d)) : VRd d := by
  intro s hs r a D hD h0 w h ha
  have hu := Try.underlying25
  have ht := Try.underlying72
  have hk := Try.underlying5
  obtain ⟨W0, hW0⟩ : ∃ W0, W0 = w.alloc (.cells (jvCells zJV) 25) := ⟨_, rfl⟩
  have hb0 : Below w.heap.size w W0 := by rw [hW0]; exact (Below.refl _ w).alloc (Nat.le_refl _) _
  obtain ⟨G, hG⟩ : ∃ G, G = w.heap.size := ⟨_, rfl⟩
  have HKZ := Lib.hid (show Blk W0 G 25 (jvCells zJV) by rw [hW0, hG]; exact Blk.new _ _ _)
  have HRD := Lib.hid (h.grow hb0)
  have HRG := Lib.hid (show RG r w W0 from .below hb0)
  have HRL := Lib.hid (show r < G by rw [hG]; exact Blk.lt h)
  have HW0 := Lib.hid hW0
  have HLH := Lib.hid (LH D hD h0)
  have HA := Lib.hid ha
  have HS := Lib.hid hs
  obtain ⟨-, -, -, c3⟩ := (h.grow hb0).cells
  have CB := Lib.hid (blanks_any s hs r a D 0 W0 HRD.out (by omega))
  clear hW0 hb0 h LH ha hs hD h0
  rw [hG] at *
  clear hG
  go_enter Try.func21, Try.ntmps21
  go_upto_region 1 with (fail)
  rw [show (w.alloc (.cells #[.int .i64 0, .int .i64 0, .string ⟨#[]⟩, .slice none 0 0, .slice none 0 0] 25)) = W0 from HW0.out.symm]
  clear HW0
  go_wp2_with fail
  refine calls_then CB.out ?_
  rintro y w1 ⟨rfl, a1, h1, h2, h3, hrd, hrg⟩
  have HAT := Lib.hid (show At s a a1 (skip (s.data.toList.drop a)) from ⟨h1, h2, h3⟩)
  have HA1 := Lib.hid (show a1 ≤ s.size by have := HA.out; omega)
  have HRD1 := Lib.hid hrd
  have HRG1 := Lib.hid (HRG.out.trans hrg)
  have HZ1 := Lib.hid (show Blk w1 w.heap.size 25 (jvCells zJV) from HKZ.out.grown hrg (by have := HRL.out; intro h; injection h with h; omega))
  clear h1 h2 h3 hrd hrg c3 CB
  have CT := Lib.hid (takers_any w1)
  go_wp2_with fail
  refine calls_then CT.out ?_
  rintro y w2 ⟨rfl, hm, hb⟩
  have HRD2 := Lib.hid (HRD1.out.grow hb)
  have HRG2 := Lib.hid (HRG1.out.trans (RG.below hb))
  have HZ2 := Lib.hid (HZ1.out.below hb HZ1.out.lt)
  have HMB := Lib.hid hm
  have HML := Lib.hid (show r < w1.heap.size from Blk.lt HRD1.out)
  clear hm hb CT
  have CL := Lib.hid (look_any s r a1 D 0 w2 HRD2.out)
  go_wp2_with fail
  refine calls_then CL.out ?_
  rintro y w3 ⟨rfl, hrd, hrg⟩
  have HRD3 := Lib.hid hrd
  have HRG3 := Lib.hid (HRG2.out.trans hrg)
  have HZ3 := Lib.hid (HZ2.out.grown hrg (by have := HRL.out; intro h; injection h with h; omega))
  have HMB3 := Lib.hid (show MapB w3 w1.heap.size takersE from (hrg.block _ HMB.out.lt (by have := HML.out; intro h; injection h with h; omega)).trans HMB.out)
  clear hrd hrg CL
  obtain ⟨c, hc⟩ : ∃ c, c = look (s.data.toList.drop a1) := ⟨_, rfl⟩
  have HC := Lib.hid hc.symm
  rw [show lookE s a1 0 = c by rw [lookE, if_pos rfl, hc]]
  have HPK := Lib.hid (pick_any c D (lpOf d) HLH.out)
  have eg := pick_enters c
  have hz : (zeroValue 71).run Try.prog w3 = .ok .nilFunc w3 := by kernel_rfl
  unfold byteV
  obtain ⟨r0, hf, hr0⟩ : ∃ r0, Instr.findNow (.int .u8) (.int .u8 ((c.toNat : Nat) : Int)) takersE.toList 0 = some r0 ∧ ((found8 .nilFunc r0).1 = .func (.func (pickF c)) #[] #[] ∨ ((found8 .nilFunc r0).1 = .nilFunc ∧ pickF c = 38)) := by
    rcases takers_found c with ⟨i, hf⟩ | ⟨hf, hp⟩
    · exact ⟨_, hf, .inl rfl⟩
    · exact ⟨_, hf, .inr ⟨rfl, hp⟩⟩
  have hlk := run_lookup8 false ht hk HMB3.out hf hz
  obtain ⟨fv, hfv⟩ : ∃ fv, fv = (found8 .nilFunc r0).1 := ⟨_, rfl⟩
  rw [← hfv] at hlk hr0
  simp only [Bool.false_eq_true, if_false] at hlk
  obtain ⟨nb, hg1, hg2, hnb⟩ : ∃ nb, (eqGuard BinOp.eql 71 (Operand.tmp 17) (Operand.const Value.nilFunc) fv Value.nilFunc).run Try.prog w3 = .ok () w3 ∧ (binOp BinOp.eql 71 fv Value.nilFunc).run Try.prog w3 = .ok (.bool nb) w3 ∧
      ((nb = false ∧ fv = .func (.func (pickF c)) #[] #[]) ∨ (nb = true ∧ pickF c = 38)) := by
    rcases hr0 with rfl | ⟨rfl, hp⟩
    · exact ⟨false, by kernel_rfl, by kernel_rfl, .inl ⟨rfl, rfl⟩⟩
    · exact ⟨true, by kernel_rfl, by kernel_rfl, .inr ⟨rfl, hp⟩⟩
  have HR0 := Lib.hid hnb
  clear hf hr0 hfv hc hz hnb
  go_upto_if 18 with (fail)
  go_cut [3] (fun f wx => f = .func (.func (pickF c)) #[] #[] ∧ wx = w3)
  case first =>
    rcases HR0.out with ⟨rfl, rfl⟩ | ⟨rfl, hp⟩
    · go_wp2_with fail
      go_meet
      exact ⟨rfl, rfl⟩
    · have HP := Lib.hid hp
      clear hp
      go_wp2_with fail
      go_meet
      exact ⟨by rw [HP.out], rfl⟩
  case rest =>
  obtain ⟨rfl, rfl⟩ := hcut
  have CP := Lib.hid (HPK.out s HS.out r a1 wc HRD3.out HA1.out HC.out)
  clear hlk HR0
  obtain ⟨f, hf⟩ : ∃ f, f = pickF c := ⟨_, rfl⟩
  rw [← hf] at CP eg ⊢
  clear hf HPK
  go_wp2_with fail
  refine calls_then CP.out ?_
  rintro y w4 ⟨v, rfl, a2, ha2, hrd, hrg, hok⟩
  have HRD4 := Lib.hid hrd
  have HRG4 := Lib.hid (HRG3.out.trans hrg)
  have HZ4 := Lib.hid (HZ3.out.grown hrg (by have := HRL.out; intro h; injection h with h; omega))
  have HOK := Lib.hid hok
  have HA2 := Lib.hid ha2
  have HLV := Lib.hid (show w.heap.size + 1 ≤ wc.heap.size from HZ3.out.lt)
  clear hrd hrg hok ha2 CP eg hg1 hg2
  have HB5 := Lib.hid (show Blk (w4.alloc (.cells #[.int .i64 0, .int .i64 0, .string ⟨#[]⟩, .slice none 0 0, .slice none 0 0] 25)) w4.heap.size 25 (jvCells zJV) from Blk.new _ _ _)
  have HX := Lib.hid (show r < w4.heap.size from Blk.lt HRD4.out)
  have CB := Lib.hid (fun u h => blanks_any s HS.out r a2 D (errE (rawP (lpOf d) (s.data.toList.drop a1))) u h (by have := HA2.out; omega))
  go_wp2_with (refine wpList_put_box (x := .tmp 4) (cells := jvCells v) HB5.out rfl rfl rfl rfl jT_size3 rfl (jvCells_one _) ?_; intro w6 hb6 hw6)
  have hb5 := (Below.refl w4.heap.size w4).alloc (Nat.le_refl _) (.cells #[.int .i64 0, .int .i64 0, .string ⟨#[]⟩, .slice none 0 0, .slice none 0 0] 25)
  have hbl : Below w4.heap.size w4 w6 := hw6.below hb5 (Nat.le_refl _) (by simp)
  have HRD6 := Lib.hid (HRD4.out.grow hbl)
  have HRG6 := Lib.hid (HRG4.out.trans (RG.below hbl))
  have HZ6 := Lib.hid (HZ4.out.below hbl HZ4.out.lt)
  have HB6 := Lib.hid hb6
  have HBL := Lib.hid hbl
  clear hb5 hbl hb6 hw6
  refine calls_then (CB.out _ HRD6.out) ?_
  rintro y w7 ⟨rfl, a3, h1, h2, h3, hrd, hrg⟩
  have HRD7 := Lib.hid hrd
  have HRG7 := Lib.hid (HRG6.out.trans hrg)
  have HG7 := Lib.hid hrg
  have HZ7 := Lib.hid (HZ6.out.grown hrg (by have := HRL.out; intro h; injection h with h; omega))
  have HB7 := Lib.hid (HB6.out.grown hrg (by have := HX.out; intro h; injection h with h; omega))
  have HAT7 := Lib.hid (show At s a2 a3 (skip (s.data.toList.drop a2)) from ⟨h1, h2, h3⟩)
  clear h1 h2 h3 hrd hrg
  go_wp2_with (first
    | refine wpList_get_box (x := .tmp 4) HB7.out rfl rfl rfl hu rfl jT_size3 ?_
    | (refine wpList_put_box (x := .tmp 2) (cells := jvCells v) HZ7.out rfl rfl rfl rfl jT_size3 rfl (jvCells_one _) ?_; intro w9 hb9 hw9))
  have HB9 := Lib.hid hb9
  have hlow := HRL.out
  refine bodyPost_ret (results_box (P := Try.prog) rfl rfl HB9.out hu rfl jT_size3) rfl ?_
  have hE : valueP d (s.data.toList.drop a) = skipR (rawP (lpOf d) (s.data.toList.drop a1)) := by rw [valueP_lp, HAT.out.rest]
  refine ⟨v, rfl, a3, HAT7.out.big HS.out HA2.out, ?_, HRG7.out.wrote_new hw9 (Nat.le_refl _), fun j q hq => ?_⟩
  · rw [hE]
    have e1 : errE (skipR (rawP (lpOf d) (s.data.toList.drop a1))) = errE (rawP (lpOf d) (s.data.toList.drop a1)) := by
      cases rawP (lpOf d) (s.data.toList.drop a1) <;> rfl
    rw [e1]
    exact hw9.blk HRD7.out (by omega)
  · rw [hE] at hq
    obtain ⟨q0, hq1, rfl⟩ := skipR_ok hq
    obtain ⟨hat2, hj⟩ := HOK.out j q0 hq1
    refine ⟨?_, ?_⟩
    · have := HAT7.out
      rw [hat2.rest] at this
      exact HAT.out.trans (hat2.trans this)
    · have h0 := HLV.out
      have hj6 : JRep w6 (fun b => w.heap.size + 1 ≤ b) j v := (hj.heap fun b hb _ => HBL.out.block b hb).imp fun b _ hb => Nat.le_trans h0 hb
      exact ((hj6.heap fun b hb hs => HG7.out.block b hb (by intro h; injection h with h; omega)).heap fun b hb hs => hw9.grown.block b hb (by intro h; injection h with h; omega)).imp fun b _ hb => by omega
theorem value_any : ∀ d, VRd d
  | 0 => value_step 0 fun D h h0 => list_step 0 D h h0 fun d' hd => by cases hd
  | d + 1 => value_step (d + 1) fun D h h0 => list_step (d + 1) D h h0 fun d' hd => by
    have e : d' = d := by omega
    subst e
    exact value_any d'
end Go.Proofs.Ytcfbnjaelniahaa.Js
/-
  Walk: json.Read.
-/
namespace Go.Proofs.Ytcfbnjaelniahaa.Js
set_option linter.unusedSimpArgs false
set_option linter.unusedVariables false
open Go.RowKit

theorem readP_long {s : Bs} (h : 2000 < s.length) : readP s = .error 4 := by rw [readP, if_pos h]
/-- what Read tells of a value's end -/
def endP : Except Int (JT × Bs) → Except Int JT
  | .error e => .error e
  | .ok (v, []) => .ok v
  | .ok (_, _ :: _) => .error 13
theorem readP_end {s : Bs} (h : ¬ 2000 < s.length) : readP s = endP (valueP 6 s) := by
  rw [readP, if_neg h]
  cases valueP 6 s with
  | error e => rfl
  | ok p =>
    obtain ⟨v, r⟩ := p
    cases r <;> rfl
set_option maxRecDepth 100000 in
set_option maxHeartbeats 4000000 in
theorem jread_any (s : ByteArray) (w : World) :
    Calls Try.prog 12 #[.string s] w fun x w' => ∃ v : JV, x = .returned (.tuple #[.agg (jvCells v), .int .i64 (errE (readP s.data.toList))]) ∧ Below w.heap.size w w' ∧
      (∀ j, readP s.data.toList = .ok j → JRep w' (fun b => w.heap.size ≤ b) j v) ∧ (∀ e, readP s.data.toList = .error e → v = zJV) := by
  have hu := Try.underlying25
  obtain ⟨W0, hW0⟩ : ∃ W0, W0 = w.alloc (.cells (jvCells zJV) 25) := ⟨_, rfl⟩
  have hb0 : Below w.heap.size w W0 := by rw [hW0]; exact (Below.refl _ w).alloc (Nat.le_refl _) _
  obtain ⟨G, hG⟩ : ∃ G, G = w.heap.size := ⟨_, rfl⟩
  have HKZ := Lib.hid (show Blk W0 G 25 (jvCells zJV) by rw [hW0, hG]; exact Blk.new _ _ _)
  have HB0 := Lib.hid hb0
  have HW0 := Lib.hid hW0
  have h5 : s.data.toList.length = s.size := rfl
  by_cases hlong : 2000 < s.size
  · have hl : (2000 : Int) < (s.size : Int) := by omega
    have HE := Lib.hid (readP_long (s := s.data.toList) (by omega))
    clear hW0 hb0 hlong h5
    rw [hG] at *
    clear hG
    go_enter Try.func12, Try.ntmps12
    go_upto_region 1 with (fail)
    rw [show (w.alloc (.cells #[.int .i64 0, .int .i64 0, .string ⟨#[]⟩, .slice none 0 0, .slice none 0 0] 25)) = W0 from HW0.out.symm]
    clear HW0
    go_wp2_with (refine wpList_put_box (x := .tmp 2) (cells := jvCells zJV) HKZ.out rfl rfl rfl rfl jT_size3 rfl (jvCells_one _) ?_; intro w9 hb9 hw9)
    have HB9 := Lib.hid hb9
    refine bodyPost_ret (results_box_tmp (P := Try.prog) rfl rfl HB9.out hu rfl jT_size3) rfl ?_
    exact ⟨zJV, by rw [HE.out]; rfl, HB0.out.trans ((hw9.below (Below.refl _ _) (Nat.le_refl _) (Nat.le_of_lt HKZ.out.lt))), fun j h => by (rw [HE.out] at h; cases h), fun e h => rfl⟩
  · have hl : ¬ (2000 : Int) < (s.size : Int) := by omega
    have HE := Lib.hid (readP_end (s := s.data.toList) (by omega))
    have HL := Lib.hid (show s.size ≤ 2000 by omega)
    have HC := Lib.hid (fun (r : Nat) (u : World) (h : RD u r s 0 0 0) => value_any 6 s (by omega) r 0 0 (by omega) (by omega) u h (Nat.zero_le _))
    clear hW0 hb0 hlong h5
    rw [hG] at *
    clear hG
    go_enter Try.func12, Try.ntmps12
    go_upto_region 1 with (fail)
    rw [show (w.alloc (.cells #[.int .i64 0, .int .i64 0, .string ⟨#[]⟩, .slice none 0 0, .slice none 0 0] 25)) = W0 from HW0.out.symm]
    clear HW0
    go_upto_region 4 with (fail)
    obtain ⟨R, hR⟩ : ∃ R, R = W0.heap.size := ⟨_, rfl⟩
    obtain ⟨W1, hW1⟩ : ∃ W1, W1 = W0.alloc (.cells #[.string s, .int .i64 0, .int .i64 0, .int .i64 0] 55) := ⟨_, rfl⟩
    rw [← hW1, ← hR]
    have hb1 : Below W0.heap.size W0 W1 := by rw [hW1]; exact (Below.refl _ W0).alloc (Nat.le_refl _) _
    have HRD1 := Lib.hid (show RD W1 R s 0 0 0 by rw [hW1, hR]; exact Blk.new _ _ _)
    have HZ1 := Lib.hid (HKZ.out.below hb1 HKZ.out.lt)
    have HRL := Lib.hid (show w.heap.size < R by rw [hR]; exact HKZ.out.lt)
    have HF1 := Lib.hid (show Below w.heap.size w W1 from HB0.out.trans (hb1.mono HB0.out.size))
    have CV := Lib.hid (HC.out R W1 HRD1.out)
    rw [show s.data.toList.drop 0 = s.data.toList from rfl] at CV
    obtain ⟨E, hE⟩ : ∃ E, E = valueP 6 s.data.toList := ⟨_, rfl⟩
    rw [← hE] at CV HE
    have HEE := Lib.hid hE.symm
    clear hR hW1 hb1 hE
    go_wp2_with fail
    refine calls_then CV.out ?_
    rintro y w2 ⟨v, rfl, a, ha, hrd, hrg, hok⟩
    have HRD2 := Lib.hid hrd
    have HG2 := Lib.hid hrg
    have HZ2 := Lib.hid (show Blk w2 w.heap.size 25 (jvCells zJV) from HZ1.out.grown hrg (by have := HRL.out; intro h; injection h with h; omega))
    have HF2 := Lib.hid (show Below w.heap.size w w2 from HF1.out.grown hrg HF1.out.size (by intro k hk; injection hk with hk; have := HRL.out; omega))
    have HOK := Lib.hid hok
    have HA := Lib.hid ha
    have HSZ := Lib.hid (show R < w2.heap.size from Blk.lt HRD2.out)
    have HS1 := Lib.hid (show R < W1.heap.size from Blk.lt HRD1.out)
    have HB5 := Lib.hid (show Blk (w2.alloc (.cells #[.int .i64 0, .int .i64 0, .string ⟨#[]⟩, .slice none 0 0, .slice none 0 0] 25)) w2.heap.size 25 (jvCells zJV) from Blk.new _ _ _)
    clear hrd hrg hok ha CV HC
    go_upto_region 5 with (refine wpList_put_box (x := .tmp 5) (cells := jvCells v) HB5.out rfl rfl rfl rfl jT_size3 rfl (jvCells_one _) ?_; intro w6 hb6 hw6)
    have hb5 := (Below.refl w2.heap.size w2).alloc (Nat.le_refl _) (.cells #[.int .i64 0, .int .i64 0, .string ⟨#[]⟩, .slice none 0 0, .slice none 0 0] 25)
    have hbl : Below w2.heap.size w2 w6 := hw6.below hb5 (Nat.le_refl _) (by simp)
    have HRD6 := Lib.hid (HRD2.out.grow hbl)
    have HZ6 := Lib.hid (HZ2.out.below hbl HZ2.out.lt)
    have HB6 := Lib.hid hb6
    have HBL := Lib.hid hbl
    have HF6 := Lib.hid (HF2.out.trans (hbl.mono HF2.out.size))
    obtain ⟨-, c1, -, -⟩ := HRD6.out.cells
    clear hb5 hbl hb6 hw6 HB5
    go_upto_if 21 with (fail)
    go_cut [] (fun wx => RD wx R s a 0 (errE (endP E)) ∧ RG R w6 wx)
    case first =>
      cases hq : E with
      | error e =>
        have HN := Lib.hid (show e ≠ 0 from valueP_err 6 (HEE.out.trans hq))
        have HR7 := Lib.hid (show RD w6 R s a 0 e by have := HRD6.out; rw [hq] at this; exact this)
        have HQ := Lib.hid hq
        clear hq
        by_cases hlt : a < s.size
        · have hlt' : (a : Int) < (s.size : Int) := by omega
          clear hlt
          go_wp2_with fail
          refine calls_then (fail_any 13 s R a 0 e w6 HR7.out) ?_
          rintro y w7 ⟨rfl, hrd, hrg⟩
          rw [if_neg HN.out] at hrd
          have HR8 := Lib.hid hrd
          have HG8 := Lib.hid hrg
          clear hrd hrg
          go_wp2_with fail
          go_meet
          exact ⟨by rw [HQ.out]; exact HR8.out, HG8.out⟩
        · have hlt' : ¬ (a : Int) < (s.size : Int) := by omega
          clear hlt
          go_wp2_with fail
          go_meet
          exact ⟨by rw [HQ.out]; exact HR7.out, RG.refl _ _⟩
      | ok p =>
        obtain ⟨j, rest⟩ := p
        have HAT := Lib.hid (HOK.out j rest hq).1
        have HR7 := Lib.hid (show RD w6 R s a 0 0 by have := HRD6.out; rw [hq] at this; exact this)
        have HQ := Lib.hid hq
        clear hq
        have h5 : s.data.toList.length = s.size := rfl
        cases rest with
        | nil =>
          have hlt' : ¬ (a : Int) < (s.size : Int) := by
            have := congrArg List.length HAT.out.rest
            rw [List.length_drop] at this
            simp only [List.length_nil] at this
            omega
          clear h5
          go_wp2_with fail
          go_meet
          exact ⟨by rw [HQ.out]; exact HR7.out, RG.refl _ _⟩
        | cons x l =>
          have hlt' : (a : Int) < (s.size : Int) := by
            have := congrArg List.length HAT.out.rest
            rw [List.length_drop] at this
            simp only [List.length_cons] at this
            omega
          clear h5
          go_wp2_with fail
          refine calls_then (fail_any 13 s R a 0 0 w6 HR7.out) ?_
          rintro y w7 ⟨rfl, hrd, hrg⟩
          have HR8 := Lib.hid (show RD w7 R s a 0 13 from hrd)
          have HG8 := Lib.hid hrg
          clear hrd hrg
          go_wp2_with fail
          go_meet
          exact ⟨by rw [HQ.out]; exact HR8.out, HG8.out⟩
    case rest =>
    obtain ⟨hrd, hrg⟩ := hcut
    have HRD7 := Lib.hid hrd
    have HG7 := Lib.hid hrg
    have HZ7 := Lib.hid (HZ6.out.grown hrg (by have := HRL.out; intro h; injection h with h; omega))
    have HB7 := Lib.hid (HB6.out.grown hrg (by have := HSZ.out; intro h; injection h with h; omega))
    have HF7 := Lib.hid (show Below w.heap.size w wc from HF6.out.grown hrg HF6.out.size (by intro k hk; injection hk with hk; have := HRL.out; omega))
    clear hrd hrg c1
    cases hq : endP E with
    | error e =>
      have HQ := Lib.hid hq
      have HN := Lib.hid (show e ≠ 0 by
        unfold endP at hq
        split at hq
        · rename_i hv
          injection hq with hq
          subst hq
          exact valueP_err 6 HEE.out
        · cases hq
        · injection hq with hq
          omega)
      have HR8 := Lib.hid (show RD wc R s a 0 e by have := HRD7.out; rw [hq] at this; exact this)
      obtain ⟨-, -, -, c3⟩ := HR8.out.cells
      have hne : (e != 0) = true := by simpa using HN.out
      clear hq
      go_wp2_with fail
      have HC0 : RD wc.drew R s a 0 e ∧ Blk wc.drew w.heap.size 25 (jvCells zJV) ∧ Below w.heap.size w wc.drew := ⟨HR8.out, HZ7.out, HF7.out.drew⟩
      clear c3
      refine wp_region_det (fun u => RD u R s a 0 e ∧ Blk u w.heap.size 25 (jvCells zJV) ∧ Below w.heap.size w u) (fun u => RD u R s a 0 e ∧ Blk u w.heap.size 25 (jvCells zJV) ∧ Below w.heap.size w u) [(0, some 29), (1, some 30), (2, some 31), (3, some 32), (4, some 33), (5, none), (6, some 3)] (by kernel_rfl) (by kernel_rfl) (by decide) (by kernel_rfl) (fun _ => rfl) HC0 ?_
      apply DetL.next
      · -- 0: Op.build 25 #[]
        apply detStep_plain []
        exact fun _ => rfl
        rfl
        rintro vals - w1 hC1 E hE
        simp only [puts, act_put, act_put_none, List.setIfInBounds_toArray, List.set_cons_zero, List.set_cons_succ] at hE ⊢
        go_wp2
        exact .mk (hE _ hC1)
      apply DetL.next
      · -- 1: Op.move (Operand.tmp 4)
        apply detStep_plain []
        exact fun _ => rfl
        rfl
        rintro vals ⟨-, -⟩ w1 hC1 E hE
        simp only [puts, act_put, act_put_none, List.setIfInBounds_toArray, List.set_cons_zero, List.set_cons_succ] at hE ⊢
        go_wp2
        exact .mk (hE _ hC1)
      apply DetL.next
      · -- 2: Op.nilCheck (Operand.tmp 30)
        apply detStep_plain [(1, some 30)]
        exact fun _ => rfl
        rfl
        rintro vals ⟨⟨-, -⟩, f1⟩ w1 hC1 E hE
        simp only [puts, act_put, act_put_none, List.setIfInBounds_toArray, List.set_cons_zero, List.set_cons_succ, f1] at hE ⊢
        clear f1
        go_wp2
        exact .mk (hE _ hC1)
      apply DetL.next
      · -- 3: Op.fieldAddr 55 (Operand.tmp 31) 3
        apply detStep_plain [(2, some 31)]
        exact fun _ => rfl
        rfl
        rintro vals ⟨⟨⟨-, -⟩, -⟩, f2⟩ w1 hC1 E hE
        simp only [puts, act_put, act_put_none, List.setIfInBounds_toArray, List.set_cons_zero, List.set_cons_succ, f2] at hE ⊢
        clear f2
        go_wp2
        exact .mk (hE _ hC1)
      apply DetL.next
      · -- 4: Op.load 27 (Operand.tmp 32)
        apply detStep_plain [(3, some 32)]
        exact fun _ => rfl
        rfl
        rintro vals ⟨⟨⟨⟨-, -⟩, -⟩, -⟩, f3⟩ w1 hC1 E hE
        have d3 := hC1.1.cells.2.2.2
        simp only [puts, act_put, act_put_none, List.setIfInBounds_toArray, List.set_cons_zero, List.set_cons_succ, f3] at hE ⊢
        clear f3
        go_wp2
        exact .mk (hE _ hC1)
      apply DetL.next (v := undef)
      · -- 5: Op.store 25 (Operand.tmp 2) (Operand.tmp 29)
        apply detStep_plain [(0, some 29), (0, some 29)]
        exact fun _ => rfl
        rfl
        rintro vals ⟨⟨⟨⟨⟨-, f0⟩, -⟩, -⟩, -⟩, -⟩ w1 hC1 E hE
        have HC1 := Lib.hid hC1
        simp only [puts, act_put, act_put_none, List.setIfInBounds_toArray, List.set_cons_zero, List.set_cons_succ, f0] at hE ⊢
        clear f0
        go_wp2_with (refine wpList_put_box (x := .tmp 2) (cells := jvCells zJV) HC1.out.2.1 rfl rfl rfl rfl jT_size3 rfl (jvCells_one _) ?_; intro w9 hb9 hw9)
        exact .mk (hE _ ⟨hw9.blk HC1.out.1 (by have := HRL.out; omega), hb9, hw9.below HC1.out.2.2 (Nat.le_refl _) HC1.out.2.2.size⟩)
      apply DetL.last
      · -- 6: Op.assign (Operand.tmp 33)
        apply detStep_plain [(4, some 33), (5, none), (0, some 29), (1, some 30), (2, some 31), (3, some 32), (4, some 33), (5, none)]
        exact fun _ => rfl
        rfl
        rintro vals ⟨⟨⟨⟨⟨⟨-, f0⟩, f1⟩, f2⟩, f3⟩, f4⟩, f5⟩ w1 hC1 E hE
        simp only [puts, act_put, act_put_none, List.setIfInBounds_toArray, List.set_cons_zero, List.set_cons_succ, f0, f1, f2, f3, f4, f5] at hE ⊢
        clear f0 f1 f2 f3 f4 f5
        go_wp2
        exact .mk (hE _ hC1)
      rintro vals ⟨⟨⟨⟨⟨⟨⟨-, f0⟩, f1⟩, f2⟩, f3⟩, f4⟩, f5⟩, f6⟩ w1 hC1
      simp only [puts, act_put, act_put_none, List.setIfInBounds_toArray, List.set_cons_zero, List.set_cons_succ, f0, f1, f2, f3, f4, f5, f6]
      clear f0 f1 f2 f3 f4 f5 f6
      obtain ⟨h1, h2, h3⟩ := hC1
      have HB9 := Lib.hid h2
      have HF9 := Lib.hid h3
      clear h1 h2 h3 HC0
      go_wp2_with fail
      refine bodyPost_ret (results_box_tmp (P := Try.prog) rfl rfl HB9.out hu rfl jT_size3) rfl ?_
      exact ⟨zJV, by rw [HE.out, HQ.out]; rfl, HF9.out, fun j h => by (rw [HE.out, HQ.out] at h; cases h), fun e h => rfl⟩
    | ok j =>
      have HQ := Lib.hid hq
      have HR8 := Lib.hid (show RD wc R s a 0 0 by have := HRD7.out; rw [hq] at this; exact this)
      have HJ := Lib.hid (show E = .ok (j, []) by
        cases hE : E with
        | error e => rw [hE] at hq; cases hq
        | ok p =>
          obtain ⟨j1, r1⟩ := p
          rw [hE] at hq
          cases r1 with
          | nil => injection hq with hq; subst hq; rfl
          | cons x l => cases hq)
      obtain ⟨-, -, -, c3⟩ := HR8.out.cells
      clear hq
      go_wp2_with (first
        | refine wpList_get_box (x := .tmp 5) HB7.out rfl rfl rfl hu rfl jT_size3 ?_
        | (refine wpList_put_box (x := .tmp 2) (cells := jvCells v) HZ7.out rfl rfl rfl rfl jT_size3 rfl (jvCells_one _) ?_; intro w9 hb9 hw9))
      have HB9 := Lib.hid hb9
      refine bodyPost_ret (results_box_tmp (P := Try.prog) rfl rfl HB9.out hu rfl jT_size3) rfl ?_
      refine ⟨v, by rw [HE.out, HQ.out]; rfl, hw9.below HF7.out (Nat.le_refl _) HF7.out.size, fun j' hj' => ?_, fun e he => by (rw [HE.out, HQ.out] at he; cases he)⟩
      rw [HE.out, HQ.out] at hj'
      injection hj' with hj'
      subst hj'
      have hj := (HOK.out j [] HJ.out).2
      have h0 := HS1.out
      have h1 := HRL.out
      exact ((((hj.heap fun b hb _ => HBL.out.block b hb).heap fun b hb hs => HG7.out.block b hb (by intro h; injection h with h; omega)).heap fun b hb hs => hw9.grown.block b hb (by intro h; injection h with h; omega))).imp fun b _ hb => by omega
end Go.Proofs.Ytcfbnjaelniahaa.Js
/-
  Walks: json's right: whether a value is one.
-/
namespace Go.Proofs.Ytcfbnjaelniahaa.Js
set_option linter.unusedSimpArgs false
set_option linter.unusedVariables false
open Go.RowKit

theorem jT_size2 : (Try.prog.info? 25).map (·.size) = some 5 := by kernel_rfl
set_option maxRecDepth 100000 in
set_option maxHeartbeats 4000000 in
theorem plain_any (v : JV) (ns : List Bs) (ks : List JT) (hn : v.nn = ns.length) (hk : v.kn = ks.length) (w : World) :
    Calls Try.prog 23 #[.agg (jvCells v)] w fun e w' => e = .returned (.bool (plainJ v.k v.n v.t ns ks)) ∧ Below w.heap.size w w' := by
  obtain ⟨W0, hW0⟩ : ∃ W0, W0 = w.alloc (.cells (jvCells v) 25) := ⟨_, rfl⟩
  have HB0 := Lib.hid (show Below w.heap.size w W0 by rw [hW0]; exact (Below.refl _ w).alloc (Nat.le_refl _) _)
  have hkb : Blk W0 w.heap.size 25 (jvCells v) := by rw [hW0]; exact Blk.new _ _ _
  have HW0 := Lib.hid hW0
  obtain ⟨vk, vn, vt, nA, nn, nc, kA, kn, kc⟩ := v
  dsimp only at *
  have a0 : W0.cell? ⟨w.heap.size, 0, none⟩ = some (.int .i64 vk) := hkb.cell 0
  have a1 : W0.cell? ⟨w.heap.size, 1, none⟩ = some (.int .i64 vn) := hkb.cell 1
  have a2 : W0.cell? ⟨w.heap.size, 2, none⟩ = some (.string (bs vt)) := hkb.cell 2
  have a3 : W0.cell? ⟨w.heap.size, 3, none⟩ = some (.slice nA nn nc) := hkb.cell 3
  have a4 : W0.cell? ⟨w.heap.size, 4, none⟩ = some (.slice kA kn kc) := hkb.cell 4
  have HN := Lib.hid (show ns.isEmpty = decide ((nn : Int) = 0) by rw [hn]; cases ns <;> simp; omega)
  have HK := Lib.hid (show ks.isEmpty = decide ((kn : Int) = 0) by rw [hk]; cases ks <;> simp; omega)
  have HT := Lib.hid (show vt.isEmpty = ((bs vt).toList == []) by rw [bs_toList]; cases vt <;> rfl)
  clear hW0 hkb hn hk
  go_enter Try.func23, Try.ntmps23
  go_upto_region 1 with (fail)
  rw [← HW0.out]
  generalize Value.agg (jvCells ⟨vk, vn, vt, nA, nn, nc, kA, kn, kc⟩) = AV at *
  go_cut [3] (fun x wx => x = .bool (vn == 0 || vk == 2 || (vk == 1 && vn == 1)) ∧ wx = W0)
  case first =>
    go_wp2_with fail
    all_goals (go_meet; exact ⟨by first | rfl | (simp; done) | (simp_all; done) | grind, rfl⟩)
  case rest =>
  obtain ⟨rfl, rfl⟩ := hcut
  generalize hb1 : (vn == 0 || vk == 2 || (vk == 1 && vn == 1)) = b1 at *
  have HB1 := Lib.hid hb1
  clear hb1 a1
  go_upto_region 2 with (fail)
  go_cut [4] (fun x wx => x = .bool (decide ((kn : Int) = 0) || vk == 4 || vk == 5) ∧ wx = wc)
  case first =>
    go_wp2_with fail
    all_goals (go_meet; exact ⟨by first | rfl | (simp; done) | (simp_all; done) | grind, rfl⟩)
  case rest =>
  obtain ⟨rfl, rfl⟩ := hcut
  generalize hb2 : (decide ((kn : Int) = 0) || vk == 4 || vk == 5) = b2 at *
  have HB2 := Lib.hid hb2
  clear hb2 a4
  go_upto_region 3 with (fail)
  go_cut [5] (fun x wx => x = .bool (decide ((nn : Int) = 0) || vk == 5) ∧ wx = wc)
  case first =>
    go_wp2_with fail
    all_goals (go_meet; exact ⟨by first | rfl | (simp; done) | (simp_all; done) | grind, rfl⟩)
  case rest =>
  obtain ⟨rfl, rfl⟩ := hcut
  generalize hb3 : (decide ((nn : Int) = 0) || vk == 5) = b3 at *
  have HP := Lib.hid (show plainJ vk vn vt ns ks = (b1 && b2 && b3 && (vt.isEmpty || vk == 3)) by
    rw [plainJ, HB1.out, HK.out, HB2.out, HN.out, hb3])
  rw [HT.out] at HP
  clear hb3 a3
  cases b1
  · go_wp2_with fail
    all_goals (go_ret; exact ⟨by rw [HP.out]; first | rfl | (simp; done), HB0.out⟩)
  cases b2
  · go_wp2_with fail
    all_goals (go_ret; exact ⟨by rw [HP.out]; first | rfl | (simp; done), HB0.out⟩)
  cases b3
  · go_wp2_with fail
    all_goals (go_ret; exact ⟨by rw [HP.out]; first | rfl | (simp; done), HB0.out⟩)
  have hp : plainJ vk vn vt ns ks = ((bs vt).toList == [] || vk == 3) := by rw [HP.out]; simp
  have HP2 := Lib.hid hp
  clear HP hp
  go_wp2_with fail
  all_goals (go_ret; exact ⟨by rw [HP2.out]; first | rfl | (simp; done) | (simp_all; done) | grind, HB0.out⟩)
end Go.Proofs.Ytcfbnjaelniahaa.Js
/-
  Plain: JSON's texts: the reference's Is; texts that end where they are too long.
-/
namespace Go.Proofs.Ytcfbnjaelniahaa.Js
set_option linter.unusedVariables false

mutual
def isV : Nat → JT → Bool
  | d, .mk k n t ns ks =>
    if k < 0 ∨ 5 < k ∨ (d = 0 ∧ 3 < k) then false
    else if k ≠ 3 ∧ t ≠ [] then false
    else if k ≠ 5 ∧ ns ≠ [] then false
    else if k ≠ 5 ∧ k ≠ 4 ∧ ks ≠ [] then false
    else if k = 2 then decide (-1000000000000000 ≤ n) && decide (n ≤ 1000000000000000)
    else if k = 1 then n == 0 || n == 1
    else if n ≠ 0 ∨ (k = 5 ∧ ns.length ≠ ks.length) then false
    else okT t && (ns.all okT && distinct ns) && isVs (d - 1) ks
def isVs : Nat → List JT → Bool
  | _, [] => true
  | d, k :: r => isV d k && isVs d r
end
theorem isV_right : ∀ (j : JT) (d : Nat), isV d j = rightV d j := by
  intro j
  induction j using JT.ind with
  | h k n t ns ks ih =>
    intro d
    have hks : isVs (d - 1) ks = rightsV (d - 1) ks := by

      induction ks with
      | nil => rfl
      | cons a r ihr => rw [isVs, rightsV, ih a (List.mem_cons_self ..), ihr (fun x hx => ih x (List.mem_cons_of_mem _ hx))]
    rw [isV, rightV, hks]
    unfold plainJ
    by_cases h1 : k < 0 ∨ 5 < k ∨ (d = 0 ∧ 3 < k)
    · rw [if_pos h1]
      rcases h1 with h | h | ⟨rfl, h⟩
      · have : ¬ 0 ≤ k := by omega
        simp [this]
      · have : ¬ k ≤ 5 := by omega
        simp [this]
      · have : 4 ≤ k := by omega
        simp [this]
    rw [if_neg h1]
    by_cases h2 : k ≠ 3 ∧ t ≠ []
    · rw [if_pos h2]
      simp [h2.1, h2.2]
    rw [if_neg h2]
    by_cases h3 : k ≠ 5 ∧ ns ≠ []
    · rw [if_pos h3]
      simp [h3.1, h3.2]
    rw [if_neg h3]
    by_cases h4 : k ≠ 5 ∧ k ≠ 4 ∧ ks ≠ []
    · rw [if_pos h4]
      simp [h4.1, h4.2.1, h4.2.2]
    rw [if_neg h4]
    have h0 : 0 ≤ k := by omega
    have h5 : k ≤ 5 := by omega
    have hd : (d == 0 && decide (4 ≤ k)) = false := by
      cases hq : (d == 0 && decide (4 ≤ k)) with
      | false => rfl
      | true =>
        simp at hq
        exact absurd (.inr (.inr ⟨hq.1, by omega⟩)) h1
    rw [hd]
    by_cases h6 : k = 2
    · subst h6
      have e1 : t = [] := by simpa using h2
      have e2 : ns = [] := by simpa using h3
      have e3 : ks = [] := by simpa using h4
      subst e1 e2 e3
      simp [okT, distinct, rightsV]
    rw [if_neg h6]
    by_cases h7 : k = 1
    · subst h7
      have e1 : t = [] := by simpa using h2
      have e2 : ns = [] := by simpa using h3
      have e3 : ks = [] := by simpa using h4
      subst e1 e2 e3
      simp [okT, distinct, rightsV]
    rw [if_neg h7]
    by_cases h8 : n ≠ 0 ∨ (k = 5 ∧ ns.length ≠ ks.length)
    · rw [if_pos h8]
      rcases h8 with h | ⟨rfl, h⟩
      · simp [h, h6, h7]
      · simp [h]
    rw [if_neg h8]
    have e0 : n = 0 := by simp at h8; exact h8.1
    subst e0
    have e1 : t = [] ∨ k = 3 := by
      by_cases h : k = 3
      · exact .inr h
      · exact .inl (by simpa [h] using h2)
    have e2 : ns = [] ∨ k = 5 := by
      by_cases h : k = 5
      · exact .inr h
      · exact .inl (by simpa [h] using h3)
    have e3 : (ks = [] ∨ k = 4) ∨ k = 5 := by
      by_cases h : k = 5
      · exact .inr h
      · by_cases h' : k = 4
        · exact .inl (.inr h')
        · exact .inl (.inl (by simpa [h, h'] using h4))
    have e4 : k ≠ 5 ∨ ns.length = ks.length := by
      by_cases h : k = 5
      · simp [h] at h8; exact .inr h8
      · exact .inl h
    have p1 : ((0 : Int) == 0 || k == 2 || (k == 1 && (0 : Int) == 1)) = true := by simp
    have p2 : (ks.isEmpty || k == 4 || k == 5) = true := by simpa using e3
    have p3 : (ns.isEmpty || k == 5) = true := by simpa using e2
    have p4 : (t.isEmpty || k == 3) = true := by simpa using e1
    have p5 : (k != 5 || ns.length == ks.length) = true := by simpa using e4
    have p6 : (k != 2 || (decide (-1000000000000000 ≤ (0 : Int)) && decide ((0 : Int) ≤ 1000000000000000))) = true := by simp
    rw [p1, p2, p3, p4, p5, p6]
    simp [h0, h5, Bool.and_assoc]
/-- so much more was written, or it is too long -/
def Out (c x c' : Bs) : Prop := c.length ≤ c'.length ∧ c'.length ≤ c.length + x.length ∧ (c' = c ++ x ∨ (2000 < c'.length ∧ 2000 < (c ++ x).length))
theorem Out.refl (c : Bs) : Out c [] c := ⟨Nat.le_refl _, by simp, .inl (by simp)⟩
theorem Out.all (c x : Bs) : Out c x (c ++ x) := ⟨by simp, by simp, .inl rfl⟩
theorem Out.stop {c : Bs} (x : Bs) (h : 2000 < c.length) : Out c x c := ⟨Nat.le_refl _, by omega, .inr ⟨h, by simp; omega⟩⟩
theorem Out.trans {c x c' y c'' : Bs} (h : Out c x c') (h' : Out c' y c'') : Out c (x ++ y) c'' := by
  obtain ⟨l1, m1, h1⟩ := h
  obtain ⟨l2, m2, h2⟩ := h'
  refine ⟨Nat.le_trans l1 l2, by simp; omega, ?_⟩
  rcases h1 with rfl | ⟨a, b⟩
  · rcases h2 with rfl | ⟨a2, b2⟩
    · exact .inl (by simp)
    · exact .inr ⟨a2, by simpa [Nat.add_assoc] using b2⟩
  · exact .inr ⟨by omega, by simp at b ⊢; omega⟩
theorem Out.end_ {x c' : Bs} (h : Out [] x c') : (c'.length ≤ 2000 → c' = x ∧ x.length ≤ 2000) ∧ (2000 < c'.length → 2000 < x.length) := by
  rcases h.2.2 with h | ⟨a, b⟩
  · simp at h
    subst h
    exact ⟨fun h => ⟨rfl, h⟩, fun h => h⟩
  · exact ⟨fun h => by omega, fun _ => by simpa using b⟩
end Go.Proofs.Ytcfbnjaelniahaa.Js
/-
  Walks: json's right.
-/
namespace Go.Proofs.Ytcfbnjaelniahaa.Js
set_option linter.unusedSimpArgs false
set_option linter.unusedVariables false
open Go.RowKit

mutual
/-- so many names, so many kids -/
def smallJ : JT → Bool
  | .mk _ _ _ ns ks => decide (ns.length ≤ 4096) && decide (ks.length ≤ 4096) && smallsJ ks
def smallsJ : List JT → Bool
  | [] => true
  | k :: r => smallJ k && smallsJ r
end
theorem smallsJ_iff : ∀ ks : List JT, smallsJ ks = true ↔ ∀ k ∈ ks, smallJ k = true
  | [] => by simp [smallsJ]
  | k :: r => by simp [smallsJ, smallsJ_iff r]
/-- right's contract so deep -/
def RVal (d : Nat) : Prop := ∀ (j : JT) (v : JV) (B : Nat) (w : World), smallJ j = true → JRep w (fun b => b < B) j v → B ≤ w.heap.size →
  Calls Try.prog 14 #[.agg (jvCells v), .int .i64 (d : Int)] w fun e w' => e = .returned (.bool (rightV d j)) ∧ Below w.heap.size w w'
set_option maxRecDepth 100000 in
theorem right2_any (d : Nat) (hd9 : (d : Int) ≤ 1000) (IH : RVal d) (j : JT) (v : JV) (B g : Nat) (w : World) (hs : smallJ j = true) (hj : JRep w (fun b => b < B) j v) (hB : B ≤ w.heap.size) (hg : w.cell? ⟨g, 0, none⟩ = some (.int .i64 (d + 1 : Int))) :
    Calls Try.prog 30 #[.agg (jvCells v), .pointer (some ⟨g, 0, none⟩)] w fun e w' => e = .returned (.bool (!rightV d j)) ∧ Below w.heap.size w w' := by
  have hu := Try.underlying25
  obtain ⟨W0, hW0⟩ : ∃ W0, W0 = w.alloc (.cells (jvCells v) 25) := ⟨_, rfl⟩
  have hb0 : Below w.heap.size w W0 := by rw [hW0]; exact (Below.refl _ w).alloc (Nat.le_refl _) _
  have HB0 := Lib.hid hb0
  have HKB := Lib.hid (show Blk W0 w.heap.size 25 (jvCells v) by rw [hW0]; exact Blk.new _ _ _)
  have a1 : W0.cell? ⟨g, 0, none⟩ = some (.int .i64 (d + 1 : Int)) := by
    rw [hb0.cell (p := ⟨g, 0, none⟩) (by exact World.block_lt_of_cell? w _ hg)]
    exact hg
  have C := Lib.hid (IH j v B W0 hs (hj.under (hb0.mono hB)) (Nat.le_trans hB hb0.size))
  have HW0 := Lib.hid hW0
  clear hW0 hb0 hg hs hj hB IH
  go_enter Try.func30, Try.ntmps30
  go_upto_region 1 with (fail)
  rw [← HW0.out]
  go_wp2_with (refine wpList_get_box (x := .tmp 2) HKB.out rfl rfl rfl hu rfl jT_size2 ?_)
  refine calls_then C.out ?_
  rintro e w1 ⟨rfl, hb1⟩
  have HB1 := Lib.hid (HB0.out.trans (hb1.mono HB0.out.size))
  clear hb1
  go_wp2_with fail
  go_ret
  exact ⟨rfl, HB1.out⟩
set_option maxRecDepth 100000 in
set_option maxHeartbeats 2000000 in
theorem idxj_any (d : Nat) (hd9 : (d : Int) ≤ 1000) (IH : RVal d) (ks : List JT) (kv : List JV) (A : Option Addr) (c B g : Nat) (w : World) (hs : smallsJ ks = true) (hkl : ks.length ≤ 4096) (hkv : kv.length = ks.length) (hkr : Rd w B A (rowsV jvCells kv))
    (hkids : ∀ i (h : i < ks.length) (h' : i < kv.length), JRep w (fun b => b < B) ks[i] kv[i]) (hB : B ≤ w.heap.size) (hg : w.cell? ⟨g, 0, none⟩ = some (.int .i64 (d + 1 : Int))) :
    Calls Try.prog 42 #[.slice A ks.length c, .func (.func 30) #[] #[.pointer (some ⟨g, 0, none⟩)]] w fun e w' =>
      (∃ k : Int, e = .returned (.int .i64 k) ∧ decide (0 ≤ k) = !rightsV d ks) ∧ Below w.heap.size w w' := by
  have hu := Try.underlying25
  have eg : ∀ args w, (callFunc 30 args).run Try.prog w = .ok (.enter 30 args) w := enters_of Try.func30 (by kernel_rfl) rfl
  obtain ⟨n, hn⟩ : ∃ n, n = ks.length := ⟨_, rfl⟩
  have HN := Lib.hid hn
  have HKV := Lib.hid hkv
  have HR := Lib.hid hkr
  have HKD := Lib.hid hkids
  have HS := Lib.hid ((smallsJ_iff ks).1 hs)
  have HB := Lib.hid hB
  have HG := Lib.hid hg
  have hns : (n : Int) ≤ 4096 := by omega
  have HD9 := Lib.hid hd9
  have HIH := Lib.hid IH
  rw [← hn]
  clear hs hkl hkv hkr hkids hB hg hn hd9 IH
  go_enter Try.func42, Try.ntmps42
  go_wp2_with fail
  go_loopw [8] (fun x wr => ∃ i : Nat, i ≤ n ∧ x = .int .i64 (i : Int) ∧ (∀ k ∈ ks.take i, rightV d k = true) ∧ Below w.heap.size w wr) (fun x _ => n - (intOf x).toNat)
  case atStart => exact ⟨0, by omega, rfl, by simp, Below.refl _ _⟩
  case round =>
    obtain ⟨i, hi, rfl, hok, hb⟩ := hrel
    have HBE := Lib.hid hb
    have HOK := Lib.hid hok
    clear hb hok
    by_cases hlt : i < n
    · have hil : i < ks.length := by rw [← HN.out]; exact hlt
      have hiv : i < kv.length := by rw [HKV.out]; exact hil
      have hlt' : (i : Int) < (n : Int) := by omega
      have HLT := Lib.hid hlt
      obtain ⟨ad, hA, hadb, hcell⟩ := rd_rows (f := jvCells) (m := 5) (fun _ => rfl) (by decide) (HR.out.below (HBE.out.mono HB.out)) hiv
      subst hA
      obtain ⟨X, hX⟩ : ∃ X, X = kv[i] := ⟨_, rfl⟩
      obtain ⟨J, hJ⟩ : ∃ J, J = ks[i] := ⟨_, rfl⟩
      have C := Lib.hid (right2_any d HD9.out HIH.out J X B g wr (by rw [hJ]; exact HS.out _ (List.getElem_mem hil)) (by rw [hX, hJ]; exact (HKD.out i hil hiv).under (HBE.out.mono HB.out)) (Nat.le_trans HB.out HBE.out.size)
        (by rw [HBE.out.cell (p := ⟨g, 0, none⟩) (by exact World.block_lt_of_cell? w _ HG.out)]; exact HG.out))
      have HST := Lib.hid (show rightV d J = true → ∀ k ∈ ks.take (i + 1), rightV d k = true from fun h k hk => by
        rw [List.take_succ_eq_append_getElem hil, ← hJ] at hk
        rcases List.mem_append.1 hk with h1 | h1
        · exact HOK.out k h1
        · rw [List.mem_singleton.1 h1]; exact h)
      have HNO := Lib.hid (show rightV d J = false → rightsV d ks = false from fun h => by
        cases hq : rightsV d ks with
        | false => rfl
        | true =>
          have := (rightsV_iff d ks).1 hq J (by rw [hJ]; exact List.getElem_mem hil)
          rw [h] at this
          cases this)
      rw [← hX] at hcell
      have HCE := Lib.hid (show ∀ j x, (jvCells X).toList[j]? = some x → wr.cell? ((ad.add (i * 5)).add j) = some x from fun j x hx => hcell j x (by simpa using hx))
      clear hX hJ hcell hadb hil hiv
      go_wp2_with (refine wpList_get_rd (r := (jvCells X).toList) HCE.out rfl rfl rfl hu rfl jT_size2 ?_)
      refine calls_then C.out ?_
      rintro e w1 ⟨rfl, hb1⟩
      have HB1 := Lib.hid (HBE.out.trans (hb1.mono HBE.out.size))
      clear hb1
      cases hq : rightV d J with
      | true =>
        have HQ := Lib.hid (HST.out hq)
        clear hq
        go_wp2_with fail
        go_roundw
        case rel => exact ⟨i + 1, HLT.out, by go_num, HQ.out, HB1.out⟩
        case measure => have := HLT.out; simp [intOf]; omega
      | false =>
        have HQ := Lib.hid (HNO.out hq)
        clear hq
        go_wp2_with fail
        go_ret
        exact ⟨⟨_, rfl, by rw [HQ.out]; simp⟩, HB1.out⟩
    · obtain rfl : i = n := by omega
      have HALL := Lib.hid (show rightsV d ks = true by
        have := HOK.out
        rw [HN.out, List.take_length] at this
        exact (rightsV_iff d ks).2 this)
      go_wp2_with fail
      go_ret
      exact ⟨⟨_, rfl, by rw [HALL.out]; simp⟩, HBE.out⟩
theorem conj_any (d : Nat) (hd9 : (d : Int) ≤ 1000) (IH : RVal d) (ks : List JT) (kv : List JV) (A : Option Addr) (c B g : Nat) (w : World) (hs : smallsJ ks = true) (hkl : ks.length ≤ 4096) (hkv : kv.length = ks.length) (hkr : Rd w B A (rowsV jvCells kv))
    (hkids : ∀ i (h : i < ks.length) (h' : i < kv.length), JRep w (fun b => b < B) ks[i] kv[i]) (hB : B ≤ w.heap.size) (hg : w.cell? ⟨g, 0, none⟩ = some (.int .i64 (d + 1 : Int))) :
    Calls Try.prog 29 #[.slice A ks.length c, .func (.func 30) #[] #[.pointer (some ⟨g, 0, none⟩)]] w fun e w' =>
      e = .returned (.bool (!rightsV d ks)) ∧ Below w.heap.size w w' := by
  have C := Lib.hid (idxj_any d hd9 IH ks kv A c B g w hs hkl hkv hkr hkids hB hg)
  clear hs hkv hkr hkids hB hg
  generalize rightsV d ks = b at *
  generalize ks.length = n at *
  go_enter Try.func29, Try.ntmps29
  go_wp2_with fail
  refine calls_then C.out ?_
  rintro e w1 ⟨⟨k, rfl, hk⟩, hb⟩
  have HB := Lib.hid hb
  have HK := Lib.hid hk
  clear hb hk
  go_wp2_with fail
  go_ret
  exact ⟨by rw [← HK.out]; rfl, HB.out⟩
theorem conj_nil (A : Option Addr) (c : Nat) (F : Value) (w : World) :
    Calls Try.prog 29 #[.slice A 0 c, F] w fun e w' => e = .returned (.bool false) ∧ w' = w := by
  have C := Lib.hid (show Calls Try.prog 42 #[.slice A 0 c, F] w fun e w' => e = .returned (.int .i64 (-1)) ∧ w' = w by
    go_enter Try.func42, Try.ntmps42
    go_wp2_with fail
    go_loop [8] (fun x => x = .int .i64 0) (fun _ => 0)
    case atStart => rfl
    case round =>
      obtain rfl := hrel
      go_wp2_with fail
      go_ret
      exact ⟨rfl, rfl⟩)
  go_enter Try.func29, Try.ntmps29
  go_wp2_with fail
  refine calls_then C.out ?_
  rintro e w1 ⟨rfl, rfl⟩
  go_wp2_with fail
  go_ret
  exact ⟨rfl, rfl⟩
end Go.Proofs.Ytcfbnjaelniahaa.Js
