/-
  Plain: JSON's texts: what is read may be; what is written is read.
-/
import Derived.Test.YtcfbnjaelniahaaJsp
namespace Go.Proofs.Ytcfbnjaelniahaa.Js
set_option linter.unusedVariables false

-- T2: what is read may be
theorem esc_le {c b : UInt8} (h : esc c = some b) : b ≤ 126 := by
  unfold esc at h
  repeat' split at h
  all_goals first
    | (injection h with h; subst h; decide)
    | (simp at h)
theorem hexP_le {a0 a1 a2 a3 b : UInt8} (h : hexP a0 a1 a2 a3 = some b) : b ≤ 126 := by
  unfold hexP at h
  split at h
  · split at h
    · split at h
      · rename_i x y _ _ hq
        injection h with h
        rw [← h, UInt8.le_iff_toNat_le]
        have : (UInt8.ofNat (16 * x + y)).toNat ≤ 16 * x + y := by simp; exact Nat.mod_le _ _
        exact Nat.le_trans this (by simpa using hq)
      · simp at h
    · simp at h
  · simp at h
theorem escP_le {r r' : Bs} {b : UInt8} (h : escP r = some (b, r')) : b ≤ 126 := by
  unfold escP at h
  split at h
  · simp at h
  · split at h
    · rename_i he
      injection h with h; injection h with h1 h2; subst h1
      exact esc_le he
    · split at h
      · split at h
        · split at h
          · rename_i hx
            injection h with h; injection h with h1 h2; subst h1
            exact hexP_le hx
          · simp at h
        · simp at h
      · simp at h
theorem okT_snoc {s : Bs} {c : UInt8} (h : okT s = true) (hc : c ≤ 126) : okT (s ++ [c]) = true := by
  unfold okT at *
  rw [List.all_append, h]
  simpa using hc
theorem strA_ok : ∀ (n : Nat) (acc r : Bs) {s r' : Bs}, okT acc = true → strA n acc r = some (s, r') → okT s = true
  | 0, acc, r, s, r', _, h => by simp [strA] at h
  | n + 1, acc, [], s, r', _, h => by simp [strA] at h
  | n + 1, acc, c :: r, s, r', ha, h => by
    unfold strA at h
    split at h
    · simp at h
    · rename_i hc
      split at h
      · injection h with h; injection h with h1 h2; subst h1; exact ha
      · split at h
        · split at h
          · rename_i b r1 he
            exact strA_ok n _ _ (okT_snoc ha (escP_le he)) h
          · simp at h
        · refine strA_ok n _ _ (okT_snoc ha ?_) h
          rw [UInt8.le_iff_toNat_le]
          have : ¬ 126 < c := fun h => hc (.inr h)
          rw [UInt8.lt_iff_toNat_lt] at this
          simpa using this
theorem textP_ok {r s r' : Bs} (h : textP r = some (s, r')) : okT s = true := by
  unfold textP at h
  split at h
  · exact strA_ok _ _ _ rfl h
  · simp at h
theorem distinct_snoc : ∀ {l : List Bs} {x : Bs}, distinct l = true → x ∉ l → distinct (l ++ [x]) = true
  | [], x, _, _ => by simp [distinct]
  | y :: l, x, h, hx => by
    unfold distinct at h
    rw [List.cons_append, distinct]
    simp only [Bool.and_eq_true, Bool.not_eq_true', List.contains_eq_mem, decide_eq_false_iff_not] at h ⊢
    refine ⟨?_, distinct_snoc h.2 (fun h => hx (List.mem_cons_of_mem _ h))⟩
    rw [List.mem_append]
    rintro (h1 | h1)
    · exact h.1 h1
    · simp at h1
      exact hx (by rw [h1]; exact List.mem_cons_self ..)
structure ListOk (d : Nat) (m : Bool) (ns : List Bs) (ks : List JT) : Prop where
  names : ns.all okT = true
  dis : distinct ns = true
  kids : ∀ k ∈ ks, rightV d k = true
  len : if m then ns.length = ks.length else ns = []
theorem listL_right (val : Bs → Except Int (JT × Bs)) (m : Bool) (d : Nat) (hv : ∀ {r v r'}, val r = .ok (v, r') → rightV d v = true) : ∀ (n : Nat) (ns : List Bs) (ks : List JT) (r : Bs) {ns' : List Bs} {ks' : List JT} {r' : Bs}, ListOk d m ns ks → listL val m n ns ks r = .ok (ns', ks', r') → ListOk d m ns' ks'
  | 0, ns, ks, r, ns', ks', r', _, h => by simp [listL] at h
  | n + 1, ns, ks, r, ns', ks', r', ha, h => by
    rcases listL_ok h with ⟨r1, h1, h2⟩ | ⟨r1, r2, ns1, r3, k, r4, h1, h2, h3, h4, h5⟩
    · injection h2 with h2 h3; injection h3 with h3 h4; subst h2 h3
      exact ha
    · have hkids : ∀ x ∈ ks ++ [k], rightV d x = true := fun x hx => by
        rcases List.mem_append.1 hx with h | h
        · exact ha.kids x h
        · simp at h; subst h; exact hv h4
      refine listL_right val m d hv n _ _ _ ?_ h5
      unfold keyP at h3
      split at h3
      · rename_i hm
        unfold nameP at h3
        split at h3
        · simp at h3
        · rename_i s r5 ht
          split at h3
          · simp at h3
          · rename_i hne
            split at h3
            · simp at h3
            · injection h3 with h3; injection h3 with h3 h6; subst h3
              refine ⟨?_, distinct_snoc ha.dis hne, hkids, ?_⟩
              · rw [List.all_append, ha.names]
                simp [textP_ok ht]
              · have := ha.len
                rw [if_pos hm] at this ⊢
                simp [this]
      · rename_i hm
        injection h3 with h3; injection h3 with h3 h6; subst h3
        refine ⟨ha.names, ha.dis, hkids, ?_⟩
        have := ha.len
        rw [if_neg hm] at this ⊢
        exact this
theorem listP_right {val : Bs → Except Int (JT × Bs)} {d : Nat} (hv : ∀ {r v r'}, val r = .ok (v, r') → rightV d v = true) {r : Bs} {v : JT} {r' : Bs} (h : listP val r = .ok (v, r')) : rightV (d + 1) v = true := by
  unfold listP at h
  split at h
  · simp at h
  · rename_i ns ks r1 ht
    injection h with h; injection h with h1 h2; subst h1
    have hl := listL_right val _ d hv _ _ _ _ ⟨rfl, rfl, fun k hk => by simp at hk, by split <;> rfl⟩ ht
    have hk := (rightsV_iff d ks).2 hl.kids
    have h3 := hl.len
    cases hb : (look r == 123) with
    | true =>
      rw [hb] at h3
      rw [if_pos rfl] at h3
      have hn := hl.names
      unfold okT at hn
      simp [rightV, plainJ, okT, hl.dis, hk, h3]
      simpa using hn
    | false =>
      rw [hb] at h3
      rw [if_neg (by decide)] at h3
      subst h3
      simp [rightV, plainJ, okT, hk, distinct]
theorem numP_right {r r' : Bs} {n : Int} (d : Nat) (h : numP r = some (n, r')) : rightV d (jint n) = true := by
  obtain ⟨h1, h2, _⟩ := numP_ok h
  have h3 : decV 0 (digP r).1 ≤ 1000000000000000 := by
    unfold badN at h1
    simp only [Bool.or_eq_false_iff] at h1
    simpa using h1.2
  have h4 : -1000000000000000 ≤ n ∧ n ≤ 1000000000000000 := by
    rw [h2]
    split <;> omega
  simp [rightV, jint, plainJ, okT, distinct, rightsV, h4]
theorem rawP_right {lp : Bs → Except Int (JT × Bs)} {d : Nat} (hl : ∀ {r v r'}, lp r = .ok (v, r') → rightV d v = true) {r : Bs} {v : JT} {r' : Bs} (h : rawP lp r = .ok (v, r')) : rightV d v = true := by
  have hw : ∀ {w : Bs} {u : JT}, wordR w r u = .ok (v, r') → rightV d u = true → rightV d v = true := fun {w u} h hu => by
    unfold wordR at h
    split at h
    · simp at h
    · injection h with h; injection h with h1 h2; subst h1; exact hu
  unfold rawP at h
  split at h
  · exact hw h (by simp [rightV, jzero, plainJ, okT, distinct, rightsV])
  split at h
  · exact hw h (by simp [rightV, jtrue, plainJ, okT, distinct, rightsV])
  split at h
  · exact hw h (by simp [rightV, jfalse, plainJ, okT, distinct, rightsV])
  split at h
  · unfold optR at h
    split at h
    · simp at h
    · rename_i ht
      injection h with h; injection h with h1 h2; subst h1
      have := textP_ok ht
      unfold okT at this
      simp [rightV, jtext, plainJ, okT, distinct, rightsV]
      simpa using this
  split at h
  · exact hl h
  · unfold optR at h
    split at h
    · simp at h
    · rename_i ht
      injection h with h; injection h with h1 h2; subst h1
      exact numP_right d ht
theorem valueP_right : ∀ (d : Nat) {r : Bs} {v : JT} {r' : Bs}, valueP d r = .ok (v, r') → rightV d v = true
  | 0, r, v, r', h => by
    obtain ⟨r0, h1, rfl⟩ := skipR_ok h
    exact rawP_right (by intro _ _ _ h; simp at h) h1
  | d + 1, r, v, r', h => by
    obtain ⟨r0, h1, rfl⟩ := skipR_ok h
    exact rawP_right (fun h => listP_right (fun h => valueP_right d h) h) h1
theorem readP_right {s : Bs} {v : JT} (h : readP s = .ok v) : rightV 6 v = true := by
  unfold readP at h
  split at h
  · simp at h
  · split at h
    · simp at h
    · rename_i v' hv
      injection h with h; subst h
      exact valueP_right 6 hv
    · simp at h

-- T1: what is written is read
theorem skip_nb {c : UInt8} {r : Bs} (h : isBl c = false) : skip (c :: r) = c :: r := by simp [skip, h]
theorem hex_ctl {c : UInt8} (h : c < 32) : hexP 48 48 (hexd (c.toNat / 16)) (hexd (c.toNat % 16)) = some c := by
  have key : ∀ k : Fin 32, hexP 48 48 (hexd ((UInt8.ofNat k.1).toNat / 16)) (hexd ((UInt8.ofNat k.1).toNat % 16)) = some (UInt8.ofNat k.1) := by decide +kernel
  have h1 : c.toNat < 32 := by rwa [UInt8.lt_iff_toNat_lt] at h
  have := key ⟨c.toNat, h1⟩
  simpa using this
theorem escP_ctl {c : UInt8} (h : c < 32) (r : Bs) : escP (117 :: 48 :: 48 :: hexd (c.toNat / 16) :: hexd (c.toNat % 16) :: r) = some (c, r) := by
  simp [escP, esc, hex_ctl h]
theorem strA_quote : ∀ (s acc : Bs) (n : Nat) (r : Bs), okT s = true → (s.flatMap quoteC).length < n → strA n acc (s.flatMap quoteC ++ 34 :: r) = some (acc ++ s, r)
  | [], acc, n, r, _, hn => by
    obtain ⟨n, rfl⟩ : ∃ m, n = m + 1 := ⟨n - 1, by omega⟩
    simp [strA]
  | c :: s, acc, n, r, hs, hn => by
    obtain ⟨n, rfl⟩ : ∃ m, n = m + 1 := ⟨n - 1, by omega⟩
    have hc : c ≤ 126 := by simp [okT] at hs; exact hs.1
    have hs' : okT s = true := by simp [okT] at hs ⊢; exact hs.2
    have ih := fun acc n => strA_quote s acc n r hs'
    rw [List.flatMap_cons] at hn ⊢
    by_cases h1 : c < 32
    · have e : quoteC c = [92, 117, 48, 48, hexd (c.toNat / 16), hexd (c.toNat % 16)] := by simp [quoteC, h1]
      rw [e] at hn ⊢
      simp only [List.cons_append, List.nil_append, List.length_cons] at hn ⊢
      rw [strA]
      simp only [escP_ctl h1]
      rw [if_neg (by decide), if_neg (by decide), if_pos trivial, ih _ _ (by omega)]
      simp
    · by_cases h2 : c = 34 ∨ c = 92
      · have e : quoteC c = [92, c] := by simp only [quoteC, if_neg h1, if_pos h2]
        rw [e] at hn ⊢
        simp only [List.cons_append, List.nil_append, List.length_cons] at hn ⊢
        rw [strA]
        have e2 : escP (c :: (s.flatMap quoteC ++ 34 :: r)) = some (c, s.flatMap quoteC ++ 34 :: r) := by
          rcases h2 with rfl | rfl <;> simp [escP, esc]
        simp only [e2]
        rw [if_neg (by decide), if_neg (by decide), if_pos trivial, ih _ _ (by omega)]
        simp
      · have e : quoteC c = [c] := by simp only [quoteC, if_neg h1, if_neg h2]
        rw [e] at hn ⊢
        simp only [List.cons_append, List.nil_append, List.length_cons] at hn ⊢
        rw [strA]
        have h3 : ¬ (c < 32 ∨ 126 < c) := by
          rintro (h | h)
          · exact h1 h
          · rw [UInt8.lt_iff_toNat_lt] at h; rw [UInt8.le_iff_toNat_le] at hc; omega
        rw [if_neg h3, if_neg (fun h => h2 (.inl h)), if_neg (fun h => h2 (.inr h)), ih _ _ (by omega)]
        simp
theorem textP_quote (s r : Bs) (hs : okT s = true) : textP (quote s ++ r) = some (s, r) := by
  have h := strA_quote s [] (quote s ++ r).length r hs (by simp [quote]; omega)
  simp only [textP, quote, List.cons_append, look, List.tail_cons, List.append_assoc, List.nil_append] at h ⊢
  simpa using h
theorem takeD_app : ∀ (d : Bs) (n : Nat) (r : Bs), d.length < n → d.all isDig = true → isDig (look r) = false → takeD n (d ++ r) = (d, r)
  | [], n, r, hn, _, hr => by
    obtain ⟨n, rfl⟩ : ∃ m, n = m + 1 := ⟨n - 1, by simp at hn; omega⟩
    cases r with
    | nil => simp [takeD]
    | cons c r => simp [look] at hr; simp [takeD, hr]
  | c :: d, n, r, hn, hd, hr => by
    obtain ⟨n, rfl⟩ : ∃ m, n = m + 1 := ⟨n - 1, by simp at hn; omega⟩
    simp only [List.all_cons, Bool.and_eq_true] at hd
    simp only [List.cons_append, takeD, hd.1, if_true, takeD_app d n r (by simpa using hn) hd.2 hr]
theorem dig_of {k : Nat} (h : k < 10) : isDig (dg k) = true ∧ (dg k).toNat - 48 = k := by
  have key : ∀ k : Fin 10, isDig (dg k.1) = true ∧ (dg k.1).toNat - 48 = k.1 := by decide
  exact key ⟨k, h⟩
theorem decV_snoc (n : Nat) (d : Bs) (c : UInt8) : decV n (d ++ [c]) = 10 * decV n d + (c.toNat - 48) := by simp [decV]
/-- the digits of a number -/
theorem digB_ok : ∀ (f m : Nat), m < 10 ^ f → (digB f m).all isDig = true ∧ decV 0 (digB f m) = m ∧ (digB f m).length ≤ f ∧ (0 < f → digB f m ≠ []) ∧ (look (digB f m) = 48 → 0 < f → digB f m = [48])
  | 0, m, h => by
    simp at h
    subst h
    simp [digB, decV]
  | f + 1, m, h => by
    rw [digB]
    split
    · rename_i hm
      have := dig_of hm
      refine ⟨by simp [this.1], by simp [decV, this.2], by simp, by simp, ?_⟩
      intro h1 _
      simp only [look] at h1
      rw [h1]
    · rename_i hm
      have hf : 0 < f := by
        rcases Nat.eq_zero_or_pos f with rfl | h1
        · simp at h; omega
        · exact h1
      have hq : m / 10 < 10 ^ f := by
        rw [Nat.pow_succ] at h
        exact Nat.div_lt_of_lt_mul (by omega)
      obtain ⟨h1, h2, h3, h4, h5⟩ := digB_ok f (m / 10) hq
      have hd := dig_of (Nat.mod_lt m (by decide : 0 < 10))
      refine ⟨by rw [List.all_append, h1]; simp [hd.1], by rw [decV_snoc, h2, hd.2]; omega, by simp; omega, by simp, ?_⟩
      intro h6 _
      obtain ⟨c, l, hc⟩ : ∃ c l, digB f (m / 10) = c :: l := by
        cases hx : digB f (m / 10) with
        | nil => exact absurd hx (h4 hf)
        | cons c l => exact ⟨c, l, rfl⟩
      rw [hc] at h6
      simp only [List.cons_append, look] at h6
      have h7 := h5 (by rw [hc]; exact h6) hf
      rw [h7] at h2
      simp [decV] at h2
      omega
theorem isDig_ne {c : UInt8} (h : isDig c = true) : c ≠ 45 ∧ c ≠ 110 ∧ c ≠ 116 ∧ c ≠ 102 ∧ c ≠ 34 ∧ c ≠ 91 ∧ c ≠ 123 ∧ isBl c = false ∧ c ≠ 93 ∧ c ≠ 125 := by
  have key : ∀ k : Fin 256, isDig (UInt8.ofNat k.1) = true → UInt8.ofNat k.1 ≠ 45 ∧ UInt8.ofNat k.1 ≠ 110 ∧ UInt8.ofNat k.1 ≠ 116 ∧ UInt8.ofNat k.1 ≠ 102 ∧ UInt8.ofNat k.1 ≠ 34 ∧ UInt8.ofNat k.1 ≠ 91 ∧ UInt8.ofNat k.1 ≠ 123 ∧ isBl (UInt8.ofNat k.1) = false ∧ UInt8.ofNat k.1 ≠ 93 ∧ UInt8.ofNat k.1 ≠ 125 := by decide +kernel
  have := key ⟨c.toNat, c.toNat_lt⟩
  simp only [UInt8.ofNat_toNat] at this
  exact this h
theorem look_dig {f m : Nat} (h : m < 10 ^ f) (hf : 0 < f) : isDig (look (digB f m)) = true ∧ ∃ l, digB f m = look (digB f m) :: l := by
  obtain ⟨h1, h2, h3, h4, h5⟩ := digB_ok f m h
  cases hx : digB f m with
  | nil => exact absurd hx (h4 hf)
  | cons c l =>
    rw [hx] at h1
    simp only [List.all_cons, Bool.and_eq_true] at h1
    exact ⟨h1.1, l, rfl⟩
theorem numP_int (n : Int) (r : Bs) (h1 : -1000000000000000 ≤ n) (h2 : n ≤ 1000000000000000) (hr : isDig (look r) = false) : numP (intB n ++ r) = some (n, r) := by
  have hm : n.natAbs < 10 ^ 16 := by omega
  obtain ⟨a1, a2, a3, a4, a5⟩ := digB_ok 16 n.natAbs hm
  have hb : ∀ neg : Bool, (neg = true → n.natAbs ≠ 0) → badN neg (digB 16 n.natAbs) = false := fun neg hneg => by
    unfold badN
    rw [a2]
    have e1 : (digB 16 n.natAbs).isEmpty = false := by
      cases hx : digB 16 n.natAbs with
      | nil => exact absurd hx (a4 (by decide))
      | cons c l => rfl
    have e2 : decide (1000000000000000 < n.natAbs) = false := by simp; omega
    rw [e1, e2]
    simp only [Bool.false_or, Bool.or_false]
    cases hq : (look (digB 16 n.natAbs) == 48) with
    | false => rfl
    | true =>
      have h6 := a5 (by simpa using hq) (by decide)
      rw [h6]
      cases neg with
      | false => rfl
      | true =>
        rw [h6] at a2
        simp [decV] at a2
        exact absurd (by omega) (hneg rfl)
  by_cases hn : n < 0
  · have e : intB n ++ r = 45 :: (digB 16 n.natAbs ++ r) := by simp [intB, hn]
    have e1 : negP (45 :: (digB 16 n.natAbs ++ r)) = true := by simp [negP, look]
    have e2 : digP (45 :: (digB 16 n.natAbs ++ r)) = (digB 16 n.natAbs, r) := by
      unfold digP
      rw [e1, if_pos rfl, List.tail_cons]
      exact takeD_app _ _ _ (by omega) a1 hr
    rw [e, numP, e1, e2, hb true (fun _ => by omega), if_neg (by decide), if_pos rfl, a2]
    have : -(n.natAbs : Int) = n := by omega
    rw [this]
  · obtain ⟨b1, l, b2⟩ := look_dig hm (by decide)
    have e : intB n ++ r = digB 16 n.natAbs ++ r := by simp [intB, hn]
    have e1 : negP (digB 16 n.natAbs ++ r) = false := by
      have := (isDig_ne b1).1
      unfold negP
      rw [b2, List.cons_append]
      simpa [look] using this
    have e2 : digP (digB 16 n.natAbs ++ r) = (digB 16 n.natAbs, r) := by
      unfold digP
      rw [e1, if_neg (by decide)]
      exact takeD_app _ _ _ (by omega) a1 hr
    rw [e, numP, e1, e2, hb false (by simp), if_neg (by decide), if_neg (by decide), a2]
    have : (n.natAbs : Int) = n := by omega
    rw [this]

theorem textP_ne {r : Bs} (h : look r ≠ 34) : textP r = none := by simp [textP, h]
/-- a value's text begins well -/
theorem writeV_first : ∀ (v : JT) (d : Nat), rightV d v = true → ∃ c l, writeV v = c :: l ∧ isBl c = false ∧ c ≠ 93 ∧ c ≠ 125
  | .mk k n t ns ks, d, h => by
    rw [writeV]
    by_cases h0 : k = 0
    · rw [if_pos h0]; exact ⟨_, _, rfl, by decide, by decide, by decide⟩
    rw [if_neg h0]
    by_cases h1 : k = 1
    · rw [if_pos h1]; split <;> exact ⟨_, _, rfl, by decide, by decide, by decide⟩
    rw [if_neg h1]
    by_cases h2 : k = 2
    · rw [if_pos h2]
      have hn : n.natAbs < 10 ^ 16 := by
        rw [rightV] at h
        simp [h2] at h
        omega
      obtain ⟨b1, l, b2⟩ := look_dig hn (by decide)
      have := isDig_ne b1
      unfold intB
      split
      · exact ⟨_, _, rfl, by decide, by decide, by decide⟩
      · exact ⟨_, _, b2, this.2.2.2.2.2.2.2.1, this.2.2.2.2.2.2.2.2.1, this.2.2.2.2.2.2.2.2.2⟩
    rw [if_neg h2]
    by_cases h3 : k = 3
    · rw [if_pos h3]; exact ⟨_, _, rfl, by decide, by decide, by decide⟩
    rw [if_neg h3]
    split <;> exact ⟨_, _, rfl, by decide, by decide, by decide⟩
theorem endC_nb (m : Bool) : isBl (endC m) = false ∧ isDig (endC m) = false ∧ (44 : UInt8) ≠ endC m ∧ (34 : UInt8) ≠ endC m := by cases m <;> decide
theorem distinct_not {l r : List Bs} {x : Bs} (h : distinct (l ++ x :: r) = true) : x ∉ l := by
  induction l with
  | nil => simp
  | cons y l ih =>
    rw [List.cons_append, distinct] at h
    simp only [Bool.and_eq_true, Bool.not_eq_true', List.contains_eq_mem, decide_eq_false_iff_not] at h
    rintro (_ | ⟨_, h1⟩)
    · exact h.1 (by simp)
    · exact ih h.2 h1
theorem listL_round (val : Bs → Except Int (JT × Bs)) (m : Bool) (d : Nat) (hv : ∀ v r, rightV d v = true → isDig (look r) = false → val (writeV v ++ r) = .ok (v, skip r)) (r : Bs) :
    ∀ (ks : List JT) (ns ns0 : List Bs) (ks0 : List JT) (n : Nat), (∀ k ∈ ks, rightV d k = true) → (if m then ns.length = ks.length else ns = []) → ns.all okT = true → distinct (ns0 ++ ns) = true →
      (itemsV m ns ks ks0.isEmpty ++ endC m :: r).length < n → listL val m n ns0 ks0 (itemsV m ns ks ks0.isEmpty ++ endC m :: r) = .ok (ns0 ++ ns, ks0 ++ ks, skip r)
  | [], ns, ns0, ks0, n, _, hl, _, _, hn => by
    obtain ⟨n, rfl⟩ : ∃ m, n = m + 1 := ⟨n - 1, by omega⟩
    have hns : ns = [] := by
      cases m with
      | true => simpa using hl
      | false => simpa using hl
    subst hns
    have hs : signP (endC m) (endC m :: r) = (true, skip r) := by simp [signP, skip_nb (endC_nb m).1, look]
    rw [itemsV, List.nil_append, listL, hs]
    simp
  | k :: ks, ns, ns0, ks0, n, hk, hl, ho, hd, hn => by
    obtain ⟨n, rfl⟩ : ∃ m, n = m + 1 := ⟨n - 1, by omega⟩
    have hk1 := hk k (List.mem_cons_self ..)
    obtain ⟨c, wl, hw, hb, hc1, hc2⟩ := writeV_first k d hk1
    have hce : c ≠ endC m := by cases m <;> assumption
    -- what stands behind the value
    obtain ⟨T, hT⟩ : ∃ T, T = itemsV m ns.tail ks false ++ endC m :: r := ⟨_, rfl⟩
    have hT1 : ∃ c' l', T = c' :: l' ∧ isBl c' = false ∧ isDig c' = false := by
      rw [hT]
      cases ks with
      | nil => exact ⟨_, _, rfl, (endC_nb m).1, (endC_nb m).2.1⟩
      | cons k' ks' => rw [itemsV]; exact ⟨_, _, rfl, by decide, by decide⟩
    obtain ⟨c', l', hT1, hT2, hT3⟩ := hT1
    have hvk : val (writeV k ++ T) = .ok (k, T) := by
      rw [hv k T hk1 (by rw [hT1]; exact hT3), hT1, skip_nb hT2]
    -- the name
    obtain ⟨U, hU⟩ : ∃ U, U = (if m then quote (ns.headD []) ++ [58] else []) ++ (writeV k ++ T) := ⟨_, rfl⟩
    have hU1 : ∃ c' l', U = c' :: l' ∧ isBl c' = false ∧ c' ≠ endC m := by
      rw [hU]
      cases m with
      | true => exact ⟨_, _, rfl, by decide, by decide⟩
      | false => rw [hw]; exact ⟨_, _, rfl, hb, hce⟩
    obtain ⟨cu, lu, hU1, hU2, hU3⟩ := hU1
    have hin : itemsV m ns (k :: ks) ks0.isEmpty ++ endC m :: r = (if ks0.isEmpty then [] else [44]) ++ U := by
      rw [itemsV, hU, hT]
      simp [List.append_assoc]
    rw [hin] at hn ⊢
    have hs : signP (endC m) ((if ks0.isEmpty then [] else [44]) ++ U) = (false, (if ks0.isEmpty then [] else [44]) ++ U) := by
      cases ks0.isEmpty with
      | true => simp only [if_true, List.nil_append, signP, hU1, skip_nb hU2, look, if_neg hU3]
      | false => simp only [Bool.false_eq_true, if_false, List.cons_append, List.nil_append, signP, skip_nb (show isBl 44 = false by decide), look, if_neg (endC_nb m).2.2.1]
    have hcm : commaP ks0.isEmpty ((if ks0.isEmpty then [] else [44]) ++ U) = .ok U := by
      cases ks0.isEmpty with
      | true => simp [commaP]
      | false => simp [commaP, mustP, skip_nb (show isBl 44 = false by decide), look, hU1, skip_nb hU2]
    have hky : keyP m ns0 U = .ok (ns0 ++ (if m then [ns.headD []] else []), writeV k ++ T) := by
      cases m with
      | false => simp [keyP, hU]
      | true =>
        cases ns with
        | nil => simp at hl
        | cons s ns' =>
          have hos : okT s = true := by simp at ho; exact ho.1
          have h1 : U = quote s ++ 58 :: (writeV k ++ T) := by rw [hU]; simp
          have h2 : mustP 58 (58 :: (writeV k ++ T)) = .ok (writeV k ++ T) := by
            simp [mustP, skip_nb (show isBl 58 = false by decide), look, hw, skip_nb hb]
          rw [keyP, if_pos rfl, nameP, h1, textP_quote s _ hos]
          simp only [if_neg (distinct_not hd), h2]
          simp
    have ih := listL_round val m d hv r ks ns.tail (ns0 ++ (if m then [ns.headD []] else [])) (ks0 ++ [k]) n (fun x hx => hk x (List.mem_cons_of_mem _ hx))
      (by cases m with
        | true => simp at hl ⊢; omega
        | false => simp at hl ⊢; rw [hl]; rfl)
      (by cases ns with
        | nil => rfl
        | cons s ns' => simp at ho ⊢; exact ho.2)
      (by cases m with
        | true =>
          cases ns with
          | nil => simp at hl
          | cons s ns' => simpa using hd
        | false => simp at hl; subst hl; simpa using hd)
    have he : (ks0 ++ [k]).isEmpty = false := by simp
    rw [he, ← hT] at ih
    have hlen : T.length < n := by
      rw [hU] at hn
      simp [hw] at hn
      omega
    rw [listL, hs]
    simp only [hcm, hky, hvk, ih hlen]
    cases m with
    | true =>
      cases ns with
      | nil => simp at hl
      | cons s ns' => simp
    | false => simp at hl; subst hl; simp
theorem wordR_app (w r : Bs) (v : JT) : wordR w (w ++ r) v = .ok (v, r) := by
  have h : w.isPrefixOf (w ++ r) = true := List.isPrefixOf_iff_prefix.2 (List.prefix_append _ _)
  simp [wordR, wordP, h]
theorem skip_skip : ∀ r : Bs, skip (skip r) = skip r
  | [] => rfl
  | c :: r => by
    by_cases h : isBl c = true
    · simp only [skip, h, if_true, skip_skip r]
    · simp [skip, h]
theorem rawP_write (lp : Bs → Except Int (JT × Bs)) (d : Nat) (v : JT) (r : Bs) (h : rightV d v = true) (hr : isDig (look r) = false)
    (hl : ∀ k n t ns ks, v = .mk k n t ns ks → k = 4 ∨ k = 5 → lp (writeV v ++ r) = .ok (v, skip r)) : ∃ r1, rawP lp (writeV v ++ r) = .ok (v, r1) ∧ skip r1 = skip r := by
  obtain ⟨k, n, t, ns, ks⟩ := v
  have h' := h
  rw [rightV] at h
  simp only [plainJ, Bool.and_eq_true, Bool.or_eq_true, Bool.not_eq_true', beq_iff_eq, decide_eq_true_eq, List.isEmpty_iff, bne_iff_ne] at h
  obtain ⟨⟨⟨⟨⟨⟨⟨⟨⟨⟨⟨hn, hk⟩, hns⟩, ht⟩, _⟩, hk0⟩, _⟩, hot⟩, _⟩, hint⟩, _⟩, _⟩ := h
  by_cases h0 : k = 0
  · subst h0
    obtain rfl : n = 0 := by simpa using hn
    obtain rfl : ks = [] := by simpa using hk
    obtain rfl : ns = [] := by simpa using hns
    obtain rfl : t = [] := by simpa using ht
    rw [writeV, if_pos rfl]
    simp only [rawP, List.cons_append, look, if_true]
    exact ⟨r, wordR_app [110, 117, 108, 108] r jzero, rfl⟩
  by_cases h1 : k = 1
  · subst h1
    obtain rfl : ks = [] := by simpa using hk
    obtain rfl : ns = [] := by simpa using hns
    obtain rfl : t = [] := by simpa using ht
    rw [writeV, if_neg (by decide), if_pos rfl]
    by_cases hn1 : n = 1
    · subst hn1
      rw [if_pos rfl]
      have := wordR_app [116, 114, 117, 101] r jtrue
      exact ⟨r, by simpa [rawP, look, jtrue, jfalse] using this, rfl⟩
    · obtain rfl : n = 0 := by
        simp at hn
        rcases hn with h | h
        · exact h
        · exact absurd h hn1
      rw [if_neg (by decide)]
      have := wordR_app [102, 97, 108, 115, 101] r jfalse
      exact ⟨r, by simpa [rawP, look, jtrue, jfalse] using this, rfl⟩
  by_cases h2 : k = 2
  · subst h2
    obtain rfl : ks = [] := by simpa using hk
    obtain rfl : ns = [] := by simpa using hns
    obtain rfl : t = [] := by simpa using ht
    have hb : -1000000000000000 ≤ n ∧ n ≤ 1000000000000000 := by simpa using hint
    obtain ⟨b1, l, b2⟩ := look_dig (show n.natAbs < 10 ^ 16 by omega) (by decide)
    have hx := isDig_ne b1
    rw [writeV, if_neg (by decide), if_neg (by decide), if_pos rfl]
    have hlook : look (intB n ++ r) = if n < 0 then 45 else look (digB 16 n.natAbs) := by
      unfold intB
      split
      · rfl
      · rw [b2]; rfl
    have hq : ∀ c : UInt8, c ≠ 45 → (∀ x, isDig x = true → x ≠ c) → look (intB n ++ r) ≠ c := fun c h1 h2 => by
      rw [hlook]
      split
      · exact fun h => h1 h.symm
      · exact h2 _ b1
    rw [rawP, if_neg (hq 110 (by decide) (fun x h => (isDig_ne h).2.1)), if_neg (hq 116 (by decide) (fun x h => (isDig_ne h).2.2.1)), if_neg (hq 102 (by decide) (fun x h => (isDig_ne h).2.2.2.1)),
      if_neg (hq 34 (by decide) (fun x h => (isDig_ne h).2.2.2.2.1)), if_neg (by
        rintro (h | h)
        · exact hq 91 (by decide) (fun x h => (isDig_ne h).2.2.2.2.2.1) h
        · exact hq 123 (by decide) (fun x h => (isDig_ne h).2.2.2.2.2.2.1) h), numP_int n r hb.1 hb.2 hr]
    exact ⟨r, rfl, rfl⟩
  by_cases h3 : k = 3
  · subst h3
    obtain rfl : n = 0 := by simpa using hn
    obtain rfl : ks = [] := by simpa using hk
    obtain rfl : ns = [] := by simpa using hns
    rw [writeV, if_neg (by decide), if_neg (by decide), if_neg (by decide), if_pos rfl]
    have := textP_quote t r hot
    have hlk : look (quote t ++ r) = 34 := rfl
    rw [rawP, hlk, if_neg (by decide), if_neg (by decide), if_neg (by decide), if_pos rfl, this]
    exact ⟨r, rfl, rfl⟩
  have hk45 : k = 4 ∨ k = 5 := by omega
  have hlk : look (writeV (.mk k n t ns ks) ++ r) = 91 ∨ look (writeV (.mk k n t ns ks) ++ r) = 123 := by
    rw [writeV, if_neg h0, if_neg h1, if_neg h2, if_neg h3]
    rcases hk45 with rfl | rfl
    · exact .inl rfl
    · exact .inr rfl
  have hl := hl _ _ _ _ _ rfl hk45
  rw [rawP]
  rcases hlk with e | e
  · rw [e, if_neg (by decide), if_neg (by decide), if_neg (by decide), if_neg (by decide), if_pos (.inl rfl)]
    exact ⟨_, hl, skip_skip r⟩
  · rw [e, if_neg (by decide), if_neg (by decide), if_neg (by decide), if_neg (by decide), if_pos (.inr rfl)]
    exact ⟨_, hl, skip_skip r⟩
theorem skip_write {v : JT} {d : Nat} (h : rightV d v = true) (r : Bs) : skip (writeV v ++ r) = writeV v ++ r := by
  obtain ⟨c, l, h1, h2, _⟩ := writeV_first v d h
  rw [h1, List.cons_append, skip_nb h2]
theorem valueP_write : ∀ (d : Nat) (v : JT) (r : Bs), rightV d v = true → isDig (look r) = false → valueP d (writeV v ++ r) = .ok (v, skip r)
  | 0, v, r, h, hr => by
    obtain ⟨r1, h1, h2⟩ := rawP_write (fun _ => .error 9) 0 v r h hr (by
      rintro k n t ns ks rfl hk
      rw [rightV] at h
      rcases hk with rfl | rfl <;> simp at h)
    rw [valueP, skip_write h, h1, skipR, h2]
  | d + 1, v, r, h, hr => by
    obtain ⟨r1, h1, h2⟩ := rawP_write (listP (valueP d)) (d + 1) v r h hr (by
      rintro k n t ns ks rfl hk
      have hw : writeV (.mk k n t ns ks) = (if k = 5 then 123 else 91) :: (itemsV (k == 5) ns ks true ++ [if k = 5 then 125 else 93]) := by
        rw [writeV, if_neg (by omega), if_neg (by omega), if_neg (by omega), if_neg (by omega)]
      rw [rightV] at h
      simp only [plainJ, Bool.and_eq_true, Bool.or_eq_true, Bool.not_eq_true', beq_iff_eq, decide_eq_true_eq, List.isEmpty_iff, bne_iff_ne] at h
      obtain ⟨⟨⟨⟨⟨⟨⟨⟨⟨⟨⟨hn, _⟩, hns⟩, ht⟩, _⟩, _⟩, hlen⟩, _⟩, hnames⟩, _⟩, hdis⟩, hkids⟩ := h
      have hkids := (rightsV_iff d ks).1 (by simpa using hkids)
      have hn0 : n = 0 := by omega
      have ht0 : t = [] := by
        rcases ht with h | h
        · exact h
        · omega
      subst hn0 ht0
      have e1 : (k == 5) = true ↔ k = 5 := by simp
      have key := listL_round (valueP d) (k == 5) d (fun v r h hr => valueP_write d v r h hr) r ks ns [] [] (writeV (.mk k 0 [] ns ks) ++ r).length hkids
        (by rcases hk with rfl | rfl
            · simpa using hns
            · simpa using hlen) hnames (by simpa using hdis)
        (by rw [hw]; simp)
      have hin : writeV (.mk k 0 [] ns ks) ++ r = (if k = 5 then 123 else 91) :: (itemsV (k == 5) ns ks true ++ endC (k == 5) :: r) := by
        rw [hw]
        rcases hk with rfl | rfl <;> simp [endC]
      have hl2 : (look ((if k = 5 then 123 else 91) :: (itemsV (k == 5) ns ks true ++ endC (k == 5) :: r)) == 123) = (k == 5) := by
        rcases hk with rfl | rfl <;> rfl
      have hsk : skip (itemsV (k == 5) ns ks true ++ endC (k == 5) :: r) = itemsV (k == 5) ns ks true ++ endC (k == 5) :: r := by
        cases ks with
        | nil => rw [itemsV, List.nil_append, skip_nb (endC_nb _).1]
        | cons k1 kr =>
          obtain ⟨c, l, h1, h2, _⟩ := writeV_first k1 d (hkids k1 (List.mem_cons_self ..))
          rw [itemsV]
          rcases hk with rfl | rfl
          · simp [h1, skip_nb h2]
          · simp [quote, skip_nb (show isBl 34 = false by decide)]
      rw [hin] at key ⊢
      simp only [List.isEmpty_nil, List.nil_append] at key
      rw [listP, hl2, List.tail_cons, hsk, key]
      simp only
      rcases hk with rfl | rfl <;> rfl)
    rw [valueP, skip_write h, h1, skipR, h2]
theorem readP_write (v : JT) (h : rightV 6 v = true) (hl : (writeV v).length ≤ 2000) : readP (writeV v) = .ok v := by
  have := valueP_write 6 v [] h (by decide)
  rw [List.append_nil] at this
  rw [readP, if_neg (by omega), this]
  rfl

end Go.Proofs.Ytcfbnjaelniahaa.Js
