/-
  Plain: JSON's texts: how they are read and written.
-/
import Derived.Test.YtcfbnjaelniahaaBox
namespace Go.Proofs.Ytcfbnjaelniahaa.Js
set_option linter.unusedVariables false

abbrev Bs := List UInt8
def bs (l : Bs) : ByteArray := ⟨l.toArray⟩
inductive JT where
  | mk (kind num : Int) (text : Bs) (names : List Bs) (kids : List JT)
theorem JT.ind {p : JT → Prop} (h : ∀ k n t ns ks, (∀ x ∈ ks, p x) → p (.mk k n t ns ks)) : ∀ j, p j
  | .mk k n t ns ks => h k n t ns ks (fun x _ => JT.ind h x)
def jzero : JT := .mk 0 0 [] [] []
def isBl (c : UInt8) : Bool := c == 32 || c == 9 || c == 10 || c == 13
def skip : Bs → Bs
  | [] => []
  | c :: r => if isBl c then skip r else c :: r
def look : Bs → UInt8
  | [] => 0
  | c :: _ => c
def signP (c : UInt8) (r : Bs) : Bool × Bs := if look (skip r) = c then (true, skip (skip r).tail) else (false, skip r)
def mustP (c : UInt8) (r : Bs) : Except Int Bs := if look (skip r) = c then .ok (skip (skip r).tail) else .error 13
def esc (c : UInt8) : Option UInt8 :=
  if c = 34 then some 34 else if c = 92 then some 92 else if c = 47 then some 47 else if c = 98 then some 8 else if c = 102 then some 12
  else if c = 110 then some 10 else if c = 114 then some 13 else if c = 116 then some 9 else none
def low (c : UInt8) : UInt8 := if 65 ≤ c ∧ c ≤ 70 then c + 32 else c
def hexv (c : UInt8) : Option Nat := if 48 ≤ c ∧ c ≤ 57 then some (c.toNat - 48) else if 97 ≤ c ∧ c ≤ 102 then some (c.toNat - 87) else none
def hexP (a0 a1 a2 a3 : UInt8) : Option UInt8 :=
  if a0 = 48 ∧ a1 = 48 then match hexv (low a2), hexv (low a3) with
    | some x, some y => if 16 * x + y ≤ 126 then some (UInt8.ofNat (16 * x + y)) else none
    | _, _ => none
  else none
/-- what stands behind a backslash -/
def escP : Bs → Option (UInt8 × Bs)
  | [] => none
  | d :: r => match esc d with
    | some b => some (b, r)
    | none => if d = 117 then match r with
        | a0 :: a1 :: a2 :: a3 :: r2 => match hexP a0 a1 a2 a3 with
          | some b => some (b, r2)
          | none => none
        | _ => none
      else none
theorem escP_len {r : Bs} {b : UInt8} {r' : Bs} (h : escP r = some (b, r')) : r'.length < r.length := by
  unfold escP at h
  split at h
  · simp at h
  · split at h
    · injection h with h; injection h with h1 h2; subst h2; simp
    · split at h
      · split at h
        · split at h
          · injection h with h; injection h with h1 h2; subst h2; simp; omega
          · simp at h
        · simp at h
      · simp at h
/-- a string, behind its opening sign; so many bytes at most -/
def strA : Nat → Bs → Bs → Option (Bs × Bs)
  | 0, _, _ => none
  | _ + 1, _, [] => none
  | n + 1, acc, c :: r =>
    if c < 32 ∨ 126 < c then none
    else if c = 34 then some (acc, r)
    else if c = 92 then match escP r with
      | some (b, r') => strA n (acc ++ [b]) r'
      | none => none
    else strA n (acc ++ [c]) r
def textP (r : Bs) : Option (Bs × Bs) := if look r = 34 then strA r.length [] r.tail else none
def isDig (c : UInt8) : Bool := 48 ≤ c && c ≤ 57
def takeD : Nat → Bs → Bs × Bs
  | n + 1, c :: r => if isDig c then (c :: (takeD n r).1, (takeD n r).2) else ([], c :: r)
  | 0, r => ([], r)
  | _, [] => ([], [])
def decV (n : Nat) (d : Bs) : Nat := d.foldl (fun n c => 10 * n + (c.toNat - 48)) n
def negP (r : Bs) : Bool := look r == 45
def digP (r : Bs) : Bs × Bs := takeD 17 (if negP r then r.tail else r)
def badN (neg : Bool) (d : Bs) : Bool := d.isEmpty || (look d == 48 && (1 < d.length || neg)) || 1000000000000000 < decV 0 d
def numP (r : Bs) : Option (Int × Bs) :=
  if badN (negP r) (digP r).1 = true then none else some (if negP r = true then -(decV 0 (digP r).1 : Int) else (decV 0 (digP r).1 : Int), (digP r).2)
def wordP (w r : Bs) : Option Bs := if w.isPrefixOf r then some (r.drop w.length) else none
def nameP (ns : List Bs) (r : Bs) : Except Int (List Bs × Bs) :=
  match textP r with
  | none => .error 13
  | some (s, r1) => if s ∈ ns then .error 8 else match mustP 58 r1 with
    | .error e => .error e
    | .ok r2 => .ok (ns ++ [s], r2)
def endC (m : Bool) : UInt8 := if m then 125 else 93
def commaP (e : Bool) (r : Bs) : Except Int Bs := if e = true then .ok r else mustP 44 r
def keyP (m : Bool) (ns : List Bs) (r : Bs) : Except Int (List Bs × Bs) := if m = true then nameP ns r else .ok (ns, r)
def listL (val : Bs → Except Int (JT × Bs)) (m : Bool) : Nat → List Bs → List JT → Bs → Except Int (List Bs × List JT × Bs)
  | 0, _, _, _ => .error 13
  | n + 1, ns, ks, r =>
    match signP (endC m) r with
    | (true, r1) => .ok (ns, ks, r1)
    | (false, r1) => match commaP ks.isEmpty r1 with
      | .error e => .error e
      | .ok r2 => match keyP m ns r2 with
        | .error e => .error e
        | .ok (ns', r3) => match val r3 with
          | .error e => .error e
          | .ok (k, r4) => listL val m n ns' (ks ++ [k]) r4
theorem listL_ok {val : Bs → Except Int (JT × Bs)} {m : Bool} {n : Nat} {ns : List Bs} {ks : List JT} {r : Bs} {x : List Bs × List JT × Bs} (h : listL val m (n + 1) ns ks r = .ok x) :
    (∃ r1, signP (endC m) r = (true, r1) ∧ x = (ns, ks, r1)) ∨
    ∃ r1 r2 ns' r3 k r4, signP (endC m) r = (false, r1) ∧ commaP ks.isEmpty r1 = .ok r2 ∧ keyP m ns r2 = .ok (ns', r3) ∧ val r3 = .ok (k, r4) ∧ listL val m n ns' (ks ++ [k]) r4 = .ok x := by
  rw [listL] at h
  split at h
  · rename_i r1 h1
    injection h with h
    exact .inl ⟨r1, h1, h.symm⟩
  · rename_i r1 h1
    split at h
    · simp at h
    · rename_i r2 h2
      split at h
      · simp at h
      · rename_i ns' r3 h3
        split at h
        · simp at h
        · rename_i k r4 h4
          exact .inr ⟨r1, r2, ns', r3, k, r4, h1, h2, h3, h4, h⟩
def listP (val : Bs → Except Int (JT × Bs)) (r : Bs) : Except Int (JT × Bs) :=
  match listL val (look r == 123) r.length [] [] (skip r.tail) with
  | .error e => .error e
  | .ok (ns, ks, r') => .ok (.mk (if look r == 123 then 5 else 4) 0 [] ns ks, r')
def optR {α : Type} : Option (α × Bs) → (α → JT) → Except Int (JT × Bs)
  | none, _ => .error 13
  | some (a, r), f => .ok (f a, r)
def wordR (w r : Bs) (v : JT) : Except Int (JT × Bs) := match wordP w r with
  | none => .error 13
  | some r' => .ok (v, r')
def jtrue : JT := .mk 1 1 [] [] []
def jfalse : JT := .mk 1 0 [] [] []
def jint (n : Int) : JT := .mk 2 n [] [] []
def jtext (s : Bs) : JT := .mk 3 0 s [] []
def rawP (lp : Bs → Except Int (JT × Bs)) (r : Bs) : Except Int (JT × Bs) :=
  if look r = 110 then wordR [110, 117, 108, 108] r jzero
  else if look r = 116 then wordR [116, 114, 117, 101] r jtrue
  else if look r = 102 then wordR [102, 97, 108, 115, 101] r jfalse
  else if look r = 34 then optR (textP r) jtext
  else if look r = 91 ∨ look r = 123 then lp r
  else optR (numP r) jint
def skipR : Except Int (JT × Bs) → Except Int (JT × Bs)
  | .error e => .error e
  | .ok (v, r) => .ok (v, skip r)
/-- a value, so many lists and maps in one another -/
def valueP : Nat → Bs → Except Int (JT × Bs)
  | 0, r => skipR (rawP (fun _ => .error 9) (skip r))
  | d + 1, r => skipR (rawP (listP (valueP d)) (skip r))
def readP (s : Bs) : Except Int JT :=
  if 2000 < s.length then .error 4 else match valueP 6 s with
    | .error e => .error e
    | .ok (v, []) => .ok v
    | .ok (_, _ :: _) => .error 13
def hexd (n : Nat) : UInt8 := if n < 10 then UInt8.ofNat (48 + n) else UInt8.ofNat (87 + n)
def quoteC (c : UInt8) : Bs := if c < 32 then [92, 117, 48, 48, hexd (c.toNat / 16), hexd (c.toNat % 16)] else if c = 34 ∨ c = 92 then [92, c] else [c]
def quote (s : Bs) : Bs := 34 :: (s.flatMap quoteC ++ [34])
def dg (k : Nat) : UInt8 := UInt8.ofNat (48 + k)
def digB : Nat → Nat → Bs
  | 0, _ => []
  | f + 1, n => if n < 10 then [dg n] else digB f (n / 10) ++ [dg (n % 10)]
def intB (n : Int) : Bs := if n < 0 then 45 :: digB 16 n.natAbs else digB 16 n.natAbs
mutual
def writeV : JT → Bs
  | .mk k n t ns ks =>
    if k = 0 then [110, 117, 108, 108]
    else if k = 1 then (if n = 1 then [116, 114, 117, 101] else [102, 97, 108, 115, 101])
    else if k = 2 then intB n
    else if k = 3 then quote t
    else (if k = 5 then 123 else 91) :: (itemsV (k == 5) ns ks true ++ [if k = 5 then 125 else 93])
def itemsV : Bool → List Bs → List JT → Bool → Bs
  | _, _, [], _ => []
  | m, ns, k :: r, f => (if f then [] else [44]) ++ ((if m then quote (ns.headD []) ++ [58] else []) ++ (writeV k ++ itemsV m ns.tail r false))
end
def okT (s : Bs) : Bool := s.all fun c => c ≤ 126
def plainJ (k n : Int) (t : Bs) (ns : List Bs) (ks : List JT) : Bool :=
  (n == 0 || k == 2 || (k == 1 && n == 1)) && (ks.isEmpty || k == 4 || k == 5) && (ns.isEmpty || k == 5) && (t.isEmpty || k == 3)
def distinct : List Bs → Bool
  | [] => true
  | x :: r => !r.contains x && distinct r
mutual
def rightV : Nat → JT → Bool
  | d, .mk k n t ns ks => plainJ k n t ns ks && !(d == 0 && 4 ≤ k) && (0 ≤ k && k ≤ 5) && (k != 5 || ns.length == ks.length) && okT t && ns.all okT
      && (k != 2 || (-1000000000000000 ≤ n && n ≤ 1000000000000000)) && distinct ns && rightsV (d - 1) ks
def rightsV : Nat → List JT → Bool
  | _, [] => true
  | d, k :: r => rightV d k && rightsV d r
end
theorem rightsV_iff (d : Nat) : ∀ ks : List JT, rightsV d ks = true ↔ ∀ k ∈ ks, rightV d k = true
  | [] => by simp [rightsV]
  | k :: r => by simp [rightsV, rightsV_iff d r]
-- lengths
theorem skip_len : ∀ r : Bs, (skip r).length ≤ r.length
  | [] => by simp [skip]
  | c :: r => by
    have := skip_len r
    unfold skip
    split <;> simp <;> omega
theorem strA_len : ∀ (n : Nat) (acc r : Bs) {s r' : Bs}, strA n acc r = some (s, r') → r'.length < r.length
  | 0, acc, r, s, r', h => by simp [strA] at h
  | n + 1, acc, [], s, r', h => by simp [strA] at h
  | n + 1, acc, c :: r, s, r', h => by
    unfold strA at h
    split at h
    · simp at h
    · split at h
      · injection h with h; injection h with h1 h2; subst h2; simp
      · split at h
        · split at h
          · rename_i b r1 he
            have h1 := escP_len he
            have h2 := strA_len n _ _ h
            simp; omega
          · simp at h
        · have h2 := strA_len n _ _ h
          simp; omega
theorem textP_len {r s r' : Bs} (h : textP r = some (s, r')) : r'.length < r.length := by
  unfold textP at h
  split at h
  · have := strA_len _ _ _ h
    cases r <;> simp at * <;> omega
  · simp at h
theorem takeD_len : ∀ (n : Nat) (r : Bs), (takeD n r).1.length + (takeD n r).2.length = r.length
  | 0, r => by simp [takeD]
  | n + 1, [] => by simp [takeD]
  | n + 1, c :: r => by
    have := takeD_len n r
    unfold takeD
    split <;> simp; omega
theorem numP_ok {r r' : Bs} {n : Int} (h : numP r = some (n, r')) : badN (negP r) (digP r).1 = false ∧ n = (if negP r = true then -(decV 0 (digP r).1 : Int) else (decV 0 (digP r).1 : Int)) ∧ r' = (digP r).2 := by
  unfold numP at h
  split at h
  · simp at h
  · rename_i hc
    injection h with h; injection h with h1 h2
    exact ⟨by simpa using hc, h1.symm, h2.symm⟩
theorem numP_len {r r' : Bs} {n : Int} (h : numP r = some (n, r')) : r'.length < r.length := by
  obtain ⟨h1, h2, rfl⟩ := numP_ok h
  have h3 := takeD_len 17 (if negP r then r.tail else r)
  have h4 : (digP r).1 ≠ [] := fun h => by simp [badN, h] at h1
  have h5 := List.length_pos_iff.2 h4
  have h6 : (if negP r then r.tail else r).length ≤ r.length := by split <;> simp
  unfold digP at h5 ⊢
  omega
theorem mustP_len {c : UInt8} {r r' : Bs} (h : mustP c r = .ok r') : r'.length ≤ r.length := by
  unfold mustP at h
  split at h
  · injection h with h; subst h
    have h1 := skip_len (skip r).tail
    have h2 := skip_len r
    simp at h1
    omega
  · simp at h
theorem signP_len (c : UInt8) (r : Bs) : (signP c r).2.length ≤ r.length := by
  have h2 := skip_len r
  unfold signP
  split
  · have h1 := skip_len (skip r).tail
    simp at h1 ⊢
    omega
  · exact h2
theorem nameP_len {ns ns' : List Bs} {r r' : Bs} (h : nameP ns r = .ok (ns', r')) : r'.length ≤ r.length := by
  unfold nameP at h
  split at h
  · simp at h
  · rename_i s r1 ht
    split at h
    · simp at h
    · split at h
      · simp at h
      · rename_i r2 hm
        injection h with h; injection h with h1 h2; subst h2
        have := textP_len ht
        have := mustP_len hm
        omega
theorem wordR_len {w r r' : Bs} {v v' : JT} (hw : w ≠ []) (h : wordR w r v = .ok (v', r')) : r'.length < r.length := by
  unfold wordR wordP at h
  split at h
  · simp at h
  · rename_i r1 hr
    split at hr
    · rename_i hp
      injection hr with hr
      injection h with h; injection h with h1 h2
      rw [← h2, ← hr]
      have := List.IsPrefix.length_le (List.isPrefixOf_iff_prefix.1 hp)
      have := List.length_pos_iff.2 hw
      simp; omega
    · simp at hr
/-- what a round takes -/
theorem listL_len (val : Bs → Except Int (JT × Bs)) (m : Bool) (hv : ∀ {r v r'}, val r = .ok (v, r') → r'.length < r.length) : ∀ (n : Nat) (ns : List Bs) (ks : List JT) (r : Bs) {ns' : List Bs} {ks' : List JT} {r' : Bs}, listL val m n ns ks r = .ok (ns', ks', r') → r'.length ≤ r.length
  | 0, ns, ks, r, ns', ks', r', h => by simp [listL] at h
  | n + 1, ns, ks, r, ns', ks', r', h => by
    have hs := signP_len (endC m) r
    rcases listL_ok h with ⟨r1, h1, h2⟩ | ⟨r1, r2, ns1, r3, k, r4, h1, h2, h3, h4, h5⟩
    · injection h2 with h2 h3; injection h3 with h3 h4; subst h4
      rw [h1] at hs
      exact hs
    · rw [h1] at hs
      have l2 : r2.length ≤ r1.length := by
        unfold commaP at h2
        split at h2
        · injection h2 with h2; subst h2; exact Nat.le_refl _
        · have := mustP_len h2; omega
      have l3 : r3.length ≤ r2.length := by
        unfold keyP at h3
        split at h3
        · exact nameP_len h3
        · injection h3 with h3; injection h3 with h3 h4; subst h4; exact Nat.le_refl _
      have := hv h4
      have := listL_len val m hv n _ _ _ h5
      simp at hs
      omega
theorem rawP_len {lp : Bs → Except Int (JT × Bs)} (hl : ∀ {r v r'}, lp r = .ok (v, r') → r ≠ [] → r'.length < r.length) {r : Bs} {v : JT} {r' : Bs} (h : rawP lp r = .ok (v, r')) : r'.length < r.length := by
  unfold rawP at h
  split at h
  · exact wordR_len (by simp) h
  split at h
  · exact wordR_len (by simp) h
  split at h
  · exact wordR_len (by simp) h
  split at h
  · unfold optR at h
    split at h
    · simp at h
    · rename_i ht
      injection h with h; injection h with h1 h2; subst h2
      exact textP_len ht
  split at h
  · rename_i hq
    exact hl h (by rintro rfl; simp [look] at hq)
  · unfold optR at h
    split at h
    · simp at h
    · rename_i ht
      injection h with h; injection h with h1 h2; subst h2
      exact numP_len ht
theorem listP_len {val : Bs → Except Int (JT × Bs)} (hv : ∀ {r v r'}, val r = .ok (v, r') → r'.length < r.length) {r : Bs} {v : JT} {r' : Bs} (h : listP val r = .ok (v, r')) (hr : r ≠ []) : r'.length < r.length := by
  unfold listP at h
  split at h
  · simp at h
  · rename_i ht
    injection h with h; injection h with h1 h2; subst h2
    have h1 := listL_len val _ hv _ _ _ _ ht
    have h2 := skip_len r.tail
    have := List.length_pos_iff.2 hr
    simp at h2
    omega
theorem skipR_ok {x : Except Int (JT × Bs)} {v : JT} {r : Bs} (h : skipR x = .ok (v, r)) : ∃ r0, x = .ok (v, r0) ∧ r = skip r0 := by
  unfold skipR at h
  split at h
  · simp at h
  · rename_i v1 r1
    injection h with h; injection h with h1 h2; subst h1 h2
    exact ⟨_, rfl, rfl⟩
theorem valueP_len : ∀ (d : Nat) {r : Bs} {v : JT} {r' : Bs}, valueP d r = .ok (v, r') → r'.length < r.length
  | 0, r, v, r', h => by
    obtain ⟨r0, h1, rfl⟩ := skipR_ok h
    have := rawP_len (by intro _ _ _ h; simp at h) h1
    have := skip_len r
    have := skip_len r0
    omega
  | d + 1, r, v, r', h => by
    obtain ⟨r0, h1, rfl⟩ := skipR_ok h
    have := rawP_len (fun h hr => listP_len (fun h => valueP_len d h) h hr) h1
    have := skip_len r
    have := skip_len r0
    omega

end Go.Proofs.Ytcfbnjaelniahaa.Js
