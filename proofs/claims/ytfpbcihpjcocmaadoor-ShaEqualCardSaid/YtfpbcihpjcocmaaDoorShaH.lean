/-
  The reference's H as it lies: a struct of slices.
-/
import Derived.Test.YtfpbcihpjcocmaaDoorRefX
import Derived.Test.YtfpbcihpjcocmaaDoorShaS
namespace Go.Proofs.YtfpbcihpjcocmaaDoor
set_option linter.unusedSimpArgs false
set_option linter.unusedVariables false
open Go.RowKit

theorem wordsV_snoc (K : IntKind) (l : List Nat) (x : Nat) : wordsV K (l ++ [x]) = wordsV K l ++ [.int K (x : Int)] := by simp [wordsV]
theorem wordsV_get (K : IntKind) (l : List Nat) (i : Nat) (h : i < l.length) : (wordsV K l)[i]? = some (.int K ((l.getD i 0 : Nat) : Int)) := by
  simp [wordsV, h]
/-- where H's slices lie -/
structure HP where
  a : Addr
  b : Addr
  c : Addr
  d : Addr
  k : Addr
  f : Addr
  ca : Nat
  cb : Nat
  cc : Nat
  cd : Nat
  ck : Nat
  cf : Nat
def tri (t : Nat × Nat × Nat) : List Value := triV t.1 t.2.1 t.2.2
def kL (F : ShaF) : List Nat := (List.range F.many).map (kN F)
theorem kL_get (F : ShaF) (t : Nat) (h : t < F.many) : (kL F)[t]? = some (kN F t) := by simp [kL, h]
theorem kL_length (F : ShaF) : (kL F).length = F.many := by simp [kL]
def hv (F : ShaF) (p : HP) : Array Value := hC F.bits F.many (.slice (some p.a) 3 p.ca) (.slice (some p.b) 3 p.cb) (.slice (some p.c) 3 p.cc) (.slice (some p.d) 3 p.cd) (.slice (some p.k) F.many p.ck) (.slice (some p.f) 8 p.cf)
structure HOk (F : ShaF) (p : HP) (w : World) (B : Nat) : Prop where
  a : Rd w B (some p.a) (tri F.s0)
  b : Rd w B (some p.b) (tri F.s1)
  c : Rd w B (some p.c) (tri F.t0)
  d : Rd w B (some p.d) (tri F.t1)
  k : Rd w B (some p.k) (wordsV .u64 (kL F))
  f : Rd w B (some p.f) (wordsV .u64 (s8L (startS F)))
  ca : 3 ≤ p.ca
  cb : 3 ≤ p.cb
  cc : 3 ≤ p.cc
  cd : 3 ≤ p.cd
  ck : F.many ≤ p.ck
  cf : 8 ≤ p.cf
theorem HOk.below {F : ShaF} {p : HP} {w w' : World} {B : Nat} (h : HOk F p w B) (hb : Below B w w') : HOk F p w' B :=
  ⟨h.a.below hb, h.b.below hb, h.c.below hb, h.d.below hb, h.k.below hb, h.f.below hb, h.ca, h.cb, h.cc, h.cd, h.ck, h.cf⟩
theorem HOk.mono {F : ShaF} {p : HP} {w : World} {B B' : Nat} (h : HOk F p w B) (hb : B ≤ B') : HOk F p w B' :=
  ⟨h.a.mono hb, h.b.mono hb, h.c.mono hb, h.d.mono hb, h.k.mono hb, h.f.mono hb, h.ca, h.cb, h.cc, h.cd, h.ck, h.cf⟩
/-- the state while a block is mixed in -/
structure BkSt (w0 : World) (gf : Nat) (F : ShaF) (p : HP) (bA : Option Addr) (blk : List UInt8) (sA : Option Addr) (S : S8) (u : World) : Prop where
  bel : Below gf w0 u
  h : Blk u gf 38 (hv F p)
  ok : HOk F p u gf
  rb : Rd u gf bA (bytesV blk)
  rs : Rd u gf sA (wordsV .u64 (s8L S))
section
variable {w0 u u' : World} {gf : Nat} {F : ShaF} {p : HP} {bA sA : Option Addr} {blk : List UInt8} {S : S8}
theorem BkSt.keep (h : BkSt w0 gf F p bA blk sA S u) (hb : Below (gf + 1) u u') : BkSt w0 gf F p bA blk sA S u' :=
  ⟨h.bel.trans (hb.mono (by omega)), h.h.below hb (by omega), h.ok.below (hb.mono (by omega)), h.rb.below (hb.mono (by omega)), h.rs.below (hb.mono (by omega))⟩
theorem BkSt.next (h : BkSt w0 gf F p bA blk sA S u) (hb : Below u.heap.size u u') : BkSt w0 gf F p bA blk sA S u' :=
  h.keep (hb.mono (by have := h.h.lt; omega))
theorem BkSt.drew (h : BkSt w0 gf F p bA blk sA S u) : BkSt w0 gf F p bA blk sA S u.drew := h.keep (Below.refl _ _).drew
theorem BkSt.grow {e : TypeId} {s n : Nat} {v : Value} {xs : List Value} (h : BkSt w0 gf F p bA blk sA S u) (ho : OwnX u (gf + 1) e s v n xs) (hg : u.grownBy u' v.ownBlock) : BkSt w0 gf F p bA blk sA S u' :=
  h.keep (below_of_grown hg (by have := h.h.lt; omega) (fun k hk => (ho.lt k hk).1))
end
/-- .. and the words so far -/
structure BkW (w0 : World) (gf : Nat) (F : ShaF) (p : HP) (bA : Option Addr) (blk : List UInt8) (sA : Option Addr) (S : S8) (v : Value) (l : List Nat) (u : World) : Prop where
  st : BkSt w0 gf F p bA blk sA S u
  own : OwnX u (gf + 1) 40 1 v l.length (wordsV .u64 l)
section
variable {w0 u u' : World} {gf : Nat} {F : ShaF} {p : HP} {bA sA : Option Addr} {blk : List UInt8} {S : S8} {v : Value} {l : List Nat}
theorem BkW.next (h : BkW w0 gf F p bA blk sA S v l u) (hb : Below u.heap.size u u') : BkW w0 gf F p bA blk sA S v l u' :=
  ⟨h.st.next hb, h.own.below hb (Nat.le_refl _)⟩
theorem BkW.drew (h : BkW w0 gf F p bA blk sA S v l u) : BkW w0 gf F p bA blk sA S v l u.drew := h.next (Below.refl _ _).drew
theorem BkW.app {v' : Value} {x : Nat} (h : BkW w0 gf F p bA blk sA S v l u) (ho : OwnX u' (gf + 1) 40 1 v' (l.length + 1) (wordsV .u64 l ++ [.int .u64 (x : Int)])) (hg : u.grownBy u' v.ownBlock) : BkW w0 gf F p bA blk sA S v' (l ++ [x]) u' :=
  ⟨h.st.grow h.own hg, by rw [List.length_append, wordsV_snoc]; exact ho⟩
theorem OwnX.ptr {w : World} {base e n c : Nat} {A : Option Addr} {xs : List Value} (h : OwnX w base e 1 (.slice A n c) n xs) (hn : 0 < n) : ∃ g, A = some ⟨g, 0, none⟩ ∧ base ≤ g ∧ g < w.heap.size := by
  have hl := h.lt
  rcases h.2 with ⟨_, h0⟩ | ⟨g, cap, cur, fz, hv, hb, hg, _⟩
  · omega
  · injection hv with h1
    subst h1
    exact ⟨g, rfl, hb, (Array.getElem?_eq_some_iff.1 hg).1⟩
theorem OwnX.atN {w : World} {base e n c g i : Nat} {xs : List Value} {v : Value} (h : OwnX w base e 1 (.slice (some ⟨g, 0, none⟩) n c) n xs) (hv : xs[i]? = some v) : w.cell? ⟨g, i, none⟩ = some v := by
  have := h.cells (g := g) rfl i v hv
  rwa [Addr.add_lit, Nat.zero_add] at this
theorem BkW.at_ {g n c i : Nat} (h : BkW w0 gf F p bA blk sA S (.slice (some ⟨g, 0, none⟩) n c) l u) (hn : l.length = n) (hi : i < n) : u.cell? ⟨g, i, none⟩ = some (.int .u64 ((l.getD i 0 : Nat) : Int)) := by
  subst hn
  exact h.own.atN (wordsV_get .u64 l i hi)
end
/-- .. and the state -/
structure BkR (w0 : World) (gf : Nat) (F : ShaF) (p : HP) (bA : Option Addr) (blk : List UInt8) (sA : Option Addr) (S : S8) (v : Value) (l : List Nat) (g2 c2 : Nat) (V : S8) (u : World) : Prop where
  w : BkW w0 gf F p bA blk sA S v l u
  r : OwnX u (gf + 1) 40 1 (.slice (some ⟨g2, 0, none⟩) 8 c2) 8 (wordsV .u64 (s8L V))
section
variable {w0 u u' : World} {gf : Nat} {F : ShaF} {p : HP} {bA sA : Option Addr} {blk : List UInt8} {S V : S8} {v : Value} {l : List Nat} {g2 c2 : Nat}
theorem BkR.next (h : BkR w0 gf F p bA blk sA S v l g2 c2 V u) (hb : Below u.heap.size u u') : BkR w0 gf F p bA blk sA S v l g2 c2 V u' :=
  ⟨h.w.next hb, h.r.below hb (Nat.le_refl _)⟩
theorem BkR.drew (h : BkR w0 gf F p bA blk sA S v l g2 c2 V u) : BkR w0 gf F p bA blk sA S v l g2 c2 V u.drew := h.next (Below.refl _ _).drew
theorem BkR.turn {V' : S8} {fz : Nat × Nat} (h : BkR w0 gf F p bA blk sA S v l g2 c2 V u) : BkR w0 gf F p bA blk sA S v l u.heap.size 8 V' (u.alloc (.cells (wordsV .u64 (s8L V')).toArray 40 fz)) :=
  ⟨h.w.next ((Below.refl _ _).alloc (Nat.le_refl _) _), own_const (C := (wordsV .u64 (s8L V')).toArray) rfl rfl (by unfold maxLen; omega) (by have := h.w.st.h.lt; omega)⟩
theorem BkR.le (h : BkR w0 gf F p bA blk sA S v l g2 c2 V u) : 8 ≤ c2 := h.r.le_cap
end
/-- .. and what is made of it -/
structure BkO (w0 : World) (gf : Nat) (F : ShaF) (p : HP) (bA : Option Addr) (blk : List UInt8) (sA : Option Addr) (S : S8) (v : Value) (l : List Nat) (g2 c2 : Nat) (V : S8) (ov : Value) (x : List Nat) (u : World) : Prop where
  r : BkR w0 gf F p bA blk sA S v l g2 c2 V u
  o : OwnX u (gf + 1) 40 1 ov x.length (wordsV .u64 x)
  ne : ov.ownBlock = none ∨ (ov.ownBlock ≠ v.ownBlock ∧ ov.ownBlock ≠ some g2)
section
variable {w0 u u' : World} {gf : Nat} {F : ShaF} {p : HP} {bA sA : Option Addr} {blk : List UInt8} {S V : S8} {v o o' : Value} {l x : List Nat} {g2 c2 : Nat}
theorem BkO.next (h : BkO w0 gf F p bA blk sA S v l g2 c2 V o x u) (hb : Below u.heap.size u u') : BkO w0 gf F p bA blk sA S v l g2 c2 V o x u' :=
  ⟨h.r.next hb, h.o.below hb (Nat.le_refl _), h.ne⟩
theorem BkO.drew (h : BkO w0 gf F p bA blk sA S v l g2 c2 V o x u) : BkO w0 gf F p bA blk sA S v l g2 c2 V o x u.drew := h.next (Below.refl _ _).drew
theorem BkO.app {y : Nat} (h : BkO w0 gf F p bA blk sA S v l g2 c2 V o x u) (ho : OwnX u' (gf + 1) 40 1 o' (x.length + 1) (wordsV .u64 x ++ [.int .u64 (y : Int)])) (hg : u.grownBy u' o.ownBlock) (hn : Next u o o') : BkO w0 gf F p bA blk sA S v l g2 c2 V o' (x ++ [y]) u' := by
  have hk : ∀ (v2 : Value), (o.ownBlock = none ∨ o.ownBlock ≠ v2.ownBlock) → v2.ownBlock = none ∨ v2.ownBlock ≠ o.ownBlock := fun v2 h2 => by
    rcases h2 with h2 | h2
    · rw [h2]
      cases v2.ownBlock with
      | none => exact .inl rfl
      | some k => exact .inr (by simp)
    · exact .inr (Ne.symm h2)
  refine ⟨⟨⟨h.r.w.st.grow h.o hg, h.r.w.own.kept hg (hk v (h.ne.imp id And.left))⟩, h.r.r.kept hg (hk (.slice (some ⟨g2, 0, none⟩) 8 c2) (h.ne.imp id And.right))⟩, by rw [List.length_append, wordsV_snoc]; exact ho, ?_⟩
  rcases hn with hn | hn
  · rw [hn]; exact h.ne
  · cases ho2 : o'.ownBlock with
    | none => exact .inl rfl
    | some k =>
      have hk2 := hn k ho2
      refine .inr ⟨fun e => ?_, fun e => ?_⟩
      · have := (h.r.w.own.lt k e.symm).2; omega
      · have := (h.r.r.lt k (by rw [e]; rfl)).2; omega
end
theorem ones_xor (n e : Nat) (he : e < 2 ^ n) : (2 ^ n - 1) ^^^ e = 2 ^ n - 1 - e := by
  have h : ((2 ^ n - 1) ^^^ e) = (~~~ (BitVec.ofNat n e)).toNat := by
    rw [← BitVec.allOnes_xor, BitVec.toNat_xor, BitVec.toNat_allOnes, BitVec.toNat_ofNat, Nat.mod_eq_of_lt he]
  rw [h, BitVec.toNat_not, BitVec.toNat_ofNat, Nat.mod_eq_of_lt he]
theorem mixX_r32 (h al ch k w : Nat) : (h + al + ch + k + w) % 2 ^ 32 = ((((h + al) % 2 ^ 64 + ch) % 2 ^ 64 + k) % 2 ^ 64 + w) % 2 ^ 64 % 2 ^ 32 := by omega
theorem mixX_r64 (h al ch k w : Nat) : (h + al + ch + k + w) % 2 ^ 64 = ((((h + al) % 2 ^ 64 + ch) % 2 ^ 64 + k) % 2 ^ 64 + w) % 2 ^ 64 % 2 ^ 64 := by omega
theorem mod_r32 (a b : Nat) : (a + b) % 2 ^ 32 = (a + b) % 2 ^ 64 % 2 ^ 32 := by omega
theorem mod_r64 (a b : Nat) : (a + b) % 2 ^ 64 = (a + b) % 2 ^ 64 % 2 ^ 64 := by omega
theorem addS_get (F : ShaF) (s v : S8) (i : Nat) (h : i < 8) : (s8L (addS F s v)).getD i 0 = ((s8L v).getD i 0 + (s8L s).getD i 0) % 2 ^ F.bits := by
  match i, h with
  | 0, _ => rfl
  | 1, _ => rfl
  | 2, _ => rfl
  | 3, _ => rfl
  | 4, _ => rfl
  | 5, _ => rfl
  | 6, _ => rfl
  | 7, _ => rfl
theorem s8_take (s : S8) (i : Nat) (h : i < 8) : (s8L s).take (i + 1) = (s8L s).take i ++ [(s8L s).getD i 0] := by
  match i, h with
  | 0, _ => rfl
  | 1, _ => rfl
  | 2, _ => rfl
  | 3, _ => rfl
  | 4, _ => rfl
  | 5, _ => rfl
  | 6, _ => rfl
  | 7, _ => rfl
theorem s8_take_len (s : S8) (i : Nat) (h : i ≤ 8) : ((s8L s).take i).length = i := by
  rw [List.length_take]; show min i 8 = i; omega
theorem s8_lt {s : S8} {m : Nat} (h : s.Lt m) (hm : 0 < m) (i : Nat) : (s8L s).getD i 0 < m := s8L_lt h hm i
theorem next_32 (a b c d : Nat) : (a + c + (b + d)) % 2 ^ 32 = (((a + b) % 2 ^ 64 + c) % 2 ^ 64 + d) % 2 ^ 64 % 2 ^ 32 := by omega
theorem next_64 (a b c d : Nat) : (a + c + (b + d)) % 2 ^ 64 = (((a + b) % 2 ^ 64 + c) % 2 ^ 64 + d) % 2 ^ 64 % 2 ^ 64 := by omega
def BlockPost (F : ShaF) (S : S8) (blk : List UInt8) (w : World) (e : Ending) (w' : World) : Prop :=
  ∃ A c, e = .returned (.slice A 8 c) ∧ OwnX w' w.heap.size 40 1 (.slice A 8 c) 8 (wordsV .u64 (s8L (mixS F S blk))) ∧ Below w.heap.size w w'
theorem sl_u64 : SlT Tryd.prog 36 40 1 8 := SlT.mk1 (z := .int .u64 0) Tryd.underlying36 (by kernel_rfl) rfl (by decide)
end Go.Proofs.YtfpbcihpjcocmaaDoor
