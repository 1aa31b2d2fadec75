/-
  The state while the reference makes a digest.
-/
import Derived.Test.YtfpbcihpjcocmaaDoorShaH
import Derived.Test.YtfpbcihpjcocmaaDoorRefB8
import Derived.Test.YtfpbcihpjcocmaaDoorSum32
import Derived.Test.YtfpbcihpjcocmaaDoorOfS
namespace Go.Proofs.YtfpbcihpjcocmaaDoor
set_option linter.unusedSimpArgs false
set_option linter.unusedVariables false
open Go.RowKit

structure HsSt (w0 : World) (gf : Nat) (F : ShaF) (p : HP) (dA : Option Addr) (data : List UInt8) (u : World) : Prop where
  bel : Below gf w0 u
  h : Blk u gf 38 (hv F p)
  ok : HOk F p u gf
  rd : Rd u gf dA (bytesV data)
structure HsA (w0 : World) (gf : Nat) (F : ShaF) (p : HP) (dA : Option Addr) (data : List UInt8) (v : Value) (xs : List UInt8) (u : World) : Prop where
  st : HsSt w0 gf F p dA data u
  own : OwnX u (gf + 1) 5 1 v xs.length (bytesV xs)
structure HsB (w0 : World) (gf : Nat) (F : ShaF) (p : HP) (dA : Option Addr) (data : List UInt8) (v : Value) (xs : List UInt8) (A : Option Addr) (c : Nat) (V : S8) (u : World) : Prop where
  a : HsA w0 gf F p dA data v xs u
  s : OwnX u (gf + 1) 40 1 (.slice A 8 c) 8 (wordsV .u64 (s8L V))
section
variable {w0 u u' : World} {gf : Nat} {F : ShaF} {p : HP} {dA A A' : Option Addr} {data xs ys : List UInt8} {v v' : Value} {c c' : Nat} {V V' : S8}
theorem HsSt.keep (h : HsSt w0 gf F p dA data u) (hb : Below (gf + 1) u u') : HsSt w0 gf F p dA data u' :=
  ⟨h.bel.trans (hb.mono (by omega)), h.h.below hb (by omega), h.ok.below (hb.mono (by omega)), h.rd.below (hb.mono (by omega))⟩
theorem HsSt.next (h : HsSt w0 gf F p dA data u) (hb : Below u.heap.size u u') : HsSt w0 gf F p dA data u' := h.keep (hb.mono (by have := h.h.lt; omega))
theorem HsSt.grow {e : TypeId} {s n : Nat} {v : Value} {zs : List Value} (h : HsSt w0 gf F p dA data u) (ho : OwnX u (gf + 1) e s v n zs) (hg : u.grownBy u' v.ownBlock) : HsSt w0 gf F p dA data u' :=
  h.keep (below_of_grown hg (by have := h.h.lt; omega) (fun k hk => (ho.lt k hk).1))
theorem HsA.next (h : HsA w0 gf F p dA data v xs u) (hb : Below u.heap.size u u') : HsA w0 gf F p dA data v xs u' := ⟨h.st.next hb, h.own.below hb (Nat.le_refl _)⟩
theorem HsA.drew (h : HsA w0 gf F p dA data v xs u) : HsA w0 gf F p dA data v xs u.drew := h.next (Below.refl _ _).drew
theorem HsA.app (h : HsA w0 gf F p dA data v xs u) (hg : u.grownBy u' v.ownBlock) (ho : OwnX u' (gf + 1) 5 1 v' ys.length (bytesV ys)) : HsA w0 gf F p dA data v' ys u' := ⟨h.st.grow h.own hg, ho⟩
theorem HsB.next (h : HsB w0 gf F p dA data v xs A c V u) (hb : Below u.heap.size u u') : HsB w0 gf F p dA data v xs A c V u' := ⟨h.a.next hb, h.s.below hb (Nat.le_refl _)⟩
theorem HsB.drew (h : HsB w0 gf F p dA data v xs A c V u) : HsB w0 gf F p dA data v xs A c V u.drew := h.next (Below.refl _ _).drew
/-- what is written grows (beside the words) -/
theorem HsB.app (h : HsB w0 gf F p dA data v xs A c V u) (hg : u.grownBy u' v.ownBlock) (ho : OwnX u' (gf + 1) 5 1 v' ys.length (bytesV ys)) : HsB w0 gf F p dA data v' ys A c V u' :=
  ⟨h.a.app hg ho, h.s.kept hg (own_ne_own h.s h.a.own (by decide))⟩
end
/-- how many zeros the reference lays -/
def zeroR (F : ShaF) (n : Nat) : Nat := (2 * F.bits - (n + 1 + F.bits / 4) % (2 * F.bits)) % (2 * F.bits)
/-- the length's bytes -/
def lenB (F : ShaF) (n : Nat) : List UInt8 := List.replicate (F.bits / 4 - 8) 0 ++ be8 (n * 8) 8
theorem oneZ_len (data : List UInt8) (k : Nat) : (oneZ data k).length = data.length + 1 + k := oneZ_length data k
theorem padR32 (data : List UInt8) (_ : data.length ≤ 1000) : oneZ data (zeroR F32 data.length) ++ lenB F32 data.length = padS F32 data := by
  have h : zeroR F32 data.length = zeroN F32 data.length := by simp only [zeroR, zeroN, F32]; omega
  simp [padS, lenB, oneZ, moreN, F32] at *
  rw [h]
theorem padR64 (data : List UInt8) (_ : data.length ≤ 1000) : oneZ data (zeroR F64 data.length) ++ lenB F64 data.length = padS F64 data := by
  have h : zeroR F64 data.length + 8 = zeroN F64 data.length + moreN F64 data.length := by
    by_cases hm : 112 ≤ data.length % 128 ∧ data.length % 128 < 120
    · have e : moreN F64 data.length = 128 := if_pos (show _ ∧ _ ∧ _ from ⟨by decide, hm.1, hm.2⟩)
      rw [e]; simp only [zeroR, zeroN, F64]; omega
    · have e : moreN F64 data.length = 0 := if_neg (fun h => hm ⟨h.2.1, h.2.2⟩)
      rw [e]; simp only [zeroR, zeroN, F64]; omega
  have h2 : List.replicate (zeroR F64 data.length) (0 : UInt8) ++ List.replicate 8 0 = List.replicate (zeroN F64 data.length) 0 ++ List.replicate (moreN F64 data.length) 0 := by
    rw [List.replicate_append_replicate, List.replicate_append_replicate, h]
  rw [padS, lenB, oneZ]
  simp only [List.append_assoc]
  rw [show F64.bits / 4 - 8 = 8 from rfl, ← List.append_assoc (List.replicate (zeroR F64 data.length) 0), h2]
  simp only [List.append_assoc]
theorem be8_get (n : Nat) : ∀ (k i : Nat), i < k → (be8 n k)[i]? = some (UInt8.ofNat (n / 2 ^ (56 - 8 * i)))
  | k + 1, i, h => by
    rw [be8, List.getElem?_append, be8_length]
    split
    · rename_i h2; exact be8_get n k i h2
    · obtain rfl : i = k := by omega
      simp
theorem lenB32_get (n i j : Nat) (h : i + j + 1 = 8) : (bytesV (lenB F32 n))[i]? = some (.int .u8 ((n * 8 / 256 ^ j % 256 : Nat) : Int)) := by
  have e : lenB F32 n = be8 (n * 8) 8 := rfl
  rw [e, bytesV, List.getElem?_map, be8_get _ _ _ (by omega), show 56 - 8 * i = 8 * j by omega, Nat.pow_mul]
  simp [byteV]
theorem lenB64_get (n i j : Nat) (hn : n ≤ 1000) (h : i + j + 1 = 16) : (bytesV (lenB F64 n))[i]? = some (.int .u8 ((n * 8 / 256 ^ j % 256 : Nat) : Int)) := by
  have e : lenB F64 n = List.replicate 8 0 ++ be8 (n * 8) 8 := rfl
  rw [e, bytesV, List.getElem?_map, List.getElem?_append, List.length_replicate]
  split
  · rename_i h8
    rw [List.getElem?_replicate, if_pos h8]
    have : n * 8 / 256 ^ j = 0 := Nat.div_eq_of_lt (Nat.lt_of_lt_of_le (show n * 8 < 256 ^ 8 by omega) (Nat.pow_le_pow_right (by decide) (by omega)))
    rw [this]; rfl
  · rw [be8_get _ _ _ (by omega), show 56 - 8 * (i - 8) = 8 * j by omega, Nat.pow_mul]
    simp [byteV]
theorem backC_set_app (e : Nat) (ws : List UInt8) (j i : Nat) (v : Value) (R : Array Value) (hw : ws.length = e) (hi : i + j + 1 = e) (hv : (bytesV ws)[i]? = some v) : (backC e ws j ++ R).setIfInBounds i v = backC e ws (j + 1) ++ R := by
  rw [← backC_set e ws j i v hw hi hv]
  apply Array.ext'
  rw [Array.toList_setIfInBounds, Array.toList_append, Array.toList_append, Array.toList_setIfInBounds, List.set_append_left]
  rw [Array.length_toList, backC_size e ws j hw (by omega)]; omega
theorem backC_app_get (e : Nat) (ws : List UInt8) (j i : Nat) (R : Array Value) (hw : ws.length = e) (hi : i + j + 1 = e) : ∃ v, (backC e ws j ++ R)[i]? = some v := by
  have h := backC_size e ws j hw (by omega)
  refine ⟨_, Array.getElem?_eq_getElem (by rw [Array.size_append, h]; omega)⟩
theorem own_blk {w : World} {base e n c : Nat} {A : Option Addr} {xs : List Value} (h : w.ownsRow base e 1 (.slice A n c) n xs) (hn : 0 < n) : ∃ g R, A = some ⟨g, 0, none⟩ ∧ base ≤ g ∧ n ≤ c ∧ Blk w g e (xs.toArray ++ R) := by
  rcases h.2 with ⟨_, h0⟩ | ⟨g, cap, cur, hv, hb, hg, hnc, _, _, ht⟩
  · omega
  · injection hv with h1 _ h3
    subst h1; subst h3
    refine ⟨g, (cur.toList.drop n).toArray, rfl, hb, hnc, ?_⟩
    have : xs.toArray ++ (cur.toList.drop n).toArray = cur := by
      apply Array.ext'
      rw [Array.toList_append, ← ht, Nat.mul_one]
      simp
    rw [this]; exact hg
theorem Rd.of_blk_app {w : World} {g B : Nat} {t : TypeId} {l : List Value} {R : Array Value} (h : Blk w g t (l.toArray ++ R)) (hB : g < B) : Rd w B (some ⟨g, 0, none⟩) l := fun i u hu => by
  refine ⟨_, rfl, hB, ?_⟩
  have hadd : (⟨g, 0, none⟩ : Addr).add i = ⟨g, i, none⟩ := by unfold Addr.add; split <;> simp_all
  have hlt := (List.getElem?_eq_some_iff.1 hu).1
  rw [hadd, h.cell i, Array.getElem?_append_left (by simpa using hlt)]
  simpa using hu
def HSumPost (F : ShaF) (m : Nat) (data : List UInt8) (w : World) (e : Ending) (w' : World) : Prop :=
  ∃ A c, e = .returned (.slice A m c) ∧ OwnX w' w.heap.size 5 1 (.slice A m c) m (bytesV (digS F data)) ∧ Below w.heap.size w w'
end Go.Proofs.YtfpbcihpjcocmaaDoor
