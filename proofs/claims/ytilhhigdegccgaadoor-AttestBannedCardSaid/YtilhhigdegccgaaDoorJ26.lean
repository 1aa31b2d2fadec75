/-
  Joined texts: Rnm Jso Jk1 Jfd Dom Bld Jnu Jkl Jnm Bys Jct.
-/
import Derived.Deep.QuietTactic
import Derived.Deep.DeepCutAuto
import Derived.Test.YtilhhigdegccgaaDoorProg
import Derived.Shelf.Abstract
import Derived.Shelf.Strings.SlTrimAscii
import Derived.Lib.Builder
import Derived.Lib.UnsafeStr
import Derived.Laws.Externs
import Derived.Shelf.RegionOpenPlain
import Derived.BigQuiet
import Derived.Laws.Runes
import Derived.Carry
import Derived.Laws.IdiomStrings
import Derived.Deep.CutBlock
import Derived.Test.YtilhhigdegccgaaDoorJ14
import Derived.Test.YtilhhigdegccgaaDoorJ25
import Derived.Test.YtilhhigdegccgaaDoorJ7
import Derived.Test.YtilhhigdegccgaaDoorJ8
import Derived.Test.YtilhhigdegccgaaDoorJ6
import Derived.Test.YtilhhigdegccgaaDoorJ1
import Derived.Test.YtilhhigdegccgaaDoorJ2
import Derived.Test.YtilhhigdegccgaaDoorJ10
import Derived.Test.YtilhhigdegccgaaDoorJ3
/-
  Walk: the reference's Name.
-/
namespace Go.Proofs.YtilhhigdegccgaaDoor
set_option linter.unusedSimpArgs false
set_option linter.unusedVariables false
open Go.RowKit
theorem hexA_cut (n : Nat) (h : n < 16) : (⟨#[48, 49, 50, 51, 52, 53, 54, 55, 56, 57, 97, 98, 99, 100, 101, 102]⟩ : ByteArray).extract n (n + 1) = ⟨#[UInt8.ofNat (hexD n)]⟩ := by
  have : n = 0 ∨ n = 1 ∨ n = 2 ∨ n = 3 ∨ n = 4 ∨ n = 5 ∨ n = 6 ∨ n = 7 ∨ n = 8 ∨ n = 9 ∨ n = 10 ∨ n = 11 ∨ n = 12 ∨ n = 13 ∨ n = 14 ∨ n = 15 := by omega
  rcases this with h | h | h | h | h | h | h | h | h | h | h | h | h | h | h | h <;> subst h <;> decide
theorem name_snoc (L : List UInt8) (a b : UInt8) : (⟨L.toArray⟩ : ByteArray) ++ ⟨#[a]⟩ ++ ⟨#[b]⟩ = ⟨(L ++ [a, b]).toArray⟩ := by
  apply ByteArray.ext
  rw [ByteArray.data_append, ByteArray.data_append]
  simp
set_option maxRecDepth 100000 in
set_option maxHeartbeats 4000000 in
theorem rname_any (data : List UInt8) (hl : data.length ≤ 1000) (A : Option Addr) (c : Nat) (w : World) (hr : Rd w w.heap.size A (bytesV data)) (hc : data.length ≤ c) (hH32 : (Sh.digS Sh.F32 data).length = 32) :
    Calls Tryd.prog 28 #[.slice A data.length c] w (fun e w' => e = .returned (.string (nameS data)) ∧ Below w.heap.size w w') := by
  have HS := Lib.hid (Sh.r256_any data A c w.heap.size w hr (Nat.le_refl _) hl hc)
  obtain ⟨n, hn⟩ : ∃ n, n = data.length := ⟨_, rfl⟩
  rw [← hn] at HS ⊢
  clear hr hl hc hn
  obtain ⟨H, hH⟩ : ∃ H, H = Sh.digS Sh.F32 data := ⟨_, rfl⟩
  rw [← hH] at hH32
  have HH := Lib.hid hH
  have HLH := Lib.hid hH32
  clear hH32
  go_enter Tryd.func28, Tryd.ntmps28
  go_wp2_with fail
  refine calls_then HS.out ?_
  rintro e u1 ⟨A1, c1, rfl, ho, hb1⟩
  rw [← hH] at ho
  have HRD := Lib.hid (Rd.of_own ho (Nat.le_refl _))
  obtain ⟨ad0, hA1, -, -⟩ := HRD.out.at_ (k := 0) (by rw [bytesV_length, HLH.out]; decide)
  have HB1 := Lib.hid hb1
  subst hA1
  clear hb1 ho hH HS
  go_wp2_with fail
  go_loopw [5, 6] (fun s i wr => ∃ (k : Nat), k ≤ 4 ∧ i = .int .i64 (k : Int) ∧ s = .string ⟨(nameK H k).toArray⟩ ∧ Below u1.heap.size u1 wr) (fun _ i _ => 4 - (intOf i).toNat)
  case atStart => exact ⟨0, by omega, rfl, rfl, Below.refl _ _⟩
  case round =>
    obtain ⟨k, hk, rfl, rfl, hbel⟩ := hrel
    by_cases hlt : k < 4
    · have hlt' : (k : Int) < 4 := by omega
      have hkH : k < H.length := by rw [HLH.out]; omega
      obtain ⟨ad', hA', -, hcell⟩ := (HRD.out.below hbel).at_ (k := k) (by rw [bytesV_length]; exact hkH)
      injection hA' with hA'
      subst hA'
      obtain ⟨x, hx⟩ : ∃ x, x = H[k].toNat := ⟨_, rfl⟩
      have hxl : x < 256 := by have := H[k].toNat_lt; omega
      have hbv : (bytesV H)[k]'(by rw [bytesV_length]; exact hkH) = .int .u8 (x : Int) := by
        rw [hx]; simp [bytesV, byteV]
      rw [hbv] at hcell
      obtain ⟨L, hL⟩ : ∃ L, L = nameK H k := ⟨_, rfl⟩
      have HN := Lib.hid (show nameK H (k + 1) = L ++ hexB x by rw [nameK_succ hkH, ← hx, hL])
      have hLl : L.length = 2 * k := by rw [hL]; exact nameK_length (by omega)
      rw [← hL]
      have hd4 : decide ((k : Int) < 4) = true := by simp; omega
      obtain ⟨SL, hSL⟩ : ∃ s : ByteArray, s = ⟨L.toArray⟩ := ⟨_, rfl⟩
      rw [← hSL]
      clear hx hbv hL hkH
      go_wp2_with fail
      obtain ⟨a, ha⟩ : ∃ a, a = x / 16 := ⟨_, rfl⟩
      obtain ⟨b, hb⟩ : ∃ b, b = x % 16 := ⟨_, rfl⟩
      rw [show (x : Int) / 16 = (a : Int) by omega, show (x : Int) % 16 = (b : Int) by omega]
      have ha16 : a < 16 := by omega
      have hb16 : b < 16 := by omega
      have HA := Lib.hid ha
      have HB := Lib.hid hb
      have HX := Lib.hid hxl
      clear ha hb hxl
      go_quiet (fail)
      rw [hexA_cut a ha16, hexA_cut b hb16, name_snoc]
      go_wp2_with fail
      go_roundw
      case rel => exact ⟨k + 1, by omega, by go_num, by rw [HN.out, hexB, ← HA.out, ← HB.out], by first | exact hbel | exact hbel.drew | exact below_drewN' hbel _⟩
      case measure => simp [intOf]; omega
    · obtain rfl : k = 4 := by omega
      have HF := Lib.hid (HB1.out.trans (hbel.mono HB1.out.size))
      have hd4 : decide (((4 : Nat) : Int) < 4) = false := by decide
      clear hbel
      go_wp2_with fail
      go_ret
      exact ⟨by rw [nameS, ← HH.out]; rfl, HF.out⟩
end Go.Proofs.YtilhhigdegccgaaDoor
/-
  Plain: JSON's texts: the reference's Is; texts that end where they are too long.
-/
namespace Go.Proofs.YtilhhigdegccgaaDoor.Js
set_option linter.unusedVariables false
def Out (c x c' : Bs) : Prop := c.length ≤ c'.length ∧ c'.length ≤ c.length + x.length ∧ (c' = c ++ x ∨ (2000 < c'.length ∧ 2000 < (c ++ x).length))
theorem Out.refl (c : Bs) : Out c [] c := ⟨Nat.le_refl _, by simp, .inl (by simp)⟩
theorem Out.all (c x : Bs) : Out c x (c ++ x) := ⟨by simp, by simp, .inl rfl⟩
theorem Out.stop {c : Bs} (x : Bs) (h : 2000 < c.length) : Out c x c := ⟨Nat.le_refl _, by omega, .inr ⟨h, by simp; omega⟩⟩
theorem Out.trans {c x c' y c'' : Bs} (h : Out c x c') (h' : Out c' y c'') : Out c (x ++ y) c'' := by
  obtain ⟨l1, m1, h1⟩ := h
  obtain ⟨l2, m2, h2⟩ := h'
  refine ⟨Nat.le_trans l1 l2, by simp; omega, ?_⟩
  rcases h1 with rfl | ⟨a, b⟩
  · rcases h2 with rfl | ⟨a2, b2⟩
    · exact .inl (by simp)
    · exact .inr ⟨a2, by simpa [Nat.add_assoc] using b2⟩
  · exact .inr ⟨by omega, by simp at b ⊢; omega⟩
end Go.Proofs.YtilhhigdegccgaaDoor.Js
/-
  Plain: bundles as JSON; bytes as letters.
-/
namespace Go.Proofs.YtilhhigdegccgaaDoor.Js
set_option linter.unusedSimpArgs false
set_option linter.unusedVariables false
-- letters
def b64A : Bs := [65, 66, 67, 68, 69, 70, 71, 72, 73, 74, 75, 76, 77, 78, 79, 80, 81, 82, 83, 84, 85, 86, 87, 88, 89, 90, 97, 98, 99, 100, 101, 102, 103, 104, 105, 106, 107, 108, 109, 110, 111, 112, 113, 114, 115, 116, 117, 118, 119, 120, 121, 122, 48, 49, 50, 51, 52, 53, 54, 55, 56, 57, 45, 95]
def ltr (k : Nat) : UInt8 := b64A.getD k 0
def encS : Nat → Nat → Bs → Bs
  | n, w, [] => if n = 0 then [] else [ltr (w * 2 ^ (6 - n))]
  | n, w, c :: r => if n + 2 < 6 then ltr ((w * 256 + c.toNat) / 2 ^ (n + 2)) :: encS (n + 2) ((w * 256 + c.toNat) % 2 ^ (n + 2)) r
    else ltr ((w * 256 + c.toNat) / 2 ^ (n + 2)) :: ltr ((w * 256 + c.toNat) % 2 ^ (n + 2) / 2 ^ (n - 4)) :: encS (n - 4) ((w * 256 + c.toNat) % 2 ^ (n + 2) % 2 ^ (n - 4)) r
def enc (b : Bs) : Bs := encS 0 0 b
-- bundles
end Go.Proofs.YtilhhigdegccgaaDoor.Js
/-
  Walks: jwk.Find.
-/
namespace Go.Proofs.YtilhhigdegccgaaDoor.Js
set_option linter.unusedSimpArgs false
set_option linter.unusedVariables false
open Go.RowKit
def kCell (k : Bs × Bs) : Array Value := #[.string (bs k.1), .string (bs k.2)]
theorem kCell_one (k : Bs × Bs) : (kCell k).all (·.oneCell') = true := by simp [kCell, Value.oneCell']
theorem jk_size : (Tryd.prog.info? 77).map (·.size) = some 2 := by kernel_rfl
end Go.Proofs.YtilhhigdegccgaaDoor.Js
/-
  Walks: ids: which texts are domains.
-/
namespace Go.Proofs.YtilhhigdegccgaaDoor.Js
set_option linter.unusedSimpArgs false
set_option linter.unusedVariables false
open Go.RowKit
def smallZ (z : Int) : Bool := decide (97 ≤ z) && decide (z ≤ 122)
def digitZ (z : Int) : Bool := decide (48 ≤ z) && decide (z ≤ 57)
def innerZ (z : Int) : Bool := smallZ z || digitZ z || z == 46 || z == 45
theorem small_any (z : Int) (w : World) : Calls Tryd.prog 82 #[.int .u8 z] w fun e w' => e = .returned (.bool (smallZ z)) ∧ w' = w := by
  go_enter Tryd.func82, Tryd.ntmps82
  unfold smallZ
  by_cases h1 : 97 ≤ z
  · go_wp2_with fail
    go_ret
    simp [h1]
  · go_wp2_with fail
    go_ret
    refine ⟨?_, rfl⟩
    simp [h1]
    try omega
theorem digit_any (z : Int) (w : World) : Calls Tryd.prog 83 #[.int .u8 z] w fun e w' => e = .returned (.bool (digitZ z)) ∧ w' = w := by
  go_enter Tryd.func83, Tryd.ntmps83
  unfold digitZ
  by_cases h1 : 48 ≤ z
  · go_wp2_with fail
    go_ret
    simp [h1]
  · go_wp2_with fail
    go_ret
    refine ⟨?_, rfl⟩
    simp [h1]
    try omega
theorem inner_any (z : Int) (w : World) : Calls Tryd.prog 70 #[.int .u8 z] w fun e w' => e = .returned (.bool (innerZ z)) ∧ w' = w := by
  have C1 := Lib.hid (small_any z w)
  have C2 := Lib.hid (digit_any z w)
  unfold innerZ
  obtain ⟨a, ha⟩ : ∃ a, a = smallZ z := ⟨_, rfl⟩
  obtain ⟨b, hb⟩ : ∃ b, b = digitZ z := ⟨_, rfl⟩
  rw [← ha] at C1 ⊢
  rw [← hb] at C2 ⊢
  clear ha hb
  go_enter Tryd.func70, Tryd.ntmps70
  go_wp2_with fail
  refine calls_then C1.out ?_
  rintro e u1 ⟨rfl, rfl⟩
  cases a with
  | true =>
    go_wp2_with fail
    go_ret
    simp
  | false =>
    go_wp2_with fail
    refine calls_then C2.out ?_
    rintro e u2 ⟨rfl, rfl⟩
    cases b with
    | true =>
      go_wp2_with fail
      go_ret
      simp
    | false =>
      cases h1 : z == 46 with
      | true =>
        go_wp2_with fail
        go_ret
        have h2 := beq_iff_eq.1 h1
        simp [h2]
      | false =>
        go_wp2_with fail
        go_ret
        have h2 : ¬ z = 46 := fun h => by rw [h] at h1; cases h1
        simp [h2]
def innerC (c : UInt8) : Bool := innerZ ((c.toNat : Nat) : Int)
def allD (s : Bs) : Bool := s.all innerC && !s.isEmpty
def trimD (s : Bs) : Bs := Lib.trimS s [46, 45]
def domB (s : Bs) : Bool := decide (s.length ≤ 16) && (allD s && decide (trimD s = s))
end Go.Proofs.YtilhhigdegccgaaDoor.Js
/-
  Walks: strings.Builder, as it lies in a block of some type.
-/
namespace Go.Proofs.YtilhhigdegccgaaDoor
set_option linter.unusedSimpArgs false
set_option linter.unusedVariables false
open Go.RowKit
def SelfOk (p : Nat) (v : Value) : Prop := v = .pointer none ∨ v = .pointer (some ⟨p, 0, none⟩)
theorem Wrote.refl (g : Nat) (w : World) : Wrote g w w := ⟨World.grownBy.refl _ _, rfl⟩
def IsB (w : World) (B : Nat) (T : TypeId) (p : Nat) (l : List UInt8) : Prop :=
  B ≤ p ∧ ∃ self A c, SelfOk p self ∧ Blk w p T #[self, .slice A l.length c] ∧ OwnX w B 5 1 (.slice A l.length c) l.length (bytesV l)
theorem IsB.lt {w : World} {B : Nat} {T : TypeId} {p : Nat} {l : List UInt8} (h : IsB w B T p l) : B ≤ p ∧ p < w.heap.size := by
  obtain ⟨h1, _, _, _, _, h2, _⟩ := h
  exact ⟨h1, h2.lt⟩
theorem IsB.below {w w' : World} {B : Nat} {T : TypeId} {p : Nat} {l : List UInt8} (h : IsB w B T p l) (hb : Below w.heap.size w w') : IsB w' B T p l := by
  obtain ⟨h1, self, A, c, h2, h3, h4⟩ := h
  exact ⟨h1, self, A, c, h2, h3.below hb h3.lt, h4.below hb (Nat.le_refl _)⟩
theorem IsB.new (w : World) (T : TypeId) {B : Nat} (hB : B ≤ w.heap.size) : IsB (w.alloc (.cells #[.pointer none, .slice none 0 0] T)) B T w.heap.size [] :=
  ⟨hB, _, none, 0, .inl rfl, Blk.new _ _ _, OwnX.nil _ _ _ _⟩
structure BK (B p : Nat) (w w' : World) : Prop where
  below : Below B w w'
  size : w.heap.size ≤ w'.heap.size
  keep : ∀ (k : Nat) (cs : Array Value) (t : TypeId) (fz : Nat × Nat), k ≠ p → t ≠ 5 → w.heap[k]? = some (Obj.cells cs t fz) → w'.heap[k]? = some (Obj.cells cs t fz)
section
variable {B p : Nat} {w w1 w2 w' : World}
theorem BK.refl (B p : Nat) (w : World) : BK B p w w := ⟨Below.refl _ _, Nat.le_refl _, fun _ _ _ _ _ _ h => h⟩
theorem BK.trans (h : BK B p w w1) (h' : BK B p w1 w2) : BK B p w w2 := ⟨h.below.trans h'.below, Nat.le_trans h.size h'.size, fun k cs t fz h1 h2 h3 => h'.keep k cs t fz h1 h2 (h.keep k cs t fz h1 h2 h3)⟩
theorem BK.drew (h : BK B p w w1) : BK B p w w1.drew := ⟨h.below.drew, h.size, h.keep⟩
theorem BK.wrote (h : Wrote p w w1) (hB : B ≤ p) (hs : B ≤ w.heap.size) : BK B p w w1 := ⟨h.below (Below.refl _ _) hB hs, by rw [h.size]; exact Nat.le_refl _, fun k cs t fz h1 _ h3 => (h.grown.block k (Array.getElem?_eq_some_iff.1 h3).1 (by simpa using h1)).trans h3⟩
theorem BK.own {e s n : Nat} {v : Value} {xs : List Value} (ho : OwnX w B 5 s v n xs) (hg : w.grownBy w1 v.ownBlock) (hs : B ≤ w.heap.size) : BK B p w w1 :=
  ⟨(Below.refl B w).grown hg hs (fun k hk => (ho.lt k hk).1), hg.size, fun k cs t fz _ h2 h3 => (keepBut_of_grown ho hg).2 k cs t fz h2 h3⟩
theorem BK.fresh {g : Nat} (hg : w.grownBy w1 (some g)) (hs : w.heap.size ≤ g) (hB : B ≤ w.heap.size) : BK B p w w1 :=
  ⟨(Below.refl B w).grown hg hB (fun k hk => by injection hk with hk; omega), hg.size, fun k cs t fz _ _ h3 => by
    have hlt := (Array.getElem?_eq_some_iff.1 h3).1
    exact (hg.block k hlt (by intro e; injection e with e; omega)).trans h3⟩
theorem BK.all (h : Below w.heap.size w w1) (hB : B ≤ w.heap.size) : BK B p w w1 := ⟨h.mono hB, h.size, fun k cs t fz _ _ h3 => (h.block k (Array.getElem?_eq_some_iff.1 h3).1).trans h3⟩
theorem BK.blk {g : Nat} {t : TypeId} {cs : Array Value} (h : BK B p w w1) (hb : Blk w g t cs) (hg : g ≠ p) (ht : t ≠ 5) : Blk w1 g t cs := h.keep g cs t (0, 0) hg ht hb
end
end Go.Proofs.YtilhhigdegccgaaDoor
/-
  Walk: json's writer: a number.
-/
namespace Go.Proofs.YtilhhigdegccgaaDoor.Js
set_option linter.unusedSimpArgs false
set_option linter.unusedVariables false
open Go.RowKit
structure DigS (N j m : Nat) (suf : Bs) : Prop where
  eq : digB 16 N = digB (16 - j) m ++ suf
  len : suf.length = j
  lt : m < 10 ^ (16 - j)
  j16 : j < 16
theorem DigS.start {N : Nat} (h : N < 10 ^ 16) : DigS N 0 N [] := ⟨by simp, rfl, h, by decide⟩
theorem DigS.last {N j m : Nat} {suf : Bs} (h : DigS N j m suf) (hm : m < 10) : digB 16 N = dg m :: suf := by
  obtain ⟨k, hk⟩ : ∃ k, 16 - j = k + 1 := ⟨15 - j, by have := h.j16; omega⟩
  have e0 : digB (k + 1) m = [dg m] := by rw [digB, if_pos hm]
  rw [h.eq, hk, e0]
  rfl
theorem DigS.next {N j m : Nat} {suf : Bs} (h : DigS N j m suf) (hm : ¬ m < 10) : DigS N (j + 1) (m / 10) (dg (m % 10) :: suf) := by
  obtain ⟨k, hk⟩ : ∃ k, 16 - j = k + 1 := ⟨15 - j, by have := h.j16; omega⟩
  have h1 := h.eq
  have h2 := h.lt
  rw [hk] at h1 h2
  rw [show digB (k + 1) m = digB k (m / 10) ++ [dg (m % 10)] by rw [digB, if_neg hm]] at h1
  rw [Nat.pow_succ] at h2
  have e : 16 - (j + 1) = k := by omega
  have h3 : m / 10 < 10 ^ k := Nat.div_lt_of_lt_mul (by omega)
  refine ⟨by rw [e, h1]; simp, by simp [h.len], by rw [e]; exact h3, ?_⟩
  rcases Nat.eq_zero_or_pos k with rfl | h4
  · simp at h3; omega
  · omega
end Go.Proofs.YtilhhigdegccgaaDoor.Js
/-
  Walks: jwk.text; jwk.may and jwk.Write at a bundle without keys; the law's example.
-/
namespace Go.Proofs.YtilhhigdegccgaaDoor.Js
set_option linter.unusedSimpArgs false
set_option linter.unusedVariables false
open Go.RowKit
def exD : Bs := [97, 46, 111, 114, 103]
def RowAt (u : World) (t : TypeId) (n : Nat) (xs : List Value) (v : Value) : Prop := ∃ g, v = .slice (some ⟨g, 0, none⟩) n n ∧ Blk u g t xs.toArray
theorem RowAt.step {u u' : World} {t : TypeId} {n : Nat} {xs : List Value} {v : Value} (h : RowAt u t n xs v) (hb : Below u.heap.size u u') : RowAt u' t n xs v := by
  obtain ⟨g, h1, h2⟩ := h
  exact ⟨g, h1, h2.below hb h2.lt⟩
end Go.Proofs.YtilhhigdegccgaaDoor.Js
/-
  The law JwkNames.
-/
namespace Go.Proofs.YtilhhigdegccgaaDoor.Js
set_option linter.unusedSimpArgs false
set_option linter.unusedVariables false
open Go.RowKit
theorem digS32_len2 (d : List UInt8) : (Sh.digS Sh.F32 d).length = 32 := by
  unfold Sh.digS
  generalize Sh.runS Sh.F32 (Sh.padS Sh.F32 d) ((Sh.padS Sh.F32 d).length / (2 * Sh.F32.bits)) = s
  simp [Sh.s8L, Sh.wordB_length, Sh.F32]
theorem rd_take {w : World} {B : Nat} {A : Option Addr} {l : List UInt8} (h : Rd w B A (bytesV l)) (n : Nat) : Rd w B A (bytesV (l.take n)) := fun i u hu => by
  have e : bytesV (l.take n) = (bytesV l).take n := by simp [bytesV, List.map_take]
  rw [e, List.getElem?_take] at hu
  split at hu
  · exact h i u hu
  · cases hu
end Go.Proofs.YtilhhigdegccgaaDoor.Js
/-
  A law of my own: '[]byte(s)', s a string.
-/
namespace Go.Proofs.YtilhhigdegccgaaDoor
set_option linter.unusedSimpArgs false
set_option linter.unusedVariables false
open Go.RowKit
section
variable {P : Program}
theorem rd_bytesRow (w : World) (s : ByteArray) (cap : Nat) (e : TypeId) (f : Nat × Nat) (u : World) (hu : u = w.alloc (.cells (bytesRow s cap) e f)) : Rd u u.heap.size (some ⟨w.heap.size, 0, none⟩) (bytesV s.data.toList) := by
  subst hu
  intro i v hv
  have hlt : i < s.data.size := by
    have := (List.getElem?_eq_some_iff.1 hv).1
    simpa [bytesV] using this
  refine ⟨_, rfl, by simp, ?_⟩
  have hadd : (⟨w.heap.size, 0, none⟩ : Addr).add i = ⟨w.heap.size, i, none⟩ := by unfold Addr.add; split <;> simp_all
  have hg : (w.alloc (.cells (bytesRow s cap) e f)).heap[w.heap.size]? = some (.cells (bytesRow s cap) e f) := by
    show (w.heap.push _)[w.heap.size]? = _
    simp
  rw [hadd, cell_of_row _ _ _ _ _ f hg, bytesRow, Array.getElem?_append_left (by simpa using hlt)]
  rw [bytesV, List.getElem?_map, Array.getElem?_toList] at hv
  rw [Array.getElem?_map]
  exact hv
theorem wpList_bytes_of {w : World} {ops : Array Oper} {rest : List Oper} {o : Oper} {a : Act} {Q : Exit → Act → World → Prop} {src dst e : TypeId} {x : Operand} {s : ByteArray}
    (hs : P.underlying src = some .string) (hd : P.underlying dst = some (.slice e)) (he : P.underlying e = some (.int .u8))
    (hgd : o.guard = none) (ho : o.op = .convert src dst x) (hx : a.eval x = .string s)
    (h : ∀ A c w', Rd w' w'.heap.size A (bytesV s.data.toList) → s.size ≤ c → Below w.heap.size w w' → wpList P ops Q rest (a.put o.dst (.slice A s.size c)) w') : wpList P ops Q (o :: rest) a w := by
  refine wpList_plain hgd fun K hK => ?_
  have hrun := run_bytes_of_string (P := P) w src dst e s hs hd he
  unfold Oper.wp execOp
  simp only [ho, hx]
  simp only [Sem.run_bind, hrun, Result.andThen_ok, Sem.run_pure]
  refine hK _ _ (h _ _ _ (rd_bytesRow w.drew s _ e _ _ rfl) (grownCap_ge w s.size 0 e) ?_)
  exact (Below.refl _ _).drew.alloc (Nat.le_refl _) _
theorem wpList_bytes_cap {w : World} {ops : Array Oper} {rest : List Oper} {o : Oper} {a : Act} {Q : Exit → Act → World → Prop} {src dst e : TypeId} {x : Operand} {s : ByteArray}
    (hs : P.underlying src = some .string) (hd : P.underlying dst = some (.slice e)) (he : P.underlying e = some (.int .u8))
    (hgd : o.guard = none) (ho : o.op = .convert src dst x) (hx : a.eval x = .string s) (hm : s.size ≤ maxLen)
    (h : ∀ c w', Rd w' w'.heap.size (some ⟨w.heap.size, 0, none⟩) (bytesV s.data.toList) → s.size ≤ c → c ≤ maxLen → Below w.heap.size w w' → wpList P ops Q rest (a.put o.dst (.slice (some ⟨w.heap.size, 0, none⟩) s.size c)) w') : wpList P ops Q (o :: rest) a w := by
  refine wpList_plain hgd fun K hK => ?_
  have hrun := run_bytes_of_string (P := P) w src dst e s hs hd he
  unfold Oper.wp execOp
  simp only [ho, hx]
  simp only [Sem.run_bind, hrun, Result.andThen_ok, Sem.run_pure]
  refine hK _ _ (h _ _ (rd_bytesRow w.drew s _ e _ _ rfl) (grownCap_ge w s.size 0 e) (grownCap_le_maxLen w s.size 0 e hm) ?_)
  exact (Below.refl _ _).drew.alloc (Nat.le_refl _) _
end
end Go.Proofs.YtilhhigdegccgaaDoor
/-
  Walks: the law's few and cut.
-/
namespace Go.Proofs.YtilhhigdegccgaaDoor.Js
set_option linter.unusedSimpArgs false
set_option linter.unusedVariables false
open Go.RowKit
def nameL (x : Bs) : Bs := _root_.Go.Proofs.YtilhhigdegccgaaDoor.nameK (Sh.digS Sh.F32 x) 4
def zB : Array Value := #[.string ⟨#[]⟩, .int .i64 0, .slice none 0 0]
def bC (d : Bs) (n : Int) (A : Option Addr) (l c : Nat) : Array Value := #[.string (bs d), .int .i64 n, .slice A l c]
structure Cb (w0 : World) (V R : Array Value) (A1 : Option Addr) (c1 : Nat) (ks : List (Bs × Bs)) (u : World) : Prop where
  low : Below w0.heap.size w0 u
  vbox : Blk u w0.heap.size 45 V
  res : Blk u (w0.heap.size + 1) 45 zB
  out : Blk u (w0.heap.size + 2) 45 R
  keys : OwnR u (w0.heap.size + 3) 77 2 A1 c1 ks.length (rowsV kCell ks)
section
variable {w0 : World} {V R : Array Value} {A1 : Option Addr} {c1 : Nat} {ks : List (Bs × Bs)} {u u' : World}
theorem Cb.size (h : Cb w0 V R A1 c1 ks u) : w0.heap.size + 3 ≤ u.heap.size := h.out.lt
theorem Cb.new (h : Cb w0 V R A1 c1 ks u) (hb : Below u.heap.size u u') : Cb w0 V R A1 c1 ks u' :=
  ⟨h.low.trans (hb.mono (by have := h.size; omega)), h.vbox.below hb h.vbox.lt, h.res.below hb h.res.lt, h.out.below hb h.out.lt, h.keys.below hb⟩
theorem Cb.put {R' : Array Value} (h : Cb w0 V R A1 c1 ks u) (hw : Wrote (w0.heap.size + 2) u u') (ht : Blk u' (w0.heap.size + 2) 45 R') : Cb w0 V R' A1 c1 ks u' := by
  have hs := h.size
  have hk : ∀ b, b < u.heap.size → w0.heap.size + 3 ≤ b → u'.heap[b]? = u.heap[b]? := fun b hb hl => hw.grown.block b hb (by intro h; injection h with h; omega)
  have hlt : ∀ {k cs t}, u.heap[k]? = some (.cells cs t (0, 0)) → k < u.heap.size := fun hq => (Array.getElem?_eq_some_iff.1 hq).1
  exact ⟨hw.below h.low (by omega) (by omega), hw.blk h.vbox (by omega), hw.blk h.res (by omega), ht, h.keys.heap fun k cs hq hl => (hk k (hlt hq) hl).trans hq⟩
theorem ownR_put {w w' : World} {base : Nat} {e : TypeId} {size : Nat} {A : Option Addr} {c n g : Nat} {xs : List Value} (h : OwnR w base e size A c n xs) (hw : Wrote g w w') (hne : ∀ k, (Value.slice A n c).ownBlock = some k → k ≠ g) : OwnR w' base e size A c n xs := by
  refine ⟨h.1, ?_⟩
  rcases h.2 with h0 | ⟨g', cap, cur, h1, h2, h3, h4⟩
  · exact .inl h0
  · have hn : g' ≠ g := hne g' (by rw [h1]; rfl)
    exact .inr ⟨g', cap, cur, h1, h2, (hw.grown.block g' (Array.getElem?_eq_some_iff.1 h3).1 (by intro he; injection he with he; exact hn he)).trans h3, h4⟩
theorem Cb.wrote {g : Nat} (h : Cb w0 V R A1 c1 ks u) (hw : Wrote g u u') (hg : w0.heap.size + 3 ≤ g) (hne : ∀ k, (Value.slice A1 ks.length c1).ownBlock = some k → k ≠ g) : Cb w0 V R A1 c1 ks u' :=
  ⟨hw.below h.low (by omega) (by have := h.size; omega), hw.blk h.vbox (by omega), hw.blk h.res (by omega), hw.blk h.out (by omega), ownR_put h.keys hw hne⟩
theorem Cb.add {k : Bs × Bs} {A' : Option Addr} {c' : Nat} (h : Cb w0 V R A1 c1 ks u) (ho : OwnR u' (w0.heap.size + 3) 77 2 A' c' (ks.length + 1) (rowsV kCell ks ++ (kCell k).toList)) (hg : u.grownBy u' (Value.slice A1 ks.length c1).ownBlock) :
    Cb w0 V R A' c' (ks ++ [k]) u' := by
  have hs := h.size
  have hne : ∀ k, k < w0.heap.size + 3 → some k ≠ (Value.slice A1 ks.length c1).ownBlock := fun k hk he => by have := (h.keys.lt k he.symm).1; omega
  exact ⟨h.low.grown hg (by omega) (fun k hk => by have := (h.keys.lt k hk).1; omega), h.vbox.grown hg (hne _ (by omega)), h.res.grown hg (hne _ (by omega)), h.out.grown hg (hne _ (by omega)), by rw [rowsV_append, rowsV_one, List.length_append]; exact ho⟩
end
theorem sl_jwks : SlT Tryd.prog 43 77 2 32 := SlT.mk1 (z := .agg #[.string ⟨#[]⟩, .string ⟨#[]⟩]) Tryd.underlying43 (by kernel_rfl) rfl (by decide)
end Go.Proofs.YtilhhigdegccgaaDoor.Js
