/-
  Walks: json's reader: what is done where a fault is set already; the contracts of a sign, a name and a value for both.
-/
import Derived.Test.YtcfbnjaelniahaaJs11
namespace Go.Proofs.Ytcfbnjaelniahaa.Js
set_option linter.unusedSimpArgs false
set_option linter.unusedVariables false
open Go.RowKit

/-- the fault behind a part -/
def errE {α : Type} : Except Int α → Int
  | .error x => x
  | .ok _ => 0
def errP {α : Type} (e : Int) (p : Except Int α) : Int := if e = 0 then errE p else e
theorem errP_ne {α : Type} {e : Int} (h : e ≠ 0) (p : Except Int α) : errP e p = e := by rw [errP, if_neg h]
theorem errP_z {α : Type} (p : Except Int α) : errP 0 p = errE p := by rw [errP, if_pos rfl]
theorem lookE_ne {s : ByteArray} {a : Nat} {e : Int} (h : e ≠ 0) : lookE s a e = 0 := by rw [lookE, if_neg h]
theorem text_bad (s : ByteArray) (r a : Nat) (d e : Int) (he : e ≠ 0) (w : World) (h : RD w r s a d e) :
    Calls Try.prog 52 #[.pointer (some ⟨r, 0, none⟩)] w fun x w' => x = .returned (.string (bs [])) ∧ RD w' r s a d e ∧ RG r w w' := by
  have CK := Lib.hid (look_any s r a d e w h)
  have CF := Lib.hid (fun (u : World) (h : RD u r s a d e) => fail_any 13 s r a d e u h)
  have HL := Lib.hid (lookE_ne (s := s) (a := a) he)
  have HE := Lib.hid he
  clear h he
  go_enter Try.func52, Try.ntmps52
  go_wp2_with fail
  refine calls_then CK.out ?_
  rintro y w1 ⟨rfl, hrd, hrg⟩
  have HRD1 := Lib.hid hrd
  have HRG1 := Lib.hid hrg
  rw [HL.out, show byteV 0 = Value.int .u8 0 from rfl]
  clear hrd hrg
  go_wp2_with fail
  refine calls_then (CF.out _ HRD1.out) ?_
  rintro y w2 ⟨rfl, hrd, hrg⟩
  have HRD2 := Lib.hid (show RD w2 r s a d e by rw [if_neg HE.out] at hrd; exact hrd)
  have HRG2 := Lib.hid (HRG1.out.trans hrg)
  clear hrd hrg
  go_wp2_with fail
  go_ret
  exact ⟨rfl, HRD2.out, HRG2.out⟩
theorem name_bad (A : Option Addr) (n c : Nat) (s : ByteArray) (hs : (s.size : Int) ≤ 1000000) (r a : Nat) (d e : Int) (he : e ≠ 0) (w : World) (h : RD w r s a d e) (ha : (a : Int) ≤ 1500000) :
    Calls Try.prog 62 #[.pointer (some ⟨r, 0, none⟩), .slice A n c] w fun x w' => x = .returned (.string (bs [])) ∧ ∃ a' : Nat, (a' : Int) ≤ 1500000 ∧ RD w' r s a' d e ∧ RG r w w' := by
  have CW := Lib.hid (text_bad s r a d e he w h)
  have CM := Lib.hid (fun (u : World) (h : RD u r s a d e) => must_any 58 (by decide) s hs r a d e u h ha)
  have HE := Lib.hid he
  have HA := Lib.hid ha
  have HS := Lib.hid hs
  have he' : (e == 0) = false := by simpa using he
  clear h ha hs he
  go_enter Try.func62, Try.ntmps62
  go_wp2_with fail
  refine calls_then CW.out ?_
  rintro y w1 ⟨rfl, hrd, hrg⟩
  have HRD1 := Lib.hid hrd
  have HRG1 := Lib.hid hrg
  obtain ⟨-, -, -, c3⟩ := hrd.cells
  clear hrd hrg
  go_wp2_with fail
  refine calls_then (CM.out _ HRD1.out) ?_
  rintro y w2 ⟨rfl, a2, hat2, hrd2, hrg2⟩
  have HAT2 := Lib.hid hat2
  have HRD2 := Lib.hid (show RD w2 r s a2 d e by unfold mustE at hrd2; rw [if_neg HE.out] at hrd2; exact hrd2)
  have HRG2 := Lib.hid (HRG1.out.trans hrg2)
  clear hat2 hrd2 hrg2 c3
  go_wp2_with fail
  go_ret
  exact ⟨rfl, a2, HAT2.out.big HS.out HA.out, HRD2.out, HRG2.out⟩
theorem value_bad (s : ByteArray) (r a : Nat) (d e : Int) (he : e ≠ 0) (w : World) (h : RD w r s a d e) :
    Calls Try.prog 21 #[.pointer (some ⟨r, 0, none⟩)] w fun x w' => x = .returned (.agg (jvCells zJV)) ∧ RD w' r s a d e ∧ RG r w w' := by
  have hu := Try.underlying25
  obtain ⟨W0, hW0⟩ : ∃ W0, W0 = w.alloc (.cells (jvCells zJV) 25) := ⟨_, rfl⟩
  have hb0 : Below w.heap.size w W0 := by rw [hW0]; exact (Below.refl _ w).alloc (Nat.le_refl _) _
  obtain ⟨G, hG⟩ : ∃ G, G = w.heap.size := ⟨_, rfl⟩
  have HKZ := Lib.hid (show Blk W0 G 25 (jvCells zJV) by rw [hW0, hG]; exact Blk.new _ _ _)
  have HRD := Lib.hid (h.grow hb0)
  have HRG := Lib.hid (show RG r w W0 from .below hb0)
  have HRL := Lib.hid (show r < G by rw [hG]; exact Blk.lt h)
  have HW0 := Lib.hid hW0
  have he' : (e != 0) = true := by simpa using he
  obtain ⟨-, -, -, c3⟩ := (h.grow hb0).cells
  clear hW0 hb0 h he
  rw [hG] at *
  clear hG
  go_enter Try.func21, Try.ntmps21
  go_upto_region 1 with (fail)
  rw [show (w.alloc (.cells #[.int .i64 0, .int .i64 0, .string ⟨#[]⟩, .slice none 0 0, .slice none 0 0] 25)) = W0 from HW0.out.symm]
  clear HW0
  go_wp2_with (refine wpList_put_box (x := .tmp 2) (cells := jvCells zJV) HKZ.out rfl rfl rfl rfl jT_size3 rfl (jvCells_one _) ?_; intro w9 hb9 hw9)
  have HB9 := Lib.hid hb9
  refine bodyPost_ret (results_box (P := Try.prog) rfl rfl HB9.out hu rfl jT_size3) rfl ?_
  exact ⟨rfl, hw9.blk HRD.out (by have := HRL.out; omega), HRG.out.wrote_new hw9 (Nat.le_refl _)⟩
theorem must_all (c : UInt8) (hc0 : c ≠ 0) (s : ByteArray) (hs : (s.size : Int) ≤ 1000000) (r a : Nat) (d : Int) (w : World) (h : RD w r s a d 0) (ha : (a : Int) ≤ 1500000) :
    Calls Try.prog 61 #[.pointer (some ⟨r, 0, none⟩), byteV c] w fun x w' => x = .returned (.tuple #[]) ∧ ∃ a' : Nat, (a' : Int) ≤ 1500000 ∧ RD w' r s a' d (errE (mustP c (s.data.toList.drop a))) ∧ RG r w w' ∧
      ∀ r1, mustP c (s.data.toList.drop a) = .ok r1 → At s a a' r1 := by
  refine (must_any c hc0 s hs r a d 0 w h ha).mono ?_
  rintro x w' ⟨rfl, a', hat, hrd, hrg⟩
  have e1 : mustE c 0 (s.data.toList.drop a) = errE (mustP c (s.data.toList.drop a)) := by
    unfold mustE mustP signP
    rw [if_pos rfl]
    split <;> simp_all [errE]
  rw [e1] at hrd
  refine ⟨rfl, a', hat.big hs ha, hrd, hrg, fun r1 h1 => ?_⟩
  have e2 : signR c 0 (s.data.toList.drop a) = r1 := by
    unfold mustP at h1
    unfold signR signB signP
    split at h1
    · rename_i hl
      injection h1 with h1
      simp [hl, h1]
    · cases h1
  rw [e2] at hat
  exact hat
theorem name_all (ns : List Bs) (A : Option Addr) (c base : Nat) (s : ByteArray) (hs : (s.size : Int) ≤ 1000000) (r a : Nat) (d e : Int) (w : World) (h : RD w r s a d e) (ha : (a : Int) ≤ 1500000) (ha0 : e = 0 → a ≤ s.size) (hrb : r < base)
    (hn : OwnX w base 9 1 (.slice A ns.length c) ns.length (rowsV sCell ns)) (hl : ns.length ≤ 1099511627776) :
    Calls Try.prog 62 #[.pointer (some ⟨r, 0, none⟩), .slice A ns.length c] w fun x w' => ∃ t : Bs, x = .returned (.string (bs t)) ∧ ∃ a' : Nat, (a' : Int) ≤ 1500000 ∧
      RD w' r s a' d (errP e (nameP ns (s.data.toList.drop a))) ∧ RG r w w' ∧ (e = 0 → ∀ ns' r1, nameP ns (s.data.toList.drop a) = .ok (ns', r1) → ns' = ns ++ [t] ∧ At s a a' r1) := by
  by_cases he : e = 0
  · subst he
    refine (name_any ns A c base s hs r a d w h (ha0 rfl) hrb hn hl).mono ?_
    rintro x w' ⟨rfl, a1, a2, ha1, hat1, ⟨e1, hat2, he1⟩, hrd, hrg⟩
    have e2 : nameE ns (textP (s.data.toList.drop a)) = errP 0 (nameP ns (s.data.toList.drop a)) := by
      rw [errP_z]
      unfold nameE nameP
      cases hq : textP (s.data.toList.drop a) with
      | none => rfl
      | some p =>
        obtain ⟨t, r0⟩ := p
        dsimp only
        by_cases hm : t ∈ ns
        · rw [if_pos hm, if_pos hm]
          rfl
        · rw [if_neg hm, if_neg hm]
          unfold mustE mustP signP
          rw [if_pos rfl]
          by_cases hl : look (skip r0) = 58 <;> simp [hl, errE]
    rw [e2] at hrd
    refine ⟨_, rfl, a2, hat2.big hs (by omega), hrd, hrg, fun _ ns' r1 h1 => ?_⟩
    rw [e2, h1] at he1
    have hz : e1 = 0 := he1 rfl
    subst hz
    unfold nameP at h1
    split at h1
    · cases h1
    · rename_i t r0 ht
      have hat0 := hat1 t r0 ht
      rw [hat0.rest] at hat2
      split at h1
      · cases h1
      · split at h1
        · cases h1
        · rename_i r2 hm
          injection h1 with h1
          injection h1 with h1 h2
          subst h1 h2
          rw [ht]
          refine ⟨rfl, hat0.trans ?_⟩
          have e3 : signR 58 0 r0 = r2 := by
            unfold mustP at hm
            unfold signR signB signP
            split at hm
            · rename_i hl
              injection hm with hm
              simp [hl, hm]
            · cases hm
          rw [e3] at hat2
          exact hat2
  · refine (name_bad A ns.length c s hs r a d e he w h ha).mono ?_
    rintro x w' ⟨rfl, a2, ha2, hrd, hrg⟩
    exact ⟨[], rfl, a2, ha2, by rw [errP_ne he]; exact hrd, hrg, fun h0 => absurd h0 he⟩
/-- a value's contract, so many levels left -/
def VRd (d : Nat) : Prop := ∀ (s : ByteArray) (hs : (s.size : Int) ≤ 1000000) (r a : Nat) (D : Int) (hD : D + (d : Int) = 6) (h0 : 0 ≤ D) (w : World) (h : RD w r s a D 0) (ha : a ≤ s.size),
  Calls Try.prog 21 #[.pointer (some ⟨r, 0, none⟩)] w fun x w' => ∃ v : JV, x = .returned (.agg (jvCells v)) ∧ ∃ a' : Nat, (a' : Int) ≤ 1500000 ∧
    RD w' r s a' D (errE (valueP d (s.data.toList.drop a))) ∧ RG r w w' ∧ ∀ j r1, valueP d (s.data.toList.drop a) = .ok (j, r1) → At s a a' r1 ∧ JRep w' (fun b => w.heap.size ≤ b) j v
theorem value_all (d : Nat) (IH : VRd d) (s : ByteArray) (hs : (s.size : Int) ≤ 1000000) (r a : Nat) (D e : Int) (hD : D + (d : Int) = 6) (h0 : 0 ≤ D) (w : World) (h : RD w r s a D e) (ha : (a : Int) ≤ 1500000) (ha0 : e = 0 → a ≤ s.size) :
  Calls Try.prog 21 #[.pointer (some ⟨r, 0, none⟩)] w fun x w' => ∃ v : JV, x = .returned (.agg (jvCells v)) ∧ ∃ a' : Nat, (a' : Int) ≤ 1500000 ∧
    RD w' r s a' D (errP e (valueP d (s.data.toList.drop a))) ∧ RG r w w' ∧ (e = 0 → ∀ j r1, valueP d (s.data.toList.drop a) = .ok (j, r1) → At s a a' r1 ∧ JRep w' (fun b => w.heap.size ≤ b) j v) := by
  by_cases he : e = 0
  · subst he
    refine (IH s hs r a D hD h0 w h (ha0 rfl)).mono ?_
    rintro x w' ⟨v, rfl, a1, ha1, hrd, hrg, hok⟩
    exact ⟨v, rfl, a1, ha1, by rw [errP_z]; exact hrd, hrg, fun _ => hok⟩
  · refine (value_bad s r a D e he w h).mono ?_
    rintro x w' ⟨rfl, hrd, hrg⟩
    exact ⟨zJV, rfl, a, ha, by rw [errP_ne he]; exact hrd, hrg, fun h0 => absurd h0 he⟩
end Go.Proofs.Ytcfbnjaelniahaa.Js
