/-
  Walks: json's reader: a name.
-/
import Derived.Test.YtcfbnjaelniahaaJs10
import Derived.Test.YtcfbnjaelniahaaJod
namespace Go.Proofs.Ytcfbnjaelniahaa.Js
set_option linter.unusedSimpArgs false
set_option linter.unusedVariables false
open Go.RowKit

/-- the fault behind a name -/
def nameE (ns : List Bs) (o : Option (Bs × Bs)) : Int := match o with
  | none => 13
  | some (t, r1) => if t ∈ ns then 8 else mustE 58 0 r1
set_option maxHeartbeats 1000000 in
theorem name_any (ns : List Bs) (A : Option Addr) (c base : Nat) (s : ByteArray) (hs : (s.size : Int) ≤ 1000000) (r a : Nat) (d : Int) (w : World) (h : RD w r s a d 0) (ha : a ≤ s.size) (hrb : r < base)
    (hn : OwnX w base 9 1 (.slice A ns.length c) ns.length (rowsV sCell ns)) (hl : ns.length ≤ 1099511627776) :
    Calls Try.prog 62 #[.pointer (some ⟨r, 0, none⟩), .slice A ns.length c] w fun x w' => x = .returned (.string (bs (textS (textP (s.data.toList.drop a))))) ∧ ∃ a1 a' : Nat, (a1 : Int) ≤ (s.size : Int) + 5 ∧
      (∀ t r', textP (s.data.toList.drop a) = some (t, r') → At s a a1 r') ∧ (∃ e1, At s a1 a' (signR 58 e1 (s.data.toList.drop a1)) ∧ (nameE ns (textP (s.data.toList.drop a)) = 0 → e1 = 0)) ∧
      RD w' r s a' d (nameE ns (textP (s.data.toList.drop a))) ∧ RG r w w' := by
  have CW := Lib.hid (text_any s hs r a d w h ha)
  have HN := Lib.hid hn
  have HRB := Lib.hid hrb
  have CH := Lib.hid (fun (t : Bs) (u : World) (hr : Rd u u.heap.size A (rowsV sCell ns)) => has_any ns t A c u.heap.size u hr hl)
  have CM := Lib.hid (fun (b : Nat) (e : Int) (u : World) (h : RD u r s b d e) (hb : (b : Int) ≤ 1500000) => must_any 58 (by decide) s hs r b d e u h hb)
  have CF := Lib.hid (fun (b : Nat) (u : World) (h : RD u r s b d 0) => fail_any 8 s r b d 0 u h)
  obtain ⟨o, ho⟩ : ∃ o, o = textP (s.data.toList.drop a) := ⟨_, rfl⟩
  rw [← ho] at CW ⊢
  clear h ha hn hrb hl ho
  go_enter Try.func62, Try.ntmps62
  go_wp2_with fail
  refine calls_then CW.out ?_
  rintro y w1 ⟨rfl, a1, ha1, hat, hrd, hrg⟩
  have HA1 := Lib.hid ha1
  have HAT := Lib.hid hat
  have HRD1 := Lib.hid hrd
  have HRG1 := Lib.hid hrg
  have HN1 := Lib.hid (HN.out.kept hrg (.inr (by intro h; have := (HN.out.lt r h).1; have := HRB.out; omega)))
  clear hrg hat
  cases o with
  | none =>
    have HR1 := Lib.hid (show RD w1 r s a1 d 13 from HRD1.out)
    obtain ⟨-, -, -, c3⟩ := HR1.out.cells
    clear hrd ha1
    go_wp2_with fail
    refine calls_then (CM.out a1 13 _ HR1.out (by have := HA1.out; omega)) ?_
    rintro y w2 ⟨rfl, a2, hat2, hrd2, hrg2⟩
    have HAT2 := Lib.hid hat2
    have HRD2 := Lib.hid hrd2
    have HRG2 := Lib.hid (HRG1.out.trans hrg2)
    clear hat2 hrd2 hrg2 c3
    go_wp2_with fail
    go_ret
    exact ⟨rfl, a1, a2, HA1.out, HAT.out, ⟨13, HAT2.out, fun h => by cases h⟩, HRD2.out, HRG2.out⟩
  | some p =>
    obtain ⟨t, r1⟩ := p
    have HR1 := Lib.hid (show RD w1 r s a1 d 0 from HRD1.out)
    obtain ⟨-, -, -, c3⟩ := HR1.out.cells
    clear hrd ha1
    go_wp2_with fail
    refine calls_then (CH.out t _ (Rd.of_own HN1.out (Nat.le_refl _))) ?_
    rintro y w2 ⟨rfl, rfl⟩
    by_cases ht : t ∈ ns
    · rw [decide_eq_true ht]
      have HE := Lib.hid (show nameE ns (some (t, r1)) = 8 by unfold nameE; exact if_pos ht)
      clear ht
      go_wp2_with fail
      refine calls_then (CF.out a1 _ HR1.out) ?_
      rintro y w3 ⟨rfl, hrd3, hrg3⟩
      have HR2 := Lib.hid (show RD w3 r s a1 d 8 from hrd3)
      have HRG3 := Lib.hid (HRG1.out.trans hrg3)
      clear hrd3 hrg3 c3
      go_wp2_with fail
      refine calls_then (CM.out a1 8 _ HR2.out (by have := HA1.out; omega)) ?_
      rintro y w4 ⟨rfl, a2, hat2, hrd2, hrg2⟩
      have HAT2 := Lib.hid hat2
      have HRD2 := Lib.hid hrd2
      have HRG2 := Lib.hid (HRG3.out.trans hrg2)
      clear hat2 hrd2 hrg2
      go_wp2_with fail
      go_ret
      rw [HE.out]
      exact ⟨rfl, a1, a2, HA1.out, HAT.out, ⟨8, HAT2.out, fun h => by cases h⟩, HRD2.out, HRG2.out⟩
    · rw [decide_eq_false ht]
      have HX := Lib.hid (show s.data.toList.drop a1 = r1 from (HAT.out t r1 rfl).rest)
      have HE := Lib.hid (show nameE ns (some (t, r1)) = mustE 58 0 (s.data.toList.drop a1) by rw [HX.out]; unfold nameE; exact if_neg ht)
      have HR2 := Lib.hid HR1.out
      have HRG3 := Lib.hid HRG1.out
      clear ht c3
      go_wp2_with fail
      refine calls_then (CM.out a1 0 _ HR2.out (by have := HA1.out; omega)) ?_
      rintro y w4 ⟨rfl, a2, hat2, hrd2, hrg2⟩
      have HAT2 := Lib.hid hat2
      have HRD2 := Lib.hid hrd2
      have HRG2 := Lib.hid (HRG3.out.trans hrg2)
      clear hat2 hrd2 hrg2
      go_wp2_with fail
      go_ret
      rw [HE.out]
      exact ⟨rfl, a1, a2, HA1.out, HAT.out, ⟨0, HAT2.out, fun _ => rfl⟩, HRD2.out, HRG2.out⟩
end Go.Proofs.Ytcfbnjaelniahaa.Js
