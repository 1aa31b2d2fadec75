/-
  Walks: json's reader: a string.
-/
import Derived.Test.YtcfbnjaelniahaaJs6
import Derived.Test.YtcfbnjaelniahaaBld
import Derived.Test.YtcfbnjaelniahaaConv
namespace Go.Proofs.Ytcfbnjaelniahaa.Js
set_option linter.unusedSimpArgs false
set_option linter.unusedVariables false
open Go.RowKit

def textS : Option (Bs × Bs) → Bs
  | none => []
  | some (t, _) => t
def textE : Option (Bs × Bs) → Int
  | none => 13
  | some _ => 0
theorem strA_bad {n : Nat} {acc rest : Bs} (h : look rest < 32 ∨ 126 < look rest) : strA n acc rest = none := by
  cases n with
  | zero => rfl
  | succ n =>
    cases rest with
    | nil => rfl
    | cons c r => simp only [look] at h; rw [strA, if_pos h]
theorem strA_end {n : Nat} {acc r : Bs} : strA (n + 1) acc (34 :: r) = some (acc, r) := by
  rw [strA, if_neg (by decide), if_pos rfl]
theorem strA_esc {n : Nat} {acc r : Bs} : strA (n + 1) acc (92 :: r) = (match escP r with | some (b, r') => strA n (acc ++ [b]) r' | none => none) := by
  rw [strA, if_neg (by decide), if_neg (by decide), if_pos rfl]
  rcases escP r with _ | ⟨b, r'⟩ <;> rfl
theorem strA_one {n : Nat} {acc r : Bs} {c : UInt8} (h1 : ¬ (c < 32 ∨ 126 < c)) (h2 : c ≠ 34) (h3 : c ≠ 92) : strA (n + 1) acc (c :: r) = strA n (acc ++ [c]) r := by
  rw [strA, if_neg h1, if_neg h2, if_neg h3]
/-- where the loop stands -/
def TxK (s : ByteArray) (X : Bs) (a : Nat) (acc : Bs) (a1 : Nat) (e1 : Int) (gk : Nat) : Prop :=
  (e1 = 0 ∧ a1 ≤ s.size ∧ a < a1 ∧ acc.length ≤ a1 ∧ gk = s.size - a1 + 1 ∧ ∃ n, (s.data.toList.drop a1).length < n ∧ strA n acc (s.data.toList.drop a1) = textP X) ∨
  (e1 = 13 ∧ textP X = none ∧ (a1 : Int) ≤ (s.size : Int) + 5 ∧ gk = 0)
set_option maxRecDepth 100000 in
set_option maxHeartbeats 4000000 in
theorem text_any (s : ByteArray) (hs : (s.size : Int) ≤ 1000000) (r a : Nat) (d : Int) (w : World) (h : RD w r s a d 0) (ha : a ≤ s.size) :
    Calls Try.prog 52 #[.pointer (some ⟨r, 0, none⟩)] w fun x w' => x = .returned (.string (bs (textS (textP (s.data.toList.drop a))))) ∧ ∃ a' : Nat, (a' : Int) ≤ (s.size : Int) + 5 ∧
      (∀ t r', textP (s.data.toList.drop a) = some (t, r') → At s a a' r') ∧
      RD w' r s a' d (textE (textP (s.data.toList.drop a))) ∧ RG r w w' := by
  obtain ⟨X, hX⟩ : ∃ X, X = s.data.toList.drop a := ⟨_, rfl⟩
  have HX := Lib.hid hX
  have HA := Lib.hid ha
  rw [← hX]
  have HRD0 := Lib.hid h
  have HRL := Lib.hid (show r < w.heap.size from Blk.lt h)
  have CK := Lib.hid (fun (b : Nat) (e : Int) (u : World) (h : RD u r s b d e) => look_any s r b d e u h)
  have CF := Lib.hid (fun (b : Nat) (e : Int) (u : World) (h : RD u r s b d e) => fail_any 13 s r b d e u h)
  have CE := Lib.hid (fun (b : Nat) (u : World) (h : RD u r s b d 0) (hb : b ≤ s.size) => escape_any s hs r b d u h hb)
  have ha' : (a : Int) ≤ (s.size : Int) := by omega
  clear h hX ha
  go_enter Try.func52, Try.ntmps52
  go_wp2_with fail
  refine calls_then (CK.out a 0 _ HRD0.out) ?_
  rintro y w1 ⟨rfl, hrd, hrg⟩
  have HRD1 := Lib.hid hrd
  have HRG1 := Lib.hid hrg
  have HLK := Lib.hid (show lookE s a 0 = look X by rw [lookE, if_pos rfl, HX.out])
  obtain ⟨c0, c1, -, -⟩ := hrd.cells
  rw [HLK.out]
  clear hrd hrg
  unfold byteV
  obtain ⟨z, hz⟩ : ∃ z : Int, z = (((look X).toNat : Nat) : Int) := ⟨_, rfl⟩
  rw [← hz]
  by_cases h34 : look X = 34
  case neg =>
    have hzn : (z == 34) = false := by
      rw [hz, beq_eq_false_iff_ne]
      intro h
      exact h34 (UInt8.toNat.inj (by show (look X).toNat = 34; omega))
    have hzn2 : (z != 34) = true := by rw [bne, hzn]; rfl
    have HN := Lib.hid (show textP X = none by rw [textP, if_neg h34])
    clear hz h34
    go_wp2_with fail
    refine calls_then (CF.out _ _ _ HRD1.out) ?_
    rintro y w6 ⟨rfl, hrd, hrg⟩
    have HRD6 := Lib.hid (show RD w6 r s a d 13 from hrd)
    have HRG6 := Lib.hid (HRG1.out.trans hrg)
    clear hrd hrg
    go_wp2_with fail
    go_ret
    rw [HN.out]
    refine ⟨rfl, a, by have := HA.out; omega, fun x r' h => ?_, HRD6.out, HRG6.out⟩
    cases h
  case pos =>
  have hz34 : z = 34 := by rw [hz, h34]; rfl
  have HLT := Lib.hid (show a < s.size from look_lt (by rw [← HX.out, h34]; decide))
  have HXT := Lib.hid (show textP X = strA X.length [] X.tail by rw [textP, if_pos h34])
  subst hz34
  clear hz h34
  obtain ⟨b, hb⟩ : ∃ b, b = a + 1 := ⟨_, rfl⟩
  have HB := Lib.hid hb
  have HBI := Lib.hid (show (a : Int) + 1 = (b : Int) by omega)
  clear hb
  go_wp2_with (refine wpList_put_cell (x := .tmp 16) (i := 1) HRD1.out rfl rfl rfl rfl (by kernel_rfl) (by simp [rdCells]) rfl ?_; intro w2 hb2 hw2)
  have HRD2 := Lib.hid (show RD w2 r s b d 0 from by
    show Blk w2 r _ #[.string s, .int .i64 ((b : Nat) : Int), .int .i64 d, .int .i64 0]
    rw [← HBI.out]
    exact hb2)
  have HRG2 := Lib.hid (HRG1.out.trans (.wrote hw2))
  clear hb2 hw2 c0 c1
  go_loopg [3, 4] (s.size - b + 1) (fun gk x c wr => ∃ (acc : Bs) (A : Option Addr) (cp a1 : Nat) (e1 : Int), x = .slice A acc.length cp ∧ OwnX wr w.heap.size 5 1 (.slice A acc.length cp) acc.length (bytesV acc) ∧
    TxK s X a acc a1 e1 gk ∧ RD wr r s a1 d e1 ∧ RG r w wr)
  case atStart =>
    refine ⟨[], none, 0, b, 0, rfl, OwnX.nil _ _ _ _, .inl ⟨rfl, by have := HB.out; have := HLT.out; omega, by have := HB.out; omega, Nat.zero_le _, rfl, X.length, ?_, ?_⟩, HRD2.out, HRG2.out⟩
    · rw [HB.out, HX.out, List.length_drop, List.length_drop]
      have h5 : s.data.toList.length = s.size := rfl
      have := HLT.out
      omega
    · rw [HB.out, drop_tail, ← HX.out, HXT.out]
  case round =>
    obtain ⟨acc, A, cp, a1, e1, rfl, hown, hk, hrd, hrg⟩ := hrel
    have HOWN3 := Lib.hid hown
    have HRD3 := Lib.hid hrd
    have HRG3 := Lib.hid hrg
    clear hown hrd hrg
    rcases hk with ⟨rfl, h1, h2, h3, h4, n, hn1, hn2⟩ | ⟨rfl, hn, hle, hg0⟩
    case inr =>
      have HN := Lib.hid hn
      have HLE := Lib.hid hle
      clear hn hle hg0
      go_wp2_with fail
      refine calls_then (CK.out a1 13 _ HRD3.out) ?_
      rintro y w4 ⟨rfl, hrd, hrg⟩
      have HRD4 := Lib.hid hrd
      have HRG4 := Lib.hid (HRG3.out.trans hrg)
      clear hrd hrg
      rw [show byteV (lookE s a1 13) = .int .u8 0 from rfl]
      go_wp2_with fail
      refine calls_then (CF.out _ _ _ HRD4.out) ?_
      rintro y w6 ⟨rfl, hrd, hrg⟩
      have HRD6 := Lib.hid (show RD w6 r s a1 d 13 from hrd)
      have HRG6 := Lib.hid (HRG4.out.trans hrg)
      clear hrd hrg
      go_wp2_with fail
      go_ret
      rw [HN.out]
      refine ⟨rfl, a1, by have := HLE.out; omega, fun x r' h => ?_, HRD6.out, HRG6.out⟩
      cases h
    case inl =>
      obtain ⟨rest, hrest⟩ : ∃ rest, rest = s.data.toList.drop a1 := ⟨_, rfl⟩
      rw [← hrest] at hn1 hn2
      have HRE := Lib.hid hrest
      have HN1 := Lib.hid hn1
      have HN2 := Lib.hid hn2
      have HA1 := Lib.hid h1
      have HA2 := Lib.hid h2
      have HGK := Lib.hid h4
      have HLE := Lib.hid (show (a1 : Int) ≤ (s.size : Int) + 5 by omega)
      have hacc : (acc.length : Int) ≤ 1000000 := by omega
      have HACC := Lib.hid h3
      have ha1 : (a1 : Int) ≤ (s.size : Int) := by omega
      clear hrest hn1 hn2 h1 h2 h3 h4
      go_wp2_with fail
      refine calls_then (CK.out a1 0 _ HRD3.out) ?_
      rintro y w4 ⟨rfl, hrd, hrg⟩
      have HRD4 := Lib.hid hrd
      have HRG4 := Lib.hid (HRG3.out.trans hrg)
      have HOWN4 := Lib.hid (HOWN3.out.kept hrg (.inr (by intro h; have := (HOWN3.out.lt r h).1; have := HRL.out; omega)))
      have HLC := Lib.hid (show lookE s a1 0 = look rest by rw [lookE, if_pos rfl, HRE.out])
      clear hrd hrg
      rw [HLC.out]
      obtain ⟨c, hc⟩ : ∃ c, c = look rest := ⟨_, rfl⟩
      rw [← hc]
      have HC := Lib.hid hc
      unfold byteV
      obtain ⟨z, hz⟩ : ∃ z : Int, z = ((c.toNat : Nat) : Int) := ⟨_, rfl⟩
      rw [← hz]
      have HZ := Lib.hid hz
      by_cases hbad : c < 32 ∨ 126 < c
      case pos =>
        have HN := Lib.hid (show textP X = none by rw [← HN2.out]; exact strA_bad (by rw [← HC.out]; exact hbad))
        have hor : z < 32 ∨ (¬ z < 32 ∧ 126 < z) := by
          rw [UInt8.lt_iff_toNat_lt, UInt8.lt_iff_toNat_lt] at hbad
          rw [show (32 : UInt8).toNat = 32 from rfl, show (126 : UInt8).toNat = 126 from rfl] at hbad
          omega
        clear hbad hc hz
        rcases hor with h1 | ⟨h1, h2⟩
        · skip
          go_wp2_with fail
          refine calls_then (CF.out _ _ _ HRD4.out) ?_
          rintro y w6 ⟨rfl, hrd, hrg⟩
          have HRD6 := Lib.hid (show RD w6 r s a1 d 13 from hrd)
          have HRG6 := Lib.hid (HRG4.out.trans hrg)
          clear hrd hrg
          go_wp2_with fail
          go_ret
          rw [HN.out]
          refine ⟨rfl, a1, by have := HLE.out; omega, fun x r' h => ?_, HRD6.out, HRG6.out⟩
          cases h
        · skip
          go_wp2_with fail
          refine calls_then (CF.out _ _ _ HRD4.out) ?_
          rintro y w6 ⟨rfl, hrd, hrg⟩
          have HRD6 := Lib.hid (show RD w6 r s a1 d 13 from hrd)
          have HRG6 := Lib.hid (HRG4.out.trans hrg)
          clear hrd hrg
          go_wp2_with fail
          go_ret
          rw [HN.out]
          refine ⟨rfl, a1, by have := HLE.out; omega, fun x r' h => ?_, HRD6.out, HRG6.out⟩
          cases h
      case neg =>
      have hz2 : ¬ z < 32 ∧ ¬ 126 < z := by
        rw [UInt8.lt_iff_toNat_lt, UInt8.lt_iff_toNat_lt] at hbad
        rw [show (32 : UInt8).toNat = 32 from rfl, show (126 : UInt8).toNat = 126 from rfl] at hbad
        omega
      obtain ⟨hz1, hz2⟩ := hz2
      have HBAD := Lib.hid hbad
      have HLT1 := Lib.hid (show a1 < s.size from look_lt (by
        rw [← HRE.out, ← HC.out]
        intro h0
        rw [h0] at hbad
        exact hbad (.inl (by decide))))
      obtain ⟨tl, htl⟩ : ∃ tl, tl = rest.tail := ⟨_, rfl⟩
      have HTL := Lib.hid htl
      have HRT := Lib.hid (show rest = c :: tl by
        have h1 := HC.out
        rw [htl]
        cases hr : rest with
        | nil =>
          exact absurd (.inl (by rw [h1, hr]; decide)) hbad
        | cons x l => rw [h1, hr]; rfl)
      obtain ⟨m, hm⟩ : ∃ m, n = m + 1 := ⟨n - 1, by have := HN1.out; omega⟩
      have HM := Lib.hid hm
      obtain ⟨b1, hb1⟩ : ∃ b1, b1 = a1 + 1 := ⟨_, rfl⟩
      have HB1 := Lib.hid hb1
      have HBI1 := Lib.hid (show (a1 : Int) + 1 = (b1 : Int) by omega)
      have HDB := Lib.hid (show s.data.toList.drop b1 = tl by rw [hb1, drop_tail, ← HRE.out, htl])
      obtain ⟨c0, c1, -, -⟩ := HRD4.out.cells
      clear hbad hc hz htl hm hb1
      by_cases h34 : c = 34
      · have hz34 : z = 34 := by rw [HZ.out, h34]; rfl
        have HT := Lib.hid (show textP X = some (acc, tl) by rw [← HN2.out, HRT.out, HM.out, h34, strA_end])
        subst hz34
        clear h34 hz1 hz2
        go_upto_region 12 with (refine wpList_put_cell (x := .tmp 37) (i := 1) HRD4.out rfl rfl rfl rfl (by kernel_rfl) (by simp [rdCells]) rfl ?_; intro w5 hb5 hw5)
        have HOWN5 := Lib.hid (HOWN4.out.kept hw5.grown (.inr (by intro h; have := (HOWN4.out.lt r h).1; have := HRL.out; omega)))
        have hrw := Rd.of_own HOWN5.out (Nat.le_refl _)
        have hrun := run_str_of (P := Try.prog) Try.underlying42 Try.underlying5 Try.underlying9 hrw cp
        have HRD5 := Lib.hid (show RD w5 r s b1 d 0 from by
          show Blk w5 r _ #[.string s, .int .i64 ((b1 : Nat) : Int), .int .i64 d, .int .i64 0]
          rw [← HBI1.out]
          exact hb5)
        have HRG5 := Lib.hid (HRG4.out.trans (.wrote hw5))
        clear hrw hb5 hw5 c0 c1
        go_wp2_with fail
        go_ret
        rw [HT.out]
        refine ⟨rfl, b1, by have := HB1.out; omega, fun x r' h => ?_, HRD5.out, HRG5.out⟩
        injection h with h
        injection h with h1 h2
        subst h2
        exact ⟨by have := HB1.out; have := HA2.out; omega, .inr (by have := HB1.out; have := HLT1.out; omega), HDB.out⟩
      · have hz34 : (z == 34) = false := by
          rw [HZ.out, beq_eq_false_iff_ne]
          intro h
          exact h34 (UInt8.toNat.inj (by show c.toNat = 34; omega))
        by_cases h92 : c = 92
        · have hz92 : z = 92 := by rw [HZ.out, h92]; rfl
          have HS := Lib.hid (show (match escP tl with | some (b, r') => strA m (acc ++ [b]) r' | none => none) = textP X by rw [← HN2.out, HRT.out, HM.out, h92, strA_esc])
          subst hz92
          clear h34 h92 hz1 hz2 hz34
          go_wp2_with (refine wpList_put_cell (x := .tmp 46) (i := 1) HRD4.out rfl rfl rfl rfl (by kernel_rfl) (by simp [rdCells]) rfl ?_; intro w5 hb5 hw5)
          have HRD5 := Lib.hid (show RD w5 r s b1 d 0 from by
            show Blk w5 r _ #[.string s, .int .i64 ((b1 : Nat) : Int), .int .i64 d, .int .i64 0]
            rw [← HBI1.out]
            exact hb5)
          have HRG5 := Lib.hid (HRG4.out.trans (.wrote hw5))
          have HOWN5 := Lib.hid (HOWN4.out.kept hw5.grown (.inr (by intro h; have := (HOWN4.out.lt r h).1; have := HRL.out; omega)))
          clear hb5 hw5 c0 c1
          refine calls_then (CE.out b1 _ HRD5.out (by have := HB1.out; have := HLT1.out; omega)) ?_
          rintro y w6 ⟨rfl, a2, ha2, hat, hrd, hrg⟩
          have HRG6 := Lib.hid (HRG5.out.trans hrg)
          have HOWN6 := Lib.hid (HOWN5.out.kept hrg (.inr (by intro h; have := (HOWN5.out.lt r h).1; have := HRL.out; omega)))
          rw [HDB.out] at hat hrd ⊢
          have HRD6 := Lib.hid hrd
          have HAT := Lib.hid hat
          have HA22 := Lib.hid ha2
          clear hrd hrg hat ha2
          obtain ⟨cb, hcb⟩ : ∃ cb, cb = escV (escP tl) := ⟨_, rfl⟩
          rw [← hcb]
          have HCB := Lib.hid hcb
          clear hcb
          unfold byteV
          obtain ⟨zb, hzb⟩ : ∃ zb : Int, zb = ((cb.toNat : Nat) : Int) := ⟨_, rfl⟩
          rw [← hzb]
          have HZB := Lib.hid hzb
          clear hzb
          go_wp2_with (refine wpList_append_one sl_u8 rfl rfl HOWN6.out rfl rfl rfl rfl (by unfold maxLen; omega) (by omega) HRG6.out.size ?_; intro A2 cp2 w7 ho7 hg7 hn7)
          have HOWN7 := Lib.hid (show OwnX w7 w.heap.size 5 1 (.slice A2 (acc ++ [cb]).length cp2) (acc ++ [cb]).length (bytesV (acc ++ [cb])) by
            rw [bytesV_append, List.length_append]
            rw [show bytesV [cb] = [Value.int .u8 zb] by rw [HZB.out]; rfl]
            exact ho7)
          have HRD7 := Lib.hid (show RD w7 r s a2 d (escE (escP tl)) from (hg7.block r (Blk.lt HRD6.out) (by intro h; have := (HOWN6.out.lt r h.symm).1; have := HRL.out; omega)).trans HRD6.out)
          have HRG7 := Lib.hid (HRG6.out.andThen hg7 (fun j hj => .inl (HOWN6.out.lt j hj).1))
          clear ho7 hg7 hn7
          go_wp2_with fail
          cases hes : escP tl with
          | none =>
            have HN := Lib.hid (show textP X = none by rw [← HS.out, hes])
            have HR8 := Lib.hid (show RD w7 r s a2 d 13 by have h := HRD7.out; rw [hes] at h; exact h)
            clear hes
            go_roundg 0
            case measure => have := HGK.out; omega
            case rel => exact ⟨acc ++ [cb], A2, cp2, a2, 13, by rw [List.length_append]; rfl, HOWN7.out, .inr ⟨rfl, HN.out, HA22.out, rfl⟩, HR8.out, HRG7.out⟩
          | some p =>
            obtain ⟨pb, pr⟩ := p
            have HAT2 := Lib.hid (HAT.out pb pr hes)
            have HSS := Lib.hid (show strA m (acc ++ [cb]) pr = textP X by rw [← HS.out, HCB.out, hes]; rfl)
            have HLN := Lib.hid (escP_len hes)
            have HR8 := Lib.hid (show RD w7 r s a2 d 0 by have h := HRD7.out; rw [hes] at h; exact h)
            clear hes
            go_roundg (s.size - a2 + 1)
            case measure => have := HGK.out; have := HAT2.out.le; have := HAT2.out.top; have := HB1.out; have := HLT1.out; omega
            case rel =>
              have hl := HAT2.out.le
              have ht := HAT2.out.top
              have hb := HB1.out
              have hlt := HLT1.out
              refine ⟨acc ++ [cb], A2, cp2, a2, 0, by rw [List.length_append]; rfl, HOWN7.out, .inl ⟨rfl, by omega, by have := HA2.out; omega, ?_, rfl, m, ?_, ?_⟩, HR8.out, HRG7.out⟩
              · rw [List.length_append]
                have := HACC.out
                simp
                omega
              · rw [HAT2.out.rest]
                have h1 := HN1.out
                have h2 := HLN.out
                rw [HRT.out, HM.out] at h1
                simp at h1
                omega
              · rw [HAT2.out.rest, HSS.out]
        · have hz92 : (z == 92) = false := by
            rw [HZ.out, beq_eq_false_iff_ne]
            intro h
            exact h92 (UInt8.toNat.inj (by show c.toNat = 92; omega))
          have HSS := Lib.hid (show strA m (acc ++ [c]) tl = textP X by rw [← HN2.out, HRT.out, HM.out, strA_one HBAD.out h34 h92])
          clear h34 h92
          go_wp2_with (first
            | (refine wpList_put_cell (x := .tmp 46) (i := 1) HRD4.out rfl rfl rfl rfl (by kernel_rfl) (by simp [rdCells]) rfl ?_; intro w5 hb5 hw5;
               have HOWN5 := Lib.hid (HOWN4.out.kept hw5.grown (.inr (by intro h; have := (HOWN4.out.lt r h).1; have := HRL.out; omega)));
               have HRG5 := Lib.hid (HRG4.out.trans (.wrote hw5)))
            | (refine wpList_append_one sl_u8 rfl rfl HOWN5.out rfl rfl rfl rfl (by unfold maxLen; omega) (by omega) HRG5.out.size ?_; intro A2 cp2 w7 ho7 hg7 hn7))
          have HRD5 := Lib.hid (show RD w5 r s b1 d 0 from by
            show Blk w5 r _ #[.string s, .int .i64 ((b1 : Nat) : Int), .int .i64 d, .int .i64 0]
            rw [← HBI1.out]
            exact hb5)
          have HOWN7 := Lib.hid (show OwnX w7 w.heap.size 5 1 (.slice A2 (acc ++ [c]).length cp2) (acc ++ [c]).length (bytesV (acc ++ [c])) by
            rw [bytesV_append, List.length_append]
            rw [show bytesV [c] = [Value.int .u8 z] by rw [HZ.out]; rfl]
            exact ho7)
          have HRD7 := Lib.hid (show RD w7 r s b1 d 0 from (hg7.block r (Blk.lt HRD5.out) (by intro h; have := (HOWN5.out.lt r h.symm).1; have := HRL.out; omega)).trans HRD5.out)
          have HRG7 := Lib.hid (HRG5.out.andThen hg7 (fun j hj => .inl (HOWN5.out.lt j hj).1))
          clear ho7 hg7 hn7
          go_wp2_with fail
          go_roundg (s.size - b1 + 1)
          case measure => have := HGK.out; have := HB1.out; have := HLT1.out; omega
          case rel =>
            have hb := HB1.out
            have hlt := HLT1.out
            refine ⟨acc ++ [c], A2, cp2, b1, 0, by rw [List.length_append]; rfl, HOWN7.out, .inl ⟨rfl, by omega, by have := HA2.out; omega, ?_, rfl, m, ?_, ?_⟩, HRD7.out, HRG7.out⟩
            · rw [List.length_append]
              have := HACC.out
              simp
              omega
            · rw [HDB.out]
              have h1 := HN1.out
              rw [HRT.out, HM.out] at h1
              simp at h1
              omega
            · rw [HDB.out, HSS.out]
end Go.Proofs.Ytcfbnjaelniahaa.Js
