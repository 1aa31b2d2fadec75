/-
  Walk: json's writer: a text.
-/
import Derived.Test.YtcfbnjaelniahaaBld
import Derived.Test.YtcfbnjaelniahaaJsr
import Derived.Test.YtcfbnjaelniahaaJso
import Derived.Test.YtcfbnjaelniahaaDet
import Derived.Test.YtcfbnjaelniahaaRegion
import Derived.Deep.QuietTactic
import Derived.BigQuiet
import Derived.Laws.Runes
import Derived.Deep.DeepCutAuto
namespace Go.Proofs.Ytcfbnjaelniahaa.Js
set_option linter.unusedSimpArgs false
set_option linter.unusedVariables false
open Go.RowKit

theorem enc_one (n : Nat) (h : n < 128) : Utf8.encode (n : Int) = ⟨#[UInt8.ofNat n]⟩ := by
  have hv : Utf8.valid (n : Int) = true := by rw [validRune_eq]; simp [validRune]; omega
  simp [Utf8.encode, hv, h]
theorem jwT : BT 46 := ⟨by kernel_rfl, by decide⟩
theorem hex_at (n : Nat) (h : n < 16) (h2 : n < (⟨#[48, 49, 50, 51, 52, 53, 54, 55, 56, 57, 97, 98, 99, 100, 101, 102]⟩ : ByteArray).size) : ((⟨#[48, 49, 50, 51, 52, 53, 54, 55, 56, 57, 97, 98, 99, 100, 101, 102]⟩ : ByteArray)[n]'h2) = hexd n := by
  have : n = 0 ∨ n = 1 ∨ n = 2 ∨ n = 3 ∨ n = 4 ∨ n = 5 ∨ n = 6 ∨ n = 7 ∨ n = 8 ∨ n = 9 ∨ n = 10 ∨ n = 11 ∨ n = 12 ∨ n = 13 ∨ n = 14 ∨ n = 15 := by omega
  rcases this with h | h | h | h | h | h | h | h | h | h | h | h | h | h | h | h <;> subst h <;> rfl
theorem cat6 (a b : UInt8) : ((⟨#[92, 117, 48, 48]⟩ : ByteArray) ++ ⟨#[a]⟩ ++ ⟨#[b]⟩).data.toList = [92, 117, 48, 48, a, b] := by
  rw [ByteArray.data_append, ByteArray.data_append]
  rfl
theorem cat2 (a : UInt8) : ((⟨#[92]⟩ : ByteArray) ++ ⟨#[a]⟩).data.toList = [92, a] := by
  rw [ByteArray.data_append]
  rfl
theorem size_of_list {s : ByteArray} {l : Bs} (h : s.data.toList = l) : s.size = l.length := by rw [← h]; rfl
/-- one more byte of a text -/
structure StepQ (c L C1 : Bs) (k : Nat) (x : UInt8) : Prop where
  eq : C1 ++ quoteC x = c ++ 34 :: (L.take (k + 1)).flatMap quoteC
theorem quoteC_len (x : UInt8) : 1 ≤ (quoteC x).length := by unfold quoteC; split <;> (try split) <;> simp
theorem quote_len (L : Bs) : L.length ≤ (quote L).length := by
  have h : ∀ L : Bs, L.length ≤ (L.flatMap quoteC).length := fun L => by
    induction L with
    | nil => simp
    | cons x r ih =>
      have := quoteC_len x
      rw [List.flatMap_cons, List.length_append, List.length_cons]
      omega
  have := h L
  simp only [quote, List.length_cons, List.length_append]
  omega
/-- the writer holds these bytes -/
def WB (w0 : World) (B p : Nat) (c : Bs) (w : World) : Prop := IsB w B 46 p c ∧ BK B p w0 w
theorem WB.drew {w0 w : World} {B p : Nat} {c : Bs} (h : WB w0 B p c w) : WB w0 B p c w.drew := ⟨h.1, h.2.drew⟩
theorem WB.next {w0 w w' : World} {B p : Nat} {c c' : Bs} (h : WB w0 B p c w) (h1 : IsB w' B 46 p c') (h2 : BK B p w w') : WB w0 B p c' w' := ⟨h1, h.2.trans h2⟩
set_option maxRecDepth 100000 in
set_option maxHeartbeats 4000000 in
theorem wtext_any (s : ByteArray) (B p : Nat) (c : Bs) (w0 w : World) (hb : WB w0 B p c w) (hl : c.length + (quote s.data.toList).length ≤ 1099511627776) :
    Calls Try.prog 33 #[.pointer (some ⟨p, 0, none⟩), .string s] w fun e w' => e = .returned (.tuple #[]) ∧ WB w0 B p (c ++ quote s.data.toList) w' := by
  obtain ⟨L, hL⟩ : ∃ L, L = s.data.toList := ⟨_, rfl⟩
  have hLs : L.length = s.size := by rw [hL]; rfl
  rw [← hL] at hl ⊢
  have hq : (quote L).length = (L.flatMap quoteC).length + 2 := by simp [quote]
  have hs : s.size ≤ 1099511627776 := by have := quote_len L; omega
  have hsz : (s.size : Int) ≤ 1099511627776 := by omega
  have HQ := Lib.hid hl
  have HQ2 := Lib.hid hq
  have HLS := Lib.hid hLs
  have CB := Lib.hid (fun (c : Bs) (x : UInt8) (u : World) (h : IsB u B 46 p c) (h2 : c.length + 1 ≤ 140737488355328) => bld_byte jwT B p c x u h h2)
  have CS := Lib.hid (fun (c : Bs) (x : ByteArray) (u : World) (h : IsB u B 46 p c) (h2 : c.length + x.size ≤ 140737488355328) => bld_str jwT B p c x u h h2)
  have HB := Lib.hid hb
  have HL := Lib.hid hL
  clear hb hl hq hLs hL hs
  unfold byteV at CB
  go_enter Try.func33, Try.ntmps33
  go_wp2_with fail
  refine calls_then (CB.out c 34 _ HB.out.1 (by have := HQ.out; have := HQ2.out; omega)) ?_
  rintro e w1 ⟨rfl, hb1, hw1⟩
  have HB1 := Lib.hid (HB.out.next hb1 hw1)
  clear hb1 hw1
  go_wp2_with fail
  go_loopw [12] (fun i wr => ∃ k : Nat, k ≤ s.size ∧ i = .int .i64 (k : Int) ∧ WB w0 B p (c ++ 34 :: (L.take k).flatMap quoteC) wr) (fun i _ => s.size - (intOf i).toNat)
  case atStart => exact ⟨0, by omega, rfl, by simpa using HB1.out⟩
  case round =>
    obtain ⟨k, hk, rfl, hwr⟩ := hrel
    have HWR := Lib.hid hwr
    clear hwr
    by_cases hlt : k < s.size
    · have hlt' : (k : Int) < (s.size : Int) := by omega
      have hkL : k < L.length := by have := HLS.out; omega
      have hx : L[k]'hkL = s[k] := by
        have := HL.out
        subst this
        rfl
      obtain ⟨x, hxx⟩ : ∃ x, x = s[k] := ⟨_, rfl⟩
      have HST := StepQ.mk (show (c ++ 34 :: (L.take k).flatMap quoteC) ++ quoteC x = c ++ 34 :: (L.take (k + 1)).flatMap quoteC by
        rw [List.take_succ_eq_append_getElem hkL, List.flatMap_append, hx, hxx]
        simp)
      have HLN := Lib.hid (show (c ++ 34 :: (L.take k).flatMap quoteC).length + 6 ≤ 140737488355328 by
        have h1 := HQ.out
        have h2 := HQ2.out
        have h3 : L.flatMap quoteC = (L.take k).flatMap quoteC ++ (L.drop k).flatMap quoteC := by rw [← List.flatMap_append, List.take_append_drop]
        rw [h3] at h2
        simp at h2 ⊢
        omega)
      obtain ⟨C1, hC1⟩ : ∃ C1, C1 = c ++ 34 :: (L.take k).flatMap quoteC := ⟨_, rfl⟩
      rw [← hC1] at HST HLN HWR
      clear hx hkL hC1
      obtain ⟨n, hn⟩ : ∃ n : Nat, n = x.toNat := ⟨_, rfl⟩
      have hn' : s[k].toNat = n := by rw [hn, hxx]
      have hxn : UInt8.ofNat n = x := by rw [hn]; simp
      have HN := Lib.hid hn
      have HXN := Lib.hid hxn
      have HNL := Lib.hid (show n < 256 by rw [hn]; exact x.toNat_lt)
      clear hn hxn hxx
      by_cases h32 : n < 32
      · have h32' : ((s[k].toNat : Nat) : Int) < 32 := by omega
        have HQC := Lib.hid (show quoteC x = [92, 117, 48, 48, hexd (n / 16), hexd (n % 16)] by
          have : x < 32 := by rw [UInt8.lt_iff_toNat_lt, ← HN.out]; exact h32
          rw [quoteC, if_pos this, ← HN.out])
        have a1 : n / 16 < 16 := by omega
        have a2 : n % 16 < 16 := by omega
        have HH1 := Lib.hid (show (hexd (n / 16)).toNat < 128 by unfold hexd; split <;> simp <;> omega)
        have HH2 := Lib.hid (show (hexd (n % 16)).toNat < 128 by unfold hexd; split <;> simp <;> omega)
        have HC0 := HWR.out.drew
        have d32 : decide ((n : Int) < 32) = true := by rw [decide_eq_true_iff]; omega
        clear HWR
        go_wp2_with fail
        clear h32 h32' hn' d32
        refine wp_region_det (fun u => WB w0 B p C1 u) (fun u => WB w0 B p (C1 ++ quoteC x) u) [(0, some 26), (1, some 27), (2, some 28), (3, some 29), (4, some 30), (5, some 31), (6, some 32), (7, some 33), (8, some 34), (9, some 35), (10, some 36), (11, some 37), (12, some 38), (13, some 39)] (by kernel_rfl) (by kernel_rfl) (by decide) (by kernel_rfl) (fun _ => rfl) HC0 ?_
        apply DetL.next
        · -- 0: Op.move (Operand.tmp 0)
          apply detStep_plain []
          exact fun _ => rfl
          rfl
          rintro vals - w1 hC1 E hE
          simp only [puts, act_put, act_put_none, List.setIfInBounds_toArray, List.set_cons_zero, List.set_cons_succ] at hE ⊢
          go_wp2
          exact .mk (hE _ hC1)
        apply DetL.next
        · -- 1: Op.nilCheck (Operand.tmp 26)
          apply detStep_plain [(0, some 26)]
          exact fun _ => rfl
          rfl
          rintro vals ⟨-, f0⟩ w1 hC1 E hE
          simp only [puts, act_put, act_put_none, List.setIfInBounds_toArray, List.set_cons_zero, List.set_cons_succ, f0] at hE ⊢
          clear f0
          go_wp2
          exact .mk (hE _ hC1)
        apply DetL.next
        · -- 2: Op.fieldAddr 46 (Operand.tmp 27) 0
          apply detStep_plain [(1, some 27)]
          exact fun _ => rfl
          rfl
          rintro vals ⟨⟨-, -⟩, f1⟩ w1 hC1 E hE
          simp only [puts, act_put, act_put_none, List.setIfInBounds_toArray, List.set_cons_zero, List.set_cons_succ, f1] at hE ⊢
          clear f1
          go_wp2
          exact .mk (hE _ hC1)
        apply DetL.next
        · -- 3: Op.move (Operand.tmp 5)
          apply detStep_plain []
          exact fun _ => rfl
          rfl
          rintro vals ⟨⟨⟨-, -⟩, -⟩, -⟩ w1 hC1 E hE
          simp only [puts, act_put, act_put_none, List.setIfInBounds_toArray, List.set_cons_zero, List.set_cons_succ] at hE ⊢
          go_wp2
          exact .mk (hE _ hC1)
        apply DetL.next (v := .int .u8 ((n / 16 : Nat) : Int))
        · -- 4: Op.binOp BinOp.shr 5 (Operand.tmp 29) (Operand.const (Value.int IntKind.u64 4)) 82
          apply detStep_plain [(3, some 29)]
          exact fun _ => rfl
          rfl
          rintro vals ⟨⟨⟨⟨-, -⟩, -⟩, -⟩, f3⟩ w1 hC1 E hE
          simp only [puts, act_put, act_put_none, List.setIfInBounds_toArray, List.set_cons_zero, List.set_cons_succ, f3] at hE ⊢
          clear f3
          go_wp2
          exact .mk (hE _ hC1)
        apply DetL.next
        · -- 5: Op.index 9 (Operand.const (Value.string { data := #[48, 49, 50, 51, 52, 53, 54, 55, 56, 57, 97, 98, 99, 100, 1
          apply detStep_plain [(4, some 30)]
          exact fun _ => rfl
          rfl
          rintro vals ⟨⟨⟨⟨⟨-, -⟩, -⟩, -⟩, -⟩, f4⟩ w1 hC1 E hE
          simp only [puts, act_put, act_put_none, List.setIfInBounds_toArray, List.set_cons_zero, List.set_cons_succ, f4] at hE ⊢
          clear f4
          go_wp2
          rw [hex_at (n / 16) a1]
          exact .mk (hE _ hC1)
        apply DetL.next
        · -- 6: Op.convert 5 9 (Operand.tmp 31)
          apply detStep_plain [(5, some 31)]
          exact fun _ => rfl
          rfl
          rintro vals ⟨⟨⟨⟨⟨⟨-, -⟩, -⟩, -⟩, -⟩, -⟩, f5⟩ w1 hC1 E hE
          simp only [puts, act_put, act_put_none, List.setIfInBounds_toArray, List.set_cons_zero, List.set_cons_succ, f5] at hE ⊢
          clear f5
          go_wp2
          rw [enc_one _ HH1.out]
          exact .mk (hE _ hC1)
        apply DetL.next
        · -- 7: Op.binOp BinOp.add 9 (Operand.const (Value.string { data := #[92, 117, 48, 48] })) (Operand.tmp 32) 9
          apply detStep_plain [(6, some 32)]
          exact fun _ => rfl
          rfl
          rintro vals ⟨⟨⟨⟨⟨⟨⟨-, -⟩, -⟩, -⟩, -⟩, -⟩, -⟩, f6⟩ w1 hC1 E hE
          simp only [puts, act_put, act_put_none, List.setIfInBounds_toArray, List.set_cons_zero, List.set_cons_succ, f6] at hE ⊢
          clear f6
          go_wp2
          exact .mk (hE _ hC1)
        apply DetL.next
        · -- 8: Op.move (Operand.tmp 5)
          apply detStep_plain []
          exact fun _ => rfl
          rfl
          rintro vals ⟨⟨⟨⟨⟨⟨⟨⟨-, -⟩, -⟩, -⟩, -⟩, -⟩, -⟩, -⟩, -⟩ w1 hC1 E hE
          simp only [puts, act_put, act_put_none, List.setIfInBounds_toArray, List.set_cons_zero, List.set_cons_succ] at hE ⊢
          go_wp2
          exact .mk (hE _ hC1)
        apply DetL.next (v := .int .u8 ((n % 16 : Nat) : Int))
        · -- 9: Op.binOp BinOp.and 5 (Operand.tmp 34) (Operand.const (Value.int IntKind.u8 15)) 5
          apply detStep_plain [(8, some 34)]
          exact fun _ => rfl
          rfl
          rintro vals ⟨⟨⟨⟨⟨⟨⟨⟨⟨-, -⟩, -⟩, -⟩, -⟩, -⟩, -⟩, -⟩, -⟩, f8⟩ w1 hC1 E hE
          simp only [puts, act_put, act_put_none, List.setIfInBounds_toArray, List.set_cons_zero, List.set_cons_succ, f8] at hE ⊢
          clear f8
          go_wp2
          exact .mk (hE _ hC1)
        apply DetL.next
        · -- 10: Op.index 9 (Operand.const (Value.string { data := #[48, 49, 50, 51, 52, 53, 54, 55, 56, 57, 97, 98, 99, 100, 1
          apply detStep_plain [(9, some 35)]
          exact fun _ => rfl
          rfl
          rintro vals ⟨⟨⟨⟨⟨⟨⟨⟨⟨⟨-, -⟩, -⟩, -⟩, -⟩, -⟩, -⟩, -⟩, -⟩, -⟩, f9⟩ w1 hC1 E hE
          simp only [puts, act_put, act_put_none, List.setIfInBounds_toArray, List.set_cons_zero, List.set_cons_succ, f9] at hE ⊢
          clear f9
          go_wp2
          rw [hex_at (n % 16) a2]
          exact .mk (hE _ hC1)
        apply DetL.next
        · -- 11: Op.convert 5 9 (Operand.tmp 36)
          apply detStep_plain [(10, some 36)]
          exact fun _ => rfl
          rfl
          rintro vals ⟨⟨⟨⟨⟨⟨⟨⟨⟨⟨⟨-, -⟩, -⟩, -⟩, -⟩, -⟩, -⟩, -⟩, -⟩, -⟩, -⟩, f10⟩ w1 hC1 E hE
          simp only [puts, act_put, act_put_none, List.setIfInBounds_toArray, List.set_cons_zero, List.set_cons_succ, f10] at hE ⊢
          clear f10
          go_wp2
          rw [enc_one _ HH2.out]
          exact .mk (hE _ hC1)
        apply DetL.next
        · -- 12: Op.binOp BinOp.add 9 (Operand.tmp 33) (Operand.tmp 37) 9
          apply detStep_plain [(7, some 33), (11, some 37)]
          exact fun _ => rfl
          rfl
          rintro vals ⟨⟨⟨⟨⟨⟨⟨⟨⟨⟨⟨⟨-, -⟩, -⟩, -⟩, -⟩, -⟩, -⟩, -⟩, f7⟩, -⟩, -⟩, -⟩, f11⟩ w1 hC1 E hE
          simp only [puts, act_put, act_put_none, List.setIfInBounds_toArray, List.set_cons_zero, List.set_cons_succ, f7, f11] at hE ⊢
          clear f7 f11
          go_wp2
          exact .mk (hE _ hC1)
        apply DetL.last
        · -- 13: Op.call { callee := Callee.value (Operand.func 31), args := #[Operand.tmp 28, Operand.tmp 38], argTypes := #[4
          apply detStep_plain [(2, some 28), (12, some 38)]
          exact fun _ => rfl
          rfl
          rintro vals ⟨⟨⟨⟨⟨⟨⟨⟨⟨⟨⟨⟨⟨-, -⟩, -⟩, f2⟩, -⟩, -⟩, -⟩, -⟩, -⟩, -⟩, -⟩, -⟩, -⟩, f12⟩ w1 hC1 E hE
          simp only [puts, act_put, act_put_none, List.setIfInBounds_toArray, List.set_cons_zero, List.set_cons_succ, f2, f12] at hE ⊢
          clear f2 f12
          go_wp2_with fail
          refine calls_then (CS.out _ _ _ hC1.1 (by rw [size_of_list (cat6 _ _)]; exact HLN.out)) ?_
          rintro e w2 ⟨rfl, hb2, hw2⟩
          go_wp2_with fail
          exact .mk (hE _ (by have h := hC1.next hb2 hw2; rw [cat6] at h; rw [HQC.out]; exact h))
        rintro vals ⟨⟨⟨⟨⟨⟨⟨⟨⟨⟨⟨⟨⟨⟨-, f0⟩, f1⟩, f2⟩, f3⟩, f4⟩, f5⟩, f6⟩, f7⟩, f8⟩, f9⟩, f10⟩, f11⟩, f12⟩, f13⟩ w1 hC1
        simp only [puts, act_put, act_put_none, List.setIfInBounds_toArray, List.set_cons_zero, List.set_cons_succ, f0, f1, f2, f3, f4, f5, f6, f7, f8, f9, f10, f11, f12, f13]
        clear f0 f1 f2 f3 f4 f5 f6 f7 f8 f9 f10 f11 f12 f13
        have HR := Lib.hid hC1
        clear hC1 HC0
        go_wp2_with fail
        go_roundw
        case rel => exact ⟨k + 1, by omega, by go_num, by rw [← HST.eq]; exact HR.out⟩
        case measure => simp [intOf]; omega
      · obtain ⟨z, hz⟩ : ∃ z : Int, ((s[k].toNat : Nat) : Int) = z := ⟨_, rfl⟩
        have HZ := Lib.hid (show z = (n : Int) by rw [← hz, hn'])
        have hz32 : ¬ z < 32 := by have := HZ.out; omega
        by_cases hq : z = 34 ∨ z = 92
        · have HX := Lib.hid (show z = ((x.toNat : Nat) : Int) by rw [HZ.out, HN.out])
          have HQC : ∃ y : UInt8, y.toNat < 128 ∧ z = ((y.toNat : Nat) : Int) ∧ quoteC x = [92, y] := by
            have h2 := HX.out
            refine ⟨x, by omega, h2, ?_⟩
            have h3 : ¬ x < 32 := by rw [UInt8.lt_iff_toNat_lt]; show ¬ x.toNat < 32; omega
            have h4 : x = 34 ∨ x = 92 := by
              rcases hq with h | h
              · exact .inl (UInt8.toNat.inj (by show x.toNat = 34; omega))
              · exact .inr (UInt8.toNat.inj (by show x.toNat = 92; omega))
            rw [quoteC, if_neg h3, if_pos h4]
          obtain ⟨y, hy1, hy2, hy3⟩ := HQC
          have HE := Lib.hid (show Utf8.encode z = ⟨#[y]⟩ by rw [hy2, enc_one _ hy1]; simp)
          have HY := Lib.hid hy3
          have e3 : (z == 34 || z == 92) = true := by rcases hq with h | h <;> simp [h]
          clear hn' h32 hy1 hy2 hy3
          rcases hq with rfl | rfl
          · clear hz32 e3
            go_wp2_with fail
            rw [HE.out]
            refine calls_then (CS.out C1 _ _ HWR.out.1 (by rw [size_of_list (cat2 _)]; have := HLN.out; simp; omega)) ?_
            rintro e w2 ⟨rfl, hb2, hw2⟩
            have HB2 := Lib.hid (HWR.out.next hb2 hw2)
            clear hb2 hw2
            go_wp2_with fail
            go_roundw
            case rel => exact ⟨k + 1, by omega, by go_num, by rw [← HST.eq, HY.out]; have h := HB2.out; rw [cat2] at h; exact h⟩
            case measure => simp [intOf]; omega
          · clear hz32 e3
            go_wp2_with fail
            rw [HE.out]
            refine calls_then (CS.out C1 _ _ HWR.out.1 (by rw [size_of_list (cat2 _)]; have := HLN.out; simp; omega)) ?_
            rintro e w2 ⟨rfl, hb2, hw2⟩
            have HB2 := Lib.hid (HWR.out.next hb2 hw2)
            clear hb2 hw2
            go_wp2_with fail
            go_roundw
            case rel => exact ⟨k + 1, by omega, by go_num, by rw [← HST.eq, HY.out]; have h := HB2.out; rw [cat2] at h; exact h⟩
            case measure => simp [intOf]; omega
        · have e34 : (z == 34) = false := by simpa using fun h => hq (.inl h)
          have e92 : (z == 92) = false := by simpa using fun h => hq (.inr h)
          have HQC := Lib.hid (show quoteC x = [x] by
            have h1 := HN.out
            have h2 := HZ.out
            have h3 : ¬ x < 32 := by rw [UInt8.lt_iff_toNat_lt]; show ¬ x.toNat < 32; omega
            have h4 : ¬ (x = 34 ∨ x = 92) := by
              rintro (rfl | rfl)
              · exact hq (.inl (by rw [h2, h1]; rfl))
              · exact hq (.inr (by rw [h2, h1]; rfl))
            rw [quoteC, if_neg h3, if_neg h4])
          clear hq hn' h32
          go_wp2_with fail
          rw [show z = ((x.toNat : Nat) : Int) by rw [HZ.out, HN.out]]
          refine calls_then (CB.out C1 x _ HWR.out.1 (by have := HLN.out; omega)) ?_
          rintro e w2 ⟨rfl, hb2, hw2⟩
          have HB2 := Lib.hid (HWR.out.next hb2 hw2)
          clear hb2 hw2
          go_wp2_with fail
          go_roundw
          case rel => exact ⟨k + 1, by omega, by go_num, by rw [← HST.eq, HQC.out]; exact HB2.out⟩
          case measure => simp [intOf]; omega
    · obtain rfl : k = s.size := by omega
      have HE := Lib.hid (show L.take s.size = L by rw [← HLS.out, List.take_length])
      have HLN := Lib.hid (show (c ++ 34 :: (L.take s.size).flatMap quoteC).length + 1 ≤ 140737488355328 by
        have h1 := HQ.out
        have h2 := HQ2.out
        rw [HE.out]
        simp at h2 ⊢
        omega)
      go_wp2_with fail
      refine calls_then (CB.out _ 34 _ HWR.out.1 HLN.out) ?_
      rintro e w2 ⟨rfl, hb2, hw2⟩
      have HB2 := Lib.hid (HWR.out.next hb2 hw2)
      clear hb2 hw2
      go_wp2_with fail
      go_end0
      refine ⟨rfl, ?_⟩
      have h := HB2.out
      rw [HE.out] at h
      simpa [quote] using h
end Go.Proofs.Ytcfbnjaelniahaa.Js
