/-
  Walks: json's texts: which bytes may be; whether a text is in a list.
-/
import Derived.Test.YtcfbnjaelniahaaJsr
import Derived.Test.YtcfbnjaelniahaaProg
import Derived.Lib.OthersKept
import Derived.Lib.DecodeN
import Derived.Lib.Strings
import Derived.Shelf.Abstract
import Derived.Lib.RuneCount
import Derived.Deep.LoopGhost
import Derived.Deep.QuietTactic
import Derived.BigQuiet
namespace Go.Proofs.Ytcfbnjaelniahaa.Js
set_option linter.unusedSimpArgs false
set_option linter.unusedVariables false
open Go.RowKit

theorem odd1_any (r : Int) (w : World) : Calls Try.prog 26 #[.int .i32 r] w fun e w' => e = .returned (.bool (decide (126 < r))) ∧ w' = w := by
  go_enter Try.func26, Try.ntmps26
  go_wp2_with fail
  go_ret
  exact ⟨rfl, rfl⟩
theorem decodeN_big (n b0 b1 b2 b3 : Nat) (h : 128 ≤ b0) : 126 < (Lib.decodeN n b0 b1 b2 b3).1 := by
  unfold Lib.decodeN
  rw [if_neg (by omega)]
  repeat' split
  all_goals first | (show 126 < 65533; decide) | (show 126 < _; omega)
theorem decode_big {s : ByteArray} {pos : Nat} (h : pos < s.size) (hb : 126 < (s[pos]'h).toNat) : 126 < (Utf8.decode s pos).1 := by
  by_cases h8 : (s[pos]'h).toNat < 128
  · rw [decode_ascii s pos h h8]
    exact hb
  · rw [Lib.decode_at]
    have : (s.get! pos).toNat = (s[pos]'h).toNat := by
      cases s with
      | mk d => exact congrArg UInt8.toNat (getElem!_pos d pos h)
    have h2 := decodeN_big (s.size - pos) (s.get! pos).toNat (s.get! (pos + 1)).toNat (s.get! (pos + 2)).toNat (s.get! (pos + 3)).toNat (by rw [this]; omega)
    exact h2
set_option maxHeartbeats 2000000 in
theorem idxf_any (s : ByteArray) (w : World) :
    Calls Try.prog 54 #[.string s, .func (.func 26) #[] #[], .bool true] w fun e w' => (∃ k : Int, e = .returned (.int .i64 k) ∧ decide (0 ≤ k) = !okT s.data.toList) ∧ Below w.heap.size w w' := by
  have eg : ∀ args w, (callFunc 26 args).run Try.prog w = .ok (.enter 26 args) w := enters_of Try.func26 (by kernel_rfl) rfl
  have C := Lib.hid odd1_any
  go_enter Try.func54, Try.ntmps54
  go_wp2_with fail
  go_loopg [] s.size (fun gf wx => ∃ pos : Nat, wx.heap[w.heap.size]? = some (.stringIter s pos) ∧ Below w.heap.size w wx ∧ pos + gf = s.size ∧ okT (s.data.toList.take pos) = true)
  case atStart => exact ⟨0, World.iter_heap w s 0, (Below.refl _ w).alloc (Nat.le_refl _) _, by omega, rfl⟩
  case round =>
    obtain ⟨pos, hit, hbw, hfu, hok⟩ := hrel
    by_cases hps : pos < s.size
    · obtain ⟨g', rfl⟩ : ∃ g', gk = g' + 1 := ⟨gk - 1, by omega⟩
      have hpl : pos < s.data.toList.length := hps
      have hst : okT (s.data.toList.take (pos + 1)) = (okT (s.data.toList.take pos) && decide ((s[pos]'hps).toNat ≤ 126)) := by
        rw [List.take_succ_eq_append_getElem hpl]
        simp [okT, UInt8.le_iff_toNat_le]
        rfl
      by_cases hc : (s[pos]'hps).toNat ≤ 126
      · have hnx : ∀ ty, (Instr.next (.pointer (some ⟨w.heap.size, 0, none⟩)) true ty).run Try.prog wr = _ := fun ty => Lib.run_next_ascii_at wr w.heap.size s pos ty hit hps (by omega)
        have HIT := Lib.hid (Lib.iterAt_heap wr w.heap.size s pos (pos + 1) hit)
        have HBW := Lib.hid (Lib.below_iterAt hbw (k := w.heap.size) (Nat.le_refl _) s (pos + 1))
        have HOK := Lib.hid (show okT (s.data.toList.take (pos + 1)) = true by rw [hst, hok]; simpa using hc)
        obtain ⟨n, hn⟩ : ∃ n, (s[pos]'hps).toNat = n := ⟨_, rfl⟩
        rw [hn] at hnx hc
        have hd : decide (126 < (n : Int)) = false := by simp; omega
        have HFU := Lib.hid hfu
        obtain ⟨W, hWd⟩ : ∃ W, wr.iterAt w.heap.size s (pos + 1) = W := ⟨_, rfl⟩
        rw [hWd] at hnx HIT HBW
        clear hit hbw hst hok hc hn hfu hpl hps
        go_wp2_with (go_at_call 26; refine calls_then (C.out _ _) ?_; rintro e W' ⟨rfl, rfl⟩)
        go_roundg g'
        case measure => omega
        case rel => exact ⟨pos + 1, HIT.out, HBW.out, by have := HFU.out; omega, HOK.out⟩
      · have hnx : ∀ ty, (Instr.next (.pointer (some ⟨w.heap.size, 0, none⟩)) true ty).run Try.prog wr = _ := fun ty => Lib.run_next_any_at wr w.heap.size s pos ty hit hps
        have HBW := Lib.hid (Lib.below_iterAt hbw (k := w.heap.size) (Nat.le_refl _) s (pos + (Utf8.decode s pos).2))
        have HB := Lib.hid (decode_big hps (by omega))
        have HNO := Lib.hid (show okT s.data.toList = false by
          cases hq : okT s.data.toList with
          | false => rfl
          | true =>
            unfold okT at hq
            have := List.all_eq_true.1 hq _ (List.getElem_mem hpl)
            simp [UInt8.le_iff_toNat_le] at this
            exact absurd this hc)
        obtain ⟨r, hr⟩ : ∃ r, (Utf8.decode s pos).1 = r := ⟨_, rfl⟩
        rw [hr] at hnx HB
        have hd : decide (126 < (r : Int)) = true := by have := HB.out; simp; omega
        obtain ⟨W, hWd⟩ : ∃ W, wr.iterAt w.heap.size s (pos + (Utf8.decode s pos).2) = W := ⟨_, rfl⟩
        rw [hWd] at hnx HBW
        clear hit hbw hst hok hc hr hfu hpl hps
        go_wp2_with (go_at_call 26; refine calls_then (C.out _ _) ?_; rintro e W' ⟨rfl, rfl⟩)
        go_ret
        exact ⟨⟨_, rfl, by rw [HNO.out]; simp⟩, HBW.out⟩
    · have hnx : ∀ ty, (Instr.next (.pointer (some ⟨w.heap.size, 0, none⟩)) true ty).run Try.prog wr = _ := fun ty => Lib.run_next_end_at wr w.heap.size s pos ty hit hps
      have HBW := Lib.hid hbw
      have HOK := Lib.hid (show okT s.data.toList = true by
        have : s.data.toList.take pos = s.data.toList := List.take_of_length_le (by show s.size ≤ pos; omega)
        rwa [this] at hok)
      clear hit hbw hok hfu hps
      go_wp2_with fail
      go_ret
      exact ⟨⟨_, rfl, by rw [HOK.out]; simp⟩, HBW.out⟩
theorem strf_any (s : ByteArray) (w : World) :
    Calls Try.prog 39 #[.string s, .func (.func 26) #[] #[]] w fun e w' => (∃ k : Int, e = .returned (.int .i64 k) ∧ decide (0 ≤ k) = !okT s.data.toList) ∧ Below w.heap.size w w' := by
  have C := Lib.hid (idxf_any s w)
  go_enter Try.func39, Try.ntmps39
  go_wp2_with fail
  refine calls_then C.out ?_
  rintro e w1 ⟨⟨k, rfl, hk⟩, hb⟩
  have HB := Lib.hid hb
  have HK := Lib.hid hk
  clear hb hk
  go_wp2_with fail
  go_ret
  exact ⟨⟨_, rfl, HK.out⟩, HB.out⟩
theorem conf_any (s : ByteArray) (w : World) :
    Calls Try.prog 25 #[.string s, .func (.func 26) #[] #[]] w fun e w' => e = .returned (.bool (!okT s.data.toList)) ∧ Below w.heap.size w w' := by
  have C := Lib.hid (strf_any s w)
  go_enter Try.func25, Try.ntmps25
  go_wp2_with fail
  refine calls_then C.out ?_
  rintro e w1 ⟨⟨k, rfl, hk⟩, hb⟩
  have HB := Lib.hid hb
  have HK := Lib.hid hk
  clear hb hk
  go_wp2_with fail
  go_ret
  exact ⟨by rw [← HK.out]; rfl, HB.out⟩
theorem odd_any (s : ByteArray) (w : World) :
    Calls Try.prog 24 #[.string s] w fun e w' => e = .returned (.bool (!okT s.data.toList)) ∧ Below w.heap.size w w' := by
  have C := Lib.hid (conf_any s w)
  go_enter Try.func24, Try.ntmps24
  go_wp2_with fail
  refine calls_then C.out ?_
  rintro e w1 ⟨rfl, hb⟩
  have HB := Lib.hid hb
  clear hb
  go_wp2_with fail
  go_ret
  exact ⟨rfl, HB.out⟩
/-- '_slices.IndexFunc' over texts -/
theorem idxs_any (l : List Bs) (A : Option Addr) (c B : Nat) (w : World) (hr : Rd w B A (rowsV sCell l)) (hB : B ≤ w.heap.size) (hl : l.length ≤ 1099511627776) :
    Calls Try.prog 40 #[.slice A l.length c, .func (.func 24) #[] #[]] w fun e w' => (∃ k : Int, e = .returned (.int .i64 k) ∧ decide (0 ≤ k) = !l.all okT) ∧ Below w.heap.size w w' := by
  have eg : ∀ args w, (callFunc 24 args).run Try.prog w = .ok (.enter 24 args) w := enters_of Try.func24 (by kernel_rfl) rfl
  have C := Lib.hid odd_any
  obtain ⟨n, hn⟩ : ∃ n, n = l.length := ⟨_, rfl⟩
  have HN := Lib.hid hn
  have HR := Lib.hid (hr.mono hB)
  have HL := Lib.hid (show (n : Int) ≤ 1099511627776 by omega)
  rw [← hn]
  clear hr hB hl hn
  go_enter Try.func40, Try.ntmps40
  go_wp2_with fail
  go_loopw [8] (fun x wr => ∃ i : Nat, i ≤ n ∧ x = .int .i64 (i : Int) ∧ (l.take i).all okT = true ∧ Below w.heap.size w wr) (fun x _ => n - (intOf x).toNat)
  case atStart => exact ⟨0, by omega, rfl, by simp, Below.refl _ _⟩
  case round =>
    obtain ⟨i, hi, rfl, hok, hb⟩ := hrel
    have HB := Lib.hid hb
    have HOK := Lib.hid hok
    clear hb hok
    by_cases hlt : i < n
    · have hil : i < l.length := by rw [← HN.out]; exact hlt
      have hlt' : (i : Int) < (n : Int) := by omega
      obtain ⟨ad, hA, hadb, hcell⟩ := rd_rows (f := sCell) (m := 1) (fun _ => rfl) (by decide) (HR.out.below HB.out) hil
      subst hA
      obtain ⟨X, hX⟩ : ∃ X, X = l[i] := ⟨_, rfl⟩
      rw [← hX] at hcell
      have hc0 : wr.cell? (ad.add i) = some (.string (bs X)) := by
        have h := hcell 0 _ rfl
        rw [Nat.mul_one] at h
        exact h
      have HST := Lib.hid (show (l.take (i + 1)).all okT = ((l.take i).all okT && okT X) by
        rw [List.take_succ_eq_append_getElem hil, ← hX]
        simp)
      have HALL := Lib.hid (show okT X = false → l.all okT = false from fun h => by
        cases hq : l.all okT with
        | false => rfl
        | true =>
          have := List.all_eq_true.1 hq X (by rw [hX]; exact List.getElem_mem hil)
          rw [h] at this
          cases this)
      have HLT := Lib.hid hlt
      clear hX hcell hadb hil
      go_wp2_with fail
      refine calls_then (C.out _ _) ?_
      rintro e w1 ⟨rfl, hb1⟩
      have HB1 := Lib.hid (HB.out.trans (hb1.mono HB.out.size))
      clear hb1
      rw [show (bs X).data.toList = X from rfl]
      cases hq : okT X with
      | true =>
        have hns := HL.out
        go_wp2_with fail
        go_roundw
        case rel => exact ⟨i + 1, HLT.out, by go_num, by rw [HST.out, HOK.out, hq]; rfl, HB1.out⟩
        case measure => have := HLT.out; simp [intOf]; omega
      | false =>
        have HQ := Lib.hid hq
        clear hq
        go_wp2_with fail
        go_ret
        exact ⟨⟨_, rfl, by rw [HALL.out HQ.out]; simp⟩, HB1.out⟩
    · obtain rfl : i = n := by omega
      have HALL := Lib.hid (show l.all okT = true by
        have := HOK.out
        rwa [HN.out, List.take_length] at this)
      go_wp2_with fail
      go_ret
      exact ⟨⟨_, rfl, by rw [HALL.out]; simp⟩, HB.out⟩
theorem cons_any (l : List Bs) (A : Option Addr) (c B : Nat) (w : World) (hr : Rd w B A (rowsV sCell l)) (hB : B ≤ w.heap.size) (hl : l.length ≤ 1099511627776) :
    Calls Try.prog 27 #[.slice A l.length c, .func (.func 24) #[] #[]] w fun e w' => e = .returned (.bool (!l.all okT)) ∧ Below w.heap.size w w' := by
  have C := Lib.hid (idxs_any l A c B w hr hB hl)
  clear hr
  generalize l.length = n at *
  go_enter Try.func27, Try.ntmps27
  go_wp2_with fail
  refine calls_then C.out ?_
  rintro e w1 ⟨⟨k, rfl, hk⟩, hb⟩
  have HB := Lib.hid hb
  have HK := Lib.hid hk
  clear hb hk
  go_wp2_with fail
  go_ret
  exact ⟨by rw [← HK.out]; rfl, HB.out⟩
theorem bs_toList (a : Bs) : (bs a).toList = a := by
  rw [Lib.toList_data]
  rfl
/-- '_slices.Index' over texts -/
theorem idx_any (l : List Bs) (s : Bs) (A : Option Addr) (c B : Nat) (w : World) (hr : Rd w B A (rowsV sCell l)) (hl : l.length ≤ 1099511627776) :
    Calls Try.prog 41 #[.slice A l.length c, .string (bs s)] w fun e w' => (∃ k : Int, e = .returned (.int .i64 k) ∧ decide (0 ≤ k) = decide (s ∈ l)) ∧ w' = w := by
  obtain ⟨n, hn⟩ : ∃ n, n = l.length := ⟨_, rfl⟩
  have HN := Lib.hid hn
  have HR := Lib.hid hr
  have HL := Lib.hid (show (n : Int) ≤ 1099511627776 by omega)
  rw [← hn]
  clear hr hl hn
  go_enter Try.func41, Try.ntmps41
  go_wp2_with fail
  go_loop [8] (fun x => ∃ i : Nat, i ≤ n ∧ x = .int .i64 (i : Int) ∧ s ∉ l.take i) (fun x => n - (intOf x).toNat)
  case atStart => exact ⟨0, by omega, rfl, by simp⟩
  case round =>
    obtain ⟨i, hi, rfl, hok⟩ := hrel
    have HOK := Lib.hid hok
    clear hok
    by_cases hlt : i < n
    · have hil : i < l.length := by rw [← HN.out]; exact hlt
      have hlt' : (i : Int) < (n : Int) := by omega
      obtain ⟨ad, hA, hadb, hcell⟩ := rd_rows (f := sCell) (m := 1) (fun _ => rfl) (by decide) HR.out hil
      subst hA
      obtain ⟨X, hX⟩ : ∃ X, X = l[i] := ⟨_, rfl⟩
      rw [← hX] at hcell
      have hc0 : w.cell? (ad.add i) = some (.string (bs X)) := by
        have h := hcell 0 _ rfl
        rw [Nat.mul_one] at h
        exact h
      have HST := Lib.hid (show s ≠ X → s ∉ l.take (i + 1) from fun h => by
        rw [List.take_succ_eq_append_getElem hil, ← hX, List.mem_append]
        rintro (h1 | h1)
        · exact HOK.out h1
        · exact h (by simpa using h1))
      have HMEM := Lib.hid (show X ∈ l by rw [hX]; exact List.getElem_mem hil)
      have HLT := Lib.hid hlt
      clear hX hcell hadb hil
      have hns := HL.out
      by_cases hq : s = X
      · subst hq
        clear HST
        go_wp2_with fail
        go_ret
        exact ⟨⟨_, rfl, by simp [HMEM.out]⟩, rfl⟩
      · have hq' : ((bs s).toList == (bs X).toList) = false := by rw [bs_toList, bs_toList]; simpa using hq
        have HQ := Lib.hid hq
        clear hq
        go_wp2_with fail
        exact ⟨⟨i + 1, HLT.out, by go_num, HST.out HQ.out⟩, by have := HLT.out; simp [intOf]; omega⟩
    · obtain rfl : i = n := by omega
      have HALL := Lib.hid (show s ∉ l by
        have := HOK.out
        rwa [HN.out, List.take_length] at this)
      go_wp2_with fail
      go_ret
      exact ⟨⟨_, rfl, by simp [HALL.out]⟩, rfl⟩
theorem has_any (l : List Bs) (s : Bs) (A : Option Addr) (c B : Nat) (w : World) (hr : Rd w B A (rowsV sCell l)) (hl : l.length ≤ 1099511627776) :
    Calls Try.prog 28 #[.slice A l.length c, .string (bs s)] w fun e w' => e = .returned (.bool (decide (s ∈ l))) ∧ w' = w := by
  have C := Lib.hid (idx_any l s A c B w hr hl)
  clear hr
  obtain ⟨b, hb⟩ : ∃ b, b = decide (s ∈ l) := ⟨_, rfl⟩
  rw [← hb] at C ⊢
  clear hl hb
  generalize l.length = n at *
  generalize bs s = t at *
  go_enter Try.func28, Try.ntmps28
  go_wp2_with fail
  refine calls_then C.out ?_
  rintro e w1 ⟨⟨k, rfl, hk⟩, rfl⟩
  have HK := Lib.hid hk
  clear hk
  go_wp2_with fail
  go_ret
  exact ⟨by rw [← HK.out]; rfl, rfl⟩
end Go.Proofs.Ytcfbnjaelniahaa.Js
