/-
  Walks: brevetlaw12.WireUnpacks.
-/
import Derived.Test.YtlngjalclagojaaRunp
import Derived.Test.YtlngjalclagojaaUnpLaw
import Derived.Test.YtlngjalclagojaaLives
namespace Go.Proofs.Ytlngjalclagojaa
open Go.RowKit

theorem unpS_cases (b : List UInt8) : (unpS b).2 = 0 ∨ ¬ (unpS b).2 = 0 := by
  by_cases h : (unpS b).2 = 0
  · exact .inl h
  · exact .inr h
theorem unpS_ok (b : List UInt8) : MsgOk (unpS b).1 := by
  unfold unpS
  split
  · exact ⟨by decide, by decide, by decide, by decide, fun s hs => by simp [zeroM] at hs⟩
  · split
    · exact said_ok b
    · exact ⟨by decide, by decide, by decide, by decide, fun s hs => by simp [zeroM] at hs⟩
theorem ex_pair {α β : Type} (p : α × β) : ∃ a b, p = (a, b) := by
  cases p with
  | mk a b => exact ⟨a, b, rfl⟩
theorem sameM_refl (m : MsgD) : sameM m m = true := by simp [sameM, sameB]

set_option maxHeartbeats 2000000 in
theorem unpacks_any (b : List UInt8) (A : Option Addr) (c : Nat) (w : World) (hr : Rd w w.heap.size A (bytesV b)) (hc : b.length ≤ c) (hfit : b.length ≤ 9223372036854775807) :
    Calls Try.prog 4 #[.slice A b.length c] w fun e w' => e = .returned (.bool true) ∧ Below w.heap.size w w' := by
  have hu := Try.underlying24
  have HR := Lib.hid hr
  clear hr
  by_cases hlen : 600 < b.length
  · have hlen' : (600 : Int) < (b.length : Int) := by omega
    obtain ⟨b', hb'⟩ : ∃ x, x = b.take 600 := ⟨_, rfl⟩
    have hbl : b'.length = 600 := by rw [hb']; simp; omega
    have HB : Hid (Rd w w.heap.size A (bytesV b')) := Lib.hid (by rw [hb', bytesV, List.map_take]; exact HR.out.take 600)
    clear hb' 
    have hunp : ∀ W, Below w.heap.size w W → Calls Try.prog 10 #[.slice A 600 c] W (UnpPost b' W) := fun W hW => by
      have h := unpack_any b' A c W.heap.size W ((HB.out.below hW).mono hW.size) (Nat.le_refl _) (by rw [hbl]; omega) (by rw [hbl]; omega)
      rwa [hbl] at h
    have hrun : ∀ W, Below w.heap.size w W → Calls Try.prog 11 #[.slice A 600 c] W (UnpPost b' W) := fun W hW => by
      have h := runpack_any b' A c W.heap.size W ((HB.out.below hW).mono hW.size) (Nat.le_refl _) (by rw [hbl]; omega) (by rw [hbl]; omega)
      rwa [hbl] at h
    have hok := unpS_ok b'
    have hbk : ∀ m, unpS b' = (m, 0) → mayB m = true ∧ packB m = b' := fun m h => unpS_back h
    obtain ⟨m, k, hmk⟩ := ex_pair (unpS b')
    simp only [hmk] at hok
    have HU := Lib.hid hunp
    have HV := Lib.hid hrun
    have HOK := Lib.hid hok
    have HMK := Lib.hid hmk
    have HBK := Lib.hid hbk
    have HBL := Lib.hid hbl
    clear hunp hrun hok hmk hbk hbl
    go_enter Try.func4, Try.ntmps4
    go_wp2_with fail
    refine calls_then (HU.out _ (Below.refl _ _)) ?_
    rintro e w1 h1
    simp only [UnpPost, HMK.out] at h1
    obtain ⟨hb1, A1, c1, rfl, hc1, hown1⟩ := h1
    have hbx1 := Blk.new w1 24 #[.int .i64 0, .string ⟨#[]⟩, .string ⟨#[]⟩, .int .i64 0, .slice none 0 0, .string ⟨#[]⟩]
    have hb1' := hb1.alloc hb1.size (.cells #[.int .i64 0, .string ⟨#[]⟩, .string ⟨#[]⟩, .int .i64 0, .slice none 0 0, .string ⟨#[]⟩] 24)
    have hown1' := hown1.alloc (.cells #[.int .i64 0, .string ⟨#[]⟩, .string ⟨#[]⟩, .int .i64 0, .slice none 0 0, .string ⟨#[]⟩] 24)
    go_wp2_with (refine wpList_put_box (x := .tmp 3) hbx1 rfl rfl rfl rfl msg_size rfl (by simp [msgCells, Value.oneCell']) ?_; intro w2 hbm2 hw2)
    have hb2 := hw2.below hb1' hb1.size (by have := hb1.size; simp; omega)
    have ho2 := hw2.own hown1' (own_ne_blk hown1' hbx1 (by decide))
    have hlt : w.heap.size ≤ w1.heap.size := hb1.size
    generalize w1.heap.size = g1 at *
    clear hbx1 hb1 hb1' hown1 hown1' hw2
    refine calls_then (HV.out _ hb2) ?_
    rintro e w3 h3
    simp only [UnpPost, HMK.out] at h3
    obtain ⟨hb3, A2, c2, rfl, hc2, hown3⟩ := h3
    have hbx3 := Blk.new w3 24 #[.int .i64 0, .string ⟨#[]⟩, .string ⟨#[]⟩, .int .i64 0, .slice none 0 0, .string ⟨#[]⟩]
    have hb3' := hb3.alloc hb3.size (.cells #[.int .i64 0, .string ⟨#[]⟩, .string ⟨#[]⟩, .int .i64 0, .slice none 0 0, .string ⟨#[]⟩] 24)
    have hown3' := hown3.alloc (.cells #[.int .i64 0, .string ⟨#[]⟩, .string ⟨#[]⟩, .int .i64 0, .slice none 0 0, .string ⟨#[]⟩] 24)
    have hbm3 := hbm2.below hb3' hbm2.lt
    have ho3 := ho2.below hb3' (Nat.le_refl _)
    have hne : g1 ≠ w3.heap.size := by have := hbm2.lt; have := hb3.size; omega
    go_wp2_with (first
      | (refine wpList_put_box (x := .tmp 5) hbx3 rfl rfl rfl rfl msg_size rfl (by simp [msgCells, Value.oneCell']) ?_; intro w4 hbn4 hw4; have hbm4 := hw4.blk hbm3 hne)
      | (refine wpList_get_box (x := .tmp 3) hbm4 rfl rfl rfl hu rfl msg_size ?_)
      | (refine wpList_get_box (x := .tmp 5) hbn4 rfl rfl rfl hu rfl msg_size ?_))
    have hb4 : Below w.heap.size w w4 := hb2.trans ((hw4.below (hb3'.mono hb2.size) (by have := hb2.size; have := hb3.size; omega) (by have := hb2.size; have := hb3.size; simp; omega)))
    have o1 := hw4.own ho3 (own_ne_blk ho3 hbx3 (by decide))
    have o2 := hw4.own hown3' (own_ne_blk hown3' hbx3 (by decide))
    clear hbx3 hb3 hb3' hown3 hown3' hw4 ho3 hbm3 hb2 ho2 hbm2
    refine calls_then (same12_any m m A1 A2 c1 c2 w4.heap.size w4 (Rd.of_own o1 (Nat.le_refl _)) (Rd.of_own o2 (Nat.le_refl _)) (Nat.le_refl _) HOK.out.fields HOK.out.fields) ?_
    rintro e w5 ⟨rfl, hb5⟩
    rw [sameM_refl]
    have hb5' := hb4.trans (hb5.mono hb4.size)
    have hbm5 := hbm4.below hb5 hbm4.lt
    have o5 := o1.below hb5 (Nat.le_refl _)
    have hkk : ((k : Int) != (k : Int)) = false := by simp
    clear o1 o2 hb4 hb5 hbm4 hbn4
    by_cases hk0 : k = 0
    · have HX := Lib.hid (HBK.out m (by rw [HMK.out, hk0]))
      subst hk0
      go_wp2_with (refine wpList_get_box (x := .tmp 3) hbm5 rfl rfl rfl hu rfl msg_size ?_)
      refine calls_then (pack_any m A1 c1 w5.heap.size w5 (Rd.of_own o5 (Nat.le_refl _)) (Nat.le_refl _) hc1 HOK.out) ?_
      rintro e w6 ⟨hb6, h6⟩
      rw [if_pos HX.out.1, HX.out.2] at h6
      obtain ⟨A6, c6, rfl, hown6⟩ := h6
      have hrd6 := Rd.of_own hown6 (Nat.le_refl _)
      have hb6' := hb5'.trans (hb6.mono hb5'.size)
      have hrb := HB.out.below hb6'
      have hsb := run_str_of (P := Try.prog) Try.underlying26 Try.underlying5 Try.underlying9 hrb c
      rw [HBL.out] at hsb
      have hsc := run_str_of (P := Try.prog) Try.underlying26 Try.underlying5 Try.underlying9 hrd6 c6
      go_wp2_with fail
      refine calls_then (lives_any _) ?_
      rintro e w7 ⟨rfl, hb7⟩
      go_wp2_with fail
      go_ret
      exact ⟨rfl, hb6'.trans (hb7.mono hb6'.size)⟩
    · have hk1 : ((k : Int) == 0) = false := by simpa using hk0
      go_wp2_with fail
      refine calls_then (lives_any _) ?_
      rintro e w7 ⟨rfl, hb7⟩
      go_wp2_with fail
      go_ret
      exact ⟨rfl, hb5'.trans (hb7.mono hb5'.size)⟩
  · have hlen' : ¬ (600 : Int) < (b.length : Int) := by omega
    obtain ⟨b', hb'⟩ : ∃ x, x = b := ⟨_, rfl⟩
    have hbl : b'.length = b.length := by rw [hb']
    have HB : Hid (Rd w w.heap.size A (bytesV b')) := Lib.hid (by rw [hb']; exact HR.out)
    clear hb' 
    have hunp : ∀ W, Below w.heap.size w W → Calls Try.prog 10 #[.slice A b.length c] W (UnpPost b' W) := fun W hW => by
      have h := unpack_any b' A c W.heap.size W ((HB.out.below hW).mono hW.size) (Nat.le_refl _) (by rw [hbl]; omega) (by rw [hbl]; omega)
      rwa [hbl] at h
    have hrun : ∀ W, Below w.heap.size w W → Calls Try.prog 11 #[.slice A b.length c] W (UnpPost b' W) := fun W hW => by
      have h := runpack_any b' A c W.heap.size W ((HB.out.below hW).mono hW.size) (Nat.le_refl _) (by rw [hbl]; omega) (by rw [hbl]; omega)
      rwa [hbl] at h
    have hok := unpS_ok b'
    have hbk : ∀ m, unpS b' = (m, 0) → mayB m = true ∧ packB m = b' := fun m h => unpS_back h
    obtain ⟨m, k, hmk⟩ := ex_pair (unpS b')
    simp only [hmk] at hok
    have HU := Lib.hid hunp
    have HV := Lib.hid hrun
    have HOK := Lib.hid hok
    have HMK := Lib.hid hmk
    have HBK := Lib.hid hbk
    have HBL := Lib.hid hbl
    clear hunp hrun hok hmk hbk hbl
    go_enter Try.func4, Try.ntmps4
    go_wp2_with fail
    refine calls_then (HU.out _ (Below.refl _ _)) ?_
    rintro e w1 h1
    simp only [UnpPost, HMK.out] at h1
    obtain ⟨hb1, A1, c1, rfl, hc1, hown1⟩ := h1
    have hbx1 := Blk.new w1 24 #[.int .i64 0, .string ⟨#[]⟩, .string ⟨#[]⟩, .int .i64 0, .slice none 0 0, .string ⟨#[]⟩]
    have hb1' := hb1.alloc hb1.size (.cells #[.int .i64 0, .string ⟨#[]⟩, .string ⟨#[]⟩, .int .i64 0, .slice none 0 0, .string ⟨#[]⟩] 24)
    have hown1' := hown1.alloc (.cells #[.int .i64 0, .string ⟨#[]⟩, .string ⟨#[]⟩, .int .i64 0, .slice none 0 0, .string ⟨#[]⟩] 24)
    go_wp2_with (refine wpList_put_box (x := .tmp 3) hbx1 rfl rfl rfl rfl msg_size rfl (by simp [msgCells, Value.oneCell']) ?_; intro w2 hbm2 hw2)
    have hb2 := hw2.below hb1' hb1.size (by have := hb1.size; simp; omega)
    have ho2 := hw2.own hown1' (own_ne_blk hown1' hbx1 (by decide))
    have hlt : w.heap.size ≤ w1.heap.size := hb1.size
    generalize w1.heap.size = g1 at *
    clear hbx1 hb1 hb1' hown1 hown1' hw2
    refine calls_then (HV.out _ hb2) ?_
    rintro e w3 h3
    simp only [UnpPost, HMK.out] at h3
    obtain ⟨hb3, A2, c2, rfl, hc2, hown3⟩ := h3
    have hbx3 := Blk.new w3 24 #[.int .i64 0, .string ⟨#[]⟩, .string ⟨#[]⟩, .int .i64 0, .slice none 0 0, .string ⟨#[]⟩]
    have hb3' := hb3.alloc hb3.size (.cells #[.int .i64 0, .string ⟨#[]⟩, .string ⟨#[]⟩, .int .i64 0, .slice none 0 0, .string ⟨#[]⟩] 24)
    have hown3' := hown3.alloc (.cells #[.int .i64 0, .string ⟨#[]⟩, .string ⟨#[]⟩, .int .i64 0, .slice none 0 0, .string ⟨#[]⟩] 24)
    have hbm3 := hbm2.below hb3' hbm2.lt
    have ho3 := ho2.below hb3' (Nat.le_refl _)
    have hne : g1 ≠ w3.heap.size := by have := hbm2.lt; have := hb3.size; omega
    go_wp2_with (first
      | (refine wpList_put_box (x := .tmp 5) hbx3 rfl rfl rfl rfl msg_size rfl (by simp [msgCells, Value.oneCell']) ?_; intro w4 hbn4 hw4; have hbm4 := hw4.blk hbm3 hne)
      | (refine wpList_get_box (x := .tmp 3) hbm4 rfl rfl rfl hu rfl msg_size ?_)
      | (refine wpList_get_box (x := .tmp 5) hbn4 rfl rfl rfl hu rfl msg_size ?_))
    have hb4 : Below w.heap.size w w4 := hb2.trans ((hw4.below (hb3'.mono hb2.size) (by have := hb2.size; have := hb3.size; omega) (by have := hb2.size; have := hb3.size; simp; omega)))
    have o1 := hw4.own ho3 (own_ne_blk ho3 hbx3 (by decide))
    have o2 := hw4.own hown3' (own_ne_blk hown3' hbx3 (by decide))
    clear hbx3 hb3 hb3' hown3 hown3' hw4 ho3 hbm3 hb2 ho2 hbm2
    refine calls_then (same12_any m m A1 A2 c1 c2 w4.heap.size w4 (Rd.of_own o1 (Nat.le_refl _)) (Rd.of_own o2 (Nat.le_refl _)) (Nat.le_refl _) HOK.out.fields HOK.out.fields) ?_
    rintro e w5 ⟨rfl, hb5⟩
    rw [sameM_refl]
    have hb5' := hb4.trans (hb5.mono hb4.size)
    have hbm5 := hbm4.below hb5 hbm4.lt
    have o5 := o1.below hb5 (Nat.le_refl _)
    have hkk : ((k : Int) != (k : Int)) = false := by simp
    clear o1 o2 hb4 hb5 hbm4 hbn4
    by_cases hk0 : k = 0
    · have HX := Lib.hid (HBK.out m (by rw [HMK.out, hk0]))
      subst hk0
      go_wp2_with (refine wpList_get_box (x := .tmp 3) hbm5 rfl rfl rfl hu rfl msg_size ?_)
      refine calls_then (pack_any m A1 c1 w5.heap.size w5 (Rd.of_own o5 (Nat.le_refl _)) (Nat.le_refl _) hc1 HOK.out) ?_
      rintro e w6 ⟨hb6, h6⟩
      rw [if_pos HX.out.1, HX.out.2] at h6
      obtain ⟨A6, c6, rfl, hown6⟩ := h6
      have hrd6 := Rd.of_own hown6 (Nat.le_refl _)
      have hb6' := hb5'.trans (hb6.mono hb5'.size)
      have hrb := HB.out.below hb6'
      have hsb := run_str_of (P := Try.prog) Try.underlying26 Try.underlying5 Try.underlying9 hrb c
      rw [HBL.out] at hsb
      have hsc := run_str_of (P := Try.prog) Try.underlying26 Try.underlying5 Try.underlying9 hrd6 c6
      go_wp2_with fail
      refine calls_then (lives_any _) ?_
      rintro e w7 ⟨rfl, hb7⟩
      go_wp2_with fail
      go_ret
      exact ⟨rfl, hb6'.trans (hb7.mono hb6'.size)⟩
    · have hk1 : ((k : Int) == 0) = false := by simpa using hk0
      go_wp2_with fail
      refine calls_then (lives_any _) ?_
      rintro e w7 ⟨rfl, hb7⟩
      go_wp2_with fail
      go_ret
      exact ⟨rfl, hb5'.trans (hb7.mono hb5'.size)⟩
end Go.Proofs.Ytlngjalclagojaa
