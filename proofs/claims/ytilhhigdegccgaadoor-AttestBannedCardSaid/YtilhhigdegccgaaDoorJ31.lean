/-
  Joined texts: Rda.
-/
import Derived.Lib.SlTrimSet
import Derived.Test.YtilhhigdegccgaaDoorJ26
import Derived.Test.YtilhhigdegccgaaDoorJ8
/-
  Walks: the reference's in, of, Domain, in plain words.
-/
namespace Go.Proofs.YtilhhigdegccgaaDoor.Js
set_option linter.unusedSimpArgs false
set_option linter.unusedVariables false
open Go.RowKit
theorem rin_any (c : UInt8) (s : Bs) (hs : s.length ≤ 100000) (w : World) : Calls Tryd.prog 74 #[.int .u8 ((c.toNat : Nat) : Int), .string (bs s)] w fun e w' => e = .returned (.bool (decide (c ∈ s))) ∧ w' = w := by
  obtain ⟨n, hn⟩ : ∃ n, n = s.length := ⟨_, rfl⟩
  have hsz : ((bs s).size : Int) = (n : Int) := by rw [bs_size, hn]
  have hs' : (n : Int) ≤ 100000 := by omega
  have HN := Lib.hid hn
  have HSZ := Lib.hid (bs_size s)
  obtain ⟨z, hz⟩ : ∃ z : Int, z = ((c.toNat : Nat) : Int) := ⟨_, rfl⟩
  rw [← hz]
  have HZ := Lib.hid hz
  clear hn hz
  go_enter Tryd.func74, Tryd.ntmps74
  go_wp2_with fail
  go_loop [5] (fun i => ∃ k : Nat, k ≤ n ∧ i = .int .i64 k ∧ c ∉ s.take k) (fun i => n - (intOf i).toNat)
  case atStart => exact ⟨0, Nat.zero_le _, rfl, by simp⟩
  case round =>
    obtain ⟨k, hk, rfl, hno⟩ := hrel
    have HNO := Lib.hid hno
    clear hno
    by_cases hlt : k < n
    · have hks : k < s.length := by rw [← HN.out]; exact hlt
      have hkb : k < (bs s).size := by rw [HSZ.out]; exact hks
      have hlt' : (k : Int) < (n : Int) := by omega
      obtain ⟨x, hx⟩ : ∃ x : Int, x = (((bs s)[k]'hkb).toNat : Int) := ⟨_, rfl⟩
      have HX := Lib.hid (show x = ((s[k].toNat : Nat) : Int) by rw [hx]; rfl)
      by_cases he : x = z
      · have HIN := Lib.hid (show c ∈ s by
          have h1 : s[k].toNat = c.toNat := by have := HX.out; have := HZ.out; omega
          have h2 : s[k] = c := UInt8.toNat.inj h1
          rw [← h2]
          exact List.getElem_mem hks)
        have hxz : (x == z) = true := by simpa using he
        have HLT := Lib.hid hlt
        clear he
        go_wp2_with fail
        go_ret
        exact ⟨by rw [decide_eq_true HIN.out]; rfl, rfl⟩
      · have HNX := Lib.hid (show c ∉ s.take (k + 1) by
          rw [List.take_succ_eq_append_getElem hks, List.mem_append]
          rintro (h1 | h1)
          · exact HNO.out h1
          · have h2 : c = s[k] := List.mem_singleton.1 h1
            exact he (by rw [HX.out, HZ.out, h2]))
        have hxz : (x == z) = false := by simpa using he
        have HLT := Lib.hid hlt
        clear he
        go_wp2_with fail
        go_round
        case rel => exact ⟨k + 1, HLT.out, by go_num, HNX.out⟩
        case measure => have := HLT.out; simp [intOf]; omega
    · obtain rfl : k = n := by omega
      have HF := Lib.hid (show c ∉ s by
        have h := HNO.out
        rwa [HN.out, List.take_length] at h)
      go_wp2_with fail
      go_ret
      exact ⟨by rw [decide_eq_false HF.out]; rfl, rfl⟩
def of9 (s t : Bs) (m : Nat) : Bool := s.all (fun c => decide (c ∈ t)) && (decide (1 ≤ s.length) && decide (s.length ≤ m))
theorem rof_any (s t : Bs) (m : Nat) (hs : s.length ≤ 100000) (ht : t.length ≤ 100000) (hm : (m : Int) ≤ 100000) (w : World) : Calls Tryd.prog 73 #[.string (bs s), .string (bs t), .int .i64 (m : Int)] w fun e w' => e = .returned (.bool (of9 s t m)) ∧ w' = w := by
  obtain ⟨n, hn⟩ : ∃ n, n = s.length := ⟨_, rfl⟩
  have hsz : ((bs s).size : Int) = (n : Int) := by rw [bs_size, hn]
  have hs' : (n : Int) ≤ 100000 := by omega
  have HN := Lib.hid hn
  have HSZ := Lib.hid (bs_size s)
  have C := Lib.hid (fun (c : UInt8) => rin_any c t ht w)
  obtain ⟨r, hr⟩ : ∃ r, r = of9 s t m := ⟨_, rfl⟩
  rw [← hr]
  have HR := Lib.hid hr
  clear hn hr hs ht
  go_enter Tryd.func73, Tryd.ntmps73
  go_wp2_with fail
  go_loop [7] (fun i => ∃ k : Nat, k ≤ n ∧ i = .int .i64 k ∧ (s.take k).all (fun c => decide (c ∈ t)) = true) (fun i => n - (intOf i).toNat)
  case atStart => exact ⟨0, Nat.zero_le _, rfl, by simp⟩
  case round =>
    obtain ⟨k, hk, rfl, hok⟩ := hrel
    have HOK := Lib.hid hok
    clear hok
    by_cases hlt : k < n
    · have hks : k < s.length := by rw [← HN.out]; exact hlt
      have hkb : k < (bs s).size := by rw [HSZ.out]; exact hks
      have hlt' : (k : Int) < (n : Int) := by omega
      obtain ⟨x, hx⟩ : ∃ x : UInt8, x = s[k] := ⟨_, rfl⟩
      have hxv : (((bs s)[k]'hkb).toNat : Int) = ((x.toNat : Nat) : Int) := by rw [hx]; rfl
      obtain ⟨b, hb⟩ : ∃ b, b = decide (x ∈ t) := ⟨_, rfl⟩
      have CX := Lib.hid (C.out x)
      rw [← hb] at CX
      have HST := Lib.hid (show (s.take (k + 1)).all (fun c => decide (c ∈ t)) = b by
        rw [List.take_succ_eq_append_getElem hks, List.all_append, HOK.out, hb, hx]
        simp only [List.all_cons, List.all_nil, Bool.and_true, Bool.true_and]
        rfl)
      have HSF := Lib.hid (show b = false → r = false from fun h => by
        rw [HR.out, of9]
        have : s.all (fun c => decide (c ∈ t)) = false := by
          rw [List.all_eq_false]
          exact ⟨s[k], List.getElem_mem hks, by rw [← hx, ← hb, h]; simp⟩
        rw [this]
        rfl)
      have HLT := Lib.hid hlt
      clear hx hb
      go_wp2_with fail
      refine calls_then CX.out ?_
      rintro e w' ⟨rfl, rfl⟩
      cases b with
      | true =>
        go_wp2_with fail
        go_round
        case rel => exact ⟨k + 1, HLT.out, by go_num, HST.out⟩
        case measure => have := HLT.out; simp [intOf]; omega
      | false =>
        have HRF := Lib.hid (HSF.out rfl)
        go_wp2_with fail
        go_ret
        exact ⟨by rw [HRF.out]; rfl, rfl⟩
    · obtain rfl : k = n := by omega
      have HRE := Lib.hid (show r = (decide (1 ≤ k) && decide (k ≤ m)) by
        have h := HOK.out
        rw [HN.out, List.take_length] at h
        rw [HR.out, of9, h, HN.out]
        rfl)
      by_cases h1 : (1 : Int) ≤ (k : Int)
      · have d1 : decide ((1 : Int) ≤ (k : Int)) = true := by simpa using h1
        have D2 := Lib.hid (show decide (1 ≤ k) = true by simp; omega)
        go_wp2_with fail
        go_ret
        exact ⟨by rw [HRE.out, D2.out]; rfl, rfl⟩
      · have d1 : decide ((1 : Int) ≤ (k : Int)) = false := by simpa using h1
        have D2 := Lib.hid (show decide (1 ≤ k) = false by simp; omega)
        go_wp2_with fail
        go_ret
        exact ⟨by rw [HRE.out, D2.out]; rfl, rfl⟩
def domC : Bs := [97, 98, 99, 100, 101, 102, 103, 104, 105, 106, 107, 108, 109, 110, 111, 112, 113, 114, 115, 116, 117, 118, 119, 120, 121, 122, 48, 49, 50, 51, 52, 53, 54, 55, 56, 57, 46, 45]
theorem innerC_eq (c : UInt8) : innerC c = decide (c ∈ domC) := by
  have key : ∀ x : Fin 256, innerC (UInt8.ofNat x.1) = decide (UInt8.ofNat x.1 ∈ domC) := by decide +kernel
  have := key ⟨c.toNat, c.toNat_lt⟩
  simpa using this
theorem drop_eq {p : UInt8 → Bool} {l : Bs} : l.dropWhile p = l ↔ ∀ h : 0 < l.length, p (l[0]) = false := by
  cases l with
  | nil => simp
  | cons a r =>
    rw [List.dropWhile_cons]
    constructor
    · intro h _
      cases hp : p a with
      | false => simpa using hp
      | true =>
        rw [hp, if_pos rfl] at h
        have := congrArg List.length h
        have h2 := (List.dropWhile_sublist p (l := r)).length_le
        simp at this
        omega
    · intro h
      have := h (by simp)
      simp at this
      rw [if_neg (by simp [this])]
theorem trim_eq (s cs : Bs) (h0 : 0 < s.length) : (Lib.trimS s cs = s) ↔ (s[0] ∉ cs ∧ s[s.length - 1] ∉ cs) := by
  have hl : s.reverse.length = s.length := List.length_reverse
  have hlast : s.reverse[0]'(by omega) = s[s.length - 1] := by rw [List.getElem_reverse]; congr 1
  have hD : ∀ l : Bs, l.dropWhile (cs.contains ·) = l ↔ ∀ h : 0 < l.length, l[0] ∉ cs := fun l => by
    rw [drop_eq]
    constructor
    · intro h h1
      have := h h1
      simpa using this
    · intro h h1
      simpa using h h1
  unfold Lib.trimS Lib.trimLeftS Lib.trimRightS
  constructor
  · intro h
    have e1 := congrArg List.length h
    have e2 := (List.dropWhile_sublist (cs.contains ·) (l := (s.reverse.dropWhile (cs.contains ·)).reverse)).length_le
    have e3 := (List.dropWhile_sublist (cs.contains ·) (l := s.reverse)).length_le
    rw [List.length_reverse] at e2
    have e4 : s.reverse.dropWhile (cs.contains ·) = s.reverse := (List.dropWhile_sublist _).eq_of_length (by omega)
    rw [e4, List.reverse_reverse] at h
    refine ⟨(hD s).1 h h0, ?_⟩
    rw [← hlast]
    exact (hD s.reverse).1 e4 (by omega)
  · rintro ⟨h1, h2⟩
    rw [(hD s.reverse).2 (fun h => by rw [hlast]; exact h2), List.reverse_reverse]
    exact (hD s).2 fun _ => h1
theorem of9_dom (s : Bs) : of9 s domC 16 = (decide (s.length ≤ 16) && allD s) := by
  unfold of9 allD
  rw [show (fun c : UInt8 => decide (c ∈ domC)) = innerC from funext fun c => (innerC_eq c).symm]
  cases hq : s.all innerC with
  | false => simp
  | true =>
    cases s with
    | nil => simp
    | cons a r => simp
set_option maxHeartbeats 1000000 in
theorem rdom_any (s : Bs) (hs : s.length ≤ 100000) (w : World) : Calls Tryd.prog 75 #[.string (bs s)] w fun e w' => e = .returned (.bool (domB s)) ∧ w' = w := by
  have CO := Lib.hid (show Calls Tryd.prog 73 #[.string (bs s), .string ⟨#[97, 98, 99, 100, 101, 102, 103, 104, 105, 106, 107, 108, 109, 110, 111, 112, 113, 114, 115, 116, 117, 118, 119, 120, 121, 122, 48, 49, 50, 51, 52, 53, 54, 55, 56, 57, 46, 45]⟩, .int .i64 16] w fun e w' => e = .returned (.bool (of9 s domC 16)) ∧ w' = w from rof_any s domC 16 hs (by decide) (by decide) w)
  have CI := Lib.hid (fun (c : UInt8) => show Calls Tryd.prog 74 #[.int .u8 ((c.toNat : Nat) : Int), .string ⟨#[46, 45]⟩] w fun e w' => e = .returned (.bool (decide (c ∈ ([46, 45] : Bs)))) ∧ w' = w from rin_any c [46, 45] (by decide) w)
  obtain ⟨r, hr⟩ : ∃ r, r = domB s := ⟨_, rfl⟩
  rw [← hr]
  have hr2 : r = (of9 s domC 16 && decide (trimD s = s)) := by rw [hr, domB, of9_dom, Bool.and_assoc]
  have HLE := Lib.hid (show of9 s domC 16 = true → 0 < s.length from fun h => by
    unfold of9 at h
    simp only [Bool.and_eq_true, decide_eq_true_eq] at h
    omega)
  obtain ⟨b, hb⟩ : ∃ b, b = of9 s domC 16 := ⟨_, rfl⟩
  rw [← hb] at CO hr2 HLE
  have HR := Lib.hid hr2
  clear hr hr2 hb
  have hsz : ((bs s).size : Int) = (s.length : Int) := by rw [bs_size]
  have hsn : (s.length : Int) ≤ 100000 := by omega
  have HSZ := Lib.hid (bs_size s)
  go_enter Tryd.func75, Tryd.ntmps75
  go_wp2_with fail
  refine calls_then CO.out ?_
  rintro e w' ⟨rfl, rfl⟩
  cases b with
  | false =>
    have HRF := Lib.hid (show r = false from HR.out)
    go_wp2_with fail
    go_ret
    exact ⟨by rw [HRF.out]; rfl, rfl⟩
  | true =>
    have h0 := HLE.out rfl
    have h0' : 0 < (s.length : Int) := by omega
    obtain ⟨x, hx⟩ : ∃ x : UInt8, x = s[0] := ⟨_, rfl⟩
    obtain ⟨y, hy⟩ : ∃ y : UInt8, y = s[s.length - 1] := ⟨_, rfl⟩
    have hk0 : 0 < (bs s).size := by rw [HSZ.out]; exact h0
    have hk1 : s.length - 1 < (bs s).size := by rw [HSZ.out]; omega
    have hxv : (((bs s)[0]'hk0).toNat : Int) = ((x.toNat : Nat) : Int) := by rw [hx]; rfl
    have hyv : (((bs s)[s.length - 1]'hk1).toNat : Int) = ((y.toNat : Nat) : Int) := by rw [hy]; rfl
    have HRE := Lib.hid (show r = (!decide (x ∈ ([46, 45] : Bs)) && !decide (y ∈ ([46, 45] : Bs))) by
      rw [HR.out, Bool.true_and]
      unfold trimD
      have h := trim_eq s [46, 45] h0
      rw [← hx, ← hy] at h
      by_cases h1 : x ∈ ([46, 45] : Bs) <;> by_cases h2 : y ∈ ([46, 45] : Bs) <;> simp only [h1, h2, decide_true, decide_false, Bool.not_true, Bool.not_false, Bool.and_true, Bool.and_false] <;> (first | exact decide_eq_true (h.2 ⟨h1, h2⟩) | exact decide_eq_false (fun he => absurd h1 (h.1 he).1) | exact decide_eq_false (fun he => absurd h2 (h.1 he).2)))
    clear hx hy
    obtain ⟨p, hp⟩ : ∃ p, p = decide (x ∈ ([46, 45] : Bs)) := ⟨_, rfl⟩
    obtain ⟨q, hq⟩ : ∃ q, q = decide (y ∈ ([46, 45] : Bs)) := ⟨_, rfl⟩
    have CX := Lib.hid (CI.out x)
    have CY := Lib.hid (CI.out y)
    rw [← hp] at CX HRE
    rw [← hq] at CY HRE
    clear hp hq CI
    go_wp2_with fail
    refine calls_then CX.out ?_
    rintro e w' ⟨rfl, rfl⟩
    go_wp2_with fail
    refine calls_then CY.out ?_
    rintro e w' ⟨rfl, rfl⟩
    cases p <;> go_wp2_with fail
    all_goals go_ret
    all_goals exact ⟨by rw [HRE.out]; rfl, rfl⟩
end Go.Proofs.YtilhhigdegccgaaDoor.Js
