/-
  Joined texts: Rda Id1 Id3 Spl.
-/
import Derived.Lib.SlTrimSet
import Derived.Lib.SplitLaws
import Derived.Shelf.Abstract
import Derived.Test.YtpfnigndhkcknaaGreatDoorProg
import Derived.Shelf.Strings.Split
import Derived.Test.YtpfnigndhkcknaaGreatDoorJ28
import Derived.Test.YtpfnigndhkcknaaGreatDoorJ9
/-
  Walks: the reference's in, of, Domain, in plain words.
-/
namespace Go.Proofs.YtpfnigndhkcknaaGreatDoor.Js
set_option linter.unusedSimpArgs false
set_option linter.unusedVariables false
open Go.RowKit
theorem rin_any (c : UInt8) (s : Bs) (hs : s.length ≤ 100000) (w : World) : Calls Tryz.prog 42 #[.int .u8 ((c.toNat : Nat) : Int), .string (bs s)] w fun e w' => e = .returned (.bool (decide (c ∈ s))) ∧ w' = w := by
  obtain ⟨n, hn⟩ : ∃ n, n = s.length := ⟨_, rfl⟩
  have hsz : ((bs s).size : Int) = (n : Int) := by rw [bs_size, hn]
  have hs' : (n : Int) ≤ 100000 := by omega
  have HN := Lib.hid hn
  have HSZ := Lib.hid (bs_size s)
  obtain ⟨z, hz⟩ : ∃ z : Int, z = ((c.toNat : Nat) : Int) := ⟨_, rfl⟩
  rw [← hz]
  have HZ := Lib.hid hz
  clear hn hz
  go_enter Tryz.func42, Tryz.ntmps42
  go_wp2_with fail
  go_loop [5] (fun i => ∃ k : Nat, k ≤ n ∧ i = .int .i64 k ∧ c ∉ s.take k) (fun i => n - (intOf i).toNat)
  case atStart => exact ⟨0, Nat.zero_le _, rfl, by simp⟩
  case round =>
    obtain ⟨k, hk, rfl, hno⟩ := hrel
    have HNO := Lib.hid hno
    clear hno
    by_cases hlt : k < n
    · have hks : k < s.length := by rw [← HN.out]; exact hlt
      have hkb : k < (bs s).size := by rw [HSZ.out]; exact hks
      have hlt' : (k : Int) < (n : Int) := by omega
      obtain ⟨x, hx⟩ : ∃ x : Int, x = (((bs s)[k]'hkb).toNat : Int) := ⟨_, rfl⟩
      have HX := Lib.hid (show x = ((s[k].toNat : Nat) : Int) by rw [hx]; rfl)
      by_cases he : x = z
      · have HIN := Lib.hid (show c ∈ s by
          have h1 : s[k].toNat = c.toNat := by have := HX.out; have := HZ.out; omega
          have h2 : s[k] = c := UInt8.toNat.inj h1
          rw [← h2]
          exact List.getElem_mem hks)
        have hxz : (x == z) = true := by simpa using he
        have HLT := Lib.hid hlt
        clear he
        go_wp2_with fail
        go_ret
        exact ⟨by rw [decide_eq_true HIN.out]; rfl, rfl⟩
      · have HNX := Lib.hid (show c ∉ s.take (k + 1) by
          rw [List.take_succ_eq_append_getElem hks, List.mem_append]
          rintro (h1 | h1)
          · exact HNO.out h1
          · have h2 : c = s[k] := List.mem_singleton.1 h1
            exact he (by rw [HX.out, HZ.out, h2]))
        have hxz : (x == z) = false := by simpa using he
        have HLT := Lib.hid hlt
        clear he
        go_wp2_with fail
        go_round
        case rel => exact ⟨k + 1, HLT.out, by go_num, HNX.out⟩
        case measure => have := HLT.out; simp [intOf]; omega
    · obtain rfl : k = n := by omega
      have HF := Lib.hid (show c ∉ s by
        have h := HNO.out
        rwa [HN.out, List.take_length] at h)
      go_wp2_with fail
      go_ret
      exact ⟨by rw [decide_eq_false HF.out]; rfl, rfl⟩
def of9 (s t : Bs) (m : Nat) : Bool := s.all (fun c => decide (c ∈ t)) && (decide (1 ≤ s.length) && decide (s.length ≤ m))
theorem rof_any (s t : Bs) (m : Nat) (hs : s.length ≤ 100000) (ht : t.length ≤ 100000) (hm : (m : Int) ≤ 100000) (w : World) : Calls Tryz.prog 64 #[.string (bs s), .string (bs t), .int .i64 (m : Int)] w fun e w' => e = .returned (.bool (of9 s t m)) ∧ w' = w := by
  obtain ⟨n, hn⟩ : ∃ n, n = s.length := ⟨_, rfl⟩
  have hsz : ((bs s).size : Int) = (n : Int) := by rw [bs_size, hn]
  have hs' : (n : Int) ≤ 100000 := by omega
  have HN := Lib.hid hn
  have HSZ := Lib.hid (bs_size s)
  have C := Lib.hid (fun (c : UInt8) => rin_any c t ht w)
  obtain ⟨r, hr⟩ : ∃ r, r = of9 s t m := ⟨_, rfl⟩
  rw [← hr]
  have HR := Lib.hid hr
  clear hn hr hs ht
  go_enter Tryz.func64, Tryz.ntmps64
  go_wp2_with fail
  go_loop [7] (fun i => ∃ k : Nat, k ≤ n ∧ i = .int .i64 k ∧ (s.take k).all (fun c => decide (c ∈ t)) = true) (fun i => n - (intOf i).toNat)
  case atStart => exact ⟨0, Nat.zero_le _, rfl, by simp⟩
  case round =>
    obtain ⟨k, hk, rfl, hok⟩ := hrel
    have HOK := Lib.hid hok
    clear hok
    by_cases hlt : k < n
    · have hks : k < s.length := by rw [← HN.out]; exact hlt
      have hkb : k < (bs s).size := by rw [HSZ.out]; exact hks
      have hlt' : (k : Int) < (n : Int) := by omega
      obtain ⟨x, hx⟩ : ∃ x : UInt8, x = s[k] := ⟨_, rfl⟩
      have hxv : (((bs s)[k]'hkb).toNat : Int) = ((x.toNat : Nat) : Int) := by rw [hx]; rfl
      obtain ⟨b, hb⟩ : ∃ b, b = decide (x ∈ t) := ⟨_, rfl⟩
      have CX := Lib.hid (C.out x)
      rw [← hb] at CX
      have HST := Lib.hid (show (s.take (k + 1)).all (fun c => decide (c ∈ t)) = b by
        rw [List.take_succ_eq_append_getElem hks, List.all_append, HOK.out, hb, hx]
        simp only [List.all_cons, List.all_nil, Bool.and_true, Bool.true_and]
        rfl)
      have HSF := Lib.hid (show b = false → r = false from fun h => by
        rw [HR.out, of9]
        have : s.all (fun c => decide (c ∈ t)) = false := by
          rw [List.all_eq_false]
          exact ⟨s[k], List.getElem_mem hks, by rw [← hx, ← hb, h]; simp⟩
        rw [this]
        rfl)
      have HLT := Lib.hid hlt
      clear hx hb
      go_wp2_with fail
      refine calls_then CX.out ?_
      rintro e w' ⟨rfl, rfl⟩
      cases b with
      | true =>
        go_wp2_with fail
        go_round
        case rel => exact ⟨k + 1, HLT.out, by go_num, HST.out⟩
        case measure => have := HLT.out; simp [intOf]; omega
      | false =>
        have HRF := Lib.hid (HSF.out rfl)
        go_wp2_with fail
        go_ret
        exact ⟨by rw [HRF.out]; rfl, rfl⟩
    · obtain rfl : k = n := by omega
      have HRE := Lib.hid (show r = (decide (1 ≤ k) && decide (k ≤ m)) by
        have h := HOK.out
        rw [HN.out, List.take_length] at h
        rw [HR.out, of9, h, HN.out]
        rfl)
      by_cases h1 : (1 : Int) ≤ (k : Int)
      · have d1 : decide ((1 : Int) ≤ (k : Int)) = true := by simpa using h1
        have D2 := Lib.hid (show decide (1 ≤ k) = true by simp; omega)
        go_wp2_with fail
        go_ret
        exact ⟨by rw [HRE.out, D2.out]; rfl, rfl⟩
      · have d1 : decide ((1 : Int) ≤ (k : Int)) = false := by simpa using h1
        have D2 := Lib.hid (show decide (1 ≤ k) = false by simp; omega)
        go_wp2_with fail
        go_ret
        exact ⟨by rw [HRE.out, D2.out]; rfl, rfl⟩
def domC : Bs := [97, 98, 99, 100, 101, 102, 103, 104, 105, 106, 107, 108, 109, 110, 111, 112, 113, 114, 115, 116, 117, 118, 119, 120, 121, 122, 48, 49, 50, 51, 52, 53, 54, 55, 56, 57, 46, 45]
theorem innerC_eq (c : UInt8) : innerC c = decide (c ∈ domC) := by
  have key : ∀ x : Fin 256, innerC (UInt8.ofNat x.1) = decide (UInt8.ofNat x.1 ∈ domC) := by decide +kernel
  have := key ⟨c.toNat, c.toNat_lt⟩
  simpa using this
theorem drop_eq {p : UInt8 → Bool} {l : Bs} : l.dropWhile p = l ↔ ∀ h : 0 < l.length, p (l[0]) = false := by
  cases l with
  | nil => simp
  | cons a r =>
    rw [List.dropWhile_cons]
    constructor
    · intro h _
      cases hp : p a with
      | false => simpa using hp
      | true =>
        rw [hp, if_pos rfl] at h
        have := congrArg List.length h
        have h2 := (List.dropWhile_sublist p (l := r)).length_le
        simp at this
        omega
    · intro h
      have := h (by simp)
      simp at this
      rw [if_neg (by simp [this])]
theorem trim_eq (s cs : Bs) (h0 : 0 < s.length) : (Lib.trimS s cs = s) ↔ (s[0] ∉ cs ∧ s[s.length - 1] ∉ cs) := by
  have hl : s.reverse.length = s.length := List.length_reverse
  have hlast : s.reverse[0]'(by omega) = s[s.length - 1] := by rw [List.getElem_reverse]; congr 1
  have hD : ∀ l : Bs, l.dropWhile (cs.contains ·) = l ↔ ∀ h : 0 < l.length, l[0] ∉ cs := fun l => by
    rw [drop_eq]
    constructor
    · intro h h1
      have := h h1
      simpa using this
    · intro h h1
      simpa using h h1
  unfold Lib.trimS Lib.trimLeftS Lib.trimRightS
  constructor
  · intro h
    have e1 := congrArg List.length h
    have e2 := (List.dropWhile_sublist (cs.contains ·) (l := (s.reverse.dropWhile (cs.contains ·)).reverse)).length_le
    have e3 := (List.dropWhile_sublist (cs.contains ·) (l := s.reverse)).length_le
    rw [List.length_reverse] at e2
    have e4 : s.reverse.dropWhile (cs.contains ·) = s.reverse := (List.dropWhile_sublist _).eq_of_length (by omega)
    rw [e4, List.reverse_reverse] at h
    refine ⟨(hD s).1 h h0, ?_⟩
    rw [← hlast]
    exact (hD s.reverse).1 e4 (by omega)
  · rintro ⟨h1, h2⟩
    rw [(hD s.reverse).2 (fun h => by rw [hlast]; exact h2), List.reverse_reverse]
    exact (hD s).2 fun _ => h1
theorem of9_dom (s : Bs) : of9 s domC 16 = (decide (s.length ≤ 16) && allD s) := by
  unfold of9 allD
  rw [show (fun c : UInt8 => decide (c ∈ domC)) = innerC from funext fun c => (innerC_eq c).symm]
  cases hq : s.all innerC with
  | false => simp
  | true =>
    cases s with
    | nil => simp
    | cons a r => simp
set_option maxHeartbeats 1000000 in
theorem rdom_any (s : Bs) (hs : s.length ≤ 100000) (w : World) : Calls Tryz.prog 83 #[.string (bs s)] w fun e w' => e = .returned (.bool (domB s)) ∧ w' = w := by
  have CO := Lib.hid (show Calls Tryz.prog 64 #[.string (bs s), .string ⟨#[97, 98, 99, 100, 101, 102, 103, 104, 105, 106, 107, 108, 109, 110, 111, 112, 113, 114, 115, 116, 117, 118, 119, 120, 121, 122, 48, 49, 50, 51, 52, 53, 54, 55, 56, 57, 46, 45]⟩, .int .i64 16] w fun e w' => e = .returned (.bool (of9 s domC 16)) ∧ w' = w from rof_any s domC 16 hs (by decide) (by decide) w)
  have CI := Lib.hid (fun (c : UInt8) => show Calls Tryz.prog 42 #[.int .u8 ((c.toNat : Nat) : Int), .string ⟨#[46, 45]⟩] w fun e w' => e = .returned (.bool (decide (c ∈ ([46, 45] : Bs)))) ∧ w' = w from rin_any c [46, 45] (by decide) w)
  obtain ⟨r, hr⟩ : ∃ r, r = domB s := ⟨_, rfl⟩
  rw [← hr]
  have hr2 : r = (of9 s domC 16 && decide (trimD s = s)) := by rw [hr, domB, of9_dom, Bool.and_assoc]
  have HLE := Lib.hid (show of9 s domC 16 = true → 0 < s.length from fun h => by
    unfold of9 at h
    simp only [Bool.and_eq_true, decide_eq_true_eq] at h
    omega)
  obtain ⟨b, hb⟩ : ∃ b, b = of9 s domC 16 := ⟨_, rfl⟩
  rw [← hb] at CO hr2 HLE
  have HR := Lib.hid hr2
  clear hr hr2 hb
  have hsz : ((bs s).size : Int) = (s.length : Int) := by rw [bs_size]
  have hsn : (s.length : Int) ≤ 100000 := by omega
  have HSZ := Lib.hid (bs_size s)
  go_enter Tryz.func83, Tryz.ntmps83
  go_wp2_with fail
  refine calls_then CO.out ?_
  rintro e w' ⟨rfl, rfl⟩
  cases b with
  | false =>
    have HRF := Lib.hid (show r = false from HR.out)
    go_wp2_with fail
    go_ret
    exact ⟨by rw [HRF.out]; rfl, rfl⟩
  | true =>
    have h0 := HLE.out rfl
    have h0' : 0 < (s.length : Int) := by omega
    obtain ⟨x, hx⟩ : ∃ x : UInt8, x = s[0] := ⟨_, rfl⟩
    obtain ⟨y, hy⟩ : ∃ y : UInt8, y = s[s.length - 1] := ⟨_, rfl⟩
    have hk0 : 0 < (bs s).size := by rw [HSZ.out]; exact h0
    have hk1 : s.length - 1 < (bs s).size := by rw [HSZ.out]; omega
    have hxv : (((bs s)[0]'hk0).toNat : Int) = ((x.toNat : Nat) : Int) := by rw [hx]; rfl
    have hyv : (((bs s)[s.length - 1]'hk1).toNat : Int) = ((y.toNat : Nat) : Int) := by rw [hy]; rfl
    have HRE := Lib.hid (show r = (!decide (x ∈ ([46, 45] : Bs)) && !decide (y ∈ ([46, 45] : Bs))) by
      rw [HR.out, Bool.true_and]
      unfold trimD
      have h := trim_eq s [46, 45] h0
      rw [← hx, ← hy] at h
      by_cases h1 : x ∈ ([46, 45] : Bs) <;> by_cases h2 : y ∈ ([46, 45] : Bs) <;> simp only [h1, h2, decide_true, decide_false, Bool.not_true, Bool.not_false, Bool.and_true, Bool.and_false] <;> (first | exact decide_eq_true (h.2 ⟨h1, h2⟩) | exact decide_eq_false (fun he => absurd h1 (h.1 he).1) | exact decide_eq_false (fun he => absurd h2 (h.1 he).2)))
    clear hx hy
    obtain ⟨p, hp⟩ : ∃ p, p = decide (x ∈ ([46, 45] : Bs)) := ⟨_, rfl⟩
    obtain ⟨q, hq⟩ : ∃ q, q = decide (y ∈ ([46, 45] : Bs)) := ⟨_, rfl⟩
    have CX := Lib.hid (CI.out x)
    have CY := Lib.hid (CI.out y)
    rw [← hp] at CX HRE
    rw [← hq] at CY HRE
    clear hp hq CI
    go_wp2_with fail
    refine calls_then CX.out ?_
    rintro e w' ⟨rfl, rfl⟩
    go_wp2_with fail
    refine calls_then CY.out ?_
    rintro e w' ⟨rfl, rfl⟩
    cases p <;> go_wp2_with fail
    all_goals go_ret
    all_goals exact ⟨by rw [HRE.out]; rfl, rfl⟩
end Go.Proofs.YtpfnigndhkcknaaGreatDoor.Js
/-
  Plain: which texts are paths, and agents' paths.
-/
namespace Go.Proofs.YtpfnigndhkcknaaGreatDoor.Js
set_option linter.unusedSimpArgs false
set_option linter.unusedVariables false

def namedZ (z : Int) : Bool := innerZ z || (decide (65 ≤ z) && decide (z ≤ 90)) || z == 95
def namedC (c : UInt8) : Bool := namedZ ((c.toNat : Nat) : Int)
/-- a text has a byte, and each may be in a segment -/
def allN (s : Bs) : Bool := s.all namedC && !s.isEmpty
def segOk (w : Bs) : Bool := allN w && (decide (w ≠ [46]) && decide (w ≠ [46, 46]))
def segsOk : Bs → Bs → Bool
  | cur, [] => segOk cur
  | cur, c :: r => if c = 47 then segOk cur && segsOk [] r else segsOk (cur ++ [c]) r
def pathB (s : Bs) : Bool := decide (s.length ≤ 40) && (decide (s.take 1 = [47]) && segsOk [] (s.drop 1))
def agentT : Bs := [47, 97, 103, 101, 110, 116, 47]
def agentB (s : Bs) : Bool := decide (s.take 7 = agentT) && (pathB s && decide (47 ∉ s.drop 7))
theorem index_no (l : Bs) (c : UInt8) (h : c ∉ l) : Lib.index l [c] = -1 := by
  induction l with
  | nil => simp [Lib.index]
  | cons b r ih =>
    have hb : c ≠ b := fun e => h (by rw [e]; exact List.mem_cons_self ..)
    have hp : ([c] : List UInt8).isPrefixOf (b :: r) = false := by simp [List.isPrefixOf, hb]
    rw [Lib.index, hp, ih (fun hm => h (List.mem_cons_of_mem _ hm))]
    simp
theorem index_at (l r : Bs) (c : UInt8) (h : c ∉ l) : Lib.index (l ++ c :: r) [c] = (l.length : Int) := by
  induction l with
  | nil => rw [List.nil_append, Lib.index]; simp [List.isPrefixOf]
  | cons b t ih =>
    have hb : c ≠ b := fun e => h (by rw [e]; exact List.mem_cons_self ..)
    have hp : ([c] : List UInt8).isPrefixOf (b :: (t ++ c :: r)) = false := by simp [List.isPrefixOf, hb]
    rw [List.cons_append, Lib.index, hp, ih (fun hm => h (List.mem_cons_of_mem _ hm))]
    have hne : ¬ ((t.length : Int) = -1) := by omega
    simp [hne]
theorem split_no (l : Bs) (c : UInt8) (h : c ∉ l) : Lib.split l [c] = [l] := by
  rw [Lib.split, Lib.count_one, List.count_eq_zero_of_not_mem h]
  rfl
theorem split_at (l r : Bs) (c : UInt8) (h : c ∉ l) : Lib.split (l ++ c :: r) [c] = l :: Lib.split r [c] := by
  have e : (l ++ c :: r).count c = r.count c + 1 := by rw [List.count_append, List.count_eq_zero_of_not_mem h, List.count_cons_self]; omega
  have hne : ¬ ((l.length : Int) == -1) = true := by simp
  rw [Lib.split, Lib.count_one, e, Lib.splitK, index_at l r c h, if_neg hne, Lib.split, Lib.count_one]
  have e1 : (l ++ c :: r).take ((l.length : Int).toNat + 0) = l := by simp
  have e2 : (l ++ c :: r).drop ((l.length : Int).toNat + [c].length) = r := by simp [List.drop_append]
  rw [e1, e2]
theorem segs_split : ∀ (r cur : Bs), 47 ∉ cur → segsOk cur r = (Lib.split (cur ++ r) [47]).all segOk
  | [], cur, h => by rw [List.append_nil, split_no cur 47 h]; simp [segsOk]
  | c :: r, cur, h => by
    by_cases hc : c = 47
    · subst hc
      have e : segsOk [] r = (Lib.split r [47]).all segOk := by simpa using segs_split r [] (by simp)
      rw [split_at cur r 47 h, List.all_cons, ← e]
      simp [segsOk]
    · have h2 : 47 ∉ cur ++ [c] := by simp [h, Ne.symm hc]
      rw [segsOk, if_neg hc, segs_split r (cur ++ [c]) h2, List.append_assoc]
      rfl
/-- the segments of a path -/
theorem path_split (r : Bs) : (Lib.split (47 :: r) [47]).tail.all segOk = segsOk [] r := by
  rw [show (47 :: r : Bs) = [] ++ 47 :: r from rfl, split_at [] r 47 (by simp), List.tail_cons, segs_split r [] (by simp), List.nil_append]
def pathC : Bs := [97, 98, 99, 100, 101, 102, 103, 104, 105, 106, 107, 108, 109, 110, 111, 112, 113, 114, 115, 116, 117, 118, 119, 120, 121, 122, 65, 66, 67, 68, 69, 70, 71, 72, 73, 74, 75, 76, 77, 78, 79, 80, 81, 82, 83, 84, 85, 86, 87, 88, 89, 90, 48, 49, 50, 51, 52, 53, 54, 55, 56, 57, 46, 45, 95]
theorem namedC_eq (c : UInt8) : namedC c = decide (c ∈ pathC) := by
  have h : ∀ n : Fin 256, namedC (UInt8.ofNat n.val) = decide (UInt8.ofNat n.val ∈ pathC) := by decide +kernel
  have := h ⟨c.toNat, c.toNat_lt⟩
  simpa using this
theorem of9_named (s : Bs) (h : s.length ≤ 40) : of9 s pathC 40 = allN s := by
  have e : (fun c => decide (c ∈ pathC)) = namedC := funext fun c => (namedC_eq c).symm
  rw [of9, e, allN]
  cases s with
  | nil => simp
  | cons c r => simp at h ⊢; intro _ _; omega
end Go.Proofs.YtpfnigndhkcknaaGreatDoor.Js
/-
  Walks: ids.named, ids.all of a segment's bytes; attest.named, brevetref20.Named.
-/
namespace Go.Proofs.YtpfnigndhkcknaaGreatDoor.Js
set_option linter.unusedSimpArgs false
set_option linter.unusedVariables false
open Go.RowKit

theorem named_any (z : Int) (w : World) : Calls Tryz.prog 61 #[.int .u8 z] w fun e w' => e = .returned (.bool (namedZ z)) ∧ w' = w := by
  have C1 := Lib.hid (inner_any z w)
  unfold namedZ
  obtain ⟨a, ha⟩ : ∃ a, a = innerZ z := ⟨_, rfl⟩
  rw [← ha] at C1 ⊢
  clear ha
  go_enter Tryz.func61, Tryz.ntmps61
  go_wp2_with fail
  refine calls_then C1.out ?_
  rintro e u1 ⟨rfl, rfl⟩
  cases a with
  | true =>
    go_wp2_with fail
    go_ret
    simp
  | false =>
    by_cases h1 : 65 ≤ z ∧ z ≤ 90
    · have HR := Lib.hid (show (decide (65 ≤ z) && decide (z ≤ 90) || z == 95) = true by simp [h1])
      have d0 : decide (65 ≤ z) = true := by simp [h1]
      have d1 : decide (z ≥ 65) = true := by simp [h1]
      have d2 : decide (z ≤ 90) = true := by simp [h1]
      clear h1
      go_wp2_with fail
      go_ret
      exact ⟨by rw [Bool.false_or, HR.out]; first | done | rfl, rfl⟩
    · by_cases h2 : z = 95
      · subst h2
        go_wp2_with fail
        go_ret
        exact ⟨rfl, rfl⟩
      · have HR := Lib.hid (show (decide (65 ≤ z) && decide (z ≤ 90) || z == 95) = false by simp [h2]; omega)
        have d3 : (z == 95) = false := by simpa using h2
        by_cases h3 : 65 ≤ z
        · have d0 : decide (65 ≤ z) = true := by simp [h3]
          have d1 : decide (z ≥ 65) = true := by simp [h3]
          have d2 : decide (z ≤ 90) = false := by simp; omega
          clear h1 h2 h3
          go_wp2_with fail
          go_ret
          exact ⟨by rw [Bool.false_or, HR.out]; first | done | rfl, rfl⟩
        · have d0 : decide (65 ≤ z) = false := by simp; omega
          have d1 : decide (z ≥ 65) = false := by simp; omega
          clear h1 h2 h3
          go_wp2_with fail
          go_ret
          exact ⟨by rw [Bool.false_or, HR.out]; first | done | rfl, rfl⟩
theorem allN_take {s : Bs} {i : Nat} (h : i < s.length) : (s.take (i + 1)).all namedC = ((s.take i).all namedC && namedC s[i]) := by
  rw [List.take_succ_eq_append_getElem h, List.all_append]
  simp
theorem allN_bad {s : Bs} {i : Nat} (h : i < s.length) (hb : namedC s[i] = false) : allN s = false := by
  unfold allN
  cases hq : s.all namedC with
  | false => rfl
  | true =>
    rw [List.all_eq_true] at hq
    have := hq _ (List.getElem_mem h)
    rw [hb] at this
    cases this
set_option maxHeartbeats 2000000 in
theorem allN_any (s : ByteArray) (hs : (s.size : Int) ≤ 100000000) (w : World) :
    Calls Tryz.prog 60 #[.string s, .func (.func 61) #[] #[]] w fun x w' => x = .returned (.bool (allN s.data.toList)) ∧ w' = w := by
  have eg : ∀ args w, (callFunc 61 args).run Tryz.prog w = .ok (.enter 61 args) w := enters_of Tryz.func61 (by kernel_rfl) rfl
  have C := Lib.hid named_any
  have h5 : s.data.toList.length = s.size := rfl
  have HS := Lib.hid hs
  go_enter Tryz.func60, Tryz.ntmps60
  go_wp2_with fail
  go_loopw [8] (fun x wr => ∃ i : Nat, i ≤ s.size ∧ x = .int .i64 (i : Int) ∧ (s.data.toList.take i).all namedC = true ∧ wr = w) (fun x _ => s.size - (intOf x).toNat)
  case atStart => exact ⟨0, Nat.zero_le _, rfl, by simp, rfl⟩
  case round =>
    obtain ⟨i, hi, rfl, hok, rfl⟩ := hrel
    have HOK := Lib.hid hok
    clear hok
    by_cases hlt : i < s.size
    · have hlt' : (i : Int) < (s.size : Int) := by omega
      have HLT := Lib.hid hlt
      have HAT := Lib.hid (show s.data.toList[i]'(by rw [h5]; exact hlt) = s[i] from rfl)
      have HC := Lib.hid (C.out ((s[i].toNat : Nat) : Int))
      cases hb : namedC s[i] with
      | true =>
        have HT := Lib.hid (show (s.data.toList.take (i + 1)).all namedC = true by rw [allN_take (by rw [h5]; exact hlt), HOK.out, HAT.out, hb]; rfl)
        have hb' : namedZ ((s[i].toNat : Nat) : Int) = true := hb
        rw [hb'] at HC
        clear HAT h5 hb hb' C
        go_wp2_with (go_at_call 61; refine calls_then (HC.out _) ?_; rintro e W' ⟨rfl, rfl⟩)
        go_roundw
        case rel => exact ⟨i + 1, HLT.out, by go_num, HT.out, by first | rfl | trivial⟩
        case measure => have := HLT.out; simp [intOf]; omega
      | false =>
        have HF := Lib.hid (allN_bad (s := s.data.toList) (i := i) (by rw [h5]; exact hlt) (by rw [HAT.out]; exact hb))
        have hb' : namedZ ((s[i].toNat : Nat) : Int) = false := hb
        rw [hb'] at HC
        clear HAT h5 hb hb' C
        go_wp2_with (go_at_call 61; refine calls_then (HC.out _) ?_; rintro e W' ⟨rfl, rfl⟩)
        go_ret
        exact ⟨by rw [HF.out]; rfl, rfl⟩
    · have HF := Lib.hid (show s.data.toList.all namedC = true by
        have := HOK.out
        rw [List.take_of_length_le (by rw [h5]; omega)] at this
        exact this)
      clear h5
      have hlt' : ¬ (i : Int) < (s.size : Int) := by omega
      go_wp2_with fail
      go_ret
      refine ⟨?_, rfl⟩
      rw [allN, HF.out, ← Lib.toList_data]
      rfl
end Go.Proofs.YtpfnigndhkcknaaGreatDoor.Js
/-
  strings.Split's and strings.Contains' contracts lie at this seat (printed by the kit's lay-plain over gen/split13.py; the numbers are this seat's).
-/
namespace Go.Proofs.YtpfnigndhkcknaaGreatDoor
open Go.Shelf Go.Proofs
def splitL_ren : Go.Shelf.Ren := ⟨fun | 146 => 79 | 221 => 89 | 268 => 100 | 138 => 101 | 143 => 62 | 195 => 105 | 197 => 106 | 218 => 107 | 219 => 81 | 260 => 108 | 217 => 92 | 225 => 93 | 224 => 94 | 267 => 95 | 266 => 102 | 314 => 103 | n => n, fun | 9 => 9 | 31 => 28 | 3 => 3 | 4 => 4 | 0 => 0 | 105 => 133 | 21 => 21 | 5 => 5 | 46 => 123 | 119 => 135 | 139 => 138 | 138 => 137 | 146 => 129 | 51 => 128 | n => n, fun | 1 => 0 | 3 => 1 | 4 => 2 | n => n⟩
theorem splitL : Go.Proofs.Lays.n146 Tryz.prog splitL_ren := {
  mixed := by kernel_rfl
  f138 := Tryz.func101.trans (congrArg some (by kernel_rfl))
  f143 := Tryz.func62.trans (congrArg some (by kernel_rfl))
  f146 := Tryz.func79.trans (congrArg some (by kernel_rfl))
  f195 := Tryz.func105.trans (congrArg some (by kernel_rfl))
  f197 := Tryz.func106.trans (congrArg some (by kernel_rfl))
  f217 := Tryz.func92.trans (congrArg some (by kernel_rfl))
  f218 := Tryz.func107.trans (congrArg some (by kernel_rfl))
  f219 := Tryz.func81.trans (congrArg some (by kernel_rfl))
  f221 := Tryz.func89.trans (congrArg some (by kernel_rfl))
  f224 := Tryz.func94.trans (congrArg some (by kernel_rfl))
  f225 := Tryz.func93.trans (congrArg some (by kernel_rfl))
  f260 := Tryz.func108.trans (congrArg some (by kernel_rfl))
  f266 := Tryz.func102.trans (congrArg some (by kernel_rfl))
  f267 := Tryz.func95.trans (congrArg some (by kernel_rfl))
  f268 := Tryz.func100.trans (congrArg some (by kernel_rfl))
  f314 := Tryz.func103.trans (congrArg some (by kernel_rfl))
  t0 := Tryz.underlying0
  a0 := Tryz.isAgg0
  z0 := Tryz.sizeOf0
  v0 := Tryz.zeroValue0
  t3 := Tryz.underlying3
  a3 := Tryz.isAgg3
  z3 := Tryz.sizeOf3
  v3 := Tryz.zeroValue3
  t4 := Tryz.underlying4
  a4 := Tryz.isAgg4
  z4 := Tryz.sizeOf4
  v4 := Tryz.zeroValue4
  t5 := Tryz.underlying5
  a5 := Tryz.isAgg5
  z5 := Tryz.sizeOf5
  v5 := Tryz.zeroValue5
  t9 := Tryz.underlying9
  a9 := Tryz.isAgg9
  z9 := Tryz.sizeOf9
  v9 := Tryz.zeroValue9
  t21 := Tryz.underlying21
  a21 := Tryz.isAgg21
  z21 := Tryz.sizeOf21
  v21 := Tryz.zeroValue21
  t31 := Tryz.underlying28
  a31 := Tryz.isAgg28
  z31 := Tryz.sizeOf28
  v31 := Tryz.zeroValue28
  t46 := Tryz.underlying123
  a46 := Tryz.isAgg123
  z46 := Tryz.sizeOf123
  v46 := Tryz.zeroValue123
  t51 := Tryz.underlying128
  a51 := Tryz.isAgg128
  z51 := Tryz.sizeOf128
  v51 := Tryz.zeroValue128
  t105 := Tryz.underlying133
  a105 := Tryz.isAgg133
  z105 := Tryz.sizeOf133
  v105 := Tryz.zeroValue133
  t119 := Tryz.underlying135
  a119 := Tryz.isAgg135
  z119 := Tryz.sizeOf135
  t138 := Tryz.underlying137
  a138 := Tryz.isAgg137
  z138 := Tryz.sizeOf137
  v138 := Tryz.zeroValue137
  t139 := Tryz.underlying138
  a139 := Tryz.isAgg138
  z139 := Tryz.sizeOf138
  v139 := Tryz.zeroValue138
  t146 := Tryz.underlying129
  a146 := Tryz.isAgg129
  z146 := Tryz.sizeOf129
  v146 := Tryz.zeroValue129
  g1 := by kernel_rfl
  g3 := by kernel_rfl
  g4 := by kernel_rfl }
def contL_ren : Go.Shelf.Ren := ⟨fun | 144 => 37 | 143 => 62 | 219 => 81 | 217 => 92 | 225 => 93 | 224 => 94 | 267 => 95 | 266 => 102 | 314 => 103 | n => n, fun | 9 => 9 | 4 => 4 | 3 => 3 | 5 => 5 | 46 => 123 | 146 => 129 | 51 => 128 | n => n, fun | 1 => 0 | n => n⟩
theorem contL : Go.Proofs.Lays.n144 Tryz.prog contL_ren := {
  mixed := by kernel_rfl
  f143 := Tryz.func62.trans (congrArg some (by kernel_rfl))
  f144 := Tryz.func37.trans (congrArg some (by kernel_rfl))
  f217 := Tryz.func92.trans (congrArg some (by kernel_rfl))
  f219 := Tryz.func81.trans (congrArg some (by kernel_rfl))
  f224 := Tryz.func94.trans (congrArg some (by kernel_rfl))
  f225 := Tryz.func93.trans (congrArg some (by kernel_rfl))
  f266 := Tryz.func102.trans (congrArg some (by kernel_rfl))
  f267 := Tryz.func95.trans (congrArg some (by kernel_rfl))
  f314 := Tryz.func103.trans (congrArg some (by kernel_rfl))
  t3 := Tryz.underlying3
  a3 := Tryz.isAgg3
  z3 := Tryz.sizeOf3
  v3 := Tryz.zeroValue3
  t4 := Tryz.underlying4
  a4 := Tryz.isAgg4
  z4 := Tryz.sizeOf4
  v4 := Tryz.zeroValue4
  t5 := Tryz.underlying5
  a5 := Tryz.isAgg5
  z5 := Tryz.sizeOf5
  v5 := Tryz.zeroValue5
  t9 := Tryz.underlying9
  a9 := Tryz.isAgg9
  z9 := Tryz.sizeOf9
  v9 := Tryz.zeroValue9
  t46 := Tryz.underlying123
  a46 := Tryz.isAgg123
  z46 := Tryz.sizeOf123
  v46 := Tryz.zeroValue123
  t51 := Tryz.underlying128
  a51 := Tryz.isAgg128
  z51 := Tryz.sizeOf128
  v51 := Tryz.zeroValue128
  t146 := Tryz.underlying129
  a146 := Tryz.isAgg129
  z146 := Tryz.sizeOf129
  v146 := Tryz.zeroValue129
  g1 := by kernel_rfl }
end Go.Proofs.YtpfnigndhkcknaaGreatDoor
