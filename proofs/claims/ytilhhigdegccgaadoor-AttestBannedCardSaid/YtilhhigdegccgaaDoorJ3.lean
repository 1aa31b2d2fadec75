/-
  Joined texts: R9a R9b Rwz Owr.
-/
import Derived.Test.YtilhhigdegccgaaDoorProg
import Derived.Deep.QuietTactic
import Derived.BigQuiet
import Derived.Deep.DeepCutAuto
import Derived.Maps.AppendAt
import Derived.Test.YtilhhigdegccgaaDoorJ1
import Derived.Test.YtilhhigdegccgaaDoorJ2
/-
  Walks: the reference's in, of, Domain, Agent (some answer each).
-/
namespace Go.Proofs.YtilhhigdegccgaaDoor
set_option linter.unusedSimpArgs false
set_option linter.unusedVariables false
open Go.RowKit
def SomeB (w : World) (e : Ending) (w' : World) : Prop := (∃ b : Bool, e = .returned (.bool b)) ∧ w = w'
def SomeP (p : Bool → Prop) (w : World) (e : Ending) (w' : World) : Prop := (∃ b : Bool, e = .returned (.bool b) ∧ p b) ∧ w = w'
theorem in9_any (c : Int) (s : ByteArray) (hs : s.size ≤ 1000) (w : World) : Calls Tryd.prog 74 #[.int .u8 c, .string s] w (SomeB w) := by
  have hs' : (s.size : Int) ≤ 1000 := by omega
  go_enter Tryd.func74, Tryd.ntmps74
  go_wp2_with fail
  go_loop [5] (fun i => ∃ k : Nat, k ≤ s.size ∧ i = .int .i64 k) (fun i => s.size - (intOf i).toNat)
  case atStart => exact ⟨0, Nat.zero_le _, rfl⟩
  case round =>
    obtain ⟨k, hk, rfl⟩ := hrel
    by_cases hlt : k < s.size
    · by_cases he : ((s[k].toNat : Nat) : Int) = c
      · go_wp2_with fail
        go_ret
        exact ⟨⟨_, rfl⟩, rfl⟩
      · go_wp2_with fail
        go_round
        case rel => exact ⟨k + 1, by omega, by go_num⟩
        case measure => simp [intOf]; omega
    · go_wp2_with fail
      go_ret
      exact ⟨⟨_, rfl⟩, rfl⟩
theorem of9_any (s t : ByteArray) (n : Int) (hs : s.size ≤ 1000) (ht : t.size ≤ 1000) (w : World) : Calls Tryd.prog 73 #[.string s, .string t, .int .i64 n] w (SomeP (fun b => b = true → 1 ≤ s.size) w) := by
  have hs' : (s.size : Int) ≤ 1000 := by omega
  have C := Lib.hid (fun c => in9_any c t ht w)
  go_enter Tryd.func73, Tryd.ntmps73
  go_wp2_with fail
  go_loop [7] (fun i => ∃ k : Nat, k ≤ s.size ∧ i = .int .i64 k) (fun i => s.size - (intOf i).toNat)
  case atStart => exact ⟨0, Nat.zero_le _, rfl⟩
  case round =>
    obtain ⟨k, hk, rfl⟩ := hrel
    by_cases hlt : k < s.size
    · go_wp2_with fail
      refine calls_then (C.out _) ?_
      rintro e w' ⟨⟨b, rfl⟩, rfl⟩
      cases b with
      | true =>
        go_wp2_with fail
        go_round
        case rel => exact ⟨k + 1, by omega, by go_num⟩
        case measure => simp [intOf]; omega
      | false =>
        go_wp2_with fail
        go_ret
        exact ⟨⟨_, rfl, fun h => by cases h⟩, rfl⟩
    · by_cases h1 : (1 : Int) ≤ (s.size : Int)
      · have d1 : decide ((1 : Int) ≤ (s.size : Int)) = true := by simpa using h1
        go_wp2_with fail
        go_ret
        exact ⟨⟨_, rfl, fun _ => by omega⟩, rfl⟩
      · have d1 : decide ((1 : Int) ≤ (s.size : Int)) = false := by simpa using h1
        go_wp2_with fail
        go_ret
        exact ⟨⟨_, rfl, fun h => by cases h⟩, rfl⟩
end Go.Proofs.YtilhhigdegccgaaDoor
/-
  Walks: the reference's Domain, Agent, Path (some answer each).
-/
namespace Go.Proofs.YtilhhigdegccgaaDoor
set_option linter.unusedSimpArgs false
set_option linter.unusedVariables false
open Go.RowKit
set_option maxHeartbeats 1000000 in
theorem path9_any (s : ByteArray) (hs : s.size ≤ 1000) (w : World) : Calls Tryd.prog 54 #[.string s] w (SomeB w) := by
  have hs' : (s.size : Int) ≤ 1000 := by omega
  have CO := Lib.hid (fun (u t : ByteArray) (n : Int) (hu : u.size ≤ 1000) (ht : t.size ≤ 1000) => of9_any u t n hu ht w)
  by_cases h1 : s.size < 2
  · have d1 : decide ((s.size : Int) < 2) = true := by simp; omega
    go_enter Tryd.func54, Tryd.ntmps54
    go_wp2_with fail
    go_ret
    exact ⟨⟨_, rfl⟩, rfl⟩
  · by_cases h2 : 40 < s.size
    · have d1 : decide ((s.size : Int) < 2) = false := by simp; omega
      have d2 : decide ((s.size : Int) > 40) = true := by simp; omega
      have d3 : decide ((40 : Int) < (s.size : Int)) = true := by simp; omega
      go_enter Tryd.func54, Tryd.ntmps54
      go_wp2_with fail
      go_ret
      exact ⟨⟨_, rfl⟩, rfl⟩
    · have d1 : decide ((s.size : Int) < 2) = false := by simp; omega
      have d2 : decide ((s.size : Int) > 40) = false := by simp; omega
      have d3 : decide ((40 : Int) < (s.size : Int)) = false := by simp; omega
      have h0 : 0 < s.size := by omega
      by_cases h3 : ((s[0].toNat : Nat) : Int) = 47
      · go_enter Tryd.func54, Tryd.ntmps54
        go_wp2_with fail
        go_loop [3, 4] (fun f i => ∃ a k : Nat, 1 ≤ a ∧ a ≤ k ∧ k ≤ s.size + 1 ∧ f = .int .i64 (a : Int) ∧ i = .int .i64 (k : Int)) (fun _ i => s.size + 1 - (intOf i).toNat)
        case atStart => exact ⟨1, 1, by omega, by omega, by omega, rfl, rfl⟩
        case round =>
          obtain ⟨a, k, ha, hak, hk, rfl, rfl⟩ := hrel
          by_cases hle : k ≤ s.size
          · have l1 : decide ((k : Int) ≤ (s.size : Int)) = true := by simp; omega
            by_cases hq : ∃ h : k < s.size, ((s[k].toNat : Nat) : Int) ≠ 47
            · obtain ⟨hlt, hq⟩ := hq
              have l2 : decide ((k : Int) < (s.size : Int)) = true := by simp; omega
              have l2' : (k : Int) < (s.size : Int) := by omega
              go_wp2_with fail
              go_round
              case rel => exact ⟨a, k + 1, ha, by omega, by omega, rfl, by go_num⟩
              case measure => simp [intOf]; omega
            · have HW : (s.extract a k).size ≤ 1000 := by simp; omega
              have i1 : (a : Int) ≤ (k : Int) := by omega
              have i2 : (k : Int) ≤ (s.size : Int) := by omega
              have i3 : (0 : Int) ≤ (a : Int) := by omega
              by_cases hlt : k < s.size
              · have l2 : decide ((k : Int) < (s.size : Int)) = true := by simp; omega
                have l2' : (k : Int) < (s.size : Int) := by omega
                have hs47 : ((s[k].toNat : Nat) : Int) = 47 := by
                  refine Classical.byContradiction fun h => hq ⟨hlt, h⟩
                clear hq
                go_wp2_with fail
                refine calls_then (CO.out _ _ _ HW (by decide)) ?_
                rintro e w' ⟨⟨b, rfl, _⟩, rfl⟩
                cases b with
                | false =>
                  go_wp2_with fail
                  go_ret
                  exact ⟨⟨_, rfl⟩, rfl⟩
                | true =>
                  generalize s.extract a k = u at *
                  go_wp2_with fail
                  all_goals first
                    | (go_ret; exact ⟨⟨_, rfl⟩, rfl⟩)
                    | (go_round
                       case rel => exact ⟨k + 1, k + 1, by omega, by omega, by omega, by go_num, by go_num⟩
                       case measure => simp [intOf]; omega)
              · have l2 : decide ((k : Int) < (s.size : Int)) = false := by simp; omega
                have l2' : ¬ (k : Int) < (s.size : Int) := by omega
                clear hq
                go_wp2_with fail
                refine calls_then (CO.out _ _ _ HW (by decide)) ?_
                rintro e w' ⟨⟨b, rfl, _⟩, rfl⟩
                cases b with
                | false =>
                  go_wp2_with fail
                  go_ret
                  exact ⟨⟨_, rfl⟩, rfl⟩
                | true =>
                  generalize s.extract a k = u at *
                  go_wp2_with fail
                  all_goals first
                    | (go_ret; exact ⟨⟨_, rfl⟩, rfl⟩)
                    | (go_round
                       case rel => exact ⟨k + 1, k + 1, by omega, by omega, by omega, by go_num, by go_num⟩
                       case measure => simp [intOf]; omega)
          · have l1 : decide ((k : Int) ≤ (s.size : Int)) = false := by simp; omega
            have l1' : ¬ (k : Int) ≤ (s.size : Int) := by omega
            go_wp2_with fail
            go_ret
            exact ⟨⟨_, rfl⟩, rfl⟩
      · go_enter Tryd.func54, Tryd.ntmps54
        go_wp2_with fail
        go_ret
        exact ⟨⟨_, rfl⟩, rfl⟩
set_option maxHeartbeats 1000000 in
theorem agent9_any (s : ByteArray) (hs : s.size ≤ 1000) (w : World) : Calls Tryd.prog 55 #[.string s] w (SomeB w) := by
  have hs' : (s.size : Int) ≤ 1000 := by omega
  have CP := Lib.hid (path9_any s hs w)
  have CI := Lib.hid (fun c (t : ByteArray) (ht : t.size ≤ 1000) => in9_any c t ht w)
  by_cases h8 : s.size < 8
  · have d1 : decide ((s.size : Int) < 8) = true := by simp; omega
    go_enter Tryd.func55, Tryd.ntmps55
    go_wp2_with fail
    refine calls_then CP.out ?_
    rintro e w' ⟨⟨b, rfl⟩, rfl⟩
    cases b <;> go_wp2_with fail
    all_goals go_ret
    all_goals exact ⟨⟨_, rfl⟩, rfl⟩
  · have d1 : decide ((s.size : Int) < 8) = false := by simp; omega
    have i7 : (7 : Int) ≤ (s.size : Int) := by omega
    have HW : (s.extract 7 s.size).size ≤ 1000 := by simp; omega
    go_enter Tryd.func55, Tryd.ntmps55
    go_wp2_with fail
    refine calls_then CP.out ?_
    rintro e w' ⟨⟨b, rfl⟩, rfl⟩
    cases b with
    | false =>
      go_wp2_with fail
      go_ret
      exact ⟨⟨_, rfl⟩, rfl⟩
    | true =>
      go_wp2_with fail
      all_goals first
        | (go_ret; exact ⟨⟨_, rfl⟩, rfl⟩)
        | (refine calls_then (CI.out _ _ HW) ?_
           rintro e w' ⟨⟨b1, rfl⟩, rfl⟩
           go_wp2_with fail
           go_ret
           exact ⟨⟨_, rfl⟩, rfl⟩)
end Go.Proofs.YtilhhigdegccgaaDoor
/-
  Rows of structs: cells one behind the other; rows of which the blocks' type is known.
-/
namespace Go.Proofs.YtilhhigdegccgaaDoor
set_option linter.unusedSimpArgs false
set_option linter.unusedVariables false
open Go.RowKit
section
variable {α : Type}
def rowsV (f : α → Array Value) (l : List α) : List Value := l.flatMap fun x => (f x).toList
theorem rowsV_append (f : α → Array Value) (l r : List α) : rowsV f (l ++ r) = rowsV f l ++ rowsV f r := by simp [rowsV]
theorem rowsV_one (f : α → Array Value) (x : α) : rowsV f [x] = (f x).toList := by simp [rowsV]
theorem rowsV_len {f : α → Array Value} {m : Nat} (hf : ∀ x, (f x).size = m) : ∀ l : List α, (rowsV f l).length = l.length * m
  | [] => by simp [rowsV]
  | x :: r => by
    have := rowsV_len hf r
    rw [show rowsV f (x :: r) = (f x).toList ++ rowsV f r by simp [rowsV], List.length_append, this]
    simp [hf, Nat.add_mul, Nat.add_comm]
theorem rowsV_at {f : α → Array Value} {m : Nat} (hf : ∀ x, (f x).size = m) : ∀ (l : List α) (i : Nat) (h : i < l.length) (j : Nat) (u : Value), (f l[i])[j]? = some u → (rowsV f l)[i * m + j]? = some u
  | x :: r, 0, h, j, u, hu => by
    rw [show rowsV f (x :: r) = (f x).toList ++ rowsV f r by simp [rowsV]]
    have hu' : (f x)[j]? = some u := by simpa using hu
    have hj : j < (f x).size := (Array.getElem?_eq_some_iff.1 hu').1
    rw [Nat.zero_mul, Nat.zero_add, List.getElem?_append_left (by simpa using hj), Array.getElem?_toList]
    exact hu'
  | x :: r, i + 1, h, j, u, hu => by
    have hi : i < r.length := by simpa using h
    have := rowsV_at hf r i hi j u (by simpa using hu)
    have e : (i + 1) * m = m + i * m := by rw [Nat.add_mul]; omega
    rw [show rowsV f (x :: r) = (f x).toList ++ rowsV f r by simp [rowsV], List.getElem?_append_right (by simp [hf]; omega)]
    simp only [Array.length_toList, hf]
    rw [show (i + 1) * m + j - m = i * m + j by omega]
    exact this
theorem rowsV_take {f : α → Array Value} {m : Nat} (hf : ∀ x, (f x).size = m) : ∀ (l : List α) (k : Nat), rowsV f (l.take k) = (rowsV f l).take (k * m)
  | [], k => by simp [rowsV]
  | x :: r, 0 => by simp [rowsV]
  | x :: r, k + 1 => by
    have := rowsV_take hf r k
    rw [List.take_succ_cons, show rowsV f (x :: r.take k) = (f x).toList ++ rowsV f (r.take k) by simp [rowsV], show rowsV f (x :: r) = (f x).toList ++ rowsV f r by simp [rowsV], this, List.take_append]
    have e : (k + 1) * m = m + k * m := by rw [Nat.add_mul]; omega
    rw [e]
    have hl : (f x).toList.length = m := by simp [hf]
    rw [hl, List.take_of_length_le (l := (f x).toList) (by rw [hl]; omega), Nat.add_sub_cancel_left]
theorem rowsV_drop {f : α → Array Value} {m : Nat} (hf : ∀ x, (f x).size = m) : ∀ (l : List α) (k : Nat), rowsV f (l.drop k) = (rowsV f l).drop (k * m)
  | [], k => by simp [rowsV]
  | x :: r, 0 => by simp [rowsV]
  | x :: r, k + 1 => by
    have := rowsV_drop hf r k
    have e : (k + 1) * m = m + k * m := by rw [Nat.add_mul]; omega
    have hl : (f x).toList.length = m := by simp [hf]
    rw [List.drop_succ_cons, this, show rowsV f (x :: r) = (f x).toList ++ rowsV f r by simp [rowsV], List.drop_append, e, hl, @List.drop_eq_nil_of_le _ (f x).toList _ (by rw [hl]; omega), Nat.add_sub_cancel_left, List.nil_append]
theorem rowsV_mem {f : α → Array Value} (h1 : ∀ x, (f x).all (·.oneCell') = true) (l : List α) : ∀ u ∈ rowsV f l, u.oneCell' = true := fun u hu => by
  obtain ⟨x, _, hx⟩ := List.mem_flatMap.1 hu
  have := h1 x
  rw [Array.all_eq_true_iff_forall_mem] at this
  exact this u (by simpa using hx)
theorem rd_rows {f : α → Array Value} {m : Nat} (hf : ∀ x, (f x).size = m) (hm : 0 < m) {w : World} {B : Nat} {A : Option Addr} {l : List α} (h : Rd w B A (rowsV f l)) {i : Nat} (hi : i < l.length) :
    ∃ ad, A = some ad ∧ ad.block < B ∧ ∀ j u, (f l[i])[j]? = some u → w.cell? ((ad.add (i * m)).add j) = some u := by
  have h0 := rowsV_at hf l i hi 0 _ (Array.getElem?_eq_getElem (by rw [hf]; exact hm))
  obtain ⟨ad, hA, hb, -⟩ := h _ _ h0
  refine ⟨ad, hA, hb, fun j u hu => ?_⟩
  obtain ⟨ad', hA', -, hc⟩ := h _ _ (rowsV_at hf l i hi j u hu)
  rw [hA] at hA'
  injection hA' with e
  subst e
  rw [← hc]
  congr 1
  generalize i * m = n
  unfold Addr.add
  by_cases h1 : n = 0 <;> by_cases h2 : j = 0 <;> simp [h1, h2, Nat.add_assoc]
end
def Row (w : World) (B : Nat) (t : TypeId) (A : Option Addr) (xs : List Value) : Prop :=
  ∀ i u, xs[i]? = some u → ∃ ad cs fz, A = some ad ∧ ad.block < B ∧ w.cell? (ad.add i) = some u ∧ w.heap[ad.block]? = some (.cells cs t fz)
variable {w w' : World} {B : Nat} {t : TypeId} {A : Option Addr} {xs : List Value}
theorem Row.rd (h : Row w B t A xs) : Rd w B A xs := fun i u hu => by
  obtain ⟨ad, cs, fz, h1, h2, h3, _⟩ := h i u hu
  exact ⟨ad, h1, h2, h3⟩
theorem Row.nil (w : World) (B : Nat) (t : TypeId) (A : Option Addr) : Row w B t A [] := fun i u hu => by simp at hu
theorem Row.below (h : Row w B t A xs) (hb : Below B w w') : Row w' B t A xs := fun i u hu => by
  obtain ⟨ad, cs, fz, h1, h2, h3, h4⟩ := h i u hu
  exact ⟨ad, cs, fz, h1, h2, by rw [hb.cell (p := ad.add i) (by rw [block_of_add]; exact h2)]; exact h3, by rw [hb.block _ h2]; exact h4⟩
theorem Row.mono {B' : Nat} (h : Row w B t A xs) (hB : B ≤ B') : Row w B' t A xs := fun i u hu => by
  obtain ⟨ad, cs, fz, h1, h2, h3, h4⟩ := h i u hu
  exact ⟨ad, cs, fz, h1, Nat.lt_of_lt_of_le h2 hB, h3, h4⟩
theorem Row.grow (h : Row w w.heap.size t A xs) (hb : Below w.heap.size w w') : Row w' w'.heap.size t A xs := (h.below hb).mono hb.size
theorem Row.keep {e : TypeId} (h : Row w B t A xs) (hk : KeepBut e w w') (ht : t ≠ e) : Row w' B t A xs := fun i u hu => by
  obtain ⟨ad, cs, fz, h1, h2, h3, h4⟩ := h i u hu
  have h5 := heap_keep hk ht h4
  refine ⟨ad, cs, fz, h1, h2, ?_, h5⟩
  rw [← h3]
  exact World.cell?_of_block (w := w) (w' := w') (by rw [block_of_add, h5, h4])
theorem Row.of_own {base size n c : Nat} (h : OwnX w base t size (.slice A n c) n xs) : Row w w.heap.size t A xs := fun i u hu => by
  obtain ⟨ad, h1, h2, h3⟩ := Rd.of_own h (Nat.le_refl _) i u hu
  rcases h.2 with ⟨hn, _⟩ | ⟨g, cap, cur, fz, hv, hb, hgg, hrest⟩
  · simp at hn
    rw [hn.1] at h1
    simp at h1
  · simp at hv
    rw [hv.1] at h1
    injection h1 with h1
    subst h1
    exact ⟨_, _, _, hv.1, h2, h3, hgg⟩
theorem Row.take (h : Row w B t A xs) (k : Nat) : Row w B t A (xs.take k) := fun i u hu => by
  rw [List.getElem?_take] at hu
  split at hu
  · exact h i u hu
  · simp at hu
theorem Row.drop {ad : Addr} (h : Row w B t (some ad) xs) (k : Nat) : Row w B t (some (ad.add k)) (xs.drop k) := fun i u hu => by
  rw [List.getElem?_drop] at hu
  obtain ⟨ad', cs, fz, h1, h2, h3, h4⟩ := h _ u hu
  injection h1 with h1
  subst h1
  refine ⟨_, cs, fz, rfl, by rw [block_of_add]; exact h2, ?_, by rw [block_of_add]; exact h4⟩
  rw [← h3]
  congr 1
  unfold Addr.add
  by_cases e1 : k = 0 <;> by_cases e2 : i = 0 <;> simp [e1, e2, Nat.add_assoc]
end Go.Proofs.YtilhhigdegccgaaDoor
/-
  Laws of my own: rows of structs that the call owns and may write to.
-/
namespace Go.Proofs.YtilhhigdegccgaaDoor
set_option linter.unusedSimpArgs false
set_option linter.unusedVariables false
open Go.RowKit
def OwnR (w : World) (base : Nat) (e : TypeId) (size : Nat) (A : Option Addr) (c : Nat) (n : Nat) (xs : List Value) : Prop := w.ownsRow base e size (.slice A n c) n xs
section
variable {w w' : World} {base : Nat} {e : TypeId} {size : Nat} {A : Option Addr} {c n : Nat} {xs : List Value}
theorem OwnR.x (h : OwnR w base e size A c n xs) : OwnX w base e size (.slice A n c) n xs := .of h
theorem OwnR.nil (w : World) (base : Nat) (e : TypeId) (size : Nat) : OwnR w base e size none 0 0 [] := ⟨by simp, .inl ⟨rfl, rfl⟩⟩
theorem OwnR.cap (h : OwnR w base e size A c n xs) : n ≤ c := by
  rcases h.2 with ⟨h1, h2⟩ | ⟨g, cap, cur, h1, h2, h3, h4, h5, h6, h7⟩
  · omega
  · injection h1 with e1 e2 e3
    omega
theorem OwnR.capm (h : OwnR w base e size A c n xs) : c ≤ maxLen := by
  rcases h.2 with ⟨h1, h2⟩ | ⟨g, cap, cur, h1, h2, h3, h4, h5, h6, h7⟩
  · injection h1 with e1 e2 e3
    unfold maxLen
    omega
  · injection h1 with e1 e2 e3
    omega
theorem OwnR.lt (h : OwnR w base e size A c n xs) : ∀ k, (Value.slice A n c).ownBlock = some k → base ≤ k ∧ k < w.heap.size := h.x.lt
theorem OwnR.mono {base' : Nat} (h : OwnR w base e size A c n xs) (hb : base' ≤ base) : OwnR w base' e size A c n xs := by
  refine ⟨h.1, ?_⟩
  rcases h.2 with h0 | ⟨g, cap, cur, h1, h2, h3⟩
  · exact .inl h0
  · exact .inr ⟨g, cap, cur, h1, by omega, h3⟩
theorem OwnR.heap (h : OwnR w base e size A c n xs) (hk : ∀ k cs, w.heap[k]? = some (.cells cs e (0, 0)) → base ≤ k → w'.heap[k]? = some (.cells cs e (0, 0))) : OwnR w' base e size A c n xs := by
  refine ⟨h.1, ?_⟩
  rcases h.2 with h0 | ⟨g, cap, cur, h1, h2, h3, h4⟩
  · exact .inl h0
  · exact .inr ⟨g, cap, cur, h1, h2, hk _ _ h3 h2, h4⟩
theorem OwnR.keep {f : TypeId} (h : OwnR w base e size A c n xs) (hk : KeepBut f w w') (ht : e ≠ f) : OwnR w' base e size A c n xs := h.heap fun k cs h1 _ => heap_keep hk ht h1
theorem OwnR.alloc (h : OwnR w base e size A c n xs) (o : Obj) : OwnR (w.alloc o) base e size A c n xs := h.heap fun k cs h1 _ => (Below.heap_alloc w o k (Array.getElem?_eq_some_iff.1 h1).1).trans h1
theorem OwnR.below (h : OwnR w base e size A c n xs) (hb : Below w.heap.size w w') : OwnR w' base e size A c n xs := h.heap fun k cs h1 _ => (hb.block k (Array.getElem?_eq_some_iff.1 h1).1).trans h1
theorem OwnR.row (h : OwnR w base e size A c n xs) : Row w w.heap.size e A xs := .of_own h.x
end
theorem KeepBut.refl (e : TypeId) (w : World) : KeepBut e w w := ⟨Nat.le_refl _, fun _ _ _ _ _ h => h⟩
theorem KeepBut.trans {e : TypeId} {a b c : World} (h : KeepBut e a b) (h' : KeepBut e b c) : KeepBut e a c := ⟨Nat.le_trans h.1 h'.1, fun k cs t fz ht hk => h'.2 k cs t fz ht (h.2 k cs t fz ht hk)⟩
theorem KeepBut.of_below {e : TypeId} {a b : World} (h : Below a.heap.size a b) : KeepBut e a b := ⟨h.size, fun k cs t fz _ hk => (h.block k (Array.getElem?_eq_some_iff.1 hk).1).trans hk⟩
theorem KeepBut.of_wrote {e : TypeId} {a b : World} {g : Nat} {cs : Array Value} (h : Wrote g a b) (hb : Blk a g e cs) : KeepBut e a b := ⟨h.grown.size, fun k cs' t fz ht hk => by
  refine (h.grown.block k (Array.getElem?_eq_some_iff.1 hk).1 (fun hg => ?_)).trans hk
  injection hg with hg
  subst hg
  unfold Blk at hb
  rw [hb] at hk
  injection hk with hk
  injection hk with h1 h2
  exact ht h2.symm⟩
section
variable {P : Program}
theorem run_append_r {w : World} {t ty e : TypeId} {size bytes : Nat} (T : SlT P t e size bytes) {base n c : Nat} {A : Option Addr} {xs : List Value} (hown : OwnR w base e size A c n xs)
    {Ad : Option Addr} {m cx : Nat} {news : List Value} (hl : news.length = m * size) (hnews : ∀ j u, news[j]? = some u → ∃ ad, Ad = some ad ∧ w.cell? (ad.add j) = some u) (h1 : ∀ u ∈ news, u.oneCell' = true)
    (h63 : n + m ≤ maxLen) (hbytes : (n + m) * bytes ≤ 140737488355328) (hbase : base ≤ w.heap.size) :
    ∃ A' c' w', (Builtin.append_ #[t, t] ty #[.slice A n c, .slice Ad m cx]).run P w = .ok (.slice A' (n + m) c') w' ∧ OwnR w' base e size A' c' (n + m) (xs ++ news) ∧ w.grownBy w' (Value.slice A n c).ownBlock ∧ Next w (.slice A n c) (.slice A' (n + m) c') := by
  obtain ⟨i, z, hi, hz, hsz, hby, hzs⟩ := T.info
  by_cases hm : m = 0
  · subst hm
    have hnn : news = [] := List.eq_nil_of_length_eq_zero (by simpa using hl)
    subst hnn
    have hcap := hown.cap
    refine ⟨A, c, w, ?_, by simpa using hown, World.grownBy.refl _ _, .inl rfl⟩
    rcases hown.2 with ⟨h1, h2⟩ | ⟨g, cap, cur, h1, h2, h3, h4, h5, h6, h7⟩
    · injection h1 with e1 e2 e3
      subst e1 e2 e3
      cases Ad <;> simp [Builtin.append_, run_underlying T.und, sizeOf, typeInfo, hi, Builtin.lenOf, Builtin.firstCells, loadCells, loadCellsFrom]
    · injection h1 with e1 e2 e3
      subst e1 e3
      cases Ad <;> simp [Builtin.append_, run_underlying T.und, sizeOf, typeInfo, hi, Builtin.lenOf, Builtin.firstCells, loadCells, loadCellsFrom, hcap, storeCells]
  · have hpos : 0 < news.length := by rw [hl]; exact Nat.mul_pos (by omega) T.pos
    obtain ⟨ad, rfl, _⟩ := hnews 0 _ (List.getElem?_eq_getElem hpos)
    have hcells : ∀ j u, news[j]? = some u → w.cell? (ad.add j) = some u := fun j u hu => by
      obtain ⟨ad', he, hc⟩ := hnews j u hu
      injection he with he
      subst he
      exact hc
    obtain ⟨v', w', hr, h2, h3, _, h5⟩ := run_append_own_at (P := P) w base t ty e i z size bytes T.und hi hz hsz hby hzs T.pos (.slice A n c) n xs hown ad m cx news hl hcells h1 h63 hbytes hbase
    have hn : Next w (.slice A n c) v' := by
      rcases h5 with h5 | h5
      · exact .inl h5
      · exact .inr fun k hk => by rw [h5] at hk; simp at hk; omega
    have hv : ∃ A' c', v' = .slice A' (n + m) c' := by
      rcases h2.2 with ⟨_, h0⟩ | ⟨g, cap, cur, rfl, _⟩
      · omega
      · exact ⟨_, _, rfl⟩
    obtain ⟨A', c', rfl⟩ := hv
    exact ⟨A', c', w', hr, h2, h3, hn⟩
theorem wpList_append_r {w : World} {ops : Array Oper} {rest : List Oper} {o : Oper} {a : Act} {Q : Exit → Act → World → Prop} {sl x : Operand} {t e : TypeId} {size bytes : Nat} (T : SlT P t e size bytes)
    (hgd : o.guard = none) (ho : o.op = .call { callee := .builtin .append, args := #[sl, x], argTypes := #[t, t] })
    {base n c B : Nat} {A : Option Addr} {xs : List Value} {Ad : Option Addr} {m cx : Nat} {news : List Value} (hown : OwnR w base e size A c n xs) (hs : a.eval sl = .slice A n c) (hx : a.eval x = .slice Ad m cx)
    (hl : news.length = m * size) (hr : Rd w B Ad news) (h1 : ∀ u ∈ news, u.oneCell' = true)
    (h63 : n + m ≤ maxLen) (hbytes : (n + m) * bytes ≤ 140737488355328) (hbase : base ≤ w.heap.size)
    (h : ∀ A' c' w', OwnR w' base e size A' c' (n + m) (xs ++ news) → w.grownBy w' (Value.slice A n c).ownBlock → Next w (.slice A n c) (.slice A' (n + m) c') → wpList P ops Q rest (a.put o.dst (.slice A' (n + m) c')) w') :
    wpList P ops Q (o :: rest) a w := by
  obtain ⟨A', c', w', hrun, h2, h3, h4⟩ := run_append_r (ty := o.type) (cx := cx) T hown hl (fun j u hu => by
    obtain ⟨ad, h1, _, h3⟩ := hr j u hu
    exact ⟨ad, h1, h3⟩) h1 h63 hbytes hbase
  refine wpList_of_append (R := fun v' w1 => v' = .slice A' (n + m) c' ∧ w1 = w') hgd ho hs hx ⟨_, _, hrun, rfl, rfl⟩ ?_
  rintro v' w1 ⟨rfl, rfl⟩
  exact h _ _ _ h2 h3 h4
theorem wpList_append_r1 {w0 : World} {ys : List Value} {ops : Array Oper} {rest : List Oper} {o : Oper} {a : Act} {Q : Exit → Act → World → Prop} {s x : Operand} {t e : TypeId} {size bytes : Nat} (T : SlT P t e size bytes)
    (hgd : o.guard = none) (ho : o.op = .call { callee := .builtin .append, args := #[s, x], argTypes := #[t, t] })
    {base n c ad : Nat} {A : Option Addr} {xs : List Value} (hown : OwnR w0 base e size A c n xs) (hs : a.eval s = .slice A n c) (hx : a.eval x = .slice (some ⟨ad, 0, none⟩) 1 1) (had : ad = w0.heap.size) (hm : ys.length = size)
    (hy : ∀ u ∈ ys, u.oneCell' = true)
    (h63 : n + 1 ≤ maxLen) (hbytes : (n + 1) * bytes ≤ 140737488355328) (hbase : base ≤ w0.heap.size)
    (h : ∀ A' c' w', OwnR w' base e size A' c' (n + 1) (xs ++ ys) → w0.grownBy w' (Value.slice A n c).ownBlock → Next w0 (.slice A n c) (.slice A' (n + 1) c') → wpList P ops Q rest (a.put o.dst (.slice A' (n + 1) c')) w') :
    wpList P ops Q (o :: rest) a (w0.alloc (.cells ys.toArray e)) := by
  subst had
  obtain ⟨A', c', w', hrun, h2, h3, h4⟩ := run_append_r (ty := o.type) (cx := 1) (Ad := some ⟨w0.heap.size, 0, none⟩) T (hown.alloc (.cells ys.toArray e)) (news := ys) (m := 1) (by omega) (fun j u hu => ⟨_, rfl, by
    have hadd : (⟨w0.heap.size, 0, none⟩ : Addr).add j = ⟨w0.heap.size, j, none⟩ := by unfold Addr.add; split <;> simp_all
    rw [hadd, cell_of_row _ _ _ _ _ (0, 0) (heap_alloc_new w0 _)]
    simpa using hu⟩) hy h63 hbytes (by simp; omega)
  refine wpList_of_append (R := fun v' w1 => v' = .slice A' (n + 1) c' ∧ w1 = w') hgd ho hs hx ⟨_, _, hrun, rfl, rfl⟩ ?_
  rintro v' w1 ⟨rfl, rfl⟩
  exact h _ _ _ h2 ((World.grownBy_alloc w0 _ _).trans h3) (h4.back (by simp))
end
end Go.Proofs.YtilhhigdegccgaaDoor
