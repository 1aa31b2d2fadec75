/-
  Joined texts: R9e Part.
-/
import Derived.Laws.CopyRow
import Derived.Laws.Unary
import Derived.Laws.Bits64
import Derived.Laws.BitsLemmas
import Derived.Test.YtilhhigdegccgaaDoorJ4
import Derived.Test.YtilhhigdegccgaaDoorJ1
/-
  Walk: the reference's Set. (Printed by gen/set9.py.)
-/
namespace Go.Proofs.YtilhhigdegccgaaDoor
set_option linter.unusedSimpArgs false
set_option linter.unusedVariables false
open Go.RowKit
theorem toList_nil9 : (⟨#[]⟩ : ByteArray).toList = [] := by rw [toList_eq]
theorem below_drewN9 {B : Nat} {a w : World} (h : Below B a w) (n : Nat) : Below B a (w.drewN n) := ⟨h.os, h.tape, h.output, h.size, h.block⟩
theorem bl_irr : ∀ x : List UInt8, Op.bytesLess x x = false
  | [] => rfl
  | a :: x => by simp [Op.bytesLess, bl_irr x]
theorem bl_trans : ∀ x y z : List UInt8, Op.bytesLess x y = true → Op.bytesLess y z = true → Op.bytesLess x z = true
  | x, [], z, h1, h2 => by cases x <;> simp [Op.bytesLess] at h1
  | [], b :: y, [], h1, h2 => by simp [Op.bytesLess] at h2
  | [], b :: y, c :: z, h1, h2 => by simp [Op.bytesLess]
  | a :: x, b :: y, [], h1, h2 => by simp [Op.bytesLess] at h2
  | a :: x, b :: y, c :: z, h1, h2 => by
    simp only [Op.bytesLess, Bool.or_eq_true, decide_eq_true_eq, Bool.and_eq_true, beq_iff_eq] at h1 h2 ⊢
    rcases h1 with h1 | ⟨rfl, h1⟩
    · rcases h2 with h2 | ⟨rfl, h2⟩
      · exact .inl (UInt8.lt_trans h1 h2)
      · exact .inl h1
    · rcases h2 with h2 | ⟨rfl, h2⟩
      · exact .inl h2
      · exact .inr ⟨rfl, bl_trans x y z h1 h2⟩
theorem bl_conn : ∀ x y : List UInt8, Op.bytesLess x y = false → x ≠ y → Op.bytesLess y x = true
  | [], [], _, h => absurd rfl h
  | [], b :: y, h, _ => by simp [Op.bytesLess] at h
  | a :: x, [], _, _ => by simp [Op.bytesLess]
  | a :: x, b :: y, h1, h2 => by
    simp only [Op.bytesLess, Bool.or_eq_false_iff, decide_eq_false_iff_not, Bool.and_eq_false_iff, beq_eq_false_iff_ne] at h1
    simp only [Op.bytesLess, Bool.or_eq_true, decide_eq_true_eq, Bool.and_eq_true, beq_iff_eq]
    obtain ⟨h3, h4⟩ := h1
    by_cases e : a = b
    · subst e
      refine .inr ⟨rfl, bl_conn x y ?_ (fun e => h2 (by rw [e]))⟩
      rcases h4 with h4 | h4
      · exact absurd rfl h4
      · exact h4
    · left
      rw [UInt8.lt_iff_toNat_lt] at h3 ⊢
      have : a.toNat ≠ b.toNat := fun h => e (UInt8.toNat_inj.1 h)
      omega
def gtS (a b : ByteArray) : Bool := Op.bytesLess b.toList a.toList
theorem gtS_of {a b : ByteArray} (h : (!(Op.bytesLess a.toList b.toList || a.toList == b.toList)) = true) : gtS a b = true := by
  simp only [Bool.not_eq_true', Bool.or_eq_false_iff, beq_eq_false_iff_ne] at h
  exact bl_conn _ _ h.1 h.2
def cntS (l xs : List ByteArray) : Nat := match xs.getLast? with | none => l.length | some z => (l.filter fun x => gtS x z).length
theorem cntS_step {l xs : List ByteArray} {b : ByteArray} (hb : b ∈ l) (h : ∀ z, xs.getLast? = some z → gtS b z = true) : cntS l (xs ++ [b]) < cntS l xs := by
  have key : ∀ (p q : ByteArray → Bool) (l : List ByteArray), (∀ x, q x = true → p x = true) → b ∈ l → p b = true → q b = false → (l.filter q).length < (l.filter p).length := by
    intro p q l hpq
    induction l with
    | nil => intro h; cases h
    | cons x r ih =>
      intro hm hp hq
      have hle : (r.filter q).length ≤ (r.filter p).length := by
        clear ih hm
        induction r with
        | nil => simp
        | cons y r ih2 =>
          by_cases h1 : q y = true
          · simp [List.filter_cons, h1, hpq y h1]; omega
          · by_cases h2 : p y = true <;> simp [List.filter_cons, h1, h2] <;> omega
      by_cases e : x = b
      · subst e
        simp [List.filter_cons, hp, hq]
        omega
      · have hm' : b ∈ r := by
          rcases List.mem_cons.1 hm with h | h
          · exact absurd h.symm e
          · exact h
        have := ih hm' hp hq
        by_cases h1 : q x = true
        · simp [List.filter_cons, h1, hpq x h1]; omega
        · by_cases h2 : p x = true <;> simp [List.filter_cons, h1, h2] <;> omega
  have irr : gtS b b = false := bl_irr _
  simp only [cntS, List.getLast?_append, List.getLast?_singleton, Option.some_or]
  cases hz : xs.getLast? with
  | none =>
    have := key (fun _ => true) (fun x => gtS x b) l (fun _ _ => rfl) hb rfl irr
    rw [show List.filter (fun _ => true) l = l from List.filter_eq_self.2 (fun _ _ => rfl)] at this
    exact this
  | some z => exact key (fun x => gtS x z) (fun x => gtS x b) l (fun x hx => bl_trans _ _ _ (h z hz) hx) hb (h z hz) irr
def SetIn (l xs : List ByteArray) (bst : ByteArray) : Prop := bst.toList = [] ∨ (bst ∈ l ∧ ∀ z, xs.getLast? = some z → gtS bst z = true)
def SetPost (w : World) (e : Ending) (w' : World) : Prop := ∃ A c, ∃ xs : List ByteArray, ∃ f : Int, e = .returned (.tuple #[.slice A xs.length c, .int .i64 f]) ∧ xs.length ≤ 1000 ∧ xs.length ≤ c ∧ Row w' w'.heap.size 9 A (rowsV strCell xs) ∧ Below w.heap.size w w'
set_option maxRecDepth 100000 in
set_option maxHeartbeats 4000000 in
theorem set9_any (l : List ByteArray) (hl : l.length ≤ 1000) (hs : ∀ s ∈ l, s.size ≤ 1000) (A : Option Addr) (c : Nat) (w : World) (hr : Rd w w.heap.size A (l.map Value.string)) : Calls Tryd.prog 52 #[.slice A l.length c] w (SetPost w) := by
  have hl' : (l.length : Int) ≤ 1000 := by omega
  have HS := Lib.hid hs
  clear hs
  go_enter Tryd.func52, Tryd.ntmps52
  go_wp2_with fail
  go_loop [4] (fun i => ∃ k : Nat, k ≤ l.length ∧ i = .int .i64 (k : Int)) (fun i => l.length - (intOf i).toNat)
  case atStart => exact ⟨0, by omega, rfl⟩
  case round =>
    obtain ⟨k, hk, rfl⟩ := hrel
    by_cases hlt : k < l.length
    · obtain ⟨ad, rfl, _, hc⟩ := hr.at_ (k := k) (by simpa using hlt)
      simp only [List.getElem_map] at hc
      have hk2 : (k : Int) < (l.length : Int) := by omega
      have CS := Lib.hid (selector9_any l[k] (HS.out _ (List.getElem_mem hlt)) w)
      go_wp2_with fail
      refine calls_then CS.out ?_
      rintro e w' ⟨⟨b, rfl⟩, rfl⟩
      cases b with
      | true =>
        go_wp2_with fail
        go_round
        case rel => exact ⟨k + 1, by omega, by go_num⟩
        case measure => simp [intOf]; omega
      | false =>
        go_wp2_with fail
        go_ret2
        exact ⟨none, 0, [], 13, rfl, by simp, by simp, Row.nil _ _ _ _, Below.refl _ _⟩
    · obtain rfl : k = l.length := by omega
      go_wp2_with fail
      go_loopw [6] (fun out wr => ∃ (A1 : Option Addr) (c1 : Nat) (xs : List ByteArray), out = .slice A1 xs.length c1 ∧ OwnR wr w.heap.size 9 1 A1 c1 xs.length (rowsV strCell xs) ∧ Below w.heap.size w wr ∧ xs.length + cntS l xs ≤ l.length) (fun out _ => match out with | .slice _ n _ => l.length - n | _ => 0)
      case atStart => exact ⟨none, 0, [], rfl, OwnR.nil _ _ _ _, Below.refl _ _, by simp [cntS]⟩
      case round =>
        obtain ⟨A1, c1, xs, rfl, hown, hbel, hx⟩ := hrel
        have hxl : xs.length ≤ l.length := by omega
        have hxl' : (xs.length : Int) ≤ 1000 := by omega
        have HX := Lib.hid hx
        have HOWN := Lib.hid hown
        have HBEL := Lib.hid hbel
        clear hx hown hbel
        go_wp2_with fail
        go_loopw [7, 8] (fun b i wq => ∃ (k : Nat) (bst : ByteArray) (nd : Nat), k ≤ l.length ∧ i = .int .i64 (k : Int) ∧ b = .string bst ∧ wq = wr.drewN nd ∧ SetIn l xs bst) (fun _ i _ => l.length - (intOf i).toNat)
        case atStart => exact ⟨0, ⟨#[]⟩, 0, by omega, rfl, rfl, rfl, .inl toList_nil9⟩
        case round =>
          obtain ⟨k, bst, nd, hk, rfl, rfl, rfl, hin⟩ := hrel
          have HIN := Lib.hid hin
          clear hin
          by_cases hlt : k < l.length
          · obtain ⟨ad, rfl, hadb, hc0⟩ := hr.at_ (k := k) (by simpa using hlt)
            simp only [List.getElem_map] at hc0
            obtain ⟨x, hx⟩ : ∃ x, x = l[k] := ⟨_, rfl⟩
            rw [← hx] at hc0
            have HXL := Lib.hid (show x ∈ l by rw [hx]; exact List.getElem_mem hlt)
            have hc : wr.cell? (ad.add k) = some (.string x) := by rw [HBEL.out.cell (p := ad.add k) (by rw [block_of_add]; exact hadb)]; exact hc0
            have hk1 : (0 : Int) ≤ (k : Int) := by omega
            have hk2 : (k : Int) < (l.length : Int) := by omega
            clear hc0 hx
            by_cases hemp : xs = []
            · have HGT := Lib.hid (show ∀ z, xs.getLast? = some z → gtS x z = true from fun z hz => by rw [hemp] at hz; cases hz)
              have z1 : ((xs.length : Int) == 0) = true := by simp [hemp]
              have z2 : xs.length = 0 := by simp [hemp]
              clear hemp
              by_cases he : bst.toList = []
              · have e1 : (bst.toList == []) = true := by simpa using he
                have e2 : bst.toList.isEmpty = true := by simp [he]
                have e3 : (bst.toList == (⟨#[]⟩ : ByteArray).toList) = true := by rw [he, toList_nil9]; rfl
                go_wp2_with fail
                go_quiet (fail)
                go_wp2_with fail
                go_roundw
                case rel => exact ⟨k + 1, x, _, hlt, by go_num, rfl, rfl, .inr ⟨HXL.out, HGT.out⟩⟩
                case measure => simp [intOf]; omega
              · have e1 : (bst.toList == []) = false := by simpa using he
                have e2 : bst.toList.isEmpty = false := by simpa using he
                have e3 : (bst.toList == (⟨#[]⟩ : ByteArray).toList) = false := by rw [toList_nil9]; exact e1
                by_cases hlss : Op.bytesLess x.toList bst.toList = true
                ·
                  go_wp2_with fail
                  go_quiet (fail)
                  go_wp2_with fail
                  go_roundw
                  case rel => exact ⟨k + 1, x, _, hlt, by go_num, rfl, rfl, .inr ⟨HXL.out, HGT.out⟩⟩
                  case measure => simp [intOf]; omega
                · have hlss' : Op.bytesLess x.toList bst.toList = false := by simpa using hlss
                  go_wp2_with fail
                  go_quiet (fail)
                  go_wp2_with fail
                  go_roundw
                  case rel => exact ⟨k + 1, bst, _, hlt, by go_num, rfl, rfl, HIN.out⟩
                  case measure => simp [intOf]; omega
            · have hpos : 0 < xs.length := List.length_pos_iff.2 hemp
              have z1 : ((xs.length : Int) == 0) = false := by simp; omega
              have z2 : ¬ (xs.length : Int) = 0 := by omega
              have z3 : (0 : Int) ≤ (xs.length : Int) - 1 := by omega
              have z4 : (1 : Int) ≤ (xs.length : Int) := by omega
              have z5 : ((xs.length : Int) - 1).toNat = xs.length - 1 := by omega
              obtain ⟨z, hz⟩ : ∃ z, xs.getLast? = some z := ⟨xs.getLast hemp, List.getLast?_eq_some_getLast hemp⟩
              obtain ⟨ad2, rfl, _, hcz⟩ := (HOWN.out.row.rd).at_ (k := xs.length - 1) (by rw [rowsV_str]; simp; omega)
              simp only [rowsV_str, List.getElem_map] at hcz
              have hzz : xs[xs.length - 1] = z := by rw [List.getLast?_eq_getElem?] at hz; exact (List.getElem?_eq_some_iff.1 hz).2
              rw [hzz] at hcz
              by_cases hg : (!(Op.bytesLess x.toList z.toList || x.toList == z.toList)) = true
              · have HGT := Lib.hid (show ∀ z', xs.getLast? = some z' → gtS x z' = true from fun z' hz' => by rw [hz] at hz'; injection hz' with e; subst e; exact gtS_of hg)
                clear hzz hz hemp
                by_cases he : bst.toList = []
                · have e1 : (bst.toList == []) = true := by simpa using he
                  have e2 : bst.toList.isEmpty = true := by simp [he]
                  have e3 : (bst.toList == (⟨#[]⟩ : ByteArray).toList) = true := by rw [he, toList_nil9]; rfl
                  go_wp2_with fail
                  go_quiet (fail)
                  go_wp2_with fail
                  go_roundw
                  case rel => exact ⟨k + 1, x, _, hlt, by go_num, rfl, rfl, .inr ⟨HXL.out, HGT.out⟩⟩
                  case measure => simp [intOf]; omega
                · have e1 : (bst.toList == []) = false := by simpa using he
                  have e2 : bst.toList.isEmpty = false := by simpa using he
                  have e3 : (bst.toList == (⟨#[]⟩ : ByteArray).toList) = false := by rw [toList_nil9]; exact e1
                  by_cases hlss : Op.bytesLess x.toList bst.toList = true
                  ·
                    go_wp2_with fail
                    go_quiet (fail)
                    go_wp2_with fail
                    go_roundw
                    case rel => exact ⟨k + 1, x, _, hlt, by go_num, rfl, rfl, .inr ⟨HXL.out, HGT.out⟩⟩
                    case measure => simp [intOf]; omega
                  · have hlss' : Op.bytesLess x.toList bst.toList = false := by simpa using hlss
                    go_wp2_with fail
                    go_quiet (fail)
                    go_wp2_with fail
                    go_roundw
                    case rel => exact ⟨k + 1, bst, _, hlt, by go_num, rfl, rfl, HIN.out⟩
                    case measure => simp [intOf]; omega
              · have hg' : (!(Op.bytesLess x.toList z.toList || x.toList == z.toList)) = false := by simpa using hg
                clear hzz hz hemp hg
                go_wp2_with fail
                go_quiet (fail)
                go_wp2_with fail
                go_roundw
                case rel => exact ⟨k + 1, bst, _, hlt, by go_num, rfl, rfl, HIN.out⟩
                case measure => simp [intOf]; omega
          · obtain rfl : k = l.length := by omega
            by_cases he : bst.toList = []
            · have e1 : (bst.toList == []) = true := by simpa using he
              have e2 : bst.toList.isEmpty = true := by simp [he]
              by_cases h4 : 4 < xs.length
              · have h4' : (4 : Int) < (xs.length : Int) := by omega
                go_wp2_with fail
                go_ret2
                exact ⟨none, 0, [], 4, rfl, by simp, by simp, Row.nil _ _ _ _, below_drewN9 HBEL.out nd⟩
              · have h4' : ¬ (4 : Int) < (xs.length : Int) := by omega
                go_wp2_with fail
                go_ret2
                exact ⟨A1, c1, xs, 0, rfl, by omega, HOWN.out.cap, HOWN.out.row, below_drewN9 HBEL.out nd⟩
            · have e1 : (bst.toList == []) = false := by simpa using he
              have e2 : bst.toList.isEmpty = false := by simpa using he
              have HB := Lib.hid (show bst ∈ l ∧ ∀ z, xs.getLast? = some z → gtS bst z = true from (HIN.out).resolve_left he)
              have HD := Lib.hid (show OwnR (wr.drewN nd) w.heap.size 9 1 A1 c1 xs.length (rowsV strCell xs) from HOWN.out)
              go_wp2_with (refine wpList_append_r1 (ys := [.string bst]) sl_strz rfl rfl HD.out rfl rfl rfl rfl (by simp [Value.oneCell']) (by unfold maxLen; omega) (by omega) HBEL.out.size ?_; intro A2 c2 w5 hown5 hgr5 hn5)
              have hb5 : Below w.heap.size w w5 := (below_drewN9 HBEL.out nd).grown hgr5 HBEL.out.size (fun j hj => (HOWN.out.lt j hj).1)
              have hst := cntS_step HB.out.1 HB.out.2
              have HST := Lib.hid hst
              have HN5 := Lib.hid hown5
              have HB5 := Lib.hid hb5
              clear hst hown5 hgr5 hn5 hb5
              go_roundw
              case rel => exact ⟨A2, c2, xs ++ [bst], by simp, by rw [rowsV_append, rowsV_one]; simpa [strCell] using HN5.out, HB5.out, by have := HST.out; have := HX.out; simp; omega⟩
              case measure => have := HST.out; have := HX.out; simp; omega
end Go.Proofs.YtilhhigdegccgaaDoor
/-
  A struct or an array that is a part of a block: loaded whole; a cell stored.
-/
namespace Go.Proofs.YtilhhigdegccgaaDoor
set_option linter.unusedSimpArgs false
set_option linter.unusedVariables false
open Go.RowKit
theorem blk_setCell_at {w : World} {g i : Nat} {t : TypeId} {cs : Array Value} (h : Blk w g t cs) (u : Value) : Blk (w.setCell ⟨g, i, none⟩ u) g t (cs.setIfInBounds i u) := by
  unfold Blk at *
  simp only [World.setCell, Array.getElem?_modify, if_pos, h]
  rfl
theorem wrote_setCell_at (w : World) (g i : Nat) (u : Value) : Wrote g w (w.setCell ⟨g, i, none⟩ u) :=
  ⟨⟨rfl, rfl, rfl, by simp [World.setCell], fun k _ hk => Below.heap_setCell _ _ _ _ (by simpa using hk)⟩, by simp [World.setCell]⟩
theorem wrote_trans {g : Nat} {w w1 w2 : World} (h : Wrote g w w1) (h2 : Wrote g w1 w2) : Wrote g w w2 :=
  ⟨⟨h2.grown.os.trans h.grown.os, h2.grown.tape.trans h.grown.tape, h2.grown.output.trans h.grown.output, by rw [h2.size, h.size]; exact Nat.le_refl _, fun k hk hne => (h2.grown.block k (by rw [h.size]; exact hk) hne).trans (h.grown.block k hk hne)⟩, h2.size.trans h.size⟩
theorem rd_drop {w : World} {B : Nat} {ad : Addr} {xs : List Value} (h : Rd w B (some ad) xs) (n : Nat) : Rd w B (some (ad.add n)) (xs.drop n) := fun i u hu => by
  rw [List.getElem?_drop] at hu
  obtain ⟨ad', e, hb, hc⟩ := h _ u hu
  injection e with e
  subst e
  refine ⟨_, rfl, by rw [block_of_add]; exact hb, ?_⟩
  rw [show (ad.add n).add i = ad.add (n + i) from ?_]
  · exact hc
  · unfold Addr.add
    by_cases h1 : n = 0 <;> by_cases h2 : i = 0 <;> simp [h1, h2, Nat.add_assoc]
theorem rd_take {w : World} {B : Nat} {A : Option Addr} {xs : List Value} (h : Rd w B A xs) (n : Nat) : Rd w B A (xs.take n) := fun i u hu => by
  rw [List.getElem?_take] at hu
  split at hu
  · exact h i u hu
  · simp at hu
theorem blk_src {w : World} {g : Nat} {t : TypeId} {cs : Array Value} (h : Blk w g t cs) (n : Nat) : ∀ j v, (cs.toList.take n)[j]? = some v → w.cell? ((⟨g, 0, none⟩ : Addr).add j) = some v := fun j v hv => by
  have hadd : (⟨g, 0, none⟩ : Addr).add j = ⟨g, j, none⟩ := by unfold Addr.add; split <;> simp_all
  rw [hadd, h.cell]
  rw [List.getElem?_take] at hv
  split at hv
  · simpa using hv
  · cases hv
section
variable {P : Program}
theorem run_loadVar_part {w : World} {g o n : Nat} {t ty : TypeId} {cs r : Array Value} {d : TypeDesc} (hg : Blk w g t cs) (ho : o + n ≤ cs.size) (hr : ((cs.toList.drop o).take n).toArray = r)
    (hu : P.underlying ty = some d) (hd : (match d with | .struct _ | .array _ _ => true | _ => false) = true) (hi : (P.info? ty).map (·.size) = some n) :
    (loadVar ty ⟨g, o, none⟩).run P w = .ok (.agg r) w := by
  subst hr
  have hlen : ((cs.toList.drop o).take n).length = n := by simp; omega
  have hl : (loadCells ⟨g, o, none⟩ ((cs.toList.drop o).take n).length).run P w = .ok ((cs.toList.drop o).take n).toArray w :=
    run_loadCells_list (P := P) w ⟨g, o, none⟩ ((cs.toList.drop o).take n) (fun j v hv => by
      have hadd : (⟨g, o, none⟩ : Addr).add j = ⟨g, o + j, none⟩ := by unfold Addr.add; split <;> simp_all
      rw [hadd, hg.cell]
      rw [List.getElem?_take] at hv
      split at hv
      · rw [List.getElem?_drop] at hv
        simpa using hv
      · cases hv)
  rw [hlen] at hl
  cases hq : P.info? ty with
  | none => simp [hq] at hi
  | some i =>
    have hs : i.size = n := by simpa [hq] using hi
    have hagg : (isAgg ty).run P w = .ok true w := by
      unfold isAgg
      rw [Sem.run_bind, run_underlying hu w]
      cases d <;> simp_all
    simp [loadVar, Sem.run_bind, hagg, sizeOf, typeInfo, hq, hs, hl]
theorem wpList_get_part {w : World} {ops : Array Oper} {rest : List Oper} {o : Oper} {a : Act} {Q : Exit → Act → World → Prop} {ty : TypeId} {x : Operand} {g k n : Nat} {cs r : Array Value} {t : TypeId} {d : TypeDesc}
    (hg : Blk w g t cs) (hk : k + n ≤ cs.size) (hr : ((cs.toList.drop k).take n).toArray = r) (hgd : o.guard = none) (ho : o.op = .load ty x) (hx : a.eval x = .pointer (some ⟨g, k, none⟩))
    (hu : P.underlying ty = some d) (hd : (match d with | .struct _ | .array _ _ => true | _ => false) = true) (hi : (P.info? ty).map (·.size) = some n)
    (h : wpList P ops Q rest (a.put o.dst (.agg r)) w) : wpList P ops Q (o :: rest) a w := by
  refine wpList_plain hgd fun K hK => ?_
  have hrun := run_loadVar_part (P := P) hg hk hr hu hd hi
  unfold Oper.wp execOp
  simp only [ho, hx, Instr.loadAt, Instr.sureAddr, Sem.run_bind, Sem.run_pure, Result.andThen_ok, hrun]
  exact hK _ _ h
theorem wpList_copy_blk {w : World} {ops : Array Oper} {rest : List Oper} {o : Oper} {a : Act} {Q : Exit → Act → World → Prop} {d s : Operand} {dT sT elem t : TypeId} {g off dLen dCap sLen sCap : Nat} {ad : Addr} {cur new : Array Value} (cs : List Value)
    (hg : Blk w g t cur) (hgd : o.guard = none) (ho : o.op = .call { callee := .builtin .copy, args := #[d, s], argTypes := #[dT, sT] }) (hu : P.underlying dT = some (.slice elem)) (hsz : (P.info? elem).map (·.size) = some 1)
    (hd : a.eval d = .slice (some ⟨g, off, none⟩) dLen dCap) (hs : a.eval s = .slice (some ad) sLen sCap) (hn : cs.length = Nat.min sLen dLen)
    (hsrc : ∀ j v, cs[j]? = some v → w.cell? (ad.add j) = some v) (hfit : off + cs.length ≤ cur.size) (h1 : ∀ v ∈ cs, v.oneCell' = true)
    (hnew : (cur.toList.take off ++ cs ++ cur.toList.drop (off + cs.length)).toArray = new)
    (h : ∀ w', Blk w' g t new → Wrote g w w' → wpList P ops Q rest (a.put o.dst (goInt cs.length)) w') : wpList P ops Q (o :: rest) a w := by
  refine wpList_plain hgd fun K hK => ?_
  have hr := run_copy_row (P := P) w dT sT o.type elem g off dLen dCap ad sLen sCap cur t cs hu hsz hg hn hsrc hfit h1
  rw [hnew] at hr
  unfold Oper.wp execOp
  simp only [ho, resolve, invoke, builtin, Sem.run_bind, Sem.run_pure, Result.andThen_ok, List.map_toArray, List.map_cons, List.map_nil, hs, hd, hr]
  exact hK _ _ (h _ (setRow_heap w g cur _ t (0, 0) hg) (wrote_setRow w g _))
theorem run_not32 {w : World} (e : Nat) (he : e < 4294967296) : (Op.unary .xor (.int .u32 (e : Int))).run P w = .ok (.int .u32 ((4294967295 - e : Nat) : Int)) w := by
  have h1 : BitVec.ofInt 32 (4294967295 : Int) = BitVec.allOnes 32 := by decide
  have h : bits .xor .u32 (4294967295 : Int) (e : Int) = ((4294967295 - e : Nat) : Int) := by
    show IntKind.u32.wrap ((BitVec.ofInt 32 (4294967295 : Int) ^^^ BitVec.ofInt 32 (e : Int)).toNat : Int) = _
    rw [h1, BitVec.allOnes_xor, BitVec.toNat_not, BitVec.ofInt_natCast, BitVec.toNat_ofNat, Nat.mod_eq_of_lt he, IntKind.wrap_u32]
    omega
  have hm : IntKind.u32.max = 4294967295 := by decide
  rw [unary_xor]
  simp only [IntKind.signed, hm, Bool.false_eq_true, if_false]
  rw [← h]
  rfl
theorem run_not64 {w : World} (e : Nat) (he : e < 18446744073709551616) : (Op.unary .xor (.int .u64 (e : Int))).run P w = .ok (.int .u64 ((18446744073709551615 - e : Nat) : Int)) w := by
  have h1 : BitVec.ofInt 64 (18446744073709551615 : Int) = BitVec.allOnes 64 := by decide
  have h : bits .xor .u64 (18446744073709551615 : Int) (e : Int) = ((18446744073709551615 - e : Nat) : Int) := by
    show IntKind.u64.wrap ((BitVec.ofInt 64 (18446744073709551615 : Int) ^^^ BitVec.ofInt 64 (e : Int)).toNat : Int) = _
    rw [h1, BitVec.allOnes_xor, BitVec.toNat_not, BitVec.ofInt_natCast, BitVec.toNat_ofNat, Nat.mod_eq_of_lt he, IntKind.wrap_u64]
    omega
  have hm : IntKind.u64.max = 18446744073709551615 := by decide
  rw [unary_xor]
  simp only [IntKind.signed, hm, Bool.false_eq_true, if_false]
  rw [← h]
  rfl
theorem wpList_unary {w : World} {ops : Array Oper} {rest : List Oper} {o : Oper} {a : Act} {Q : Exit → Act → World → Prop} {u : UnOp} {ty : TypeId} {x : Operand} {v r : Value}
    (hr : (Op.unary u v).run P w = .ok r w) (hgd : o.guard = none) (ho : o.op = .unOp u ty x) (hx : a.eval x = v) (h : wpList P ops Q rest (a.put o.dst r) w) : wpList P ops Q (o :: rest) a w := by
  refine wpList_plain hgd fun K hK => ?_
  unfold Oper.wp execOp
  simp only [ho, hx, Sem.run_bind, Sem.run_pure, Result.andThen_ok, hr]
  exact hK _ _ h
theorem run_index_array {w : World} {t e : TypeId} {n : Nat} {cs : Array Value} {k : Nat} {v : Value} (h : P.underlying t = some (.array n e)) (hk : k < n) (hv : cs[k]? = some v) (hs : (P.info? e).map (·.size) = some 1)
    (hag : (match P.underlying e with | some (.struct _) | some (.array _ _) => true | _ => false) = false) (hu : ∃ d, P.underlying e = some d) : (Instr.index t (.agg cs) (.int .i64 (k : Int))).run P w = .ok v w := by
  obtain ⟨d, hd⟩ := hu
  have h0 : (0 : Int) ≤ (k : Int) ∧ (k : Int) < (n : Int) := by omega
  cases hq : P.info? e with
  | none => simp [hq] at hs
  | some j =>
    have hj : j.size = 1 := by simpa [hq] using hs
    have hagg : (isAgg e).run P w = .ok false w := by
      unfold isAgg
      rw [Sem.run_bind, run_underlying hd w]
      rw [hd] at hag
      cases d <;> simp_all
    simp [Instr.index, run_underlying h, asIntOf, h0, sizeOf, typeInfo, hq, hj, part, hagg, hv, go_sem]
    intro hle
    omega
end
end Go.Proofs.YtilhhigdegccgaaDoor
