/-
  Joined texts: Ky2 Jn2 Lsb Nm2 Lsu Mps Jmy Jky.
-/
import Derived.Test.YtilhhigdegccgaaDoorProg
import Derived.MapKept
import Derived.Deep.QuietTactic
import Derived.BigQuiet
import Derived.Laws.Runes
import Derived.Deep.DeepCutAuto
import Derived.Test.YtilhhigdegccgaaDoorJ29
import Derived.Test.YtilhhigdegccgaaDoorJ5
import Derived.Test.YtilhhigdegccgaaDoorJ6
import Derived.Test.YtilhhigdegccgaaDoorJ1
import Derived.Test.YtilhhigdegccgaaDoorJ26
import Derived.Test.YtilhhigdegccgaaDoorJ11
import Derived.Test.YtilhhigdegccgaaDoorJ8
import Derived.Test.YtilhhigdegccgaaDoorJ2
/-
  Walk: brevetref15.keys (OpPrepare, OpActive, OpDrop). (Printed by gen/ky20.py.)
-/
namespace Go.Proofs.YtilhhigdegccgaaDoor
set_option linter.unusedSimpArgs false
set_option linter.unusedVariables false
open Go.RowKit
theorem opC_key (o : OpD) : (((opC o).toList.drop 17).take 4).toArray = skeyCells o.key := rfl
theorem box_neK {u : World} {g g' : Nat} {t t' : TypeId} {cs cs' : Array Value} (h : Blk u g t cs) (h' : Blk u g' t' cs') (ht : t ≠ t') : g ≠ g' := fun he => by
  subst he
  unfold Blk at h h'
  rw [h] at h'
  injection h' with h'
  injection h' with _ h' _
  exact ht h'
end Go.Proofs.YtilhhigdegccgaaDoor
/-
  Walk: brevetref15.joins (OpToken, OpJoin).
-/
namespace Go.Proofs.YtilhhigdegccgaaDoor
set_option linter.unusedSimpArgs false
set_option linter.unusedVariables false
open Go.RowKit
theorem opC_join (o : OpD) : (((opC o).toList.drop 8).take 4).toArray = joinCells o.join := rfl
theorem opC_node (o : OpD) : (((opC o).toList.drop 12).take 5).toArray = nodeCells o.node := rfl
theorem LW.join_add {u u' v : World} {base g K : Nat} {d : LedD} {k : JoinD} {A' : Option Addr} {c' : Nat} (h : LW u base g K d) (ho : OwnR u' base 38 4 A' c' (d.joins.l.length + 1) (rowsV joinCells d.joins.l ++ (joinCells k).toList))
    (hg : u.grownBy u' (Value.slice d.joins.A d.joins.l.length d.joins.c).ownBlock) (hw : Wrote g u' v) (hb : Blk v g 33 ((ledCells d).setIfInBounds 3 (.slice A' (d.joins.l.length + 1) c'))) : LW v base g (K + 1) { d with joins := ⟨A', c', d.joins.l ++ [k]⟩ } := by
  have hk := keepBut_grown h.ll.joins.own hg
  have hl : LL u' base (K + 1) { d with joins := ⟨A', c', d.joins.l ++ [k]⟩ } := (h.ll.more (Nat.le_succ K)).keepJ hk ⟨by
    rw [rowsV_append, rowsV_one, List.length_append]
    exact ho, by have := h.ll.joins.len; show (d.joins.l ++ [k]).length ≤ K + 1; rw [List.length_append, List.length_singleton]; omega⟩
  refine LW.put (h.box.keep hk (by decide)) h.hg hl hw ?_
  unfold ledCells
  have e : (⟨A', c', d.joins.l ++ [k]⟩ : Sl JoinD).v = .slice A' (d.joins.l.length + 1) c' := by
    show Value.slice A' (d.joins.l ++ [k]).length c' = _
    rw [List.length_append]
    rfl
  rw [e]
  exact hb
theorem LW.join_field {u u' : World} {base g K b : Nat} {d : LedD} {s : Sl JoinD} {cs : Array Value} (h : LW u base g K d) (hb : Blk u b 38 cs) (hw : Wrote b u u') (hs : s.Own u' base 38 4 joinCells K) (he : s.v = d.joins.v) : LW u' base g K { d with joins := s } :=
  ⟨by
    have h1 := h.box.keep (KeepBut.of_wrote hw hb) (by decide)
    unfold ledCells at h1 ⊢
    rw [he]
    exact h1, h.hg, h.ll.keepJ (KeepBut.of_wrote hw hb) hs⟩
end Go.Proofs.YtilhhigdegccgaaDoor
/-
  Walk: brevetref15.bans (a list with one in its place, or more). (Printed by gen/lst20.py.)
-/
namespace Go.Proofs.YtilhhigdegccgaaDoor
set_option linter.unusedSimpArgs false
set_option linter.unusedVariables false
open Go.RowKit
set_option maxRecDepth 100000 in
set_option maxHeartbeats 4000000 in
theorem bans15_any (l : List ByteArray) (hl : l.length ≤ 1000) (z : ByteArray) (gone : Bool) (A : Option Addr) (c B : Nat) (w : World) (hr : Rd w B A (rowsV strCell l)) (hB : B ≤ w.heap.size) :
    Calls Tryd.prog 61 #[.slice A l.length c, .string z, .bool gone] w (ListPost 9 1 strCell l z w) := by
  obtain ⟨W0, hW0⟩ : ∃ W0, W0 = w := ⟨_, rfl⟩
  have HB0 := Lib.hid (show Below w.heap.size w W0 by rw [hW0]; exact Below.refl _ _)
  have HW0 := Lib.hid hW0
  obtain ⟨n, hn⟩ : ∃ n, n = l.length := ⟨_, rfl⟩
  have HN := Lib.hid hn
  have HR := Lib.hid (hr.below (HB0.out.mono hB))
  have HBB := Lib.hid (Nat.le_trans hB HB0.out.size)
  have hn' : (n : Int) ≤ 1000 := by omega
  rw [← hn]
  clear hW0 hr hB hl hn
  go_enter Tryd.func61, Tryd.ntmps61
  rw [← HW0.out]
  go_wp2_with fail
  go_loopw [7, 8, 9] (fun out dv i wr => ∃ (k : Nat) (A1 : Option Addr) (c1 : Nat) (xs : List ByteArray) (dn : Bool), k ≤ n ∧ out = .slice A1 xs.length c1 ∧ dv = .bool dn ∧ i = .int .i64 (k : Int) ∧ OwnR wr W0.heap.size 9 1 A1 c1 xs.length (rowsV strCell xs) ∧ Below W0.heap.size W0 wr ∧ xs.length ≤ k + dn.toNat ∧ ∀ x ∈ xs, x ∈ l ∨ x = z) (fun _ _ i _ => n - (intOf i).toNat)
  case atStart => exact ⟨0, none, 0, [], gone, by omega, rfl, rfl, rfl, OwnR.nil _ _ _ _, Below.refl _ _, by simp, fun x hx => by cases hx⟩
  case round =>
    obtain ⟨k, A1, c1, xs, dn, hk, rfl, rfl, rfl, hown, hbel, hlen, hmem⟩ := hrel
    have HOWN := Lib.hid hown
    have HBEL := Lib.hid hbel
    have HLEN := Lib.hid hlen
    have HMEM := Lib.hid hmem
    have hxl : xs.length ≤ 1001 := by have : dn.toNat ≤ 1 := by cases dn <;> simp
                                      omega
    clear hown hbel hlen hmem
    by_cases hlt : k < n
    · have hkl : k < l.length := by rw [← HN.out]; exact hlt
      have hi1 : (0 : Int) ≤ (k : Int) := by omega
      have hi2 : (k : Int) < (n : Int) := by omega
      obtain ⟨ad, hA, hadb, hcell⟩ := rd_rows (f := strCell) (m := 1) (fun _ => rfl) (by decide) HR.out hkl
      subst hA
      obtain ⟨X, hX⟩ : ∃ X, X = l[k] := ⟨_, rfl⟩
      rw [← hX] at hcell
      have HX := Lib.hid (show X ∈ l by rw [hX]; exact List.getElem_mem hkl)
      have HC := Lib.hid (show ∀ u, Below W0.heap.size W0 u → ∀ j v, (strCell X).toList[j]? = some v → u.cell? ((ad.add (k * 1)).add j) = some v from fun u hu j v hv => by
        rw [hu.cell (p := (ad.add (k * 1)).add j) (by rw [block_of_add, block_of_add]; exact Nat.lt_of_lt_of_le hadb HBB.out)]
        exact hcell j v (by simpa using hv))
      have HD := Lib.hid (show ∀ u, Below W0.heap.size W0 u → u.cell? (ad.add k) = some (.string X) ∧ True from fun u hu => ⟨(by have h := HC.out u hu 0 _ rfl; rw [show k * 1 = k from Nat.mul_one k] at h; exact h), trivial⟩)
      obtain ⟨q, hqq⟩ : ∃ q, Op.bytesLess X.toList z.toList = q := ⟨_, rfl⟩
      obtain ⟨r, hrr⟩ : ∃ r, (X.toList == z.toList) = r := ⟨_, rfl⟩
      have HLT := Lib.hid hlt
      clear hX hcell hadb hkl hlt
      go_upto_region 6 with (fail)
      go_cut [26] (fun v wx => (∃ b, v = .bool b ∧ (b = true → dn = false)) ∧ wx = wr)
      case first =>
        obtain ⟨d0, d2⟩ := HD.out wr HBEL.out
        cases dn with
        | true =>
          go_wp2_with fail
          go_meet
          exact ⟨⟨false, rfl, by simp⟩, rfl⟩
        | false =>
          cases q with
          | true =>
            go_wp2_with fail
            go_meet
            exact ⟨⟨false, rfl, by simp⟩, rfl⟩
          | false =>
            go_wp2_with fail
            go_meet
            exact ⟨⟨true, rfl, by simp⟩, rfl⟩
      case rest =>
      obtain ⟨⟨b, rfl, hb⟩, rfl⟩ := hcut
      have HBD := HBEL
      have HOD := HOWN
      have HBF := Lib.hid hb
      clear hb hqq
      go_upto_if 26 with (fail)
      go_cut [7, 8] (fun out dv wx => ∃ (A2 : Option Addr) (c2 : Nat) (ys : List ByteArray) (dn2 : Bool), out = .slice A2 ys.length c2 ∧ dv = .bool dn2 ∧ OwnR wx W0.heap.size 9 1 A2 c2 ys.length (rowsV strCell ys) ∧ Below W0.heap.size W0 wx ∧ ys.length ≤ k + dn2.toNat ∧ ∀ x ∈ ys, x ∈ l ∨ x = z)
      case first =>
        cases b with
        | false =>
          go_wp2_with fail
          go_meet
          exact ⟨A1, c1, xs, dn, rfl, rfl, HOD.out, HBD.out, HLEN.out, HMEM.out⟩
        | true =>
          obtain rfl : dn = false := HBF.out rfl
          go_wp2_with (first
            | (refine wpList_append_r1 (ys := [.string z]) sl_strz rfl rfl HOD.out rfl rfl rfl rfl (by simp [Value.oneCell']) (by unfold maxLen; omega) (by omega) HBD.out.size ?_; intro A5 c5 w5 hown5 hgr5 hn5))
          go_meet
          exact ⟨A5, c5, xs ++ [z], true, by simp, rfl, by rw [rowsV_append, rowsV_one, List.length_append]; exact hown5, HBD.out.grown hgr5 HBD.out.size (fun j hj => (HOD.out.lt j hj).1), by have := HLEN.out; simp at this ⊢; omega, fun x hx => by
            rcases List.mem_append.1 hx with h | h
            · exact HMEM.out x h
            · exact .inr (by simpa using h)⟩
      case rest =>
      obtain ⟨A2, c2, ys, dn2, rfl, rfl, hown2, hbel2, hlen2, hmem2⟩ := hcut
      have HOWN2 := Lib.hid hown2
      have HBEL2 := Lib.hid hbel2
      have HLEN2 := Lib.hid hlen2
      have HMEM2 := Lib.hid hmem2
      have hyl : ys.length ≤ 1001 := by have : dn2.toNat ≤ 1 := by cases dn2 <;> simp
                                        omega
      clear hown2 hbel2 hlen2 hmem2
      obtain ⟨d0, d2⟩ := HD.out _ HBEL2.out
      cases r with
      | true =>
          go_wp2_with fail
          go_roundw
          case rel => exact ⟨k + 1, A2, c2, ys, dn2, HLT.out, rfl, rfl, by go_num, HOWN2.out, HBEL2.out, by have := HLEN2.out; omega, HMEM2.out⟩
          case measure => have := HLT.out; simp [intOf]; omega
      | false =>
          go_wp2_with (first
            | (refine wpList_append_r1 (ys := [.string X]) sl_strz rfl rfl HOWN2.out rfl rfl rfl rfl (by simp [Value.oneCell']) (by unfold maxLen; omega) (by omega) HBEL2.out.size ?_; intro A5 c5 w5 hown5 hgr5 hn5))
          go_roundw
          case rel => exact ⟨k + 1, A5, c5, ys ++ [X], dn2, HLT.out, by simp, rfl, by go_num, by rw [rowsV_append, rowsV_one, List.length_append]; exact hown5, Below.grown HBEL2.out hgr5 (Below.size HBEL2.out) (fun j hj => (HOWN2.out.lt j hj).1), by have := HLEN2.out; simp; omega, fun x hx => by
            rcases List.mem_append.1 hx with h | h
            · exact HMEM2.out x h
            · exact .inl (by have e : x = X := by simpa using h
                             rw [e]; exact HX.out)⟩
          case measure => have := HLT.out; simp [intOf]; omega
    · obtain rfl : k = n := by omega
      clear hlt
      cases dn with
      | true =>
        go_wp2_with fail
        go_ret
        exact ⟨A1, c1, xs, rfl, by have := HLEN.out; have := HN.out; simp at *; omega, HMEM.out, HOWN.out, HBEL.out⟩
      | false =>
        go_wp2_with (first
          | (refine wpList_append_r1 (ys := [.string z]) sl_strz rfl rfl HOWN.out rfl rfl rfl rfl (by simp [Value.oneCell']) (by unfold maxLen; omega) (by omega) HBEL.out.size ?_; intro A5 c5 w5 hown5 hgr5 hn5))
        go_ret
        exact ⟨A5, c5, xs ++ [z], by simp, by have := HLEN.out; have := HN.out; simp at *; omega, fun x hx => by
          rcases List.mem_append.1 hx with h | h
          · exact HMEM.out x h
          · exact .inr (by simpa using h), (by rw [rowsV_append, rowsV_one, List.length_append]; exact hown5), HBEL.out.grown hgr5 HBEL.out.size (fun j hj => (HOWN.out.lt j hj).1)⟩
end Go.Proofs.YtilhhigdegccgaaDoor
/-
  Walk: brevetref15.names (OpBan, OpLift, OpEvict, OpSeq). (Printed by gen/nm20.py.)
-/
namespace Go.Proofs.YtilhhigdegccgaaDoor
set_option linter.unusedSimpArgs false
set_option linter.unusedVariables false
open Go.RowKit
theorem box_ne {u : World} {g g' : Nat} {t t' : TypeId} {cs cs' : Array Value} (h : Blk u g t cs) (h' : Blk u g' t' cs') (ht : t ≠ t') : g ≠ g' := fun he => by
  subst he
  unfold Blk at h h'
  rw [h] at h'
  injection h' with h'
  injection h' with _ h' _
  exact ht h'
theorem LW.bans_put {u u' : World} {base g K : Nat} {d : LedD} {s : Sl ByteArray} (h : LW u base g K d) (hs : s.Own u base 9 1 strCell K) (hw : Wrote g u u') (hb : Blk u' g 33 ((ledCells d).setIfInBounds 2 s.v)) : LW u' base g K { d with bans := s } :=
  LW.put h.box h.hg (h.ll.setBans hs) hw hb
theorem LW.node_field {u u' : World} {base g K b : Nat} {d : LedD} {s : Sl NodeD} {cs : Array Value} (h : LW u base g K d) (hb : Blk u b 40 cs) (hw : Wrote b u u') (hs : s.Own u' base 40 5 nodeCells K) (he : s.v = d.nodes.v) : LW u' base g K { d with nodes := s } :=
  ⟨by
    have h1 := hw.blk h.box (fun he => by
      have h2 := h.box
      subst he
      unfold Blk at hb h2
      rw [h2] at hb
      injection hb with hb
      injection hb with _ hb _
      exact absurd hb (by decide))
    unfold ledCells at h1 ⊢
    rw [he]
    exact h1, h.hg, h.ll.keepN (KeepBut.of_wrote hw hb) hs⟩
end Go.Proofs.YtilhhigdegccgaaDoor
/-
  Walk: brevetref15.bundles (a list with one in its place, or more). (Printed by gen/lst20.py.)
-/
namespace Go.Proofs.YtilhhigdegccgaaDoor
set_option linter.unusedSimpArgs false
set_option linter.unusedVariables false
open Go.RowKit
set_option maxRecDepth 100000 in
set_option maxHeartbeats 4000000 in
theorem bundles15_any (l : List BunD) (hl : l.length ≤ 1000) (z : BunD) (gone : Bool) (A : Option Addr) (c B : Nat) (w : World) (hr : Rd w B A (rowsV bunCells l)) (hB : B ≤ w.heap.size) :
    Calls Tryd.prog 64 #[.slice A l.length c, .agg (bunCells z), .bool gone] w (ListPost 45 3 bunCells l z w) := by
  have hu := Tryd.underlying45
  obtain ⟨W0, hW0⟩ : ∃ W0, W0 = w.alloc (.cells (bunCells z) 45) := ⟨_, rfl⟩
  have HB0 := Lib.hid (show Below w.heap.size w W0 by rw [hW0]; exact (Below.refl _ w).alloc (Nat.le_refl _) _)
  have HK := Lib.hid (show Blk W0 w.heap.size 45 (bunCells z) by rw [hW0]; exact Blk.new _ _ _)
  have HW0 := Lib.hid hW0
  obtain ⟨n, hn⟩ : ∃ n, n = l.length := ⟨_, rfl⟩
  have HN := Lib.hid hn
  have HR := Lib.hid (hr.below (HB0.out.mono hB))
  have HBB := Lib.hid (Nat.le_trans hB HB0.out.size)
  have hn' : (n : Int) ≤ 1000 := by omega
  rw [← hn]
  clear hW0 hr hB hl hn
  go_enter Tryd.func64, Tryd.ntmps64
  go_upto_region 1 with (fail)
  rw [show w.alloc (.cells (bunCells z) 45) = W0 from HW0.out.symm]
  generalize Value.agg (bunCells z) = AV
  go_wp2_with fail
  go_loopw [7, 8, 9] (fun out dv i wr => ∃ (k : Nat) (A1 : Option Addr) (c1 : Nat) (xs : List BunD) (dn : Bool), k ≤ n ∧ out = .slice A1 xs.length c1 ∧ dv = .bool dn ∧ i = .int .i64 (k : Int) ∧ OwnR wr W0.heap.size 45 3 A1 c1 xs.length (rowsV bunCells xs) ∧ Below W0.heap.size W0 wr ∧ xs.length ≤ k + dn.toNat ∧ ∀ x ∈ xs, x ∈ l ∨ x = z) (fun _ _ i _ => n - (intOf i).toNat)
  case atStart => exact ⟨0, none, 0, [], gone, by omega, rfl, rfl, rfl, OwnR.nil _ _ _ _, Below.refl _ _, by simp, fun x hx => by cases hx⟩
  case round =>
    obtain ⟨k, A1, c1, xs, dn, hk, rfl, rfl, rfl, hown, hbel, hlen, hmem⟩ := hrel
    have HOWN := Lib.hid hown
    have HBEL := Lib.hid hbel
    have HLEN := Lib.hid hlen
    have HMEM := Lib.hid hmem
    have hxl : xs.length ≤ 1001 := by have : dn.toNat ≤ 1 := by cases dn <;> simp
                                      omega
    clear hown hbel hlen hmem
    by_cases hlt : k < n
    · have hkl : k < l.length := by rw [← HN.out]; exact hlt
      have hi1 : (0 : Int) ≤ (k : Int) := by omega
      have hi2 : (k : Int) < (n : Int) := by omega
      obtain ⟨ad, hA, hadb, hcell⟩ := rd_rows (f := bunCells) (m := 3) (fun _ => rfl) (by decide) HR.out hkl
      subst hA
      obtain ⟨X, hX⟩ : ∃ X, X = l[k] := ⟨_, rfl⟩
      rw [← hX] at hcell
      have HX := Lib.hid (show X ∈ l by rw [hX]; exact List.getElem_mem hkl)
      have HC := Lib.hid (show ∀ u, Below W0.heap.size W0 u → ∀ j v, (bunCells X).toList[j]? = some v → u.cell? ((ad.add (k * 3)).add j) = some v from fun u hu j v hv => by
        rw [hu.cell (p := (ad.add (k * 3)).add j) (by rw [block_of_add, block_of_add]; exact Nat.lt_of_lt_of_le hadb HBB.out)]
        exact hcell j v (by simpa using hv))
      have HD := Lib.hid (show ∀ u, Below W0.heap.size W0 u → u.cell? (ad.add (k * 3)) = some (.string X.dom) ∧ u.cell? ⟨w.heap.size, 0, none⟩ = some (.string z.dom) from fun u hu => ⟨HC.out u hu 0 _ rfl, (HK.out.below hu HK.out.lt).cell 0⟩)
      obtain ⟨q, hqq⟩ : ∃ q, Op.bytesLess X.dom.toList z.dom.toList = q := ⟨_, rfl⟩
      obtain ⟨r, hrr⟩ : ∃ r, (X.dom.toList == z.dom.toList) = r := ⟨_, rfl⟩
      have HLT := Lib.hid hlt
      clear hX hcell hadb hkl hlt
      go_upto_region 6 with (fail)
      go_cut [28] (fun v wx => (∃ b, v = .bool b ∧ (b = true → dn = false)) ∧ ∃ m, wx = wr.drewN m)
      case first =>
        obtain ⟨d0, d2⟩ := HD.out wr HBEL.out
        cases dn with
        | true =>
          go_wp2_with fail
          go_quiet (fail)
          go_wp2_with fail
          go_meet
          exact ⟨⟨false, rfl, by simp⟩, _, rfl⟩
        | false =>
          cases q with
          | true =>
            go_wp2_with fail
            go_quiet (fail)
            go_wp2_with fail
            go_meet
            exact ⟨⟨false, rfl, by simp⟩, _, rfl⟩
          | false =>
            go_wp2_with fail
            go_quiet (fail)
            go_wp2_with fail
            go_meet
            exact ⟨⟨true, rfl, by simp⟩, _, rfl⟩
      case rest =>
      obtain ⟨⟨b, rfl, hb⟩, md, rfl⟩ := hcut
      have HBD := Lib.hid (below_drewN9 HBEL.out md)
      have HOD := Lib.hid (show OwnR (wr.drewN md) W0.heap.size 45 3 A1 c1 xs.length (rowsV bunCells xs) from HOWN.out)
      have HBF := Lib.hid hb
      clear hb hqq
      go_upto_if 28 with (fail)
      go_cut [7, 8] (fun out dv wx => ∃ (A2 : Option Addr) (c2 : Nat) (ys : List BunD) (dn2 : Bool), out = .slice A2 ys.length c2 ∧ dv = .bool dn2 ∧ OwnR wx W0.heap.size 45 3 A2 c2 ys.length (rowsV bunCells ys) ∧ Below W0.heap.size W0 wx ∧ ys.length ≤ k + dn2.toNat ∧ ∀ x ∈ ys, x ∈ l ∨ x = z)
      case first =>
        cases b with
        | false =>
          go_wp2_with fail
          go_meet
          exact ⟨A1, c1, xs, dn, rfl, rfl, HOD.out, HBD.out, HLEN.out, HMEM.out⟩
        | true =>
          obtain rfl : dn = false := HBF.out rfl
          go_wp2_with (first
            | (refine wpList_get_box (x := .tmp 4) (cs := #[.string z.dom, .int .i64 z.num, .slice z.kA z.kn z.kc]) (HK.out.below HBD.out HK.out.lt) rfl rfl rfl hu rfl bunT_size ?_)
            | (refine wpList_append_r1 (ys := [.string z.dom, .int .i64 z.num, .slice z.kA z.kn z.kc]) sl_buns rfl rfl HOD.out rfl rfl rfl rfl (by simp [Value.oneCell']) (by unfold maxLen; omega) (by omega) HBD.out.size ?_; intro A5 c5 w5 hown5 hgr5 hn5))
          go_meet
          exact ⟨A5, c5, xs ++ [z], true, by simp, rfl, by rw [rowsV_append, rowsV_one, List.length_append]; exact hown5, HBD.out.grown hgr5 HBD.out.size (fun j hj => (HOD.out.lt j hj).1), by have := HLEN.out; simp at this ⊢; omega, fun x hx => by
            rcases List.mem_append.1 hx with h | h
            · exact HMEM.out x h
            · exact .inr (by simpa using h)⟩
      case rest =>
      obtain ⟨A2, c2, ys, dn2, rfl, rfl, hown2, hbel2, hlen2, hmem2⟩ := hcut
      have HOWN2 := Lib.hid hown2
      have HBEL2 := Lib.hid hbel2
      have HLEN2 := Lib.hid hlen2
      have HMEM2 := Lib.hid hmem2
      have hyl : ys.length ≤ 1001 := by have : dn2.toNat ≤ 1 := by cases dn2 <;> simp
                                        omega
      clear hown2 hbel2 hlen2 hmem2
      obtain ⟨d0, d2⟩ := HD.out _ HBEL2.out
      cases r with
      | true =>
          go_wp2_with fail
          go_quiet (fail)
          go_wp2_with fail
          go_roundw
          case rel => exact ⟨k + 1, A2, c2, ys, dn2, HLT.out, rfl, rfl, by go_num, HOWN2.out, (below_drewN9 HBEL2.out _), by have := HLEN2.out; omega, HMEM2.out⟩
          case measure => have := HLT.out; simp [intOf]; omega
      | false =>
          go_wp2_with fail
          go_quiet (fail)
          go_wp2_with (first
            | (refine wpList_get_rd (r := [.string X.dom, .int .i64 X.num, .slice X.kA X.kn X.kc]) (fun j u hj => HC.out _ (below_drewN9 HBEL2.out _) j u hj) rfl rfl rfl hu rfl bunT_size ?_)
            | (refine wpList_append_r1 (ys := [.string X.dom, .int .i64 X.num, .slice X.kA X.kn X.kc]) sl_buns rfl rfl (show OwnR (World.drewN _ _) W0.heap.size 45 3 A2 c2 ys.length (rowsV bunCells ys) from HOWN2.out) rfl rfl rfl rfl (by simp [Value.oneCell']) (by unfold maxLen; omega) (by omega) (below_drewN9 HBEL2.out _).size ?_; intro A5 c5 w5 hown5 hgr5 hn5))
          go_roundw
          case rel => exact ⟨k + 1, A5, c5, ys ++ [X], dn2, HLT.out, by simp, rfl, by go_num, by rw [rowsV_append, rowsV_one, List.length_append]; exact hown5, Below.grown (below_drewN9 HBEL2.out _) hgr5 (Below.size (below_drewN9 HBEL2.out _)) (fun j hj => (HOWN2.out.lt j hj).1), by have := HLEN2.out; simp; omega, fun x hx => by
            rcases List.mem_append.1 hx with h | h
            · exact HMEM2.out x h
            · exact .inl (by have e : x = X := by simpa using h
                             rw [e]; exact HX.out)⟩
          case measure => have := HLT.out; simp [intOf]; omega
    · obtain rfl : k = n := by omega
      clear hlt
      cases dn with
      | true =>
        go_wp2_with fail
        go_ret
        exact ⟨A1, c1, xs, rfl, by have := HLEN.out; have := HN.out; simp at *; omega, HMEM.out, HOWN.out.mono HB0.out.size, HB0.out.trans (HBEL.out.mono HB0.out.size)⟩
      | false =>
        go_wp2_with (first
          | (refine wpList_get_box (x := .tmp 4) (cs := #[.string z.dom, .int .i64 z.num, .slice z.kA z.kn z.kc]) (HK.out.below HBEL.out HK.out.lt) rfl rfl rfl hu rfl bunT_size ?_)
          | (refine wpList_append_r1 (ys := [.string z.dom, .int .i64 z.num, .slice z.kA z.kn z.kc]) sl_buns rfl rfl HOWN.out rfl rfl rfl rfl (by simp [Value.oneCell']) (by unfold maxLen; omega) (by omega) HBEL.out.size ?_; intro A5 c5 w5 hown5 hgr5 hn5))
        go_ret
        exact ⟨A5, c5, xs ++ [z], by simp, by have := HLEN.out; have := HN.out; simp at *; omega, fun x hx => by
          rcases List.mem_append.1 hx with h | h
          · exact HMEM.out x h
          · exact .inr (by simpa using h), OwnR.mono (by rw [rowsV_append, rowsV_one, List.length_append]; exact hown5) HB0.out.size, HB0.out.trans ((HBEL.out.grown hgr5 HBEL.out.size (fun j hj => (HOWN.out.lt j hj).1)).mono HB0.out.size)⟩
end Go.Proofs.YtilhhigdegccgaaDoor
/-
  Laws of my own: a map keyed by texts that is laid entry by entry, and looked up.
-/
namespace Go.Proofs.YtilhhigdegccgaaDoor
set_option linter.unusedSimpArgs false
set_option linter.unusedVariables false
open Go.RowKit
def MapS (w : World) (g : Nat) (es : Array MapEntry) : Prop := w.heap[g]? = some (.map es es.size)
theorem MapS.lt {w : World} {g : Nat} {es : Array MapEntry} (h : MapS w g es) : g < w.heap.size := (Array.getElem?_eq_some_iff.1 h).1
theorem MapS.new (w : World) : MapS (w.alloc (.map #[] 0)) w.heap.size #[] := heap_alloc_new w _
end Go.Proofs.YtilhhigdegccgaaDoor
/-
  Walk: jwk.may, at any bundle.
-/
namespace Go.Proofs.YtilhhigdegccgaaDoor.Js
set_option linter.unusedSimpArgs false
set_option linter.unusedVariables false
open Go.RowKit
def keysOk : List Bs → List (Bs × Bs) → Bool
  | _, [] => true
  | seen, k :: r => decide (k.2.length = 32) && decide (k.1 = nameL k.2) && !(seen.contains k.1) && keysOk (seen ++ [k.1]) r
def headOk (D : Bs) (num : Int) (ks : List (Bs × Bs)) : Bool := domB D && decide (0 ≤ num) && decide (num ≤ 1099511627776) && decide (ks.length ≤ 8)
def mayB (D : Bs) (num : Int) (ks : List (Bs × Bs)) : Bool := headOk D num ks && keysOk [] ks
def keysTo (ks : List (Bs × Bs)) (i : Nat) : Prop := keysOk [] ks = keysOk ((ks.take i).map (·.1)) (ks.drop i)
theorem keysTo_zero (ks : List (Bs × Bs)) : keysTo ks 0 := rfl
theorem keysTo_step {ks : List (Bs × Bs)} {i : Nat} (h : keysTo ks i) (hi : i < ks.length) (h1 : ks[i].2.length = 32) (h2 : ks[i].1 = nameL ks[i].2) (h3 : ks[i].1 ∉ (ks.take i).map (·.1)) : keysTo ks (i + 1) := by
  unfold keysTo at h ⊢
  rw [h, List.drop_eq_getElem_cons hi, List.take_succ_eq_append_getElem hi, List.map_append]
  conv => lhs; unfold keysOk
  rw [decide_eq_true h1, decide_eq_true h2, show ((ks.take i).map (·.1)).contains ks[i].1 = false by simpa using h3]
  rfl
theorem keysTo_no {ks : List (Bs × Bs)} {i : Nat} (h : keysTo ks i) (hi : i < ks.length) (hn : ks[i].2.length = 32 → ks[i].1 = nameL ks[i].2 → ks[i].1 ∈ (ks.take i).map (·.1)) : keysOk [] ks = false := by
  unfold keysTo at h
  rw [h, List.drop_eq_getElem_cons hi]
  unfold keysOk
  by_cases h1 : ks[i].2.length = 32
  · by_cases h2 : ks[i].1 = nameL ks[i].2
    · have h3 := hn h1 h2
      rw [show ((ks.take i).map (·.1)).contains ks[i].1 = true by simpa using h3]
      simp
    · simp [h2]
  · simp [h1]
theorem keysTo_all {ks : List (Bs × Bs)} {i : Nat} (h : keysTo ks i) (hi : i = ks.length) : keysOk [] ks = true := by
  unfold keysTo at h
  rw [h, hi, List.drop_length]
  rfl
theorem mayB_no {D : Bs} {num : Int} {ks : List (Bs × Bs)} (h : headOk D num ks = false) : mayB D num ks = false := by unfold mayB; rw [h]; rfl
end Go.Proofs.YtilhhigdegccgaaDoor.Js
/-
  Walk: jwk.key.
-/
namespace Go.Proofs.YtilhhigdegccgaaDoor.Js
set_option linter.unusedSimpArgs false
set_option linter.unusedVariables false
open Go.RowKit
def RowFrom (u : World) (L : Nat) (t : TypeId) (n : Nat) (xs : List Value) (v : Value) : Prop := ∃ g, v = .slice (some ⟨g, 0, none⟩) n n ∧ Blk u g t xs.toArray ∧ L ≤ g
theorem RowFrom.step {u u' : World} {L : Nat} {t : TypeId} {n : Nat} {xs : List Value} {v : Value} (h : RowFrom u L t n xs v) (hb : Below u.heap.size u u') : RowFrom u' L t n xs v := by
  obtain ⟨g, h1, h2, h3⟩ := h
  exact ⟨g, h1, h2.below hb h2.lt, h3⟩
def BytFrom (u : World) (L n : Nat) (l : Bs) (v : Value) : Prop := ∃ g c, v = .slice (some ⟨g, 0, none⟩) n c ∧ n ≤ c ∧ c ≤ 9223372036854775807 ∧ L ≤ g ∧ Rd u u.heap.size (some ⟨g, 0, none⟩) (bytesV l)
theorem BytFrom.step {u u' : World} {L n : Nat} {l : Bs} {v : Value} (h : BytFrom u L n l v) (hb : Below u.heap.size u u') : BytFrom u' L n l v := by
  obtain ⟨g, c, h1, h2, h3, h4, h5⟩ := h
  exact ⟨g, c, h1, h2, h3, h4, (h5.below hb).mono hb.size⟩
theorem BytFrom.wrote {u u' : World} {L n k : Nat} {l : Bs} {v : Value} (h : BytFrom u L n l v) (hw : Wrote k u u') (hk : k < L) : BytFrom u' L n l v := by
  obtain ⟨g, c, h1, h2, h3, h4, h5⟩ := h
  refine ⟨g, c, h1, h2, h3, h4, fun i x hx => ?_⟩
  obtain ⟨ad, e1, e2, e3⟩ := h5 i x hx
  refine ⟨ad, e1, Nat.lt_of_lt_of_le e2 hw.grown.size, ?_⟩
  rw [← e3]
  injection e1 with e1
  subst e1
  exact World.cell?_of_block (w := u) (w' := u') (by rw [block_of_add]; exact hw.grown.block _ e2 (by intro h; injection h with h; have h9 : g = k := h; omega))
def RepFrom (u : World) (L : Nat) (j : JT) (v : Value) : Prop := ∃ jv, v = .agg (jvCells jv) ∧ JRep u (fun b => L ≤ b) j jv
theorem RepFrom.step {u u' : World} {L : Nat} {j : JT} {v : Value} (h : RepFrom u L j v) (hb : Below u.heap.size u u') : RepFrom u' L j v := by
  obtain ⟨jv, h1, h2⟩ := h
  exact ⟨jv, h1, h2.heap fun b hlt _ => hb.block b hlt⟩
end Go.Proofs.YtilhhigdegccgaaDoor.Js
