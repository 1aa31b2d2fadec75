/-
  Joined texts: Lsn Nd2.
-/
import Derived.Test.YtpfnigndhkcknaaGreatDoorJ7
import Derived.Test.YtpfnigndhkcknaaGreatDoorJ25
import Derived.Test.YtpfnigndhkcknaaGreatDoorJ8
/-
  Walk: brevetref15.nodes (a list with one in its place, or more). (Printed by gen/lst20.py.)
-/
namespace Go.Proofs.YtpfnigndhkcknaaGreatDoor
set_option linter.unusedSimpArgs false
set_option linter.unusedVariables false
open Go.RowKit
def ListPost {α : Type} (t : TypeId) (m : Nat) (f : α → Array Value) (l : List α) (z : α) (w : World) (e : Ending) (w' : World) : Prop :=
  ∃ A c, ∃ xs : List α, e = .returned (.slice A xs.length c) ∧ xs.length ≤ l.length + 1 ∧ (∀ x ∈ xs, x ∈ l ∨ x = z) ∧ OwnR w' w.heap.size t m A c xs.length (rowsV f xs) ∧ Below w.heap.size w w'
set_option maxRecDepth 100000 in
set_option maxHeartbeats 4000000 in
theorem nodes15_any (l : List NodeD) (hl : l.length ≤ 1000) (z : NodeD) (gone : Bool) (A : Option Addr) (c B : Nat) (w : World) (hr : Rd w B A (rowsV nodeCells l)) (hB : B ≤ w.heap.size) :
    Calls Tryz.prog 70 #[.slice A l.length c, .agg (nodeCells z), .bool gone] w (ListPost 40 5 nodeCells l z w) := by
  have hu := Tryz.underlying40
  obtain ⟨W0, hW0⟩ : ∃ W0, W0 = w.alloc (.cells (nodeCells z) 40) := ⟨_, rfl⟩
  have HB0 := Lib.hid (show Below w.heap.size w W0 by rw [hW0]; exact (Below.refl _ w).alloc (Nat.le_refl _) _)
  have HK := Lib.hid (show Blk W0 w.heap.size 40 (nodeCells z) by rw [hW0]; exact Blk.new _ _ _)
  have HW0 := Lib.hid hW0
  obtain ⟨n, hn⟩ : ∃ n, n = l.length := ⟨_, rfl⟩
  have HN := Lib.hid hn
  have HR := Lib.hid (hr.below (HB0.out.mono hB))
  have HBB := Lib.hid (Nat.le_trans hB HB0.out.size)
  have hn' : (n : Int) ≤ 1000 := by omega
  rw [← hn]
  clear hW0 hr hB hl hn
  go_enter Tryz.func70, Tryz.ntmps70
  go_upto_region 1 with (fail)
  rw [show w.alloc (.cells (nodeCells z) 40) = W0 from HW0.out.symm]
  generalize Value.agg (nodeCells z) = AV
  go_wp2_with fail
  go_loopw [7, 8, 9] (fun out dv i wr => ∃ (k : Nat) (A1 : Option Addr) (c1 : Nat) (xs : List NodeD) (dn : Bool), k ≤ n ∧ out = .slice A1 xs.length c1 ∧ dv = .bool dn ∧ i = .int .i64 (k : Int) ∧ OwnR wr W0.heap.size 40 5 A1 c1 xs.length (rowsV nodeCells xs) ∧ Below W0.heap.size W0 wr ∧ xs.length ≤ k + dn.toNat ∧ ∀ x ∈ xs, x ∈ l ∨ x = z) (fun _ _ i _ => n - (intOf i).toNat)
  case atStart => exact ⟨0, none, 0, [], gone, by omega, rfl, rfl, rfl, OwnR.nil _ _ _ _, Below.refl _ _, by simp, fun x hx => by cases hx⟩
  case round =>
    obtain ⟨k, A1, c1, xs, dn, hk, rfl, rfl, rfl, hown, hbel, hlen, hmem⟩ := hrel
    have HOWN := Lib.hid hown
    have HBEL := Lib.hid hbel
    have HLEN := Lib.hid hlen
    have HMEM := Lib.hid hmem
    have hxl : xs.length ≤ 1001 := by have : dn.toNat ≤ 1 := by cases dn <;> simp
                                      omega
    clear hown hbel hlen hmem
    by_cases hlt : k < n
    · have hkl : k < l.length := by rw [← HN.out]; exact hlt
      have hi1 : (0 : Int) ≤ (k : Int) := by omega
      have hi2 : (k : Int) < (n : Int) := by omega
      obtain ⟨ad, hA, hadb, hcell⟩ := rd_rows (f := nodeCells) (m := 5) (fun _ => rfl) (by decide) HR.out hkl
      subst hA
      obtain ⟨X, hX⟩ : ∃ X, X = l[k] := ⟨_, rfl⟩
      rw [← hX] at hcell
      have HX := Lib.hid (show X ∈ l by rw [hX]; exact List.getElem_mem hkl)
      have HC := Lib.hid (show ∀ u, Below W0.heap.size W0 u → ∀ j v, (nodeCells X).toList[j]? = some v → u.cell? ((ad.add (k * 5)).add j) = some v from fun u hu j v hv => by
        rw [hu.cell (p := (ad.add (k * 5)).add j) (by rw [block_of_add, block_of_add]; exact Nat.lt_of_lt_of_le hadb HBB.out)]
        exact hcell j v (by simpa using hv))
      have HD := Lib.hid (show ∀ u, Below W0.heap.size W0 u → u.cell? (ad.add (k * 5)) = some (.string X.name) ∧ u.cell? ⟨w.heap.size, 0, none⟩ = some (.string z.name) from fun u hu => ⟨HC.out u hu 0 _ rfl, (HK.out.below hu HK.out.lt).cell 0⟩)
      obtain ⟨q, hqq⟩ : ∃ q, Op.bytesLess X.name.toList z.name.toList = q := ⟨_, rfl⟩
      obtain ⟨r, hrr⟩ : ∃ r, (X.name.toList == z.name.toList) = r := ⟨_, rfl⟩
      have HLT := Lib.hid hlt
      clear hX hcell hadb hkl hlt
      go_upto_region 6 with (fail)
      go_cut [28] (fun v wx => (∃ b, v = .bool b ∧ (b = true → dn = false)) ∧ ∃ m, wx = wr.drewN m)
      case first =>
        obtain ⟨d0, d2⟩ := HD.out wr HBEL.out
        cases dn with
        | true =>
          go_wp2_with fail
          go_quiet (fail)
          go_wp2_with fail
          go_meet
          exact ⟨⟨false, rfl, by simp⟩, _, rfl⟩
        | false =>
          cases q with
          | true =>
            go_wp2_with fail
            go_quiet (fail)
            go_wp2_with fail
            go_meet
            exact ⟨⟨false, rfl, by simp⟩, _, rfl⟩
          | false =>
            go_wp2_with fail
            go_quiet (fail)
            go_wp2_with fail
            go_meet
            exact ⟨⟨true, rfl, by simp⟩, _, rfl⟩
      case rest =>
      obtain ⟨⟨b, rfl, hb⟩, md, rfl⟩ := hcut
      have HBD := Lib.hid (below_drewN9 HBEL.out md)
      have HOD := Lib.hid (show OwnR (wr.drewN md) W0.heap.size 40 5 A1 c1 xs.length (rowsV nodeCells xs) from HOWN.out)
      have HBF := Lib.hid hb
      clear hb hqq
      go_upto_if 28 with (fail)
      go_cut [7, 8] (fun out dv wx => ∃ (A2 : Option Addr) (c2 : Nat) (ys : List NodeD) (dn2 : Bool), out = .slice A2 ys.length c2 ∧ dv = .bool dn2 ∧ OwnR wx W0.heap.size 40 5 A2 c2 ys.length (rowsV nodeCells ys) ∧ Below W0.heap.size W0 wx ∧ ys.length ≤ k + dn2.toNat ∧ ∀ x ∈ ys, x ∈ l ∨ x = z)
      case first =>
        cases b with
        | false =>
          go_wp2_with fail
          go_meet
          exact ⟨A1, c1, xs, dn, rfl, rfl, HOD.out, HBD.out, HLEN.out, HMEM.out⟩
        | true =>
          obtain rfl : dn = false := HBF.out rfl
          go_wp2_with (first
            | (refine wpList_get_box (x := .tmp 4) (cs := #[.string z.name, .string z.key, .int .i64 z.exp, .int .i64 z.seq, .string z.doc]) (HK.out.below HBD.out HK.out.lt) rfl rfl rfl hu rfl nodeT_size ?_)
            | (refine wpList_append_r1 (ys := [.string z.name, .string z.key, .int .i64 z.exp, .int .i64 z.seq, .string z.doc]) sl_nodes rfl rfl HOD.out rfl rfl rfl rfl (by simp [Value.oneCell']) (by unfold maxLen; omega) (by omega) HBD.out.size ?_; intro A5 c5 w5 hown5 hgr5 hn5))
          go_meet
          exact ⟨A5, c5, xs ++ [z], true, by simp, rfl, by rw [rowsV_append, rowsV_one, List.length_append]; exact hown5, HBD.out.grown hgr5 HBD.out.size (fun j hj => (HOD.out.lt j hj).1), by have := HLEN.out; simp at this ⊢; omega, fun x hx => by
            rcases List.mem_append.1 hx with h | h
            · exact HMEM.out x h
            · exact .inr (by simpa using h)⟩
      case rest =>
      obtain ⟨A2, c2, ys, dn2, rfl, rfl, hown2, hbel2, hlen2, hmem2⟩ := hcut
      have HOWN2 := Lib.hid hown2
      have HBEL2 := Lib.hid hbel2
      have HLEN2 := Lib.hid hlen2
      have HMEM2 := Lib.hid hmem2
      have hyl : ys.length ≤ 1001 := by have : dn2.toNat ≤ 1 := by cases dn2 <;> simp
                                        omega
      clear hown2 hbel2 hlen2 hmem2
      obtain ⟨d0, d2⟩ := HD.out _ HBEL2.out
      cases r with
      | true =>
          go_wp2_with fail
          go_quiet (fail)
          go_wp2_with fail
          go_roundw
          case rel => exact ⟨k + 1, A2, c2, ys, dn2, HLT.out, rfl, rfl, by go_num, HOWN2.out, (below_drewN9 HBEL2.out _), by have := HLEN2.out; omega, HMEM2.out⟩
          case measure => have := HLT.out; simp [intOf]; omega
      | false =>
          go_wp2_with fail
          go_quiet (fail)
          go_wp2_with (first
            | (refine wpList_get_rd (r := [.string X.name, .string X.key, .int .i64 X.exp, .int .i64 X.seq, .string X.doc]) (fun j u hj => HC.out _ (below_drewN9 HBEL2.out _) j u hj) rfl rfl rfl hu rfl nodeT_size ?_)
            | (refine wpList_append_r1 (ys := [.string X.name, .string X.key, .int .i64 X.exp, .int .i64 X.seq, .string X.doc]) sl_nodes rfl rfl (show OwnR (World.drewN _ _) W0.heap.size 40 5 A2 c2 ys.length (rowsV nodeCells ys) from HOWN2.out) rfl rfl rfl rfl (by simp [Value.oneCell']) (by unfold maxLen; omega) (by omega) (below_drewN9 HBEL2.out _).size ?_; intro A5 c5 w5 hown5 hgr5 hn5))
          go_roundw
          case rel => exact ⟨k + 1, A5, c5, ys ++ [X], dn2, HLT.out, by simp, rfl, by go_num, by rw [rowsV_append, rowsV_one, List.length_append]; exact hown5, Below.grown (below_drewN9 HBEL2.out _) hgr5 (Below.size (below_drewN9 HBEL2.out _)) (fun j hj => (HOWN2.out.lt j hj).1), by have := HLEN2.out; simp; omega, fun x hx => by
            rcases List.mem_append.1 hx with h | h
            · exact HMEM2.out x h
            · exact .inl (by have e : x = X := by simpa using h
                             rw [e]; exact HX.out)⟩
          case measure => have := HLT.out; simp [intOf]; omega
    · obtain rfl : k = n := by omega
      clear hlt
      cases dn with
      | true =>
        go_wp2_with fail
        go_ret
        exact ⟨A1, c1, xs, rfl, by have := HLEN.out; have := HN.out; simp at *; omega, HMEM.out, HOWN.out.mono HB0.out.size, HB0.out.trans (HBEL.out.mono HB0.out.size)⟩
      | false =>
        go_wp2_with (first
          | (refine wpList_get_box (x := .tmp 4) (cs := #[.string z.name, .string z.key, .int .i64 z.exp, .int .i64 z.seq, .string z.doc]) (HK.out.below HBEL.out HK.out.lt) rfl rfl rfl hu rfl nodeT_size ?_)
          | (refine wpList_append_r1 (ys := [.string z.name, .string z.key, .int .i64 z.exp, .int .i64 z.seq, .string z.doc]) sl_nodes rfl rfl HOWN.out rfl rfl rfl rfl (by simp [Value.oneCell']) (by unfold maxLen; omega) (by omega) HBEL.out.size ?_; intro A5 c5 w5 hown5 hgr5 hn5))
        go_ret
        exact ⟨A5, c5, xs ++ [z], by simp, by have := HLEN.out; have := HN.out; simp at *; omega, fun x hx => by
          rcases List.mem_append.1 hx with h | h
          · exact HMEM.out x h
          · exact .inr (by simpa using h), OwnR.mono (by rw [rowsV_append, rowsV_one, List.length_append]; exact hown5) HB0.out.size, HB0.out.trans ((HBEL.out.grown hgr5 HBEL.out.size (fun j hj => (HOWN.out.lt j hj).1)).mono HB0.out.size)⟩
end Go.Proofs.YtpfnigndhkcknaaGreatDoor
/-
  Walks: brevetref15.hasNode, putNode.
-/
namespace Go.Proofs.YtpfnigndhkcknaaGreatDoor
set_option linter.unusedSimpArgs false
set_option linter.unusedVariables false
open Go.RowKit
def ixN (l : List NodeD) (s : ByteArray) : Nat := (l.takeWhile fun x => !(x.name.toList == s.toList)).length
def atN (l : List NodeD) (s : ByteArray) : Int := if ixN l s < l.length then (ixN l s : Int) else -1
theorem atN_or (l : List NodeD) (s : ByteArray) : atN l s = -1 ∨ ∃ i : Nat, i < l.length ∧ atN l s = (i : Int) := by
  unfold atN
  split
  · rename_i h
    exact .inr ⟨_, h, rfl⟩
  · exact .inl rfl
theorem ixN_eq {l : List NodeD} {s : ByteArray} {i : Nat} (h0 : ∀ x ∈ l.take i, (x.name.toList == s.toList) = false) (h : i < l.length) (h1 : ((l[i]).name.toList == s.toList) = true) : ixN l s = i := by
  have e : l = l.take i ++ l[i] :: l.drop (i + 1) := by rw [← List.drop_eq_getElem_cons h, List.take_append_drop]
  have e2 : l.takeWhile (fun x => !(x.name.toList == s.toList)) = l.take i := by
    conv => lhs; rw [e]
    rw [List.takeWhile_append_of_pos (by intro x hx; simp only [h0 x hx]; rfl), List.takeWhile_cons, h1]
    simp
  rw [ixN, e2, List.length_take]
  omega
theorem ixN_all {l : List NodeD} {s : ByteArray} (h0 : ∀ x ∈ l, (x.name.toList == s.toList) = false) : ixN l s = l.length := by
  have := List.takeWhile_append_of_pos (p := fun x : NodeD => !(x.name.toList == s.toList)) (l₁ := l) (l₂ := []) (by intro x hx; simp only [h0 x hx]; rfl)
  rw [ixN]
  simp only [List.append_nil, List.takeWhile_nil] at this
  rw [this]
set_option maxRecDepth 100000 in
set_option maxHeartbeats 2000000 in
theorem hasNode_any (l : List NodeD) (s : ByteArray) (A : Option Addr) (c B : Nat) (w : World) (hr : Rd w B A (rowsV nodeCells l)) (hl : l.length ≤ 1000) :
    Calls Tryz.prog 69 #[.slice A l.length c, .string s] w fun e w' => e = .returned (.int .i64 (atN l s)) ∧ w' = w := by
  obtain ⟨n, hn⟩ : ∃ n, n = l.length := ⟨_, rfl⟩
  have HN := Lib.hid hn
  have hnl : (n : Int) ≤ 1000 := by omega
  rw [← hn]
  have HR := Lib.hid hr
  obtain ⟨z, hz⟩ : ∃ z, z = atN l s := ⟨_, rfl⟩
  rw [← hz]
  have HZ := Lib.hid hz
  clear hr hl hn hz
  go_enter Tryz.func69, Tryz.ntmps69
  go_wp2_with fail
  go_loopw [5] (fun x wr => ∃ i : Nat, i ≤ n ∧ x = .int .i64 (i : Int) ∧ (∀ k ∈ l.take i, (k.name.toList == s.toList) = false) ∧ wr = w) (fun x _ => n - (intOf x).toNat)
  case atStart => exact ⟨0, Nat.zero_le _, rfl, by simp, rfl⟩
  case round =>
    obtain ⟨i, hi, rfl, hok, rfl⟩ := hrel
    have HOK := Lib.hid hok
    clear hok
    by_cases hlt : i < n
    · have hil : i < l.length := by rw [← HN.out]; exact hlt
      have hlt' : (i : Int) < (n : Int) := by omega
      have hi0 : (0 : Int) ≤ (i : Int) := by omega
      obtain ⟨ad, hA, -, hcell⟩ := rd_rows (f := nodeCells) (m := 5) (fun _ => rfl) (by decide) HR.out hil
      subst hA
      obtain ⟨X, hX⟩ : ∃ X, X = l[i] := ⟨_, rfl⟩
      rw [← hX] at hcell
      have d0 : wr.cell? (ad.add (i * 5)) = some (.string X.name) := hcell 0 _ rfl
      have HLT := Lib.hid hlt
      obtain ⟨q, hq⟩ : ∃ q, (X.name.toList == s.toList) = q := ⟨_, rfl⟩
      cases q with
      | true =>
        have HP := Lib.hid (show z = (i : Int) by rw [HZ.out, atN, ixN_eq HOK.out hil (by rw [← hX]; exact hq), if_pos hil])
        clear hX hcell hil hlt
        go_wp2_with fail
        go_ret
        exact ⟨by rw [HP.out]; rfl, rfl⟩
      | false =>
        have HP := Lib.hid (show ∀ k ∈ l.take (i + 1), (k.name.toList == s.toList) = false from fun k hk => by
          rw [List.take_succ_eq_append_getElem hil, List.mem_append] at hk
          rcases hk with hk | hk
          · exact HOK.out k hk
          · have e : k = X := by rw [hX]; simpa using hk
            rw [e]
            exact hq)
        clear hX hcell hil hlt
        go_wp2_with fail
        go_roundw
        case rel => exact ⟨i + 1, HLT.out, by go_num, HP.out, by trivial⟩
        case measure => have := HLT.out; simp [intOf]; omega
    · obtain rfl : i = n := by omega
      have HP := Lib.hid (show z = -1 by
        have h0 : l.take i = l := List.take_of_length_le (by rw [← HN.out]; exact Nat.le_refl _)
        have h := HOK.out
        rw [h0] at h
        rw [HZ.out, atN, ixN_all h, if_neg (by omega)])
      clear hlt
      go_wp2_with fail
      go_ret
      exact ⟨by rw [HP.out]; rfl, rfl⟩
theorem ledT2_size : (Tryz.prog.info? 33).map (·.size) = some 6 := by kernel_rfl
theorem LW.nodes_put {u u' : World} {base g K : Nat} {d : LedD} {s : Sl NodeD} (h : LW u base g K d) (hs : s.Own u base 40 5 nodeCells K) (hw : Wrote g u u') (hb : Blk u' g 33 ((ledCells d).setIfInBounds 1 s.v)) : LW u' base g K { d with nodes := s } :=
  LW.put h.box h.hg (h.ll.setNodes hs) hw hb
def NdPost (d : LedD) (base g K : Nat) (w : World) (e : Ending) (w' : World) : Prop := ∃ (s : Sl NodeD) (f : Int), e = .returned (.int .i64 f) ∧ LW w' base g (K + 1) { d with nodes := s } ∧ Below base w w'
theorem NdPost.no {base g K : Nat} {d : LedD} {w u : World} (h : LW u base g K d) (hb : Below base w u) (f : Int) : NdPost d base g K w (.returned (.int .i64 f)) u := ⟨d.nodes, f, rfl, h.more (Nat.le_succ _), hb⟩
theorem NdPost.post {base g K : Nat} {d : LedD} {w w' : World} {e : Ending} (h : NdPost d base g K w e w') : DoPost base g K w e w' := by
  obtain ⟨s, f, h1, h2, h3⟩ := h
  exact ⟨_, f, h1, h2, h3⟩
set_option maxRecDepth 100000 in
set_option maxHeartbeats 4000000 in
theorem putNode_any (d : LedD) (k : NodeD) (base g K : Nat) (w : World) (h : LW w base g K d) (hK : K ≤ 900) (hn : k.name.size ≤ 1000) :
    Calls Tryz.prog 52 #[.pointer (some ⟨g, 0, none⟩), .agg (nodeCells k)] w (NdPost d base g K w) := by
  have hu := Tryz.underlying40
  obtain ⟨W0, hW0⟩ : ∃ W0, W0 = w.alloc (.cells (nodeCells k) 40) := ⟨_, rfl⟩
  have hb0 : Below w.heap.size w W0 := by rw [hW0]; exact (Below.refl _ w).alloc (Nat.le_refl _) _
  have hbs : base ≤ w.heap.size := Nat.le_of_lt (Nat.lt_of_le_of_lt h.hg h.box.lt)
  have HBS := Lib.hid hbs
  have HB0 := Lib.hid (hb0.mono hbs)
  have HKB := Lib.hid (show Blk W0 w.heap.size 40 (nodeCells k) by rw [hW0]; exact Blk.new _ _ _)
  have H0 := Lib.hid (h.below hb0)
  have HW0 := Lib.hid hW0
  have CN := Lib.hid (node15_any k hn W0)
  have HKK := Lib.hid hK
  clear hW0 hb0 h hn hbs
  go_enter Tryz.func52, Tryz.ntmps52
  go_upto_region 1 with (fail)
  rw [show w.alloc (.cells (nodeCells k) 40) = W0 from HW0.out.symm]
  generalize hAV : Value.agg (nodeCells k) = AV
  rw [hAV] at CN
  go_wp2_with (refine wpList_get_box (x := .tmp 3) (cs := nodeCells k) HKB.out rfl rfl rfl hu rfl nodeT_size ?_)
  refine calls_then CN.out ?_
  rintro e w1 ⟨⟨b, rfl⟩, hb1⟩
  have H1 := Lib.hid (H0.out.below hb1)
  have HB1 := Lib.hid (HB0.out.trans (hb1.mono (Nat.le_trans HBS.out HB0.out.size)))
  have HK1 := Lib.hid (HKB.out.below hb1 HKB.out.lt)
  clear hb1 CN
  cases b with
  | false =>
    go_wp2_with fail
    go_ret
    exact NdPost.no H1.out HB1.out _
  | true =>
    obtain ⟨lb, hlb⟩ : ∃ lb, lb = d.bans := ⟨_, rfl⟩
    obtain ⟨ln, hln⟩ : ∃ ln, ln = d.nodes := ⟨_, rfl⟩
    have a1 : w1.cell? ⟨g, 1, none⟩ = some (.slice ln.A ln.l.length ln.c) := by rw [hln]; exact H1.out.box.cell 1
    have a2 : w1.cell? ⟨g, 2, none⟩ = some (.slice lb.A lb.l.length lb.c) := by rw [hlb]; exact H1.out.box.cell 2
    have b0 : w1.cell? ⟨w.heap.size, 0, none⟩ = some (.string k.name) := HK1.out.cell 0
    have HNO := Lib.hid (show ln.Own w1 base 40 5 nodeCells K by rw [hln]; exact H1.out.ll.nodes)
    have HBO := Lib.hid (show lb.Own w1 base 9 1 strCell K by rw [hlb]; exact H1.out.ll.bans)
    have CH := Lib.hid (fun (m : Nat) => show Calls Tryz.prog 24 #[.slice lb.A lb.l.length lb.c, .string k.name] (w1.drewN m) (fun e w' => e = .returned (.bool (hasB lb.l k.name)) ∧ w' = w1.drewN m) from (has9_any lb.l (by have := HBO.out.len; have := HKK.out; omega) k.name lb.A lb.c w1.heap.size (w1.drewN m) (by rw [← rowsV_str]; exact HBO.out.own.row.rd)).mono fun e w' h => ⟨h.1, h.2.symm⟩)
    obtain ⟨q, hq⟩ : ∃ q, q = hasB lb.l k.name := ⟨_, rfl⟩
    rw [← hq] at CH
    obtain ⟨z, hz⟩ : ∃ z, z = atN ln.l k.name := ⟨_, rfl⟩
    have HZ := Lib.hid (show z = -1 ∨ ∃ i : Nat, i < ln.l.length ∧ z = (i : Int) by rw [hz]; exact atN_or _ _)
    have hnl : (ln.l.length : Int) ≤ 900 := by have := HNO.out.len; have := HKK.out; omega
    have HLN := Lib.hid hln
    have HZE := Lib.hid hz
    clear hlb hln hq hz
    go_wp2_with fail
    go_quiet (refine Calls.quiet_of_same (CH.out _))
    cases q with
    | true =>
      go_wp2_with fail
      go_ret
      exact NdPost.no (H1.out.below (below_drewN9 (Below.refl _ _) _)) (below_drewN9 HB1.out _) _
    | false =>
      obtain ⟨w2, hw2⟩ : ∃ w2, w2 = w1.drewN nq := ⟨_, rfl⟩
      rw [← hw2]
      have H2 := Lib.hid (show LW w2 base g K d by rw [hw2]; exact H1.out.below (below_drewN9 (Below.refl _ _) _))
      have HB2 := Lib.hid (show Below base w w2 by rw [hw2]; exact below_drewN9 HB1.out _)
      have HK2 := Lib.hid (show Blk w2 w.heap.size 40 (nodeCells k) by rw [hw2]; exact HK1.out)
      have HNO2 := Lib.hid (show ln.Own w2 base 40 5 nodeCells K by rw [HLN.out]; exact H2.out.ll.nodes)
      have CA := Lib.hid (fun (m : Nat) => show Calls Tryz.prog 69 #[.slice ln.A ln.l.length ln.c, .string k.name] (w2.drewN m) (fun e w' => e = .returned (.int .i64 z) ∧ w' = w2.drewN m) by
        have h := hasNode_any ln.l k.name ln.A ln.c w2.heap.size (w2.drewN m) HNO2.out.own.row.rd (by have := HNO2.out.len; have := HKK.out; omega)
        rw [← HZE.out] at h
        exact h)
      have a1' : w2.cell? ⟨g, 1, none⟩ = some (.slice ln.A ln.l.length ln.c) := by rw [HLN.out]; exact H2.out.box.cell 1
      have b0' : w2.cell? ⟨w.heap.size, 0, none⟩ = some (.string k.name) := HK2.out.cell 0
      clear hw2 a1 a2 b0
      by_cases hfull : z < 0 ∧ (4 : Int) ≤ (ln.l.length : Int)
      · obtain ⟨h1, h2⟩ := hfull
        go_wp2_with fail
        go_quiet (refine Calls.quiet_of_same (CA.out _))
        go_wp2_with fail
        go_ret
        exact NdPost.no (H2.out.below (below_drewN9 (Below.refl _ _) _)) (below_drewN9 HB2.out _) _
      · go_wp2_with fail
        go_cut [34] (fun v wx => v = .bool false ∧ ∃ m, wx = w2.drewN m)
        case first =>
          by_cases h1 : z < 0
          · have h2 : ¬ (4 : Int) ≤ (ln.l.length : Int) := fun h => hfull ⟨h1, h⟩
            clear hfull
            go_wp2_with fail
            go_quiet (refine Calls.quiet_of_same (CA.out _))
            go_wp2_with fail
            go_meet
            exact ⟨by simp [h2], _, rfl⟩
          · have h1' : decide (z < 0) = false := decide_eq_false h1
            clear hfull
            go_wp2_with fail
            go_quiet (refine Calls.quiet_of_same (CA.out _))
            go_wp2_with fail
            go_meet
            exact ⟨by simp, _, rfl⟩
        case rest =>
        obtain ⟨rfl, md, hwc⟩ := hcut
        have H3 := Lib.hid (show LW wc base g K d by rw [hwc]; exact H2.out.below (below_drewN9 (Below.refl _ _) _))
        have HB3 := Lib.hid (show Below base w wc by rw [hwc]; exact below_drewN9 HB2.out _)
        have HK3 := Lib.hid (show Blk wc w.heap.size 40 (nodeCells k) by rw [hwc]; exact HK2.out)
        have a1 : wc.cell? ⟨g, 1, none⟩ = some (.slice ln.A ln.l.length ln.c) := by rw [HLN.out]; exact H3.out.box.cell 1
        have CL := Lib.hid (show ∀ u, Below wc.heap.size wc u → Calls Tryz.prog 70 #[.slice ln.A ln.l.length ln.c, AV, .bool false] u (ListPost 40 5 nodeCells ln.l k u) from fun u hu => by
          rw [← hAV]
          have hno : ln.Own wc base 40 5 nodeCells K := by rw [HLN.out]; exact H3.out.ll.nodes
          exact nodes15_any ln.l (by have := hno.len; have := HKK.out; omega) k false ln.A ln.c wc.heap.size u (hno.own.row.rd.below hu) hu.size)
        have HLL := Lib.hid (show ln.l.length ≤ K by rw [HLN.out]; exact H3.out.ll.nodes.len)
        clear hwc hfull a1' b0' HNO2 H2 HB2 HK2 CA
        go_wp2_with fail
        have HC0 : Below wc.heap.size wc wc.drew := (Below.refl _ _).drew
        apply wp_region_seqp (fun u => Below wc.heap.size wc u) (fun i => i == 0) (fun u u' => Below u.heap.size u u') [_, _, _, _, _, _] (gOf []) 6 (by kernel_rfl) (by kernel_rfl) (by decide) (by kernel_rfl) (fun i h => by simp only [beq_iff_eq] at h; subst h; rfl) (stabL_of _ trivial) HC0
        simp only [List.take_succ_cons, List.take_zero, List.drop_succ_cons, List.drop_zero]
        iterate 4
          first
          | (apply SeqH.pure; rfl; rfl; rfl; rfl; (simp only [act_put, act_put_none, List.setIfInBounds_toArray, List.set_cons_zero, List.set_cons_succ]; rfl); (intro w1 E hE; go_wp2; exact .mk hE))
          | (apply SeqH.step; rfl; (first | (apply SeqG.next; rfl; rfl; rfl)); (simp only [act_put, act_put_none, List.setIfInBounds_toArray, List.set_cons_zero, List.set_cons_succ]; rfl); (intro w1 hC1 hf E hE; go_wp2; exact .mk (hE _ hC1 (Below.refl _ _))); refine SeqG.nil ?_)
        apply SeqH.step
        · rfl
        apply SeqG.next
        · rfl
        · rfl
        · rfl
        · simp only [act_put, act_put_none, List.setIfInBounds_toArray, List.set_cons_zero, List.set_cons_succ]
          rfl
        · intro w1 hC1 hf E hE
          have d0 := (hC1.cell (p := ⟨g, 1, none⟩) H3.out.box.lt).trans a1
          go_wp2
          exact .mk (hE _ hC1 (Below.refl _ _))
        refine SeqG.nil ?_
        apply SeqH.step
        · rfl
        apply SeqG.next
        · rfl
        · rfl
        · rfl
        · simp only [act_put, act_put_none, List.setIfInBounds_toArray, List.set_cons_zero, List.set_cons_succ]
          rfl
        · intro w1 hC1 hf E hE
          refine wpList_get_box (cs := nodeCells k) (HK3.out.below hC1 HK3.out.lt) rfl rfl rfl hu rfl nodeT_size ?_
          rw [hAV]
          go_wp2_with fail
          exact .mk (hE _ hC1 (Below.refl _ _))
        refine SeqG.nil ?_
        refine SeqH.nil ?_
        intro w1 hC1 hf
        clear hf
        refine SeqT.step rfl ?_
        intro E hE
        simp only [act_put, act_put_none, List.setIfInBounds_toArray, List.set_cons_zero, List.set_cons_succ] at hE
        go_wp2_with fail
        refine calls_then (CL.out _ hC1) ?_
        rintro e w5 ⟨A5, c5, xs, rfl, hlen5, _, hown5, hb5⟩
        have HL5 := Lib.hid hlen5
        have HO5 := Lib.hid (hown5.mono hC1.size)
        have HB5 := Lib.hid (hC1.trans (hb5.mono hC1.size))
        clear hlen5 hown5 hb5
        go_wp2_with fail
        refine .mk (hE _ _ ?_)
        clear hE E
        refine SeqT.step rfl ?_
        intro E hE
        simp only [act_put, act_put_none, List.setIfInBounds_toArray, List.set_cons_zero, List.set_cons_succ] at hE
        go_wp2
        refine .mk (hE _ _ ?_)
        clear hE E
        refine SeqT.step rfl ?_
        intro E hE
        simp only [act_put, act_put_none, List.setIfInBounds_toArray, List.set_cons_zero, List.set_cons_succ] at hE
        go_wp2
        refine .mk (hE _ _ ?_)
        clear hE E
        refine SeqT.step rfl ?_
        intro E hE
        simp only [act_put, act_put_none, List.setIfInBounds_toArray, List.set_cons_zero, List.set_cons_succ] at hE
        have H5 := Lib.hid (H3.out.below HB5.out)
        refine wpList_put_cell (i := 1) H5.out.box rfl rfl rfl rfl (by kernel_rfl) (by simp [ledCells]) rfl ?_
        intro w6 hb6 hw6
        have HB6 := Lib.hid hb6
        have HW6 := Lib.hid hw6
        clear hb6 hw6
        go_wp2_with fail
        refine .mk (hE undef _ ?_)
        clear hE E
        refine SeqT.nil ?_
        have HFN := Lib.hid (show NdPost d base g K w (.returned (.int .i64 0)) w6 from
          ⟨⟨A5, c5, xs⟩, 0, rfl, (H5.out.more (Nat.le_succ K)).nodes_put ⟨HO5.out.mono (Nat.le_trans HBS.out HB3.out.size), by have := HL5.out; have := HLL.out; show xs.length ≤ K + 1; omega⟩ HW6.out HB6.out,
            HW6.out.below (HB3.out.trans (HB5.out.mono (Nat.le_trans HBS.out HB3.out.size))) H3.out.hg (Nat.le_trans HBS.out (HB3.out.trans (HB5.out.mono (Nat.le_trans HBS.out HB3.out.size))).size)⟩)
        clear hC1 HC0
        go_wp2_with fail
        go_ret
        exact HFN.out
end Go.Proofs.YtpfnigndhkcknaaGreatDoor
