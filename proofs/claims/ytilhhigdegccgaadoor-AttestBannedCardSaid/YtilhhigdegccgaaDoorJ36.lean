/-
  Joined texts: Lsn3 Nj3.
-/
import Derived.Test.YtilhhigdegccgaaDoorJ29
import Derived.Test.YtilhhigdegccgaaDoorJ34
import Derived.Test.YtilhhigdegccgaaDoorJ6
/-
  Walk: brevetref15.nodes: what is in the list.
-/
namespace Go.Proofs.YtilhhigdegccgaaDoor
set_option linter.unusedSimpArgs false
set_option linter.unusedVariables false
open Go.RowKit
def MemN (l : List NodeD) (z : NodeD) (gone : Bool) (xs : List NodeD) (dn : Bool) : Prop := (∀ x ∈ xs, (x ∈ l ∧ eqN z.name x = false) ∨ x = z) ∧ (dn = true → gone = true ∨ z ∈ xs) ∧ (gone = true → dn = true ∧ ∀ x ∈ xs, x ∈ l)
theorem MemN.nil (l : List NodeD) (z : NodeD) (gone : Bool) : MemN l z gone [] gone := ⟨fun x hx => (by cases hx), fun h => .inl h, fun h => ⟨h, fun x hx => (by cases hx)⟩⟩
theorem MemN.put {l : List NodeD} {z : NodeD} {gone : Bool} {xs : List NodeD} (h : MemN l z gone xs false) : MemN l z gone (xs ++ [z]) true := by
  refine ⟨fun x hx => ?_, fun _ => .inr (by simp), fun hg => absurd (h.2.2 hg).1 (by simp)⟩
  rcases List.mem_append.1 hx with hx | hx
  · exact h.1 x hx
  · exact .inr (by simpa using hx)
theorem MemN.keep {l : List NodeD} {z X : NodeD} {gone dn : Bool} {xs : List NodeD} (h : MemN l z gone xs dn) (hX : X ∈ l) (hn : eqN z.name X = false) : MemN l z gone (xs ++ [X]) dn := by
  refine ⟨fun x hx => ?_, fun hd => (h.2.1 hd).imp id fun hz => List.mem_append.2 (.inl hz), fun hg => ⟨(h.2.2 hg).1, fun x hx => ?_⟩⟩
  · rcases List.mem_append.1 hx with hx | hx
    · exact h.1 x hx
    · have e : x = X := by simpa using hx
      rw [e]; exact .inl ⟨hX, hn⟩
  · rcases List.mem_append.1 hx with hx | hx
    · exact (h.2.2 hg).2 x hx
    · have e : x = X := by simpa using hx
      rw [e]; exact hX
theorem find_only {z : NodeD} : ∀ {xs : List NodeD}, (∀ x ∈ xs, eqN z.name x = true → x = z) → z ∈ xs → xs.find? (eqN z.name) = some z
  | x :: r, h, hz => by
    by_cases hx : eqN z.name x = true
    · rw [List.find?_cons_of_pos hx, h x (List.mem_cons_self ..) hx]
    · rw [List.find?_cons_of_neg hx]
      refine find_only (fun y hy => h y (List.mem_cons_of_mem _ hy)) ?_
      rcases List.mem_cons.1 hz with e | hz
      · exact absurd (by rw [← e]; simp [eqN]) hx
      · exact hz
theorem MemN.find {l : List NodeD} {z : NodeD} {xs : List NodeD} (h : MemN l z false xs true) : xs.find? (eqN z.name) = some z := by
  refine find_only (fun x hx he => ?_) ((h.2.1 rfl).resolve_left (by simp))
  rcases h.1 x hx with ⟨_, h2⟩ | h2
  · rw [he] at h2; cases h2
  · exact h2
theorem MemN.mem {l : List NodeD} {z : NodeD} {gone : Bool} {xs : List NodeD} {dn : Bool} (h : MemN l z gone xs dn) : ∀ x ∈ xs, x ∈ l ∨ x = z := fun x hx => (h.1 x hx).imp (·.1) id
def ListPostN (l : List NodeD) (z : NodeD) (gone : Bool) (w : World) (e : Ending) (w' : World) : Prop :=
  ∃ A c, ∃ xs : List NodeD, e = .returned (.slice A xs.length c) ∧ xs.length ≤ l.length + 1 ∧ MemN l z gone xs true ∧ OwnR w' w.heap.size 40 5 A c xs.length (rowsV nodeCells xs) ∧ Below w.heap.size w w'
set_option maxRecDepth 100000 in
set_option maxHeartbeats 4000000 in
theorem nodes15r_any (l : List NodeD) (hl : l.length ≤ 1000) (z : NodeD) (gone : Bool) (A : Option Addr) (c B : Nat) (w : World) (hr : Rd w B A (rowsV nodeCells l)) (hB : B ≤ w.heap.size) :
    Calls Tryd.prog 60 #[.slice A l.length c, .agg (nodeCells z), .bool gone] w (ListPostN l z gone w) := by
  have hu := Tryd.underlying40
  obtain ⟨W0, hW0⟩ : ∃ W0, W0 = w.alloc (.cells (nodeCells z) 40) := ⟨_, rfl⟩
  have HB0 := Lib.hid (show Below w.heap.size w W0 by rw [hW0]; exact (Below.refl _ w).alloc (Nat.le_refl _) _)
  have HK := Lib.hid (show Blk W0 w.heap.size 40 (nodeCells z) by rw [hW0]; exact Blk.new _ _ _)
  have HW0 := Lib.hid hW0
  obtain ⟨n, hn⟩ : ∃ n, n = l.length := ⟨_, rfl⟩
  have HN := Lib.hid hn
  have HR := Lib.hid (hr.below (HB0.out.mono hB))
  have HBB := Lib.hid (Nat.le_trans hB HB0.out.size)
  have hn' : (n : Int) ≤ 1000 := by omega
  rw [← hn]
  clear hW0 hr hB hl hn
  go_enter Tryd.func60, Tryd.ntmps60
  go_upto_region 1 with (fail)
  rw [show w.alloc (.cells (nodeCells z) 40) = W0 from HW0.out.symm]
  generalize Value.agg (nodeCells z) = AV
  go_wp2_with fail
  go_loopw [7, 8, 9] (fun out dv i wr => ∃ (k : Nat) (A1 : Option Addr) (c1 : Nat) (xs : List NodeD) (dn : Bool), k ≤ n ∧ out = .slice A1 xs.length c1 ∧ dv = .bool dn ∧ i = .int .i64 (k : Int) ∧ OwnR wr W0.heap.size 40 5 A1 c1 xs.length (rowsV nodeCells xs) ∧ Below W0.heap.size W0 wr ∧ xs.length ≤ k + dn.toNat ∧ MemN l z gone xs dn) (fun _ _ i _ => n - (intOf i).toNat)
  case atStart => exact ⟨0, none, 0, [], gone, by omega, rfl, rfl, rfl, OwnR.nil _ _ _ _, Below.refl _ _, by simp, MemN.nil l z gone⟩
  case round =>
    obtain ⟨k, A1, c1, xs, dn, hk, rfl, rfl, rfl, hown, hbel, hlen, hmem⟩ := hrel
    have HOWN := Lib.hid hown
    have HBEL := Lib.hid hbel
    have HLEN := Lib.hid hlen
    have HMEM := Lib.hid hmem
    have hxl : xs.length ≤ 1001 := by have : dn.toNat ≤ 1 := by cases dn <;> simp
                                      omega
    clear hown hbel hlen hmem
    by_cases hlt : k < n
    · have hkl : k < l.length := by rw [← HN.out]; exact hlt
      have hi1 : (0 : Int) ≤ (k : Int) := by omega
      have hi2 : (k : Int) < (n : Int) := by omega
      obtain ⟨ad, hA, hadb, hcell⟩ := rd_rows (f := nodeCells) (m := 5) (fun _ => rfl) (by decide) HR.out hkl
      subst hA
      obtain ⟨X, hX⟩ : ∃ X, X = l[k] := ⟨_, rfl⟩
      rw [← hX] at hcell
      have HX := Lib.hid (show X ∈ l by rw [hX]; exact List.getElem_mem hkl)
      have HC := Lib.hid (show ∀ u, Below W0.heap.size W0 u → ∀ j v, (nodeCells X).toList[j]? = some v → u.cell? ((ad.add (k * 5)).add j) = some v from fun u hu j v hv => by
        rw [hu.cell (p := (ad.add (k * 5)).add j) (by rw [block_of_add, block_of_add]; exact Nat.lt_of_lt_of_le hadb HBB.out)]
        exact hcell j v (by simpa using hv))
      have HD := Lib.hid (show ∀ u, Below W0.heap.size W0 u → u.cell? (ad.add (k * 5)) = some (.string X.name) ∧ u.cell? ⟨w.heap.size, 0, none⟩ = some (.string z.name) from fun u hu => ⟨HC.out u hu 0 _ rfl, (HK.out.below hu HK.out.lt).cell 0⟩)
      obtain ⟨q, hqq⟩ : ∃ q, Op.bytesLess X.name.toList z.name.toList = q := ⟨_, rfl⟩
      obtain ⟨r, hrr⟩ : ∃ r, (X.name.toList == z.name.toList) = r := ⟨_, rfl⟩
      have HLT := Lib.hid hlt
      clear hX hcell hadb hkl hlt
      go_upto_region 6 with (fail)
      go_cut [28] (fun v wx => (∃ b, v = .bool b ∧ (b = true → dn = false)) ∧ ∃ m, wx = wr.drewN m)
      case first =>
        obtain ⟨d0, d2⟩ := HD.out wr HBEL.out
        cases dn with
        | true =>
          go_wp2_with fail
          go_quiet (fail)
          go_wp2_with fail
          go_meet
          exact ⟨⟨false, rfl, by simp⟩, _, rfl⟩
        | false =>
          cases q with
          | true =>
            go_wp2_with fail
            go_quiet (fail)
            go_wp2_with fail
            go_meet
            exact ⟨⟨false, rfl, by simp⟩, _, rfl⟩
          | false =>
            go_wp2_with fail
            go_quiet (fail)
            go_wp2_with fail
            go_meet
            exact ⟨⟨true, rfl, by simp⟩, _, rfl⟩
      case rest =>
      obtain ⟨⟨b, rfl, hb⟩, md, rfl⟩ := hcut
      have HBD := Lib.hid (below_drewN9 HBEL.out md)
      have HOD := Lib.hid (show OwnR (wr.drewN md) W0.heap.size 40 5 A1 c1 xs.length (rowsV nodeCells xs) from HOWN.out)
      have HBF := Lib.hid hb
      clear hb hqq
      go_upto_if 28 with (fail)
      go_cut [7, 8] (fun out dv wx => ∃ (A2 : Option Addr) (c2 : Nat) (ys : List NodeD) (dn2 : Bool), out = .slice A2 ys.length c2 ∧ dv = .bool dn2 ∧ OwnR wx W0.heap.size 40 5 A2 c2 ys.length (rowsV nodeCells ys) ∧ Below W0.heap.size W0 wx ∧ ys.length ≤ k + dn2.toNat ∧ MemN l z gone ys dn2)
      case first =>
        cases b with
        | false =>
          go_wp2_with fail
          go_meet
          exact ⟨A1, c1, xs, dn, rfl, rfl, HOD.out, HBD.out, HLEN.out, HMEM.out⟩
        | true =>
          obtain rfl : dn = false := HBF.out rfl
          go_wp2_with (first
            | (refine wpList_get_box (x := .tmp 4) (cs := #[.string z.name, .string z.key, .int .i64 z.exp, .int .i64 z.seq, .string z.doc]) (HK.out.below HBD.out HK.out.lt) rfl rfl rfl hu rfl nodeT_size ?_)
            | (refine wpList_append_r1 (ys := [.string z.name, .string z.key, .int .i64 z.exp, .int .i64 z.seq, .string z.doc]) sl_nodes rfl rfl HOD.out rfl rfl rfl rfl (by simp [Value.oneCell']) (by unfold maxLen; omega) (by omega) HBD.out.size ?_; intro A5 c5 w5 hown5 hgr5 hn5))
          go_meet
          exact ⟨A5, c5, xs ++ [z], true, by simp, rfl, by rw [rowsV_append, rowsV_one, List.length_append]; exact hown5, HBD.out.grown hgr5 HBD.out.size (fun j hj => (HOD.out.lt j hj).1), by have := HLEN.out; simp at this ⊢; omega, HMEM.out.put⟩
      case rest =>
      obtain ⟨A2, c2, ys, dn2, rfl, rfl, hown2, hbel2, hlen2, hmem2⟩ := hcut
      have HOWN2 := Lib.hid hown2
      have HBEL2 := Lib.hid hbel2
      have HLEN2 := Lib.hid hlen2
      have HMEM2 := Lib.hid hmem2
      have hyl : ys.length ≤ 1001 := by have : dn2.toNat ≤ 1 := by cases dn2 <;> simp
                                        omega
      clear hown2 hbel2 hlen2 hmem2
      obtain ⟨d0, d2⟩ := HD.out _ HBEL2.out
      cases r with
      | true =>
          go_wp2_with fail
          go_quiet (fail)
          go_wp2_with fail
          go_roundw
          case rel => exact ⟨k + 1, A2, c2, ys, dn2, HLT.out, rfl, rfl, by go_num, HOWN2.out, (below_drewN9 HBEL2.out _), by have := HLEN2.out; omega, HMEM2.out⟩
          case measure => have := HLT.out; simp [intOf]; omega
      | false =>
          have HRR := Lib.hid (show eqN z.name X = false from hrr)
          go_wp2_with fail
          go_quiet (fail)
          go_wp2_with (first
            | (refine wpList_get_rd (r := [.string X.name, .string X.key, .int .i64 X.exp, .int .i64 X.seq, .string X.doc]) (fun j u hj => HC.out _ (below_drewN9 HBEL2.out _) j u hj) rfl rfl rfl hu rfl nodeT_size ?_)
            | (refine wpList_append_r1 (ys := [.string X.name, .string X.key, .int .i64 X.exp, .int .i64 X.seq, .string X.doc]) sl_nodes rfl rfl (show OwnR (World.drewN _ _) W0.heap.size 40 5 A2 c2 ys.length (rowsV nodeCells ys) from HOWN2.out) rfl rfl rfl rfl (by simp [Value.oneCell']) (by unfold maxLen; omega) (by omega) (below_drewN9 HBEL2.out _).size ?_; intro A5 c5 w5 hown5 hgr5 hn5))
          go_roundw
          case rel => exact ⟨k + 1, A5, c5, ys ++ [X], dn2, HLT.out, by simp, rfl, by go_num, by rw [rowsV_append, rowsV_one, List.length_append]; exact hown5, Below.grown (below_drewN9 HBEL2.out _) hgr5 (Below.size (below_drewN9 HBEL2.out _)) (fun j hj => (HOWN2.out.lt j hj).1), by have := HLEN2.out; simp; omega, HMEM2.out.keep HX.out HRR.out⟩
          case measure => have := HLT.out; simp [intOf]; omega
    · obtain rfl : k = n := by omega
      clear hlt
      cases dn with
      | true =>
        go_wp2_with fail
        go_ret
        exact ⟨A1, c1, xs, rfl, by have := HLEN.out; have := HN.out; simp at *; omega, HMEM.out, HOWN.out.mono HB0.out.size, HB0.out.trans (HBEL.out.mono HB0.out.size)⟩
      | false =>
        go_wp2_with (first
          | (refine wpList_get_box (x := .tmp 4) (cs := #[.string z.name, .string z.key, .int .i64 z.exp, .int .i64 z.seq, .string z.doc]) (HK.out.below HBEL.out HK.out.lt) rfl rfl rfl hu rfl nodeT_size ?_)
          | (refine wpList_append_r1 (ys := [.string z.name, .string z.key, .int .i64 z.exp, .int .i64 z.seq, .string z.doc]) sl_nodes rfl rfl HOWN.out rfl rfl rfl rfl (by simp [Value.oneCell']) (by unfold maxLen; omega) (by omega) HBEL.out.size ?_; intro A5 c5 w5 hown5 hgr5 hn5))
        go_ret
        exact ⟨A5, c5, xs ++ [z], by simp, by have := HLEN.out; have := HN.out; simp at *; omega, HMEM.out.put, OwnR.mono (by rw [rowsV_append, rowsV_one, List.length_append]; exact hown5) HB0.out.size, HB0.out.trans ((HBEL.out.grown hgr5 HBEL.out.size (fun j hj => (HOWN.out.lt j hj).1)).mono HB0.out.size)⟩
end Go.Proofs.YtilhhigdegccgaaDoor
/-
  Walks: brevetref15.Node by value; brevetref15.Join: the name is an agent's. (Printed by gen/nj3.py.)
-/
namespace Go.Proofs.YtilhhigdegccgaaDoor
set_option linter.unusedSimpArgs false
set_option linter.unusedVariables false
open Go.RowKit
set_option maxHeartbeats 2000000 in
theorem node15r_any (k : NodeD) (hn : k.name.size ≤ 1000) (w : World) : Calls Tryd.prog 57 #[.agg (nodeCells k)] w fun e w' => e = .returned (.bool (nodB k)) ∧ Below w.heap.size w w' := by
  obtain ⟨W0, hW0⟩ : ∃ W0, W0 = w.alloc (.cells (nodeCells k) 40) := ⟨_, rfl⟩
  have HB0 := Lib.hid (show Below w.heap.size w W0 by rw [hW0]; exact (Below.refl _ w).alloc (Nat.le_refl _) _)
  have hk1 : Blk W0 w.heap.size 40 (nodeCells k) := by rw [hW0]; exact Blk.new _ _ _
  have a0 : W0.cell? ⟨w.heap.size, 0, none⟩ = some (.string k.name) := hk1.cell 0
  have a1 : W0.cell? ⟨w.heap.size, 1, none⟩ = some (.string k.key) := hk1.cell 1
  have a2 : W0.cell? ⟨w.heap.size, 2, none⟩ = some (.int .i64 k.exp) := hk1.cell 2
  have a3 : W0.cell? ⟨w.heap.size, 3, none⟩ = some (.int .i64 k.seq) := hk1.cell 3
  have a4 : W0.cell? ⟨w.heap.size, 4, none⟩ = some (.string k.doc) := hk1.cell 4
  have HW0 := Lib.hid hW0
  have CA := Lib.hid (Js.ragent_any k.name hn W0)
  have HE := Lib.hid (show nodB k = (Js.agentB k.name.data.toList && (decide (k.key.size = 32) && (decide (0 ≤ k.exp) && (decide (k.exp ≤ 1099511627776) && (decide (0 ≤ k.seq) && (decide (k.seq ≤ 1099511627776) && decide (k.doc.size ≤ 16))))))) from rfl)
  obtain ⟨R, hR⟩ : ∃ R, R = nodB k := ⟨_, rfl⟩
  rw [← hR] at HE ⊢
  obtain ⟨ab, hab⟩ : ∃ b, b = Js.agentB k.name.data.toList := ⟨_, rfl⟩
  rw [← hab] at HE CA
  obtain ⟨ex, hex⟩ : ∃ x, x = k.exp := ⟨_, rfl⟩
  obtain ⟨sq, hsq⟩ : ∃ x, x = k.seq := ⟨_, rfl⟩
  obtain ⟨ky, hky⟩ : ∃ x, x = k.key := ⟨_, rfl⟩
  obtain ⟨dc, hdc⟩ : ∃ x, x = k.doc := ⟨_, rfl⟩
  rw [← hex, ← hsq, ← hky, ← hdc] at HE
  rw [← hex] at a2
  rw [← hsq] at a3
  rw [← hky] at a1
  rw [← hdc] at a4
  clear hk1 hW0 hR hab hex hsq hky hdc
  go_enter Tryd.func57, Tryd.ntmps57
  go_upto_region 1 with (fail)
  rw [← HW0.out]
  generalize Value.agg (nodeCells k) = AV
  go_wp2_with fail
  refine calls_then CA.out ?_
  rintro e w1 ⟨rfl, rfl⟩
  cases ab with
  | false =>
    have HRF := Lib.hid (show R = false by rw [HE.out]; rfl)
    go_wp2_with fail
    go_ret
    exact ⟨by rw [HRF.out]; rfl, HB0.out⟩
  | true =>
    by_cases h0 : (ky.size : Int) = 32
    · have p0 : decide (ky.size = 32) = true := by simp; omega
      have h0' : ((ky.size : Int) == (32 : Int)) = true := by simp [h0]
      have HP0 := Lib.hid p0
      clear p0
      clear h0
      by_cases h1 : 0 ≤ ex
      · have p1 : decide (0 ≤ ex) = true := by simp; omega
        have HP1 := Lib.hid p1
        clear p1
        by_cases h2 : ex ≤ 1099511627776
        · have p2 : decide (ex ≤ 1099511627776) = true := by simp; omega
          have HP2 := Lib.hid p2
          clear p2
          by_cases h3 : 0 ≤ sq
          · have p3 : decide (0 ≤ sq) = true := by simp; omega
            have HP3 := Lib.hid p3
            clear p3
            by_cases h4 : sq ≤ 1099511627776
            · have p4 : decide (sq ≤ 1099511627776) = true := by simp; omega
              have HP4 := Lib.hid p4
              clear p4
              by_cases h5 : (dc.size : Int) ≤ 16
              · have p5 : decide (dc.size ≤ 16) = true := by simp; omega
                have HP5 := Lib.hid p5
                clear p5
                have HRF := Lib.hid (show R = true by rw [HE.out, HP0.out, HP1.out, HP2.out, HP3.out, HP4.out, HP5.out]; rfl)
                go_wp2_with fail
                go_ret
                exact ⟨by rw [HRF.out]; rfl, HB0.out⟩
              · have p5 : decide (dc.size ≤ 16) = false := by simp; omega
                have HRF := Lib.hid (show R = false by rw [HE.out, HP0.out, HP1.out, HP2.out, HP3.out, HP4.out, p5]; rfl)
                clear p5
                go_wp2_with fail
                go_ret
                exact ⟨by rw [HRF.out]; show Ending.returned (Value.bool (decide ((dc.size : Int) ≤ 16))) = _; rw [decide_eq_false (by have := h5; omega)], HB0.out⟩
            · have p4 : decide (sq ≤ 1099511627776) = false := by simp; omega
              have HRF := Lib.hid (show R = false by rw [HE.out, HP0.out, HP1.out, HP2.out, HP3.out, p4]; rfl)
              clear p4
              go_wp2_with fail
              go_ret
              exact ⟨by rw [HRF.out]; rfl, HB0.out⟩
          · have p3 : decide (0 ≤ sq) = false := by simp; omega
            have HRF := Lib.hid (show R = false by rw [HE.out, HP0.out, HP1.out, HP2.out, p3]; rfl)
            clear p3
            go_wp2_with fail
            go_ret
            exact ⟨by rw [HRF.out]; rfl, HB0.out⟩
        · have p2 : decide (ex ≤ 1099511627776) = false := by simp; omega
          have HRF := Lib.hid (show R = false by rw [HE.out, HP0.out, HP1.out, p2]; rfl)
          clear p2
          go_wp2_with fail
          go_ret
          exact ⟨by rw [HRF.out]; rfl, HB0.out⟩
      · have p1 : decide (0 ≤ ex) = false := by simp; omega
        have HRF := Lib.hid (show R = false by rw [HE.out, HP0.out, p1]; rfl)
        clear p1
        go_wp2_with fail
        go_ret
        exact ⟨by rw [HRF.out]; rfl, HB0.out⟩
    · have p0 : decide (ky.size = 32) = false := by simp; omega
      have h0' : ((ky.size : Int) == (32 : Int)) = false := by simpa using h0
      clear h0
      have HRF := Lib.hid (show R = false by rw [HE.out, p0]; rfl)
      clear p0
      go_wp2_with fail
      go_ret
      exact ⟨by rw [HRF.out]; rfl, HB0.out⟩
def JnP (k : JoinD) (w : World) (e : Ending) (w' : World) : Prop := (∃ b : Bool, e = .returned (.bool b) ∧ (b = true → Js.agentB k.name.data.toList = true)) ∧ Below w.heap.size w w'
set_option maxHeartbeats 2000000 in
theorem join15r_any (k : JoinD) (hn : k.name.size ≤ 1000) (ht : k.text.size ≤ 1000) (w : World) : Calls Tryd.prog 56 #[.agg (joinCells k)] w (JnP k w) := by
  obtain ⟨W0, hW0⟩ : ∃ W0, W0 = w.alloc (.cells (joinCells k) 38) := ⟨_, rfl⟩
  have HB0 := Lib.hid (show Below w.heap.size w W0 by rw [hW0]; exact (Below.refl _ w).alloc (Nat.le_refl _) _)
  have hk1 : Blk W0 w.heap.size 38 (joinCells k) := by rw [hW0]; exact Blk.new _ _ _
  have a0 : W0.cell? ⟨w.heap.size, 0, none⟩ = some (.string k.text) := hk1.cell 0
  have a1 : W0.cell? ⟨w.heap.size, 1, none⟩ = some (.string k.name) := hk1.cell 1
  have a2 : W0.cell? ⟨w.heap.size, 2, none⟩ = some (.int .i64 k.exp) := hk1.cell 2
  have a3 : W0.cell? ⟨w.heap.size, 3, none⟩ = some (.bool k.used) := hk1.cell 3
  have HW0 := Lib.hid hW0
  have CA := Lib.hid (Js.ragent_any k.name hn W0)
  have ht' : (k.text.size : Int) ≤ 1000 := by omega
  obtain ⟨text, name, exp, used⟩ := k
  dsimp only [joinCells] at *
  clear hk1 hW0
  go_enter Tryd.func56, Tryd.ntmps56
  go_upto_region 1 with (fail)
  rw [← HW0.out]
  go_wp2_with fail
  go_loop [3] (fun i => ∃ j : Nat, j ≤ text.size ∧ i = .int .i64 (j : Int)) (fun i => text.size - (intOf i).toNat)
  case atStart => exact ⟨0, by omega, rfl⟩
  case round =>
    obtain ⟨j, hj, rfl⟩ := hrel
    by_cases hlt : j < text.size
    · have hlt' : (j : Int) < (text.size : Int) := by omega
      go_wp2_with fail
      all_goals first
        | (go_ret; exact ⟨⟨false, rfl, fun h => by cases h⟩, HB0.out⟩)
        | (go_round
           case rel => exact ⟨j + 1, by omega, by go_num⟩
           case measure => simp [intOf]; omega)
    · obtain rfl : j = text.size := by omega
      go_wp2_with fail
      refine calls_then CA.out ?_
      rintro e w1 ⟨rfl, rfl⟩
      obtain ⟨b, hb⟩ : ∃ b, b = Js.agentB name.data.toList := ⟨_, rfl⟩
      have HBE := Lib.hid hb
      rw [← hb]
      clear hb
      cases b <;> go_wp2_with fail
      all_goals go_ret
      all_goals exact ⟨⟨_, rfl, fun h => by first | (cases h; done) | exact HBE.out.symm⟩, HB0.out⟩
end Go.Proofs.YtilhhigdegccgaaDoor
