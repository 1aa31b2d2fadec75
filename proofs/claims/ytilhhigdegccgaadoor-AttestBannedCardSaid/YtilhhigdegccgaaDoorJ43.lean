/-
  Joined texts: Uf2 Na2 Id3.
-/
import Derived.Test.YtilhhigdegccgaaDoorProg
import Derived.Lib.Strings
import Derived.Shelf.Abstract
import Derived.Test.YtilhhigdegccgaaDoorJ7
import Derived.Test.YtilhhigdegccgaaDoorJ1
import Derived.Test.YtilhhigdegccgaaDoorJ14
import Derived.Test.YtilhhigdegccgaaDoorJ33
/-
  Walks: attest.find of a node that has another's document.
-/
namespace Go.Proofs.YtilhhigdegccgaaDoor
set_option linter.unusedSimpArgs false
set_option linter.unusedVariables false
open Go.RowKit
def usedB (s ag : ByteArray) (x : NodeD) : Bool := (x.doc.toList == s.toList) && !(x.name.toList == ag.toList)
set_option maxRecDepth 100000 in
set_option maxHeartbeats 2000000 in
theorem u1_any (k : NodeD) (s ag : ByteArray) (g g2 : Nat) (u : World) (hb : Blk u g 9 #[.string s]) (hc : Blk u g2 9 #[.string ag]) :
    Calls Tryd.prog 21 #[.agg (nodeCells k), .pointer (some ⟨g, 0, none⟩), .pointer (some ⟨g2, 0, none⟩)] u fun e w' => e = .returned (.bool (usedB s ag k)) ∧ Below u.heap.size u w' := by
  obtain ⟨W0, hW0⟩ : ∃ W0, W0 = u.alloc (.cells (nodeCells k) 40) := ⟨_, rfl⟩
  have HB0 := Lib.hid (show Below u.heap.size u W0 by rw [hW0]; exact (Below.refl _ u).alloc (Nat.le_refl _) _)
  have hk : Blk W0 u.heap.size 40 (nodeCells k) := by rw [hW0]; exact Blk.new _ _ _
  have hg : Blk W0 g 9 #[.string s] := hb.below HB0.out hb.lt
  have hg2 : Blk W0 g2 9 #[.string ag] := hc.below HB0.out hc.lt
  have a0 : W0.cell? ⟨u.heap.size, 0, none⟩ = some (.string k.name) := hk.cell 0
  have a4 : W0.cell? ⟨u.heap.size, 4, none⟩ = some (.string k.doc) := hk.cell 4
  have a1 : W0.cell? ⟨g, 0, none⟩ = some (.string s) := hg.cell 0
  have a2 : W0.cell? ⟨g2, 0, none⟩ = some (.string ag) := hg2.cell 0
  have HW0 := Lib.hid hW0
  have HU := Lib.hid (show usedB s ag k = ((k.doc.toList == s.toList) && !(k.name.toList == ag.toList)) from rfl)
  obtain ⟨R, hR⟩ : ∃ R, R = usedB s ag k := ⟨_, rfl⟩
  rw [← hR] at HU ⊢
  obtain ⟨q, hq⟩ : ∃ q, (k.doc.toList == s.toList) = q := ⟨_, rfl⟩
  obtain ⟨q2, hq2⟩ : ∃ q, (k.name.toList == ag.toList) = q := ⟨_, rfl⟩
  rw [hq, hq2] at HU
  clear hk hg hg2 hb hc hW0 hR
  go_enter Tryd.func21, Tryd.ntmps21
  go_upto_region 1 with (fail)
  rw [← HW0.out]
  generalize Value.agg (nodeCells k) = AV
  cases q with
  | false =>
    go_wp2_with fail
    go_ret
    exact ⟨by rw [HU.out]; rfl, HB0.out⟩
  | true =>
    cases q2 with
    | true =>
      go_wp2_with fail
      go_ret
      exact ⟨by rw [HU.out]; rfl, HB0.out⟩
    | false =>
      go_wp2_with fail
      go_ret
      exact ⟨by rw [HU.out]; rfl, HB0.out⟩
set_option maxRecDepth 100000 in
set_option maxHeartbeats 2000000 in
theorem uix_any (l : List NodeD) (s ag : ByteArray) (A : Option Addr) (c B g g2 : Nat) (w : World) (hr : Rd w B A (rowsV nodeCells l)) (hB : B ≤ w.heap.size) (hl : l.length ≤ 1000) (hb : Blk w g 9 #[.string s]) (hc : Blk w g2 9 #[.string ag]) :
    Calls Tryd.prog 32 #[.slice A l.length c, .func (.func 21) #[] #[.pointer (some ⟨g, 0, none⟩), .pointer (some ⟨g2, 0, none⟩)]] w fun e w' => e = .returned (.int .i64 (ixZ (usedB s ag) l)) ∧ Below w.heap.size w w' := by
  have eg : ∀ args w, (callFunc 21 args).run Tryd.prog w = .ok (.enter 21 args) w := enters_of Tryd.func21 (by kernel_rfl) rfl
  have huj := Tryd.underlying40
  obtain ⟨n, hn⟩ : ∃ n, n = l.length := ⟨_, rfl⟩
  have HN := Lib.hid hn
  have HR := Lib.hid hr
  have HBK := Lib.hid hb
  have HBQ := Lib.hid hc
  have HBB := Lib.hid hB
  have HL := Lib.hid (show (n : Int) ≤ 1000 by omega)
  have HR0 := Lib.hid (Below.refl w.heap.size w)
  obtain ⟨z, hz⟩ : ∃ z, z = ixZ (usedB s ag) l := ⟨_, rfl⟩
  have HZ := Lib.hid hz
  rw [← hn, ← hz]
  clear hr hl hn hB hb hc hz
  go_enter Tryd.func32, Tryd.ntmps32
  go_wp2_with fail
  go_loopw [8] (fun x wr => ∃ i : Nat, i ≤ n ∧ x = .int .i64 (i : Int) ∧ (∀ k ∈ l.take i, usedB s ag k = false) ∧ Below w.heap.size w wr) (fun x _ => n - (intOf x).toNat)
  case atStart => exact ⟨0, Nat.zero_le _, rfl, by simp, HR0.out⟩
  case round =>
    obtain ⟨i, hi, rfl, hok, hbw⟩ := hrel
    have HOK := Lib.hid hok
    have HBW := Lib.hid hbw
    clear hok hbw
    have hns := HL.out
    by_cases hlt : i < n
    · have hil : i < l.length := by rw [← HN.out]; exact hlt
      have hlt' : (i : Int) < (n : Int) := by omega
      obtain ⟨ad, hA, hadb, hcell⟩ := rd_rows (f := nodeCells) (m := 5) (fun _ => rfl) (by decide) (HR.out.below (HBW.out.mono HBB.out)) hil
      subst hA
      obtain ⟨X, hX⟩ : ∃ X, X = l[i] := ⟨_, rfl⟩
      rw [← hX] at hcell
      have HCL := Lib.hid (show ∀ j u, (nodeCells X).toList[j]? = some u → wr.cell? ((ad.add (i * 5)).add j) = some u from fun j u hu => hcell j u (by simpa using hu))
      have HC := Lib.hid (u1_any X s ag g g2 wr (HBK.out.below HBW.out HBK.out.lt) (HBQ.out.below HBW.out HBQ.out.lt))
      have HLT := Lib.hid hlt
      obtain ⟨q, hq⟩ : ∃ q, q = usedB s ag X := ⟨_, rfl⟩
      rw [← hq] at HC
      cases q with
      | true =>
        have HP := Lib.hid (show z = (i : Int) by rw [HZ.out, ixZ, ixP_eq _ HOK.out hil (by rw [← hX]; exact hq.symm), if_pos hil])
        clear hX hcell hadb hil hlt hq
        go_wp2_with (first
          | refine wpList_get_rd (r := (nodeCells X).toList) HCL.out rfl rfl rfl huj rfl nodeT_size ?_
          | (go_at_call 21; refine calls_then HC.out ?_; rintro e W' ⟨rfl, hb'⟩; have HB' := Lib.hid hb'; clear hb'))
        go_ret
        exact ⟨by rw [HP.out]; rfl, HBW.out.trans (HB'.out.mono HBW.out.size)⟩
      | false =>
        have HP := Lib.hid (show ∀ k ∈ l.take (i + 1), usedB s ag k = false from fun k hk => by
          rw [List.take_succ_eq_append_getElem hil, List.mem_append] at hk
          rcases hk with hk | hk
          · exact HOK.out k hk
          · have e : k = X := by rw [hX]; simpa using hk
            rw [e]
            exact hq.symm)
        clear hX hcell hadb hil hlt hq
        go_wp2_with (first
          | refine wpList_get_rd (r := (nodeCells X).toList) HCL.out rfl rfl rfl huj rfl nodeT_size ?_
          | (go_at_call 21; refine calls_then HC.out ?_; rintro e W' ⟨rfl, hb'⟩; have HB' := Lib.hid hb'; clear hb'))
        go_roundw
        case rel => exact ⟨i + 1, HLT.out, by go_num, HP.out, HBW.out.trans (HB'.out.mono HBW.out.size)⟩
        case measure => have := HLT.out; simp [intOf]; omega
    · obtain rfl : i = n := by omega
      have HP := Lib.hid (show z = -1 by
        have h0 : l.take i = l := List.take_of_length_le (by rw [← HN.out]; exact Nat.le_refl _)
        have h := HOK.out
        rw [h0] at h
        rw [HZ.out, ixZ, ixP_all _ h, if_neg (by omega)])
      clear hlt
      go_wp2_with fail
      go_ret
      exact ⟨by rw [HP.out]; rfl, HBW.out⟩
def ufind (l : List NodeD) (s ag : ByteArray) : NodeD × Bool := match l.find? (usedB s ag) with
  | some k => (k, true)
  | none => (zNd, false)
set_option maxRecDepth 100000 in
set_option maxHeartbeats 2000000 in
theorem ufind_any (l : List NodeD) (s ag : ByteArray) (A : Option Addr) (c B g g2 : Nat) (w : World) (hr : Rd w B A (rowsV nodeCells l)) (hB : B ≤ w.heap.size) (hl : l.length ≤ 1000) (hb : Blk w g 9 #[.string s]) (hc : Blk w g2 9 #[.string ag]) :
    Calls Tryd.prog 20 #[.slice A l.length c, .func (.func 21) #[] #[.pointer (some ⟨g, 0, none⟩), .pointer (some ⟨g2, 0, none⟩)]] w fun e w' => e = .returned (.tuple #[.agg (nodeCells (ufind l s ag).1), .bool (ufind l s ag).2]) ∧ Below w.heap.size w w' := by
  have huj := Tryd.underlying40
  obtain ⟨W0, hW0⟩ : ∃ W0, W0 = w.alloc (.cells (nodeCells zNd) 40) := ⟨_, rfl⟩
  have hb0 : Below w.heap.size w W0 := by rw [hW0]; exact (Below.refl _ w).alloc (Nat.le_refl _) _
  have HB0 := Lib.hid hb0
  have HK0 := Lib.hid (show Blk W0 w.heap.size 40 (nodeCells zNd) by rw [hW0]; exact Blk.new _ _ _)
  have HI := Lib.hid (uix_any l s ag A c B g g2 W0 (hr.below (hb0.mono hB)) (Nat.le_trans hB hb0.size) hl (hb.below hb0 hb.lt) (hc.below hb0 hc.lt))
  have HR := Lib.hid hr
  have HBB := Lib.hid hB
  have HW0 := Lib.hid hW0
  have HE := Lib.hid (show ufind l s ag = match l.find? (usedB s ag) with | some k => (k, true) | none => (zNd, false) from rfl)
  have HX := Lib.hid (ix_find (usedB s ag) l)
  obtain ⟨R, hR⟩ : ∃ R, R = ufind l s ag := ⟨_, rfl⟩
  rw [← hR] at HE ⊢
  obtain ⟨z, hz⟩ : ∃ z, z = ixZ (usedB s ag) l := ⟨_, rfl⟩
  rw [← hz] at HI
  have HZ := Lib.hid hz
  obtain ⟨n, hn⟩ : ∃ n, n = l.length := ⟨_, rfl⟩
  rw [← hn] at HI ⊢
  have HN := Lib.hid hn
  have hnl : (n : Int) ≤ 1000 := by omega
  clear hW0 hb0 hr hB hl hb hc hR hz hn
  go_enter Tryd.func20, Tryd.ntmps20
  go_upto_region 1 with (fail)
  rw [show w.alloc (.cells #[.string ⟨#[]⟩, .string ⟨#[]⟩, .int .i64 0, .int .i64 0, .string ⟨#[]⟩] 40) = W0 from HW0.out.symm]
  go_wp2_with fail
  refine calls_then HI.out ?_
  rintro e w1 ⟨rfl, hb1⟩
  have HB1 := Lib.hid (HB0.out.trans (hb1.mono HB0.out.size))
  have HK1 := Lib.hid (HK0.out.below hb1 HK0.out.lt)
  clear hb1
  rcases HX.out with ⟨hlt, h2, hf⟩ | ⟨hlt, hf⟩
  · obtain ⟨k, hk⟩ : ∃ k, k = ixP (usedB s ag) l := ⟨_, rfl⟩
    have hzk : z = (k : Int) := by rw [HZ.out, ixZ, if_pos hlt, hk]
    subst hzk
    have hk2 : k < l.length := by rw [hk]; exact hlt
    obtain ⟨X, hX⟩ : ∃ X, X = l[k] := ⟨_, rfl⟩
    have HRE := Lib.hid (show R = (X, true) by
      rw [HE.out, hf, hX]
      simp only [hk])
    obtain ⟨ad, hA, -, hcell⟩ := rd_rows (f := nodeCells) (m := 5) (fun _ => rfl) (by decide) (HR.out.below (HB1.out.mono HBB.out)) hk2
    subst hA
    rw [← hX] at hcell
    have HCL := Lib.hid (show ∀ j u, (nodeCells X).toList[j]? = some u → w1.cell? ((ad.add (k * 5)).add j) = some u from fun j u hu => hcell j u (by simpa using hu))
    have hk0 : (0 : Int) ≤ (k : Int) := by omega
    have hkn : (k : Int) < (n : Int) := by rw [HN.out]; omega
    clear hcell hX hk2 hk hf hlt h2
    go_wp2_with (first
      | refine wpList_get_rd (r := (nodeCells X).toList) HCL.out rfl rfl rfl huj rfl nodeT_size ?_
      | (refine wpList_put_box (x := .tmp 4) (cells := nodeCells X) HK1.out rfl rfl rfl rfl nodeT_size rfl (nodeCells_one X) ?_; intro w9 hb9 hw9))
    have HB9 := Lib.hid hb9
    have HF9 := Lib.hid (hw9.below HB1.out (Nat.le_refl _) HB1.out.size)
    refine bodyPost_ret (results_box_tmp (P := Tryd.prog) rfl rfl HB9.out huj rfl nodeT_size) rfl ?_
    exact ⟨by rw [HRE.out]; rfl, HF9.out⟩
  · have hzk : z = -1 := by rw [HZ.out, ixZ, if_neg hlt]
    subst hzk
    have HRE := Lib.hid (show R = (zNd, false) by rw [HE.out, hf])
    clear hf hlt
    go_wp2_with (first
      | refine wpList_get_box (x := .tmp 7) (cs := nodeCells zNd) (Blk.new _ _ _) rfl rfl rfl huj rfl nodeT_size ?_
      | (refine wpList_put_box (x := .tmp 4) (cells := nodeCells zNd) (HK1.out.alloc _) rfl rfl rfl rfl nodeT_size rfl (nodeCells_one _) ?_; intro w9 hb9 hw9))
    have HB9 := Lib.hid hb9
    have HF9 := Lib.hid (hw9.below (HB1.out.alloc HB1.out.size _) (Nat.le_refl _) (by have := HB1.out.size; simp; omega))
    refine bodyPost_ret (results_box_tmp (P := Tryd.prog) rfl rfl HB9.out huj rfl nodeT_size) rfl ?_
    exact ⟨by rw [HRE.out]; rfl, HF9.out⟩
end Go.Proofs.YtilhhigdegccgaaDoor
/-
  Walks: attest.named, brevetref20.Named: which texts are a document's name. (Printed by gen/na20.py.)
-/
namespace Go.Proofs.YtilhhigdegccgaaDoor
set_option linter.unusedSimpArgs false
set_option linter.unusedVariables false
open Go.RowKit
def okZ (z : Int) : Bool := (decide (97 ≤ z) && decide (z ≤ 122)) || (decide (48 ≤ z) && decide (z ≤ 57))
def okC9 (c : UInt8) : Bool := okZ ((c.toNat : Nat) : Int)
def naB (l : List UInt8) : Bool := l.all okC9 && (!l.isEmpty && decide (l.length ≤ 16))
theorem emp_iff (s : ByteArray) : s.toList.isEmpty = decide (s.size < 1) := by
  rw [Lib.toList_data]
  have h : s.data.toList.length = s.size := rfl
  rw [← h]
  cases s.data.toList <;> simp
theorem naB_bad {l : List UInt8} {i : Nat} (h : i < l.length) (hb : okC9 l[i] = false) : naB l = false := by
  unfold naB
  cases hq : l.all okC9 with
  | false => rfl
  | true =>
    rw [List.all_eq_true] at hq
    have := hq _ (List.getElem_mem h)
    rw [hb] at this
    cases this
theorem naB_next {l : List UInt8} {i : Nat} (h : i < l.length) (h0 : (l.take i).all okC9 = true) (hb : okC9 l[i] = true) : (l.take (i + 1)).all okC9 = true := by
  rw [List.take_succ_eq_append_getElem h, List.all_append, h0]
  simp [hb]
set_option maxRecDepth 100000 in
set_option maxHeartbeats 4000000 in
theorem named20_any (s : ByteArray) (hs : (s.size : Int) ≤ 100000) (w : World) : Calls Tryd.prog 22 #[.string s] w fun e w' => e = .returned (.bool (naB s.data.toList)) ∧ w' = w := by
  have h5 : s.data.toList.length = s.size := rfl
  have H5 := Lib.hid h5
  have HS := Lib.hid hs
  have HE := Lib.hid (show naB s.data.toList = (s.data.toList.all okC9 && (!s.toList.isEmpty && decide (s.size ≤ 16))) by rw [Lib.toList_data]; rfl)
  have HBAD := Lib.hid (fun (i : Nat) (h : i < s.size) (z : Int) (hz : ((s[i].toNat : Nat) : Int) = z) (hb : okZ z = false) => show naB s.data.toList = false from naB_bad (i := i) (l := s.data.toList) h (by show okZ _ = false; rw [← hz] at hb; exact hb))
  have HNXT := Lib.hid (fun (i : Nat) (h : i < s.size) (z : Int) (hz : ((s[i].toNat : Nat) : Int) = z) (h0 : (s.data.toList.take i).all okC9 = true) (hb : okZ z = true) => show (s.data.toList.take (i + 1)).all okC9 = true from naB_next (i := i) (l := s.data.toList) h h0 (by show okZ _ = true; rw [← hz] at hb; exact hb))
  obtain ⟨R, hR⟩ : ∃ R, R = naB s.data.toList := ⟨_, rfl⟩
  rw [← hR] at HE HBAD ⊢
  clear hR h5
  go_enter Tryd.func22, Tryd.ntmps22
  go_wp2_with fail
  go_loopw [7] (fun x wr => ∃ i : Nat, i ≤ s.size ∧ x = .int .i64 (i : Int) ∧ (s.data.toList.take i).all okC9 = true ∧ wr = w) (fun x _ => s.size - (intOf x).toNat)
  case atStart => exact ⟨0, Nat.zero_le _, rfl, by simp, rfl⟩
  case round =>
    obtain ⟨i, hi, rfl, hok, rfl⟩ := hrel
    have HOK := Lib.hid hok
    clear hok
    by_cases hlt : i < s.size
    · have hlt' : (i : Int) < (s.size : Int) := by omega
      have HLT := Lib.hid hlt
      obtain ⟨z, hz⟩ : ∃ z, ((s[i].toNat : Nat) : Int) = z := ⟨_, rfl⟩
      have HZ := Lib.hid (HBAD.out i hlt z hz)
      have HN := Lib.hid (HNXT.out i hlt z hz HOK.out)
      by_cases q0 : 97 ≤ z ∧ z ≤ 122
      · have hq := q0
        have f97 : ¬ z < 97 := by omega
        have g97 : 97 ≤ z := by omega
        have f122 : ¬ 122 < z := by omega
        have g122 : z ≤ 122 := by omega
        have f48 : ¬ z < 48 := by omega
        have g48 : 48 ≤ z := by omega
        have f57 : 57 < z := by omega
        have g57 : ¬ z ≤ 57 := by omega
        have HT := Lib.hid (HN.out (by simp [okZ, f97, f122, f48, f57, g97, g122, g48, g57]))
        clear hq
        clear q0
        subst hz
        go_wp2_with fail
        all_goals first
          | (exfalso; omega)
          | (exfalso; simp only [Bool.not_eq_true', Bool.not_eq_false', decide_eq_false_iff_not, decide_eq_true_eq] at *; omega)
          | (go_roundw
             case rel => exact ⟨i + 1, HLT.out, by go_num, HT.out, by first | rfl | trivial⟩
             case measure => have := HLT.out; simp [intOf]; omega)
      · by_cases q1 : 48 ≤ z ∧ z ≤ 57
        · have hq := q1
          have f97 : z < 97 := by omega
          have g97 : ¬ 97 ≤ z := by omega
          have f122 : ¬ 122 < z := by omega
          have g122 : z ≤ 122 := by omega
          have f48 : ¬ z < 48 := by omega
          have g48 : 48 ≤ z := by omega
          have f57 : ¬ 57 < z := by omega
          have g57 : z ≤ 57 := by omega
          have HT := Lib.hid (HN.out (by simp [okZ, f97, f122, f48, f57, g97, g122, g48, g57]))
          clear hq
          clear q0 q1
          subst hz
          go_wp2_with fail
          all_goals first
            | (exfalso; omega)
            | (exfalso; simp only [Bool.not_eq_true', Bool.not_eq_false', decide_eq_false_iff_not, decide_eq_true_eq] at *; omega)
            | (go_roundw
               case rel => exact ⟨i + 1, HLT.out, by go_num, HT.out, by first | rfl | trivial⟩
               case measure => have := HLT.out; simp [intOf]; omega)
        · by_cases q2 : z < 48
          · have hq := q2
            have f97 : z < 97 := by omega
            have g97 : ¬ 97 ≤ z := by omega
            have f122 : ¬ 122 < z := by omega
            have g122 : z ≤ 122 := by omega
            have f48 : z < 48 := by omega
            have g48 : ¬ 48 ≤ z := by omega
            have f57 : ¬ 57 < z := by omega
            have g57 : z ≤ 57 := by omega
            have HF := Lib.hid (HZ.out (by simp [okZ, f97, f122, f48, f57, g97, g122, g48, g57]))
            clear hq
            clear q0 q1 q2
            subst hz
            go_wp2_with fail
            all_goals first
              | (exfalso; omega)
              | (exfalso; simp only [Bool.not_eq_true', Bool.not_eq_false', decide_eq_false_iff_not, decide_eq_true_eq] at *; omega)
              | (go_ret
                 exact ⟨by rw [HF.out]; rfl, rfl⟩)
          · by_cases q3 : 57 < z ∧ z < 97
            · have hq := q3
              have f97 : z < 97 := by omega
              have g97 : ¬ 97 ≤ z := by omega
              have f122 : ¬ 122 < z := by omega
              have g122 : z ≤ 122 := by omega
              have f48 : ¬ z < 48 := by omega
              have g48 : 48 ≤ z := by omega
              have f57 : 57 < z := by omega
              have g57 : ¬ z ≤ 57 := by omega
              have HF := Lib.hid (HZ.out (by simp [okZ, f97, f122, f48, f57, g97, g122, g48, g57]))
              clear hq
              clear q0 q1 q2 q3
              subst hz
              go_wp2_with fail
              all_goals first
                | (exfalso; omega)
                | (exfalso; simp only [Bool.not_eq_true', Bool.not_eq_false', decide_eq_false_iff_not, decide_eq_true_eq] at *; omega)
                | (go_ret
                   exact ⟨by rw [HF.out]; rfl, rfl⟩)
            · have f97 : ¬ z < 97 := by omega
              have g97 : 97 ≤ z := by omega
              have f122 : 122 < z := by omega
              have g122 : ¬ z ≤ 122 := by omega
              have f48 : ¬ z < 48 := by omega
              have g48 : 48 ≤ z := by omega
              have f57 : 57 < z := by omega
              have g57 : ¬ z ≤ 57 := by omega
              have HF := Lib.hid (HZ.out (by simp [okZ, f97, f122, f48, f57, g97, g122, g48, g57]))
              clear q0 q1 q2 q3
              subst hz
              go_wp2_with fail
              all_goals first
                | (exfalso; omega)
                | (exfalso; simp only [Bool.not_eq_true', Bool.not_eq_false', decide_eq_false_iff_not, decide_eq_true_eq] at *; omega)
                | (go_ret
                   exact ⟨by rw [HF.out]; rfl, rfl⟩)
    · have HA := Lib.hid (show s.data.toList.all okC9 = true by
        have := HOK.out
        rw [List.take_of_length_le (by rw [H5.out]; omega)] at this
        exact this)
      have hlt' : ¬ (i : Int) < (s.size : Int) := by omega
      have HE2 := Lib.hid (show R = (!s.toList.isEmpty && decide (s.size ≤ 16)) by rw [HE.out, HA.out]; rfl)
      have HSE := Lib.hid (emp_iff s)
      by_cases h1 : s.size < 1
      · have he : s.toList.isEmpty = true := by rw [HSE.out, decide_eq_true h1]
        have he2 : (s.toList == []) = true := by rw [← he]; cases s.toList <;> rfl
        have k1 : ¬ (1 : Int) ≤ (s.size : Int) := by omega
        have HF := Lib.hid (show R = false by rw [HE2.out, he]; rfl)
        clear h1
        go_wp2_with fail
        go_ret
        exact ⟨by rw [HF.out]; rfl, rfl⟩
      · have he : s.toList.isEmpty = false := by rw [HSE.out, decide_eq_false h1]
        have he2 : (s.toList == []) = false := by rw [← he]; cases s.toList <;> rfl
        have k1 : (1 : Int) ≤ (s.size : Int) := by omega
        by_cases h2 : s.size ≤ 16
        · have k2 : (s.size : Int) ≤ 16 := by omega
          have HF := Lib.hid (show R = true by rw [HE2.out, he, decide_eq_true h2]; rfl)
          clear h1 h2
          go_wp2_with fail
          go_ret
          exact ⟨by rw [HF.out]; rfl, rfl⟩
        · have k2 : ¬ (s.size : Int) ≤ 16 := by omega
          have HF := Lib.hid (show R = false by rw [HE2.out, he, decide_eq_false h2]; rfl)
          clear h1 h2
          go_wp2_with fail
          go_ret
          exact ⟨by rw [HF.out]; rfl, rfl⟩
end Go.Proofs.YtilhhigdegccgaaDoor
/-
  Walks: ids.named, ids.all of a segment's bytes; attest.named, brevetref20.Named.
-/
namespace Go.Proofs.YtilhhigdegccgaaDoor.Js
set_option linter.unusedSimpArgs false
set_option linter.unusedVariables false
open Go.RowKit
theorem named_any (z : Int) (w : World) : Calls Tryd.prog 50 #[.int .u8 z] w fun e w' => e = .returned (.bool (namedZ z)) ∧ w' = w := by
  have C1 := Lib.hid (inner_any z w)
  unfold namedZ
  obtain ⟨a, ha⟩ : ∃ a, a = innerZ z := ⟨_, rfl⟩
  rw [← ha] at C1 ⊢
  clear ha
  go_enter Tryd.func50, Tryd.ntmps50
  go_wp2_with fail
  refine calls_then C1.out ?_
  rintro e u1 ⟨rfl, rfl⟩
  cases a with
  | true =>
    go_wp2_with fail
    go_ret
    simp
  | false =>
    by_cases h1 : 65 ≤ z ∧ z ≤ 90
    · have HR := Lib.hid (show (decide (65 ≤ z) && decide (z ≤ 90) || z == 95) = true by simp [h1])
      have d0 : decide (65 ≤ z) = true := by simp [h1]
      have d1 : decide (z ≥ 65) = true := by simp [h1]
      have d2 : decide (z ≤ 90) = true := by simp [h1]
      clear h1
      go_wp2_with fail
      go_ret
      exact ⟨by rw [Bool.false_or, HR.out]; first | done | rfl, rfl⟩
    · by_cases h2 : z = 95
      · subst h2
        go_wp2_with fail
        go_ret
        exact ⟨rfl, rfl⟩
      · have HR := Lib.hid (show (decide (65 ≤ z) && decide (z ≤ 90) || z == 95) = false by simp [h2]; omega)
        have d3 : (z == 95) = false := by simpa using h2
        by_cases h3 : 65 ≤ z
        · have d0 : decide (65 ≤ z) = true := by simp [h3]
          have d1 : decide (z ≥ 65) = true := by simp [h3]
          have d2 : decide (z ≤ 90) = false := by simp; omega
          clear h1 h2 h3
          go_wp2_with fail
          go_ret
          exact ⟨by rw [Bool.false_or, HR.out]; first | done | rfl, rfl⟩
        · have d0 : decide (65 ≤ z) = false := by simp; omega
          have d1 : decide (z ≥ 65) = false := by simp; omega
          clear h1 h2 h3
          go_wp2_with fail
          go_ret
          exact ⟨by rw [Bool.false_or, HR.out]; first | done | rfl, rfl⟩
theorem allN_take {s : Bs} {i : Nat} (h : i < s.length) : (s.take (i + 1)).all namedC = ((s.take i).all namedC && namedC s[i]) := by
  rw [List.take_succ_eq_append_getElem h, List.all_append]
  simp
theorem allN_bad {s : Bs} {i : Nat} (h : i < s.length) (hb : namedC s[i] = false) : allN s = false := by
  unfold allN
  cases hq : s.all namedC with
  | false => rfl
  | true =>
    rw [List.all_eq_true] at hq
    have := hq _ (List.getElem_mem h)
    rw [hb] at this
    cases this
set_option maxHeartbeats 2000000 in
theorem allN_any (s : ByteArray) (hs : (s.size : Int) ≤ 100000000) (w : World) :
    Calls Tryd.prog 49 #[.string s, .func (.func 50) #[] #[]] w fun x w' => x = .returned (.bool (allN s.data.toList)) ∧ w' = w := by
  have eg : ∀ args w, (callFunc 50 args).run Tryd.prog w = .ok (.enter 50 args) w := enters_of Tryd.func50 (by kernel_rfl) rfl
  have C := Lib.hid named_any
  have h5 : s.data.toList.length = s.size := rfl
  have HS := Lib.hid hs
  go_enter Tryd.func49, Tryd.ntmps49
  go_wp2_with fail
  go_loopw [8] (fun x wr => ∃ i : Nat, i ≤ s.size ∧ x = .int .i64 (i : Int) ∧ (s.data.toList.take i).all namedC = true ∧ wr = w) (fun x _ => s.size - (intOf x).toNat)
  case atStart => exact ⟨0, Nat.zero_le _, rfl, by simp, rfl⟩
  case round =>
    obtain ⟨i, hi, rfl, hok, rfl⟩ := hrel
    have HOK := Lib.hid hok
    clear hok
    by_cases hlt : i < s.size
    · have hlt' : (i : Int) < (s.size : Int) := by omega
      have HLT := Lib.hid hlt
      have HAT := Lib.hid (show s.data.toList[i]'(by rw [h5]; exact hlt) = s[i] from rfl)
      have HC := Lib.hid (C.out ((s[i].toNat : Nat) : Int))
      cases hb : namedC s[i] with
      | true =>
        have HT := Lib.hid (show (s.data.toList.take (i + 1)).all namedC = true by rw [allN_take (by rw [h5]; exact hlt), HOK.out, HAT.out, hb]; rfl)
        have hb' : namedZ ((s[i].toNat : Nat) : Int) = true := hb
        rw [hb'] at HC
        clear HAT h5 hb hb' C
        go_wp2_with (go_at_call 50; refine calls_then (HC.out _) ?_; rintro e W' ⟨rfl, rfl⟩)
        go_roundw
        case rel => exact ⟨i + 1, HLT.out, by go_num, HT.out, by first | rfl | trivial⟩
        case measure => have := HLT.out; simp [intOf]; omega
      | false =>
        have HF := Lib.hid (allN_bad (s := s.data.toList) (i := i) (by rw [h5]; exact hlt) (by rw [HAT.out]; exact hb))
        have hb' : namedZ ((s[i].toNat : Nat) : Int) = false := hb
        rw [hb'] at HC
        clear HAT h5 hb hb' C
        go_wp2_with (go_at_call 50; refine calls_then (HC.out _) ?_; rintro e W' ⟨rfl, rfl⟩)
        go_ret
        exact ⟨by rw [HF.out]; rfl, rfl⟩
    · have HF := Lib.hid (show s.data.toList.all namedC = true by
        have := HOK.out
        rw [List.take_of_length_le (by rw [h5]; omega)] at this
        exact this)
      clear h5
      have hlt' : ¬ (i : Int) < (s.size : Int) := by omega
      go_wp2_with fail
      go_ret
      refine ⟨?_, rfl⟩
      rw [allN, HF.out, ← Lib.toList_data]
      rfl
end Go.Proofs.YtilhhigdegccgaaDoor.Js
