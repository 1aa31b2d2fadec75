/-
  Walks: json's right.
-/
import Derived.Test.YtcfbnjaelniahaaJri
import Derived.Test.YtcfbnjaelniahaaJso
namespace Go.Proofs.Ytcfbnjaelniahaa.Js
set_option linter.unusedSimpArgs false
set_option linter.unusedVariables false
open Go.RowKit

mutual
/-- so many names, so many kids -/
def smallJ : JT → Bool
  | .mk _ _ _ ns ks => decide (ns.length ≤ 4096) && decide (ks.length ≤ 4096) && smallsJ ks
def smallsJ : List JT → Bool
  | [] => true
  | k :: r => smallJ k && smallsJ r
end
theorem smallsJ_iff : ∀ ks : List JT, smallsJ ks = true ↔ ∀ k ∈ ks, smallJ k = true
  | [] => by simp [smallsJ]
  | k :: r => by simp [smallsJ, smallsJ_iff r]
/-- right's contract so deep -/
def RVal (d : Nat) : Prop := ∀ (j : JT) (v : JV) (B : Nat) (w : World), smallJ j = true → JRep w (fun b => b < B) j v → B ≤ w.heap.size →
  Calls Try.prog 14 #[.agg (jvCells v), .int .i64 (d : Int)] w fun e w' => e = .returned (.bool (rightV d j)) ∧ Below w.heap.size w w'
set_option maxRecDepth 100000 in
theorem right2_any (d : Nat) (hd9 : (d : Int) ≤ 1000) (IH : RVal d) (j : JT) (v : JV) (B g : Nat) (w : World) (hs : smallJ j = true) (hj : JRep w (fun b => b < B) j v) (hB : B ≤ w.heap.size) (hg : w.cell? ⟨g, 0, none⟩ = some (.int .i64 (d + 1 : Int))) :
    Calls Try.prog 30 #[.agg (jvCells v), .pointer (some ⟨g, 0, none⟩)] w fun e w' => e = .returned (.bool (!rightV d j)) ∧ Below w.heap.size w w' := by
  have hu := Try.underlying25
  obtain ⟨W0, hW0⟩ : ∃ W0, W0 = w.alloc (.cells (jvCells v) 25) := ⟨_, rfl⟩
  have hb0 : Below w.heap.size w W0 := by rw [hW0]; exact (Below.refl _ w).alloc (Nat.le_refl _) _
  have HB0 := Lib.hid hb0
  have HKB := Lib.hid (show Blk W0 w.heap.size 25 (jvCells v) by rw [hW0]; exact Blk.new _ _ _)
  have a1 : W0.cell? ⟨g, 0, none⟩ = some (.int .i64 (d + 1 : Int)) := by
    rw [hb0.cell (p := ⟨g, 0, none⟩) (by exact World.block_lt_of_cell? w _ hg)]
    exact hg
  have C := Lib.hid (IH j v B W0 hs (hj.under (hb0.mono hB)) (Nat.le_trans hB hb0.size))
  have HW0 := Lib.hid hW0
  clear hW0 hb0 hg hs hj hB IH
  go_enter Try.func30, Try.ntmps30
  go_upto_region 1 with (fail)
  rw [← HW0.out]
  go_wp2_with (refine wpList_get_box (x := .tmp 2) HKB.out rfl rfl rfl hu rfl jT_size2 ?_)
  refine calls_then C.out ?_
  rintro e w1 ⟨rfl, hb1⟩
  have HB1 := Lib.hid (HB0.out.trans (hb1.mono HB0.out.size))
  clear hb1
  go_wp2_with fail
  go_ret
  exact ⟨rfl, HB1.out⟩
set_option maxRecDepth 100000 in
set_option maxHeartbeats 2000000 in
theorem idxj_any (d : Nat) (hd9 : (d : Int) ≤ 1000) (IH : RVal d) (ks : List JT) (kv : List JV) (A : Option Addr) (c B g : Nat) (w : World) (hs : smallsJ ks = true) (hkl : ks.length ≤ 4096) (hkv : kv.length = ks.length) (hkr : Rd w B A (rowsV jvCells kv))
    (hkids : ∀ i (h : i < ks.length) (h' : i < kv.length), JRep w (fun b => b < B) ks[i] kv[i]) (hB : B ≤ w.heap.size) (hg : w.cell? ⟨g, 0, none⟩ = some (.int .i64 (d + 1 : Int))) :
    Calls Try.prog 42 #[.slice A ks.length c, .func (.func 30) #[] #[.pointer (some ⟨g, 0, none⟩)]] w fun e w' =>
      (∃ k : Int, e = .returned (.int .i64 k) ∧ decide (0 ≤ k) = !rightsV d ks) ∧ Below w.heap.size w w' := by
  have hu := Try.underlying25
  have eg : ∀ args w, (callFunc 30 args).run Try.prog w = .ok (.enter 30 args) w := enters_of Try.func30 (by kernel_rfl) rfl
  obtain ⟨n, hn⟩ : ∃ n, n = ks.length := ⟨_, rfl⟩
  have HN := Lib.hid hn
  have HKV := Lib.hid hkv
  have HR := Lib.hid hkr
  have HKD := Lib.hid hkids
  have HS := Lib.hid ((smallsJ_iff ks).1 hs)
  have HB := Lib.hid hB
  have HG := Lib.hid hg
  have hns : (n : Int) ≤ 4096 := by omega
  have HD9 := Lib.hid hd9
  have HIH := Lib.hid IH
  rw [← hn]
  clear hs hkl hkv hkr hkids hB hg hn hd9 IH
  go_enter Try.func42, Try.ntmps42
  go_wp2_with fail
  go_loopw [8] (fun x wr => ∃ i : Nat, i ≤ n ∧ x = .int .i64 (i : Int) ∧ (∀ k ∈ ks.take i, rightV d k = true) ∧ Below w.heap.size w wr) (fun x _ => n - (intOf x).toNat)
  case atStart => exact ⟨0, by omega, rfl, by simp, Below.refl _ _⟩
  case round =>
    obtain ⟨i, hi, rfl, hok, hb⟩ := hrel
    have HBE := Lib.hid hb
    have HOK := Lib.hid hok
    clear hb hok
    by_cases hlt : i < n
    · have hil : i < ks.length := by rw [← HN.out]; exact hlt
      have hiv : i < kv.length := by rw [HKV.out]; exact hil
      have hlt' : (i : Int) < (n : Int) := by omega
      have HLT := Lib.hid hlt
      obtain ⟨ad, hA, hadb, hcell⟩ := rd_rows (f := jvCells) (m := 5) (fun _ => rfl) (by decide) (HR.out.below (HBE.out.mono HB.out)) hiv
      subst hA
      obtain ⟨X, hX⟩ : ∃ X, X = kv[i] := ⟨_, rfl⟩
      obtain ⟨J, hJ⟩ : ∃ J, J = ks[i] := ⟨_, rfl⟩
      have C := Lib.hid (right2_any d HD9.out HIH.out J X B g wr (by rw [hJ]; exact HS.out _ (List.getElem_mem hil)) (by rw [hX, hJ]; exact (HKD.out i hil hiv).under (HBE.out.mono HB.out)) (Nat.le_trans HB.out HBE.out.size)
        (by rw [HBE.out.cell (p := ⟨g, 0, none⟩) (by exact World.block_lt_of_cell? w _ HG.out)]; exact HG.out))
      have HST := Lib.hid (show rightV d J = true → ∀ k ∈ ks.take (i + 1), rightV d k = true from fun h k hk => by
        rw [List.take_succ_eq_append_getElem hil, ← hJ] at hk
        rcases List.mem_append.1 hk with h1 | h1
        · exact HOK.out k h1
        · rw [List.mem_singleton.1 h1]; exact h)
      have HNO := Lib.hid (show rightV d J = false → rightsV d ks = false from fun h => by
        cases hq : rightsV d ks with
        | false => rfl
        | true =>
          have := (rightsV_iff d ks).1 hq J (by rw [hJ]; exact List.getElem_mem hil)
          rw [h] at this
          cases this)
      rw [← hX] at hcell
      have HCE := Lib.hid (show ∀ j x, (jvCells X).toList[j]? = some x → wr.cell? ((ad.add (i * 5)).add j) = some x from fun j x hx => hcell j x (by simpa using hx))
      clear hX hJ hcell hadb hil hiv
      go_wp2_with (refine wpList_get_rd (r := (jvCells X).toList) HCE.out rfl rfl rfl hu rfl jT_size2 ?_)
      refine calls_then C.out ?_
      rintro e w1 ⟨rfl, hb1⟩
      have HB1 := Lib.hid (HBE.out.trans (hb1.mono HBE.out.size))
      clear hb1
      cases hq : rightV d J with
      | true =>
        have HQ := Lib.hid (HST.out hq)
        clear hq
        go_wp2_with fail
        go_roundw
        case rel => exact ⟨i + 1, HLT.out, by go_num, HQ.out, HB1.out⟩
        case measure => have := HLT.out; simp [intOf]; omega
      | false =>
        have HQ := Lib.hid (HNO.out hq)
        clear hq
        go_wp2_with fail
        go_ret
        exact ⟨⟨_, rfl, by rw [HQ.out]; simp⟩, HB1.out⟩
    · obtain rfl : i = n := by omega
      have HALL := Lib.hid (show rightsV d ks = true by
        have := HOK.out
        rw [HN.out, List.take_length] at this
        exact (rightsV_iff d ks).2 this)
      go_wp2_with fail
      go_ret
      exact ⟨⟨_, rfl, by rw [HALL.out]; simp⟩, HBE.out⟩
theorem conj_any (d : Nat) (hd9 : (d : Int) ≤ 1000) (IH : RVal d) (ks : List JT) (kv : List JV) (A : Option Addr) (c B g : Nat) (w : World) (hs : smallsJ ks = true) (hkl : ks.length ≤ 4096) (hkv : kv.length = ks.length) (hkr : Rd w B A (rowsV jvCells kv))
    (hkids : ∀ i (h : i < ks.length) (h' : i < kv.length), JRep w (fun b => b < B) ks[i] kv[i]) (hB : B ≤ w.heap.size) (hg : w.cell? ⟨g, 0, none⟩ = some (.int .i64 (d + 1 : Int))) :
    Calls Try.prog 29 #[.slice A ks.length c, .func (.func 30) #[] #[.pointer (some ⟨g, 0, none⟩)]] w fun e w' =>
      e = .returned (.bool (!rightsV d ks)) ∧ Below w.heap.size w w' := by
  have C := Lib.hid (idxj_any d hd9 IH ks kv A c B g w hs hkl hkv hkr hkids hB hg)
  clear hs hkv hkr hkids hB hg
  generalize rightsV d ks = b at *
  generalize ks.length = n at *
  go_enter Try.func29, Try.ntmps29
  go_wp2_with fail
  refine calls_then C.out ?_
  rintro e w1 ⟨⟨k, rfl, hk⟩, hb⟩
  have HB := Lib.hid hb
  have HK := Lib.hid hk
  clear hb hk
  go_wp2_with fail
  go_ret
  exact ⟨by rw [← HK.out]; rfl, HB.out⟩
theorem conj_nil (A : Option Addr) (c : Nat) (F : Value) (w : World) :
    Calls Try.prog 29 #[.slice A 0 c, F] w fun e w' => e = .returned (.bool false) ∧ w' = w := by
  have C := Lib.hid (show Calls Try.prog 42 #[.slice A 0 c, F] w fun e w' => e = .returned (.int .i64 (-1)) ∧ w' = w by
    go_enter Try.func42, Try.ntmps42
    go_wp2_with fail
    go_loop [8] (fun x => x = .int .i64 0) (fun _ => 0)
    case atStart => rfl
    case round =>
      obtain rfl := hrel
      go_wp2_with fail
      go_ret
      exact ⟨rfl, rfl⟩)
  go_enter Try.func29, Try.ntmps29
  go_wp2_with fail
  refine calls_then C.out ?_
  rintro e w1 ⟨rfl, rfl⟩
  go_wp2_with fail
  go_ret
  exact ⟨rfl, rfl⟩
end Go.Proofs.Ytcfbnjaelniahaa.Js
