/-
  Walk: the law JsonDeep.
-/
import Derived.Test.YtcfbnjaelniahaaJbl
namespace Go.Proofs.Ytcfbnjaelniahaa.Js
set_option linter.unusedSimpArgs false
set_option linter.unusedVariables false
open Go.RowKit

theorem opn_len : ∀ (b : Bool) (n : Nat), (opn b n).length ≤ 5 * n
  | b, 0 => by simp [opn]
  | b, n + 1 => by
    have := opn_len b n
    rw [opn, List.length_append]
    cases b <;> simp <;> omega
theorem cls_len : ∀ (b : Bool) (n : Nat), (cls b n).length ≤ n
  | b, 0 => by simp [cls]
  | b, n + 1 => by
    have := cls_len b n
    rw [cls, List.length_append]
    cases b <;> simp <;> omega
theorem nest_small : ∀ (b : Bool) (n : Nat), smallJ (nest b n) = true
  | b, 0 => by cases b <;> decide
  | b, n + 1 => by
    have := nest_small b n
    cases b <;> simp [nest, smallJ, smallsJ, this]
set_option maxRecDepth 10000 in
theorem nest_write : ∀ (b : Bool) (n : Fin 21), (writeV (nest b n.1)).length ≤ 1000 := by decide +kernel
theorem rds_blk {w : World} {S : Nat → Prop} {g : Nat} {t : TypeId} {l : List Value} (h : Blk w g t l.toArray) (hS : S g) : RdS w S (some ⟨g, 0, none⟩) l := fun i u hu => by
  refine ⟨_, rfl, hS, ?_⟩
  have hadd : (⟨g, 0, none⟩ : Addr).add i = ⟨g, i, none⟩ := by unfold Addr.add; split <;> simp_all
  rw [hadd, h.cell i]
  simpa using hu
/-- where the law's tree lies -/
def NJ (w : World) (g : Nat) (j : JT) (v : JV) : Prop := Blk w g 25 (jvCells v) ∧ JRep w (fun b => b < w.heap.size ∧ b ≠ g) j v
theorem NJ.below {w w' : World} {g : Nat} {j : JT} {v : JV} (h : NJ w g j v) (hb : Below w.heap.size w w') : NJ w' g j v :=
  ⟨h.1.below hb h.1.lt, (h.2.heap fun b hl _ => hb.block b hl).imp fun b hl hs => ⟨hl, hs.2⟩⟩
/-- one map more around it -/
theorem NJ.map {w w' : World} {g : Nat} {j : JT} {v : JV} (h : NJ w g j v) (hw : Wrote g ((w.alloc (.cells #[.string ⟨#[97]⟩] 9)).alloc (.cells (jvCells v) 25)) w')
    (hb : Blk w' g 25 (jvCells ⟨5, 0, [], some ⟨w.heap.size, 0, none⟩, 1, 1, some ⟨w.heap.size + 1, 0, none⟩, 1, 1⟩)) :
    NJ w' g (.mk 5 0 [] [[97]] [j]) ⟨5, 0, [], some ⟨w.heap.size, 0, none⟩, 1, 1, some ⟨w.heap.size + 1, 0, none⟩, 1, 1⟩ := by
  have hg := h.1.lt
  have hs : w'.heap.size = w.heap.size + 2 := by rw [hw.size]; simp
  have hb0 : Below w.heap.size w ((w.alloc (.cells #[.string ⟨#[97]⟩] 9)).alloc (.cells (jvCells v) 25)) := ((Below.refl _ w).alloc (Nat.le_refl _) _).alloc (by simp) _
  have k1 : Blk w' w.heap.size 9 #[.string ⟨#[97]⟩] := hw.blk ((Blk.new w _ _).alloc _) (by omega)
  have k2 : Blk w' (w.heap.size + 1) 25 (jvCells v) := by
    refine hw.blk ?_ (by omega)
    have := Blk.new (w.alloc (.cells #[.string ⟨#[97]⟩] 9)) 25 (jvCells v)
    simpa using this
  have hj : JRep w' (fun b => b < w'.heap.size ∧ b ≠ g) j v := ((h.2.heap fun b hl _ => hb0.block b hl).heap fun b hl hs => hw.grown.block b hl (by have := hs.2; intro e; injection e with e; omega)).imp fun b hl hs => ⟨hl, hs.2⟩
  refine ⟨hb, .mk ⟨5, 0, [], some ⟨w.heap.size, 0, none⟩, 1, 1, some ⟨w.heap.size + 1, 0, none⟩, 1, 1⟩ [[97]] [j] [v] rfl (Nat.le_refl _) ?_ rfl (Nat.le_refl _) rfl ?_ ?_⟩
  · exact rds_blk (l := [.string ⟨#[97]⟩]) k1 ⟨by omega, by omega⟩
  · rw [show rowsV jvCells [v] = (jvCells v).toList by simp [rowsV]]
    exact rds_blk (l := (jvCells v).toList) k2 ⟨by omega, by omega⟩
  · intro i hi hi'
    simp only [List.length_cons, List.length_nil] at hi
    obtain rfl : i = 0 := by omega
    exact hj
/-- one list more around it -/
theorem NJ.list {w w' : World} {g : Nat} {j : JT} {v : JV} (h : NJ w g j v) (hw : Wrote g (w.alloc (.cells (jvCells v) 25)) w')
    (hb : Blk w' g 25 (jvCells ⟨4, 0, [], none, 0, 0, some ⟨w.heap.size, 0, none⟩, 1, 1⟩)) :
    NJ w' g (.mk 4 0 [] [] [j]) ⟨4, 0, [], none, 0, 0, some ⟨w.heap.size, 0, none⟩, 1, 1⟩ := by
  have hg := h.1.lt
  have hs : w'.heap.size = w.heap.size + 1 := by rw [hw.size]; simp
  have hb0 : Below w.heap.size w (w.alloc (.cells (jvCells v) 25)) := (Below.refl _ w).alloc (Nat.le_refl _) _
  have k2 : Blk w' w.heap.size 25 (jvCells v) := hw.blk (Blk.new w _ _) (by omega)
  have hj : JRep w' (fun b => b < w'.heap.size ∧ b ≠ g) j v := ((h.2.heap fun b hl _ => hb0.block b hl).heap fun b hl hs => hw.grown.block b hl (by have := hs.2; intro e; injection e with e; omega)).imp fun b hl hs => ⟨hl, hs.2⟩
  refine ⟨hb, .mk ⟨4, 0, [], none, 0, 0, some ⟨w.heap.size, 0, none⟩, 1, 1⟩ [] [j] [v] rfl (Nat.le_refl _) (RdS.nil _ _ _) rfl (Nat.le_refl _) rfl ?_ ?_⟩
  · rw [show rowsV jvCells [v] = (jvCells v).toList by simp [rowsV]]
    exact rds_blk (l := (jvCells v).toList) k2 ⟨by omega, by omega⟩
  · intro i hi hi'
    simp only [List.length_cons, List.length_nil] at hi
    obtain rfl : i = 0 := by omega
    exact hj
set_option maxRecDepth 100000 in
set_option maxHeartbeats 4000000 in
theorem jsonDeep_any (n : Int) (b : Bool) (w : World) (hwf : (Lit.int .i64 n).wf = true) :
    Calls Try.prog 6 #[.int .i64 n, .bool b] w fun x w' => x = .returned (.bool true) ∧ Below w.heap.size w w' := by
  have hu := Try.underlying25
  rw [Lit.wf, Bool.and_eq_true, decide_eq_true_iff, decide_eq_true_iff, show IntKind.i64.min = -9223372036854775808 by decide, show IntKind.i64.max = 9223372036854775807 by decide] at hwf
  obtain ⟨hn1, hn2⟩ := hwf
  obtain ⟨N, hN⟩ : ∃ N : Nat, (N : Int) = if n < 0 then -(n + 1) else n := ⟨(if n < 0 then -(n + 1) else n).toNat, by split <;> omega⟩
  have HNE := Lib.hid hN
  clear hN
  obtain ⟨W0, hW0⟩ : ∃ W0, W0 = w.alloc (.cells (jvCells zJV) 25) := ⟨_, rfl⟩
  have hb0 : Below w.heap.size w W0 := by rw [hW0]; exact (Below.refl _ w).alloc (Nat.le_refl _) _
  have HNJ := Lib.hid (show NJ W0 w.heap.size jzero zJV from ⟨by rw [hW0]; exact Blk.new _ _ _, JRep.flat _ _ _ _ _⟩)
  have HB0 := Lib.hid hb0
  have HW0 := Lib.hid hW0
  clear hW0 hb0
  go_enter Try.func6, Try.ntmps6
  go_upto_if 15 with (fail)
  go_cut [0] (fun x wx => x = .int .i64 (N : Int) ∧ wx = w)
  case first =>
    have hne := HNE.out
    by_cases hl : n < 0
    · rw [if_pos hl] at hne
      go_wp2_with fail
      go_meet
      exact ⟨by rw [hne], rfl⟩
    · rw [if_neg hl] at hne
      go_wp2_with fail
      go_meet
      exact ⟨by rw [hne], rfl⟩
  case rest =>
  obtain ⟨rfl, rfl⟩ := hcut
  obtain ⟨M, hM⟩ : ∃ M, M = N % 21 := ⟨_, rfl⟩
  have hm21 : (N : Int).tmod 21 = (M : Int) := by rw [Int.tmod_eq_emod_of_nonneg (by omega), hM]; omega
  have hm0 : (M : Int) ≤ 20 := by omega
  have HM0 := Lib.hid (show M ≤ 20 by omega)
  have hN9 : (N : Int) ≤ 9223372036854775807 := by have := HNE.out; split at this <;> omega
  clear hM
  go_upto_region 7 with (fail)
  rw [show (wc.alloc (.cells #[.int .i64 0, .int .i64 0, .string ⟨#[]⟩, .slice none 0 0, .slice none 0 0] 25)) = W0 from HW0.out.symm]
  clear HW0
  obtain ⟨g, hg⟩ : ∃ g, g = wc.heap.size := ⟨_, rfl⟩
  rw [← hg] at HNJ ⊢
  have HG := Lib.hid hg
  clear hg
  go_wp2_with fail
  go_loopw [5, 6, 8] (fun so se x wr => ∃ (i : Nat) (v : JV), i ≤ M ∧ so = .string (bs (opn b i)) ∧ se = .string (bs (cls b i)) ∧ x = .int .i64 (i : Int) ∧ NJ wr g (nest b i) v ∧ Below g wc wr) (fun _ _ x _ => M - (intOf x).toNat)
  case atStart => exact ⟨0, zJV, Nat.zero_le _, by cases b <;> rfl, by cases b <;> rfl, rfl, by cases b <;> exact HNJ.out, by rw [HG.out]; exact HB0.out⟩
  case round =>
    obtain ⟨i, v, hi, rfl, rfl, rfl, hnj, hbel⟩ := hrel
    have HNI := Lib.hid hnj
    have HBE := Lib.hid hbel
    clear hnj hbel
    by_cases hlt : i < M
    · have hlt' : (i : Int) < (M : Int) := by omega
      have HLT := Lib.hid hlt
      obtain ⟨so, hso⟩ : ∃ s, s = bs (opn b i) := ⟨_, rfl⟩
      obtain ⟨se, hse⟩ : ∃ s, s = bs (cls b i) := ⟨_, rfl⟩
      have hs1 : (so.size : Int) ≤ 100 := by rw [hso, bs_size]; have := opn_len b i; have := HM0.out; omega
      have hs2 : (se.size : Int) ≤ 20 := by rw [hse, bs_size]; have := cls_len b i; have := HM0.out; omega
      have HSO := Lib.hid hso
      have HSE := Lib.hid hse
      rw [← hso, ← hse]
      clear hso hse hlt
      obtain ⟨vk, vn, vt, nA, nn, nc, kA, kn, kc⟩ := v
      have HK := Lib.hid (show Blk wr g 25 #[.int .i64 vk, .int .i64 vn, .string (bs vt), .slice nA nn nc, .slice kA kn kc] from HNI.out.1)
      cases b with
      | true =>
        have hs3 : ¬ 9223372036854775807 < so.size + 5 := by omega
        have hs4 : ¬ 9223372036854775807 < se.size + 1 := by omega
        have HK1 := Lib.hid (show Blk (wr.alloc (.cells #[.string ⟨#[97]⟩] 9)) g 25 #[.int .i64 vk, .int .i64 vn, .string (bs vt), .slice nA nn nc, .slice kA kn kc] from HK.out.alloc _)
        have HK2 := Lib.hid (HK1.out.alloc (.cells #[.int .i64 vk, .int .i64 vn, .string (bs vt), .slice nA nn nc, .slice kA kn kc] 25))
        go_wp2_with (first
          | refine wpList_get_box (x := .tmp 7) HK1.out rfl rfl rfl hu rfl jT_size3 ?_
          | (refine wpList_put_box (x := .tmp 7) (cells := jvCells ⟨5, 0, [], some ⟨wr.heap.size, 0, none⟩, 1, 1, some ⟨wr.heap.size + 1, 0, none⟩, 1, 1⟩) HK2.out rfl rfl rfl rfl jT_size3 rfl (jvCells_one _) ?_; intro w5 hb5 hw5))
        go_roundw
        case rel =>
          have hgs := HK.out.lt
          have hbl : Below g wc w5 := hw5.below ((HBE.out.alloc (by have := HBE.out.size; omega) (.cells #[.string ⟨#[97]⟩] 9)).alloc (by simp; omega) (.cells #[.int .i64 vk, .int .i64 vn, .string (bs vt), .slice nA nn nc, .slice kA kn kc] 25)) (Nat.le_refl _) (by simp; omega)
          exact ⟨i + 1, _, HLT.out, by rw [HSO.out]; exact congrArg Value.string (bs_app (opn true i) [123, 34, 97, 34, 58]), by rw [HSE.out]; exact congrArg Value.string (bs_app (cls true i) [125]), by go_num, HNI.out.map hw5 hb5, hbl⟩
        case measure => have := HLT.out; simp [intOf]; omega
      | false =>
        have hs3 : ¬ 9223372036854775807 < so.size + 1 := by omega
        have hs4 : ¬ 9223372036854775807 < se.size + 1 := by omega
        have HK2 := Lib.hid (HK.out.alloc (.cells #[.int .i64 vk, .int .i64 vn, .string (bs vt), .slice nA nn nc, .slice kA kn kc] 25))
        go_wp2_with (first
          | refine wpList_get_box (x := .tmp 7) HK.out rfl rfl rfl hu rfl jT_size3 ?_
          | (refine wpList_put_box (x := .tmp 7) (cells := jvCells ⟨4, 0, [], none, 0, 0, some ⟨wr.heap.size, 0, none⟩, 1, 1⟩) HK2.out rfl rfl rfl rfl jT_size3 rfl (jvCells_one _) ?_; intro w5 hb5 hw5))
        go_roundw
        case rel =>
          have hgs := HK.out.lt
          have hbl : Below g wc w5 := hw5.below (HBE.out.alloc (by have := HBE.out.size; omega) (.cells #[.int .i64 vk, .int .i64 vn, .string (bs vt), .slice nA nn nc, .slice kA kn kc] 25)) (Nat.le_refl _) (by simp; omega)
          exact ⟨i + 1, _, HLT.out, by rw [HSO.out]; exact congrArg Value.string (bs_app (opn false i) [91]), by rw [HSE.out]; exact congrArg Value.string (bs_app (cls false i) [93]), by go_num, HNI.out.list hw5 hb5, hbl⟩
        case measure => have := HLT.out; simp [intOf]; omega
    · obtain rfl : i = M := by omega
      obtain ⟨so, hso⟩ : ∃ s, s = bs (opn b i) := ⟨_, rfl⟩
      obtain ⟨se, hse⟩ : ∃ s, s = bs (cls b i) := ⟨_, rfl⟩
      have hs1 : (so.size : Int) ≤ 100 := by rw [hso, bs_size]; have := opn_len b i; have := HM0.out; omega
      have hs2 : (se.size : Int) ≤ 20 := by rw [hse, bs_size]; have := cls_len b i; have := HM0.out; omega
      have hs3 : ¬ 9223372036854775807 < so.size + 4 := by omega
      have hs4 : ¬ 9223372036854775807 < so.size + 4 + se.size := by omega
      have hde : so ++ ⟨#[110, 117, 108, 108]⟩ ++ se = bs (deepT b i) := by
        rw [hso, hse, show (⟨#[110, 117, 108, 108]⟩ : ByteArray) = bs [110, 117, 108, 108] from rfl, bs_app, bs_app]
        rfl
      have HDE := Lib.hid hde
      have HEL := Lib.hid (show (deepT b i).length ≤ 1000 by
        have h1 := opn_len b i
        have h2 := cls_len b i
        have h3 := HM0.out
        unfold deepT
        rw [List.length_append, List.length_append]
        simp only [List.length_cons, List.length_nil]
        omega)
      rw [← hso, ← hse]
      clear hso hse hde
      have CR := Lib.hid (show Calls Try.prog 12 #[.string (so ++ ⟨#[110, 117, 108, 108]⟩ ++ se)] wr _ from by rw [HDE.out]; exact jread_any (bs (deepT b i)) wr)
      rw [show (bs (deepT b i)).data.toList = deepT b i from rfl] at CR
      go_wp2_with fail
      refine calls_then CR.out ?_
      rintro e w1 ⟨vx, rfl, hb1, hj1, hz1⟩
      have HBR := Lib.hid (HBE.out.trans (hb1.mono (by have := HBE.out.size; have := HNI.out.1.lt; omega)))
      have HN1 := Lib.hid (HNI.out.below hb1)
      have HJ1 := Lib.hid hj1
      have HZ1 := Lib.hid hz1
      have HGL := Lib.hid (show g < wr.heap.size from HNI.out.1.lt)
      have HS1 := Lib.hid hb1.size
      have HB5 := Lib.hid (show Blk (w1.alloc (.cells #[.int .i64 0, .int .i64 0, .string ⟨#[]⟩, .slice none 0 0, .slice none 0 0] 25)) w1.heap.size 25 (jvCells zJV) from Blk.new _ _ _)
      clear hb1 hj1 hz1 CR
      go_upto_region 18 with (refine wpList_put_box (x := .tmp 9) (cells := jvCells vx) HB5.out rfl rfl rfl rfl jT_size3 rfl (jvCells_one _) ?_; intro w2 hb2 hw2)
      have hb5 := (Below.refl w1.heap.size w1).alloc (Nat.le_refl _) (.cells #[.int .i64 0, .int .i64 0, .string ⟨#[]⟩, .slice none 0 0, .slice none 0 0] 25)
      have hbl : Below w1.heap.size w1 w2 := hw2.below hb5 (Nat.le_refl _) (by simp)
      have HB2 := Lib.hid (HBR.out.trans (hbl.mono (by have := HGL.out; have := HS1.out; omega)))
      have HX2 := Lib.hid hb2
      have HN2 := Lib.hid (HN1.out.below hbl)
      have HBL2 := Lib.hid hbl
      clear hb5 hbl hb2 hw2 HB5
      have CW := Lib.hid (jwrite_any (nest b i) v w2.heap.size w2 (nest_small b i) (HN2.out.2.imp fun b hb _ => hb) (Nat.le_refl _) (by have := nest_write b ⟨i, by have := HM0.out; omega⟩; have h : (writeV (nest b i)).length ≤ 1000 := this; omega))
      go_wp2_with (refine wpList_get_box (x := .tmp 7) HN2.out.1 rfl rfl rfl hu rfl jT_size3 ?_)
      refine calls_then CW.out ?_
      rintro e w3 ⟨rfl, hb3⟩
      have HB3 := Lib.hid (HB2.out.trans (hb3.mono (by have := HN2.out.1.lt; omega)))
      have HX3 := Lib.hid (HX2.out.below hb3 HX2.out.lt)
      have HN3 := Lib.hid (HN2.out.below hb3)
      have HBL3 := Lib.hid hb3
      clear hb3 CW
      by_cases h6 : 6 < i
      · have h6' : (6 : Int) < (i : Int) := by omega
        have hd := deep_err (b := b) h6 (by have := HM0.out; omega)
        have hwr : wrE (nest b i) = ([], 1) := by rw [wrE, if_pos hd.2]
        have hvx : vx = zJV := HZ1.out 9 hd.1
        subst hvx
        rw [hd.1, hwr, show bs (([], 1) : Bs × Int).1 = (⟨#[]⟩ : ByteArray) from rfl]
        have CL := Lib.hid (lives_any w3)
        have c0 : w3.cell? ⟨w1.heap.size, 0, none⟩ = some (.int .i64 0) := HX3.out.cell 0
        clear hd hwr h6
        go_wp2_with fail
        refine calls_then CL.out ?_
        rintro e w4 ⟨rfl, hb4⟩
        have HB4 := Lib.hid (HB3.out.trans (hb4.mono (by have := HN3.out.1.lt; omega)))
        clear hb4
        go_wp2_with fail
        go_ret
        exact ⟨rfl, by rw [← HG.out]; exact HB4.out⟩
      · have h6' : ¬ (6 : Int) < (i : Int) := by omega
        have hd := deep_read (b := b) (n := i) (by omega)
        have hwr : wrE (nest b i) = (deepT b i, 0) := by rw [wrE, if_neg (by rw [hd.2.1]; decide), if_neg (by rw [hd.2.2.1]; omega), hd.2.2.1]
        have hj3 : JRep w3 (fun b => b < w3.heap.size) (nest b i) vx := (((HJ1.out _ hd.1).imp (S' := fun b => b < w1.heap.size) fun b hb _ => hb).heap fun b hb _ => HBL2.out.block b hb).heap (fun b hb hl => HBL3.out.block b hb) |>.imp fun b hb _ => hb
        have CS := Lib.hid (same_any (nest b i) vx v w3.heap.size w3 (nest_small b i) hj3 (HN3.out.2.imp fun b hb _ => hb) (Nat.le_refl _))
        rw [hd.1, hwr, show bs ((deepT b i, 0) : Bs × Int).1 = so ++ ⟨#[110, 117, 108, 108]⟩ ++ se from HDE.out.symm]
        clear hd hwr h6 hj3
        go_wp2_with (first
          | refine wpList_get_box (x := .tmp 9) HX3.out rfl rfl rfl hu rfl jT_size3 ?_
          | refine wpList_get_box (x := .tmp 7) HN3.out.1 rfl rfl rfl hu rfl jT_size3 ?_)
        refine calls_then CS.out ?_
        rintro e w4 ⟨rfl, hb4⟩
        have HB4 := Lib.hid (HB3.out.trans (hb4.mono (by have := HN3.out.1.lt; omega)))
        have HG4 := Lib.hid (show g ≤ w4.heap.size by have := HN3.out.1.lt; have := hb4.size; omega)
        have CL := Lib.hid (lives_any w4)
        clear hb4 CS
        go_wp2_with fail
        refine calls_then CL.out ?_
        rintro e w5 ⟨rfl, hb5⟩
        have HB5 := Lib.hid (HB4.out.trans (hb5.mono HG4.out))
        clear hb5
        go_wp2_with fail
        go_ret
        exact ⟨rfl, by rw [← HG.out]; exact HB5.out⟩
end Go.Proofs.Ytcfbnjaelniahaa.Js
