/-
  Walks: json's writer: a value, a list, a map. (Printed by gen/jkids.py.)
-/
import Derived.Test.YtcfbnjaelniahaaJnu
import Derived.Test.YtcfbnjaelniahaaGrd
namespace Go.Proofs.Ytcfbnjaelniahaa.Js
set_option linter.unusedSimpArgs false
set_option linter.unusedVariables false
open Go.RowKit

theorem jT_size : (Try.prog.info? 25).map (·.size) = some 5 := by kernel_rfl
/-- the writer's contract at values so deep -/
def WVal (d : Nat) : Prop := ∀ (j : JT) (v : JV) (B p : Nat) (c : Bs) (w0 w : World), rightV d j = true → JRep w (fun b => b < B) j v → WB w0 B p c w → c.length + (writeV j).length ≤ 1099511627776 →
  Calls Try.prog 15 #[.pointer (some ⟨p, 0, none⟩), .agg (jvCells v)] w fun e w' => e = .returned (.tuple #[]) ∧ ∃ c', Out c (writeV j) c' ∧ WB w0 B p c' w'
/-- behind k of the kids -/
def kidsB (m : Bool) (ns : List Bs) (ks : List JT) (k : Nat) : Bs := itemsV m (ns.take k) (ks.take k) true
theorem _root_.Go.Proofs.Ytcfbnjaelniahaa.Blk.keep9 {w : World} {g : Nat} {t : TypeId} {cs : Array Value} (h : Blk w g t cs) : Blk w g t cs := h
theorem app_len (a b : Bs) : (a ++ b).length = a.length + b.length := List.length_append
structure StepK (a b : Bs) : Prop where
  eq : a = b
theorem itemsV_snoc (m : Bool) : ∀ (ks : List JT) (ns : List Bs) (k : JT) (s : Bs) (f : Bool), (m = true → ns.length = ks.length) →
    itemsV m (if m then ns ++ [s] else []) (ks ++ [k]) f = itemsV m (if m then ns else []) ks f ++ ((if (f && ks.isEmpty) then [] else [44]) ++ ((if m then quote s ++ [58] else []) ++ writeV k))
  | [], ns, k, s, f, h => by
    cases m with
    | true =>
      have : ns = [] := by simpa using h rfl
      subst this
      cases f <;> simp [itemsV]
    | false => cases f <;> simp [itemsV]
  | k1 :: ks, ns, k, s, f, h => by
    cases m with
    | true =>
      cases ns with
      | nil => simp at h
      | cons s1 ns =>
        have ih := itemsV_snoc true ks ns k s false (fun _ => by simpa using h rfl)
        simp only [if_true, Bool.false_and, Bool.false_eq_true, if_false] at ih
        cases f <;> simp [itemsV, ih]
    | false =>
      have ih := itemsV_snoc false ks [] k s false (by simp)
      simp at ih
      cases f <;> simp [itemsV, ih]
theorem itemsV_take (m : Bool) : ∀ (ks : List JT) (ns : List Bs) (f : Bool) (k : Nat), ∃ r, itemsV m ns ks f = itemsV m (ns.take k) (ks.take k) f ++ r
  | [], ns, f, k => ⟨[], by simp [itemsV]⟩
  | x :: ks, ns, f, 0 => ⟨_, by simp [itemsV]; rfl⟩
  | x :: ks, ns, f, k + 1 => by
    obtain ⟨r, hr⟩ := itemsV_take m ks ns.tail false k
    refine ⟨r, ?_⟩
    cases ns with
    | nil => simp at hr; simp [itemsV, hr]
    | cons s ns => simp at hr; simp [itemsV, hr]
theorem kidsB_len (m : Bool) (ns : List Bs) (ks : List JT) (k : Nat) : (kidsB m ns ks k).length ≤ (itemsV m ns ks true).length := by
  obtain ⟨r, hr⟩ := itemsV_take m ks ns true k
  rw [hr, kidsB]
  simp
theorem kidsB_map {ns : List Bs} {ks : List JT} {k : Nat} (h : ns.length = ks.length) (hk : k < ks.length) :
    kidsB true ns ks (k + 1) = kidsB true ns ks k ++ ((if k = 0 then [] else [44]) ++ ((quote (ns[k]'(by omega)) ++ [58]) ++ writeV ks[k])) := by
  have e := itemsV_snoc true (ks.take k) (ns.take k) ks[k] (ns[k]'(by omega)) true (fun _ => by simp [h])
  simp only [if_true, Bool.true_and] at e
  rw [kidsB, List.take_succ_eq_append_getElem hk, List.take_succ_eq_append_getElem (by omega), e]
  cases k with
  | zero => simp [kidsB]
  | succ k =>
    have : (ks.take (k + 1)).isEmpty = false := by
      cases ks with
      | nil => simp at hk
      | cons a r => rfl
    rw [this]
    simp [kidsB]
theorem kidsB_list {ks : List JT} {k : Nat} (hk : k < ks.length) : kidsB false [] ks (k + 1) = kidsB false [] ks k ++ ((if k = 0 then [] else [44]) ++ writeV ks[k]) := by
  have e := itemsV_snoc false (ks.take k) [] ks[k] [] true (fun h => by cases h)
  simp only [Bool.false_eq_true, if_false, Bool.true_and, List.nil_append] at e
  rw [kidsB, List.take_succ_eq_append_getElem hk, List.take_nil, e]
  cases k with
  | zero => simp [kidsB]
  | succ k =>
    have : (ks.take (k + 1)).isEmpty = false := by
      cases ks with
      | nil => simp at hk
      | cons a r => rfl
    rw [this]
    simp [kidsB]
theorem itemsV_len (m : Bool) : ∀ (ks : List JT) (ns : List Bs) (f : Bool), ks.length ≤ (itemsV m ns ks f).length + 1
  | [], _, _ => by simp [itemsV]
  | [k], _, _ => by simp
  | k :: k2 :: r, ns, f => by
    have := itemsV_len2 m (k2 :: r) ns.tail
    rw [itemsV]
    simp only [List.length_append, List.length_cons] at this ⊢
    omega
where
  itemsV_len2 (m : Bool) : ∀ (ks : List JT) (ns : List Bs), ks.length ≤ (itemsV m ns ks false).length
  | [], _ => by simp [itemsV]
  | k :: r, ns => by
    have := itemsV_len2 m r ns.tail
    rw [itemsV]
    simp only [Bool.false_eq_true, if_false, List.length_append, List.length_cons, List.length_nil]
    omega
set_option maxRecDepth 100000 in
set_option maxHeartbeats 4000000 in
theorem wmap_any (d : Nat) (IH : WVal d) (v : JV) (hvk : v.k = 5) (ns : List Bs) (ks : List JT) (kv : List JV) (B p : Nat) (c : Bs) (w0 w : World)
    (hnr : RdS w (fun b => b < B) v.nA (rowsV sCell ns)) (hn : v.nn = ns.length) (hkn : v.kn = ks.length) (hkv : kv.length = ks.length) (hkr : RdS w (fun b => b < B) v.kA (rowsV jvCells kv))
    (hkids : ∀ i (h : i < ks.length) (h' : i < kv.length), JRep w (fun b => b < B) ks[i] kv[i]) (hright : ∀ x ∈ ks, rightV d x = true) (hlen : ns.length = ks.length)
    (hb : WB w0 B p c w) (hl : c.length + ((123 :: (itemsV true ns ks true ++ [125])) : Bs).length ≤ 1099511627776) :
    Calls Try.prog 34 #[.pointer (some ⟨p, 0, none⟩), .agg (jvCells v)] w fun e w' => e = .returned (.tuple #[]) ∧ ∃ c', Out c (123 :: (itemsV true ns ks true ++ [125])) c' ∧ WB w0 B p c' w' := by
  have hu := Try.underlying25
  obtain ⟨W0, hW0⟩ : ∃ W0, W0 = w.alloc (.cells (jvCells v) 25) := ⟨_, rfl⟩
  have hb0 : Below w.heap.size w W0 := by rw [hW0]; exact (Below.refl _ w).alloc (Nat.le_refl _) _
  obtain ⟨hBp, hpw⟩ := hb.1.lt
  obtain ⟨G, hG⟩ : ∃ G, G = w.heap.size := ⟨_, rfl⟩
  have HG := Lib.hid (show p < G by omega)
  have hG0 : W0.heap.size = G + 1 := by rw [hW0, hG]; simp
  have HKB := Lib.hid (show Blk W0 G 25 (jvCells v) by rw [hW0, hG]; exact Blk.new _ _ _)
  have HS := Lib.hid (show BK B p w0 W0 from hb.2.trans (.all hb0 (by omega)))
  have HB := Lib.hid (show WB W0 B p c W0 from ⟨hb.1.below hb0, BK.refl _ _ _⟩)
  have HKR := Lib.hid (show Rd W0 B v.kA (rowsV jvCells kv) from (hkr.rd (fun _ _ h => h)).below (hb0.mono (by omega)))
  have HNR := Lib.hid (show Rd W0 B v.nA (rowsV sCell ns) from (hnr.rd (fun _ _ h => h)).below (hb0.mono (by omega)))
  have HKD := Lib.hid (show ∀ i (h : i < ks.length) (h' : i < kv.length), JRep W0 (fun b => b < B) ks[i] kv[i] from fun i h h' => (hkids i h h').under (hb0.mono (by omega)))
  have HRI := Lib.hid hright
  have HL := Lib.hid hl
  have HLEN := Lib.hid hlen
  have HKV := Lib.hid hkv
  obtain ⟨n, hnn⟩ : ∃ n, n = ks.length := ⟨_, rfl⟩
  have HN := Lib.hid hnn
  have HBP := Lib.hid hBp
  have HNL := Lib.hid (show (v.nn : Int) = (ns.length : Int) by rw [hn])
  have HNS := Lib.hid (show (n : Int) ≤ 1099511627776 by
    have h1 := itemsV_len true ks ns true
    have h2 := hl
    simp at h2
    omega)
  have HW0 := Lib.hid hW0
  have CB := Lib.hid (fun (c : Bs) (x : UInt8) (u : World) (h : IsB u B 46 p c) (h2 : c.length + 1 ≤ 140737488355328) => bld_byte jwT B p c x u h h2)
  have CT := Lib.hid (fun (s : ByteArray) (c : Bs) (u : World) (h : IsB u B 46 p c) (h2 : c.length + (quote s.data.toList).length ≤ 1099511627776) => wtext_any s B p c u u ⟨h, BK.refl _ _ _⟩ h2)
  unfold byteV at CB
  obtain ⟨vk, vn, vt, nA, nn, nc, kA, kn, kc⟩ := v
  dsimp only at *
  subst hvk
  obtain rfl : kn = n := by rw [hkn, hnn]
  have a0 : W0.cell? ⟨G, 0, none⟩ = some (.int .i64 5) := HKB.out.cell 0
  have a4 : W0.cell? ⟨G, 4, none⟩ = some (.slice kA kn kc) := HKB.out.cell 4
  clear hb hb0 hG0 hW0 hnr hkr hkids hright hl hlen hkv hnn hn hkn hBp hpw
  rw [hG] at *
  clear hG
  go_enter Try.func34, Try.ntmps34
  go_upto_region 1 with (fail)
  rw [← HW0.out]
  go_wp2_with fail
  have HC0 := HB.out.drew
  clear a0 a4
  refine wp_region_det (fun u => WB W0 B p c u) (fun u => WB W0 B p (c ++ [123]) u) [(0, some 10), (1, some 11), (2, some 12), (3, some 13), (4, some 14), (5, some 15)] (by kernel_rfl) (by kernel_rfl) (by decide) (by kernel_rfl) (fun _ => rfl) HC0 ?_
  apply DetL.next
  · -- 0: Op.move (Operand.tmp 0)
    apply detStep_plain []
    exact fun _ => rfl
    rfl
    rintro vals - w1 hC1 E hE
    simp only [puts, act_put, act_put_none, List.setIfInBounds_toArray, List.set_cons_zero, List.set_cons_succ] at hE ⊢
    go_wp2
    exact .mk (hE _ hC1)
  apply DetL.next
  · -- 1: Op.nilCheck (Operand.tmp 10)
    apply detStep_plain [(0, some 10)]
    exact fun _ => rfl
    rfl
    rintro vals ⟨-, f0⟩ w1 hC1 E hE
    simp only [puts, act_put, act_put_none, List.setIfInBounds_toArray, List.set_cons_zero, List.set_cons_succ, f0] at hE ⊢
    clear f0
    go_wp2
    exact .mk (hE _ hC1)
  apply DetL.next
  · -- 2: Op.fieldAddr 46 (Operand.tmp 11) 0
    apply detStep_plain [(1, some 11)]
    exact fun _ => rfl
    rfl
    rintro vals ⟨⟨-, -⟩, f1⟩ w1 hC1 E hE
    simp only [puts, act_put, act_put_none, List.setIfInBounds_toArray, List.set_cons_zero, List.set_cons_succ, f1] at hE ⊢
    clear f1
    go_wp2
    exact .mk (hE _ hC1)
  apply DetL.next
  · -- 3: Op.move (Operand.tmp 4)
    apply detStep_plain []
    exact fun _ => rfl
    rfl
    rintro vals ⟨⟨⟨-, -⟩, -⟩, -⟩ w1 hC1 E hE
    simp only [puts, act_put, act_put_none, List.setIfInBounds_toArray, List.set_cons_zero, List.set_cons_succ] at hE ⊢
    go_wp2
    exact .mk (hE _ hC1)
  apply DetL.next (v := .int .u8 123)
  · -- 4: Op.index 9 (Operand.tmp 13) (Operand.const (Value.int IntKind.i64 0))
    apply detStep_plain [(3, some 13)]
    exact fun _ => rfl
    rfl
    rintro vals ⟨⟨⟨⟨-, -⟩, -⟩, -⟩, f3⟩ w1 hC1 E hE
    simp only [puts, act_put, act_put_none, List.setIfInBounds_toArray, List.set_cons_zero, List.set_cons_succ, f3] at hE ⊢
    clear f3
    go_wp2
    exact .mk (hE _ hC1)
  apply DetL.last
  · -- 5: Op.call { callee := Callee.value (Operand.func 44), args := #[Operand.tmp 12, Operand.tmp 14], argTypes := #[4
    apply detStep_plain [(2, some 12), (4, some 14)]
    exact fun _ => rfl
    rfl
    rintro vals ⟨⟨⟨⟨⟨-, -⟩, -⟩, f2⟩, -⟩, f4⟩ w1 hC1 E hE
    simp only [puts, act_put, act_put_none, List.setIfInBounds_toArray, List.set_cons_zero, List.set_cons_succ, f2, f4] at hE ⊢
    clear f2 f4
    go_wp2_with fail
    refine calls_then (CB.out c 123 _ hC1.1 (by have := HL.out; simp at this; omega)) ?_
    rintro e w2 ⟨rfl, hb2, hw2⟩
    go_wp2_with fail
    exact .mk (hE _ (hC1.next hb2 hw2))
  rintro vals ⟨⟨⟨⟨⟨⟨-, f0⟩, f1⟩, f2⟩, f3⟩, f4⟩, f5⟩ w1 hC1
  simp only [puts, act_put, act_put_none, List.setIfInBounds_toArray, List.set_cons_zero, List.set_cons_succ, f0, f1, f2, f3, f4, f5]
  clear f0 f1 f2 f3 f4 f5
  have HB1 := Lib.hid hC1
  have hkb1 := hC1.2.blk HKB.out (by have := HG.out; omega) (by decide)
  have a4 : w1.cell? ⟨w.heap.size, 4, none⟩ = some (.slice kA kn kc) := hkb1.cell 4
  clear HC0 hC1 hkb1
  go_wp2_with fail
  go_loopw [19] (fun x wr => ∃ (i : Nat) (c' : Bs), i ≤ kn ∧ x = .int .i64 (i : Int) ∧ Out (c ++ [123]) (kidsB true ns ks i) c' ∧ WB W0 B p c' wr) (fun x _ => kn - (intOf x).toNat)
  case atStart => exact ⟨0, _, by omega, rfl, by simp [kidsB, itemsV]; exact Out.refl _, HB1.out⟩
  case round =>
    obtain ⟨i, c', hi, rfl, hout, hwr⟩ := hrel
    have HO := Lib.hid hout
    have HWR := Lib.hid hwr
    clear hout hwr
    by_cases hlt : i < kn
    · have hik : i < ks.length := by rw [← HN.out]; exact hlt
      have hiv : i < kv.length := by rw [HKV.out]; exact hik
      have hlt' : (i : Int) < (kn : Int) := by omega
      have HLT := Lib.hid hlt
      obtain ⟨ad, hA, hadb, hcell⟩ := rd_rows (f := jvCells) (m := 5) (fun _ => rfl) (by decide) HKR.out hiv
      subst hA
      obtain ⟨X, hX⟩ : ∃ X, X = kv[i] := ⟨_, rfl⟩
      obtain ⟨J, hJ⟩ : ∃ J, J = ks[i] := ⟨_, rfl⟩
      have HJX := Lib.hid (show JRep W0 (fun b => b < B) J X by rw [hX, hJ]; exact HKD.out i hik hiv)
      have HJR := Lib.hid (show rightV d J = true by rw [hJ]; exact HRI.out _ (List.getElem_mem hik))
      have HST := StepK.mk (show kidsB true ns ks (i + 1) = kidsB true ns ks i ++ ((if i = 0 then [] else [44]) ++ ((quote (ns[i]'(by rw [HLEN.out]; exact hik)) ++ [58]) ++ writeV J)) by rw [hJ]; exact kidsB_map HLEN.out hik)
      have HLN := Lib.hid (show (c ++ [123]).length + (kidsB true ns ks (i + 1)).length ≤ 1099511627776 by
        have h1 := kidsB_len true ns ks (i + 1)
        have h2 := HL.out
        simp at h2 ⊢
        omega)
      rw [← hX] at hcell
      have HCE := Lib.hid (show ∀ u, Below B W0 u → ∀ j x, (jvCells X).toList[j]? = some x → u.cell? ((ad.add (i * 5)).add j) = some x from fun u hu j x hx => by
        rw [hu.cell (p := (ad.add (i * 5)).add j) (by rw [block_of_add, block_of_add]; exact hadb)]
        exact hcell j x (by simpa using hx))
      obtain ⟨ad2, hA2, hadb2, hcell2⟩ := rd_rows (f := sCell) (m := 1) (fun _ => rfl) (by decide) HNR.out (show i < ns.length by rw [HLEN.out]; exact hik)
      subst hA2
      obtain ⟨Sx, hSx⟩ : ∃ s, s = ns[i]'(by rw [HLEN.out]; exact hik) := ⟨_, rfl⟩
      rw [← hSx] at HST hcell2
      have HSC := Lib.hid (show ∀ u, Below B W0 u → u.cell? (ad2.add i) = some (.string (bs Sx)) from fun u hu => by
        rw [hu.cell (p := ad2.add i) (by rw [block_of_add]; exact hadb2)]
        have h := hcell2 0 _ rfl
        rw [Nat.mul_one] at h
        exact h)
      clear hSx hcell2
      clear hX hJ hcell hik hiv
      go_upto_if 25 with (first
        | (refine wpList_get_rd (r := (jvCells X).toList) (HCE.out _ HWR.out.2.below) rfl rfl rfl hu rfl jT_size ?_)
        | (refine wpList_put_box (x := .tmp 6) (cells := jvCells X) (Blk.new _ _ _) rfl rfl rfl rfl jT_size rfl (jvCells_one X) ?_; intro w2 hb2 hw2; have hk2 := box_low9 hw2; have HK2 := Lib.hid (Blk.keep9 hb2); have HW2 := Lib.hid (show WB W0 B p c' w2 from ⟨HWR.out.1.below hk2, HWR.out.2.trans (.all hk2 (by have := HWR.out.1.lt; omega))⟩); have HSZ := Lib.hid (show p < wr.heap.size from HWR.out.1.lt.2)))
      generalize hkb : wr.heap.size = kb at *
      go_cut [] (fun wx => ∃ c1 : Bs, Out (c ++ [123]) (kidsB true ns ks i ++ (if i = 0 then [] else [44])) c1 ∧ WB W0 B p c1 wx ∧ Blk wx kb 25 (jvCells X))
      case first =>
        go_wp2_with fail
        · have H0 := Lib.hid (show ¬ i = 0 by omega)
          refine calls_then (CB.out c' 44 _ HW2.out.1 (by have h1 := HO.out.2.1; have h2 := HLN.out; rw [HST.eq] at h2; simp at h1 h2; omega)) ?_
          rintro e w3 ⟨rfl, hb3, hw3⟩
          have HW3 := Lib.hid (HW2.out.next hb3 hw3)
          have HK3 := Lib.hid (hw3.blk HK2.out (by have := HSZ.out; omega) (by decide))
          clear hb3 hw3
          go_wp2_with fail
          go_meet
          exact ⟨_, by rw [if_neg H0.out]; exact HO.out.trans (Out.all _ _), HW3.out, HK3.out⟩
        · have H0 := Lib.hid (show i = 0 by omega)
          go_meet
          exact ⟨c', by rw [if_pos H0.out, List.append_nil]; exact HO.out, HW2.out, HK2.out⟩
      case rest =>
      obtain ⟨c1, hout1, hw3, hk3⟩ := hcut
      have HO1 := Lib.hid hout1
      have HW3 := Lib.hid hw3
      have HK3 := Lib.hid hk3
      have hkb3 := hw3.2.blk HKB.out (by have := HG.out; omega) (by decide)
      have a0 : wc.cell? ⟨w.heap.size, 0, none⟩ = some (.int .i64 5) := hkb3.cell 0
      have HT := Lib.hid (show (c ++ [123]).length + ((kidsB true ns ks i).length + (if i = 0 then [] else [44] : Bs).length) + ((quote Sx).length + 1 + (writeV J).length) ≤ 1099511627776 by
        have h2 := HLN.out
        rw [HST.eq] at h2
        simp only [List.length_append, List.length_cons, List.length_nil] at h2 ⊢
        omega)
      have HT1 := Lib.hid (show c1.length ≤ (c ++ [123]).length + ((kidsB true ns ks i).length + (if i = 0 then [] else [44] : Bs).length) by
        have h1 := HO1.out.2.1
        rw [app_len (kidsB true ns ks i)] at h1
        exact h1)
      have a3 : wc.cell? ⟨w.heap.size, 3, none⟩ = some (.slice (some ad2) nn nc) := hkb3.cell 3
      have hsc := HSC.out wc hw3.2.below
      have hnl := HNL.out
      have hin : (i : Int) < (nn : Int) := by rw [hnl, HLEN.out, ← HN.out]; exact hlt'
      clear hnl
      go_wp2_with fail
      refine calls_then (CT.out _ c1 _ HW3.out.1 (by have h1 := HT.out; have h2 := HT1.out; rw [show (bs Sx).data.toList = Sx from rfl]; omega)) ?_
      rintro e w4 ⟨rfl, hb4, hw4⟩
      have HW4 := Lib.hid (show WB W0 B p (c1 ++ quote Sx) w4 from HW3.out.next hb4 hw4)
      have HK4 := Lib.hid (hw4.blk HK3.out (by have := HSZ.out; omega) (by decide))
      clear hb4 hw4
      go_wp2_with fail
      refine calls_then (CB.out _ 58 _ HW4.out.1 (by have h1 := HT.out; have h2 := HT1.out; simp only [List.length_append] at h1 h2 ⊢; omega)) ?_
      rintro e w5 ⟨rfl, hb5, hw5⟩
      have HW5 := Lib.hid (HW4.out.next hb5 hw5)
      have HK5 := Lib.hid (hw5.blk HK4.out (by have := HSZ.out; omega) (by decide))
      clear hb5 hw5
      go_wp2_with (refine wpList_get_box (x := .tmp 6) (cs := jvCells X) HK5.out rfl rfl rfl hu rfl jT_size ?_)
      clear hout1 hw3 hk3 hkb3
      refine calls_then (IH J X B p (c1 ++ quote Sx ++ [58]) W0 _ HJR.out (HJX.out.under HW5.out.2.below) HW5.out (by have h1 := HT.out; have h2 := HT1.out; simp only [List.length_append, List.length_cons, List.length_nil] at h1 h2 ⊢; omega)) ?_
      rintro e w6 ⟨rfl, c4, ho4, hw6⟩
      have HO4 := Lib.hid ho4
      have HW6 := Lib.hid hw6
      clear ho4 hw6
      have hns := HNS.out
      have hlt9 := HLT.out
      go_wp2_with fail
      go_roundw
      case rel => exact ⟨i + 1, c4, HLT.out, by go_num, by rw [HST.eq]; have h := ((HO1.out.trans (Out.all c1 (quote Sx))).trans (Out.all _ [58])).trans HO4.out; simpa only [List.append_assoc] using h, HW6.out⟩
      case measure => have := HLT.out; simp [intOf]; omega
    · obtain rfl : i = kn := by omega
      have HCL := Lib.hid (show c'.length + 1 ≤ 140737488355328 by
        have h1 := HO.out.2.1
        have h2 := kidsB_len true ns ks i
        have h3 := HL.out
        simp at h1 h3
        omega)
      have HC0 := HWR.out.drew
      go_wp2_with fail
      refine wp_region_det (fun u => WB W0 B p c' u) (fun u => WB W0 B p (c' ++ [125]) u) [(0, some 48), (1, some 49), (2, some 50), (3, some 51), (4, some 52), (5, some 53)] (by kernel_rfl) (by kernel_rfl) (by decide) (by kernel_rfl) (fun _ => rfl) HC0 ?_
      apply DetL.next
      · -- 0: Op.move (Operand.tmp 0)
        apply detStep_plain []
        exact fun _ => rfl
        rfl
        rintro vals - w1 hC1 E hE
        simp only [puts, act_put, act_put_none, List.setIfInBounds_toArray, List.set_cons_zero, List.set_cons_succ] at hE ⊢
        go_wp2
        exact .mk (hE _ hC1)
      apply DetL.next
      · -- 1: Op.nilCheck (Operand.tmp 48)
        apply detStep_plain [(0, some 48)]
        exact fun _ => rfl
        rfl
        rintro vals ⟨-, f0⟩ w1 hC1 E hE
        simp only [puts, act_put, act_put_none, List.setIfInBounds_toArray, List.set_cons_zero, List.set_cons_succ, f0] at hE ⊢
        clear f0
        go_wp2
        exact .mk (hE _ hC1)
      apply DetL.next
      · -- 2: Op.fieldAddr 46 (Operand.tmp 49) 0
        apply detStep_plain [(1, some 49)]
        exact fun _ => rfl
        rfl
        rintro vals ⟨⟨-, -⟩, f1⟩ w1 hC1 E hE
        simp only [puts, act_put, act_put_none, List.setIfInBounds_toArray, List.set_cons_zero, List.set_cons_succ, f1] at hE ⊢
        clear f1
        go_wp2
        exact .mk (hE _ hC1)
      apply DetL.next
      · -- 3: Op.move (Operand.tmp 4)
        apply detStep_plain []
        exact fun _ => rfl
        rfl
        rintro vals ⟨⟨⟨-, -⟩, -⟩, -⟩ w1 hC1 E hE
        simp only [puts, act_put, act_put_none, List.setIfInBounds_toArray, List.set_cons_zero, List.set_cons_succ] at hE ⊢
        go_wp2
        exact .mk (hE _ hC1)
      apply DetL.next (v := .int .u8 125)
      · -- 4: Op.index 9 (Operand.tmp 51) (Operand.const (Value.int IntKind.i64 1))
        apply detStep_plain [(3, some 51)]
        exact fun _ => rfl
        rfl
        rintro vals ⟨⟨⟨⟨-, -⟩, -⟩, -⟩, f3⟩ w1 hC1 E hE
        simp only [puts, act_put, act_put_none, List.setIfInBounds_toArray, List.set_cons_zero, List.set_cons_succ, f3] at hE ⊢
        clear f3
        go_wp2
        exact .mk (hE _ hC1)
      apply DetL.last
      · -- 5: Op.call { callee := Callee.value (Operand.func 44), args := #[Operand.tmp 50, Operand.tmp 52], argTypes := #[4
        apply detStep_plain [(2, some 50), (4, some 52)]
        exact fun _ => rfl
        rfl
        rintro vals ⟨⟨⟨⟨⟨-, -⟩, -⟩, f2⟩, -⟩, f4⟩ w1 hC1 E hE
        simp only [puts, act_put, act_put_none, List.setIfInBounds_toArray, List.set_cons_zero, List.set_cons_succ, f2, f4] at hE ⊢
        clear f2 f4
        go_wp2_with fail
        refine calls_then (CB.out c' 125 _ hC1.1 HCL.out) ?_
        rintro e w2 ⟨rfl, hb2, hw2⟩
        go_wp2_with fail
        exact .mk (hE _ (hC1.next hb2 hw2))
      rintro vals ⟨⟨⟨⟨⟨⟨-, f0⟩, f1⟩, f2⟩, f3⟩, f4⟩, f5⟩ w1 hC1
      simp only [puts, act_put, act_put_none, List.setIfInBounds_toArray, List.set_cons_zero, List.set_cons_succ, f0, f1, f2, f3, f4, f5]
      clear f0 f1 f2 f3 f4 f5
      have HR := Lib.hid hC1
      clear hC1 HC0
      go_wp2_with fail
      go_end0
      refine ⟨rfl, _, ?_, ⟨HR.out.1, HS.out.trans HR.out.2⟩⟩
      have hall : kidsB true ns ks i = itemsV true ns ks true := by
        rw [kidsB, HN.out, List.take_length]
        rw [← HLEN.out, List.take_length]
      have h := ((Out.all c [123]).trans HO.out).trans (Out.all c' [125])
      rw [hall] at h
      simpa only [List.append_assoc, List.cons_append, List.nil_append] using h
set_option maxRecDepth 100000 in
set_option maxHeartbeats 4000000 in
theorem wlist_any (d : Nat) (IH : WVal d) (v : JV) (hvk : v.k = 4) (ns : List Bs) (ks : List JT) (kv : List JV) (B p : Nat) (c : Bs) (w0 w : World)
    (hnr : RdS w (fun b => b < B) v.nA (rowsV sCell ns)) (hn : v.nn = ns.length) (hkn : v.kn = ks.length) (hkv : kv.length = ks.length) (hkr : RdS w (fun b => b < B) v.kA (rowsV jvCells kv))
    (hkids : ∀ i (h : i < ks.length) (h' : i < kv.length), JRep w (fun b => b < B) ks[i] kv[i]) (hright : ∀ x ∈ ks, rightV d x = true) (hlen : ns = [])
    (hb : WB w0 B p c w) (hl : c.length + ((91 :: (itemsV false ns ks true ++ [93])) : Bs).length ≤ 1099511627776) :
    Calls Try.prog 34 #[.pointer (some ⟨p, 0, none⟩), .agg (jvCells v)] w fun e w' => e = .returned (.tuple #[]) ∧ ∃ c', Out c (91 :: (itemsV false ns ks true ++ [93])) c' ∧ WB w0 B p c' w' := by
  have hu := Try.underlying25
  obtain ⟨W0, hW0⟩ : ∃ W0, W0 = w.alloc (.cells (jvCells v) 25) := ⟨_, rfl⟩
  have hb0 : Below w.heap.size w W0 := by rw [hW0]; exact (Below.refl _ w).alloc (Nat.le_refl _) _
  obtain ⟨hBp, hpw⟩ := hb.1.lt
  obtain ⟨G, hG⟩ : ∃ G, G = w.heap.size := ⟨_, rfl⟩
  have HG := Lib.hid (show p < G by omega)
  have hG0 : W0.heap.size = G + 1 := by rw [hW0, hG]; simp
  have HKB := Lib.hid (show Blk W0 G 25 (jvCells v) by rw [hW0, hG]; exact Blk.new _ _ _)
  have HS := Lib.hid (show BK B p w0 W0 from hb.2.trans (.all hb0 (by omega)))
  have HB := Lib.hid (show WB W0 B p c W0 from ⟨hb.1.below hb0, BK.refl _ _ _⟩)
  have HKR := Lib.hid (show Rd W0 B v.kA (rowsV jvCells kv) from (hkr.rd (fun _ _ h => h)).below (hb0.mono (by omega)))
  have HNR := Lib.hid (show Rd W0 B v.nA (rowsV sCell ns) from (hnr.rd (fun _ _ h => h)).below (hb0.mono (by omega)))
  have HKD := Lib.hid (show ∀ i (h : i < ks.length) (h' : i < kv.length), JRep W0 (fun b => b < B) ks[i] kv[i] from fun i h h' => (hkids i h h').under (hb0.mono (by omega)))
  have HRI := Lib.hid hright
  have HL := Lib.hid hl
  have HLEN := Lib.hid hlen
  have HKV := Lib.hid hkv
  obtain ⟨n, hnn⟩ : ∃ n, n = ks.length := ⟨_, rfl⟩
  have HN := Lib.hid hnn
  have HBP := Lib.hid hBp
  have HNL := Lib.hid (show (v.nn : Int) = (ns.length : Int) by rw [hn])
  have HNS := Lib.hid (show (n : Int) ≤ 1099511627776 by
    have h1 := itemsV_len false ks ns true
    have h2 := hl
    simp at h2
    omega)
  have HW0 := Lib.hid hW0
  have CB := Lib.hid (fun (c : Bs) (x : UInt8) (u : World) (h : IsB u B 46 p c) (h2 : c.length + 1 ≤ 140737488355328) => bld_byte jwT B p c x u h h2)
  have CT := Lib.hid (fun (s : ByteArray) (c : Bs) (u : World) (h : IsB u B 46 p c) (h2 : c.length + (quote s.data.toList).length ≤ 1099511627776) => wtext_any s B p c u u ⟨h, BK.refl _ _ _⟩ h2)
  unfold byteV at CB
  obtain ⟨vk, vn, vt, nA, nn, nc, kA, kn, kc⟩ := v
  dsimp only at *
  subst hvk
  obtain rfl : kn = n := by rw [hkn, hnn]
  have a0 : W0.cell? ⟨G, 0, none⟩ = some (.int .i64 4) := HKB.out.cell 0
  have a4 : W0.cell? ⟨G, 4, none⟩ = some (.slice kA kn kc) := HKB.out.cell 4
  clear hb hb0 hG0 hW0 hnr hkr hkids hright hl hlen hkv hnn hn hkn hBp hpw
  rw [hG] at *
  clear hG
  go_enter Try.func34, Try.ntmps34
  go_upto_region 1 with (fail)
  rw [← HW0.out]
  go_wp2_with fail
  have HC0 := HB.out.drew
  clear a0 a4
  refine wp_region_det (fun u => WB W0 B p c u) (fun u => WB W0 B p (c ++ [91]) u) [(0, some 10), (1, some 11), (2, some 12), (3, some 13), (4, some 14), (5, some 15)] (by kernel_rfl) (by kernel_rfl) (by decide) (by kernel_rfl) (fun _ => rfl) HC0 ?_
  apply DetL.next
  · -- 0: Op.move (Operand.tmp 0)
    apply detStep_plain []
    exact fun _ => rfl
    rfl
    rintro vals - w1 hC1 E hE
    simp only [puts, act_put, act_put_none, List.setIfInBounds_toArray, List.set_cons_zero, List.set_cons_succ] at hE ⊢
    go_wp2
    exact .mk (hE _ hC1)
  apply DetL.next
  · -- 1: Op.nilCheck (Operand.tmp 10)
    apply detStep_plain [(0, some 10)]
    exact fun _ => rfl
    rfl
    rintro vals ⟨-, f0⟩ w1 hC1 E hE
    simp only [puts, act_put, act_put_none, List.setIfInBounds_toArray, List.set_cons_zero, List.set_cons_succ, f0] at hE ⊢
    clear f0
    go_wp2
    exact .mk (hE _ hC1)
  apply DetL.next
  · -- 2: Op.fieldAddr 46 (Operand.tmp 11) 0
    apply detStep_plain [(1, some 11)]
    exact fun _ => rfl
    rfl
    rintro vals ⟨⟨-, -⟩, f1⟩ w1 hC1 E hE
    simp only [puts, act_put, act_put_none, List.setIfInBounds_toArray, List.set_cons_zero, List.set_cons_succ, f1] at hE ⊢
    clear f1
    go_wp2
    exact .mk (hE _ hC1)
  apply DetL.next
  · -- 3: Op.move (Operand.tmp 4)
    apply detStep_plain []
    exact fun _ => rfl
    rfl
    rintro vals ⟨⟨⟨-, -⟩, -⟩, -⟩ w1 hC1 E hE
    simp only [puts, act_put, act_put_none, List.setIfInBounds_toArray, List.set_cons_zero, List.set_cons_succ] at hE ⊢
    go_wp2
    exact .mk (hE _ hC1)
  apply DetL.next (v := .int .u8 91)
  · -- 4: Op.index 9 (Operand.tmp 13) (Operand.const (Value.int IntKind.i64 0))
    apply detStep_plain [(3, some 13)]
    exact fun _ => rfl
    rfl
    rintro vals ⟨⟨⟨⟨-, -⟩, -⟩, -⟩, f3⟩ w1 hC1 E hE
    simp only [puts, act_put, act_put_none, List.setIfInBounds_toArray, List.set_cons_zero, List.set_cons_succ, f3] at hE ⊢
    clear f3
    go_wp2
    exact .mk (hE _ hC1)
  apply DetL.last
  · -- 5: Op.call { callee := Callee.value (Operand.func 44), args := #[Operand.tmp 12, Operand.tmp 14], argTypes := #[4
    apply detStep_plain [(2, some 12), (4, some 14)]
    exact fun _ => rfl
    rfl
    rintro vals ⟨⟨⟨⟨⟨-, -⟩, -⟩, f2⟩, -⟩, f4⟩ w1 hC1 E hE
    simp only [puts, act_put, act_put_none, List.setIfInBounds_toArray, List.set_cons_zero, List.set_cons_succ, f2, f4] at hE ⊢
    clear f2 f4
    go_wp2_with fail
    refine calls_then (CB.out c 91 _ hC1.1 (by have := HL.out; simp at this; omega)) ?_
    rintro e w2 ⟨rfl, hb2, hw2⟩
    go_wp2_with fail
    exact .mk (hE _ (hC1.next hb2 hw2))
  rintro vals ⟨⟨⟨⟨⟨⟨-, f0⟩, f1⟩, f2⟩, f3⟩, f4⟩, f5⟩ w1 hC1
  simp only [puts, act_put, act_put_none, List.setIfInBounds_toArray, List.set_cons_zero, List.set_cons_succ, f0, f1, f2, f3, f4, f5]
  clear f0 f1 f2 f3 f4 f5
  have HB1 := Lib.hid hC1
  have hkb1 := hC1.2.blk HKB.out (by have := HG.out; omega) (by decide)
  have a4 : w1.cell? ⟨w.heap.size, 4, none⟩ = some (.slice kA kn kc) := hkb1.cell 4
  clear HC0 hC1 hkb1
  go_wp2_with fail
  go_loopw [19] (fun x wr => ∃ (i : Nat) (c' : Bs), i ≤ kn ∧ x = .int .i64 (i : Int) ∧ Out (c ++ [91]) (kidsB false ns ks i) c' ∧ WB W0 B p c' wr) (fun x _ => kn - (intOf x).toNat)
  case atStart => exact ⟨0, _, by omega, rfl, by simp [kidsB, itemsV]; exact Out.refl _, HB1.out⟩
  case round =>
    obtain ⟨i, c', hi, rfl, hout, hwr⟩ := hrel
    have HO := Lib.hid hout
    have HWR := Lib.hid hwr
    clear hout hwr
    by_cases hlt : i < kn
    · have hik : i < ks.length := by rw [← HN.out]; exact hlt
      have hiv : i < kv.length := by rw [HKV.out]; exact hik
      have hlt' : (i : Int) < (kn : Int) := by omega
      have HLT := Lib.hid hlt
      obtain ⟨ad, hA, hadb, hcell⟩ := rd_rows (f := jvCells) (m := 5) (fun _ => rfl) (by decide) HKR.out hiv
      subst hA
      obtain ⟨X, hX⟩ : ∃ X, X = kv[i] := ⟨_, rfl⟩
      obtain ⟨J, hJ⟩ : ∃ J, J = ks[i] := ⟨_, rfl⟩
      have HJX := Lib.hid (show JRep W0 (fun b => b < B) J X by rw [hX, hJ]; exact HKD.out i hik hiv)
      have HJR := Lib.hid (show rightV d J = true by rw [hJ]; exact HRI.out _ (List.getElem_mem hik))
      have HST := StepK.mk (show kidsB false ns ks (i + 1) = kidsB false ns ks i ++ ((if i = 0 then [] else [44]) ++ writeV J) by rw [hJ, HLEN.out]; exact kidsB_list hik)
      have HLN := Lib.hid (show (c ++ [91]).length + (kidsB false ns ks (i + 1)).length ≤ 1099511627776 by
        have h1 := kidsB_len false ns ks (i + 1)
        have h2 := HL.out
        simp at h2 ⊢
        omega)
      rw [← hX] at hcell
      have HCE := Lib.hid (show ∀ u, Below B W0 u → ∀ j x, (jvCells X).toList[j]? = some x → u.cell? ((ad.add (i * 5)).add j) = some x from fun u hu j x hx => by
        rw [hu.cell (p := (ad.add (i * 5)).add j) (by rw [block_of_add, block_of_add]; exact hadb)]
        exact hcell j x (by simpa using hx))
      clear hX hJ hcell hik hiv
      go_upto_if 25 with (first
        | (refine wpList_get_rd (r := (jvCells X).toList) (HCE.out _ HWR.out.2.below) rfl rfl rfl hu rfl jT_size ?_)
        | (refine wpList_put_box (x := .tmp 6) (cells := jvCells X) (Blk.new _ _ _) rfl rfl rfl rfl jT_size rfl (jvCells_one X) ?_; intro w2 hb2 hw2; have hk2 := box_low9 hw2; have HK2 := Lib.hid (Blk.keep9 hb2); have HW2 := Lib.hid (show WB W0 B p c' w2 from ⟨HWR.out.1.below hk2, HWR.out.2.trans (.all hk2 (by have := HWR.out.1.lt; omega))⟩); have HSZ := Lib.hid (show p < wr.heap.size from HWR.out.1.lt.2)))
      generalize hkb : wr.heap.size = kb at *
      go_cut [] (fun wx => ∃ c1 : Bs, Out (c ++ [91]) (kidsB false ns ks i ++ (if i = 0 then [] else [44])) c1 ∧ WB W0 B p c1 wx ∧ Blk wx kb 25 (jvCells X))
      case first =>
        go_wp2_with fail
        · have H0 := Lib.hid (show ¬ i = 0 by omega)
          refine calls_then (CB.out c' 44 _ HW2.out.1 (by have h1 := HO.out.2.1; have h2 := HLN.out; rw [HST.eq] at h2; simp at h1 h2; omega)) ?_
          rintro e w3 ⟨rfl, hb3, hw3⟩
          have HW3 := Lib.hid (HW2.out.next hb3 hw3)
          have HK3 := Lib.hid (hw3.blk HK2.out (by have := HSZ.out; omega) (by decide))
          clear hb3 hw3
          go_wp2_with fail
          go_meet
          exact ⟨_, by rw [if_neg H0.out]; exact HO.out.trans (Out.all _ _), HW3.out, HK3.out⟩
        · have H0 := Lib.hid (show i = 0 by omega)
          go_meet
          exact ⟨c', by rw [if_pos H0.out, List.append_nil]; exact HO.out, HW2.out, HK2.out⟩
      case rest =>
      obtain ⟨c1, hout1, hw3, hk3⟩ := hcut
      have HO1 := Lib.hid hout1
      have HW3 := Lib.hid hw3
      have HK3 := Lib.hid hk3
      have hkb3 := hw3.2.blk HKB.out (by have := HG.out; omega) (by decide)
      have a0 : wc.cell? ⟨w.heap.size, 0, none⟩ = some (.int .i64 4) := hkb3.cell 0
      have HT := Lib.hid (show (c ++ [91]).length + ((kidsB false ns ks i).length + (if i = 0 then [] else [44] : Bs).length) + ((writeV J).length) ≤ 1099511627776 by
        have h2 := HLN.out
        rw [HST.eq] at h2
        simp only [List.length_append, List.length_cons, List.length_nil] at h2 ⊢
        omega)
      have HT1 := Lib.hid (show c1.length ≤ (c ++ [91]).length + ((kidsB false ns ks i).length + (if i = 0 then [] else [44] : Bs).length) by
        have h1 := HO1.out.2.1
        rw [app_len (kidsB false ns ks i)] at h1
        exact h1)
      go_wp2_with (refine wpList_get_box (x := .tmp 6) (cs := jvCells X) HK3.out rfl rfl rfl hu rfl jT_size ?_)
      have HW5 := Lib.hid HW3.out
      clear hout1 hw3 hk3 hkb3
      refine calls_then (IH J X B p c1 W0 _ HJR.out (HJX.out.under HW5.out.2.below) HW5.out (by have h1 := HT.out; have h2 := HT1.out; simp only [List.length_append, List.length_cons, List.length_nil] at h1 h2 ⊢; omega)) ?_
      rintro e w6 ⟨rfl, c4, ho4, hw6⟩
      have HO4 := Lib.hid ho4
      have HW6 := Lib.hid hw6
      clear ho4 hw6
      have hns := HNS.out
      have hlt9 := HLT.out
      go_wp2_with fail
      go_roundw
      case rel => exact ⟨i + 1, c4, HLT.out, by go_num, by rw [HST.eq]; have h := HO1.out.trans HO4.out; simpa only [List.append_assoc] using h, HW6.out⟩
      case measure => have := HLT.out; simp [intOf]; omega
    · obtain rfl : i = kn := by omega
      have HCL := Lib.hid (show c'.length + 1 ≤ 140737488355328 by
        have h1 := HO.out.2.1
        have h2 := kidsB_len false ns ks i
        have h3 := HL.out
        simp at h1 h3
        omega)
      have HC0 := HWR.out.drew
      go_wp2_with fail
      refine wp_region_det (fun u => WB W0 B p c' u) (fun u => WB W0 B p (c' ++ [93]) u) [(0, some 48), (1, some 49), (2, some 50), (3, some 51), (4, some 52), (5, some 53)] (by kernel_rfl) (by kernel_rfl) (by decide) (by kernel_rfl) (fun _ => rfl) HC0 ?_
      apply DetL.next
      · -- 0: Op.move (Operand.tmp 0)
        apply detStep_plain []
        exact fun _ => rfl
        rfl
        rintro vals - w1 hC1 E hE
        simp only [puts, act_put, act_put_none, List.setIfInBounds_toArray, List.set_cons_zero, List.set_cons_succ] at hE ⊢
        go_wp2
        exact .mk (hE _ hC1)
      apply DetL.next
      · -- 1: Op.nilCheck (Operand.tmp 48)
        apply detStep_plain [(0, some 48)]
        exact fun _ => rfl
        rfl
        rintro vals ⟨-, f0⟩ w1 hC1 E hE
        simp only [puts, act_put, act_put_none, List.setIfInBounds_toArray, List.set_cons_zero, List.set_cons_succ, f0] at hE ⊢
        clear f0
        go_wp2
        exact .mk (hE _ hC1)
      apply DetL.next
      · -- 2: Op.fieldAddr 46 (Operand.tmp 49) 0
        apply detStep_plain [(1, some 49)]
        exact fun _ => rfl
        rfl
        rintro vals ⟨⟨-, -⟩, f1⟩ w1 hC1 E hE
        simp only [puts, act_put, act_put_none, List.setIfInBounds_toArray, List.set_cons_zero, List.set_cons_succ, f1] at hE ⊢
        clear f1
        go_wp2
        exact .mk (hE _ hC1)
      apply DetL.next
      · -- 3: Op.move (Operand.tmp 4)
        apply detStep_plain []
        exact fun _ => rfl
        rfl
        rintro vals ⟨⟨⟨-, -⟩, -⟩, -⟩ w1 hC1 E hE
        simp only [puts, act_put, act_put_none, List.setIfInBounds_toArray, List.set_cons_zero, List.set_cons_succ] at hE ⊢
        go_wp2
        exact .mk (hE _ hC1)
      apply DetL.next (v := .int .u8 93)
      · -- 4: Op.index 9 (Operand.tmp 51) (Operand.const (Value.int IntKind.i64 1))
        apply detStep_plain [(3, some 51)]
        exact fun _ => rfl
        rfl
        rintro vals ⟨⟨⟨⟨-, -⟩, -⟩, -⟩, f3⟩ w1 hC1 E hE
        simp only [puts, act_put, act_put_none, List.setIfInBounds_toArray, List.set_cons_zero, List.set_cons_succ, f3] at hE ⊢
        clear f3
        go_wp2
        exact .mk (hE _ hC1)
      apply DetL.last
      · -- 5: Op.call { callee := Callee.value (Operand.func 44), args := #[Operand.tmp 50, Operand.tmp 52], argTypes := #[4
        apply detStep_plain [(2, some 50), (4, some 52)]
        exact fun _ => rfl
        rfl
        rintro vals ⟨⟨⟨⟨⟨-, -⟩, -⟩, f2⟩, -⟩, f4⟩ w1 hC1 E hE
        simp only [puts, act_put, act_put_none, List.setIfInBounds_toArray, List.set_cons_zero, List.set_cons_succ, f2, f4] at hE ⊢
        clear f2 f4
        go_wp2_with fail
        refine calls_then (CB.out c' 93 _ hC1.1 HCL.out) ?_
        rintro e w2 ⟨rfl, hb2, hw2⟩
        go_wp2_with fail
        exact .mk (hE _ (hC1.next hb2 hw2))
      rintro vals ⟨⟨⟨⟨⟨⟨-, f0⟩, f1⟩, f2⟩, f3⟩, f4⟩, f5⟩ w1 hC1
      simp only [puts, act_put, act_put_none, List.setIfInBounds_toArray, List.set_cons_zero, List.set_cons_succ, f0, f1, f2, f3, f4, f5]
      clear f0 f1 f2 f3 f4 f5
      have HR := Lib.hid hC1
      clear hC1 HC0
      go_wp2_with fail
      go_end0
      refine ⟨rfl, _, ?_, ⟨HR.out.1, HS.out.trans HR.out.2⟩⟩
      have hall : kidsB false ns ks i = itemsV false ns ks true := by
        rw [kidsB, HN.out, List.take_length]
        rw [HLEN.out, List.take_nil]
      have h := ((Out.all c [91]).trans HO.out).trans (Out.all c' [93])
      rw [hall] at h
      simpa only [List.append_assoc, List.cons_append, List.nil_append] using h
end Go.Proofs.Ytcfbnjaelniahaa.Js
