/-
  Walks: json's reader: a value.
-/
import Derived.Test.YtcfbnjaelniahaaJs14
import Derived.Shelf.Abstract
namespace Go.Proofs.Ytcfbnjaelniahaa.Js
set_option linter.unusedSimpArgs false
set_option linter.unusedVariables false
open Go.RowKit

/-- what a taker does, where a byte of its own stands -/
def TkP (c : UInt8) (f : FuncId) (D : Int) (P : Bs → Except Int (JT × Bs)) : Prop := ∀ (s : ByteArray) (hs : (s.size : Int) ≤ 1000000) (r a : Nat) (w : World) (h : RD w r s a D 0) (ha : a ≤ s.size) (hc : look (s.data.toList.drop a) = c),
  Calls Try.prog f #[.pointer (some ⟨r, 0, none⟩)] w fun x w' => ∃ v : JV, x = .returned (.agg (jvCells v)) ∧ ∃ a' : Nat, (a' : Int) ≤ 1500000 ∧
    RD w' r s a' D (errE (P (s.data.toList.drop a))) ∧ RG r w w' ∧ ∀ j r1, P (s.data.toList.drop a) = .ok (j, r1) → At s a a' r1 ∧ JRep w' (fun b => w.heap.size ≤ b) j v
theorem tk_word {W : Bs} (hW : W.length = 4 ∨ W.length = 5) {v : JV} {s : ByteArray} {a : Nat} {e : Ending} {D : Int} {r : Nat} {w w' : World} {P : Except Int (JT × Bs)} {k n : Int} (hv : v = ⟨k, n, [], none, 0, 0, none, 0, 0⟩) (hs : (s.size : Int) ≤ 1000000) (ha : a ≤ s.size)
    (hP : P = wordR W (s.data.toList.drop a) (.mk k n [] [] []))
    (h : e = .returned (.agg (jvCells (wJ (W.isPrefixOf (s.data.toList.drop a)) v))) ∧ RD w' r s (wA (W.isPrefixOf (s.data.toList.drop a)) a W.length) D (wE (W.isPrefixOf (s.data.toList.drop a))) ∧ RG r w w') :
    ∃ v : JV, e = .returned (.agg (jvCells v)) ∧ ∃ a' : Nat, (a' : Int) ≤ 1500000 ∧ RD w' r s a' D (errE P) ∧ RG r w w' ∧ ∀ j r1, P = .ok (j, r1) → At s a a' r1 ∧ JRep w' (fun b => w.heap.size ≤ b) j v := by
  obtain ⟨h1, h2, h3⟩ := h
  refine ⟨_, h1, wA (W.isPrefixOf (s.data.toList.drop a)) a W.length, ?_, ?_, h3, ?_⟩
  · unfold wA
    split <;> omega
  · rw [hP]
    unfold wordR wordP
    cases hp : W.isPrefixOf (s.data.toList.drop a) <;> rw [hp] at h2 <;> exact h2
  · intro j r1 hj
    rw [hP] at hj
    unfold wordR wordP at hj
    cases hp : W.isPrefixOf (s.data.toList.drop a) with
    | false => rw [hp] at hj; cases hj
    | true =>
      rw [hp] at hj
      injection hj with hj
      injection hj with e1 e2
      subst e1 e2
      have hl := List.IsPrefix.length_le (List.isPrefixOf_iff_prefix.1 hp)
      rw [List.length_drop] at hl
      have h5 : s.data.toList.length = s.size := rfl
      refine ⟨⟨by unfold wA; rw [if_pos rfl]; omega, .inr (by unfold wA; rw [if_pos rfl]; omega), ?_⟩, ?_⟩
      · unfold wA
        rw [if_pos rfl, List.drop_drop]
      · rw [show wJ true v = v from rfl, hv]
        exact JRep.flat _ _ _ _ _
/-- the taker of a byte -/
def pickF (c : UInt8) : FuncId :=
  if c = 110 then 47 else if c = 116 then 49 else if c = 102 then 50 else if c = 34 then 51
  else if c = 91 ∨ c = 123 then 53 else 38
theorem pick_any (c : UInt8) (D : Int) (lp : Bs → Except Int (JT × Bs)) (LH : LRd D lp) : TkP c (pickF c) D (rawP lp) := by
  intro s hs r a w h ha hc
  unfold pickF
  by_cases h1 : c = 110
  · rw [if_pos h1]
    exact (take1_any s hs r a D w h ha).mono fun e w' hq => tk_word (W := [110, 117, 108, 108]) (.inl rfl) (v := nulJ) (k := 0) (n := 0) rfl hs ha (by rw [rawP, if_pos (hc.trans h1)]; rfl) hq
  rw [if_neg h1]
  by_cases h2 : c = 116
  · rw [if_pos h2]
    exact (take2_any s hs r a D w h ha).mono fun e w' hq => tk_word (W := [116, 114, 117, 101]) (.inl rfl) (v := truJ) (k := 1) (n := 1) rfl hs ha (by rw [rawP, if_neg (by rw [hc]; exact h1), if_pos (hc.trans h2)]; rfl) hq
  rw [if_neg h2]
  by_cases h3 : c = 102
  · rw [if_pos h3]
    exact (take3_any s hs r a D w h ha).mono fun e w' hq => tk_word (W := [102, 97, 108, 115, 101]) (.inr rfl) (v := falJ) (k := 1) (n := 0) rfl hs ha (by rw [rawP, if_neg (by rw [hc]; exact h1), if_neg (by rw [hc]; exact h2), if_pos (hc.trans h3)]; rfl) hq
  rw [if_neg h3]
  by_cases h4 : c = 34
  · rw [if_pos h4]
    refine (take4_any s hs r a D w h ha).mono ?_
    rintro e w' ⟨rfl, a', ha', hat, hrd, hrg⟩
    have hP : rawP lp (s.data.toList.drop a) = optR (textP (s.data.toList.drop a)) jtext := by
      rw [rawP, if_neg (by rw [hc]; exact h1), if_neg (by rw [hc]; exact h2), if_neg (by rw [hc]; exact h3), if_pos (hc.trans h4)]
    rw [hP]
    refine ⟨_, rfl, a', by omega, ?_, hrg, ?_⟩
    · cases ht : textP (s.data.toList.drop a) with
      | none => rw [ht] at hrd; exact hrd
      | some p => rw [ht] at hrd; exact hrd
    · intro j r1 hj
      cases ht : textP (s.data.toList.drop a) with
      | none => rw [ht] at hj; cases hj
      | some p =>
        obtain ⟨t, r0⟩ := p
        rw [ht] at hj
        injection hj with hj
        injection hj with e1 e2
        subst e1 e2
        exact ⟨hat _ _ ht, JRep.flat _ _ _ _ _⟩
  rw [if_neg h4]
  by_cases h5 : c = 91 ∨ c = 123
  · rw [if_pos h5]
    have hP : rawP lp (s.data.toList.drop a) = lp (s.data.toList.drop a) := by
      rw [rawP, if_neg (by rw [hc]; exact h1), if_neg (by rw [hc]; exact h2), if_neg (by rw [hc]; exact h3), if_neg (by rw [hc]; exact h4), if_pos (by rw [hc]; exact h5)]
    rw [hP]
    exact LH s hs r a w h (look_lt (by rw [hc]; rcases h5 with rfl | rfl <;> decide))
  rw [if_neg h5]
  refine (number_any s hs r a D w h ha).mono ?_
  rintro e w' ⟨rfl, a', hat, hrd, hrg⟩
  have hP : rawP lp (s.data.toList.drop a) = optR (numP (s.data.toList.drop a)) jint := by
    rw [rawP, if_neg (by rw [hc]; exact h1), if_neg (by rw [hc]; exact h2), if_neg (by rw [hc]; exact h3), if_neg (by rw [hc]; exact h4), if_neg (by rw [hc]; exact h5)]
  rw [hP]
  refine ⟨_, rfl, a', by have := hat.top; omega, ?_, hrg, ?_⟩
  · cases ht : numP (s.data.toList.drop a) with
    | none => rw [ht] at hrd; exact hrd
    | some p => rw [ht] at hrd; exact hrd
  · intro j r1 hj
    cases ht : numP (s.data.toList.drop a) with
    | none => rw [ht] at hj; cases hj
    | some p =>
      obtain ⟨t, r0⟩ := p
      rw [ht] at hj
      injection hj with hj
      injection hj with e1 e2
      subst e1 e2
      rw [(numP_ok ht).2.2]
      exact ⟨hat, JRep.flat _ _ _ _ _⟩
/-- what is found in the map of takers -/
theorem takers_found (c : UInt8) : (∃ i, Instr.findNow (.int .u8) (.int .u8 ((c.toNat : Nat) : Int)) takersE.toList 0 = some (some (i, .func (.func (pickF c)) #[] #[]))) ∨
    (Instr.findNow (.int .u8) (.int .u8 ((c.toNat : Nat) : Int)) takersE.toList 0 = some none ∧ pickF c = 38) := by
  by_cases h1 : c = 110
  · subst h1; exact .inl ⟨0, rfl⟩
  by_cases h2 : c = 116
  · subst h2; exact .inl ⟨1, rfl⟩
  by_cases h3 : c = 102
  · subst h3; exact .inl ⟨2, rfl⟩
  by_cases h4 : c = 34
  · subst h4; exact .inl ⟨3, rfl⟩
  by_cases h5 : c = 91
  · subst h5; exact .inl ⟨4, rfl⟩
  by_cases h6 : c = 123
  · subst h6; exact .inl ⟨5, rfl⟩
  refine .inr ⟨?_, by simp [pickF, h1, h2, h3, h4, h5, h6]⟩
  have e : ∀ d : UInt8, c ≠ d → (((c.toNat : Nat) : Int) == ((d.toNat : Nat) : Int)) = false := fun d hd => by
    rw [beq_eq_false_iff_ne]
    intro h
    exact hd (UInt8.toNat.inj (by omega))
  have e1 := e 110 h1
  have e2 := e 116 h2
  have e3 := e 102 h3
  have e4 := e 34 h4
  have e5 := e 91 h5
  have e6 := e 123 h6
  simp only [takersE, mF, Instr.findNow, Instr.sameNow, if_true]
  rw [show ((110 : UInt8).toNat : Int) = 110 from rfl] at e1
  rw [show ((116 : UInt8).toNat : Int) = 116 from rfl] at e2
  rw [show ((102 : UInt8).toNat : Int) = 102 from rfl] at e3
  rw [show ((34 : UInt8).toNat : Int) = 34 from rfl] at e4
  rw [show ((91 : UInt8).toNat : Int) = 91 from rfl] at e5
  rw [show ((123 : UInt8).toNat : Int) = 123 from rfl] at e6
  simp only [e1, e2, e3, e4, e5, e6]
theorem pick_enters (c : UInt8) : ∀ args w, (callFunc (pickF c) args).run Try.prog w = .ok (.enter (pickF c) args) w := by
  have g1 := enters_of Try.func47 (by kernel_rfl) rfl
  have g2 := enters_of Try.func49 (by kernel_rfl) rfl
  have g3 := enters_of Try.func50 (by kernel_rfl) rfl
  have g4 := enters_of Try.func51 (by kernel_rfl) rfl
  have g5 := enters_of Try.func53 (by kernel_rfl) rfl
  have g6 := enters_of Try.func38 (by kernel_rfl) rfl
  intro args w
  unfold pickF
  split
  · exact g1 args w
  split
  · exact g2 args w
  split
  · exact g3 args w
  split
  · exact g4 args w
  split
  · exact g5 args w
  · exact g6 args w
set_option maxRecDepth 100000 in
set_option maxHeartbeats 4000000 in
theorem value_step (d : Nat) (LH : ∀ D : Int, D + (d : Int) = 6 → 0 ≤ D → LRd D (lpOf d)) : VRd d := by
  intro s hs r a D hD h0 w h ha
  have hu := Try.underlying25
  have ht := Try.underlying72
  have hk := Try.underlying5
  obtain ⟨W0, hW0⟩ : ∃ W0, W0 = w.alloc (.cells (jvCells zJV) 25) := ⟨_, rfl⟩
  have hb0 : Below w.heap.size w W0 := by rw [hW0]; exact (Below.refl _ w).alloc (Nat.le_refl _) _
  obtain ⟨G, hG⟩ : ∃ G, G = w.heap.size := ⟨_, rfl⟩
  have HKZ := Lib.hid (show Blk W0 G 25 (jvCells zJV) by rw [hW0, hG]; exact Blk.new _ _ _)
  have HRD := Lib.hid (h.grow hb0)
  have HRG := Lib.hid (show RG r w W0 from .below hb0)
  have HRL := Lib.hid (show r < G by rw [hG]; exact Blk.lt h)
  have HW0 := Lib.hid hW0
  have HLH := Lib.hid (LH D hD h0)
  have HA := Lib.hid ha
  have HS := Lib.hid hs
  obtain ⟨-, -, -, c3⟩ := (h.grow hb0).cells
  have CB := Lib.hid (blanks_any s hs r a D 0 W0 HRD.out (by omega))
  clear hW0 hb0 h LH ha hs hD h0
  rw [hG] at *
  clear hG
  go_enter Try.func21, Try.ntmps21
  go_upto_region 1 with (fail)
  rw [show (w.alloc (.cells #[.int .i64 0, .int .i64 0, .string ⟨#[]⟩, .slice none 0 0, .slice none 0 0] 25)) = W0 from HW0.out.symm]
  clear HW0
  go_wp2_with fail
  refine calls_then CB.out ?_
  rintro y w1 ⟨rfl, a1, h1, h2, h3, hrd, hrg⟩
  have HAT := Lib.hid (show At s a a1 (skip (s.data.toList.drop a)) from ⟨h1, h2, h3⟩)
  have HA1 := Lib.hid (show a1 ≤ s.size by have := HA.out; omega)
  have HRD1 := Lib.hid hrd
  have HRG1 := Lib.hid (HRG.out.trans hrg)
  have HZ1 := Lib.hid (show Blk w1 w.heap.size 25 (jvCells zJV) from HKZ.out.grown hrg (by have := HRL.out; intro h; injection h with h; omega))
  clear h1 h2 h3 hrd hrg c3 CB
  have CT := Lib.hid (takers_any w1)
  go_wp2_with fail
  refine calls_then CT.out ?_
  rintro y w2 ⟨rfl, hm, hb⟩
  have HRD2 := Lib.hid (HRD1.out.grow hb)
  have HRG2 := Lib.hid (HRG1.out.trans (RG.below hb))
  have HZ2 := Lib.hid (HZ1.out.below hb HZ1.out.lt)
  have HMB := Lib.hid hm
  have HML := Lib.hid (show r < w1.heap.size from Blk.lt HRD1.out)
  clear hm hb CT
  have CL := Lib.hid (look_any s r a1 D 0 w2 HRD2.out)
  go_wp2_with fail
  refine calls_then CL.out ?_
  rintro y w3 ⟨rfl, hrd, hrg⟩
  have HRD3 := Lib.hid hrd
  have HRG3 := Lib.hid (HRG2.out.trans hrg)
  have HZ3 := Lib.hid (HZ2.out.grown hrg (by have := HRL.out; intro h; injection h with h; omega))
  have HMB3 := Lib.hid (show MapB w3 w1.heap.size takersE from (hrg.block _ HMB.out.lt (by have := HML.out; intro h; injection h with h; omega)).trans HMB.out)
  clear hrd hrg CL
  obtain ⟨c, hc⟩ : ∃ c, c = look (s.data.toList.drop a1) := ⟨_, rfl⟩
  have HC := Lib.hid hc.symm
  rw [show lookE s a1 0 = c by rw [lookE, if_pos rfl, hc]]
  have HPK := Lib.hid (pick_any c D (lpOf d) HLH.out)
  have eg := pick_enters c
  have hz : (zeroValue 71).run Try.prog w3 = .ok .nilFunc w3 := by kernel_rfl
  unfold byteV
  obtain ⟨r0, hf, hr0⟩ : ∃ r0, Instr.findNow (.int .u8) (.int .u8 ((c.toNat : Nat) : Int)) takersE.toList 0 = some r0 ∧ ((found8 .nilFunc r0).1 = .func (.func (pickF c)) #[] #[] ∨ ((found8 .nilFunc r0).1 = .nilFunc ∧ pickF c = 38)) := by
    rcases takers_found c with ⟨i, hf⟩ | ⟨hf, hp⟩
    · exact ⟨_, hf, .inl rfl⟩
    · exact ⟨_, hf, .inr ⟨rfl, hp⟩⟩
  have hlk := run_lookup8 false ht hk HMB3.out hf hz
  obtain ⟨fv, hfv⟩ : ∃ fv, fv = (found8 .nilFunc r0).1 := ⟨_, rfl⟩
  rw [← hfv] at hlk hr0
  simp only [Bool.false_eq_true, if_false] at hlk
  obtain ⟨nb, hg1, hg2, hnb⟩ : ∃ nb, (eqGuard BinOp.eql 71 (Operand.tmp 17) (Operand.const Value.nilFunc) fv Value.nilFunc).run Try.prog w3 = .ok () w3 ∧ (binOp BinOp.eql 71 fv Value.nilFunc).run Try.prog w3 = .ok (.bool nb) w3 ∧
      ((nb = false ∧ fv = .func (.func (pickF c)) #[] #[]) ∨ (nb = true ∧ pickF c = 38)) := by
    rcases hr0 with rfl | ⟨rfl, hp⟩
    · exact ⟨false, by kernel_rfl, by kernel_rfl, .inl ⟨rfl, rfl⟩⟩
    · exact ⟨true, by kernel_rfl, by kernel_rfl, .inr ⟨rfl, hp⟩⟩
  have HR0 := Lib.hid hnb
  clear hf hr0 hfv hc hz hnb
  go_upto_if 18 with (fail)
  go_cut [3] (fun f wx => f = .func (.func (pickF c)) #[] #[] ∧ wx = w3)
  case first =>
    rcases HR0.out with ⟨rfl, rfl⟩ | ⟨rfl, hp⟩
    · go_wp2_with fail
      go_meet
      exact ⟨rfl, rfl⟩
    · have HP := Lib.hid hp
      clear hp
      go_wp2_with fail
      go_meet
      exact ⟨by rw [HP.out], rfl⟩
  case rest =>
  obtain ⟨rfl, rfl⟩ := hcut
  have CP := Lib.hid (HPK.out s HS.out r a1 wc HRD3.out HA1.out HC.out)
  clear hlk HR0
  obtain ⟨f, hf⟩ : ∃ f, f = pickF c := ⟨_, rfl⟩
  rw [← hf] at CP eg ⊢
  clear hf HPK
  go_wp2_with fail
  refine calls_then CP.out ?_
  rintro y w4 ⟨v, rfl, a2, ha2, hrd, hrg, hok⟩
  have HRD4 := Lib.hid hrd
  have HRG4 := Lib.hid (HRG3.out.trans hrg)
  have HZ4 := Lib.hid (HZ3.out.grown hrg (by have := HRL.out; intro h; injection h with h; omega))
  have HOK := Lib.hid hok
  have HA2 := Lib.hid ha2
  have HLV := Lib.hid (show w.heap.size + 1 ≤ wc.heap.size from HZ3.out.lt)
  clear hrd hrg hok ha2 CP eg hg1 hg2
  have HB5 := Lib.hid (show Blk (w4.alloc (.cells #[.int .i64 0, .int .i64 0, .string ⟨#[]⟩, .slice none 0 0, .slice none 0 0] 25)) w4.heap.size 25 (jvCells zJV) from Blk.new _ _ _)
  have HX := Lib.hid (show r < w4.heap.size from Blk.lt HRD4.out)
  have CB := Lib.hid (fun u h => blanks_any s HS.out r a2 D (errE (rawP (lpOf d) (s.data.toList.drop a1))) u h (by have := HA2.out; omega))
  go_wp2_with (refine wpList_put_box (x := .tmp 4) (cells := jvCells v) HB5.out rfl rfl rfl rfl jT_size3 rfl (jvCells_one _) ?_; intro w6 hb6 hw6)
  have hb5 := (Below.refl w4.heap.size w4).alloc (Nat.le_refl _) (.cells #[.int .i64 0, .int .i64 0, .string ⟨#[]⟩, .slice none 0 0, .slice none 0 0] 25)
  have hbl : Below w4.heap.size w4 w6 := hw6.below hb5 (Nat.le_refl _) (by simp)
  have HRD6 := Lib.hid (HRD4.out.grow hbl)
  have HRG6 := Lib.hid (HRG4.out.trans (RG.below hbl))
  have HZ6 := Lib.hid (HZ4.out.below hbl HZ4.out.lt)
  have HB6 := Lib.hid hb6
  have HBL := Lib.hid hbl
  clear hb5 hbl hb6 hw6
  refine calls_then (CB.out _ HRD6.out) ?_
  rintro y w7 ⟨rfl, a3, h1, h2, h3, hrd, hrg⟩
  have HRD7 := Lib.hid hrd
  have HRG7 := Lib.hid (HRG6.out.trans hrg)
  have HG7 := Lib.hid hrg
  have HZ7 := Lib.hid (HZ6.out.grown hrg (by have := HRL.out; intro h; injection h with h; omega))
  have HB7 := Lib.hid (HB6.out.grown hrg (by have := HX.out; intro h; injection h with h; omega))
  have HAT7 := Lib.hid (show At s a2 a3 (skip (s.data.toList.drop a2)) from ⟨h1, h2, h3⟩)
  clear h1 h2 h3 hrd hrg
  go_wp2_with (first
    | refine wpList_get_box (x := .tmp 4) HB7.out rfl rfl rfl hu rfl jT_size3 ?_
    | (refine wpList_put_box (x := .tmp 2) (cells := jvCells v) HZ7.out rfl rfl rfl rfl jT_size3 rfl (jvCells_one _) ?_; intro w9 hb9 hw9))
  have HB9 := Lib.hid hb9
  have hlow := HRL.out
  refine bodyPost_ret (results_box (P := Try.prog) rfl rfl HB9.out hu rfl jT_size3) rfl ?_
  have hE : valueP d (s.data.toList.drop a) = skipR (rawP (lpOf d) (s.data.toList.drop a1)) := by rw [valueP_lp, HAT.out.rest]
  refine ⟨v, rfl, a3, HAT7.out.big HS.out HA2.out, ?_, HRG7.out.wrote_new hw9 (Nat.le_refl _), fun j q hq => ?_⟩
  · rw [hE]
    have e1 : errE (skipR (rawP (lpOf d) (s.data.toList.drop a1))) = errE (rawP (lpOf d) (s.data.toList.drop a1)) := by
      cases rawP (lpOf d) (s.data.toList.drop a1) <;> rfl
    rw [e1]
    exact hw9.blk HRD7.out (by omega)
  · rw [hE] at hq
    obtain ⟨q0, hq1, rfl⟩ := skipR_ok hq
    obtain ⟨hat2, hj⟩ := HOK.out j q0 hq1
    refine ⟨?_, ?_⟩
    · have := HAT7.out
      rw [hat2.rest] at this
      exact HAT.out.trans (hat2.trans this)
    · have h0 := HLV.out
      have hj6 : JRep w6 (fun b => w.heap.size + 1 ≤ b) j v := (hj.heap fun b hb _ => HBL.out.block b hb).imp fun b _ hb => Nat.le_trans h0 hb
      exact ((hj6.heap fun b hb hs => HG7.out.block b hb (by intro h; injection h with h; omega)).heap fun b hb hs => hw9.grown.block b hb (by intro h; injection h with h; omega)).imp fun b _ hb => by omega
theorem value_any : ∀ d, VRd d
  | 0 => value_step 0 fun D h h0 => list_step 0 D h h0 fun d' hd => by cases hd
  | d + 1 => value_step (d + 1) fun D h h0 => list_step (d + 1) D h h0 fun d' hd => by
    have e : d' = d := by omega
    subst e
    exact value_any d'
end Go.Proofs.Ytcfbnjaelniahaa.Js
