/-
  Walks: json's reader: a number.
-/
import Derived.Test.YtcfbnjaelniahaaJs3
import Derived.Test.YtcfbnjaelniahaaJst
namespace Go.Proofs.Ytcfbnjaelniahaa.Js
set_option linter.unusedSimpArgs false
set_option linter.unusedVariables false
open Go.RowKit

/-- behind k digits -/
structure DigK (X tk rest : Bs) (k : Nat) : Prop where
  len : tk.length = k
  k17 : k ≤ 17
  eq : takeD 17 X = (tk ++ (takeD (17 - k) rest).1, (takeD (17 - k) rest).2)
  app : X = tk ++ rest
  lt : decV 0 tk < 10 ^ k
theorem DigK.start (X : Bs) : DigK X [] X 0 := ⟨rfl, by decide, by simp, rfl, by simp [decV]⟩
theorem isDig_val {c : UInt8} (h : isDig c = true) : 48 ≤ c.toNat ∧ c.toNat ≤ 57 := by
  unfold isDig at h
  simp only [Bool.and_eq_true, decide_eq_true_eq, UInt8.le_iff_toNat_le] at h
  exact h
theorem DigK.next {X tk rest : Bs} {k : Nat} {c : UInt8} (h : DigK X tk (c :: rest) k) (hc : isDig c = true) (hk : k < 17) : DigK X (tk ++ [c]) rest (k + 1) := by
  have h1 := h.eq
  obtain ⟨m, hm⟩ : ∃ m, 17 - k = m + 1 := ⟨16 - k, by omega⟩
  rw [hm, takeD, if_pos hc] at h1
  have h2 := isDig_val hc
  have h3 := h.lt
  refine ⟨by simp [h.len], by omega, ?_, by rw [h.app]; simp, ?_⟩
  · rw [h1, show 17 - (k + 1) = m by omega]
    simp
  · rw [decV_snoc, Nat.pow_succ]
    omega
theorem DigK.stop {X tk rest : Bs} {k : Nat} (h : DigK X tk rest k) (hs : isDig (look rest) = false ∨ k = 17) : takeD 17 X = (tk, rest) := by
  rw [h.eq]
  have : takeD (17 - k) rest = ([], rest) := by
    rcases hs with hs | hs
    · cases rest with
      | nil => cases 17 - k <;> rfl
      | cons c r =>
        have hc : isDig c = false := hs
        cases hq : 17 - k with
        | zero => rfl
        | succ m => simp [takeD, hc]
    · rw [hs]
      rfl
  rw [this]
  simp
/-- what number hands back -/
def numV : Option (Int × Bs) → JV
  | none => zJV
  | some (n, _) => ⟨2, n, [], none, 0, 0, none, 0, 0⟩
def numE : Option (Int × Bs) → Int
  | none => 13
  | some _ => 0
set_option maxRecDepth 100000 in
set_option maxHeartbeats 4000000 in
theorem number_any (s : ByteArray) (hs : (s.size : Int) ≤ 1000000) (r a : Nat) (d : Int) (w : World) (h : RD w r s a d 0) (ha : a ≤ s.size) :
    Calls Try.prog 38 #[.pointer (some ⟨r, 0, none⟩)] w fun x w' => x = .returned (.agg (jvCells (numV (numP (s.data.toList.drop a))))) ∧ ∃ a', At s a a' (digP (s.data.toList.drop a)).2 ∧
      RD w' r s a' d (numE (numP (s.data.toList.drop a))) ∧ RG r w w' := by
  have hu := Try.underlying25
  obtain ⟨W0, hW0⟩ : ∃ W0, W0 = w.alloc (.cells (jvCells zJV) 25) := ⟨_, rfl⟩
  have hb0 : Below w.heap.size w W0 := by rw [hW0]; exact (Below.refl _ w).alloc (Nat.le_refl _) _
  obtain ⟨G, hG⟩ : ∃ G, G = w.heap.size := ⟨_, rfl⟩
  have HKZ := Lib.hid (show Blk W0 G 25 (jvCells zJV) by rw [hW0, hG]; exact Blk.new _ _ _)
  have HRD := Lib.hid (h.grow hb0)
  have HRG := Lib.hid (show RG r w W0 from .below hb0)
  have HRL := Lib.hid (show r < G by rw [hG]; exact Blk.lt h)
  have HW0 := Lib.hid hW0
  obtain ⟨X, hX⟩ : ∃ X, X = s.data.toList.drop a := ⟨_, rfl⟩
  have HX := Lib.hid hX
  have HA := Lib.hid ha
  have ha' : (a : Int) ≤ (s.size : Int) := by omega
  rw [← hX]
  have CL := Lib.hid (fun (b : Nat) (u : World) (h : RD u r s b d 0) => look_any s r b d 0 u h)
  clear hW0 hb0 h hX ha
  rw [hG] at *
  clear hG
  go_enter Try.func38, Try.ntmps38
  go_upto_region 1 with (fail)
  rw [show (w.alloc (.cells #[.int .i64 0, .int .i64 0, .string ⟨#[]⟩, .slice none 0 0, .slice none 0 0] 25)) = W0 from HW0.out.symm]
  clear HW0
  obtain ⟨c0, c1, -, -⟩ := HRD.out.cells
  go_wp2_with fail
  refine calls_then (CL.out a _ HRD.out) ?_
  rintro y w1 ⟨rfl, hrd, hrg⟩
  have HRD1 := Lib.hid hrd
  have HZ1 := Lib.hid (show Blk w1 w.heap.size 25 (jvCells zJV) from (World.grownBy.block hrg _ HKZ.out.lt (by have := HRL.out; intro h; injection h with h; omega)).trans HKZ.out)
  have HRG1 := Lib.hid (HRG.out.trans hrg)
  clear hrd hrg c0 c1
  obtain ⟨neg, hneg⟩ : ∃ neg, neg = negP X := ⟨_, rfl⟩
  have hlk : lookE s a 0 = look X := by rw [lookE, if_pos rfl, HX.out]
  have hnz : ((((lookE s a 0).toNat : Nat) : Int) == 45) = neg := by
    rw [hneg, hlk, negP, Bool.eq_iff_iff, beq_iff_eq, beq_iff_eq]
    constructor
    · intro h; exact UInt8.toNat.inj (by show (look X).toNat = 45; omega)
    · intro h; rw [h]; rfl
  unfold byteV
  generalize (((lookE s a 0).toNat : Nat) : Int) = z at *
  have HNG := Lib.hid hneg
  obtain ⟨f, hf⟩ : ∃ f, f = (if neg then a + 1 else a) := ⟨_, rfl⟩
  have HF := Lib.hid hf
  have HLT := Lib.hid (show neg = true → a < s.size from fun h => look_lt (by
    rw [h] at hneg
    have : look X = 45 := by simpa [negP] using hneg.symm
    rw [← HX.out, this]
    decide))
  clear hneg hlk hf
  go_upto_if 14 with (fail)
  go_cut [] (fun wx => RD wx r s f d 0 ∧ Blk wx w.heap.size 25 (jvCells zJV) ∧ RG r w wx)
  case first =>
    obtain ⟨c0, c1, -, -⟩ := HRD1.out.cells
    cases neg with
    | true =>
      go_wp2_with (refine wpList_put_cell (x := .tmp 21) (i := 1) HRD1.out rfl rfl rfl rfl (by kernel_rfl) (by simp [rdCells]) rfl ?_; intro w3 hb3 hw3)
      go_meet
      exact ⟨by rw [HF.out]; exact hb3, hw3.blk HZ1.out (by have := HRL.out; omega), HRG1.out.trans (.wrote hw3)⟩
    | false =>
      go_wp2_with fail
      go_meet
      exact ⟨by rw [HF.out]; exact HRD1.out, HZ1.out, HRG1.out⟩
  case rest =>
  obtain ⟨hrd, hz, hrg⟩ := hcut
  have HRD2 := Lib.hid hrd
  have HZ2 := Lib.hid hz
  have HRG2 := Lib.hid hrg
  obtain ⟨X1, hX1⟩ : ∃ X1, X1 = (if neg then X.tail else X) := ⟨_, rfl⟩
  have HX1 := Lib.hid hX1
  have HXF := Lib.hid (show s.data.toList.drop f = X1 by
    rw [HF.out, hX1]
    cases neg with
    | true => simp only [if_true]; rw [drop_tail, HX.out]
    | false => simp only [Bool.false_eq_true, if_false]; rw [HX.out])
  have HFS := Lib.hid (show a ≤ f ∧ f ≤ s.size by
    have h1 := HF.out
    have h2 := HA.out
    cases neg with
    | true => simp only [if_true] at h1; have := HLT.out rfl; omega
    | false => simp only [Bool.false_eq_true, if_false] at h1; omega)
  have hf9 : (f : Int) ≤ 1000000 := by have := HFS.out; omega
  obtain ⟨c0, c1, -, -⟩ := hrd.cells
  clear hrd hz hrg hX1 hnz
  go_wp2_with fail
  refine calls_then (CL.out f _ HRD2.out) ?_
  rintro y w3 ⟨rfl, hrd, hrg⟩
  have HRD3 := Lib.hid hrd
  have HZ3 := Lib.hid (show Blk w3 w.heap.size 25 (jvCells zJV) from (World.grownBy.block hrg _ HZ2.out.lt (by have := HRL.out; intro h; injection h with h; omega)).trans HZ2.out)
  have HRG3 := Lib.hid (HRG2.out.trans hrg)
  have HV3 := Lib.hid (show lookE s f 0 = look X1 by rw [lookE, if_pos rfl, HXF.out])
  clear hrd hrg c0 c1
  go_wp2_with fail
  go_loopg [5, 6] 17 (fun gk x c wr => ∃ (k : Nat) (tk rest : Bs), DigK X1 tk rest k ∧ gk + k = 17 ∧ x = .int .i64 ((decV 0 tk : Nat) : Int) ∧ c = byteV (look rest) ∧ s.data.toList.drop (f + k) = rest ∧ RD wr r s (f + k) d 0 ∧ Blk wr w.heap.size 25 (jvCells zJV) ∧ RG r w wr)
  case atStart => exact ⟨0, [], X1, DigK.start _, rfl, rfl, by rw [HV3.out], HXF.out, HRD3.out, HZ3.out, HRG3.out⟩
  case round =>
    obtain ⟨k, tk, rest, hdk, hgk, rfl, rfl, hrest, hrd, hz, hrg⟩ := hrel
    obtain ⟨c0, c1, -, -⟩ := hrd.cells
    have HDK := Lib.hid hdk
    have HRE := Lib.hid hrest
    have HRD4 := Lib.hid hrd
    have HZ4 := Lib.hid hz
    have HRG4 := Lib.hid hrg
    have hk17 : (k : Int) ≤ 17 := by have := hdk.k17; omega
    clear hdk hrest hrd hz hrg
    obtain ⟨c, hc⟩ : ∃ c, c = look rest := ⟨_, rfl⟩
    rw [← hc]
    have HC := Lib.hid hc
    obtain ⟨z2, hz2⟩ : ∃ z2 : Int, z2 = ((c.toNat : Nat) : Int) := ⟨_, rfl⟩
    have HZ := Lib.hid hz2
    have HDG := Lib.hid (show isDig c = (decide (48 ≤ z2) && decide (z2 ≤ 57)) by
      rw [hz2, isDig, Bool.eq_iff_iff]
      simp only [Bool.and_eq_true, decide_eq_true_eq, UInt8.le_iff_toNat_le]
      show (48 ≤ c.toNat ∧ c.toNat ≤ 57) ↔ _
      omega)
    unfold byteV
    rw [← hz2]
    have hfk : ((f + k : Nat) : Int) = (f : Int) + (k : Int) := by omega
    clear hc hz2
    go_upto_region 7 with (fail)
    go_cut [42] (fun x wx => x = .bool (decide (48 ≤ z2) && decide (z2 ≤ 57) && decide ((k : Int) ≤ 16)) ∧ wx = wr)
    case first =>
      go_wp2_with fail
      all_goals (go_meet; exact ⟨by first | rfl | (simp; done) | (simp_all; done) | grind, rfl⟩)
    case rest =>
    obtain ⟨rfl, rfl⟩ := hcut
    rw [← HDG.out]
    have hdc : isDig c = true → 48 ≤ z2 ∧ z2 ≤ 57 := fun h => by
      rw [HDG.out] at h
      simp only [Bool.and_eq_true, decide_eq_true_eq] at h
      exact h
    have HDC := Lib.hid hdc
    clear hdc
    by_cases hgo : isDig c = true ∧ k ≤ 16
    · obtain ⟨hg1, hg2⟩ := hgo
      obtain ⟨h48, h57⟩ := HDC.out hg1
      have hrt : rest = c :: rest.tail := by
        cases rest with
        | nil =>
          have : c = 0 := HC.out
          rw [this] at hg1
          exact absurd hg1 (by decide)
        | cons x l => rw [HC.out]; rfl
      obtain ⟨tl, htl⟩ : ∃ tl, tl = rest.tail := ⟨_, rfl⟩
      rw [← htl] at hrt
      have HNX := Lib.hid (show DigK X1 (tk ++ [c]) tl (k + 1) from DigK.next (by rw [← hrt]; exact HDK.out) hg1 (by omega))
      have HRT := Lib.hid (show s.data.toList.drop (f + (k + 1)) = tl by
        rw [← Nat.add_assoc, drop_tail, HRE.out, htl])
      have HFK := Lib.hid (show f + k < s.size from look_lt (by
        rw [HRE.out, ← HC.out]
        intro h0
        rw [h0] at hg1
        exact absurd hg1 (by decide)))
      obtain ⟨n, hn⟩ : ∃ n, n = decV 0 tk := ⟨_, rfl⟩
      have HNV := Lib.hid (show ((decV 0 (tk ++ [c]) : Nat) : Int) = 10 * (n : Int) + (z2 - 48) by
        rw [decV_snoc, ← hn, HZ.out]
        have := (isDig_val hg1).1
        omega)
      have hn9 : (n : Int) < 10000000000000000 := by
        have h1 := HDK.out.lt
        have h2 : 10 ^ k ≤ 10 ^ 16 := Nat.pow_le_pow_right (by decide) hg2
        rw [← hn] at h1
        omega
      have hw1 : wrap64 (10 * (n : Int)) = 10 * (n : Int) := by unfold wrap64; omega
      have hw2 : wrap64 (10 * (n : Int) + (z2 - 48)) = 10 * (n : Int) + (z2 - 48) := by unfold wrap64; omega
      clear hn9
      rw [← hn, hg1, show decide ((k : Int) ≤ 16) = true by simp; omega]
      have HGK := Lib.hid hg2
      clear hg1 hg2 hrt htl hn
      go_wp2_with (refine wpList_put_cell (x := .tmp 57) (i := 1) HRD4.out rfl rfl rfl rfl (by kernel_rfl) (by simp [rdCells]) rfl ?_; intro w5 hb5 hw5)
      have HRD5 := Lib.hid (show RD w5 r s (f + (k + 1)) d 0 from by
        show Blk w5 r _ #[.string s, .int .i64 ((f + (k + 1) : Nat) : Int), .int .i64 d, .int .i64 0]
        have e : ((f + (k + 1) : Nat) : Int) = (f : Int) + (k : Int) + 1 := by omega
        rw [e]
        have h := hb5
        simp only [hfk] at h
        exact h)
      have HZ5 := Lib.hid (hw5.blk HZ4.out (by have := HRL.out; omega))
      have HRG5 := Lib.hid (HRG4.out.trans (.wrote hw5))
      clear hb5 hw5
      refine calls_then (CL.out _ _ HRD5.out) ?_
      rintro y w6 ⟨rfl, hrd, hrg⟩
      have HRD6 := Lib.hid hrd
      have HZ6 := Lib.hid (show Blk w6 w.heap.size 25 (jvCells zJV) from (World.grownBy.block hrg _ HZ5.out.lt (by have := HRL.out; intro h; injection h with h; omega)).trans HZ5.out)
      have HRG6 := Lib.hid (HRG5.out.trans hrg)
      have HV6 := Lib.hid (show lookE s (f + (k + 1)) 0 = look tl by rw [lookE, if_pos rfl, HRT.out])
      clear hrd hrg
      go_wp2_with fail
      go_roundg (gk - 1)
      case measure => have := HGK.out; omega
      case rel => exact ⟨k + 1, tk ++ [c], tl, HNX.out, by have := HGK.out; omega, by rw [HNV.out], by rw [HV6.out], HRT.out, HRD6.out, HZ6.out, HRG6.out⟩
    · have HST := Lib.hid (show takeD 17 X1 = (tk, rest) from HDK.out.stop (by
        by_cases h : isDig c = true
        · exact .inr (by have := HDK.out.k17; have : ¬ k ≤ 16 := fun h' => hgo ⟨h, h'⟩; omega)
        · exact .inl (by rw [← HC.out]; simpa using h)))
      have hb : (isDig c && decide ((k : Int) ≤ 16)) = false := by
        cases hq : isDig c with
        | false => rfl
        | true =>
          have : ¬ k ≤ 16 := fun h' => hgo ⟨hq, h'⟩
          simp
          omega
      rw [hb]
      have HLE := Lib.hid (show f + k ≤ s.size from by
        have h1 := congrArg List.length HRE.out
        have h2 := congrArg List.length HXF.out
        have h3 := congrArg List.length HDK.out.app
        have h4 := HDK.out.len
        have h5 : s.data.toList.length = s.size := rfl
        simp only [List.length_drop, List.length_append] at h1 h2 h3
        have h6 := HFS.out
        omega)
      have hle : (f : Int) + (k : Int) ≤ (s.size : Int) := by have := HLE.out; omega
      clear hb hgo
      go_wp2_with fail
      go_quiet (fail)
      have HDX := Lib.hid (show digP X = (tk, rest) by rw [digP, ← HNG.out, ← HX1.out, HST.out])
      have HEX := Lib.hid (show (s.extract f (f + k)).data.toList = tk by
        rw [Lib.extract_data, HXF.out, HDK.out.app, show f + k - f = k by omega, ← HDK.out.len, List.take_left])
      generalize hT : s.extract f (f + k) = T at *
      have HTS := Lib.hid (show T.data.toList = tk from HEX.out)
      have HRD7 := Lib.hid (show RD (wc.drewN nq) r s (f + k) d 0 from HRD4.out)
      have HZ7 := Lib.hid (show Blk (wc.drewN nq) w.heap.size 25 (jvCells zJV) from HZ4.out)
      have HRG7 := Lib.hid (HRG4.out.drewN nq)
      generalize wc.drewN nq = W7 at *
      go_upto_region 12 with (fail)
      obtain ⟨n, hn⟩ : ∃ n, n = decV 0 tk := ⟨_, rfl⟩
      rw [← hn]
      have HNN := Lib.hid hn
      have HTL := Lib.hid (show T.toList = tk by rw [Lib.toList_data, HTS.out])
      have HTZ := Lib.hid (show T.size = tk.length by rw [← HTS.out]; rfl)
      have haf : decide ((a : Int) < (f : Int)) = neg := by
        rw [HF.out]
        cases neg <;> simp
        omega
      have HAF := Lib.hid haf
      clear hn haf c0 c1
      go_cut [88] (fun x wx => x = .bool (badN neg tk) ∧ wx = W7)
      case first =>
        cases tk with
        | nil =>
          have h0 : (T.toList == []) = true := by rw [HTL.out]; rfl
          go_wp2_with fail
          all_goals (go_meet; exact ⟨by simp [badN], rfl⟩)
        | cons y l =>
          have h0 : (T.toList == []) = false := by rw [HTL.out]; rfl
          have hz : 0 < T.size := by rw [HTZ.out]; simp
          have hz' : (0 : Int) < (T.size : Int) := by omega
          have hy : T[0] = y := by
            have : T.data.toList[0]? = some y := by rw [HTS.out]; rfl
            have h2 : T.data.toList[0]'hz = y := by
              rw [List.getElem?_eq_getElem hz] at this
              injection this
            exact h2
          obtain ⟨q, hq⟩ : ∃ q : Int, ((T[0].toNat : Nat) : Int) = q := ⟨_, rfl⟩
          have HQ := Lib.hid (show (look (y :: l) == 48) = (q == 48) by
            rw [← hq, hy, Bool.eq_iff_iff, beq_iff_eq, beq_iff_eq]
            constructor
            · intro h; rw [show y = 48 from h]; rfl
            · intro h; exact UInt8.toNat.inj (by show y.toNat = 48; omega))
          have HS1 := Lib.hid (show decide (1 < (y :: l).length) = decide ((1 : Int) < (T.size : Int)) by rw [HTZ.out, Bool.eq_iff_iff]; simp; omega)
          have HB := Lib.hid (show badN neg (y :: l) = ((q == 48 && (decide ((1 : Int) < (T.size : Int)) || decide ((a : Int) < (f : Int)))) || decide ((1000000000000000 : Int) < (n : Int))) by
            have hd : decide (1000000000000000 < n) = decide ((1000000000000000 : Int) < (n : Int)) := by rw [Bool.eq_iff_iff, decide_eq_true_iff, decide_eq_true_iff]; omega
            rw [badN, HQ.out, HS1.out, ← HAF.out, ← HNN.out, hd]
            rfl)
          clear hy
          go_wp2_with fail
          all_goals (go_meet; exact ⟨by rw [HB.out]; first | rfl | (simp; done) | (simp_all; done) | grind, rfl⟩)
      case rest =>
      obtain ⟨rfl, rfl⟩ := hcut
      have HNP := Lib.hid (show numP X = if badN neg tk = true then none else some ((if neg = true then -(n : Int) else (n : Int)), rest) by
        rw [numP, ← HNG.out, HDX.out, ← HNN.out])
      have HAT := Lib.hid (show At s a (f + k) (digP X).2 from ⟨by have := HFS.out; omega, .inr (by have := HLE.out; omega), by rw [HDX.out]; exact HRE.out⟩)
      cases hbad : badN neg tk with
      | true =>
        have HN0 := Lib.hid (show numP X = none by rw [HNP.out, hbad]; rfl)
        clear HNP hbad
        have CF := Lib.hid (fail_any 13 s r (f + k) d 0 _ HRD7.out)
        go_wp2_with fail
        refine calls_then CF.out ?_
        rintro y w8 ⟨rfl, hrd, hrg⟩
        have HRD8 := Lib.hid (show RD w8 r s (f + k) d 13 from hrd)
        have HZ8 := Lib.hid (show Blk w8 w.heap.size 25 (jvCells zJV) from (World.grownBy.block hrg _ HZ7.out.lt (by have := HRL.out; intro h; injection h with h; omega)).trans HZ7.out)
        have HRG8 := Lib.hid (HRG7.out.trans hrg)
        clear hrd hrg
        go_wp2_with (refine wpList_put_box (x := .tmp 2) (cells := jvCells zJV) HZ8.out rfl rfl rfl rfl jT_size3 rfl (jvCells_one _) ?_; intro w9 hb9 hw9)
        have HB9 := Lib.hid hb9
        refine bodyPost_ret (results_box (P := Try.prog) rfl rfl HB9.out hu rfl jT_size3) rfl ?_
        rw [HN0.out]
        exact ⟨rfl, f + k, HAT.out, hw9.blk HRD8.out (by have := HRL.out; omega), HRG8.out.wrote_new hw9 (Nat.le_refl _)⟩
      | false =>
        have HN0 := Lib.hid (show numP X = some ((if neg = true then -(n : Int) else (n : Int)), rest) by rw [HNP.out, hbad]; rfl)
        have hn15 : n ≤ 1000000000000000 := by
          unfold badN at hbad
          simp only [Bool.or_eq_false_iff, decide_eq_false_iff_not] at hbad
          have := hbad.2
          rw [← HNN.out] at this
          omega
        have hw : wrap64 (-(n : Int)) = -(n : Int) := by unfold wrap64; omega
        clear HNP hbad hn15
        go_upto_region 15 with (fail)
        go_upto_if 94 with (fail)
        go_cut [5] (fun x wx => x = .int .i64 (if decide ((a : Int) < (f : Int)) = true then -(n : Int) else (n : Int)) ∧ wx = wc)
        case first =>
          go_wp2_with fail
          all_goals (go_meet; exact ⟨by first | rfl | (simp; done) | (simp_all; done) | grind, rfl⟩)
        case rest =>
        obtain ⟨rfl, rfl⟩ := hcut
        rw [HAF.out]
        generalize (if neg = true then -(n : Int) else (n : Int)) = m at *
        go_wp2_with (refine wpList_put_box (x := .tmp 2) (cells := jvCells ⟨2, m, [], none, 0, 0, none, 0, 0⟩) HZ7.out rfl rfl rfl rfl jT_size3 rfl (jvCells_one _) ?_; intro w9 hb9 hw9)
        have HB9 := Lib.hid hb9
        refine bodyPost_ret (results_box (P := Try.prog) rfl rfl HB9.out hu rfl jT_size3) rfl ?_
        rw [HN0.out]
        exact ⟨rfl, f + k, HAT.out, hw9.blk HRD7.out (by have := HRL.out; omega), HRG7.out.wrote_new hw9 (Nat.le_refl _)⟩
end Go.Proofs.Ytcfbnjaelniahaa.Js
