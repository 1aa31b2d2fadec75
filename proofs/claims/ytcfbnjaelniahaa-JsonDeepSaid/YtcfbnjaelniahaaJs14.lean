/-
  Walks: json's reader: a list: what is deferred; a list too deep.
-/
import Derived.Test.YtcfbnjaelniahaaJs13
namespace Go.Proofs.Ytcfbnjaelniahaa.Js
set_option linter.unusedSimpArgs false
set_option linter.unusedVariables false
open Go.RowKit

theorem listd_any (p : Nat) (s : ByteArray) (r a : Nat) (D e : Int) (hD : 0 ≤ D) (hD9 : D ≤ 100) (u : FrameMode) (w : World) (hb : Blk w p 53 #[.pointer (some ⟨r, 0, none⟩)]) (h : RD w r s a (D + 1) e) :
    CallsD Try.prog 59 #[.pointer (some ⟨p, 0, none⟩)] u w fun x u' w' => u' = u ∧ x = .returned (.tuple #[]) ∧ RD w' r s a D e ∧ RG r w w' ∧ Wrote r w w' := by
  have c0 : w.cell? ⟨p, 0, none⟩ = some (.pointer (some ⟨r, 0, none⟩)) := hb.cell 0
  obtain ⟨-, -, c2, -⟩ := h.cells
  have H := Lib.hid h
  have e1 : D + 1 - 1 = D := by omega
  clear hb h
  go_enter_d Try.func59, Try.ntmps59
  go_wp2_with (refine wpList_put_cell (x := .tmp 7) (i := 2) H.out rfl rfl rfl rfl (by kernel_rfl) (by simp [rdCells]) rfl ?_; intro w1 hb1 hw1)
  go_end0
  exact ⟨rfl, hb1, RG.wrote hw1, hw1⟩
/-- the door of a list -/
theorem list_leaves {R : Ending → World → Prop} (tmps : Array Value) (G : Nat) (T : JV) (ht : tmps.getD 2 undef = .pointer (some ⟨G + 1, 0, none⟩)) (s : ByteArray) (r a : Nat) (D e : Int) (hD : 0 ≤ D) (hD9 : D ≤ 100) (hr : r < G) (u : World)
    (hb : Blk u G 53 #[.pointer (some ⟨r, 0, none⟩)]) (hres : Blk u (G + 1) 25 (jvCells T)) (h : RD u r s a (D + 1) e) (hR : ∀ u', RD u' r s a D e → Wrote r u u' → R (.returned (.agg (jvCells T))) u') :
    Leaves Try.prog Try.f53 tmps R [{ target := .fn (.func 59) #[.pointer (some ⟨G, 0, none⟩)], args := #[] }] .returning u := by
  have hu := Try.underlying25
  refine leaves_cons (f := 59) (args := #[.pointer (some ⟨G, 0, none⟩)]) (by simp) (by simp [go_sem]) ?_
  refine (listd_any G s r a D e hD hD9 .returning u hb h).mono ?_
  rintro x u' w' ⟨rfl, rfl, hrd, hrg, hw⟩
  exact ⟨_, results_box (P := Try.prog) rfl ht (hw.blk hres (by omega)) hu rfl jT_size3, hR _ hrd hw⟩
/-- a list's contract -/
def LRd (D : Int) (lp : Bs → Except Int (JT × Bs)) : Prop := ∀ (s : ByteArray) (hs : (s.size : Int) ≤ 1000000) (r a : Nat) (w : World) (h : RD w r s a D 0) (ha : a < s.size),
  Calls Try.prog 53 #[.pointer (some ⟨r, 0, none⟩)] w fun x w' => ∃ v : JV, x = .returned (.agg (jvCells v)) ∧ ∃ a' : Nat, (a' : Int) ≤ 1500000 ∧
    RD w' r s a' D (errE (lp (s.data.toList.drop a))) ∧ RG r w w' ∧ ∀ j r1, lp (s.data.toList.drop a) = .ok (j, r1) → At s a a' r1 ∧ JRep w' (fun b => w.heap.size ≤ b) j v
/-- a list, so many levels left -/
def lpOf : Nat → Bs → Except Int (JT × Bs)
  | 0 => fun _ => .error 9
  | d + 1 => listP (valueP d)
theorem valueP_lp (d : Nat) (r : Bs) : valueP d r = skipR (rawP (lpOf d) (skip r)) := by cases d <;> rfl
set_option maxRecDepth 100000 in
set_option maxHeartbeats 4000000 in
theorem list_step (d : Nat) (D : Int) (hD : D + (d : Int) = 6) (hD0 : 0 ≤ D) (IH : ∀ d', d = d' + 1 → VRd d') : LRd D (lpOf d) := by
  intro s hs r a w h ha
  have hu := Try.underlying25
  have hmf : ∀ (fn : Fn) (first cap : Array Value) (w : World), (Instr.makeFunc fn first cap).run Try.prog w = .ok (.func fn first cap) w := fun _ _ _ _ => rfl
  obtain ⟨G, hG⟩ : ∃ G, G = w.heap.size := ⟨_, rfl⟩
  obtain ⟨W1, hW1⟩ : ∃ W1, W1 = ((w.alloc (.cells #[.pointer (some ⟨r, 0, none⟩)] 53)).alloc (.cells (jvCells zJV) 25)).alloc (.cells (jvCells (treeV false none 0 0 none 0 0)) 25) := ⟨_, rfl⟩
  have hb1 : Below w.heap.size w W1 := by rw [hW1]; exact (((Below.refl _ w).alloc (Nat.le_refl _) _).alloc (by simp) _).alloc (by simp; omega) _
  have HM0 := Lib.hid (show LsM w G r s D (treeV false none 0 0 none 0 0) W1 a 0 from by
    refine ⟨by rw [hG]; exact Blk.lt h, hG.symm, ?_, ?_, ?_, h.grow hb1, .below hb1⟩
    · rw [hW1, hG]
      exact ((Blk.new _ _ _).alloc _).alloc _
    · have := (Blk.new (w.alloc (.cells #[.pointer (some ⟨r, 0, none⟩)] 53)) 25 (jvCells zJV)).alloc (.cells (jvCells (treeV false none 0 0 none 0 0)) 25)
      rw [hW1, hG]
      simpa using this
    · have := Blk.new ((w.alloc (.cells #[.pointer (some ⟨r, 0, none⟩)] 53)).alloc (.cells (jvCells zJV) 25)) 25 (jvCells (treeV false none 0 0 none 0 0))
      rw [hW1, hG]
      simpa [Nat.add_assoc] using this)
  have HW1 := Lib.hid hW1
  have HA := Lib.hid ha
  have HS := Lib.hid hs
  have CK := Lib.hid (look_any s r a D 0 W1 HM0.out.rd)
  have CF := Lib.hid (fun (u : World) (h : RD u r s a D 0) => fail_any 9 s r a D 0 u h)
  obtain ⟨X, hX⟩ : ∃ X, X = s.data.toList.drop a := ⟨_, rfl⟩
  have HX := Lib.hid hX
  rw [← hX]
  have HL := Lib.hid (show lookE s a 0 = look X by rw [lookE, if_pos rfl, HX.out])
  obtain ⟨m, hm⟩ : ∃ m, m = isMap X := ⟨_, rfl⟩
  have HM := Lib.hid hm.symm
  obtain ⟨z, hz⟩ : ∃ z : Int, z = (((look X).toNat : Nat) : Int) := ⟨_, rfl⟩
  have hmz : (z == 123) = m := by
    rw [hz, hm, isMap, Bool.eq_iff_iff, beq_iff_eq, beq_iff_eq]
    constructor
    · intro h
      exact UInt8.toNat.inj (by show (look X).toNat = 123; omega)
    · intro h
      rw [h]
      rfl
  have HZ := Lib.hid (show byteV (lookE s a 0) = .int .u8 z by rw [HL.out, hz]; rfl)
  have a0 : W1.cell? ⟨G, 0, none⟩ = some (.pointer (some ⟨r, 0, none⟩)) := HM0.out.box.cell 0
  have HIH := Lib.hid IH
  have HDD := Lib.hid hD
  clear hW1 hb1 h ha hs hX hm hz hD IH
  rw [hG] at *
  clear hG
  go_enter_defers Try.func53, Try.ntmps53
  go_upto_region 2 with (fail)
  rw [show (((w.alloc (.cells #[.pointer (some ⟨r, 0, none⟩)] 53)).alloc (.cells #[.int .i64 0, .int .i64 0, .string ⟨#[]⟩, .slice none 0 0, .slice none 0 0] 25)).alloc (.cells #[.int .i64 4, .int .i64 0, .string ⟨#[]⟩, .slice none 0 0, .slice none 0 0] 25)) = W1 from HW1.out.symm]
  clear HW1
  go_wp2_with fail
  refine calls_then CK.out ?_
  rintro y w2 ⟨rfl, hrd, hrg⟩
  have HM2 := Lib.hid (HM0.out.step hrg hrd)
  rw [HZ.out]
  clear hrd hrg a0
  go_upto_if 9 with (fail)
  go_cut [4] from 7 to 10 (fun c w3 => c = byteV (endC m) ∧ LsM w w.heap.size r s D (treeV m none 0 0 none 0 0) w3 a 0)
  case first =>
    cases m with
    | false =>
      go_wp2_with fail
      go_meet
      exact ⟨rfl, HM2.out⟩
    | true =>
      go_wp2_with (refine wpList_put_cell (x := .tmp 10) (i := 0) HM2.out.tree rfl rfl rfl rfl (by kernel_rfl) (by simp [jvCells]) rfl ?_; intro w3 hb3 hw3)
      go_meet
      exact ⟨rfl, HM2.out.put hw3 hb3⟩
  case rest =>
  obtain ⟨rfl, hm3⟩ := hcut
  have HM3 := Lib.hid hm3
  clear hm3 HM2 HM0 CK
  obtain ⟨-, -, c2, -⟩ := HM3.out.rd.cells
  have b0 : wc.cell? ⟨w.heap.size, 0, none⟩ = some (.pointer (some ⟨r, 0, none⟩)) := HM3.out.box.cell 0
  cases d with
  | zero =>
    obtain rfl : D = 6 := by have := HDD.out; omega
    go_wp2_with fail
    refine calls_then (CF.out _ HM3.out.rd) ?_
    rintro y w4 ⟨rfl, hrd, hrg⟩
    have HM4 := Lib.hid (HM3.out.step hrg (show RD w4 r s a 6 9 from hrd))
    clear hrd hrg c2 b0
    go_wp2_with (first
      | refine wpList_get_box (x := .tmp 3) HM4.out.tree rfl rfl rfl hu rfl jT_size3 ?_
      | (refine wpList_put_box (x := .tmp 2) (cells := jvCells (treeV m none 0 0 none 0 0)) HM4.out.res rfl rfl rfl rfl jT_size3 rfl (jvCells_one _) ?_; intro w9 hb9 hw9))
    have HRD9 := Lib.hid (show RD w9 r s a 6 9 from hw9.blk HM4.out.rd (by have := HM4.out.low; omega))
    have HRG9 := Lib.hid (show RG r w w9 from HM4.out.rg.wrote_new hw9 (by omega))
    have HA' := HA.out
    have HS' := HS.out
    exact ⟨_, results_box (P := Try.prog) rfl rfl hb9 hu rfl jT_size3, _, rfl, a, by omega, HRD9.out, HRG9.out, fun j r1 h => by cases h⟩
  | succ d =>
    have hD6 : ¬ 6 ≤ D := by have := HDD.out; omega
    have HV := Lib.hid (HIH.out d rfl)
    obtain ⟨LR, hLR⟩ : ∃ LR, LR = lpOf (d + 1) X := ⟨_, rfl⟩
    have HLR := Lib.hid hLR
    have HLP := Lib.hid (show listP (valueP d) X = LR from hLR.symm)
    obtain ⟨c, hc⟩ : ∃ c, c = a + 1 := ⟨_, rfl⟩
    have HC := Lib.hid hc
    have HCI := Lib.hid (show (a : Int) + 1 = (c : Int) by omega)
    have CB := Lib.hid (fun (u : World) (h : RD u r s c (D + 1) 0) => blanks_any s HS.out r c (D + 1) 0 u h (by have := HA.out; have := HS.out; omega))
    have ha' : (a : Int) ≤ 1000000 := by have := HA.out; have := HS.out; omega
    have hD7 : D ≤ 6 := by omega
    clear hLR HIH CF hc
    go_wp2_with (first
      | (refine wpList_put_cell (x := .tmp 25) (i := 2) HM3.out.rd rfl rfl rfl rfl (by kernel_rfl) (by simp [rdCells]) rfl ?_; intro w4 hb4 hw4;
         have HM4 := Lib.hid (HM3.out.step (RG.wrote hw4) (show RD w4 r s a (D + 1) 0 from hb4));
         have b4 : w4.cell? ⟨w.heap.size, 0, none⟩ = some (.pointer (some ⟨r, 0, none⟩)) := HM4.out.box.cell 0;
         have c4 : w4.cell? ⟨r, 1, none⟩ = some (.int .i64 (a : Int)) := HM4.out.rd.cells.2.1)
      | (refine wpList_put_cell (x := .tmp 33) (i := 1) HM4.out.rd rfl rfl rfl rfl (by kernel_rfl) (by simp [rdCells]) rfl ?_; intro w5 hb5 hw5;
         have HM5 := Lib.hid (HM4.out.step (RG.wrote hw5) (show RD w5 r s c (D + 1) 0 from by
          show Blk w5 r _ #[.string s, .int .i64 ((c : Nat) : Int), .int .i64 (D + 1), .int .i64 0]
          rw [← HCI.out]
          exact hb5));
         have b5 : w5.cell? ⟨w.heap.size, 0, none⟩ = some (.pointer (some ⟨r, 0, none⟩)) := HM5.out.box.cell 0))
    refine calls_then (CB.out _ HM5.out.rd) ?_
    rintro y w6 ⟨rfl, a1, h1, h2, h3, hrd, hrg⟩
    have HM6 := Lib.hid (HM5.out.step hrg hrd)
    have HAT6 := Lib.hid (show At s a a1 (skip X.tail) from ⟨by have := HC.out; omega, .inr (by have := HC.out; have := HA.out; omega), by rw [h3, HC.out, drop_tail, HX.out]⟩)
    have b6 : w6.cell? ⟨w.heap.size, 0, none⟩ = some (.pointer (some ⟨r, 0, none⟩)) := HM6.out.box.cell 0
    have CS := Lib.hid (sign_any (endC m) (by cases m <;> decide) s HS.out r a1 (D + 1) 0 w6 HM6.out.rd (by have := HAT6.out.top; have := HA.out; have := HS.out; omega))
    clear hrd hrg h1 h2 h3 b4 c4 b5 c2 b0 hb4 hw4 hb5 hw5
    go_wp2_with fail
    refine calls_then CS.out ?_
    rintro y w7 ⟨rfl, a2, hat, hrd, hrg⟩
    have HM7 := Lib.hid (HM6.out.step hrg hrd)
    obtain ⟨hp1, hp2⟩ := sign_parts (endC m) (s.data.toList.drop a1)
    rw [hp2] at hat
    rw [hp1]
    rw [HAT6.out.rest] at hat ⊢
    obtain ⟨X1, hX1⟩ : ∃ X1, X1 = skip X.tail := ⟨_, rfl⟩
    rw [← hX1] at hat ⊢
    have HAT7 := Lib.hid hat
    have HX1 := Lib.hid hX1
    obtain ⟨b, hb⟩ : ∃ b, b = (signP (endC m) X1).1 := ⟨_, rfl⟩
    rw [← hb]
    have HB := Lib.hid (show signP (endC m) X1 = (b, (signP (endC m) X1).2) by rw [hb])
    obtain ⟨LL, hLL⟩ : ∃ LL, LL = listL (valueP d) m X.length [] [] X1 := ⟨_, rfl⟩
    have HLL := Lib.hid (show LR = lres m LL by rw [← HLP.out, listP_lres, hLL, HM.out, hX1])
    obtain ⟨n, hn⟩ : ∃ n, X.length = n + 1 := ⟨X.length - 1, by have := HA.out; have := HX.out; have h5 : s.data.toList.length = s.size := rfl; rw [HX.out, List.length_drop]; omega⟩
    have HN := Lib.hid (show listL (valueP d) m (n + 1) [] [] X1 = LL by rw [hLL, hn])
    have HN1 := Lib.hid (show X1.length ≤ n by have h1 := skip_len X.tail; rw [← hX1] at h1; simp at h1; omega)
    clear hrd hrg hp1 hp2 hat hX1 hb hLL hn CS b6
    go_wp2_with fail
    go_loopg [5] n (fun gk more wr => ∃ (ns : List Bs) (ks : List JT) (A1 A2 : Option Addr) (c1 c2 a1 : Nat) (b : Bool) (X0 r1 : Bs), more = .bool (!b) ∧ signP (endC m) X0 = (b, r1) ∧ At s a a1 r1 ∧ listL (valueP d) m (gk + 1) ns ks X0 = LL ∧ r1.length ≤ gk ∧
      ns.length ≤ ks.length ∧ ks.length ≤ a1 ∧ Ls w w.heap.size r s (D + 1) (treeV m A1 ns.length c1 A2 ks.length c2) A1 c1 ns A2 c2 ks wr a1 0)
    case atStart =>
      refine ⟨[], [], none, none, 0, 0, a2, b, X1, _, rfl, HB.out, HAT6.out.trans HAT7.out, HN.out, ?_, Nat.le_refl _, Nat.zero_le _, HM7.out.start⟩
      have h1 := signP_len (endC m) X1
      have h2 := HN1.out
      omega
    case round =>
      obtain ⟨ns, ks, A1, A2, c1, c2, a3, b3, X0, r1, rfl, hsg, hat, hll, hlen, hnk, hka, hls⟩ := hrel
      have HSG := Lib.hid hsg
      have HAT := Lib.hid hat
      have HLK := Lib.hid hll
      have HLEN := Lib.hid hlen
      have HNK := Lib.hid hnk
      have HKA := Lib.hid hka
      have HLS := Lib.hid hls
      clear hsg hat hll hlen hnk hka hls
      clear HN HN1 HB HX1 HAT7 HM7 HAT6 HM6 HM5 HM4 HM3 hmz HZ
      cases b3 with
      | true =>
        have HE := Lib.hid (show LL = .ok (ns, ks, r1) by rw [← HLK.out, listL_end HSG.out])
        go_wp2_with (first
          | refine wpList_get_box (x := .tmp 3) HLS.out.m.tree rfl rfl rfl hu rfl jT_size3 ?_
          | (refine wpList_put_box (x := .tmp 2) (cells := jvCells (treeV m A1 ns.length c1 A2 ks.length c2)) HLS.out.m.res rfl rfl rfl rfl jT_size3 rfl (jvCells_one _) ?_; intro w9 hb9 hw9))
        have HM9 := Lib.hid (HLS.out.m)
        refine list_leaves _ w.heap.size (treeV m A1 ns.length c1 A2 ks.length c2) rfl s r a3 D 0 hD0 (by omega) HM9.out.low w9 (hw9.blk HM9.out.box (by omega)) hb9 (hw9.blk HM9.out.rd (by have := HM9.out.low; omega)) fun u' hrd hw => ?_
        have hE : lpOf (d + 1) X = .ok (.mk (kindV m) 0 [] ns ks, r1) := by rw [← HLR.out, HLL.out, HE.out]; rfl
        refine ⟨_, rfl, a3, by have := HAT.out.top; have := HA.out; have := HS.out; omega, by rw [hE]; exact hrd, (HM9.out.rg.wrote_new hw9 (by omega)).trans (RG.wrote hw), fun j q hq => ?_⟩
        rw [hE] at hq
        injection hq with hq
        injection hq with h1 h2
        subst h1 h2
        refine ⟨HAT.out, ?_⟩
        have hlow := HM9.out.low
        exact (((HLS.out.rep).heap fun b hb1 hb => hw9.grown.block b hb1 (by intro h; injection h with h; omega)).heap fun b hb1 hb => hw.grown.block b hb1 (by intro h; injection h with h; omega)).imp fun b _ hb => by omega
      | false =>
        have HE := Lib.hid (show moreK (valueP d) m gk ks (kidK (valueP d) (nameK m ns (commaP ks.isEmpty r1))) = LL by rw [← HLK.out, listL_more HSG.out])
        have HA3 := Lib.hid (show a3 ≤ s.size by have := HAT.out.top; have := HA.out; omega)
        have hks : (ks.length : Int) ≤ 1000000 := by have := HKA.out; have := HA3.out; have := HS.out; omega
        have HKS := Lib.hid hks
        have HRE := Lib.hid (show s.data.toList.drop a3 = r1 from HAT.out.rest)
        have b0 : wr.cell? ⟨w.heap.size, 0, none⟩ = some (.pointer (some ⟨r, 0, none⟩)) := HLS.out.m.box.cell 0
        have b4 : wr.cell? ⟨w.heap.size + 2, 4, none⟩ = some (.slice A2 ks.length c2) := HLS.out.m.tree.cell 4
        have CM := Lib.hid (must_all 44 (by decide) s HS.out r a3 (D + 1) wr HLS.out.m.rd (by have := HA3.out; have := HS.out; omega))
        clear HLK HSG
        obtain ⟨kl, hkl⟩ : ∃ kl, kl = ks.length := ⟨_, rfl⟩
        rw [← hkl] at b4 hks
        have HKL := Lib.hid hkl
        clear hkl
        go_upto_if 48 with (fail)
        go_cut [] from 40 to 75 (fun wx => ∃ (a4 : Nat) (e4 : Int), (a4 : Int) ≤ 1500000 ∧ Ls w w.heap.size r s (D + 1) (treeV m A1 ns.length c1 A2 ks.length c2) A1 c1 ns A2 c2 ks wx a4 e4 ∧ e4 = errE (commaP ks.isEmpty r1) ∧ ∀ r2, commaP ks.isEmpty r1 = .ok r2 → At s a3 a4 r2)
        case first =>
          by_cases hk0 : kl = 0
          · subst hk0
            have HK0 := Lib.hid (show ks.isEmpty = true by have := HKL.out; rw [List.isEmpty_iff]; exact List.eq_nil_of_length_eq_zero this.symm)
            go_wp2_with fail
            go_meet
            rw [HK0.out]
            refine ⟨a3, 0, by have := HA3.out; have := HS.out; omega, HLS.out, rfl, fun r2 h => ?_⟩
            injection h with h
            subst h
            exact ⟨Nat.le_refl _, .inl (Nat.le_refl _), HRE.out⟩
          · have hk1 : (0 : Int) < (kl : Int) := by omega
            have HK0 := Lib.hid (show ks.isEmpty = false by
              have := HKL.out
              cases ks with
              | nil => exact absurd this hk0
              | cons x l => rfl)
            clear hk0
            go_wp2_with fail
            refine calls_then CM.out ?_
            rintro y w8 ⟨rfl, a4, ha4, hrd, hrg, hat⟩
            have HLS8 := Lib.hid (HLS.out.step hrg hrd)
            rw [HRE.out] at hat HLS8
            have HAT8 := Lib.hid hat
            have HA8 := Lib.hid ha4
            clear hat hrd hrg ha4
            go_wp2_with fail
            go_meet
            rw [HK0.out]
            exact ⟨a4, _, HA8.out, HLS8.out, rfl, HAT8.out⟩
        case rest =>
        obtain ⟨a4, e4, ha4, hls4, he4, hat4⟩ := hcut
        have HA4 := Lib.hid ha4
        have HLS4 := Lib.hid hls4
        have HE4 := Lib.hid he4
        have HAT4 := Lib.hid hat4
        have HLOW := Lib.hid hls4.m.low
        clear ha4 hls4 he4 hat4 CM b0 b4
        have k0 : wc.cell? ⟨w.heap.size + 2, 0, none⟩ = some (.int .i64 (kindV m)) := HLS4.out.m.tree.cell 0
        go_upto_if 53 with (fail)
        go_cut [] from 40 to 75 (fun wx => ∃ (ns' : List Bs) (A1' : Option Addr) (c1' a5 : Nat) (e5 : Int), (a5 : Int) ≤ 1500000 ∧ Ls w w.heap.size r s (D + 1) (treeV m A1' ns'.length c1' A2 ks.length c2) A1' c1' ns' A2 c2 ks wx a5 e5 ∧
          e5 = errE (nameK m ns (commaP ks.isEmpty r1)) ∧ ns'.length ≤ ks.length + 1 ∧ ∀ x r3, nameK m ns (commaP ks.isEmpty r1) = .ok (x, r3) → x = ns' ∧ At s a3 a5 r3)
        case first =>
          cases m with
          | false =>
            go_wp2_with fail
            go_meet
            refine ⟨ns, A1, c1, a4, e4, HA4.out, HLS4.out, ?_, by have := HNK.out; omega, fun x r3 h => ?_⟩
            · rw [HE4.out]
              cases commaP ks.isEmpty r1 <;> rfl
            · cases hc : commaP ks.isEmpty r1 with
              | error e => rw [hc] at h; cases h
              | ok r2 =>
                rw [hc] at h
                injection h with h
                injection h with h1 h2
                subst h1 h2
                exact ⟨rfl, HAT4.out _ hc⟩
          | true =>
            have CN := Lib.hid (fun (u : World) (h : Ls w w.heap.size r s (D + 1) (treeV true A1 ns.length c1 A2 ks.length c2) A1 c1 ns A2 c2 ks u a4 e4) =>
              show Calls Try.prog 62 #[.pointer (some ⟨r, 0, none⟩), .slice A1 ns.length c1] u fun x w' => ∃ (t : Bs) (a5 : Nat) (e5 : Int), x = .returned (.string (bs t)) ∧ NmQ s a4 e4 ns t a5 e5 ∧
                Ls w w.heap.size r s (D + 1) (treeV true A1 ns.length c1 A2 ks.length c2) A1 c1 ns A2 c2 ks w' a5 e5 ∧ RG r u w' from by
                refine (name_all ns A1 c1 (w.heap.size + 3) s HS.out r a4 (D + 1) e4 u h.m.rd HA4.out (fun h0 => ?_) (by have := HLOW.out; omega) h.names.x (by have := HNK.out; have := HKS.out; omega)).mono ?_
                · cases hc : commaP ks.isEmpty r1 with
                  | error e => exact absurd (by rw [← h0, HE4.out, hc]; rfl) (commaP_err hc)
                  | ok r2 => have := (HAT4.out r2 hc).top; have := HA3.out; omega
                · rintro x w' ⟨t, rfl, a5, ha5, hrd, hrg, hok⟩
                  exact ⟨t, a5, _, rfl, ⟨ha5, rfl, hok⟩, h.step hrg hrd, hrg⟩)
            have hnl : (ns.length : Int) ≤ 1000000 := by have := HNK.out; have := HKS.out; omega
            clear k0
            go_wp2_with fail
            have HI0 : wc.drew.cell? ⟨w.heap.size, 0, none⟩ = some (.pointer (some ⟨r, 0, none⟩)) ∧ wc.drew.cell? ⟨w.heap.size + 2, 3, none⟩ = some (.slice A1 ns.length c1) := ⟨HLS4.out.m.box.cell 0, HLS4.out.m.tree.cell 3⟩
            have HJ0 : Ls w w.heap.size r s (D + 1) (treeV true A1 ns.length c1 A2 ks.length c2) A1 c1 ns A2 c2 ks wc.drew a4 e4 := HLS4.out.drew
            refine wp_region_list (fun _ => True) (fun | false => (fun u => u.cell? ⟨w.heap.size, 0, none⟩ = some (.pointer (some ⟨r, 0, none⟩)) ∧ u.cell? ⟨w.heap.size + 2, 3, none⟩ = some (.slice A1 ns.length c1)) | true => (fun u => Ls w w.heap.size r s (D + 1) (treeV true A1 ns.length c1 A2 ks.length c2) A1 c1 ns A2 c2 ks u a4 e4)) (fun | false, i => i == 9 | true, i => i == 5 || i == 6 || i == 7 || i == 9)
              [fun z _ => z 0 = .pointer (some ⟨w.heap.size + 2, 3, none⟩),
               fun z _ => z 1 = .slice A1 ns.length c1,
               fun z _ => z 2 = .pointer (some ⟨r, 0, none⟩),
               fun z _ => z 3 = .pointer (some ⟨w.heap.size + 2, 3, none⟩),
               fun z _ => z 4 = .slice A1 ns.length c1,
               fun z u => ∃ (t : Bs) (a5 : Nat) (e5 : Int), z 5 = .string (bs t) ∧ NmQ s a4 e4 ns t a5 e5 ∧ Ls w w.heap.size r s (D + 1) (treeV true A1 ns.length c1 A2 ks.length c2) A1 c1 ns A2 c2 ks u a5 e5,
               fun z u => ∃ (t : Bs) (a5 : Nat) (e5 : Int) (ad : Nat), z 6 = .slice (some ⟨ad, 0, none⟩) 1 1 ∧ Blk u ad 9 #[.string (bs t)] ∧ NmQ s a4 e4 ns t a5 e5 ∧ Ls w w.heap.size r s (D + 1) (treeV true A1 ns.length c1 A2 ks.length c2) A1 c1 ns A2 c2 ks u a5 e5,
               fun z u => ∃ (t : Bs) (a5 : Nat) (e5 : Int) (A' : Option Addr) (c' : Nat), z 7 = .slice A' (ns.length + 1) c' ∧ NmQ s a4 e4 ns t a5 e5 ∧ Ls w w.heap.size r s (D + 1) (treeV true A1 ns.length c1 A2 ks.length c2) A' c' (ns ++ [t]) A2 c2 ks u a5 e5,
               fun z _ => z 8 = .pointer (some ⟨w.heap.size + 2, 3, none⟩),
               fun z u => ∃ (t : Bs) (a5 : Nat) (e5 : Int) (A' : Option Addr) (c' : Nat), NmQ s a4 e4 ns t a5 e5 ∧ Ls w w.heap.size r s (D + 1) (treeV true A' (ns ++ [t]).length c' A2 ks.length c2) A' c' (ns ++ [t]) A2 c2 ks u a5 e5]
              [Eq, Eq, Eq, Eq, Eq, fun u u' => RG r u u', fun u u' => Below u.heap.size u u', fun u u' => ∃ g : Option Nat, u.grownBy u' g ∧ ∀ k, g = some k → w.heap.size + 3 ≤ k, Eq, fun _ _ => True]
              (fun i k => (i == 6 && k == 5) || (i == 7 && k == 5) || (i == 7 && k == 6) || (i == 9 && k == 5) || (i == 9 && k == 6) || (i == 9 && k == 7)) [(0, some 54), (1, some 55), (2, some 56), (3, some 57), (4, some 58), (5, some 59), (6, some 60), (7, some 61), (8, some 62), (9, none)] (by kernel_rfl) (by kernel_rfl) rfl (fun _ => rfl) ?_ ?_ ?_ ?_ ?_ ?_
            · exact (by first | trivial | assumption)
            · intro m; cases m; exact HI0; exact HJ0
            · intro m; cases m
              · exact ⟨.inr (fun _ _ h h0 => h ▸ h0), .inr (fun _ _ h h0 => h ▸ h0), .inr (fun _ _ h h0 => h ▸ h0), .inr (fun _ _ h h0 => h ▸ h0), .inr (fun _ _ h h0 => h ▸ h0), .inr (fun _ _ h h0 => ⟨World.grownBy.cell h h0.1 (by have := HLOW.out; intro e; injection e with e; have e : w.heap.size = r := e; omega), World.grownBy.cell h h0.2 (by have := HLOW.out; intro e; injection e with e; have e : w.heap.size + 2 = r := e; omega)⟩), .inr (fun _ _ h h0 => ⟨(grown_of_below h none).cell h0.1 (by simp), (grown_of_below h none).cell h0.2 (by simp)⟩), .inr (fun _ _ h h0 => by obtain ⟨g, hg, hk⟩ := h; exact ⟨hg.cell h0.1 (by intro e; have : w.heap.size + 3 ≤ w.heap.size := hk _ e.symm; omega), hg.cell h0.2 (by intro e; have : w.heap.size + 3 ≤ w.heap.size + 2 := hk _ e.symm; omega)⟩), .inr (fun _ _ h h0 => h ▸ h0), .inl rfl, trivial⟩
              · exact ⟨.inr (fun _ _ h h0 => h ▸ h0), .inr (fun _ _ h h0 => h ▸ h0), .inr (fun _ _ h h0 => h ▸ h0), .inr (fun _ _ h h0 => h ▸ h0), .inr (fun _ _ h h0 => h ▸ h0), .inl rfl, .inl rfl, .inl rfl, .inr (fun _ _ h h0 => h ▸ h0), .inl rfl, trivial⟩
            · exact ⟨⟨.inl rfl, .inr (.inr (.inl rfl)), .inr (.inr (.inr (fun _ _ _ _ _ h => h))), .inr (.inr (.inr (fun _ _ _ _ _ h => h))), .inr (.inr (.inr (fun _ _ _ _ _ h => h))), .inr (.inr (.inr (fun _ _ _ _ h h0 => by cases h; exact h0))), .inr (.inr (.inr (fun _ _ _ _ h h0 => by cases h; exact h0))), .inr (.inr (.inl rfl)), .inr (.inr (.inl rfl)), .inr (.inr (.inl rfl)), trivial⟩,
                ⟨.inr (.inr (.inr (fun _ _ _ _ _ h => h))), .inl rfl, .inr (.inr (.inr (fun _ _ _ _ _ h => h))), .inr (.inr (.inr (fun _ _ _ _ _ h => h))), .inr (.inr (.inr (fun _ _ _ _ _ h => h))), .inr (.inr (.inr (fun _ _ _ _ h h0 => by cases h; exact h0))), .inr (.inr (.inr (fun _ _ _ _ h h0 => by cases h; exact h0))), .inr (.inr (.inl rfl)), .inr (.inr (.inl rfl)), .inr (.inr (.inl rfl)), trivial⟩,
                ⟨.inr (.inr (.inr (fun _ _ _ _ _ h => h))), .inr (.inr (.inr (fun _ _ _ _ _ h => h))), .inl rfl, .inr (.inr (.inr (fun _ _ _ _ _ h => h))), .inr (.inr (.inr (fun _ _ _ _ _ h => h))), .inr (.inr (.inl rfl)), .inr (.inr (.inl rfl)), .inr (.inr (.inl rfl)), .inr (.inr (.inl rfl)), .inr (.inr (.inl rfl)), trivial⟩,
                ⟨.inr (.inr (.inr (fun _ _ _ _ _ h => h))), .inr (.inr (.inr (fun _ _ _ _ _ h => h))), .inr (.inr (.inr (fun _ _ _ _ _ h => h))), .inl rfl, .inr (.inr (.inl rfl)), .inr (.inr (.inl rfl)), .inr (.inr (.inl rfl)), .inr (.inr (.inl rfl)), .inr (.inr (.inl rfl)), .inr (.inr (.inl rfl)), trivial⟩,
                ⟨.inr (.inr (.inr (fun _ _ _ _ _ h => h))), .inr (.inr (.inr (fun _ _ _ _ _ h => h))), .inr (.inr (.inr (fun _ _ _ _ _ h => h))), .inr (.inr (.inr (fun _ _ _ _ _ h => h))), .inl rfl, .inr (.inr (.inl rfl)), .inr (.inr (.inl rfl)), .inr (.inr (.inl rfl)), .inr (.inr (.inl rfl)), .inr (.inr (.inl rfl)), trivial⟩,
                ⟨.inr (.inr (.inr (fun _ _ _ _ _ h => h))), .inr (.inr (.inr (fun _ _ _ _ _ h => h))), .inr (.inr (.inr (fun _ _ _ _ _ h => h))), .inr (.inr (.inr (fun _ _ _ _ _ h => h))), .inr (.inr (.inr (fun _ _ _ _ _ h => h))), .inl rfl, .inr (.inr (.inl rfl)), .inr (.inr (.inl rfl)), .inr (.inr (.inl rfl)), .inr (.inr (.inl rfl)), trivial⟩,
                ⟨.inr (.inr (.inr (fun _ _ _ _ _ h => h))), .inr (.inr (.inr (fun _ _ _ _ _ h => h))), .inr (.inr (.inr (fun _ _ _ _ _ h => h))), .inr (.inr (.inr (fun _ _ _ _ _ h => h))), .inr (.inr (.inr (fun _ _ _ _ _ h => h))), .inr (.inl rfl), .inl rfl, .inr (.inr (.inl rfl)), .inr (.inr (.inl rfl)), .inr (.inr (.inl rfl)), trivial⟩,
                ⟨.inr (.inr (.inr (fun _ _ _ _ _ h => h))), .inr (.inr (.inr (fun _ _ _ _ _ h => h))), .inr (.inr (.inr (fun _ _ _ _ _ h => h))), .inr (.inr (.inr (fun _ _ _ _ _ h => h))), .inr (.inr (.inr (fun _ _ _ _ _ h => h))), .inr (.inl rfl), .inr (.inl rfl), .inl rfl, .inr (.inr (.inl rfl)), .inr (.inr (.inl rfl)), trivial⟩,
                ⟨.inr (.inr (.inr (fun _ _ _ _ _ h => h))), .inr (.inr (.inr (fun _ _ _ _ _ h => h))), .inr (.inr (.inr (fun _ _ _ _ _ h => h))), .inr (.inr (.inr (fun _ _ _ _ _ h => h))), .inr (.inr (.inr (fun _ _ _ _ _ h => h))), .inr (.inr (.inr (fun _ _ _ _ h h0 => by cases h; exact h0))), .inr (.inr (.inr (fun _ _ _ _ h h0 => by cases h; exact h0))), .inr (.inr (.inr (fun _ _ _ _ h h0 => by cases h; exact h0))), .inl rfl, .inr (.inr (.inl rfl)), trivial⟩,
                ⟨.inr (.inr (.inr (fun _ _ _ _ _ h => h))), .inr (.inr (.inr (fun _ _ _ _ _ h => h))), .inr (.inr (.inr (fun _ _ _ _ _ h => h))), .inr (.inr (.inr (fun _ _ _ _ _ h => h))), .inr (.inr (.inr (fun _ _ _ _ _ h => h))), .inr (.inl rfl), .inr (.inl rfl), .inr (.inl rfl), .inr (.inr (.inr (fun _ _ _ _ _ h => h))), .inl rfl, trivial⟩, trivial⟩
            · refine ⟨?_, ?_, ?_, ?_, ?_, ?_, ?_, ?_, ?_, ?_, trivial⟩
              · -- 0: Op.fieldAddr 25 (Operand.tmp 3) 3
                refine step_plain [] (fun _ => rfl) rfl ?_
                intro w1 vals hC1 hi0 hf E hE
                have hI1 : (fun u => u.cell? ⟨w.heap.size, 0, none⟩ = some (.pointer (some ⟨r, 0, none⟩)) ∧ u.cell? ⟨w.heap.size + 2, 3, none⟩ = some (.slice A1 ns.length c1)) w1 := hi0 false rfl
                try dsimp only at hI1
                clear hi0
                clear hf
                simp only [puts, act_put, act_put_none, List.setIfInBounds_toArray, List.set_cons_zero, List.set_cons_succ] at hE ⊢
                go_wp2
                exact .mk (hE _ _ rfl hC1 rfl)
              · -- 1: Op.load 22 (Operand.tmp 54)
                refine step_plain [(0, some 54)] (fun _ => rfl) rfl ?_
                intro w1 vals hC1 hi0 hf E hE
                have hI1 : (fun u => u.cell? ⟨w.heap.size, 0, none⟩ = some (.pointer (some ⟨r, 0, none⟩)) ∧ u.cell? ⟨w.heap.size + 2, 3, none⟩ = some (.slice A1 ns.length c1)) w1 := hi0 false rfl
                try dsimp only at hI1
                clear hi0
                have f0 : vals 0 = .pointer (some ⟨w.heap.size + 2, 3, none⟩) := hf 0 rfl
                try dsimp only at f0
                clear hf
                obtain ⟨d1, d0⟩ := hI1
                simp only [puts, act_put, act_put_none, List.setIfInBounds_toArray, List.set_cons_zero, List.set_cons_succ, f0] at hE ⊢
                clear f0
                go_wp2
                exact .mk (hE _ _ rfl hC1 rfl)
              · -- 2: Op.load 53 (Operand.tmp 1)
                refine step_plain [] (fun _ => rfl) rfl ?_
                intro w1 vals hC1 hi0 hf E hE
                have hI1 : (fun u => u.cell? ⟨w.heap.size, 0, none⟩ = some (.pointer (some ⟨r, 0, none⟩)) ∧ u.cell? ⟨w.heap.size + 2, 3, none⟩ = some (.slice A1 ns.length c1)) w1 := hi0 false rfl
                try dsimp only at hI1
                have hJ1 : (fun u => Ls w w.heap.size r s (D + 1) (treeV true A1 ns.length c1 A2 ks.length c2) A1 c1 ns A2 c2 ks u a4 e4) w1 := hi0 true rfl
                try dsimp only at hJ1
                clear hi0
                clear hf
                obtain ⟨d1, d0⟩ := hI1
                simp only [puts, act_put, act_put_none, List.setIfInBounds_toArray, List.set_cons_zero, List.set_cons_succ] at hE ⊢
                go_wp2
                exact .mk (hE _ _ rfl hC1 rfl)
              · -- 3: Op.fieldAddr 25 (Operand.tmp 3) 3
                refine step_plain [] (fun _ => rfl) rfl ?_
                intro w1 vals hC1 hi0 hf E hE
                have hI1 : (fun u => u.cell? ⟨w.heap.size, 0, none⟩ = some (.pointer (some ⟨r, 0, none⟩)) ∧ u.cell? ⟨w.heap.size + 2, 3, none⟩ = some (.slice A1 ns.length c1)) w1 := hi0 false rfl
                try dsimp only at hI1
                have hJ1 : (fun u => Ls w w.heap.size r s (D + 1) (treeV true A1 ns.length c1 A2 ks.length c2) A1 c1 ns A2 c2 ks u a4 e4) w1 := hi0 true rfl
                try dsimp only at hJ1
                clear hi0
                clear hf
                simp only [puts, act_put, act_put_none, List.setIfInBounds_toArray, List.set_cons_zero, List.set_cons_succ] at hE ⊢
                go_wp2
                exact .mk (hE _ _ rfl hC1 rfl)
              · -- 4: Op.load 22 (Operand.tmp 57)
                refine step_plain [(3, some 57)] (fun _ => rfl) rfl ?_
                intro w1 vals hC1 hi0 hf E hE
                have hI1 : (fun u => u.cell? ⟨w.heap.size, 0, none⟩ = some (.pointer (some ⟨r, 0, none⟩)) ∧ u.cell? ⟨w.heap.size + 2, 3, none⟩ = some (.slice A1 ns.length c1)) w1 := hi0 false rfl
                try dsimp only at hI1
                have hJ1 : (fun u => Ls w w.heap.size r s (D + 1) (treeV true A1 ns.length c1 A2 ks.length c2) A1 c1 ns A2 c2 ks u a4 e4) w1 := hi0 true rfl
                try dsimp only at hJ1
                clear hi0
                have f3 : vals 3 = .pointer (some ⟨w.heap.size + 2, 3, none⟩) := hf 3 rfl
                try dsimp only at f3
                clear hf
                obtain ⟨d1, d0⟩ := hI1
                simp only [puts, act_put, act_put_none, List.setIfInBounds_toArray, List.set_cons_zero, List.set_cons_succ, f3] at hE ⊢
                clear f3
                go_wp2
                exact .mk (hE _ _ rfl hC1 rfl)
              · -- 5: Op.call { callee := Callee.value (Operand.func 62), args := #[Operand.tmp 56, Operand.tmp 58], argTypes := #[5
                refine step_plain [(2, some 56), (4, some 58)] (fun _ => rfl) rfl ?_
                intro w1 vals hC1 hi0 hf E hE
                have hI1 : (fun u => u.cell? ⟨w.heap.size, 0, none⟩ = some (.pointer (some ⟨r, 0, none⟩)) ∧ u.cell? ⟨w.heap.size + 2, 3, none⟩ = some (.slice A1 ns.length c1)) w1 := hi0 false rfl
                try dsimp only at hI1
                have hJ1 : (fun u => Ls w w.heap.size r s (D + 1) (treeV true A1 ns.length c1 A2 ks.length c2) A1 c1 ns A2 c2 ks u a4 e4) w1 := hi0 true rfl
                try dsimp only at hJ1
                clear hi0
                have f2 : vals 2 = .pointer (some ⟨r, 0, none⟩) := hf 2 rfl
                have f4 : vals 4 = .slice A1 ns.length c1 := hf 4 rfl
                try dsimp only at f2 f4
                clear hf
                have HJ1 := Lib.hid hJ1
                clear hJ1
                simp only [puts, act_put, act_put_none, List.setIfInBounds_toArray, List.set_cons_zero, List.set_cons_succ, f2, f4] at hE ⊢
                clear f2 f4
                go_wp2_with fail
                refine calls_then (CN.out _ HJ1.out) ?_
                rintro y w5 ⟨t, a5, e5, rfl, hq, hl, hg⟩
                have HQ := Lib.hid hq
                have HL := Lib.hid hl
                have HG := Lib.hid hg
                clear hq hl hg
                go_wp2_with fail
                exact .mk (hE _ _ ⟨t, a5, e5, rfl, HQ.out, HL.out⟩ hC1 HG.out)
              · -- 6: Op.buildSlice 22 1 #[(0, Operand.tmp 59)]
                refine step_plain [(5, some 59)] (fun _ => rfl) rfl ?_
                intro w1 vals hC1 hi0 hf E hE
                have hI1 : (fun u => u.cell? ⟨w.heap.size, 0, none⟩ = some (.pointer (some ⟨r, 0, none⟩)) ∧ u.cell? ⟨w.heap.size + 2, 3, none⟩ = some (.slice A1 ns.length c1)) w1 := hi0 false rfl
                try dsimp only at hI1
                clear hi0
                have f5 : (fun z u => ∃ (t : Bs) (a5 : Nat) (e5 : Int), z 5 = .string (bs t) ∧ NmQ s a4 e4 ns t a5 e5 ∧ Ls w w.heap.size r s (D + 1) (treeV true A1 ns.length c1 A2 ks.length c2) A1 c1 ns A2 c2 ks u a5 e5) vals w1 := hf 5 rfl
                try dsimp only at f5
                clear hf
                obtain ⟨t, a5, e5, hx, hq, hl⟩ := f5
                have HQ := Lib.hid hq
                have HL := Lib.hid hl
                clear hq hl
                simp only [puts, act_put, act_put_none, List.setIfInBounds_toArray, List.set_cons_zero, List.set_cons_succ, hx] at hE ⊢
                clear hx
                go_wp2
                exact .mk (hE _ _ ⟨t, a5, e5, _, rfl, Blk.new _ _ _, HQ.out, HL.out.new ((Below.refl _ _).alloc (Nat.le_refl _) _)⟩ hC1 ((Below.refl _ _).alloc (Nat.le_refl _) _))
              · -- 7: Op.call { callee := Callee.builtin Builtin.append, args := #[Operand.tmp 55, Operand.tmp 60], argTypes := #[22
                refine step_plain [(1, some 55), (6, some 60), (5, some 59)] (fun _ => rfl) rfl ?_
                intro w1 vals hC1 hi0 hf E hE
                have hI1 : (fun u => u.cell? ⟨w.heap.size, 0, none⟩ = some (.pointer (some ⟨r, 0, none⟩)) ∧ u.cell? ⟨w.heap.size + 2, 3, none⟩ = some (.slice A1 ns.length c1)) w1 := hi0 false rfl
                try dsimp only at hI1
                clear hi0
                have f1 : vals 1 = .slice A1 ns.length c1 := hf 1 rfl
                have f6 : (fun z u => ∃ (t : Bs) (a5 : Nat) (e5 : Int) (ad : Nat), z 6 = .slice (some ⟨ad, 0, none⟩) 1 1 ∧ Blk u ad 9 #[.string (bs t)] ∧ NmQ s a4 e4 ns t a5 e5 ∧ Ls w w.heap.size r s (D + 1) (treeV true A1 ns.length c1 A2 ks.length c2) A1 c1 ns A2 c2 ks u a5 e5) vals w1 := hf 6 rfl
                try dsimp only at f1 f6
                clear hf
                obtain ⟨t, a5, e5, ad, hx, hk, hq, hl⟩ := f6
                have HQ := Lib.hid hq
                have HL := Lib.hid hl
                have HK := Lib.hid hk
                clear hq hl hk
                simp only [puts, act_put, act_put_none, List.setIfInBounds_toArray, List.set_cons_zero, List.set_cons_succ, f1, hx] at hE ⊢
                clear f1
                clear hx
                go_wp2_with (refine wpList_append_r (news := [.string (bs t)]) (m := 1) sl_strz rfl rfl HL.out.names rfl rfl rfl (Rd.of_blk (l := [.string (bs t)]) HK.out (HK.out.lt)) (by simp [Value.oneCell']) (by unfold maxLen; omega) (by omega) (HL.out.m.size) ?_; intro A' c' w5 ho hg hn)
                exact .mk (hE _ _ ⟨t, a5, e5, A', c', rfl, HQ.out, HL.out.name ho hg hn⟩ hC1 ⟨_, hg, fun k hk => (HL.out.names.lt k hk).1⟩)
              · -- 8: Op.fieldAddr 25 (Operand.tmp 3) 3
                refine step_plain [(0, some 54), (1, some 55), (2, some 56), (3, some 57), (4, some 58), (5, some 59), (6, some 60), (7, some 61)] (fun _ => rfl) rfl ?_
                intro w1 vals hC1 hi0 hf E hE
                have hI1 : (fun u => u.cell? ⟨w.heap.size, 0, none⟩ = some (.pointer (some ⟨r, 0, none⟩)) ∧ u.cell? ⟨w.heap.size + 2, 3, none⟩ = some (.slice A1 ns.length c1)) w1 := hi0 false rfl
                try dsimp only at hI1
                clear hi0
                have f0 : vals 0 = .pointer (some ⟨w.heap.size + 2, 3, none⟩) := hf 0 rfl
                have f1 : vals 1 = .slice A1 ns.length c1 := hf 1 rfl
                have f2 : vals 2 = .pointer (some ⟨r, 0, none⟩) := hf 2 rfl
                have f3 : vals 3 = .pointer (some ⟨w.heap.size + 2, 3, none⟩) := hf 3 rfl
                have f4 : vals 4 = .slice A1 ns.length c1 := hf 4 rfl
                have f7 : (fun z u => ∃ (t : Bs) (a5 : Nat) (e5 : Int) (A' : Option Addr) (c' : Nat), z 7 = .slice A' (ns.length + 1) c' ∧ NmQ s a4 e4 ns t a5 e5 ∧ Ls w w.heap.size r s (D + 1) (treeV true A1 ns.length c1 A2 ks.length c2) A' c' (ns ++ [t]) A2 c2 ks u a5 e5) vals w1 := hf 7 rfl
                try dsimp only at f0 f1 f2 f3 f4 f7
                clear hf
                simp only [puts, act_put, act_put_none, List.setIfInBounds_toArray, List.set_cons_zero, List.set_cons_succ, f0, f1, f2, f3, f4] at hE ⊢
                clear f0 f1 f2 f3 f4
                go_wp2
                exact .mk (hE _ _ rfl hC1 rfl)
              · -- 9: Op.store 22 (Operand.tmp 62) (Operand.tmp 61)
                refine step_plain [(8, some 62), (7, some 61), (7, some 61), (0, some 54), (1, some 55), (2, some 56), (3, some 57), (4, some 58), (5, some 59), (6, some 60), (7, some 61)] (fun _ => rfl) rfl ?_
                intro w1 vals hC1 hi0 hf E hE
                have hI1 : (fun u => u.cell? ⟨w.heap.size, 0, none⟩ = some (.pointer (some ⟨r, 0, none⟩)) ∧ u.cell? ⟨w.heap.size + 2, 3, none⟩ = some (.slice A1 ns.length c1)) w1 := hi0 false rfl
                try dsimp only at hI1
                clear hi0
                have f0 : vals 0 = .pointer (some ⟨w.heap.size + 2, 3, none⟩) := hf 0 rfl
                have f1 : vals 1 = .slice A1 ns.length c1 := hf 1 rfl
                have f2 : vals 2 = .pointer (some ⟨r, 0, none⟩) := hf 2 rfl
                have f3 : vals 3 = .pointer (some ⟨w.heap.size + 2, 3, none⟩) := hf 3 rfl
                have f4 : vals 4 = .slice A1 ns.length c1 := hf 4 rfl
                have f7 : (fun z u => ∃ (t : Bs) (a5 : Nat) (e5 : Int) (A' : Option Addr) (c' : Nat), z 7 = .slice A' (ns.length + 1) c' ∧ NmQ s a4 e4 ns t a5 e5 ∧ Ls w w.heap.size r s (D + 1) (treeV true A1 ns.length c1 A2 ks.length c2) A' c' (ns ++ [t]) A2 c2 ks u a5 e5) vals w1 := hf 7 rfl
                have f8 : vals 8 = .pointer (some ⟨w.heap.size + 2, 3, none⟩) := hf 8 rfl
                try dsimp only at f0 f1 f2 f3 f4 f7 f8
                clear hf
                obtain ⟨t, a5, e5, A', c', hx, hq, hl⟩ := f7
                have HQ := Lib.hid hq
                have HL := Lib.hid hl
                clear hq hl
                simp only [puts, act_put, act_put_none, List.setIfInBounds_toArray, List.set_cons_zero, List.set_cons_succ, f0, f1, f2, f3, f4, f8, hx] at hE ⊢
                clear f0 f1 f2 f3 f4 f8
                clear hx
                go_wp2_with (refine wpList_put_cell (x := .tmp 62) (i := 3) HL.out.m.tree rfl rfl rfl rfl (by kernel_rfl) (by simp [jvCells]) rfl ?_; intro w5 hb5 hw5)
                exact .mk (hE undef _ ⟨t, a5, e5, A', c', HQ.out, HL.out.put hw5 (by rw [List.length_append]; exact hb5)⟩ hC1 trivial)
            intro w1 vals hC1 hf
            have f0 : vals 0 = .pointer (some ⟨w.heap.size + 2, 3, none⟩) := hf 0 (by decide) rfl
            have f1 : vals 1 = .slice A1 ns.length c1 := hf 1 (by decide) rfl
            have f2 : vals 2 = .pointer (some ⟨r, 0, none⟩) := hf 2 (by decide) rfl
            have f3 : vals 3 = .pointer (some ⟨w.heap.size + 2, 3, none⟩) := hf 3 (by decide) rfl
            have f4 : vals 4 = .slice A1 ns.length c1 := hf 4 (by decide) rfl
            have f8 : vals 8 = .pointer (some ⟨w.heap.size + 2, 3, none⟩) := hf 8 (by decide) rfl
            have f9 : (fun z u => ∃ (t : Bs) (a5 : Nat) (e5 : Int) (A' : Option Addr) (c' : Nat), NmQ s a4 e4 ns t a5 e5 ∧ Ls w w.heap.size r s (D + 1) (treeV true A' (ns ++ [t]).length c' A2 ks.length c2) A' c' (ns ++ [t]) A2 c2 ks u a5 e5) vals w1 := hf 9 (by decide) rfl
            try dsimp only at f0 f1 f2 f3 f4 f8 f9
            clear hf
            simp only [puts, act_put, act_put_none, List.setIfInBounds_toArray, List.set_cons_zero, List.set_cons_succ, f0, f1, f2, f3, f4, f8]
            clear f0 f1 f2 f3 f4 f8
            generalize vals 5 = x5 at *
            generalize vals 6 = x6 at *
            generalize vals 7 = x7 at *
            obtain ⟨t, a5, e5, A', c', hq, hl⟩ := f9
            have HQ := Lib.hid hq
            have HL9 := Lib.hid hl
            clear hq hl HI0 HJ0 hC1
            go_wp2_with fail
            go_meet
            obtain ⟨h1, h2⟩ := nmq_done HQ.out HE4.out HAT4.out
            exact ⟨ns ++ [t], A', c', a5, e5, HQ.out.1, HL9.out, h1, by have := HNK.out; rw [List.length_append]; simp; omega, h2⟩
        case rest =>
        obtain ⟨ns', A1', c1', a5, e5, ha5, hls5, he5, hnl5, hat5⟩ := hcut
        have HA5 := Lib.hid ha5
        have HLS5 := Lib.hid hls5
        have HE5 := Lib.hid he5
        have HAT5 := Lib.hid hat5
        have HNL5 := Lib.hid hnl5
        clear ha5 hls5 he5 hat5 hnl5 k0 HLS4 HLS
        obtain ⟨E4, hE4⟩ : ∃ E, E = kidK (valueP d) (nameK m ns (commaP ks.isEmpty r1)) := ⟨_, rfl⟩
        have HE4' := Lib.hid hE4
        rw [← hE4] at HE
        clear hE4
        have CV := Lib.hid (fun (u : World) (h : Ls w w.heap.size r s (D + 1) (treeV m A1' ns'.length c1' A2 ks.length c2) A1' c1' ns' A2 c2 ks u a5 e5) =>
          show Calls Try.prog 21 #[.pointer (some ⟨r, 0, none⟩)] u fun x w' => ∃ (v : JV) (a6 : Nat) (e6 : Int), x = .returned (.agg (jvCells v)) ∧ VlQ s a3 E4 ns' a6 e6 ∧
            Ls w w.heap.size r s (D + 1) (treeV m A1' ns'.length c1' A2 ks.length c2) A1' c1' ns' A2 c2 ks w' a6 e6 ∧ (∀ x k r4, E4 = .ok (x, k, r4) → JRep w' (KS w.heap.size (.slice A1' ns'.length c1') (.slice A2 ks.length c2)) k v) ∧ RG r u w' from by
            have hz : e5 = 0 → a5 ≤ s.size := fun h0 => by
              cases hc : nameK m ns (commaP ks.isEmpty r1) with
              | error e => exact absurd (by rw [← h0, HE5.out, hc]; rfl) (nameK_err hc)
              | ok x => have := (HAT5.out x.1 x.2 hc).2.top; have := HA3.out; omega
            refine (value_all d HV.out s HS.out r a5 (D + 1) e5 (by have := HDD.out; omega) (by omega) u h.m.rd HA5.out hz).mono ?_
            rintro x w' ⟨v, rfl, a6, ha6, hrd, hrg, hok⟩
            obtain ⟨h1, h2⟩ := vlq_of (ns' := ns') (P := fun j => JRep w' (fun b => u.heap.size ≤ b) j v) (fun e he => nameK_err he) HE5.out HAT5.out ha6 hok
            rw [HE4'.out]
            exact ⟨v, a6, _, rfl, h1, h.step hrg hrd, fun x k r4 hx => h.fresh (h2 x k r4 hx), hrg⟩)
        have hnk : (ks.length : Int) ≤ 1000000 := HKS.out
        go_wp2_with fail
        have HI0 : wc.drew.cell? ⟨w.heap.size, 0, none⟩ = some (.pointer (some ⟨r, 0, none⟩)) ∧ wc.drew.cell? ⟨w.heap.size + 2, 4, none⟩ = some (.slice A2 ks.length c2) := ⟨HLS5.out.m.box.cell 0, HLS5.out.m.tree.cell 4⟩
        have HJ0 : Ls w w.heap.size r s (D + 1) (treeV m A1' ns'.length c1' A2 ks.length c2) A1' c1' ns' A2 c2 ks wc.drew a5 e5 := HLS5.out.drew
        refine wp_region_list (fun _ => True) (fun | false => (fun u => u.cell? ⟨w.heap.size, 0, none⟩ = some (.pointer (some ⟨r, 0, none⟩)) ∧ u.cell? ⟨w.heap.size + 2, 4, none⟩ = some (.slice A2 ks.length c2)) | true => (fun u => Ls w w.heap.size r s (D + 1) (treeV m A1' ns'.length c1' A2 ks.length c2) A1' c1' ns' A2 c2 ks u a5 e5)) (fun | false, i => i == 7 | true, i => i == 3 || i == 4 || i == 5 || i == 7)
          [fun z _ => z 0 = .pointer (some ⟨w.heap.size + 2, 4, none⟩),
           fun z _ => z 1 = .slice A2 ks.length c2,
           fun z _ => z 2 = .pointer (some ⟨r, 0, none⟩),
           fun z u => ∃ (v : JV) (a6 : Nat) (e6 : Int), z 3 = .agg (jvCells v) ∧ VlQ s a3 E4 ns' a6 e6 ∧ Ls w w.heap.size r s (D + 1) (treeV m A1' ns'.length c1' A2 ks.length c2) A1' c1' ns' A2 c2 ks u a6 e6 ∧ (∀ x k r4, E4 = .ok (x, k, r4) → JRep u (KS w.heap.size (.slice A1' ns'.length c1') (.slice A2 ks.length c2)) k v),
           fun z u => ∃ (v : JV) (a6 : Nat) (e6 : Int) (ad : Nat), z 4 = .slice (some ⟨ad, 0, none⟩) 1 1 ∧ Blk u ad 25 (jvCells v) ∧ VlQ s a3 E4 ns' a6 e6 ∧ Ls w w.heap.size r s (D + 1) (treeV m A1' ns'.length c1' A2 ks.length c2) A1' c1' ns' A2 c2 ks u a6 e6 ∧ (∀ x k r4, E4 = .ok (x, k, r4) → JRep u (KS w.heap.size (.slice A1' ns'.length c1') (.slice A2 ks.length c2)) k v),
           fun z u => ∃ (a6 : Nat) (e6 : Int) (A' : Option Addr) (c' : Nat), z 5 = .slice A' (ks.length + 1) c' ∧ VlQ s a3 E4 ns' a6 e6 ∧ LsM w w.heap.size r s (D + 1) (treeV m A1' ns'.length c1' A2 ks.length c2) u a6 e6 ∧ (∀ x k r4, E4 = .ok (x, k, r4) → Ls w w.heap.size r s (D + 1) (treeV m A1' ns'.length c1' A2 ks.length c2) A1' c1' ns' A' c' (ks ++ [k]) u a6 e6),
           fun z _ => z 6 = .pointer (some ⟨w.heap.size + 2, 4, none⟩),
           fun z u => ∃ (a6 : Nat) (e6 : Int) (A' : Option Addr) (c' : Nat), VlQ s a3 E4 ns' a6 e6 ∧ LsM w w.heap.size r s (D + 1) (treeV m A1' ns'.length c1' A' (ks.length + 1) c') u a6 e6 ∧ (∀ x k r4, E4 = .ok (x, k, r4) → Ls w w.heap.size r s (D + 1) (treeV m A1' ns'.length c1' A' (ks ++ [k]).length c') A1' c1' ns' A' c' (ks ++ [k]) u a6 e6)]
          [Eq, Eq, Eq, fun u u' => RG r u u', fun u u' => Below u.heap.size u u', fun u u' => ∃ g : Option Nat, u.grownBy u' g ∧ ∀ k, g = some k → w.heap.size + 3 ≤ k, Eq, fun _ _ => True]
          (fun i k => (i == 4 && k == 3) || (i == 5 && k == 3) || (i == 5 && k == 4) || (i == 7 && k == 3) || (i == 7 && k == 4) || (i == 7 && k == 5)) [(0, some 63), (1, some 64), (2, some 65), (3, some 66), (4, some 67), (5, some 68), (6, some 69), (7, none)] (by kernel_rfl) (by kernel_rfl) rfl (fun _ => rfl) ?_ ?_ ?_ ?_ ?_ ?_
        · exact (by first | trivial | assumption)
        · intro m; cases m; exact HI0; exact HJ0
        · intro m; cases m
          · exact ⟨.inr (fun _ _ h h0 => h ▸ h0), .inr (fun _ _ h h0 => h ▸ h0), .inr (fun _ _ h h0 => h ▸ h0), .inr (fun _ _ h h0 => ⟨World.grownBy.cell h h0.1 (by have := HLOW.out; intro e; injection e with e; have e : w.heap.size = r := e; omega), World.grownBy.cell h h0.2 (by have := HLOW.out; intro e; injection e with e; have e : w.heap.size + 2 = r := e; omega)⟩), .inr (fun _ _ h h0 => ⟨(grown_of_below h none).cell h0.1 (by simp), (grown_of_below h none).cell h0.2 (by simp)⟩), .inr (fun _ _ h h0 => by obtain ⟨g, hg, hk⟩ := h; exact ⟨hg.cell h0.1 (by intro e; have : w.heap.size + 3 ≤ w.heap.size := hk _ e.symm; omega), hg.cell h0.2 (by intro e; have : w.heap.size + 3 ≤ w.heap.size + 2 := hk _ e.symm; omega)⟩), .inr (fun _ _ h h0 => h ▸ h0), .inl rfl, trivial⟩
          · exact ⟨.inr (fun _ _ h h0 => h ▸ h0), .inr (fun _ _ h h0 => h ▸ h0), .inr (fun _ _ h h0 => h ▸ h0), .inl rfl, .inl rfl, .inl rfl, .inr (fun _ _ h h0 => h ▸ h0), .inl rfl, trivial⟩
        · exact ⟨⟨.inl rfl, .inr (.inr (.inl rfl)), .inr (.inr (.inr (fun _ _ _ _ _ h => h))), .inr (.inr (.inr (fun _ _ _ _ h h0 => by cases h; exact h0))), .inr (.inr (.inr (fun _ _ _ _ h h0 => by cases h; exact h0))), .inr (.inr (.inl rfl)), .inr (.inr (.inl rfl)), .inr (.inr (.inl rfl)), trivial⟩,
            ⟨.inr (.inr (.inr (fun _ _ _ _ _ h => h))), .inl rfl, .inr (.inr (.inr (fun _ _ _ _ _ h => h))), .inr (.inr (.inr (fun _ _ _ _ h h0 => by cases h; exact h0))), .inr (.inr (.inr (fun _ _ _ _ h h0 => by cases h; exact h0))), .inr (.inr (.inl rfl)), .inr (.inr (.inl rfl)), .inr (.inr (.inl rfl)), trivial⟩,
            ⟨.inr (.inr (.inr (fun _ _ _ _ _ h => h))), .inr (.inr (.inr (fun _ _ _ _ _ h => h))), .inl rfl, .inr (.inr (.inl rfl)), .inr (.inr (.inl rfl)), .inr (.inr (.inl rfl)), .inr (.inr (.inl rfl)), .inr (.inr (.inl rfl)), trivial⟩,
            ⟨.inr (.inr (.inr (fun _ _ _ _ _ h => h))), .inr (.inr (.inr (fun _ _ _ _ _ h => h))), .inr (.inr (.inr (fun _ _ _ _ _ h => h))), .inl rfl, .inr (.inr (.inl rfl)), .inr (.inr (.inl rfl)), .inr (.inr (.inl rfl)), .inr (.inr (.inl rfl)), trivial⟩,
            ⟨.inr (.inr (.inr (fun _ _ _ _ _ h => h))), .inr (.inr (.inr (fun _ _ _ _ _ h => h))), .inr (.inr (.inr (fun _ _ _ _ _ h => h))), .inr (.inl rfl), .inl rfl, .inr (.inr (.inl rfl)), .inr (.inr (.inl rfl)), .inr (.inr (.inl rfl)), trivial⟩,
            ⟨.inr (.inr (.inr (fun _ _ _ _ _ h => h))), .inr (.inr (.inr (fun _ _ _ _ _ h => h))), .inr (.inr (.inr (fun _ _ _ _ _ h => h))), .inr (.inl rfl), .inr (.inl rfl), .inl rfl, .inr (.inr (.inl rfl)), .inr (.inr (.inl rfl)), trivial⟩,
            ⟨.inr (.inr (.inr (fun _ _ _ _ _ h => h))), .inr (.inr (.inr (fun _ _ _ _ _ h => h))), .inr (.inr (.inr (fun _ _ _ _ _ h => h))), .inr (.inr (.inr (fun _ _ _ _ h h0 => by cases h; exact h0))), .inr (.inr (.inr (fun _ _ _ _ h h0 => by cases h; exact h0))), .inr (.inr (.inr (fun _ _ _ _ h h0 => by cases h; exact h0))), .inl rfl, .inr (.inr (.inl rfl)), trivial⟩,
            ⟨.inr (.inr (.inr (fun _ _ _ _ _ h => h))), .inr (.inr (.inr (fun _ _ _ _ _ h => h))), .inr (.inr (.inr (fun _ _ _ _ _ h => h))), .inr (.inl rfl), .inr (.inl rfl), .inr (.inl rfl), .inr (.inr (.inr (fun _ _ _ _ _ h => h))), .inl rfl, trivial⟩, trivial⟩
        · refine ⟨?_, ?_, ?_, ?_, ?_, ?_, ?_, ?_, trivial⟩
          · -- 0: Op.fieldAddr 25 (Operand.tmp 3) 4
            refine step_plain [] (fun _ => rfl) rfl ?_
            intro w1 vals hC1 hi0 hf E hE
            have hI1 : (fun u => u.cell? ⟨w.heap.size, 0, none⟩ = some (.pointer (some ⟨r, 0, none⟩)) ∧ u.cell? ⟨w.heap.size + 2, 4, none⟩ = some (.slice A2 ks.length c2)) w1 := hi0 false rfl
            try dsimp only at hI1
            clear hi0
            clear hf
            simp only [puts, act_put, act_put_none, List.setIfInBounds_toArray, List.set_cons_zero, List.set_cons_succ] at hE ⊢
            go_wp2
            exact .mk (hE _ _ rfl hC1 rfl)
          · -- 1: Op.load 23 (Operand.tmp 63)
            refine step_plain [(0, some 63)] (fun _ => rfl) rfl ?_
            intro w1 vals hC1 hi0 hf E hE
            have hI1 : (fun u => u.cell? ⟨w.heap.size, 0, none⟩ = some (.pointer (some ⟨r, 0, none⟩)) ∧ u.cell? ⟨w.heap.size + 2, 4, none⟩ = some (.slice A2 ks.length c2)) w1 := hi0 false rfl
            try dsimp only at hI1
            clear hi0
            have f0 : vals 0 = .pointer (some ⟨w.heap.size + 2, 4, none⟩) := hf 0 rfl
            try dsimp only at f0
            clear hf
            obtain ⟨d1, d0⟩ := hI1
            simp only [puts, act_put, act_put_none, List.setIfInBounds_toArray, List.set_cons_zero, List.set_cons_succ, f0] at hE ⊢
            clear f0
            go_wp2
            exact .mk (hE _ _ rfl hC1 rfl)
          · -- 2: Op.load 53 (Operand.tmp 1)
            refine step_plain [] (fun _ => rfl) rfl ?_
            intro w1 vals hC1 hi0 hf E hE
            have hI1 : (fun u => u.cell? ⟨w.heap.size, 0, none⟩ = some (.pointer (some ⟨r, 0, none⟩)) ∧ u.cell? ⟨w.heap.size + 2, 4, none⟩ = some (.slice A2 ks.length c2)) w1 := hi0 false rfl
            try dsimp only at hI1
            have hJ1 : (fun u => Ls w w.heap.size r s (D + 1) (treeV m A1' ns'.length c1' A2 ks.length c2) A1' c1' ns' A2 c2 ks u a5 e5) w1 := hi0 true rfl
            try dsimp only at hJ1
            clear hi0
            clear hf
            obtain ⟨d1, d0⟩ := hI1
            simp only [puts, act_put, act_put_none, List.setIfInBounds_toArray, List.set_cons_zero, List.set_cons_succ] at hE ⊢
            go_wp2
            exact .mk (hE _ _ rfl hC1 rfl)
          · -- 3: Op.call { callee := Callee.value (Operand.func 21), args := #[Operand.tmp 65], argTypes := #[53] }
            refine step_plain [(2, some 65)] (fun _ => rfl) rfl ?_
            intro w1 vals hC1 hi0 hf E hE
            have hI1 : (fun u => u.cell? ⟨w.heap.size, 0, none⟩ = some (.pointer (some ⟨r, 0, none⟩)) ∧ u.cell? ⟨w.heap.size + 2, 4, none⟩ = some (.slice A2 ks.length c2)) w1 := hi0 false rfl
            try dsimp only at hI1
            have hJ1 : (fun u => Ls w w.heap.size r s (D + 1) (treeV m A1' ns'.length c1' A2 ks.length c2) A1' c1' ns' A2 c2 ks u a5 e5) w1 := hi0 true rfl
            try dsimp only at hJ1
            clear hi0
            have f2 : vals 2 = .pointer (some ⟨r, 0, none⟩) := hf 2 rfl
            try dsimp only at f2
            clear hf
            have HJ1 := Lib.hid hJ1
            clear hJ1
            simp only [puts, act_put, act_put_none, List.setIfInBounds_toArray, List.set_cons_zero, List.set_cons_succ, f2] at hE ⊢
            clear f2
            go_wp2_with fail
            refine calls_then (CV.out _ HJ1.out) ?_
            rintro y w5 ⟨v, a6, e6, rfl, hq, hl, hj, hg⟩
            have HQ := Lib.hid hq
            have HL := Lib.hid hl
            have HJ := Lib.hid hj
            have HG := Lib.hid hg
            clear hq hl hg hj
            go_wp2_with fail
            exact .mk (hE _ _ ⟨v, a6, e6, rfl, HQ.out, HL.out, HJ.out⟩ hC1 HG.out)
          · -- 4: Op.buildSlice 23 1 #[(0, Operand.tmp 66)]
            refine step_plain [(3, some 66)] (fun _ => rfl) rfl ?_
            intro w1 vals hC1 hi0 hf E hE
            have hI1 : (fun u => u.cell? ⟨w.heap.size, 0, none⟩ = some (.pointer (some ⟨r, 0, none⟩)) ∧ u.cell? ⟨w.heap.size + 2, 4, none⟩ = some (.slice A2 ks.length c2)) w1 := hi0 false rfl
            try dsimp only at hI1
            clear hi0
            have f3 : (fun z u => ∃ (v : JV) (a6 : Nat) (e6 : Int), z 3 = .agg (jvCells v) ∧ VlQ s a3 E4 ns' a6 e6 ∧ Ls w w.heap.size r s (D + 1) (treeV m A1' ns'.length c1' A2 ks.length c2) A1' c1' ns' A2 c2 ks u a6 e6 ∧ (∀ x k r4, E4 = .ok (x, k, r4) → JRep u (KS w.heap.size (.slice A1' ns'.length c1') (.slice A2 ks.length c2)) k v)) vals w1 := hf 3 rfl
            try dsimp only at f3
            clear hf
            obtain ⟨v, a6, e6, hx, hq, hl, hj⟩ := f3
            have HQ := Lib.hid hq
            have HL := Lib.hid hl
            have HJ := Lib.hid hj
            clear hq hl hj
            simp only [puts, act_put, act_put_none, List.setIfInBounds_toArray, List.set_cons_zero, List.set_cons_succ, hx] at hE ⊢
            clear hx
            unfold jvCells
            go_wp2
            exact .mk (hE _ _ ⟨v, a6, e6, _, rfl, Blk.new _ _ _, HQ.out, HL.out.new ((Below.refl _ _).alloc (Nat.le_refl _) _), fun x k r4 h => (HJ.out x k r4 h).heap fun b hb _ => Below.heap_alloc _ _ _ hb⟩ hC1 ((Below.refl _ _).alloc (Nat.le_refl _) _))
          · -- 5: Op.call { callee := Callee.builtin Builtin.append, args := #[Operand.tmp 64, Operand.tmp 67], argTypes := #[23
            refine step_plain [(1, some 64), (4, some 67), (3, some 66)] (fun _ => rfl) rfl ?_
            intro w1 vals hC1 hi0 hf E hE
            have hI1 : (fun u => u.cell? ⟨w.heap.size, 0, none⟩ = some (.pointer (some ⟨r, 0, none⟩)) ∧ u.cell? ⟨w.heap.size + 2, 4, none⟩ = some (.slice A2 ks.length c2)) w1 := hi0 false rfl
            try dsimp only at hI1
            clear hi0
            have f1 : vals 1 = .slice A2 ks.length c2 := hf 1 rfl
            have f4 : (fun z u => ∃ (v : JV) (a6 : Nat) (e6 : Int) (ad : Nat), z 4 = .slice (some ⟨ad, 0, none⟩) 1 1 ∧ Blk u ad 25 (jvCells v) ∧ VlQ s a3 E4 ns' a6 e6 ∧ Ls w w.heap.size r s (D + 1) (treeV m A1' ns'.length c1' A2 ks.length c2) A1' c1' ns' A2 c2 ks u a6 e6 ∧ (∀ x k r4, E4 = .ok (x, k, r4) → JRep u (KS w.heap.size (.slice A1' ns'.length c1') (.slice A2 ks.length c2)) k v)) vals w1 := hf 4 rfl
            try dsimp only at f1 f4
            clear hf
            obtain ⟨v, a6, e6, ad, hx, hk, hq, hl, hj⟩ := f4
            have HQ := Lib.hid hq
            have HL := Lib.hid hl
            have HK := Lib.hid hk
            have HJ := Lib.hid hj
            obtain ⟨kv, hv1, hv2, hv3⟩ := HL.out.kids
            have HO := Lib.hid hv2
            have HV1 := Lib.hid hv1
            have HV3 := Lib.hid hv3
            clear hq hl hk hj hv1 hv2 hv3
            simp only [puts, act_put, act_put_none, List.setIfInBounds_toArray, List.set_cons_zero, List.set_cons_succ, f1, hx] at hE ⊢
            clear f1
            clear hx
            go_wp2_with (refine wpList_append_r (news := (jvCells v).toList) (m := 1) sl_jsons rfl rfl HO.out rfl rfl rfl (Rd.of_blk (l := (jvCells v).toList) HK.out (HK.out.lt)) (by simp [jvCells, Value.oneCell']) (by unfold maxLen; omega) (by omega) (HL.out.m.size) ?_; intro A' c' w5 ho hg hn)
            exact .mk (hE _ _ ⟨a6, e6, A', c', rfl, HQ.out, HL.out.m.grown hg (fun k hk => (HO.out.lt k hk).1), fun x k r4 h => HL.out.kid (HJ.out x k r4 h) HV1.out HO.out HV3.out ho hg hn⟩ hC1 ⟨_, hg, fun k hk => (HO.out.lt k hk).1⟩)
          · -- 6: Op.fieldAddr 25 (Operand.tmp 3) 4
            refine step_plain [(0, some 63), (1, some 64), (2, some 65), (3, some 66), (4, some 67), (5, some 68)] (fun _ => rfl) rfl ?_
            intro w1 vals hC1 hi0 hf E hE
            have hI1 : (fun u => u.cell? ⟨w.heap.size, 0, none⟩ = some (.pointer (some ⟨r, 0, none⟩)) ∧ u.cell? ⟨w.heap.size + 2, 4, none⟩ = some (.slice A2 ks.length c2)) w1 := hi0 false rfl
            try dsimp only at hI1
            clear hi0
            have f0 : vals 0 = .pointer (some ⟨w.heap.size + 2, 4, none⟩) := hf 0 rfl
            have f1 : vals 1 = .slice A2 ks.length c2 := hf 1 rfl
            have f2 : vals 2 = .pointer (some ⟨r, 0, none⟩) := hf 2 rfl
            have f5 : (fun z u => ∃ (a6 : Nat) (e6 : Int) (A' : Option Addr) (c' : Nat), z 5 = .slice A' (ks.length + 1) c' ∧ VlQ s a3 E4 ns' a6 e6 ∧ LsM w w.heap.size r s (D + 1) (treeV m A1' ns'.length c1' A2 ks.length c2) u a6 e6 ∧ (∀ x k r4, E4 = .ok (x, k, r4) → Ls w w.heap.size r s (D + 1) (treeV m A1' ns'.length c1' A2 ks.length c2) A1' c1' ns' A' c' (ks ++ [k]) u a6 e6)) vals w1 := hf 5 rfl
            try dsimp only at f0 f1 f2 f5
            clear hf
            simp only [puts, act_put, act_put_none, List.setIfInBounds_toArray, List.set_cons_zero, List.set_cons_succ, f0, f1, f2] at hE ⊢
            clear f0 f1 f2
            go_wp2
            exact .mk (hE _ _ rfl hC1 rfl)
          · -- 7: Op.store 23 (Operand.tmp 69) (Operand.tmp 68)
            refine step_plain [(6, some 69), (5, some 68), (5, some 68), (0, some 63), (1, some 64), (2, some 65), (3, some 66), (4, some 67), (5, some 68)] (fun _ => rfl) rfl ?_
            intro w1 vals hC1 hi0 hf E hE
            have hI1 : (fun u => u.cell? ⟨w.heap.size, 0, none⟩ = some (.pointer (some ⟨r, 0, none⟩)) ∧ u.cell? ⟨w.heap.size + 2, 4, none⟩ = some (.slice A2 ks.length c2)) w1 := hi0 false rfl
            try dsimp only at hI1
            clear hi0
            have f0 : vals 0 = .pointer (some ⟨w.heap.size + 2, 4, none⟩) := hf 0 rfl
            have f1 : vals 1 = .slice A2 ks.length c2 := hf 1 rfl
            have f2 : vals 2 = .pointer (some ⟨r, 0, none⟩) := hf 2 rfl
            have f5 : (fun z u => ∃ (a6 : Nat) (e6 : Int) (A' : Option Addr) (c' : Nat), z 5 = .slice A' (ks.length + 1) c' ∧ VlQ s a3 E4 ns' a6 e6 ∧ LsM w w.heap.size r s (D + 1) (treeV m A1' ns'.length c1' A2 ks.length c2) u a6 e6 ∧ (∀ x k r4, E4 = .ok (x, k, r4) → Ls w w.heap.size r s (D + 1) (treeV m A1' ns'.length c1' A2 ks.length c2) A1' c1' ns' A' c' (ks ++ [k]) u a6 e6)) vals w1 := hf 5 rfl
            have f6 : vals 6 = .pointer (some ⟨w.heap.size + 2, 4, none⟩) := hf 6 rfl
            try dsimp only at f0 f1 f2 f5 f6
            clear hf
            obtain ⟨a6, e6, A', c', hx, hq, hm, hl⟩ := f5
            have HQ := Lib.hid hq
            have HL := Lib.hid hl
            have HM7 := Lib.hid hm
            clear hq hl hm
            simp only [puts, act_put, act_put_none, List.setIfInBounds_toArray, List.set_cons_zero, List.set_cons_succ, f0, f1, f2, f6, hx] at hE ⊢
            clear f0 f1 f2 f6
            clear hx
            go_wp2_with (refine wpList_put_cell (x := .tmp 69) (i := 4) HM7.out.tree rfl rfl rfl rfl (by kernel_rfl) (by simp [jvCells]) rfl ?_; intro w5 hb5 hw5)
            exact .mk (hE undef _ ⟨a6, e6, A', c', HQ.out, HM7.out.put hw5 hb5, fun x k r4 h => (HL.out x k r4 h).put hw5 (by rw [List.length_append]; exact hb5)⟩ hC1 trivial)
        intro w1 vals hC1 hf
        have f0 : vals 0 = .pointer (some ⟨w.heap.size + 2, 4, none⟩) := hf 0 (by decide) rfl
        have f1 : vals 1 = .slice A2 ks.length c2 := hf 1 (by decide) rfl
        have f2 : vals 2 = .pointer (some ⟨r, 0, none⟩) := hf 2 (by decide) rfl
        have f6 : vals 6 = .pointer (some ⟨w.heap.size + 2, 4, none⟩) := hf 6 (by decide) rfl
        have f7 : (fun z u => ∃ (a6 : Nat) (e6 : Int) (A' : Option Addr) (c' : Nat), VlQ s a3 E4 ns' a6 e6 ∧ LsM w w.heap.size r s (D + 1) (treeV m A1' ns'.length c1' A' (ks.length + 1) c') u a6 e6 ∧ (∀ x k r4, E4 = .ok (x, k, r4) → Ls w w.heap.size r s (D + 1) (treeV m A1' ns'.length c1' A' (ks ++ [k]).length c') A1' c1' ns' A' c' (ks ++ [k]) u a6 e6)) vals w1 := hf 7 (by decide) rfl
        try dsimp only at f0 f1 f2 f6 f7
        clear hf
        simp only [puts, act_put, act_put_none, List.setIfInBounds_toArray, List.set_cons_zero, List.set_cons_succ, f0, f1, f2, f6]
        clear f0 f1 f2 f6
        generalize vals 3 = x3 at *
        generalize vals 4 = x4 at *
        generalize vals 5 = x5 at *
        obtain ⟨a6, e6, A', c', hq, hm, hl⟩ := f7
        have HQ := Lib.hid hq
        have HM8 := Lib.hid hm
        have HL8 := Lib.hid hl
        clear hq hm hl HI0 HJ0 hC1 CV
        have b1 : w1.cell? ⟨w.heap.size, 0, none⟩ = some (.pointer (some ⟨r, 0, none⟩)) := HM8.out.box.cell 0
        obtain ⟨-, -, -, c3⟩ := HM8.out.rd.cells
        cases E4 with
        | error e =>
          have HE0 := Lib.hid (show e ≠ 0 from kidK_err (fun h => valueP_err d h) HE4'.out.symm)
          have he6 : e6 = e := HQ.out.2.1
          subst he6
          have hne : (e6 != 0) = true := by simpa using HE0.out
          go_wp2_with (first
            | refine wpList_get_box (x := .tmp 3) HM8.out.tree rfl rfl rfl hu rfl jT_size3 ?_
            | (refine wpList_put_box (x := .tmp 2) (cells := jvCells (treeV m A1' ns'.length c1' A' (ks.length + 1) c')) HM8.out.res rfl rfl rfl rfl jT_size3 rfl (jvCells_one _) ?_; intro w9 hb9 hw9))
          have HM9 := Lib.hid (HM8.out)
          refine list_leaves _ w.heap.size (treeV m A1' ns'.length c1' A' (ks.length + 1) c') rfl s r a6 D e6 hD0 (by omega) HM9.out.low w9 (hw9.blk HM9.out.box (by omega)) hb9 (hw9.blk HM9.out.rd (by have := HM9.out.low; omega)) fun u' hrd hw => ?_
          have hE : lpOf (d + 1) X = .error e6 := by rw [← HLR.out, HLL.out, ← HE.out]; rfl
          exact ⟨_, rfl, a6, HQ.out.1, by rw [hE]; exact hrd, (HM9.out.rg.wrote_new hw9 (by omega)).trans (RG.wrote hw), fun j q hq => by rw [hE] at hq; cases hq⟩
        | ok y =>
          obtain ⟨x, k, r4⟩ := y
          have he6 : e6 = 0 := HQ.out.2.1
          subst he6
          obtain ⟨hx1, hat6⟩ := HQ.out.2.2 x k r4 rfl
          subst hx1
          have HAT6 := Lib.hid hat6
          have HLL8 := Lib.hid (HL8.out x k r4 rfl)
          have HLT := Lib.hid (kidK_len HE4'.out.symm)
          have CS := Lib.hid (sign_any (endC m) (by cases m <;> decide) s HS.out r a6 (D + 1) 0 w1 HM8.out.rd (by have := HQ.out.1; omega))
          clear hat6 HQ HM8 HL8
          go_wp2_with fail
          refine calls_then CS.out ?_
          rintro y w9 ⟨rfl, a7, hat, hrd, hrg⟩
          have HLS9 := Lib.hid (HLL8.out.step hrg hrd)
          obtain ⟨hp1, hp2⟩ := sign_parts (endC m) (s.data.toList.drop a6)
          rw [hp2] at hat
          rw [hp1]
          rw [HAT6.out.rest] at hat ⊢
          have HAT9 := Lib.hid hat
          obtain ⟨b', hb'⟩ : ∃ b', b' = (signP (endC m) r4).1 := ⟨_, rfl⟩
          rw [← hb']
          have HB' := Lib.hid (show signP (endC m) r4 = (b', (signP (endC m) r4).2) by rw [hb'])
          clear hp1 hp2 hrd hrg hat hb' c3 b1
          go_wp2_with fail
          have hgk : 1 ≤ gk := by have := HLT.out.1; have := HLEN.out; omega
          go_roundg (gk - 1)
          case measure => omega
          case rel =>
            have h1 := HLT.out.1
            have h2 := HLEN.out
            have h3 := signP_len (endC m) r4
            have h4 : a3 < a6 := by
              have e1 := congrArg List.length HAT6.out.rest
              have e2 := congrArg List.length HRE.out
              rw [List.length_drop] at e1 e2
              omega
            refine ⟨x, ks ++ [k], A1', A', c1', c', a7, b', r4, _, rfl, HB'.out, ?_, ?_, by omega, ?_, ?_, HLS9.out⟩
            · exact HAT.out.trans (HAT6.out.trans HAT9.out)
            · rw [Nat.sub_add_cancel hgk, ← HE.out]
              rfl
            · rw [List.length_append]
              have := HNL5.out
              simpa using this
            · rw [List.length_append]
              have := HKA.out
              have := HAT9.out.le
              simp
              omega
end Go.Proofs.Ytcfbnjaelniahaa.Js
