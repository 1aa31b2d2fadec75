/-
  Walk: sha's sum, words of 32 bits.
-/
import Derived.Test.YtfpbcihpjcocmaaDoorMix32
import Derived.Test.YtfpbcihpjcocmaaDoorShaS
import Derived.Test.YtfpbcihpjcocmaaDoorOwn
import Derived.Test.YtfpbcihpjcocmaaDoorZeros
import Derived.Deep.DeepCutAuto
namespace Go.Proofs.YtfpbcihpjcocmaaDoor
set_option linter.unusedSimpArgs false
set_option linter.unusedVariables false
open Go.RowKit

theorem sl_bytes : SlT Tryd.prog 22 5 1 1 := SlT.mk1 (z := .int .u8 0) Tryd.underlying22 (by kernel_rfl) rfl (by decide)
def lenOf : Value → Nat | .slice _ n _ => n | _ => 0
def firstV : Array Value := #[.int .u64 7640891576956012808, .int .u64 13503953896175478587, .int .u64 4354685564936845355, .int .u64 11912009170470909681, .int .u64 5840696475078001361, .int .u64 11170449401992604703, .int .u64 2270897969802886507, .int .u64 6620516959819538809]
theorem firstV_at (k : Nat) (h : k < 8) : firstV[k]? = some (.int .u64 ((firstN.getD k 0 : Nat) : Int)) := by
  match k, h with
  | 0, _ => rfl
  | 1, _ => rfl
  | 2, _ => rfl
  | 3, _ => rfl
  | 4, _ => rfl
  | 5, _ => rfl
  | 6, _ => rfl
  | 7, _ => rfl
/-- the bytes of the first so many words -/
def outW (b e : Nat) (s : S8) (k : Nat) : List UInt8 := ((s8L s).take k).flatMap fun x => wordB b x e
theorem wordB_length (b x : Nat) : ∀ k, (wordB b x k).length = k
  | 0 => rfl
  | k + 1 => by simp [wordB, wordB_length b x k]
theorem outW_length (b e : Nat) (s : S8) (k : Nat) (h : k ≤ 8) : (outW b e s k).length = k * e := by
  match k, h with
  | 0, _ => simp [outW, s8L]
  | 1, _ => simp [outW, s8L, wordB_length]
  | 2, _ => simp [outW, s8L, wordB_length]; omega
  | 3, _ => simp [outW, s8L, wordB_length]; omega
  | 4, _ => simp [outW, s8L, wordB_length]; omega
  | 5, _ => simp [outW, s8L, wordB_length]; omega
  | 6, _ => simp [outW, s8L, wordB_length]; omega
  | 7, _ => simp [outW, s8L, wordB_length]; omega
  | 8, _ => simp [outW, s8L, wordB_length]; omega
theorem outW_succ (b e : Nat) (s : S8) (k : Nat) (h : k < 8) : outW b e s (k + 1) = outW b e s k ++ wordB b ((s8L s).getD k 0) e := by
  match k, h with
  | 0, _ => simp [outW, s8L]
  | 1, _ => simp [outW, s8L]
  | 2, _ => simp [outW, s8L]
  | 3, _ => simp [outW, s8L]
  | 4, _ => simp [outW, s8L]
  | 5, _ => simp [outW, s8L]
  | 6, _ => simp [outW, s8L]
  | 7, _ => simp [outW, s8L]
theorem wordB_val (x sh b k : Nat) (h : sh = b - 8 - 8 * k) : (Value.int .u8 ((x : Int) / 2 ^ sh % 256)) = .int .u8 ((UInt8.ofNat (x / 2 ^ (b - 8 - 8 * k))).toNat : Int) := by
  subst h
  rw [shr_int]
  congr 1
set_option maxHeartbeats 1000000 in
theorem first_any (w : World) : Calls Tryd.prog 20 #[] w fun e w' => e = .returned (.agg firstV) ∧ Below w.heap.size w w' := by
  have hb := Blk.new w 42 (s8V .u64 ⟨0, 0, 0, 0, 0, 0, 0, 0⟩)
  have hu8 := Tryd.underlying42
  go_enter Tryd.func20, Tryd.ntmps20
  go_wp2_with (refine wpList_put_box (x := .tmp 0) (cells := firstV) hb rfl rfl rfl rfl (by kernel_rfl) rfl (by simp [firstV, Value.oneCell']) ?_; intro w1 hb1 hw1)
  refine bodyPost_ret (results_box (P := Tryd.prog) rfl rfl hb1 hu8 rfl (by kernel_rfl)) rfl ⟨rfl, ?_⟩
  exact hw1.below (below_new _ _) (Nat.le_refl _) (by simp)
/-- the message, the one, so many zeros -/
def oneZ (data : List UInt8) (k : Nat) : List UInt8 := data ++ [128] ++ List.replicate k 0
theorem oneZ_length (data : List UInt8) (k : Nat) : (oneZ data k).length = data.length + 1 + k := by simp [oneZ]; omega
theorem oneZ_zero (data : List UInt8) : oneZ data 0 = data ++ [128] := by simp [oneZ]
theorem oneZ_succ (data : List UInt8) (k : Nat) : oneZ data (k + 1) = oneZ data k ++ [0] := by simp [oneZ, List.replicate_succ']
theorem bytesV_snoc (l : List UInt8) (b : UInt8) : bytesV (l ++ [b]) = bytesV l ++ [.int .u8 (b.toNat : Int)] := by simp [bytesV, byteV]
theorem prepS_32 {data : List UInt8} (_ : data.length ≤ 1000) : prepS F32 data = oneZ data (zeroN F32 data.length) := by simp [prepS, oneZ, moreN, F32]
theorem prep32_le {data : List UInt8} (h : data.length ≤ 1000) : (prepS F32 data).length ≤ 3000 := by
  rw [prepS_32 h, oneZ_length]
  have : zeroN F32 data.length < 64 := Nat.mod_lt _ (by decide)
  omega
theorem be8_length (n : Nat) : ∀ k, (be8 n k).length = k
  | 0 => rfl
  | k + 1 => by simp [be8, be8_length n k]
theorem be8_val (n sh k : Nat) (h : sh = 56 - 8 * k) : (Value.int .u8 ((n : Int) * 8 / 2 ^ sh % 256)) = .int .u8 ((UInt8.ofNat (n * 8 / 2 ^ (56 - 8 * k))).toNat : Int) := by
  subst h
  rw [show (n : Int) * 8 = ((n * 8 : Nat) : Int) by omega, shr_int]
  congr 1
theorem own_empty (w : World) {B : Nat} {e : TypeId} (hB : B ≤ w.heap.size) : OwnX (w.alloc (.cells #[] e)) B e 1 (.slice (some ⟨w.heap.size, 0, none⟩) 0 0) 0 (bytesV []) :=
  ⟨rfl, .inr ⟨w.heap.size, 0, #[], (0, 0), rfl, hB, heap_alloc_new w _, Nat.le_refl _, by unfold maxLen; omega, rfl, rfl, .inl rfl⟩⟩
theorem lenOf_slice (A : Option Addr) (n c : Nat) : lenOf (.slice A n c) = n := rfl
/-- the state while the message is made ready -/
structure SumSt32 (w0 : World) (gf : Nat) (xs : List UInt8) (v : Value) (u : World) : Prop where
  bel : Below gf w0 u
  form : Blk u gf 34 f32C
  own : OwnX u (gf + 1) 5 1 v xs.length (bytesV xs)
theorem SumSt32.grow {w0 u u' : World} {gf : Nat} {xs ys : List UInt8} {v v' : Value} (h : SumSt32 w0 gf xs v u) (hg : u.grownBy u' v.ownBlock) (ho : OwnX u' (gf + 1) 5 1 v' ys.length (bytesV ys)) : SumSt32 w0 gf ys v' u' :=
  ⟨h.bel.grown hg (by have := h.form.lt; omega) (fun k hk => by have := (h.own.lt k hk).1; omega), h.form.grown hg (fun e => by have := (h.own.lt gf e.symm).1; omega), ho⟩
theorem zero32_ne (n k : Nat) (h : k < zeroN F32 n) : ((((n + 1 + k : Nat) : Int) % 64) != 56) = true := by
  simp only [zeroN, F32] at h
  rw [bne_iff_ne]
  omega
theorem zero32_eq (n : Nat) : ((((n + 1 + zeroN F32 n : Nat) : Int) % 64) != 56) = false := by
  have h : zeroN F32 n = (2 * 32 - 8 + 2 * 32 - (n + 1) % (2 * 32)) % (2 * 32) := rfl
  rw [bne_eq_false_iff_eq]
  omega
theorem pad32_blocks (data : List UInt8) : (padS F32 data).length % 64 = 0 := by
  have hz : zeroN F32 data.length = (2 * 32 - 8 + 2 * 32 - (data.length + 1) % (2 * 32)) % (2 * 32) := rfl
  have hm : moreN F32 data.length = 0 ∨ moreN F32 data.length = 64 := by
    unfold moreN
    split
    · exact .inr rfl
    · exact .inl rfl
  simp only [padS, List.length_append, List.length_replicate, List.length_singleton, be8_length]
  omega
/-- the state while the blocks are mixed in -/
structure SumT32 (w0 : World) (gf gs : Nat) (A : Option Addr) (xs : List UInt8) (cs : Array Value) (u : World) : Prop where
  bel : Below gf w0 u
  form : Blk u gf 34 f32C
  rd : Rd u gs A (bytesV xs)
  s : Blk u gs 41 cs
  lg : gf < gs
theorem SumT32.next {w0 u u' : World} {gf gs : Nat} {A : Option Addr} {xs : List UInt8} {cs : Array Value} (h : SumT32 w0 gf gs A xs cs u) (hb : Below u.heap.size u u') : SumT32 w0 gf gs A xs cs u' :=
  ⟨h.bel.trans (hb.mono (by have := h.form.lt; omega)), h.form.below hb h.form.lt, h.rd.below (hb.mono (by have := h.s.lt; omega)), h.s.below hb h.s.lt, h.lg⟩
theorem SumT32.drew {w0 u : World} {gf gs : Nat} {A : Option Addr} {xs : List UInt8} {cs : Array Value} (h : SumT32 w0 gf gs A xs cs u) : SumT32 w0 gf gs A xs cs u.drew :=
  ⟨h.bel.drew, h.form, h.rd.below ((Below.refl _ _).drew), h.s, h.lg⟩
theorem SumT32.put {w0 u u' : World} {gf gs : Nat} {A : Option Addr} {xs : List UInt8} {cs cs' : Array Value} (h : SumT32 w0 gf gs A xs cs u) (hw : Wrote gs u u') (hb : Blk u' gs 41 cs') : SumT32 w0 gf gs A xs cs' u' :=
  ⟨hw.below h.bel (by have := h.lg; omega) (by have := h.form.lt; omega), hw.blk h.form (by have := h.lg; omega), h.rd.below (hw.below (Below.refl _ _) (Nat.le_refl _) (by have := h.s.lt; omega)), hb, h.lg⟩
/-- the state while the digest is written -/
structure SumO32 (w0 : World) (gf gb : Nat) (xs : List UInt8) (v : Value) (u : World) : Prop where
  bel : Below gf w0 u
  form : Blk u gf 34 f32C
  own : u.ownsRow gb 5 1 v xs.length (bytesV xs)
  lb : gb ≤ u.heap.size
theorem SumO32.grow {w0 u u' : World} {gf gb : Nat} {xs ys : List UInt8} {v v' : Value} (h : SumO32 w0 gf gb xs v u) (hlt : gf < gb) (hg : u.grownBy u' v.ownBlock) (ho : u'.ownsRow gb 5 1 v' ys.length (bytesV ys)) : SumO32 w0 gf gb ys v' u' :=
  ⟨h.bel.grown hg (by have := h.form.lt; omega) (fun k hk => by have := (own_lt h.own k hk).1; omega), h.form.grown hg (fun e => by have := (own_lt h.own gf e.symm).1; omega), ho, by have := h.lb; have := hg.size; omega⟩
def SumPost32 (data : List UInt8) (w : World) (e : Ending) (w' : World) : Prop :=
  ∃ A c, e = .returned (.slice A (8 * 4) c) ∧ w'.ownsRow w.heap.size 5 1 (.slice A (8 * 4) c) (8 * 4) (bytesV (digS F32 data)) ∧ Below w.heap.size w w'
set_option maxRecDepth 100000 in
set_option maxHeartbeats 4000000 in
theorem sum32_any (data : List UInt8) (A : Option Addr) (c B : Nat) (w : World) (hr : Rd w B A (bytesV data)) (hB : B ≤ w.heap.size) (hl : data.length ≤ 1000) (hc : data.length ≤ c) (hcm : c ≤ 9223372036854775807) (hG : TabG w) :
    Calls Tryd.prog 16 #[.agg f32C, .slice A data.length c] w (SumPost32 data w) := by
  obtain ⟨W0, hW0⟩ : ∃ W0, W0 = w.alloc (.cells f32C 34) := ⟨_, rfl⟩
  have hb0 : Below w.heap.size w W0 := by rw [hW0]; exact below_new _ _
  have hf0 : Blk W0 w.heap.size 34 f32C := by rw [hW0]; exact Blk.new _ _ _
  have hs0 : W0.heap.size = w.heap.size + 1 := by rw [hW0]; simp
  have c0 := hf0.cell 0
  simp [f32C] at c0
  rw [hW0] at c0
  have HB0 := Lib.hid hb0
  have HF0 := Lib.hid hf0
  have HS0 := Lib.hid hs0
  have HR := Lib.hid (hr.mono hB)
  have HW := Lib.hid hW0
  have HG := Lib.hid hG
  have hl' : (data.length : Int) ≤ 1000 := by omega
  clear hb0 hf0 hs0 hr hW0 hG
  go_enter Tryd.func16, Tryd.ntmps16
  go_wp2
  go_quiet (fail)
  have hb1 : Below w.heap.size w ((w.alloc (.cells f32C 34)).drewN nq) := below_drewN' (below_new _ _) nq
  have hf1 : Blk ((w.alloc (.cells f32C 34)).drewN nq) w.heap.size 34 f32C := Blk.new _ _ _
  have hz1 : ((w.alloc (.cells f32C 34)).drewN nq).heap.size = w.heap.size + 1 := by simp
  generalize (w.alloc (.cells f32C 34)).drewN nq = W1 at *
  have hr1 := HR.out.below hb1
  generalize hgf : w.heap.size = gf at *
  have HGF := Lib.hid hgf
  have hst0 : SumSt32 w gf [] (.slice (some ⟨W1.heap.size, 0, none⟩) 0 0) (W1.alloc (.cells #[] 5)) :=
    ⟨hb1.alloc (by omega) _, hf1.alloc _, own_empty W1 (by omega)⟩
  have hr2 : Rd (W1.alloc (.cells #[] 5)) gf A (bytesV data) := hr1.below ((Below.refl _ _).alloc (by omega) _)
  have HST0 := Lib.hid hst0
  have HR2 := Lib.hid hr2
  have HZ1 := Lib.hid hz1
  clear hb1 hf1 hz1 hr1 hst0 hr2 hgf c0 HB0 HF0 HS0 HW
  have HOWN0 : Hid (OwnX (W1.alloc (.cells #[] 5)) (gf + 1) 5 1 (.slice (some ⟨W1.heap.size, 0, none⟩) 0 0) 0 []) := Lib.hid HST0.out.own
  go_wp2_with (first
    | (refine wpList_append_rd (o := ⟨some 25, _, _, _, _, _⟩) sl_bytes rfl rfl HOWN0.out rfl rfl (by simp [bytesV]) HR2.out (by intro u hu; simp [bytesV, byteV] at hu; obtain ⟨_, _, rfl⟩ := hu; rfl) (by unfold maxLen; omega) (by omega) (by have := HST0.out.form.lt; omega) ?_; intro A1 c1 w1 hown1 hg1 hn1; have HOWN1 : Hid (OwnX w1 (gf + 1) 5 1 (.slice A1 data.length c1) data.length (bytesV data)) := Lib.hid (by simpa using hown1); have H641 : Hid (gf + 1 ≤ w1.heap.size) := Lib.hid (by have := hg1.size; have := HZ1.out; simp at *; omega); have HG1 := Lib.hid hg1; clear hown1 hg1 hn1)
    | (refine wpList_append_one (o := ⟨some 28, _, _, _, _, _⟩) sl_bytes rfl rfl HOWN1.out rfl rfl rfl rfl (by unfold maxLen; omega) (by omega) H641.out ?_; intro A2 c2 w2 hown2 hg2 hn2; have HOWN2 := Lib.hid hown2; have HG2 := Lib.hid hg2; clear hown2 hg2 hn2))
  have hst2 : SumSt32 w gf (oneZ data 0) (.slice A2 (data.length + 1) c2) w2 :=
    (HST0.out.grow (ys := data) HG1.out HOWN1.out).grow HG2.out (by rw [oneZ_length, oneZ_zero, bytesV_snoc]; exact HOWN2.out)
  have hzl : zeroN F32 data.length < 64 := Nat.mod_lt _ (by decide)
  clear HST0 HOWN0 HR2 HZ1 HOWN1 H641 HG1 HOWN2 HG2
  go_loopw [7] (fun v wr => ∃ (k n : Nat) (A3 : Option Addr) (c3 : Nat), k ≤ zeroN F32 data.length ∧ n = data.length + 1 + k ∧ v = .slice A3 n c3 ∧ SumSt32 w gf (oneZ data k) (.slice A3 n c3) wr) (fun v _ => data.length + 1 + zeroN F32 data.length - lenOf v)
  case atStart => exact ⟨0, data.length + 1, A2, c2, Nat.zero_le _, rfl, rfl, hst2⟩
  case round =>
    obtain ⟨k, n, A3, c3, hk, hn, rfl, hst⟩ := hrel
    clear hst2
    have hn2 : n ≤ 2000 := by omega
    by_cases hlt : k < zeroN F32 data.length
    · have hne : (((n : Nat) : Int) % 64 != 56) = true := by rw [hn]; exact zero32_ne _ _ hlt
      have ho : OwnX wr (gf + 1) 5 1 (.slice A3 n c3) n (bytesV (oneZ data k)) := by have := hst.own; rwa [oneZ_length, ← hn] at this
      have HO := Lib.hid ho
      have HN := Lib.hid hn
      have HST := Lib.hid hst
      clear ho hn hst
      go_wp2_with (refine wpList_append_one (o := ⟨some 38, _, _, _, _, _⟩) sl_bytes rfl rfl HO.out rfl rfl rfl rfl (by unfold maxLen; omega) (by omega) (by have := HST.out.form.lt; omega) ?_; intro A4 c4 w4 hown4 hg4 hn4; have HOWN4 := Lib.hid hown4; have HG4 := Lib.hid hg4; clear hown4 hg4 hn4)
      exact ⟨⟨k + 1, n + 1, A4, c4, hlt, by rw [HN.out]; omega, rfl, HST.out.grow HG4.out (by rw [oneZ_length, oneZ_succ, bytesV_snoc, ← Nat.add_assoc, ← HN.out]; exact HOWN4.out)⟩, by simp only [lenOf]; have := HN.out; omega⟩
    · obtain rfl : k = zeroN F32 data.length := by omega
      have hne : (((n : Nat) : Int) % 64 != 56) = false := by rw [hn]; exact zero32_eq _
      have HN := Lib.hid hn
      have HST := Lib.hid hst
      clear hn hst
      go_wp2_with fail
      obtain ⟨pl, hpl⟩ : ∃ x, x = (prepS F32 data).length := ⟨_, rfl⟩
      have hpl3 : pl ≤ 3000 := by rw [hpl]; exact prep32_le hl
      have hst3 : SumSt32 w gf (prepS F32 data ++ be8 (data.length * 8) 0) (.slice A3 n c3) wr := by
        have h := HST.out
        simp only [be8, List.append_nil]
        rw [prepS_32 hl]
        exact h
      have hn3 : n = pl + 0 := by rw [hpl, prepS_32 hl, oneZ_length, HN.out]; rfl
      have HPL := Lib.hid hpl
      have HN3 := Lib.hid hn3
      clear hpl hn3 hn2
      obtain ⟨wo, rfl⟩ : ∃ wo : World, wo = wr := ⟨_, rfl⟩
      go_loopw [7, 8] (fun v i wr => ∃ (k m : Nat) (A4 : Option Addr) (c4 : Nat), k ≤ 8 ∧ m = pl + k ∧ v = .slice A4 m c4 ∧ i = .int .i64 (56 - 8 * (k : Int)) ∧ SumSt32 w gf (prepS F32 data ++ be8 (data.length * 8) k) (.slice A4 m c4) wr) (fun _ i _ => (intOf i + 8).toNat)
      case atStart => exact ⟨0, n, A3, c3, by omega, HN3.out, rfl, rfl, hst3⟩
      case round =>
        obtain ⟨k, m, A4, c4, hk8, hm, rfl, rfl, hs4⟩ := hrel
        clear hst3
        by_cases hlt8 : k < 8
        · obtain ⟨sh, hsh⟩ : ∃ sh : Nat, (56 - 8 * (k : Int)) = (sh : Int) := ⟨56 - 8 * k, by omega⟩
          rw [hsh]
          have hsh2 : sh = 56 - 8 * k := by omega
          have hsl : (sh : Int) < 64 := by omega
          have HSH := Lib.hid hsh2
          have HM := Lib.hid hm
          have HS4 := Lib.hid hs4
          have ho4 : OwnX wr (gf + 1) 5 1 (.slice A4 m c4) m (bytesV (prepS F32 data ++ be8 (data.length * 8) k)) := by
            have := hs4.own
            rwa [List.length_append, be8_length, ← HPL.out, ← hm] at this
          have HO4 := Lib.hid ho4
          have hm3 : m ≤ 4000 := by omega
          clear hsh hsh2 hm hs4 ho4
          go_wp2_with (refine wpList_append_one (o := ⟨some 76, _, _, _, _, _⟩) sl_bytes rfl rfl HO4.out rfl rfl rfl rfl (by unfold maxLen; omega) (by omega) (by have := HS4.out.form.lt; omega) ?_; intro A5 c5 w5 hown5 hg5 hn5; have HOWN5 := Lib.hid hown5; have HG5 := Lib.hid hg5; clear hown5 hg5 hn5)
          have hfin : SumSt32 w gf (prepS F32 data ++ be8 (data.length * 8) (k + 1)) (.slice A5 (m + 1) c5) w5 := by
            refine HS4.out.grow HG5.out ?_
            have h := HOWN5.out
            rw [be8_val _ _ _ HSH.out, ← bytesV_snoc, List.append_assoc] at h
            rw [List.length_append, be8_length, ← HPL.out, show pl + (k + 1) = m + 1 by rw [HM.out]; omega]
            exact h
          exact ⟨⟨k + 1, m + 1, A5, c5, hlt8, by rw [HM.out]; omega, rfl, by have := HSH.out; exact congrArg (Value.int .i64) (by omega), hfin⟩, by have := HSH.out; simp [intOf]; omega⟩
        · obtain rfl : k = 8 := by omega
          have HM := Lib.hid hm
          have HS4 := Lib.hid hs4
          clear hm hs4
          go_wp2_with fail
          obtain ⟨A64, hA64⟩ : ∃ x, x = padS F32 data := ⟨_, rfl⟩
          have hAll : A64 = prepS F32 data ++ be8 (data.length * 8) 8 := by rw [hA64]; rfl
          have hal : A64.length = m := by rw [hAll, List.length_append, be8_length, ← HPL.out, HM.out]
          obtain ⟨gs, hgs⟩ : ∃ x, x = wr.heap.size := ⟨_, rfl⟩
          have hst5 : SumT32 w gf gs A4 A64 (setC .u32 (startS F32) 0) (wr.alloc (.cells (s8V .u32 ⟨0, 0, 0, 0, 0, 0, 0, 0⟩) 41)) :=
            ⟨HS4.out.bel.alloc (by have := HS4.out.form.lt; omega) _, HS4.out.form.alloc _, by
              have ho : OwnX wr (gf + 1) 5 1 (.slice A4 m c4) m (bytesV A64) := by have := HS4.out.own; rwa [← hAll, hal] at this
              have h := Rd.of_own ho (Nat.le_refl _)
              rw [← hgs] at h
              exact h.below ((Below.refl _ _).alloc (by omega) _), by rw [hgs]; exact Blk.new _ _ _, by have := HS4.out.form.lt; omega⟩
          rw [← hgs]
          have HOWN4 : Hid (OwnX wr (gf + 1) 5 1 (.slice A4 m c4) m (bytesV A64)) := Lib.hid (by have := HS4.out.own; rwa [← hAll, hal] at this)
          have HA64 := Lib.hid hA64
          have HAL := Lib.hid hal
          have HGS := Lib.hid hgs
          have HS5 := Lib.hid hst5
          clear hA64 hAll hal hgs hst5
          refine calls_then (first_any _) ?_
          rintro e w6 ⟨rfl, hb6⟩
          have hst6 := HS5.out.next hb6
          clear HS5 hb6
          go_wp2_with fail
          have hu42 := Tryd.underlying42
          have hst6' := hst6
          clear hst6
          go_loopw [78] (fun i wr => ∃ k : Nat, k ≤ 8 ∧ i = .int .i64 k ∧ SumT32 w gf gs A4 A64 (setC .u32 (startS F32) k) wr) (fun i _ => 8 - (intOf i).toNat)
          case atStart => exact ⟨0, by omega, rfl, hst6'⟩
          case round =>
            obtain ⟨k, hk, rfl, hsk⟩ := hrel
            clear hst6'
            by_cases hk8 : k < 8
            · have hk8' : (k : Int) < 8 := by omega
              obtain ⟨x, hx⟩ : ∃ x, x = firstN.getD k 0 := ⟨_, rfl⟩
              obtain ⟨y, hy⟩ : ∃ y, y = (s8L (startS F32)).getD k 0 := ⟨_, rfl⟩
              have hxl : x < 18446744073709551616 := by rw [hx]; exact firstN_lt k
              have hxl' : (x : Int) < 18446744073709551616 := by omega
              have hyx : y = x / 4294967296 % 4294967296 := by rw [hy, hx, startS_at _ _ hk8]; rfl
              have hix : ∀ u : World, (Instr.index 42 (.agg firstV) (.int .i64 (k : Int))).run Tryd.prog u = .ok (.int .u64 (x : Int)) u := fun u =>
                run_index_array (n := 8) (e := 40) hu42 hk8 (by rw [hx]; exact firstV_at k hk8) (by kernel_rfl) (by kernel_rfl) ⟨_, Tryd.underlying40⟩
              have f0 := hsk.form.cell 0
              simp [f32C] at f0
              have d0 := hsk.s.cell k
              rw [setC_at _ _ _ hk8] at d0
              have g0 := hsk.s.free k
              have hfin : SumT32 w gf gs A4 A64 (setC .u32 (startS F32) (k + 1)) (wr.setCell ⟨gs, k, none⟩ (.int .u32 (y : Int))) :=
                hsk.put (wrote_setCell_at _ _ _ _) (by have := blk_setCell_at (i := k) hsk.s (.int .u32 (y : Int)); rwa [hy, setC_set _ _ _ hk8, ← hy] at this)
              have HFIN := Lib.hid hfin
              have HYX := Lib.hid hyx
              have HXL := Lib.hid hxl
              clear hfin hyx hxl hx hy hsk
              go_wp2_with fail
              rw [show (x : Int) / 4294967296 = ((x / 4294967296 : Nat) : Int) from by omega]
              refine calls_then (cut32_any _ _ (by have := HXL.out; omega)) ?_
              rintro e w7 ⟨rfl, rfl⟩
              rw [← HYX.out]
              go_wp2_with fail
              exact ⟨⟨k + 1, hk8, by go_num, HFIN.out⟩, by simp [intOf]; omega⟩
            · have hge : ¬ (k : Int) < 8 := by omega
              obtain rfl : k = 8 := by omega
              rw [setC_end] at hsk
              obtain ⟨nb, hnb⟩ : ∃ nb, m = nb * 64 := ⟨m / 64, by have := pad32_blocks data; rw [← HA64.out, HAL.out] at this; omega⟩
              have hm4 : m ≤ 4000 := by have := HM.out; omega
              have hcap : m ≤ c4 ∧ c4 ≤ 9223372036854775807 := by
                have ho : OwnX _ (gf + 1) 5 1 (.slice A4 m c4) m (bytesV A64) := HOWN4.out
                exact own_cap ho
              obtain ⟨hcap1, hcap2⟩ := hcap
              have hst8 : SumT32 w gf gs A4 A64 (s8V .u32 (runS F32 A64 0)) wr := hsk
              have HNB := Lib.hid hnb
              have HS8 := Lib.hid hst8
              clear hnb hst8 hsk hu42
              obtain ⟨wo3, rfl⟩ : ∃ wo3 : World, wo3 = wr := ⟨_, rfl⟩
              go_wp2_with fail
              go_loopw [12] (fun i wr => ∃ j a : Nat, j ≤ nb ∧ a = j * 64 ∧ i = .int .i64 (a : Int) ∧ SumT32 w gf gs A4 A64 (s8V .u32 (runS F32 A64 j)) wr) (fun i _ => m - (intOf i).toNat)
              case atStart => exact ⟨0, 0, by omega, rfl, rfl, HS8.out⟩
              case round =>
                obtain ⟨j, a, hj, ha, rfl, hsj⟩ := hrel
                by_cases hjn : j < nb
                · have ham : a + 64 ≤ m := by rw [HNB.out, ha]; omega
                  have hlt : a < m := by omega
                  have hle1 : a + 64 ≤ c4 := by omega
                  obtain ⟨ad, hAd, _, _⟩ := (hsj.rd).at_ (k := a) (by rw [bytesV_length, HAL.out]; omega)
                  subst hAd
                  obtain ⟨bk, hbk⟩ : ∃ x, x = (A64.drop a).take 64 := ⟨_, rfl⟩
                  have hbl : bk.length = 64 := by rw [hbk]; simp; rw [HAL.out]; omega
                  have HRB : Hid (∀ u, SumT32 w gf gs (some ad) A64 (s8V .u32 (runS F32 A64 j)) u → Rd u gs (some (ad.add a)) (bytesV bk)) := Lib.hid fun u hu => by
                    rw [hbk, bytesV, List.map_take, List.map_drop]; exact rd_take (rd_drop hu.rd a) 64
                  obtain ⟨sj, hsj2⟩ : ∃ x, x = runS F32 A64 j := ⟨_, rfl⟩
                  obtain ⟨sn, hsn⟩ : ∃ x, x = mixS F32 sj bk := ⟨_, rfl⟩
                  have hsl : sj.Lt (2 ^ 32) := by rw [hsj2]; exact runS_lt F32 A64 j
                  have hs1 : runS F32 A64 (j + 1) = sn := by rw [hsn, hsj2, hbk, ha]; rfl
                  rw [← hsj2] at hsj
                  have HRB2 : Hid (∀ u, SumT32 w gf gs (some ad) A64 (s8V .u32 sj) u → Rd u gs (some (ad.add a)) (bytesV bk)) := Lib.hid (by rw [hsj2]; exact HRB.out)
                  have HBL := Lib.hid hbl
                  have HSN := Lib.hid hsn
                  have HSL := Lib.hid hsl
                  have HS1 := Lib.hid hs1
                  have HA := Lib.hid ha
                  clear HRB hbl hsn hsl hs1 hbk hsj2 ha
                  have HC0 := hsj.drew
                  clear hsj
                  have hu8 := Tryd.underlying41
                  have hu := Tryd.underlying34
                  go_wp2_with fail
                  refine wp_region_det (fun u => SumT32 w gf gs (some ad) A64 (s8V .u32 sj) u) (fun u => SumT32 w gf gs (some ad) A64 (s8V .u32 sn) u) [(0, some 98), (1, some 99), (2, some 100), (3, some 101), (4, some 102), (5, some 103), (6, some 104), (7, some 105), (8, some 106), (9, none)] (by kernel_rfl) (by kernel_rfl) (by decide) (by kernel_rfl) (fun _ => rfl) HC0 ?_
                  apply DetL.next
                  · -- 0: Op.load 34 (Operand.tmp 2)
                    apply detStep_plain []
                    exact fun _ => rfl
                    rfl
                    rintro vals - w1 hC1 E hE
                    simp only [puts, act_put, act_put_none, List.setIfInBounds_toArray, List.set_cons_zero, List.set_cons_succ] at hE ⊢
                    refine wpList_get_box hC1.form rfl rfl rfl hu rfl form_size ?_
                    go_wp2_with fail
                    exact .mk (hE _ hC1)
                  apply DetL.next
                  · -- 1: Op.load 41 (Operand.tmp 9)
                    apply detStep_plain []
                    exact fun _ => rfl
                    rfl
                    rintro vals ⟨-, -⟩ w1 hC1 E hE
                    simp only [puts, act_put, act_put_none, List.setIfInBounds_toArray, List.set_cons_zero, List.set_cons_succ] at hE ⊢
                    refine wpList_get_box hC1.s rfl rfl rfl hu8 rfl eight32_size ?_
                    go_wp2_with fail
                    exact .mk (hE _ hC1)
                  apply DetL.next
                  · -- 2: Op.move (Operand.tmp 7)
                    apply detStep_plain []
                    exact fun _ => rfl
                    rfl
                    rintro vals ⟨⟨-, -⟩, -⟩ w1 hC1 E hE
                    simp only [puts, act_put, act_put_none, List.setIfInBounds_toArray, List.set_cons_zero, List.set_cons_succ] at hE ⊢
                    go_wp2
                    exact .mk (hE _ hC1)
                  apply DetL.next
                  · -- 3: Op.move (Operand.tmp 12)
                    apply detStep_plain []
                    exact fun _ => rfl
                    rfl
                    rintro vals ⟨⟨⟨-, -⟩, -⟩, -⟩ w1 hC1 E hE
                    simp only [puts, act_put, act_put_none, List.setIfInBounds_toArray, List.set_cons_zero, List.set_cons_succ] at hE ⊢
                    go_wp2
                    exact .mk (hE _ hC1)
                  apply DetL.next
                  · -- 4: Op.move (Operand.tmp 12)
                    apply detStep_plain []
                    exact fun _ => rfl
                    rfl
                    rintro vals ⟨⟨⟨⟨-, -⟩, -⟩, -⟩, -⟩ w1 hC1 E hE
                    simp only [puts, act_put, act_put_none, List.setIfInBounds_toArray, List.set_cons_zero, List.set_cons_succ] at hE ⊢
                    go_wp2
                    exact .mk (hE _ hC1)
                  apply DetL.next
                  · -- 5: Op.move (Operand.tmp 5)
                    apply detStep_plain []
                    exact fun _ => rfl
                    rfl
                    rintro vals ⟨⟨⟨⟨⟨-, -⟩, -⟩, -⟩, -⟩, -⟩ w1 hC1 E hE
                    simp only [puts, act_put, act_put_none, List.setIfInBounds_toArray, List.set_cons_zero, List.set_cons_succ] at hE ⊢
                    go_wp2
                    exact .mk (hE _ hC1)
                  apply DetL.next
                  · -- 6: Op.binOp BinOp.add 3 (Operand.tmp 102) (Operand.tmp 103) 3
                    apply detStep_plain [(4, some 102), (5, some 103)]
                    exact fun _ => rfl
                    rfl
                    rintro vals ⟨⟨⟨⟨⟨⟨-, -⟩, -⟩, -⟩, -⟩, f4⟩, f5⟩ w1 hC1 E hE
                    simp only [puts, act_put, act_put_none, List.setIfInBounds_toArray, List.set_cons_zero, List.set_cons_succ, f4, f5] at hE ⊢
                    clear f4 f5
                    go_wp2
                    exact .mk (hE _ hC1)
                  apply DetL.next
                  · -- 7: Op.slice 22 (Operand.tmp 100) (some (Operand.tmp 101)) (some (Operand.tmp 104)) none
                    apply detStep_plain [(2, some 100), (3, some 101), (6, some 104)]
                    exact fun _ => rfl
                    rfl
                    rintro vals ⟨⟨⟨⟨⟨⟨⟨-, -⟩, -⟩, f2⟩, f3⟩, -⟩, -⟩, f6⟩ w1 hC1 E hE
                    simp only [puts, act_put, act_put_none, List.setIfInBounds_toArray, List.set_cons_zero, List.set_cons_succ, f2, f3, f6] at hE ⊢
                    clear f2 f3 f6
                    go_wp2
                    rw [show a + 64 - a = 64 by omega]
                    exact .mk (hE _ hC1)
                  apply DetL.next
                  · -- 8: Op.call { callee := Callee.value (Operand.func 22), args := #[Operand.tmp 98, Operand.tmp 99, Operand.tmp 105]
                    apply detStep_plain [(0, some 98), (1, some 99), (7, some 105)]
                    exact fun _ => rfl
                    rfl
                    rintro vals ⟨⟨⟨⟨⟨⟨⟨⟨-, f0⟩, f1⟩, -⟩, -⟩, -⟩, -⟩, -⟩, f7⟩ w1 hC1 E hE
                    simp only [puts, act_put, act_put_none, List.setIfInBounds_toArray, List.set_cons_zero, List.set_cons_succ, f0, f1, f7] at hE ⊢
                    clear f0 f1 f7
                    go_wp2_with fail
                    have hmx := mix32_any sj bk (some (ad.add a)) (c4 - a) gs w1 (HRB2.out _ hC1) (by have := hC1.s.lt; omega) HBL.out (by rw [HBL.out]; omega) (by omega) HSL.out (HG.out.below hC1.bel (by rw [← HGF.out]; exact HG.out.size))
                    rw [HBL.out] at hmx
                    refine calls_then hmx ?_
                    rintro e w2 ⟨rfl, hb2⟩
                    rw [← HSN.out]
                    go_wp2_with fail
                    exact .mk (hE _ (hC1.next hb2))
                  apply DetL.last (v := undef)
                  · -- 9: Op.store 41 (Operand.tmp 9) (Operand.tmp 106)
                    apply detStep_plain [(8, some 106), (8, some 106), (0, some 98), (1, some 99), (2, some 100), (3, some 101), (4, some 102), (5, some 103), (6, some 104), (7, some 105), (8, some 106)]
                    exact fun _ => rfl
                    rfl
                    rintro vals ⟨⟨⟨⟨⟨⟨⟨⟨⟨-, f0⟩, f1⟩, f2⟩, f3⟩, f4⟩, f5⟩, f6⟩, f7⟩, f8⟩ w1 hC1 E hE
                    simp only [puts, act_put, act_put_none, List.setIfInBounds_toArray, List.set_cons_zero, List.set_cons_succ, f0, f1, f2, f3, f4, f5, f6, f7, f8] at hE ⊢
                    clear f0 f1 f2 f3 f4 f5 f6 f7 f8
                    refine wpList_put_box hC1.s rfl rfl rfl rfl eight32_size rfl (by simp [s8V, Value.oneCell']) ?_
                    intro w2 hb2 hw2
                    go_wp2_with fail
                    exact .mk (hE _ (hC1.put hw2 hb2))
                  rintro vals ⟨⟨⟨⟨⟨⟨⟨⟨⟨⟨-, f0⟩, f1⟩, f2⟩, f3⟩, f4⟩, f5⟩, f6⟩, f7⟩, f8⟩, f9⟩ w1 hC1
                  simp only [puts, act_put, act_put_none, List.setIfInBounds_toArray, List.set_cons_zero, List.set_cons_succ, f0, f1, f2, f3, f4, f5, f6, f7, f8, f9]
                  clear f0 f1 f2 f3 f4 f5 f6 f7 f8 f9
                  clear HC0
                  have hfin : SumT32 w gf gs (some ad) A64 (s8V .u32 (runS F32 A64 (j + 1))) w1 := by rw [HS1.out]; exact hC1
                  have HFIN := Lib.hid hfin
                  clear hfin hC1
                  go_wp2_with fail
                  exact ⟨⟨j + 1, a + 64, hjn, by rw [HA.out]; omega, by go_num, HFIN.out⟩, by simp [intOf]; omega⟩
                · obtain rfl : j = nb := by omega
                  have hge : ¬ a < m := by rw [HNB.out, ha]; omega
                  have HA := Lib.hid ha
                  obtain ⟨sv, hsv⟩ : ∃ x, x = runS F32 A64 j := ⟨_, rfl⟩
                  have hsl : sv.Lt (2 ^ 32) := by rw [hsv]; exact runS_lt F32 A64 j
                  rw [← hsv] at hsj
                  have hu8 := Tryd.underlying41
                  have HSV := Lib.hid hsv
                  have HSL := Lib.hid hsl
                  clear ha hsv hsl
                  go_wp2_with (refine wpList_get_box (x := .tmp 9) hsj.s rfl rfl rfl hu8 rfl eight32_size ?_)
                  obtain ⟨g2, hg2⟩ : ∃ x, x = wr.heap.size := ⟨_, rfl⟩
                  have hso : SumO32 w gf (gf + 1) [] (.slice none 0 0) wr := ⟨hsj.bel, hsj.form, World.ownsRow_nil _ _ _ _, by have := hsj.form.lt; omega⟩
                  have HSO := Lib.hid hso
                  clear hso hsj
                  obtain ⟨wo4, rfl⟩ : ∃ wo4 : World, wo4 = wr := ⟨_, rfl⟩
                  go_loopw [13, 108] (fun v i wr => ∃ (k q : Nat) (A5 : Option Addr) (c5 : Nat), k ≤ 8 ∧ q = k * 4 ∧ i = .int .i64 k ∧ v = .slice A5 q c5 ∧ SumO32 w gf (gf + 1) (outW 32 4 sv k) (.slice A5 q c5) wr) (fun _ i _ => 8 - (intOf i).toNat)
                  case atStart => exact ⟨0, 0, none, 0, by omega, by omega, rfl, rfl, HSO.out⟩
                  case round =>
                    obtain ⟨k, q, A5, c5, hk, hq, rfl, rfl, hso⟩ := hrel
                    by_cases hk8 : k < 8
                    · have hk8' : (k : Int) < 8 := by omega
                      obtain ⟨x, hx⟩ : ∃ x, x = (s8L sv).getD k 0 := ⟨_, rfl⟩
                      have hxl : x < 2 ^ 32 := by rw [hx]; exact s8L_lt HSL.out (by decide) k
                      have hxl' : (x : Int) < 4294967296 := by omega
                      have hix : ∀ u : World, (Instr.index 41 (.agg (s8V .u32 sv)) (.int .i64 (k : Int))).run Tryd.prog u = .ok (.int .u32 (x : Int)) u := fun u =>
                        run_index_array (n := 8) (e := 29) hu8 hk8 (by rw [hx]; exact s8V_at .u32 sv k hk8) (by kernel_rfl) (by kernel_rfl) ⟨_, Tryd.underlying29⟩
                      have f0 := hso.form.cell 0
                      simp [f32C] at f0
                      have hs6 : SumO32 w gf (gf + 1) (outW 32 4 sv k ++ wordB 32 x 0) (.slice A5 q c5) wr := by simpa [wordB] using hso
                      have HX := Lib.hid hx
                      have HQ := Lib.hid hq
                      have HS6 := Lib.hid hs6
                      have HU8 := Lib.hid hu8
                      have hq9 : q ≤ 64 := by omega
                      clear hx hq hs6 hso hxl hu8
                      go_wp2_with fail
                      clear hix f0
                      obtain ⟨wo5, rfl⟩ : ∃ wo5 : World, wo5 = wr := ⟨_, rfl⟩
                      go_loopw [13, 16] (fun v i wr => ∃ (p r : Nat) (A6 : Option Addr) (c6 : Nat), p ≤ 4 ∧ r = q + p ∧ v = .slice A6 r c6 ∧ i = .int .i64 (32 - 8 - 8 * (p : Int)) ∧ SumO32 w gf (gf + 1) (outW 32 4 sv k ++ wordB 32 x p) (.slice A6 r c6) wr) (fun _ i _ => (intOf i + 8).toNat)
                      case atStart => exact ⟨0, q, A5, c5, by omega, by omega, rfl, rfl, HS6.out⟩
                      case round =>
                        obtain ⟨p, r, A6, c6, hp, hr6, rfl, rfl, hs7⟩ := hrel
                        by_cases hp8 : p < 4
                        · obtain ⟨sh, hsh⟩ : ∃ sh : Nat, (32 - 8 - 8 * (p : Int)) = (sh : Int) := ⟨32 - 8 - 8 * p, by omega⟩
                          rw [hsh]
                          have hsh2 : sh = 32 - 8 - 8 * p := by omega
                          have hsl : (sh : Int) < 32 := by omega
                          have HSH := Lib.hid hsh2
                          have HR6 := Lib.hid hr6
                          have HS7 := Lib.hid hs7
                          have ho7 : wr.ownsRow (gf + 1) 5 1 (.slice A6 r c6) r (bytesV (outW 32 4 sv k ++ wordB 32 x p)) := by
                            have := hs7.own
                            rwa [List.length_append, wordB_length, outW_length _ _ _ _ (by omega), ← HQ.out, ← hr6] at this
                          have HO7 := Lib.hid ho7
                          have hr9 : r ≤ 100 := by omega
                          clear hsh hsh2 hr6 hs7 ho7
                          go_wp2_with (refine wpList_append_own1 sl_bytes rfl rfl HO7.out rfl rfl rfl rfl (by unfold maxLen; omega) (by omega) HS7.out.lb ?_; intro A8 c8 w8 hown8 hg8; have HOWN8 := Lib.hid hown8; have HG8 := Lib.hid hg8; clear hown8 hg8)
                          have hfin : SumO32 w gf (gf + 1) (outW 32 4 sv k ++ wordB 32 x (p + 1)) (.slice A8 (r + 1) c8) w8 := by
                            refine HS7.out.grow (by omega) HG8.out ?_
                            have h := HOWN8.out
                            rw [wordB_val _ _ _ _ HSH.out, ← bytesV_snoc, List.append_assoc] at h
                            rw [List.length_append, wordB_length, outW_length _ _ _ _ (by omega), ← HQ.out, show q + (p + 1) = r + 1 by rw [HR6.out]; omega]
                            exact h
                          exact ⟨⟨p + 1, r + 1, A8, c8, hp8, by rw [HR6.out]; omega, rfl, by have := HSH.out; exact congrArg (Value.int .i64) (by omega), hfin⟩, by have := HSH.out; simp [intOf]; omega⟩
                        · obtain rfl : p = 4 := by omega
                          have hfin : SumO32 w gf (gf + 1) (outW 32 4 sv (k + 1)) (.slice A6 r c6) wr := by rw [outW_succ _ _ _ _ hk8, ← HX.out]; exact hs7
                          have HFIN := Lib.hid hfin
                          have HR6 := Lib.hid hr6
                          clear hfin hr6 hs7
                          go_wp2_with fail
                          exact ⟨⟨k + 1, r, A6, c6, hk8, by rw [HR6.out, HQ.out]; omega, by go_num, rfl, HFIN.out⟩, by simp [intOf]; omega⟩
                    · have hge : ¬ (k : Int) < 8 := by omega
                      obtain rfl : k = 8 := by omega
                      have HSO := Lib.hid hso
                      obtain rfl : q = 8 * 4 := hq
                      clear hso
                      go_wp2_with fail
                      go_ret
                      refine ⟨A5, c5, rfl, ?_, by rw [HGF.out]; exact HSO.out.bel⟩
                      have h := HSO.out.own
                      rw [outW_length _ _ _ _ (by omega)] at h
                      have hd : outW 32 4 sv 8 = digS F32 data := by
                        rw [HSV.out, digS, ← HA64.out, HAL.out, HNB.out]
                        show _ = (s8L (runS F32 A64 (j * 64 / 64))).flatMap _
                        rw [Nat.mul_div_cancel _ (by decide)]
                        rfl
                      rw [← hd]
                      exact own_mono h (by rw [HGF.out]; omega)
end Go.Proofs.YtfpbcihpjcocmaaDoor
