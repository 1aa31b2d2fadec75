/-
  Joined texts: Jen Own Jfd Owr Conv Trm Dom Jrt Jnu Jva Jvl Jwr Jkl Turned Cut32 Part.
-/
import Derived.Maps.AppendAt
import Derived.Laws.BytesArg
import Derived.Laws.IdiomStrings
import Derived.Test.YtlkikjeccamheaaDoorProg
import Derived.Shelf.Strings.SlTrimAscii
import Derived.Shelf.Abstract
import Derived.Carry
import Derived.BigQuiet
import Derived.Deep.QuietTactic
import Derived.IntWalk
import Derived.Laws.CopyRow
import Derived.Laws.Unary
import Derived.Laws.Bits64
import Derived.Laws.BitsLemmas
import Derived.Test.YtlkikjeccamheaaDoorA1
/-
  Walk: b64.Encode.
-/
namespace Go.Proofs.YtlkikjeccamheaaDoor.Js
set_option linter.unusedSimpArgs false
set_option linter.unusedVariables false
open Go.RowKit
def encT (m V : Nat) (r : Bs) : Bs :=
  if 12 ≤ m then ltr (V / 2 ^ (m - 6)) :: ltr (V % 2 ^ (m - 6) / 2 ^ (m - 12)) :: encS (m - 12) (V % 2 ^ (m - 6) % 2 ^ (m - 12)) r
  else if 6 ≤ m then ltr (V / 2 ^ (m - 6)) :: encS (m - 6) (V % 2 ^ (m - 6)) r
  else encS m V r
theorem encS_step {m w : Nat} {c : UInt8} {r : Bs} (hm : m = 0 ∨ m = 2 ∨ m = 4) : encS m w (c :: r) = encT (m + 8) (w * 256 + c.toNat) r := by
  rcases hm with rfl | rfl | rfl <;> rfl
theorem bldT_ok : BT 69 := ⟨by kernel_rfl, by decide⟩
def b64B : ByteArray := ⟨#[65, 66, 67, 68, 69, 70, 71, 72, 73, 74, 75, 76, 77, 78, 79, 80, 81, 82, 83, 84, 85, 86, 87, 88, 89, 90, 97, 98, 99, 100, 101, 102, 103, 104, 105, 106, 107, 108, 109, 110, 111, 112, 113, 114, 115, 116, 117, 118, 119, 120, 121, 122, 48, 49, 50, 51, 52, 53, 54, 55, 56, 57, 45, 95]⟩
theorem b64B_at : ∀ z : Fin 64, b64B[z.1]'(by have := z.2; exact this) = ltr z.1 := by decide +kernel
theorem ltr_at (z : Nat) (h : z < 64) : Value.int .u8 (((b64B[z]'h).toNat : Nat) : Int) = byteV (ltr z) := by
  rw [b64B_at ⟨z, h⟩]
  rfl
theorem or_low : ∀ (a : Fin 16) (x : Fin 256), bits .or .i64 ((a.1 * 256 : Nat) : Int) ((x.1 : Nat) : Int) = ((a.1 * 256 + x.1 : Nat) : Int) := by decide +kernel
theorem and_63 : ∀ (a b : Fin 64), bits .and .i64 ((a.1 * 64 + b.1 : Nat) : Int) 63 = ((b.1 : Nat) : Int) := by decide +kernel
theorem and_low2 {m V : Nat} (hm : m = 6 ∨ m = 8 ∨ m = 10 ∨ m = 12) (hV : V < 2 ^ m) : bits .and .i64 (V : Int) (((2 ^ (m - 6) : Nat) : Int) - 1) = ((V % 2 ^ (m - 6) : Nat) : Int) := by
  have k1 : ∀ a : Fin 64, bits .and .i64 ((a.1 : Nat) : Int) 0 = 0 := by decide +kernel
  have k4 : ∀ (a : Fin 64) (b : Fin 4), bits .and .i64 ((a.1 * 4 + b.1 : Nat) : Int) 3 = ((b.1 : Nat) : Int) := by decide +kernel
  have k16 : ∀ (a : Fin 64) (b : Fin 16), bits .and .i64 ((a.1 * 16 + b.1 : Nat) : Int) 15 = ((b.1 : Nat) : Int) := by decide +kernel
  rcases hm with rfl | rfl | rfl | rfl
  · have h := k1 ⟨V, by simpa using hV⟩
    simpa [Nat.mod_one] using h
  · have h := k4 ⟨V / 4, by simp at hV; omega⟩ ⟨V % 4, Nat.mod_lt _ (by omega)⟩
    rw [show V / 4 * 4 + V % 4 = V by omega] at h
    simpa using h
  · have h := k16 ⟨V / 16, by simp at hV; omega⟩ ⟨V % 16, Nat.mod_lt _ (by omega)⟩
    rw [show V / 16 * 16 + V % 16 = V by omega] at h
    simpa using h
  · have h := and_63 ⟨V / 64, by simp at hV; omega⟩ ⟨V % 64, Nat.mod_lt _ (by omega)⟩
    rw [show V / 64 * 64 + V % 64 = V by omega] at h
    simpa using h
theorem encT_step {m V : Nat} {r : Bs} (hm : m = 6 ∨ m = 8 ∨ m = 10 ∨ m = 12) : encT m V r = ltr (V / 2 ^ (m - 6)) :: encT (m - 6) (V % 2 ^ (m - 6)) r := by
  rcases hm with rfl | rfl | rfl | rfl <;> rfl
theorem encT_low {m V : Nat} {r : Bs} (hm : m < 6) : encT m V r = encS m V r := by
  unfold encT
  rw [if_neg (by omega), if_neg (by omega)]
theorem enc_ne {b : Bs} (h : 0 < b.length) : enc b ≠ [] := by
  cases b with
  | nil => simp at h
  | cons c r => unfold enc encS; simp
theorem pow_small {m : Nat} (hm : m = 6 ∨ m = 8 ∨ m = 10 ∨ m = 12) : 2 ^ (m - 6) ≤ 64 := by
  rcases hm with rfl | rfl | rfl | rfl <;> decide
set_option maxRecDepth 100000 in
set_option maxHeartbeats 4000000 in
theorem encode_any (b : Bs) (hl : b.length ≤ 1000) (hb0 : 0 < b.length) (A : Option Addr) (c : Nat) (w : World) (hr : Rd w w.heap.size A (bytesV b)) (hc : b.length ≤ c) :
    Calls Tryd.prog 26 #[.slice A b.length c] w fun e w' => e = .returned (.string (bs (enc b))) ∧ Below w.heap.size w w' := by
  obtain ⟨n, hn⟩ : ∃ n, n = b.length := ⟨_, rfl⟩
  obtain ⟨W0, hW0⟩ : ∃ W0, W0 = w.alloc (.cells #[.pointer none, .slice none 0 0] 69) := ⟨_, rfl⟩
  have HB0 := Lib.hid (show Below w.heap.size w W0 by rw [hW0]; exact (Below.refl _ w).alloc (Nat.le_refl _) _)
  have HI0 := Lib.hid (show IsB W0 w.heap.size 69 w.heap.size [] by rw [hW0]; exact IsB.new _ _ (Nat.le_refl _))
  have HK0 := Lib.hid (BK.refl w.heap.size w.heap.size W0)
  have HW0 := Lib.hid hW0
  have HR := Lib.hid (hr.below HB0.out)
  have HN := Lib.hid hn
  have hn1 : (n : Int) ≤ 1000 := by omega
  rw [← hn]
  have HNE := Lib.hid (enc_ne hb0)
  clear hW0 hr hn hl hc hb0
  go_enter Tryd.func26, Tryd.ntmps26
  go_upto_region 2 with (fail)
  rw [← HW0.out]
  go_wp2_with fail
  go_loopw [4, 5, 10] (fun x y z wr => ∃ (k wv m : Nat) (L : Bs), k ≤ n ∧ z = .int .i64 (k : Int) ∧ x = .int .i64 (wv : Int) ∧ y = .int .i64 (m : Int) ∧ (m = 0 ∨ m = 2 ∨ m = 4) ∧ wv < 2 ^ m ∧ L ++ encS m wv (b.drop k) = enc b ∧ 6 * L.length + m = 8 * k ∧
    IsB wr w.heap.size 69 w.heap.size L ∧ BK w.heap.size w.heap.size W0 wr) (fun _ _ z _ => n - (intOf z).toNat)
  case atStart => exact ⟨0, 0, 0, [], Nat.zero_le _, rfl, rfl, rfl, .inl rfl, by simp, by simp [enc], rfl, HI0.out, HK0.out⟩
  case round =>
    obtain ⟨k, wv, m, L, hk, rfl, rfl, rfl, hm, hwv, henc, hL, hib, hbk⟩ := hrel
    by_cases hlt : k < n
    · have hlt' : (k : Int) < (n : Int) := by omega
      have hkl : k < b.length := by rw [← HN.out]; exact hlt
      have HIB := Lib.hid hib
      have HBK := Lib.hid hbk
      have HEN := Lib.hid henc
      have HM := Lib.hid hm
      have HWV := Lib.hid hwv
      have HL := Lib.hid hL
      have hbw : Below w.heap.size W0 wr := hbk.below
      obtain ⟨ad, hA, had, hcell⟩ := (HR.out.below hbw).at_ (k := k) (by rw [bytesV_length]; exact hkl)
      subst hA
      obtain ⟨x, hx⟩ : ∃ x, x = (b[k]'hkl).toNat := ⟨_, rfl⟩
      have hbv : (bytesV b)[k]'(by rw [bytesV_length]; exact hkl) = .int .u8 (x : Int) := by
        rw [hx]; simp [bytesV, byteV]
      rw [hbv] at hcell
      clear hbv hib hbk henc hm hwv hbw
      have hm4 : (m : Int) ≤ 4 := by rcases HM.out with h | h | h <;> omega
      have hw16 : wv < 16 := Nat.lt_of_lt_of_le HWV.out (by rcases HM.out with h | h | h <;> subst h <;> decide)
      have hxl : x < 256 := by rw [hx]; exact UInt8.toNat_lt _
      have hor : bits .or .i64 ((wv : Int) * 256) (x : Int) = ((wv * 256 + x : Nat) : Int) := by have := or_low ⟨wv, hw16⟩ ⟨x, hxl⟩; simpa using this
      have hwz : (wv : Int) < 16 := by omega
      have hxz : (x : Int) < 256 := by omega
      obtain ⟨V, hV⟩ : ∃ V, V = wv * 256 + x := ⟨_, rfl⟩
      rw [← hV] at hor
      have HT := Lib.hid (show L ++ encT (m + 8) V (b.drop (k + 1)) = enc b by
        have h := HEN.out
        rw [List.drop_eq_getElem_cons hkl, encS_step HM.out, ← hx, ← hV] at h
        exact h)
      have HVL := Lib.hid (show V < 2 ^ (m + 8) by
        have h1 := HWV.out
        rw [hV, Nat.pow_add]
        have : (2 : Nat) ^ 8 = 256 := rfl
        rw [this]
        have : (wv + 1) * 256 ≤ 2 ^ m * 256 := Nat.mul_le_mul_right _ h1
        omega)
      clear hx hV
      have hcell' : wr.cell? (ad.add k) = some (.int .u8 (x : Int)) := hcell
      clear hcell
      go_upto_region 7 with (fail)
      go_loopw [4, 5] (fun x y wr2 => ∃ (V2 m2 : Nat) (L2 : Bs), x = .int .i64 (V2 : Int) ∧ y = .int .i64 (m2 : Int) ∧ (m2 = 0 ∨ m2 = 2 ∨ m2 = 4 ∨ m2 = 6 ∨ m2 = 8 ∨ m2 = 10 ∨ m2 = 12) ∧ V2 < 2 ^ m2 ∧ L2 ++ encT m2 V2 (b.drop (k + 1)) = enc b ∧ 6 * L2.length + m2 = 8 * (k + 1) ∧
        IsB wr2 w.heap.size 69 w.heap.size L2 ∧ BK w.heap.size w.heap.size W0 wr2) (fun _ y _ => (intOf y).toNat)
      case atStart => exact ⟨V, m + 8, L, rfl, by go_num, by rcases HM.out with h | h | h <;> omega, HVL.out, HT.out, by have := HL.out; omega, HIB.out, HBK.out⟩
      case round =>
        obtain ⟨V2, m2, L2, rfl, rfl, hm2, hV2, hT2, hL2, hib2, hbk2⟩ := hrel
        by_cases h6 : 6 ≤ m2
        · have h6' : (6 : Int) ≤ (m2 : Int) := by omega
          have hm2' : m2 = 6 ∨ m2 = 8 ∨ m2 = 10 ∨ m2 = 12 := by omega
          obtain ⟨P, hP⟩ : ∃ P, P = 2 ^ (m2 - 6) := ⟨_, rfl⟩
          have hPi : (2 : Int) ^ (m2 - 6) = (P : Int) := by rw [hP]; simp
          have hP1 : 1 ≤ P := by rw [hP]; exact Nat.pow_pos (by omega)
          have hP64 : P ≤ 64 := by rw [hP]; exact pow_small hm2'
          have hst := encT_step (V := V2) (r := b.drop (k + 1)) hm2'
          have hlow := and_low2 hm2' hV2
          obtain ⟨z, hz⟩ : ∃ z, z = V2 / 2 ^ (m2 - 6) := ⟨_, rfl⟩
          obtain ⟨y, hy⟩ : ∃ y, y = V2 % 2 ^ (m2 - 6) := ⟨_, rfl⟩
          have hyl : y < 2 ^ (m2 - 6) := by rw [hy]; exact Nat.mod_lt _ (Nat.pow_pos (by omega))
          have hz64 : z < 64 := by
            rw [hz, Nat.div_lt_iff_lt_mul (Nat.pow_pos (by omega))]
            have : (2 : Nat) ^ 6 * 2 ^ (m2 - 6) = 2 ^ m2 := by rw [← Nat.pow_add]; congr 1; omega
            have h64 : (2 : Nat) ^ 6 = 64 := rfl
            omega
          rw [← hz, ← hy] at hst
          rw [← hy, ← hP] at hlow
          have hzi : ((V2 : Int) / (P : Int)) = (z : Int) := by rw [hz, hP]; simp
          have hand : bits .and .i64 (z : Int) 63 = (z : Int) := by
            have := and_63 0 ⟨z, hz64⟩
            simpa using this
          have hz1 : (z : Int) < 64 := by omega
          have hpl : (P : Int) ≤ 64 := by omega
          have hp1 : 1 ≤ (P : Int) := by omega
          have hm12 : (m2 : Int) ≤ 12 := by omega
          have HT2 := Lib.hid (show (L2 ++ [ltr z]) ++ encT (m2 - 6) y (b.drop (k + 1)) = enc b by rw [List.append_assoc]; rw [hst] at hT2; exact hT2)
          have HYL := Lib.hid hyl
          have HM6 := Lib.hid hm2'
          have HL2 := Lib.hid hL2
          clear hst hy hyl hP hm2 hm2' hT2 hL2 hV2 hP1 hP64
          have HZ := Lib.hid hz
          clear hz
          have HIB2 := Lib.hid hib2
          have HBK2 := Lib.hid hbk2
          go_wp2_with fail
          have hls : L2.length + 1 ≤ 140737488355328 := by have := HL2.out; omega
          have hq := bld_byte bldT_ok _ _ L2 (ltr z) _ HIB2.out hls
          rw [← ltr_at z hz64] at hq
          refine calls_then hq ?_
          rintro e w3 ⟨rfl, hib3, hbk3⟩
          have HIB3 := Lib.hid hib3
          have HBK3 := Lib.hid (HBK2.out.trans hbk3)
          clear hib3 hbk3 hq
          go_upto_region 10 with (fail)
          go_wp2_with fail
          have h6n := HM6.out
          have hlen := HL2.out
          exact ⟨⟨y, m2 - 6, L2 ++ [ltr z], rfl, by rw [show ((m2 - 6 : Nat) : Int) = (m2 : Int) - 6 by omega], by omega, HYL.out, HT2.out, by rw [List.length_append]; simp; omega, HIB3.out, HBK3.out⟩, by simp only [intOf]; omega⟩
        · have h6' : ¬ (6 : Int) ≤ (m2 : Int) := by omega
          have HM6 := Lib.hid (show m2 = 0 ∨ m2 = 2 ∨ m2 = 4 by omega)
          have HT2 := Lib.hid (show L2 ++ encS m2 V2 (b.drop (k + 1)) = enc b by rw [← encT_low (by omega)]; exact hT2)
          have HL2 := Lib.hid hL2
          have HV2 := Lib.hid hV2
          have HIB2 := Lib.hid hib2
          have HBK2 := Lib.hid hbk2
          have HLT := Lib.hid hlt
          clear hm2 hV2 hT2 hL2 hib2 hbk2 h6
          go_wp2_with fail
          exact ⟨⟨k + 1, V2, m2, L2, HLT.out, by go_num, rfl, rfl, HM6.out, HV2.out, HT2.out, HL2.out, HIB2.out, HBK2.out⟩, by have := HLT.out; simp [intOf]; omega⟩
    · obtain rfl : k = n := by omega
      rw [List.drop_of_length_le (by rw [← HN.out]; exact Nat.le_refl _)] at henc
      by_cases h0 : m = 0
      · subst h0
        have HE := Lib.hid (show L = enc b by rw [← henc]; simp [encS])
        have hLne : L ≠ [] := by rw [HE.out]; exact HNE.out
        have HS := Lib.hid (bld_string _ _ L wr hib hLne)
        have HBK := Lib.hid hbk
        clear hib hbk henc hm hwv hL hLne
        go_wp2_with fail
        refine calls_then HS.out ?_
        rintro e w4 ⟨rfl, hb4⟩
        have HB4 := Lib.hid hb4
        clear hb4
        go_wp2_with fail
        go_ret
        exact ⟨by rw [HE.out]; rfl, HB0.out.trans ((HBK.out.below).trans HB4.out)⟩
      · have hm' : m = 2 ∨ m = 4 := by omega
        obtain ⟨z, hz⟩ : ∃ z, z = wv * 2 ^ (6 - m) := ⟨_, rfl⟩
        have hz64 : z < 64 := by rw [hz]; exact ltA (by omega) hwv
        have HE := Lib.hid (show L ++ [ltr z] = enc b by rw [← henc, encS, if_neg h0, hz])
        have hzi : (wv : Int) * 2 ^ (6 - m) = (z : Int) := by rw [hz]; simp
        have hz1 : (z : Int) < 64 := by omega
        have hm0 : 0 < (m : Int) := by omega
        have hm6 : (m : Int) ≤ 4 := by omega
        have HIB := Lib.hid hib
        have HBK := Lib.hid hbk
        have HL := Lib.hid hL
        clear hib hbk henc hm hm' hwv hL hz
        go_upto_region 13 with (fail)
        go_wp2_with fail
        have hq := bld_byte bldT_ok _ _ L (ltr z) _ HIB.out (by have := HL.out; omega)
        rw [← ltr_at z hz64] at hq
        refine calls_then hq ?_
        rintro e w3 ⟨rfl, hib3, hbk3⟩
        have HBK3 := Lib.hid (HBK.out.trans hbk3)
        have hLne : L ++ [ltr z] ≠ [] := by simp
        have HS := Lib.hid (bld_string _ _ (L ++ [ltr z]) w3 hib3 hLne)
        clear hib3 hbk3 hq hLne
        go_upto_region 14 with (fail)
        go_wp2_with fail
        refine calls_then HS.out ?_
        rintro e w4 ⟨rfl, hb4⟩
        have HB4 := Lib.hid hb4
        clear hb4
        go_wp2_with fail
        go_ret
        exact ⟨by rw [HE.out]; rfl, HB0.out.trans ((HBK3.out.below).trans HB4.out)⟩
end Go.Proofs.YtlkikjeccamheaaDoor.Js
/-
  Laws of my own on rows that the call owns and may write: append of one element.
-/
namespace Go.Proofs.YtlkikjeccamheaaDoor
set_option linter.unusedSimpArgs false
set_option linter.unusedVariables false
open Go.RowKit
theorem own_lt {w : World} {base e size n : Nat} {v : Value} {xs : List Value} (h : w.ownsRow base e size v n xs) : ∀ k, v.ownBlock = some k → base ≤ k ∧ k < w.heap.size := (OwnX.of h).lt
theorem own_mono {w : World} {base base' e size n : Nat} {v : Value} {xs : List Value} (h : w.ownsRow base e size v n xs) (hb : base' ≤ base) : w.ownsRow base' e size v n xs :=
  ⟨h.1, h.2.elim .inl fun ⟨g, cap, cur, hv, hg, r⟩ => .inr ⟨g, cap, cur, hv, Nat.le_trans hb hg, r⟩⟩
theorem own_cap {w : World} {base e size n c : Nat} {A : Option Addr} {xs : List Value} (h : OwnX w base e size (.slice A n c) n xs) : n ≤ c ∧ c ≤ 9223372036854775807 := by
  rcases h.2 with ⟨hv, hn⟩ | ⟨g, cap, cur, fz, hv, _, _, hnc, hcm, _⟩
  · injection hv with _ _ h3; omega
  · injection hv with _ _ h3; unfold maxLen at hcm; omega
section
variable {P : Program}
theorem wpList_append_own1 {w0 : World} {y : Value} {ops : Array Oper} {rest : List Oper} {o : Oper} {a : Act} {Q : Exit → Act → World → Prop} {s x : Operand} {t e : TypeId} {bytes : Nat} (T : SlT P t e 1 bytes)
    (hgd : o.guard = none) (ho : o.op = .call { callee := .builtin .append, args := #[s, x], argTypes := #[t, t] })
    {base n : Nat} {v : Value} {xs : List Value} {ad : Nat} (hown : w0.ownsRow base e 1 v n xs) (hs : a.eval s = v) (hx : a.eval x = .slice (some ⟨ad, 0, none⟩) 1 1) (had : ad = w0.heap.size)
    (hy : y.oneCell' = true)
    (h63 : n + 1 ≤ maxLen) (hbytes : (n + 1) * bytes ≤ 140737488355328) (hbase : base ≤ w0.heap.size)
    (h : ∀ A c w', w'.ownsRow base e 1 (.slice A (n + 1) c) (n + 1) (xs ++ [y]) → w0.grownBy w' v.ownBlock → wpList P ops Q rest (a.put o.dst (.slice A (n + 1) c)) w') :
    wpList P ops Q (o :: rest) a (w0.alloc (.cells #[y] e)) := by
  subst had
  obtain ⟨i, z, hi, hz, hsz, hby, hzs⟩ := T.info
  obtain ⟨v', w', hr, h2, h3, _, _⟩ := run_append_own_at (P := P) (w0.alloc (.cells #[y] e)) base t o.type e i z 1 bytes T.und hi hz hsz hby hzs (by omega) v n xs (hown.alloc _) ⟨w0.heap.size, 0, none⟩ 1 1 [y] rfl (fun j u hu => cell_one_new _ _ _ j u hu)
    (by intro u hu; simp at hu; subst hu; exact hy) h63 hbytes (by simp; omega)
  have hv : ∃ A c, v' = .slice A (n + 1) c := by
    rcases h2.2 with ⟨_, h0⟩ | ⟨g, cap, cur, rfl, _⟩
    · omega
    · exact ⟨_, _, rfl⟩
  obtain ⟨A, c, rfl⟩ := hv
  refine wpList_of_append (R := fun v' w1 => v' = .slice A (n + 1) c ∧ w1 = w') hgd ho hs hx ⟨_, _, hr, rfl, rfl⟩ ?_
  rintro v' w1 ⟨rfl, rfl⟩
  exact h _ _ _ h2 ((World.grownBy_alloc w0 _ _).trans h3)
end
end Go.Proofs.YtlkikjeccamheaaDoor
/-
  Walks: jwk.Find.
-/
namespace Go.Proofs.YtlkikjeccamheaaDoor.Js
set_option linter.unusedSimpArgs false
set_option linter.unusedVariables false
open Go.RowKit
def kCell (k : Bs × Bs) : Array Value := #[.string (bs k.1), .string (bs k.2)]
theorem kCell_one (k : Bs × Bs) : (kCell k).all (·.oneCell') = true := by simp [kCell, Value.oneCell']
theorem jk_size : (Tryd.prog.info? 37).map (·.size) = some 2 := by kernel_rfl
end Go.Proofs.YtlkikjeccamheaaDoor.Js
/-
  Laws of my own: rows of structs that the call owns and may write to.
-/
namespace Go.Proofs.YtlkikjeccamheaaDoor
set_option linter.unusedSimpArgs false
set_option linter.unusedVariables false
open Go.RowKit
def OwnR (w : World) (base : Nat) (e : TypeId) (size : Nat) (A : Option Addr) (c : Nat) (n : Nat) (xs : List Value) : Prop := w.ownsRow base e size (.slice A n c) n xs
section
variable {w w' : World} {base : Nat} {e : TypeId} {size : Nat} {A : Option Addr} {c n : Nat} {xs : List Value}
theorem OwnR.x (h : OwnR w base e size A c n xs) : OwnX w base e size (.slice A n c) n xs := .of h
theorem OwnR.nil (w : World) (base : Nat) (e : TypeId) (size : Nat) : OwnR w base e size none 0 0 [] := ⟨by simp, .inl ⟨rfl, rfl⟩⟩
theorem OwnR.cap (h : OwnR w base e size A c n xs) : n ≤ c := by
  rcases h.2 with ⟨h1, h2⟩ | ⟨g, cap, cur, h1, h2, h3, h4, h5, h6, h7⟩
  · omega
  · injection h1 with e1 e2 e3
    omega
theorem OwnR.lt (h : OwnR w base e size A c n xs) : ∀ k, (Value.slice A n c).ownBlock = some k → base ≤ k ∧ k < w.heap.size := h.x.lt
theorem OwnR.mono {base' : Nat} (h : OwnR w base e size A c n xs) (hb : base' ≤ base) : OwnR w base' e size A c n xs := by
  refine ⟨h.1, ?_⟩
  rcases h.2 with h0 | ⟨g, cap, cur, h1, h2, h3⟩
  · exact .inl h0
  · exact .inr ⟨g, cap, cur, h1, by omega, h3⟩
theorem OwnR.heap (h : OwnR w base e size A c n xs) (hk : ∀ k cs, w.heap[k]? = some (.cells cs e (0, 0)) → base ≤ k → w'.heap[k]? = some (.cells cs e (0, 0))) : OwnR w' base e size A c n xs := by
  refine ⟨h.1, ?_⟩
  rcases h.2 with h0 | ⟨g, cap, cur, h1, h2, h3, h4⟩
  · exact .inl h0
  · exact .inr ⟨g, cap, cur, h1, h2, hk _ _ h3 h2, h4⟩
theorem OwnR.keep {f : TypeId} (h : OwnR w base e size A c n xs) (hk : KeepBut f w w') (ht : e ≠ f) : OwnR w' base e size A c n xs := h.heap fun k cs h1 _ => heap_keep hk ht h1
theorem OwnR.alloc (h : OwnR w base e size A c n xs) (o : Obj) : OwnR (w.alloc o) base e size A c n xs := h.heap fun k cs h1 _ => (Below.heap_alloc w o k (Array.getElem?_eq_some_iff.1 h1).1).trans h1
theorem OwnR.below (h : OwnR w base e size A c n xs) (hb : Below w.heap.size w w') : OwnR w' base e size A c n xs := h.heap fun k cs h1 _ => (hb.block k (Array.getElem?_eq_some_iff.1 h1).1).trans h1
theorem OwnR.row (h : OwnR w base e size A c n xs) : Row w w.heap.size e A xs := .of_own h.x
end
theorem KeepBut.refl (e : TypeId) (w : World) : KeepBut e w w := ⟨Nat.le_refl _, fun _ _ _ _ _ h => h⟩
theorem KeepBut.trans {e : TypeId} {a b c : World} (h : KeepBut e a b) (h' : KeepBut e b c) : KeepBut e a c := ⟨Nat.le_trans h.1 h'.1, fun k cs t fz ht hk => h'.2 k cs t fz ht (h.2 k cs t fz ht hk)⟩
section
variable {P : Program}
theorem run_append_r {w : World} {t ty e : TypeId} {size bytes : Nat} (T : SlT P t e size bytes) {base n c : Nat} {A : Option Addr} {xs : List Value} (hown : OwnR w base e size A c n xs)
    {Ad : Option Addr} {m cx : Nat} {news : List Value} (hl : news.length = m * size) (hnews : ∀ j u, news[j]? = some u → ∃ ad, Ad = some ad ∧ w.cell? (ad.add j) = some u) (h1 : ∀ u ∈ news, u.oneCell' = true)
    (h63 : n + m ≤ maxLen) (hbytes : (n + m) * bytes ≤ 140737488355328) (hbase : base ≤ w.heap.size) :
    ∃ A' c' w', (Builtin.append_ #[t, t] ty #[.slice A n c, .slice Ad m cx]).run P w = .ok (.slice A' (n + m) c') w' ∧ OwnR w' base e size A' c' (n + m) (xs ++ news) ∧ w.grownBy w' (Value.slice A n c).ownBlock ∧ Next w (.slice A n c) (.slice A' (n + m) c') := by
  obtain ⟨i, z, hi, hz, hsz, hby, hzs⟩ := T.info
  by_cases hm : m = 0
  · subst hm
    have hnn : news = [] := List.eq_nil_of_length_eq_zero (by simpa using hl)
    subst hnn
    have hcap := hown.cap
    refine ⟨A, c, w, ?_, by simpa using hown, World.grownBy.refl _ _, .inl rfl⟩
    rcases hown.2 with ⟨h1, h2⟩ | ⟨g, cap, cur, h1, h2, h3, h4, h5, h6, h7⟩
    · injection h1 with e1 e2 e3
      subst e1 e2 e3
      cases Ad <;> simp [Builtin.append_, run_underlying T.und, sizeOf, typeInfo, hi, Builtin.lenOf, Builtin.firstCells, loadCells, loadCellsFrom]
    · injection h1 with e1 e2 e3
      subst e1 e3
      cases Ad <;> simp [Builtin.append_, run_underlying T.und, sizeOf, typeInfo, hi, Builtin.lenOf, Builtin.firstCells, loadCells, loadCellsFrom, hcap, storeCells]
  · have hpos : 0 < news.length := by rw [hl]; exact Nat.mul_pos (by omega) T.pos
    obtain ⟨ad, rfl, _⟩ := hnews 0 _ (List.getElem?_eq_getElem hpos)
    have hcells : ∀ j u, news[j]? = some u → w.cell? (ad.add j) = some u := fun j u hu => by
      obtain ⟨ad', he, hc⟩ := hnews j u hu
      injection he with he
      subst he
      exact hc
    obtain ⟨v', w', hr, h2, h3, _, h5⟩ := run_append_own_at (P := P) w base t ty e i z size bytes T.und hi hz hsz hby hzs T.pos (.slice A n c) n xs hown ad m cx news hl hcells h1 h63 hbytes hbase
    have hn : Next w (.slice A n c) v' := by
      rcases h5 with h5 | h5
      · exact .inl h5
      · exact .inr fun k hk => by rw [h5] at hk; simp at hk; omega
    have hv : ∃ A' c', v' = .slice A' (n + m) c' := by
      rcases h2.2 with ⟨_, h0⟩ | ⟨g, cap, cur, rfl, _⟩
      · omega
      · exact ⟨_, _, rfl⟩
    obtain ⟨A', c', rfl⟩ := hv
    exact ⟨A', c', w', hr, h2, h3, hn⟩
theorem wpList_append_r {w : World} {ops : Array Oper} {rest : List Oper} {o : Oper} {a : Act} {Q : Exit → Act → World → Prop} {sl x : Operand} {t e : TypeId} {size bytes : Nat} (T : SlT P t e size bytes)
    (hgd : o.guard = none) (ho : o.op = .call { callee := .builtin .append, args := #[sl, x], argTypes := #[t, t] })
    {base n c B : Nat} {A : Option Addr} {xs : List Value} {Ad : Option Addr} {m cx : Nat} {news : List Value} (hown : OwnR w base e size A c n xs) (hs : a.eval sl = .slice A n c) (hx : a.eval x = .slice Ad m cx)
    (hl : news.length = m * size) (hr : Rd w B Ad news) (h1 : ∀ u ∈ news, u.oneCell' = true)
    (h63 : n + m ≤ maxLen) (hbytes : (n + m) * bytes ≤ 140737488355328) (hbase : base ≤ w.heap.size)
    (h : ∀ A' c' w', OwnR w' base e size A' c' (n + m) (xs ++ news) → w.grownBy w' (Value.slice A n c).ownBlock → Next w (.slice A n c) (.slice A' (n + m) c') → wpList P ops Q rest (a.put o.dst (.slice A' (n + m) c')) w') :
    wpList P ops Q (o :: rest) a w := by
  obtain ⟨A', c', w', hrun, h2, h3, h4⟩ := run_append_r (ty := o.type) (cx := cx) T hown hl (fun j u hu => by
    obtain ⟨ad, h1, _, h3⟩ := hr j u hu
    exact ⟨ad, h1, h3⟩) h1 h63 hbytes hbase
  refine wpList_of_append (R := fun v' w1 => v' = .slice A' (n + m) c' ∧ w1 = w') hgd ho hs hx ⟨_, _, hrun, rfl, rfl⟩ ?_
  rintro v' w1 ⟨rfl, rfl⟩
  exact h _ _ _ h2 h3 h4
theorem wpList_append_r1 {w0 : World} {ys : List Value} {ops : Array Oper} {rest : List Oper} {o : Oper} {a : Act} {Q : Exit → Act → World → Prop} {s x : Operand} {t e : TypeId} {size bytes : Nat} (T : SlT P t e size bytes)
    (hgd : o.guard = none) (ho : o.op = .call { callee := .builtin .append, args := #[s, x], argTypes := #[t, t] })
    {base n c ad : Nat} {A : Option Addr} {xs : List Value} (hown : OwnR w0 base e size A c n xs) (hs : a.eval s = .slice A n c) (hx : a.eval x = .slice (some ⟨ad, 0, none⟩) 1 1) (had : ad = w0.heap.size) (hm : ys.length = size)
    (hy : ∀ u ∈ ys, u.oneCell' = true)
    (h63 : n + 1 ≤ maxLen) (hbytes : (n + 1) * bytes ≤ 140737488355328) (hbase : base ≤ w0.heap.size)
    (h : ∀ A' c' w', OwnR w' base e size A' c' (n + 1) (xs ++ ys) → w0.grownBy w' (Value.slice A n c).ownBlock → Next w0 (.slice A n c) (.slice A' (n + 1) c') → wpList P ops Q rest (a.put o.dst (.slice A' (n + 1) c')) w') :
    wpList P ops Q (o :: rest) a (w0.alloc (.cells ys.toArray e)) := by
  subst had
  obtain ⟨A', c', w', hrun, h2, h3, h4⟩ := run_append_r (ty := o.type) (cx := 1) (Ad := some ⟨w0.heap.size, 0, none⟩) T (hown.alloc (.cells ys.toArray e)) (news := ys) (m := 1) (by omega) (fun j u hu => ⟨_, rfl, by
    have hadd : (⟨w0.heap.size, 0, none⟩ : Addr).add j = ⟨w0.heap.size, j, none⟩ := by unfold Addr.add; split <;> simp_all
    rw [hadd, cell_of_row _ _ _ _ _ (0, 0) (heap_alloc_new w0 _)]
    simpa using hu⟩) hy h63 hbytes (by simp; omega)
  refine wpList_of_append (R := fun v' w1 => v' = .slice A' (n + 1) c' ∧ w1 = w') hgd ho hs hx ⟨_, _, hrun, rfl, rfl⟩ ?_
  rintro v' w1 ⟨rfl, rfl⟩
  exact h _ _ _ h2 ((World.grownBy_alloc w0 _ _).trans h3) (h4.back (by simp))
end
end Go.Proofs.YtlkikjeccamheaaDoor
/-
  Laws of my own on conversions between bytes and strings.
-/
namespace Go.Proofs.YtlkikjeccamheaaDoor
set_option linter.unusedSimpArgs false
set_option linter.unusedVariables false
open Go.RowKit
section
variable {P : Program}
theorem run_str_of {w : World} {B : Nat} {src dst e : TypeId} (hs : P.underlying src = some (.slice e)) (he : P.underlying e = some (.int .u8)) (hd : P.underlying dst = some .string)
    {A : Option Addr} {l : List UInt8} (hr : Rd w B A (bytesV l)) (c : Nat) : (convert src dst (.slice A l.length c)).run P w = .ok (.string ⟨l.toArray⟩) w := by
  cases A with
  | none =>
    have hl : l = [] := by
      cases l with
      | nil => rfl
      | cons x r =>
        obtain ⟨ad, h, _⟩ := hr 0 (byteV x) (by simp [bytesV])
        cases h
    subst hl
    rw [run_convert_bytes_nil w src e hs he _ c dst hd]
    rfl
  | some ad =>
    have hl : (loadCells ad l.length).run P w = .ok ((l.map fun b => (b.toNat : Int)).map (Value.int .u8)).toArray w := by
      have := run_loadCells_list (P := P) w ad ((l.map fun b => (b.toNat : Int)).map (Value.int .u8)) (fun j v hj => by
        obtain ⟨ad', h, _, hc⟩ := hr j v (by rw [← hj]; simp [bytesV, byteV]; rfl)
        injection h with h
        subst h
        exact hc)
      simpa using this
    rw [run_convert_bytes_string w src dst e _ l.length c hs he hd, run_bytesToString w _ l.length c (l.map fun b => (b.toNat : Int)) hl, foldl_push_bytes]
    have e1 : ((l.map fun b => (b.toNat : Int)).map fun n => UInt8.ofNat n.toNat) = l := by
      rw [List.map_map]
      conv => rhs; rw [← List.map_id l]
      exact List.map_congr_left fun b _ => by simp
    rw [e1]
    simp [ByteArray.empty, ByteArray.emptyWithCapacity]
    rfl
theorem wpList_str_of {w : World} {ops : Array Oper} {rest : List Oper} {o : Oper} {a : Act} {Q : Exit → Act → World → Prop} {B : Nat} {src dst e : TypeId} {x : Operand} {A : Option Addr} {l : List UInt8} {c : Nat}
    (hr : Rd w B A (bytesV l)) (hs : P.underlying src = some (.slice e)) (he : P.underlying e = some (.int .u8)) (hd : P.underlying dst = some .string)
    (hgd : o.guard = none) (ho : o.op = .convert src dst x) (hx : a.eval x = .slice A l.length c)
    (h : wpList P ops Q rest (a.put o.dst (.string ⟨l.toArray⟩)) w) : wpList P ops Q (o :: rest) a w := by
  refine wpList_plain hgd fun K hK => ?_
  have hrun := run_str_of (P := P) hs he hd hr c
  unfold Oper.wp execOp
  simp only [ho, hx]
  simp only [Sem.run_bind, hrun, Result.andThen_ok, Sem.run_pure]
  exact hK _ _ h
end
end Go.Proofs.YtlkikjeccamheaaDoor
/-
  strings.Trim's contract lies at this seat (printed by the kit's lay-plain over gen/trim11.py; the numbers are this seat's).
-/
namespace Go.Proofs.YtlkikjeccamheaaDoor
open Go.Shelf Go.Proofs
def trimL_ren : Go.Shelf.Ren := ⟨fun | 160 => 41 | 232 => 64 | 231 => 63 | 227 => 65 | 234 => 67 | 233 => 66 | 236 => 69 | 235 => 68 | 228 => 78 | 271 => 81 | 151 => 80 | 197 => 79 | 120 => 86 | 152 => 85 | 260 => 84 | 137 => 87 | 119 => 88 | 224 => 89 | 225 => 90 | 217 => 91 | 266 => 92 | n => n, fun | 9 => 9 | 4 => 4 | 3 => 3 | 5 => 5 | 117 => 113 | 116 => 112 | 0 => 0 | 124 => 116 | 21 => 21 | 105 => 124 | 46 => 40 | 119 => 131 | 139 => 134 | 138 => 133 | n => n, fun | 3 => 1 | 4 => 2 | n => n⟩
theorem trimL : Go.Proofs.Lays.n160 Tryd.prog trimL_ren := {
  mixed := by kernel_rfl
  f119 := Tryd.func88.trans (congrArg some (by kernel_rfl))
  f120 := Tryd.func86.trans (congrArg some (by kernel_rfl))
  f137 := Tryd.func87.trans (congrArg some (by kernel_rfl))
  f151 := Tryd.func80.trans (congrArg some (by kernel_rfl))
  f152 := Tryd.func85.trans (congrArg some (by kernel_rfl))
  f160 := Tryd.func41.trans (congrArg some (by kernel_rfl))
  f197 := Tryd.func79.trans (congrArg some (by kernel_rfl))
  f217 := Tryd.func91.trans (congrArg some (by kernel_rfl))
  f224 := Tryd.func89.trans (congrArg some (by kernel_rfl))
  f225 := Tryd.func90.trans (congrArg some (by kernel_rfl))
  f227 := Tryd.func65.trans (congrArg some (by kernel_rfl))
  f228 := Tryd.func78.trans (congrArg some (by kernel_rfl))
  f231 := Tryd.func63.trans (congrArg some (by kernel_rfl))
  f232 := Tryd.func64.trans (congrArg some (by kernel_rfl))
  f233 := Tryd.func66.trans (congrArg some (by kernel_rfl))
  f234 := Tryd.func67.trans (congrArg some (by kernel_rfl))
  f235 := Tryd.func68.trans (congrArg some (by kernel_rfl))
  f236 := Tryd.func69.trans (congrArg some (by kernel_rfl))
  f260 := Tryd.func84.trans (congrArg some (by kernel_rfl))
  f266 := Tryd.func92.trans (congrArg some (by kernel_rfl))
  f271 := Tryd.func81.trans (congrArg some (by kernel_rfl))
  t0 := Tryd.underlying0
  a0 := Tryd.isAgg0
  z0 := Tryd.sizeOf0
  v0 := Tryd.zeroValue0
  t3 := Tryd.underlying3
  a3 := Tryd.isAgg3
  z3 := Tryd.sizeOf3
  v3 := Tryd.zeroValue3
  t4 := Tryd.underlying4
  a4 := Tryd.isAgg4
  z4 := Tryd.sizeOf4
  v4 := Tryd.zeroValue4
  t5 := Tryd.underlying5
  a5 := Tryd.isAgg5
  z5 := Tryd.sizeOf5
  v5 := Tryd.zeroValue5
  t9 := Tryd.underlying9
  a9 := Tryd.isAgg9
  z9 := Tryd.sizeOf9
  v9 := Tryd.zeroValue9
  t21 := Tryd.underlying21
  a21 := Tryd.isAgg21
  z21 := Tryd.sizeOf21
  v21 := Tryd.zeroValue21
  t46 := Tryd.underlying40
  a46 := Tryd.isAgg40
  z46 := Tryd.sizeOf40
  v46 := Tryd.zeroValue40
  t105 := Tryd.underlying124
  a105 := Tryd.isAgg124
  z105 := Tryd.sizeOf124
  v105 := Tryd.zeroValue124
  t116 := Tryd.underlying112
  a116 := Tryd.isAgg112
  z116 := Tryd.sizeOf112
  t117 := Tryd.underlying113
  a117 := Tryd.isAgg113
  z117 := Tryd.sizeOf113
  v117 := Tryd.zeroValue113
  t119 := Tryd.underlying131
  a119 := Tryd.isAgg131
  z119 := Tryd.sizeOf131
  t124 := Tryd.underlying116
  a124 := Tryd.isAgg116
  z124 := Tryd.sizeOf116
  v124 := Tryd.zeroValue116
  t138 := Tryd.underlying133
  a138 := Tryd.isAgg133
  z138 := Tryd.sizeOf133
  v138 := Tryd.zeroValue133
  t139 := Tryd.underlying134
  a139 := Tryd.isAgg134
  z139 := Tryd.sizeOf134
  v139 := Tryd.zeroValue134
  g3 := by kernel_rfl
  g4 := by kernel_rfl }
end Go.Proofs.YtlkikjeccamheaaDoor
/-
  Walks: ids: which texts are domains.
-/
namespace Go.Proofs.YtlkikjeccamheaaDoor.Js
set_option linter.unusedSimpArgs false
set_option linter.unusedVariables false
open Go.RowKit
def smallZ (z : Int) : Bool := decide (97 ≤ z) && decide (z ≤ 122)
def digitZ (z : Int) : Bool := decide (48 ≤ z) && decide (z ≤ 57)
def innerZ (z : Int) : Bool := smallZ z || digitZ z || z == 46 || z == 45
theorem small_any (z : Int) (w : World) : Calls Tryd.prog 61 #[.int .u8 z] w fun e w' => e = .returned (.bool (smallZ z)) ∧ w' = w := by
  go_enter Tryd.func61, Tryd.ntmps61
  unfold smallZ
  by_cases h1 : 97 ≤ z
  · go_wp2_with fail
    go_ret
    simp [h1]
  · go_wp2_with fail
    go_ret
    refine ⟨?_, rfl⟩
    simp [h1]
    try omega
theorem digit_any (z : Int) (w : World) : Calls Tryd.prog 62 #[.int .u8 z] w fun e w' => e = .returned (.bool (digitZ z)) ∧ w' = w := by
  go_enter Tryd.func62, Tryd.ntmps62
  unfold digitZ
  by_cases h1 : 48 ≤ z
  · go_wp2_with fail
    go_ret
    simp [h1]
  · go_wp2_with fail
    go_ret
    refine ⟨?_, rfl⟩
    simp [h1]
    try omega
theorem inner_any (z : Int) (w : World) : Calls Tryd.prog 40 #[.int .u8 z] w fun e w' => e = .returned (.bool (innerZ z)) ∧ w' = w := by
  have C1 := Lib.hid (small_any z w)
  have C2 := Lib.hid (digit_any z w)
  unfold innerZ
  obtain ⟨a, ha⟩ : ∃ a, a = smallZ z := ⟨_, rfl⟩
  obtain ⟨b, hb⟩ : ∃ b, b = digitZ z := ⟨_, rfl⟩
  rw [← ha] at C1 ⊢
  rw [← hb] at C2 ⊢
  clear ha hb
  go_enter Tryd.func40, Tryd.ntmps40
  go_wp2_with fail
  refine calls_then C1.out ?_
  rintro e u1 ⟨rfl, rfl⟩
  cases a with
  | true =>
    go_wp2_with fail
    go_ret
    simp
  | false =>
    go_wp2_with fail
    refine calls_then C2.out ?_
    rintro e u2 ⟨rfl, rfl⟩
    cases b with
    | true =>
      go_wp2_with fail
      go_ret
      simp
    | false =>
      cases h1 : z == 46 with
      | true =>
        go_wp2_with fail
        go_ret
        have h2 := beq_iff_eq.1 h1
        simp [h2]
      | false =>
        go_wp2_with fail
        go_ret
        have h2 : ¬ z = 46 := fun h => by rw [h] at h1; cases h1
        simp [h2]
def innerC (c : UInt8) : Bool := innerZ ((c.toNat : Nat) : Int)
def allD (s : Bs) : Bool := s.all innerC && !s.isEmpty
theorem all_take {s : Bs} {i : Nat} (h : i < s.length) : (s.take (i + 1)).all innerC = ((s.take i).all innerC && innerC s[i]) := by
  rw [List.take_succ_eq_append_getElem h, List.all_append]
  simp
theorem all_bad {s : Bs} {i : Nat} (h : i < s.length) (hb : innerC s[i] = false) : allD s = false := by
  unfold allD
  cases hq : s.all innerC with
  | false => rfl
  | true =>
    rw [List.all_eq_true] at hq
    have := hq _ (List.getElem_mem h)
    rw [hb] at this
    cases this
set_option maxHeartbeats 2000000 in
theorem all_any (s : ByteArray) (hs : (s.size : Int) ≤ 100000000) (w : World) :
    Calls Tryd.prog 39 #[.string s, .func (.func 40) #[] #[]] w fun x w' => x = .returned (.bool (allD s.data.toList)) ∧ w' = w := by
  have eg : ∀ args w, (callFunc 40 args).run Tryd.prog w = .ok (.enter 40 args) w := enters_of Tryd.func40 (by kernel_rfl) rfl
  have C := Lib.hid inner_any
  have h5 : s.data.toList.length = s.size := rfl
  have HS := Lib.hid hs
  go_enter Tryd.func39, Tryd.ntmps39
  go_wp2_with fail
  go_loopw [8] (fun x wr => ∃ i : Nat, i ≤ s.size ∧ x = .int .i64 (i : Int) ∧ (s.data.toList.take i).all innerC = true ∧ wr = w) (fun x _ => s.size - (intOf x).toNat)
  case atStart => exact ⟨0, Nat.zero_le _, rfl, by simp, rfl⟩
  case round =>
    obtain ⟨i, hi, rfl, hok, rfl⟩ := hrel
    have HOK := Lib.hid hok
    clear hok
    by_cases hlt : i < s.size
    · have hlt' : (i : Int) < (s.size : Int) := by omega
      have HLT := Lib.hid hlt
      have HAT := Lib.hid (show s.data.toList[i]'(by rw [h5]; exact hlt) = s[i] from rfl)
      have HC := Lib.hid (C.out ((s[i].toNat : Nat) : Int))
      cases hb : innerC s[i] with
      | true =>
        have HT := Lib.hid (show (s.data.toList.take (i + 1)).all innerC = true by rw [all_take (by rw [h5]; exact hlt), HOK.out, HAT.out, hb]; rfl)
        have hb' : innerZ ((s[i].toNat : Nat) : Int) = true := hb
        rw [hb'] at HC
        clear HAT h5 hb hb' C
        go_wp2_with (go_at_call 40; refine calls_then (HC.out _) ?_; rintro e W' ⟨rfl, rfl⟩)
        go_roundw
        case rel => exact ⟨i + 1, HLT.out, by go_num, HT.out, by first | rfl | trivial⟩
        case measure => have := HLT.out; simp [intOf]; omega
      | false =>
        have HF := Lib.hid (all_bad (s := s.data.toList) (i := i) (by rw [h5]; exact hlt) (by rw [HAT.out]; exact hb))
        have hb' : innerZ ((s[i].toNat : Nat) : Int) = false := hb
        rw [hb'] at HC
        clear HAT h5 hb hb' C
        go_wp2_with (go_at_call 40; refine calls_then (HC.out _) ?_; rintro e W' ⟨rfl, rfl⟩)
        go_ret
        exact ⟨by rw [HF.out]; rfl, rfl⟩
    · have HF := Lib.hid (show s.data.toList.all innerC = true by
        have := HOK.out
        rw [List.take_of_length_le (by rw [h5]; omega)] at this
        exact this)
      clear h5
      have hlt' : ¬ (i : Int) < (s.size : Int) := by omega
      go_wp2_with fail
      go_ret
      refine ⟨?_, rfl⟩
      rw [allD, HF.out, ← Lib.toList_data]
      rfl
def trimD (s : Bs) : Bs := Lib.trimS s [46, 45]
def domB (s : Bs) : Bool := decide (s.length ≤ 16) && (allD s && decide (trimD s = s))
set_option maxHeartbeats 2000000 in
theorem domain_any (s : ByteArray) (hs : (s.size : Int) ≤ 100000000) (w : World) :
    Calls Tryd.prog 25 #[.string s] w fun x w' => x = .returned (.bool (domB s.data.toList)) ∧ Below w.heap.size w w' := by
  have C1 := Lib.hid (all_any s hs w)
  have C2 := Lib.hid (fun w => Any.strings_Trim_laid trimL (by kernel_rfl) s ⟨#[46, 45]⟩ w (by omega) (by decide) (ascii_of_all (by decide)))
  have HB := Lib.hid (Below.refl w.heap.size w)
  have h5 : s.data.toList.length = s.size := rfl
  obtain ⟨a, ha⟩ : ∃ a, a = allD s.data.toList := ⟨_, rfl⟩
  unfold domB
  rw [← ha] at C1 ⊢
  rw [h5]
  have HN := Lib.hid h5
  clear ha h5
  go_enter Tryd.func25, Tryd.ntmps25
  by_cases hl : s.size ≤ 16
  · have hl' : (s.size : Int) ≤ 16 := by omega
    go_wp2_with fail
    refine calls_then C1.out ?_
    rintro e u1 ⟨rfl, rfl⟩
    cases a with
    | false =>
      go_wp2_with fail
      go_ret
      exact ⟨by simp, HB.out⟩
    | true =>
      go_wp2_with fail
      refine calls_then (C2.out _) ?_
      rintro e u2 ⟨rfl, hb2⟩
      have HB2 := Lib.hid hb2
      clear hb2
      go_wp2_with fail
      go_ret
      refine ⟨?_, HB2.out⟩
      by_cases ht : trimD s.data.toList = s.data.toList
      · have ht2 := ht
        unfold trimD at ht2
        simp [hl, ht, ht2, Lib.toList_data]
      · have ht2 := ht
        unfold trimD at ht2
        simp [hl, ht, ht2, Lib.toList_data]
  · have hl' : ¬ (s.size : Int) ≤ 16 := by omega
    go_wp2_with fail
    go_ret
    exact ⟨by simp [hl], HB.out⟩
end Go.Proofs.YtlkikjeccamheaaDoor.Js
/-
  Walk: json's right, whole.
-/
namespace Go.Proofs.YtlkikjeccamheaaDoor.Js
set_option linter.unusedSimpArgs false
set_option linter.unusedVariables false
open Go.RowKit
structure RightQ (d : Nat) (k n : Int) (t : Bs) (ns : List Bs) (ks : List JT) (P : Bool) : Prop where
  eq : rightV d (.mk k n t ns ks) = (P && !(d == 0 && decide (4 ≤ k)) && (decide (0 ≤ k) && decide (k ≤ 5)) && (k != 5 || ns.length == ks.length) && okT t && ns.all okT
      && (k != 2 || (decide (-1000000000000000 ≤ n) && decide (n ≤ 1000000000000000))) && distinct ns && rightsV (d - 1) ks)
theorem distinct_take {l : List Bs} {i : Nat} (hi : i < l.length) (h : distinct (l.take i) = true) : (l[i] ∈ l.take i → distinct l = false) ∧ (l[i] ∉ l.take i → distinct (l.take (i + 1)) = true) := by
  constructor
  · intro hm
    cases hq : distinct l with
    | false => rfl
    | true =>
      have e : l = l.take i ++ l[i] :: l.drop (i + 1) := by
        rw [← List.drop_eq_getElem_cons hi, List.take_append_drop]
      rw [e] at hq
      exact absurd hm (distinct_not hq)
  · intro hm
    rw [List.take_succ_eq_append_getElem hi]
    exact distinct_snoc h hm
set_option maxRecDepth 100000 in
set_option maxHeartbeats 4000000 in
theorem right_step (d : Nat) (hd9 : (d : Int) ≤ 1000) (IH : ∀ d', d = d' + 1 → RVal d') : RVal d := by
  intro j v B w hs hj hB
  have hu := Tryd.underlying45
  obtain ⟨ns, ks, kv, rfl, hn, hnc, hnr, hkn, _, hkv, hkr, hkids⟩ := hj.inv
  rw [smallJ] at hs
  simp only [Bool.and_eq_true, decide_eq_true_eq] at hs
  obtain ⟨⟨hsn, hsk⟩, hsm⟩ := hs
  obtain ⟨G, hG⟩ : ∃ G, G = w.heap.size := ⟨_, rfl⟩
  obtain ⟨W0, hW0⟩ : ∃ W0, W0 = (w.alloc (.cells (jvCells v) 45)).alloc (.cells #[.int .i64 (d : Int)] 3) := ⟨_, rfl⟩
  have hb0 : Below w.heap.size w W0 := by rw [hW0]; exact ((Below.refl _ w).alloc (Nat.le_refl _) _).alloc (by simp) _
  have HB0 := Lib.hid hb0
  have hkb : Blk W0 G 45 (jvCells v) := by rw [hW0, hG]; exact (Blk.new _ _ _).alloc _
  have hkd : Blk W0 (G + 1) 3 #[.int .i64 (d : Int)] := by
    have := Blk.new (w.alloc (.cells (jvCells v) 45)) 3 #[.int .i64 (d : Int)]
    rw [hW0, hG]
    simpa using this
  have HKB := Lib.hid hkb
  have HKD := Lib.hid hkd
  have HNR := Lib.hid (show Rd W0 B v.nA (rowsV sCell ns) from (hnr.rd (fun _ _ h => h)).below (hb0.mono hB))
  have HKR := Lib.hid (show Rd W0 B v.kA (rowsV jvCells kv) from (hkr.rd (fun _ _ h => h)).below (hb0.mono hB))
  have HKI := Lib.hid (show ∀ i (h : i < ks.length) (h' : i < kv.length), JRep W0 (fun b => b < B) ks[i] kv[i] from fun i h h' => (hkids i h h').under (hb0.mono hB))
  have HBB := Lib.hid (show B ≤ W0.heap.size from Nat.le_trans hB hb0.size)
  have HW0 := Lib.hid hW0
  have HSN := Lib.hid hsn
  have HSK := Lib.hid hsk
  have HSM := Lib.hid hsm
  have HKV := Lib.hid hkv
  have HIH := Lib.hid IH
  have HD9 := Lib.hid hd9
  have HNC := Lib.hid hnc
  have HP := Lib.hid (plain_any v ns ks hn hkn W0)
  obtain ⟨vk, vn, vt, nA, nn, nc, kA, kn, kc⟩ := v
  dsimp only at *
  obtain ⟨P, hP⟩ : ∃ P, P = plainJ vk vn vt ns ks := ⟨_, rfl⟩
  rw [← hP] at HP
  have HPL := Lib.hid hP
  have HQ : RightQ d vk vn vt ns ks P := ⟨by rw [rightV, hP]⟩
  have HN := Lib.hid hn
  have HKN := Lib.hid hkn
  have HE := Lib.hid (show (ns.length == ks.length) = !((nn : Int) != (kn : Int)) by rw [hn, hkn, Bool.eq_iff_iff, beq_iff_eq]; simp; omega)
  have a0 : W0.cell? ⟨G, 0, none⟩ = some (.int .i64 vk) := hkb.cell 0
  have a1 : W0.cell? ⟨G, 1, none⟩ = some (.int .i64 vn) := hkb.cell 1
  have a2 : W0.cell? ⟨G, 2, none⟩ = some (.string (bs vt)) := hkb.cell 2
  have a3 : W0.cell? ⟨G, 3, none⟩ = some (.slice nA nn nc) := hkb.cell 3
  have a4 : W0.cell? ⟨G, 4, none⟩ = some (.slice kA kn kc) := hkb.cell 4
  have a5 : W0.cell? ⟨G + 1, 0, none⟩ = some (.int .i64 (d : Int)) := hkd.cell 0
  clear hW0 hb0 hkb hkd hnr hkr hkids hB hsn hsk hsm hkv IH hd9 hn hkn hP hnc hj
  rw [hG] at *
  clear hG
  go_enter Tryd.func27, Tryd.ntmps27
  go_upto_region 1 with (fail)
  rw [← HW0.out]
  clear HW0
  generalize Value.agg (jvCells ⟨vk, vn, vt, nA, nn, nc, kA, kn, kc⟩) = AV
  generalize Value.int IntKind.i64 (d : Int) = DV
  clear a0 a1 a2 a3 a4 a5
  go_cut [43] (fun x wx => x = .bool (!P || (decide ((d : Int) = 0) && decide (4 ≤ vk)) || decide (vk < 0) || decide (5 < vk) || (vk == 5 && ((nn : Int) != (kn : Int)))) ∧ Below W0.heap.size W0 wx)
  case first =>
    go_wp2_with (refine wpList_get_box (x := .tmp 2) HKB.out rfl rfl rfl hu rfl jT_size2 ?_)
    refine calls_then HP.out ?_
    rintro e w1 ⟨rfl, hb1⟩
    have HB1 := Lib.hid hb1
    have hkb := HKB.out.below hb1 HKB.out.lt
    have hkd := HKD.out.below hb1 HKD.out.lt
    have a0 : w1.cell? ⟨w.heap.size, 0, none⟩ = some (.int .i64 vk) := hkb.cell 0
    have a3 : w1.cell? ⟨w.heap.size, 3, none⟩ = some (.slice nA nn nc) := hkb.cell 3
    have a4 : w1.cell? ⟨w.heap.size, 4, none⟩ = some (.slice kA kn kc) := hkb.cell 4
    have a5 : w1.cell? ⟨w.heap.size + 1, 0, none⟩ = some (.int .i64 (d : Int)) := hkd.cell 0
    clear hb1 hkb hkd
    generalize Value.agg (jvCells ⟨vk, vn, vt, nA, nn, nc, kA, kn, kc⟩) = AV2
    cases P with
    | false =>
      go_wp2_with fail
      all_goals (go_meet; exact ⟨by first | rfl | (simp; done), HB1.out⟩)
    | true =>
      go_wp2_with fail
      all_goals (go_meet; exact ⟨by first | rfl | (simp; done) | (simp_all; done), HB1.out⟩)
  case rest =>
  obtain ⟨rfl, hbel⟩ := hcut
  have HBE := Lib.hid hbel
  clear hbel
  obtain ⟨X1, hX1⟩ : ∃ X1, X1 = (!P || (decide ((d : Int) = 0) && decide (4 ≤ vk)) || decide (vk < 0) || decide (5 < vk) || (vk == 5 && ((nn : Int) != (kn : Int)))) := ⟨_, rfl⟩
  rw [← hX1]
  have HQ1 := Lib.hid (show rightV d (.mk vk vn vt ns ks) = (!X1 && okT vt && ns.all okT && (vk != 2 || (decide (-1000000000000000 ≤ vn) && decide (vn ≤ 1000000000000000))) && distinct ns && rightsV (d - 1) ks) by
    have e1 : (d == 0) = decide ((d : Int) = 0) := by rw [Bool.eq_iff_iff, beq_iff_eq, decide_eq_true_iff]; omega
    have e2 : decide (0 ≤ vk) = !decide (vk < 0) := by rw [Bool.eq_iff_iff]; simp
    have e3 : decide (vk ≤ 5) = !decide (5 < vk) := by rw [Bool.eq_iff_iff]; simp
    rw [HQ.eq, HE.out, e1, e2, e3, hX1]
    unfold bne
    cases P <;> cases decide ((d : Int) = 0) <;> cases decide (4 ≤ vk) <;> cases decide (vk < 0) <;> cases decide (5 < vk) <;> cases (vk == 5) <;> simp)
  have HX1 := Lib.hid (show X1 = false → d = 0 → ks = [] from fun h1 h2 => by
    rw [hX1] at h1
    simp only [Bool.or_eq_false_iff, Bool.not_eq_false', Bool.and_eq_false_imp, decide_eq_true_eq, decide_eq_false_iff_not] at h1
    have hp := HPL.out
    rw [h1.1.1.1.1] at hp
    have h4 := h1.1.1.1.2 (by omega)
    have h5 := hp.symm
    unfold plainJ at h5
    simp only [Bool.and_eq_true, Bool.or_eq_true, List.isEmpty_iff, beq_iff_eq] at h5
    rcases h5.1.1.2 with (h | h) | h
    · exact h
    · omega
    · omega)
  clear hX1
  cases X1 with
  | true =>
    go_wp2_with fail
    go_ret
    exact ⟨by rw [HQ1.out]; simp, HB0.out.trans (HBE.out.mono HB0.out.size)⟩
  | false =>
    have HKE := Lib.hid (HX1.out rfl)
    clear HX1 HP HPL HQ
    have cells : ∀ u, Below W0.heap.size W0 u → u.cell? ⟨w.heap.size, 0, none⟩ = some (.int .i64 vk) ∧ u.cell? ⟨w.heap.size, 1, none⟩ = some (.int .i64 vn) ∧ u.cell? ⟨w.heap.size, 2, none⟩ = some (.string (bs vt)) ∧ u.cell? ⟨w.heap.size, 3, none⟩ = some (.slice nA nn nc) ∧
        u.cell? ⟨w.heap.size, 4, none⟩ = some (.slice kA kn kc) ∧ u.cell? ⟨w.heap.size + 1, 0, none⟩ = some (.int .i64 (d : Int)) := fun u hu => by
      have h := HKB.out.below hu HKB.out.lt
      have h' := HKD.out.below hu HKD.out.lt
      exact ⟨h.cell 0, h.cell 1, h.cell 2, h.cell 3, h.cell 4, h'.cell 0⟩
    have CE := Lib.hid cells
    clear cells
    go_upto_region 4 with (fail)
    go_cut [68] (fun x wx => x = .bool (!okT vt || !ns.all okT || (vk == 2 && (decide (vn < -1000000000000000) || decide (1000000000000000 < vn)))) ∧ Below W0.heap.size W0 wx)
    case first =>
      obtain ⟨a0, a1, a2, a3, _⟩ := CE.out _ HBE.out
      have eg : ∀ args w, (callFunc 44 args).run Tryd.prog w = .ok (.enter 44 args) w := enters_of Tryd.func44 (by kernel_rfl) rfl
      go_wp2_with fail
      refine calls_then (odd_any (bs vt) _) ?_
      rintro e w2 ⟨rfl, hb2⟩
      rw [show (bs vt).data.toList = vt from rfl]
      have HB2 := Lib.hid (HBE.out.trans (hb2.mono HBE.out.size))
      clear a0 a1 a2 a3 hb2
      obtain ⟨a0, a1, a2, a3, _⟩ := CE.out _ HB2.out
      cases hq1 : okT vt with
      | false =>
        go_wp2_with fail
        all_goals (go_meet; exact ⟨by first | rfl | (simp; done) | (simp [hq1]; done), HB2.out⟩)
      | true =>
        have HC := Lib.hid (cons_any ns nA nc B w2 (HNR.out.below (HB2.out.mono HBB.out)) (Nat.le_trans HBB.out HB2.out.size) (by have := HSN.out; omega))
        rw [← HN.out] at HC
        go_wp2_with fail
        refine calls_then HC.out ?_
        rintro e w3 ⟨rfl, hb3⟩
        have HB3 := Lib.hid (HB2.out.trans (hb3.mono HB2.out.size))
        clear a0 a1 a2 a3 hb3 HC
        obtain ⟨a0, a1, a2, a3, _⟩ := CE.out _ HB3.out
        cases hq2 : ns.all okT with
        | false =>
          go_wp2_with fail
          all_goals (go_meet; exact ⟨by first | rfl | (simp; done) | (simp only [hq1, hq2]; rfl), HB3.out⟩)
        | true =>
          go_wp2_with fail
          all_goals (go_meet; exact ⟨by rw [hq1, hq2]; first | rfl | (simp; done) | (simp_all; done) | grind, HB3.out⟩)
    case rest =>
    obtain ⟨rfl, hbel⟩ := hcut
    clear HBE
    have HBE := Lib.hid hbel
    clear hbel
    obtain ⟨X2, hX2⟩ : ∃ X2, X2 = (!okT vt || !ns.all okT || (vk == 2 && (decide (vn < -1000000000000000) || decide (1000000000000000 < vn)))) := ⟨_, rfl⟩
    rw [← hX2]
    have HQ2 := Lib.hid (show rightV d (.mk vk vn vt ns ks) = (!X2 && distinct ns && rightsV (d - 1) ks) by
      have e1 : decide (-1000000000000000 ≤ vn) = !decide (vn < -1000000000000000) := by rw [Bool.eq_iff_iff]; simp
      have e2 : decide (vn ≤ 1000000000000000) = !decide (1000000000000000 < vn) := by rw [Bool.eq_iff_iff]; simp
      rw [HQ1.out, hX2, e1, e2]
      unfold bne
      cases okT vt <;> cases ns.all okT <;> cases (vk == 2) <;> cases decide (vn < -1000000000000000) <;> cases decide (1000000000000000 < vn) <;> simp)
    clear hX2 HQ1
    cases X2 with
    | true =>
      go_wp2_with fail
      go_ret
      exact ⟨by rw [HQ2.out]; simp, HB0.out.trans (HBE.out.mono HB0.out.size)⟩
    | false =>
      obtain ⟨_, _, _, a3, _⟩ := CE.out _ HBE.out
      go_wp2_with fail
      clear a3
      have hsn : (nn : Int) ≤ 4096 := by have := HSN.out; have := HN.out; omega
      have hnl : nn = ns.length := by have := HN.out; omega
      have HNL := Lib.hid hnl
      clear hnl
      go_loopw [72] (fun x wr => ∃ i : Nat, i ≤ nn ∧ x = .int .i64 (i : Int) ∧ distinct (ns.take i) = true ∧ Below W0.heap.size W0 wr) (fun x _ => nn - (intOf x).toNat)
      case atStart => exact ⟨0, by omega, rfl, by simp [distinct], HBE.out⟩
      case round =>
        obtain ⟨i, hi, rfl, hok, hb⟩ := hrel
        have HB3 := Lib.hid hb
        have HOK := Lib.hid hok
        clear hb hok
        obtain ⟨_, _, _, a3, a4, _⟩ := CE.out _ HB3.out
        by_cases hlt : i < nn
        · have hil : i < ns.length := by rw [← HNL.out]; exact hlt
          have hlt' : (i : Int) < (nn : Int) := by omega
          have HLT := Lib.hid hlt
          obtain ⟨ad, hA, hadb, hcell⟩ := rd_rows (f := sCell) (m := 1) (fun _ => rfl) (by decide) (HNR.out.below (HB3.out.mono HBB.out)) hil
          subst hA
          obtain ⟨X, hX⟩ : ∃ X, X = ns[i] := ⟨_, rfl⟩
          have hdt := distinct_take hil HOK.out
          rw [← hX] at hcell hdt
          have HDT := Lib.hid hdt
          have hc0 : wr.cell? (ad.add i) = some (.string (bs X)) := by
            have h := hcell 0 _ rfl
            rw [Nat.mul_one] at h
            exact h
          have HC := Lib.hid (has_any (ns.take i) X (some ad) nc B wr (fun j u hu => (HNR.out.below (HB3.out.mono HBB.out)) j u (by
            have h1 : rowsV sCell (ns.take i) = (rowsV sCell ns).take (i * 1) := rowsV_take (f := sCell) (m := 1) (fun _ => rfl) ns i
            rw [h1, List.getElem?_take] at hu
            split at hu
            · exact hu
            · cases hu)) (by rw [List.length_take]; have := HSN.out; omega))
          have hli : (ns.take i).length = i := by rw [List.length_take]; omega
          rw [hli] at HC
          obtain ⟨b, hb⟩ : ∃ b, b = decide (X ∈ ns.take i) := ⟨_, rfl⟩
          rw [← hb] at HC
          have HBX := Lib.hid hb
          have hnc : (i : Int) ≤ (nc : Int) := by have := HNC.out; omega
          clear hX hdt hcell hadb hil hli hb
          go_wp2_with fail
          refine calls_then HC.out ?_
          rintro e w2 ⟨rfl, rfl⟩
          cases b with
          | true =>
            have HD := Lib.hid (HDT.out.1 (by have := HBX.out; exact of_decide_eq_true this.symm))
            go_wp2_with fail
            go_ret
            exact ⟨by rw [HQ2.out, HD.out]; rfl, HB0.out.trans (HB3.out.mono HB0.out.size)⟩
          | false =>
            have HD := Lib.hid (HDT.out.2 (by have := HBX.out; exact of_decide_eq_false this.symm))
            go_wp2_with fail
            go_roundw
            case rel => exact ⟨i + 1, HLT.out, by go_num, HD.out, HB3.out⟩
            case measure => have := HLT.out; simp [intOf]; omega
        · obtain rfl : i = nn := by omega
          have HD := Lib.hid (show distinct ns = true by
            have := HOK.out
            rwa [HNL.out, List.take_length] at this)
          have hmf : ∀ (fn : Fn) (first cap : Array Value) (u : World), (Instr.makeFunc fn first cap).run Tryd.prog u = .ok (.func fn first cap) u := fun _ _ _ _ => rfl
          clear a3
          go_wp2_with fail
          have HFIN := Lib.hid (show Calls Tryd.prog 49 #[.slice kA kn kc, .func (.func 50) #[] #[.pointer (some ⟨w.heap.size + 1, 0, none⟩)]] wr fun e w' => e = .returned (.bool (!rightsV (d - 1) ks)) ∧ Below W0.heap.size W0 w' by
            have hkn : kn = ks.length := by have := HKN.out; omega
            by_cases h0 : d = 0
            · have hk0 := HKE.out h0
              subst hk0
              subst hkn
              refine calls_then (conj_nil kA kc _ wr) ?_
              rintro e w5 ⟨rfl, rfl⟩
              exact ⟨by simp [rightsV], HB3.out⟩
            · obtain ⟨d', rfl⟩ : ∃ d', d = d' + 1 := ⟨d - 1, by omega⟩
              have h5 := (CE.out _ HB3.out).2.2.2.2.2
              subst hkn
              refine calls_then (conj_any d' (by have := HD9.out; omega) (HIH.out d' rfl) ks kv kA kc B _ wr HSM.out HSK.out HKV.out (HKR.out.below (HB3.out.mono HBB.out)) (fun i h h' => (HKI.out i h h').under (HB3.out.mono HBB.out)) (Nat.le_trans HBB.out HB3.out.size) (by simpa using h5)) ?_
              rintro e w5 ⟨rfl, hb5⟩
              exact ⟨rfl, HB3.out.trans (hb5.mono HB3.out.size)⟩)
          refine calls_then HFIN.out ?_
          rintro e w4 ⟨rfl, hb4⟩
          have HB4 := Lib.hid hb4
          clear hb4
          go_wp2_with fail
          go_ret
          exact ⟨by rw [HQ2.out, HD.out]; simp, HB0.out.trans (HB4.out.mono HB0.out.size)⟩
theorem right_any : ∀ d : Nat, (d : Int) ≤ 1000 → RVal d := by
  intro d
  induction d with
  | zero => exact fun h => right_step 0 h (fun d' h' => by omega)
  | succ d ih => exact fun h => right_step (d + 1) h (fun d' h' => by
      have : d' = d := by omega
      subst this
      exact ih (by omega))
end Go.Proofs.YtlkikjeccamheaaDoor.Js
/-
  Walk: json's writer: a number.
-/
namespace Go.Proofs.YtlkikjeccamheaaDoor.Js
set_option linter.unusedSimpArgs false
set_option linter.unusedVariables false
open Go.RowKit
theorem isB_kept {w w' : World} {B g p : Nat} {T : TypeId} {l : Bs} (h : IsB w B T p l) (hg : w.grownBy w' (some g)) (hlt : w.heap.size ≤ g) : IsB w' B T p l := by
  obtain ⟨h1, self, A, c, h2, h3, h4⟩ := h
  exact ⟨h1, self, A, c, h2, h3.grown hg (by intro e; injection e with e; have := h3.lt; omega), h4.kept hg (.inr (fun e => by have := (h4.lt g e).2; omega))⟩
structure DigS (N j m : Nat) (suf : Bs) : Prop where
  eq : digB 16 N = digB (16 - j) m ++ suf
  len : suf.length = j
  lt : m < 10 ^ (16 - j)
  j16 : j < 16
theorem DigS.start {N : Nat} (h : N < 10 ^ 16) : DigS N 0 N [] := ⟨by simp, rfl, h, by decide⟩
theorem DigS.last {N j m : Nat} {suf : Bs} (h : DigS N j m suf) (hm : m < 10) : digB 16 N = dg m :: suf := by
  obtain ⟨k, hk⟩ : ∃ k, 16 - j = k + 1 := ⟨15 - j, by have := h.j16; omega⟩
  have e0 : digB (k + 1) m = [dg m] := by rw [digB, if_pos hm]
  rw [h.eq, hk, e0]
  rfl
theorem DigS.next {N j m : Nat} {suf : Bs} (h : DigS N j m suf) (hm : ¬ m < 10) : DigS N (j + 1) (m / 10) (dg (m % 10) :: suf) := by
  obtain ⟨k, hk⟩ : ∃ k, 16 - j = k + 1 := ⟨15 - j, by have := h.j16; omega⟩
  have h1 := h.eq
  have h2 := h.lt
  rw [hk] at h1 h2
  rw [show digB (k + 1) m = digB k (m / 10) ++ [dg (m % 10)] by rw [digB, if_neg hm]] at h1
  rw [Nat.pow_succ] at h2
  have e : 16 - (j + 1) = k := by omega
  have h3 : m / 10 < 10 ^ k := Nat.div_lt_of_lt_mul (by omega)
  refine ⟨by rw [e, h1]; simp, by simp [h.len], by rw [e]; exact h3, ?_⟩
  rcases Nat.eq_zero_or_pos k with rfl | h4
  · simp at h3; omega
  · omega
theorem rd_tail {w : World} {g a : Nat} {t : TypeId} {cs : List Value} {l : Bs} (h : Blk w g t cs.toArray) (hd : cs.drop a = bytesV l) : Rd w (g + 1) (some ⟨g, a, none⟩) (bytesV l) := fun i u hu => by
  refine ⟨_, rfl, Nat.lt_succ_self g, ?_⟩
  rw [← hd, List.getElem?_drop] at hu
  have e : (⟨g, a, none⟩ : Addr).add i = ⟨g, a + i, none⟩ := by
    unfold Addr.add
    by_cases h2 : i = 0 <;> simp [h2]
  rw [e, h.cell]
  simpa using hu
theorem slice16 (g a : Nat) (h : a < 16) (w : World) : (Instr.sliceAt 121 (.pointer (some ⟨g, 0, none⟩)) (some (.int .i64 a)) none none).run Tryd.prog w = .ok (.slice (some ((⟨g, 0, none⟩ : Addr).add a)) (16 - a) (16 - a)) w := by
  have e1 : Tryd.prog.arrayLen 121 = 16 := by kernel_rfl
  have e2 : Tryd.prog.elem 121 = 5 := by kernel_rfl
  have hs : (Tryd.prog.info? 5).map (·.size) = some 1 := by kernel_rfl
  rw [run_sliceAt_array_l w 121 ⟨g, 0, none⟩ (by rw [e1, e2]; exact Tryd.underlying121) .i64 a (by omega) (by rw [e1]; omega), e1, e2]
  cases hq : Tryd.prog.info? 5 with
  | none => simp [hq] at hs
  | some j =>
    have hj : j.size = 1 := by simpa [hq] using hs
    have : ¬ 16 = a := by omega
    simp [sizeOf, typeInfo, hq, hj, slicedAt, this, Result.andThen]
set_option maxRecDepth 100000 in
set_option maxHeartbeats 4000000 in
theorem wnum_any (n : Int) (hn1 : -1000000000000000 ≤ n) (hn2 : n ≤ 1000000000000000) (B p : Nat) (c : Bs) (w0 w : World) (hb : WB w0 B p c w) (hl : c.length + (intB n).length ≤ 1099511627776) :
    Calls Tryd.prog 52 #[.pointer (some ⟨p, 0, none⟩), .int .i64 n] w fun e w' => e = .returned (.tuple #[]) ∧ WB w0 B p (c ++ intB n) w' := by
  obtain ⟨N, hN⟩ : ∃ N, N = n.natAbs := ⟨_, rfl⟩
  obtain ⟨c1, hc1⟩ : ∃ c1, c1 = c ++ (if n < 0 then [45] else []) := ⟨_, rfl⟩
  have hall : c ++ intB n = c1 ++ digB 16 N := by
    rw [hc1, hN, intB]
    split <;> simp
  have hdl : (digB 16 N).length ≤ 16 := (digB_ok 16 N (by omega)).2.2.1
  have hcl : c1.length + 16 ≤ 140737488355328 := by
    have : (c ++ intB n).length ≤ 1099511627776 := by simpa using hl
    rw [hc1]
    simp at this ⊢
    split <;> simp <;> omega
  rw [hall]
  have CB := Lib.hid (fun (c : Bs) (x : UInt8) (u : World) (h : IsB u B 71 p c) (h2 : c.length + 1 ≤ 140737488355328) => bld_byte jwT B p c x u h h2)
  have HB := Lib.hid hb
  have HN := Lib.hid hN
  have HCL := Lib.hid hcl
  have HDL := Lib.hid hdl
  have HC1 := Lib.hid hc1
  have HNB := Lib.hid (show N < 10 ^ 16 by omega)
  have HCC := Lib.hid (show c.length + 1 ≤ 140737488355328 by omega)
  have HR1 := Lib.hid hn1
  have HR2 := Lib.hid hn2
  unfold byteV at CB
  clear hb hN hc1 hall hdl hcl hl hn1 hn2
  go_enter Tryd.func52, Tryd.ntmps52
  go_upto_if 7 with (fail)
  go_cut [1] (fun x wr => x = .int .i64 (N : Int) ∧ WB w0 B p c1 wr)
  case first =>
    by_cases h0 : n < 0
    · have d0 : decide (n < 0) = true := by simpa using h0
      go_wp2_with fail
      refine calls_then (CB.out c 45 _ HB.out.1 HCC.out) ?_
      rintro e w1 ⟨rfl, hb1, hw1⟩
      have HB1 := Lib.hid (HB.out.next hb1 hw1)
      clear hb1 hw1
      have hr : -n < 9223372036854775808 := by have := HR1.out; omega
      go_wp2_with fail
      go_meet
      exact ⟨by rw [HN.out]; congr 1; omega, by rw [HC1.out, if_pos h0]; exact HB1.out⟩
    · have d0 : decide (n < 0) = false := by simpa using h0
      go_wp2_with fail
      go_meet
      exact ⟨by rw [HN.out]; congr 1; omega, by rw [HC1.out, if_neg (by omega), List.append_nil]; exact HB.out⟩
  case rest =>
  obtain ⟨rfl, hwx⟩ := hcut
  have HWC := Lib.hid hwx
  clear hwx
  go_wp2_with fail
  go_loopw [1, 5] (fun x a wr => ∃ (j m : Nat) (suf : Bs) (cs : List Value), DigS N j m suf ∧ x = .int .i64 (m : Int) ∧ a = .int .i64 ((16 - j : Nat) : Int) ∧ Blk wr wc.heap.size 121 cs.toArray ∧ cs.length = 16 ∧ cs.drop (16 - j) = bytesV suf ∧ wc.grownBy wr (some wc.heap.size)) (fun _ a _ => (intOf a).toNat)
  case atStart => exact ⟨0, N, [], List.replicate 16 (.int .u8 0), DigS.start HNB.out, rfl, rfl, Blk.new _ _ _, rfl, rfl, grown_alloc (World.grownBy.refl _ _) _⟩
  case round =>
    obtain ⟨j, m, suf, cs, hd, rfl, rfl, hk, hcs, hsuf, hgr⟩ := hrel
    have hj := hd.j16
    obtain ⟨a, ha⟩ : ∃ a, a = 15 - j := ⟨_, rfl⟩
    have e1 : (16 - j : Nat) = a + 1 := by omega
    rw [e1]
    have ha' : (a : Int) < 16 := by omega
    have hm0 : (0 : Int) ≤ (m : Int) := by omega
    have hr0 : (0 : Int) ≤ (m : Int) % 10 := by omega
    have hr1 : (m : Int) % 10 < 10 := by omega
    have HK := Lib.hid hk
    have HD := Lib.hid hd
    have HCS := Lib.hid hcs
    have HSUF := Lib.hid hsuf
    have HGR := Lib.hid hgr
    have HA := Lib.hid ha
    obtain ⟨q, hq⟩ : ∃ q, q = m / 10 := ⟨_, rfl⟩
    have hwq : wrap64 ((m : Int) / 10) = (q : Int) := by
      have h1 := hd.lt
      have h2 : 10 ^ (16 - j) ≤ 10 ^ 16 := Nat.pow_le_pow_right (by decide) (by omega)
      rw [show wrap64 ((m : Int) / 10) = (m : Int) / 10 by unfold wrap64; omega, hq]
      omega
    have HQ := Lib.hid hq
    obtain ⟨y, hy⟩ : ∃ y, y = dg (m % 10) := ⟨_, rfl⟩
    have HY := Lib.hid hy
    have HYV := Lib.hid (show Value.int IntKind.u8 (48 + (m : Int) % 10) = byteV y by
      have h1 : m % 10 < 10 := by omega
      have h2 := (dig_of h1).2
      have h3 : (dg (m % 10)).toNat = 48 + m % 10 := by
        unfold dg
        rw [UInt8.toNat_ofNat']
        omega
      unfold byteV
      rw [hy, h3]
      congr 1)
    have HCU := Lib.hid (show ∀ v, (cs.set a v).drop a = v :: cs.drop (a + 1) from fun v => by
      rw [List.set_eq_take_append_cons_drop, if_pos (by omega), List.drop_left' (by rw [List.length_take]; omega)])
    clear hk hd hcs hsuf hgr ha e1 hq hy
    by_cases hz : q = 0
    · have hz' : ((q : Int) == 0) = true := by simp [hz]
      have HZ := Lib.hid hz
      clear hz
      go_wp2_with (refine wpList_put_cell (x := .tmp 21) (i := a) HK.out rfl rfl rfl rfl (by kernel_rfl) (by rw [List.size_toArray, HCS.out]; omega) rfl ?_; intro w5 hb5 hw5)
      have hg5 := HGR.out.trans hw5.grown
      have hwb := HWC.out
      have HW5 := Lib.hid (show WB w0 B p c1 w5 from ⟨isB_kept hwb.1 hg5 (Nat.le_refl _), hwb.2.trans (.fresh hg5 (Nat.le_refl _) (by have := hwb.1.lt; omega))⟩)
      have HB5 := Lib.hid (show Blk w5 wc.heap.size 121 (cs.set a (byteV y)).toArray by rw [← HYV.out, ← List.setIfInBounds_toArray]; exact hb5)
      have HDR := Lib.hid (show (cs.set a (byteV y)).drop a = bytesV (y :: suf) by
        have h1 := HA.out
        have h2 := HD.out.j16
        rw [HCU.out, show a + 1 = 16 - j by omega, HSUF.out]
        rfl)
      have HEND := Lib.hid (show digB 16 N = y :: suf by
        have h1 := HQ.out
        have h2 := HZ.out
        have h3 : m < 10 := by omega
        rw [HD.out.last h3, HY.out, Nat.mod_eq_of_lt h3])
      have HLN := Lib.hid (show (y :: suf).length = 16 - a by
        have h1 := HA.out
        have h2 := HD.out.j16
        have h3 := HD.out.len
        simp
        omega)
      have HGP := Lib.hid (show wc.heap.size ≠ p by have := hwb.1.lt; omega)
      have HAL := Lib.hid (show a < 16 by omega)
      clear hb5 hw5 hg5 hwb
      have HC0 : WB w0 B p c1 w5.drew ∧ Blk w5.drew wc.heap.size 121 (cs.set a (byteV y)).toArray := ⟨HW5.out.drew, HB5.out⟩
      clear hwq hz'
      refine wp_region_det (fun u => WB w0 B p c1 u ∧ Blk u wc.heap.size 121 (cs.set a (byteV y)).toArray) (fun u => WB w0 B p (c1 ++ (y :: suf)) u) [(0, some 26), (1, some 27), (2, some 28), (3, some 29), (4, some 30), (5, some 31)] (by kernel_rfl) (by kernel_rfl) (by decide) (by kernel_rfl) (fun _ => rfl) HC0 ?_
      apply DetL.next
      · -- 0: Op.move (Operand.tmp 0)
        apply detStep_plain []
        exact fun _ => rfl
        rfl
        rintro vals - w1 hC1 E hE
        simp only [puts, act_put, act_put_none, List.setIfInBounds_toArray, List.set_cons_zero, List.set_cons_succ] at hE ⊢
        go_wp2
        exact .mk (hE _ hC1)
      apply DetL.next
      · -- 1: Op.nilCheck (Operand.tmp 26)
        apply detStep_plain [(0, some 26)]
        exact fun _ => rfl
        rfl
        rintro vals ⟨-, f0⟩ w1 hC1 E hE
        simp only [puts, act_put, act_put_none, List.setIfInBounds_toArray, List.set_cons_zero, List.set_cons_succ, f0] at hE ⊢
        clear f0
        go_wp2
        exact .mk (hE _ hC1)
      apply DetL.next
      · -- 2: Op.fieldAddr 71 (Operand.tmp 27) 0
        apply detStep_plain [(1, some 27)]
        exact fun _ => rfl
        rfl
        rintro vals ⟨⟨-, -⟩, f1⟩ w1 hC1 E hE
        simp only [puts, act_put, act_put_none, List.setIfInBounds_toArray, List.set_cons_zero, List.set_cons_succ, f1] at hE ⊢
        clear f1
        go_wp2
        exact .mk (hE _ hC1)
      apply DetL.next
      · -- 3: Op.move (Operand.tmp 5)
        apply detStep_plain []
        exact fun _ => rfl
        rfl
        rintro vals ⟨⟨⟨-, -⟩, -⟩, -⟩ w1 hC1 E hE
        simp only [puts, act_put, act_put_none, List.setIfInBounds_toArray, List.set_cons_zero, List.set_cons_succ] at hE ⊢
        go_wp2
        exact .mk (hE _ hC1)
      apply DetL.next
      · -- 4: Op.slice 121 (Operand.tmp 4) (some (Operand.tmp 29)) none none
        apply detStep_plain [(3, some 29)]
        exact fun _ => rfl
        rfl
        rintro vals ⟨⟨⟨⟨-, -⟩, -⟩, -⟩, f3⟩ w1 hC1 E hE
        simp only [puts, act_put, act_put_none, List.setIfInBounds_toArray, List.set_cons_zero, List.set_cons_succ, f3] at hE ⊢
        clear f3
        have hsl := slice16 wc.heap.size a HAL.out w1
        go_wp2
        exact .mk (hE _ hC1)
      apply DetL.last
      · -- 5: Op.call { callee := Callee.value (Operand.func 75), args := #[Operand.tmp 28, Operand.tmp 30], argTypes := #[6
        apply detStep_plain [(2, some 28), (4, some 30)]
        exact fun _ => rfl
        rfl
        rintro vals ⟨⟨⟨⟨⟨-, -⟩, -⟩, f2⟩, -⟩, f4⟩ w1 hC1 E hE
        simp only [puts, act_put, act_put_none, List.setIfInBounds_toArray, List.set_cons_zero, List.set_cons_succ, f2, f4] at hE ⊢
        clear f2 f4
        go_wp2_with fail
        refine calls_then (bld_write jwT B p (wc.heap.size + 1) (16 - a) (16 - a) _ c1 (y :: suf) _ hC1.1.1 (rd_tail hC1.2 HDR.out) (fun ad h => by injection h with h; rw [← h]; exact HGP.out) HLN.out (by have := HCL.out; omega)) ?_
        rintro e w2 ⟨rfl, hb2, hw2⟩
        go_wp2_with fail
        exact .mk (hE _ (hC1.1.next hb2 hw2))
      rintro vals ⟨⟨⟨⟨⟨⟨-, f0⟩, f1⟩, f2⟩, f3⟩, f4⟩, f5⟩ w1 hC1
      simp only [puts, act_put, act_put_none, List.setIfInBounds_toArray, List.set_cons_zero, List.set_cons_succ, f0, f1, f2, f3, f4, f5]
      clear f0 f1 f2 f3 f4 f5
      have HR := Lib.hid hC1
      clear hC1 HC0
      go_wp2_with fail
      go_end0
      exact ⟨rfl, by rw [HEND.out]; exact HR.out⟩
    · have hz' : ((q : Int) == 0) = false := by simpa using hz
      have HZ := Lib.hid hz
      clear hz
      go_wp2_with (refine wpList_put_cell (x := .tmp 21) (i := a) HK.out rfl rfl rfl rfl (by kernel_rfl) (by rw [List.size_toArray, HCS.out]; omega) rfl ?_; intro w5 hb5 hw5)
      refine ⟨⟨j + 1, q, y :: suf, cs.set a (byteV y), ?_, by rw [hwq], ?_, ?_, by rw [List.length_set]; exact HCS.out, ?_, HGR.out.trans hw5.grown⟩, by simp [intOf]⟩
      · have h1 := HQ.out
        have h2 := HZ.out
        rw [HQ.out, HY.out]
        exact HD.out.next (by omega)
      · have h1 := HA.out
        congr 2
        omega
      · rw [← HYV.out, ← List.setIfInBounds_toArray]
        exact hb5
      · have h1 := HA.out
        have h2 := HD.out.j16
        rw [show 16 - (j + 1) = a by omega, HCU.out, show a + 1 = 16 - j by omega, HSUF.out]
        rfl
end Go.Proofs.YtlkikjeccamheaaDoor.Js
/-
  Walks: json's writer: a value, a list, a map. (Printed by gen/jkids.py.)
-/
namespace Go.Proofs.YtlkikjeccamheaaDoor.Js
set_option linter.unusedSimpArgs false
set_option linter.unusedVariables false
open Go.RowKit
theorem jT_size : (Tryd.prog.info? 45).map (·.size) = some 5 := by kernel_rfl
def WVal (d : Nat) : Prop := ∀ (j : JT) (v : JV) (B p : Nat) (c : Bs) (w0 w : World), rightV d j = true → JRep w (fun b => b < B) j v → WB w0 B p c w → c.length + (writeV j).length ≤ 1099511627776 →
  Calls Tryd.prog 28 #[.pointer (some ⟨p, 0, none⟩), .agg (jvCells v)] w fun e w' => e = .returned (.tuple #[]) ∧ ∃ c', Out c (writeV j) c' ∧ WB w0 B p c' w'
def kidsB (m : Bool) (ns : List Bs) (ks : List JT) (k : Nat) : Bs := itemsV m (ns.take k) (ks.take k) true
theorem _root_.Go.Proofs.YtlkikjeccamheaaDoor.Blk.keep9 {w : World} {g : Nat} {t : TypeId} {cs : Array Value} (h : Blk w g t cs) : Blk w g t cs := h
theorem app_len (a b : Bs) : (a ++ b).length = a.length + b.length := List.length_append
structure StepK (a b : Bs) : Prop where
  eq : a = b
theorem itemsV_snoc (m : Bool) : ∀ (ks : List JT) (ns : List Bs) (k : JT) (s : Bs) (f : Bool), (m = true → ns.length = ks.length) →
    itemsV m (if m then ns ++ [s] else []) (ks ++ [k]) f = itemsV m (if m then ns else []) ks f ++ ((if (f && ks.isEmpty) then [] else [44]) ++ ((if m then quote s ++ [58] else []) ++ writeV k))
  | [], ns, k, s, f, h => by
    cases m with
    | true =>
      have : ns = [] := by simpa using h rfl
      subst this
      cases f <;> simp [itemsV]
    | false => cases f <;> simp [itemsV]
  | k1 :: ks, ns, k, s, f, h => by
    cases m with
    | true =>
      cases ns with
      | nil => simp at h
      | cons s1 ns =>
        have ih := itemsV_snoc true ks ns k s false (fun _ => by simpa using h rfl)
        simp only [if_true, Bool.false_and, Bool.false_eq_true, if_false] at ih
        cases f <;> simp [itemsV, ih]
    | false =>
      have ih := itemsV_snoc false ks [] k s false (by simp)
      simp at ih
      cases f <;> simp [itemsV, ih]
theorem itemsV_take (m : Bool) : ∀ (ks : List JT) (ns : List Bs) (f : Bool) (k : Nat), ∃ r, itemsV m ns ks f = itemsV m (ns.take k) (ks.take k) f ++ r
  | [], ns, f, k => ⟨[], by simp [itemsV]⟩
  | x :: ks, ns, f, 0 => ⟨_, by simp [itemsV]; rfl⟩
  | x :: ks, ns, f, k + 1 => by
    obtain ⟨r, hr⟩ := itemsV_take m ks ns.tail false k
    refine ⟨r, ?_⟩
    cases ns with
    | nil => simp at hr; simp [itemsV, hr]
    | cons s ns => simp at hr; simp [itemsV, hr]
theorem kidsB_len (m : Bool) (ns : List Bs) (ks : List JT) (k : Nat) : (kidsB m ns ks k).length ≤ (itemsV m ns ks true).length := by
  obtain ⟨r, hr⟩ := itemsV_take m ks ns true k
  rw [hr, kidsB]
  simp
theorem kidsB_map {ns : List Bs} {ks : List JT} {k : Nat} (h : ns.length = ks.length) (hk : k < ks.length) :
    kidsB true ns ks (k + 1) = kidsB true ns ks k ++ ((if k = 0 then [] else [44]) ++ ((quote (ns[k]'(by omega)) ++ [58]) ++ writeV ks[k])) := by
  have e := itemsV_snoc true (ks.take k) (ns.take k) ks[k] (ns[k]'(by omega)) true (fun _ => by simp [h])
  simp only [if_true, Bool.true_and] at e
  rw [kidsB, List.take_succ_eq_append_getElem hk, List.take_succ_eq_append_getElem (by omega), e]
  cases k with
  | zero => simp [kidsB]
  | succ k =>
    have : (ks.take (k + 1)).isEmpty = false := by
      cases ks with
      | nil => simp at hk
      | cons a r => rfl
    rw [this]
    simp [kidsB]
theorem kidsB_list {ks : List JT} {k : Nat} (hk : k < ks.length) : kidsB false [] ks (k + 1) = kidsB false [] ks k ++ ((if k = 0 then [] else [44]) ++ writeV ks[k]) := by
  have e := itemsV_snoc false (ks.take k) [] ks[k] [] true (fun h => by cases h)
  simp only [Bool.false_eq_true, if_false, Bool.true_and, List.nil_append] at e
  rw [kidsB, List.take_succ_eq_append_getElem hk, List.take_nil, e]
  cases k with
  | zero => simp [kidsB]
  | succ k =>
    have : (ks.take (k + 1)).isEmpty = false := by
      cases ks with
      | nil => simp at hk
      | cons a r => rfl
    rw [this]
    simp [kidsB]
theorem itemsV_len (m : Bool) : ∀ (ks : List JT) (ns : List Bs) (f : Bool), ks.length ≤ (itemsV m ns ks f).length + 1
  | [], _, _ => by simp [itemsV]
  | [k], _, _ => by simp
  | k :: k2 :: r, ns, f => by
    have := itemsV_len2 m (k2 :: r) ns.tail
    rw [itemsV]
    simp only [List.length_append, List.length_cons] at this ⊢
    omega
where
  itemsV_len2 (m : Bool) : ∀ (ks : List JT) (ns : List Bs), ks.length ≤ (itemsV m ns ks false).length
  | [], _ => by simp [itemsV]
  | k :: r, ns => by
    have := itemsV_len2 m r ns.tail
    rw [itemsV]
    simp only [Bool.false_eq_true, if_false, List.length_append, List.length_cons, List.length_nil]
    omega
set_option maxRecDepth 100000 in
set_option maxHeartbeats 4000000 in
theorem wmap_any (d : Nat) (IH : WVal d) (v : JV) (hvk : v.k = 5) (ns : List Bs) (ks : List JT) (kv : List JV) (B p : Nat) (c : Bs) (w0 w : World)
    (hnr : RdS w (fun b => b < B) v.nA (rowsV sCell ns)) (hn : v.nn = ns.length) (hkn : v.kn = ks.length) (hkv : kv.length = ks.length) (hkr : RdS w (fun b => b < B) v.kA (rowsV jvCells kv))
    (hkids : ∀ i (h : i < ks.length) (h' : i < kv.length), JRep w (fun b => b < B) ks[i] kv[i]) (hright : ∀ x ∈ ks, rightV d x = true) (hlen : ns.length = ks.length)
    (hb : WB w0 B p c w) (hl : c.length + ((123 :: (itemsV true ns ks true ++ [125])) : Bs).length ≤ 1099511627776) :
    Calls Tryd.prog 54 #[.pointer (some ⟨p, 0, none⟩), .agg (jvCells v)] w fun e w' => e = .returned (.tuple #[]) ∧ ∃ c', Out c (123 :: (itemsV true ns ks true ++ [125])) c' ∧ WB w0 B p c' w' := by
  have hu := Tryd.underlying45
  obtain ⟨W0, hW0⟩ : ∃ W0, W0 = w.alloc (.cells (jvCells v) 45) := ⟨_, rfl⟩
  have hb0 : Below w.heap.size w W0 := by rw [hW0]; exact (Below.refl _ w).alloc (Nat.le_refl _) _
  obtain ⟨hBp, hpw⟩ := hb.1.lt
  obtain ⟨G, hG⟩ : ∃ G, G = w.heap.size := ⟨_, rfl⟩
  have HG := Lib.hid (show p < G by omega)
  have hG0 : W0.heap.size = G + 1 := by rw [hW0, hG]; simp
  have HKB := Lib.hid (show Blk W0 G 45 (jvCells v) by rw [hW0, hG]; exact Blk.new _ _ _)
  have HS := Lib.hid (show BK B p w0 W0 from hb.2.trans (.all hb0 (by omega)))
  have HB := Lib.hid (show WB W0 B p c W0 from ⟨hb.1.below hb0, BK.refl _ _ _⟩)
  have HKR := Lib.hid (show Rd W0 B v.kA (rowsV jvCells kv) from (hkr.rd (fun _ _ h => h)).below (hb0.mono (by omega)))
  have HNR := Lib.hid (show Rd W0 B v.nA (rowsV sCell ns) from (hnr.rd (fun _ _ h => h)).below (hb0.mono (by omega)))
  have HKD := Lib.hid (show ∀ i (h : i < ks.length) (h' : i < kv.length), JRep W0 (fun b => b < B) ks[i] kv[i] from fun i h h' => (hkids i h h').under (hb0.mono (by omega)))
  have HRI := Lib.hid hright
  have HL := Lib.hid hl
  have HLEN := Lib.hid hlen
  have HKV := Lib.hid hkv
  obtain ⟨n, hnn⟩ : ∃ n, n = ks.length := ⟨_, rfl⟩
  have HN := Lib.hid hnn
  have HBP := Lib.hid hBp
  have HNL := Lib.hid (show (v.nn : Int) = (ns.length : Int) by rw [hn])
  have HNS := Lib.hid (show (n : Int) ≤ 1099511627776 by
    have h1 := itemsV_len true ks ns true
    have h2 := hl
    simp at h2
    omega)
  have HW0 := Lib.hid hW0
  have CB := Lib.hid (fun (c : Bs) (x : UInt8) (u : World) (h : IsB u B 71 p c) (h2 : c.length + 1 ≤ 140737488355328) => bld_byte jwT B p c x u h h2)
  have CT := Lib.hid (fun (s : ByteArray) (c : Bs) (u : World) (h : IsB u B 71 p c) (h2 : c.length + (quote s.data.toList).length ≤ 1099511627776) => wtext_any s B p c u u ⟨h, BK.refl _ _ _⟩ h2)
  unfold byteV at CB
  obtain ⟨vk, vn, vt, nA, nn, nc, kA, kn, kc⟩ := v
  dsimp only at *
  subst hvk
  obtain rfl : kn = n := by rw [hkn, hnn]
  have a0 : W0.cell? ⟨G, 0, none⟩ = some (.int .i64 5) := HKB.out.cell 0
  have a4 : W0.cell? ⟨G, 4, none⟩ = some (.slice kA kn kc) := HKB.out.cell 4
  clear hb hb0 hG0 hW0 hnr hkr hkids hright hl hlen hkv hnn hn hkn hBp hpw
  rw [hG] at *
  clear hG
  go_enter Tryd.func54, Tryd.ntmps54
  go_upto_region 1 with (fail)
  rw [← HW0.out]
  go_wp2_with fail
  have HC0 := HB.out.drew
  clear a0 a4
  refine wp_region_det (fun u => WB W0 B p c u) (fun u => WB W0 B p (c ++ [123]) u) [(0, some 10), (1, some 11), (2, some 12), (3, some 13), (4, some 14), (5, some 15)] (by kernel_rfl) (by kernel_rfl) (by decide) (by kernel_rfl) (fun _ => rfl) HC0 ?_
  apply DetL.next
  · -- 0: Op.move (Operand.tmp 0)
    apply detStep_plain []
    exact fun _ => rfl
    rfl
    rintro vals - w1 hC1 E hE
    simp only [puts, act_put, act_put_none, List.setIfInBounds_toArray, List.set_cons_zero, List.set_cons_succ] at hE ⊢
    go_wp2
    exact .mk (hE _ hC1)
  apply DetL.next
  · -- 1: Op.nilCheck (Operand.tmp 10)
    apply detStep_plain [(0, some 10)]
    exact fun _ => rfl
    rfl
    rintro vals ⟨-, f0⟩ w1 hC1 E hE
    simp only [puts, act_put, act_put_none, List.setIfInBounds_toArray, List.set_cons_zero, List.set_cons_succ, f0] at hE ⊢
    clear f0
    go_wp2
    exact .mk (hE _ hC1)
  apply DetL.next
  · -- 2: Op.fieldAddr 71 (Operand.tmp 11) 0
    apply detStep_plain [(1, some 11)]
    exact fun _ => rfl
    rfl
    rintro vals ⟨⟨-, -⟩, f1⟩ w1 hC1 E hE
    simp only [puts, act_put, act_put_none, List.setIfInBounds_toArray, List.set_cons_zero, List.set_cons_succ, f1] at hE ⊢
    clear f1
    go_wp2
    exact .mk (hE _ hC1)
  apply DetL.next
  · -- 3: Op.move (Operand.tmp 4)
    apply detStep_plain []
    exact fun _ => rfl
    rfl
    rintro vals ⟨⟨⟨-, -⟩, -⟩, -⟩ w1 hC1 E hE
    simp only [puts, act_put, act_put_none, List.setIfInBounds_toArray, List.set_cons_zero, List.set_cons_succ] at hE ⊢
    go_wp2
    exact .mk (hE _ hC1)
  apply DetL.next (v := .int .u8 123)
  · -- 4: Op.index 9 (Operand.tmp 13) (Operand.const (Value.int IntKind.i64 0))
    apply detStep_plain [(3, some 13)]
    exact fun _ => rfl
    rfl
    rintro vals ⟨⟨⟨⟨-, -⟩, -⟩, -⟩, f3⟩ w1 hC1 E hE
    simp only [puts, act_put, act_put_none, List.setIfInBounds_toArray, List.set_cons_zero, List.set_cons_succ, f3] at hE ⊢
    clear f3
    go_wp2
    exact .mk (hE _ hC1)
  apply DetL.last
  · -- 5: Op.call { callee := Callee.value (Operand.func 42), args := #[Operand.tmp 12, Operand.tmp 14], argTypes := #[6
    apply detStep_plain [(2, some 12), (4, some 14)]
    exact fun _ => rfl
    rfl
    rintro vals ⟨⟨⟨⟨⟨-, -⟩, -⟩, f2⟩, -⟩, f4⟩ w1 hC1 E hE
    simp only [puts, act_put, act_put_none, List.setIfInBounds_toArray, List.set_cons_zero, List.set_cons_succ, f2, f4] at hE ⊢
    clear f2 f4
    go_wp2_with fail
    refine calls_then (CB.out c 123 _ hC1.1 (by have := HL.out; simp at this; omega)) ?_
    rintro e w2 ⟨rfl, hb2, hw2⟩
    go_wp2_with fail
    exact .mk (hE _ (hC1.next hb2 hw2))
  rintro vals ⟨⟨⟨⟨⟨⟨-, f0⟩, f1⟩, f2⟩, f3⟩, f4⟩, f5⟩ w1 hC1
  simp only [puts, act_put, act_put_none, List.setIfInBounds_toArray, List.set_cons_zero, List.set_cons_succ, f0, f1, f2, f3, f4, f5]
  clear f0 f1 f2 f3 f4 f5
  have HB1 := Lib.hid hC1
  have hkb1 := hC1.2.blk HKB.out (by have := HG.out; omega) (by decide)
  have a4 : w1.cell? ⟨w.heap.size, 4, none⟩ = some (.slice kA kn kc) := hkb1.cell 4
  clear HC0 hC1 hkb1
  go_wp2_with fail
  go_loopw [19] (fun x wr => ∃ (i : Nat) (c' : Bs), i ≤ kn ∧ x = .int .i64 (i : Int) ∧ Out (c ++ [123]) (kidsB true ns ks i) c' ∧ WB W0 B p c' wr) (fun x _ => kn - (intOf x).toNat)
  case atStart => exact ⟨0, _, by omega, rfl, by simp [kidsB, itemsV]; exact Out.refl _, HB1.out⟩
  case round =>
    obtain ⟨i, c', hi, rfl, hout, hwr⟩ := hrel
    have HO := Lib.hid hout
    have HWR := Lib.hid hwr
    clear hout hwr
    by_cases hlt : i < kn
    · have hik : i < ks.length := by rw [← HN.out]; exact hlt
      have hiv : i < kv.length := by rw [HKV.out]; exact hik
      have hlt' : (i : Int) < (kn : Int) := by omega
      have HLT := Lib.hid hlt
      obtain ⟨ad, hA, hadb, hcell⟩ := rd_rows (f := jvCells) (m := 5) (fun _ => rfl) (by decide) HKR.out hiv
      subst hA
      obtain ⟨X, hX⟩ : ∃ X, X = kv[i] := ⟨_, rfl⟩
      obtain ⟨J, hJ⟩ : ∃ J, J = ks[i] := ⟨_, rfl⟩
      have HJX := Lib.hid (show JRep W0 (fun b => b < B) J X by rw [hX, hJ]; exact HKD.out i hik hiv)
      have HJR := Lib.hid (show rightV d J = true by rw [hJ]; exact HRI.out _ (List.getElem_mem hik))
      have HST := StepK.mk (show kidsB true ns ks (i + 1) = kidsB true ns ks i ++ ((if i = 0 then [] else [44]) ++ ((quote (ns[i]'(by rw [HLEN.out]; exact hik)) ++ [58]) ++ writeV J)) by rw [hJ]; exact kidsB_map HLEN.out hik)
      have HLN := Lib.hid (show (c ++ [123]).length + (kidsB true ns ks (i + 1)).length ≤ 1099511627776 by
        have h1 := kidsB_len true ns ks (i + 1)
        have h2 := HL.out
        simp at h2 ⊢
        omega)
      rw [← hX] at hcell
      have HCE := Lib.hid (show ∀ u, Below B W0 u → ∀ j x, (jvCells X).toList[j]? = some x → u.cell? ((ad.add (i * 5)).add j) = some x from fun u hu j x hx => by
        rw [hu.cell (p := (ad.add (i * 5)).add j) (by rw [block_of_add, block_of_add]; exact hadb)]
        exact hcell j x (by simpa using hx))
      obtain ⟨ad2, hA2, hadb2, hcell2⟩ := rd_rows (f := sCell) (m := 1) (fun _ => rfl) (by decide) HNR.out (show i < ns.length by rw [HLEN.out]; exact hik)
      subst hA2
      obtain ⟨Sx, hSx⟩ : ∃ s, s = ns[i]'(by rw [HLEN.out]; exact hik) := ⟨_, rfl⟩
      rw [← hSx] at HST hcell2
      have HSC := Lib.hid (show ∀ u, Below B W0 u → u.cell? (ad2.add i) = some (.string (bs Sx)) from fun u hu => by
        rw [hu.cell (p := ad2.add i) (by rw [block_of_add]; exact hadb2)]
        have h := hcell2 0 _ rfl
        rw [Nat.mul_one] at h
        exact h)
      clear hSx hcell2
      clear hX hJ hcell hik hiv
      go_upto_if 25 with (first
        | (refine wpList_get_rd (r := (jvCells X).toList) (HCE.out _ HWR.out.2.below) rfl rfl rfl hu rfl jT_size ?_)
        | (refine wpList_put_box (x := .tmp 6) (cells := jvCells X) (Blk.new _ _ _) rfl rfl rfl rfl jT_size rfl (jvCells_one X) ?_; intro w2 hb2 hw2; have hk2 := box_low9 hw2; have HK2 := Lib.hid (Blk.keep9 hb2); have HW2 := Lib.hid (show WB W0 B p c' w2 from ⟨HWR.out.1.below hk2, HWR.out.2.trans (.all hk2 (by have := HWR.out.1.lt; omega))⟩); have HSZ := Lib.hid (show p < wr.heap.size from HWR.out.1.lt.2)))
      generalize hkb : wr.heap.size = kb at *
      go_cut [] (fun wx => ∃ c1 : Bs, Out (c ++ [123]) (kidsB true ns ks i ++ (if i = 0 then [] else [44])) c1 ∧ WB W0 B p c1 wx ∧ Blk wx kb 45 (jvCells X))
      case first =>
        go_wp2_with fail
        · have H0 := Lib.hid (show ¬ i = 0 by omega)
          refine calls_then (CB.out c' 44 _ HW2.out.1 (by have h1 := HO.out.2.1; have h2 := HLN.out; rw [HST.eq] at h2; simp at h1 h2; omega)) ?_
          rintro e w3 ⟨rfl, hb3, hw3⟩
          have HW3 := Lib.hid (HW2.out.next hb3 hw3)
          have HK3 := Lib.hid (hw3.blk HK2.out (by have := HSZ.out; omega) (by decide))
          clear hb3 hw3
          go_wp2_with fail
          go_meet
          exact ⟨_, by rw [if_neg H0.out]; exact HO.out.trans (Out.all _ _), HW3.out, HK3.out⟩
        · have H0 := Lib.hid (show i = 0 by omega)
          go_meet
          exact ⟨c', by rw [if_pos H0.out, List.append_nil]; exact HO.out, HW2.out, HK2.out⟩
      case rest =>
      obtain ⟨c1, hout1, hw3, hk3⟩ := hcut
      have HO1 := Lib.hid hout1
      have HW3 := Lib.hid hw3
      have HK3 := Lib.hid hk3
      have hkb3 := hw3.2.blk HKB.out (by have := HG.out; omega) (by decide)
      have a0 : wc.cell? ⟨w.heap.size, 0, none⟩ = some (.int .i64 5) := hkb3.cell 0
      have HT := Lib.hid (show (c ++ [123]).length + ((kidsB true ns ks i).length + (if i = 0 then [] else [44] : Bs).length) + ((quote Sx).length + 1 + (writeV J).length) ≤ 1099511627776 by
        have h2 := HLN.out
        rw [HST.eq] at h2
        simp only [List.length_append, List.length_cons, List.length_nil] at h2 ⊢
        omega)
      have HT1 := Lib.hid (show c1.length ≤ (c ++ [123]).length + ((kidsB true ns ks i).length + (if i = 0 then [] else [44] : Bs).length) by
        have h1 := HO1.out.2.1
        rw [app_len (kidsB true ns ks i)] at h1
        exact h1)
      have a3 : wc.cell? ⟨w.heap.size, 3, none⟩ = some (.slice (some ad2) nn nc) := hkb3.cell 3
      have hsc := HSC.out wc hw3.2.below
      have hnl := HNL.out
      have hin : (i : Int) < (nn : Int) := by rw [hnl, HLEN.out, ← HN.out]; exact hlt'
      clear hnl
      go_wp2_with fail
      refine calls_then (CT.out _ c1 _ HW3.out.1 (by have h1 := HT.out; have h2 := HT1.out; rw [show (bs Sx).data.toList = Sx from rfl]; omega)) ?_
      rintro e w4 ⟨rfl, hb4, hw4⟩
      have HW4 := Lib.hid (show WB W0 B p (c1 ++ quote Sx) w4 from HW3.out.next hb4 hw4)
      have HK4 := Lib.hid (hw4.blk HK3.out (by have := HSZ.out; omega) (by decide))
      clear hb4 hw4
      go_wp2_with fail
      refine calls_then (CB.out _ 58 _ HW4.out.1 (by have h1 := HT.out; have h2 := HT1.out; simp only [List.length_append] at h1 h2 ⊢; omega)) ?_
      rintro e w5 ⟨rfl, hb5, hw5⟩
      have HW5 := Lib.hid (HW4.out.next hb5 hw5)
      have HK5 := Lib.hid (hw5.blk HK4.out (by have := HSZ.out; omega) (by decide))
      clear hb5 hw5
      go_wp2_with (refine wpList_get_box (x := .tmp 6) (cs := jvCells X) HK5.out rfl rfl rfl hu rfl jT_size ?_)
      clear hout1 hw3 hk3 hkb3
      refine calls_then (IH J X B p (c1 ++ quote Sx ++ [58]) W0 _ HJR.out (HJX.out.under HW5.out.2.below) HW5.out (by have h1 := HT.out; have h2 := HT1.out; simp only [List.length_append, List.length_cons, List.length_nil] at h1 h2 ⊢; omega)) ?_
      rintro e w6 ⟨rfl, c4, ho4, hw6⟩
      have HO4 := Lib.hid ho4
      have HW6 := Lib.hid hw6
      clear ho4 hw6
      have hns := HNS.out
      have hlt9 := HLT.out
      go_wp2_with fail
      go_roundw
      case rel => exact ⟨i + 1, c4, HLT.out, by go_num, by rw [HST.eq]; have h := ((HO1.out.trans (Out.all c1 (quote Sx))).trans (Out.all _ [58])).trans HO4.out; simpa only [List.append_assoc] using h, HW6.out⟩
      case measure => have := HLT.out; simp [intOf]; omega
    · obtain rfl : i = kn := by omega
      have HCL := Lib.hid (show c'.length + 1 ≤ 140737488355328 by
        have h1 := HO.out.2.1
        have h2 := kidsB_len true ns ks i
        have h3 := HL.out
        simp at h1 h3
        omega)
      have HC0 := HWR.out.drew
      go_wp2_with fail
      refine wp_region_det (fun u => WB W0 B p c' u) (fun u => WB W0 B p (c' ++ [125]) u) [(0, some 48), (1, some 49), (2, some 50), (3, some 51), (4, some 52), (5, some 53)] (by kernel_rfl) (by kernel_rfl) (by decide) (by kernel_rfl) (fun _ => rfl) HC0 ?_
      apply DetL.next
      · -- 0: Op.move (Operand.tmp 0)
        apply detStep_plain []
        exact fun _ => rfl
        rfl
        rintro vals - w1 hC1 E hE
        simp only [puts, act_put, act_put_none, List.setIfInBounds_toArray, List.set_cons_zero, List.set_cons_succ] at hE ⊢
        go_wp2
        exact .mk (hE _ hC1)
      apply DetL.next
      · -- 1: Op.nilCheck (Operand.tmp 48)
        apply detStep_plain [(0, some 48)]
        exact fun _ => rfl
        rfl
        rintro vals ⟨-, f0⟩ w1 hC1 E hE
        simp only [puts, act_put, act_put_none, List.setIfInBounds_toArray, List.set_cons_zero, List.set_cons_succ, f0] at hE ⊢
        clear f0
        go_wp2
        exact .mk (hE _ hC1)
      apply DetL.next
      · -- 2: Op.fieldAddr 71 (Operand.tmp 49) 0
        apply detStep_plain [(1, some 49)]
        exact fun _ => rfl
        rfl
        rintro vals ⟨⟨-, -⟩, f1⟩ w1 hC1 E hE
        simp only [puts, act_put, act_put_none, List.setIfInBounds_toArray, List.set_cons_zero, List.set_cons_succ, f1] at hE ⊢
        clear f1
        go_wp2
        exact .mk (hE _ hC1)
      apply DetL.next
      · -- 3: Op.move (Operand.tmp 4)
        apply detStep_plain []
        exact fun _ => rfl
        rfl
        rintro vals ⟨⟨⟨-, -⟩, -⟩, -⟩ w1 hC1 E hE
        simp only [puts, act_put, act_put_none, List.setIfInBounds_toArray, List.set_cons_zero, List.set_cons_succ] at hE ⊢
        go_wp2
        exact .mk (hE _ hC1)
      apply DetL.next (v := .int .u8 125)
      · -- 4: Op.index 9 (Operand.tmp 51) (Operand.const (Value.int IntKind.i64 1))
        apply detStep_plain [(3, some 51)]
        exact fun _ => rfl
        rfl
        rintro vals ⟨⟨⟨⟨-, -⟩, -⟩, -⟩, f3⟩ w1 hC1 E hE
        simp only [puts, act_put, act_put_none, List.setIfInBounds_toArray, List.set_cons_zero, List.set_cons_succ, f3] at hE ⊢
        clear f3
        go_wp2
        exact .mk (hE _ hC1)
      apply DetL.last
      · -- 5: Op.call { callee := Callee.value (Operand.func 42), args := #[Operand.tmp 50, Operand.tmp 52], argTypes := #[6
        apply detStep_plain [(2, some 50), (4, some 52)]
        exact fun _ => rfl
        rfl
        rintro vals ⟨⟨⟨⟨⟨-, -⟩, -⟩, f2⟩, -⟩, f4⟩ w1 hC1 E hE
        simp only [puts, act_put, act_put_none, List.setIfInBounds_toArray, List.set_cons_zero, List.set_cons_succ, f2, f4] at hE ⊢
        clear f2 f4
        go_wp2_with fail
        refine calls_then (CB.out c' 125 _ hC1.1 HCL.out) ?_
        rintro e w2 ⟨rfl, hb2, hw2⟩
        go_wp2_with fail
        exact .mk (hE _ (hC1.next hb2 hw2))
      rintro vals ⟨⟨⟨⟨⟨⟨-, f0⟩, f1⟩, f2⟩, f3⟩, f4⟩, f5⟩ w1 hC1
      simp only [puts, act_put, act_put_none, List.setIfInBounds_toArray, List.set_cons_zero, List.set_cons_succ, f0, f1, f2, f3, f4, f5]
      clear f0 f1 f2 f3 f4 f5
      have HR := Lib.hid hC1
      clear hC1 HC0
      go_wp2_with fail
      go_end0
      refine ⟨rfl, _, ?_, ⟨HR.out.1, HS.out.trans HR.out.2⟩⟩
      have hall : kidsB true ns ks i = itemsV true ns ks true := by
        rw [kidsB, HN.out, List.take_length]
        rw [← HLEN.out, List.take_length]
      have h := ((Out.all c [123]).trans HO.out).trans (Out.all c' [125])
      rw [hall] at h
      simpa only [List.append_assoc, List.cons_append, List.nil_append] using h
set_option maxRecDepth 100000 in
set_option maxHeartbeats 4000000 in
theorem wlist_any (d : Nat) (IH : WVal d) (v : JV) (hvk : v.k = 4) (ns : List Bs) (ks : List JT) (kv : List JV) (B p : Nat) (c : Bs) (w0 w : World)
    (hnr : RdS w (fun b => b < B) v.nA (rowsV sCell ns)) (hn : v.nn = ns.length) (hkn : v.kn = ks.length) (hkv : kv.length = ks.length) (hkr : RdS w (fun b => b < B) v.kA (rowsV jvCells kv))
    (hkids : ∀ i (h : i < ks.length) (h' : i < kv.length), JRep w (fun b => b < B) ks[i] kv[i]) (hright : ∀ x ∈ ks, rightV d x = true) (hlen : ns = [])
    (hb : WB w0 B p c w) (hl : c.length + ((91 :: (itemsV false ns ks true ++ [93])) : Bs).length ≤ 1099511627776) :
    Calls Tryd.prog 54 #[.pointer (some ⟨p, 0, none⟩), .agg (jvCells v)] w fun e w' => e = .returned (.tuple #[]) ∧ ∃ c', Out c (91 :: (itemsV false ns ks true ++ [93])) c' ∧ WB w0 B p c' w' := by
  have hu := Tryd.underlying45
  obtain ⟨W0, hW0⟩ : ∃ W0, W0 = w.alloc (.cells (jvCells v) 45) := ⟨_, rfl⟩
  have hb0 : Below w.heap.size w W0 := by rw [hW0]; exact (Below.refl _ w).alloc (Nat.le_refl _) _
  obtain ⟨hBp, hpw⟩ := hb.1.lt
  obtain ⟨G, hG⟩ : ∃ G, G = w.heap.size := ⟨_, rfl⟩
  have HG := Lib.hid (show p < G by omega)
  have hG0 : W0.heap.size = G + 1 := by rw [hW0, hG]; simp
  have HKB := Lib.hid (show Blk W0 G 45 (jvCells v) by rw [hW0, hG]; exact Blk.new _ _ _)
  have HS := Lib.hid (show BK B p w0 W0 from hb.2.trans (.all hb0 (by omega)))
  have HB := Lib.hid (show WB W0 B p c W0 from ⟨hb.1.below hb0, BK.refl _ _ _⟩)
  have HKR := Lib.hid (show Rd W0 B v.kA (rowsV jvCells kv) from (hkr.rd (fun _ _ h => h)).below (hb0.mono (by omega)))
  have HNR := Lib.hid (show Rd W0 B v.nA (rowsV sCell ns) from (hnr.rd (fun _ _ h => h)).below (hb0.mono (by omega)))
  have HKD := Lib.hid (show ∀ i (h : i < ks.length) (h' : i < kv.length), JRep W0 (fun b => b < B) ks[i] kv[i] from fun i h h' => (hkids i h h').under (hb0.mono (by omega)))
  have HRI := Lib.hid hright
  have HL := Lib.hid hl
  have HLEN := Lib.hid hlen
  have HKV := Lib.hid hkv
  obtain ⟨n, hnn⟩ : ∃ n, n = ks.length := ⟨_, rfl⟩
  have HN := Lib.hid hnn
  have HBP := Lib.hid hBp
  have HNL := Lib.hid (show (v.nn : Int) = (ns.length : Int) by rw [hn])
  have HNS := Lib.hid (show (n : Int) ≤ 1099511627776 by
    have h1 := itemsV_len false ks ns true
    have h2 := hl
    simp at h2
    omega)
  have HW0 := Lib.hid hW0
  have CB := Lib.hid (fun (c : Bs) (x : UInt8) (u : World) (h : IsB u B 71 p c) (h2 : c.length + 1 ≤ 140737488355328) => bld_byte jwT B p c x u h h2)
  have CT := Lib.hid (fun (s : ByteArray) (c : Bs) (u : World) (h : IsB u B 71 p c) (h2 : c.length + (quote s.data.toList).length ≤ 1099511627776) => wtext_any s B p c u u ⟨h, BK.refl _ _ _⟩ h2)
  unfold byteV at CB
  obtain ⟨vk, vn, vt, nA, nn, nc, kA, kn, kc⟩ := v
  dsimp only at *
  subst hvk
  obtain rfl : kn = n := by rw [hkn, hnn]
  have a0 : W0.cell? ⟨G, 0, none⟩ = some (.int .i64 4) := HKB.out.cell 0
  have a4 : W0.cell? ⟨G, 4, none⟩ = some (.slice kA kn kc) := HKB.out.cell 4
  clear hb hb0 hG0 hW0 hnr hkr hkids hright hl hlen hkv hnn hn hkn hBp hpw
  rw [hG] at *
  clear hG
  go_enter Tryd.func54, Tryd.ntmps54
  go_upto_region 1 with (fail)
  rw [← HW0.out]
  go_wp2_with fail
  have HC0 := HB.out.drew
  clear a0 a4
  refine wp_region_det (fun u => WB W0 B p c u) (fun u => WB W0 B p (c ++ [91]) u) [(0, some 10), (1, some 11), (2, some 12), (3, some 13), (4, some 14), (5, some 15)] (by kernel_rfl) (by kernel_rfl) (by decide) (by kernel_rfl) (fun _ => rfl) HC0 ?_
  apply DetL.next
  · -- 0: Op.move (Operand.tmp 0)
    apply detStep_plain []
    exact fun _ => rfl
    rfl
    rintro vals - w1 hC1 E hE
    simp only [puts, act_put, act_put_none, List.setIfInBounds_toArray, List.set_cons_zero, List.set_cons_succ] at hE ⊢
    go_wp2
    exact .mk (hE _ hC1)
  apply DetL.next
  · -- 1: Op.nilCheck (Operand.tmp 10)
    apply detStep_plain [(0, some 10)]
    exact fun _ => rfl
    rfl
    rintro vals ⟨-, f0⟩ w1 hC1 E hE
    simp only [puts, act_put, act_put_none, List.setIfInBounds_toArray, List.set_cons_zero, List.set_cons_succ, f0] at hE ⊢
    clear f0
    go_wp2
    exact .mk (hE _ hC1)
  apply DetL.next
  · -- 2: Op.fieldAddr 71 (Operand.tmp 11) 0
    apply detStep_plain [(1, some 11)]
    exact fun _ => rfl
    rfl
    rintro vals ⟨⟨-, -⟩, f1⟩ w1 hC1 E hE
    simp only [puts, act_put, act_put_none, List.setIfInBounds_toArray, List.set_cons_zero, List.set_cons_succ, f1] at hE ⊢
    clear f1
    go_wp2
    exact .mk (hE _ hC1)
  apply DetL.next
  · -- 3: Op.move (Operand.tmp 4)
    apply detStep_plain []
    exact fun _ => rfl
    rfl
    rintro vals ⟨⟨⟨-, -⟩, -⟩, -⟩ w1 hC1 E hE
    simp only [puts, act_put, act_put_none, List.setIfInBounds_toArray, List.set_cons_zero, List.set_cons_succ] at hE ⊢
    go_wp2
    exact .mk (hE _ hC1)
  apply DetL.next (v := .int .u8 91)
  · -- 4: Op.index 9 (Operand.tmp 13) (Operand.const (Value.int IntKind.i64 0))
    apply detStep_plain [(3, some 13)]
    exact fun _ => rfl
    rfl
    rintro vals ⟨⟨⟨⟨-, -⟩, -⟩, -⟩, f3⟩ w1 hC1 E hE
    simp only [puts, act_put, act_put_none, List.setIfInBounds_toArray, List.set_cons_zero, List.set_cons_succ, f3] at hE ⊢
    clear f3
    go_wp2
    exact .mk (hE _ hC1)
  apply DetL.last
  · -- 5: Op.call { callee := Callee.value (Operand.func 42), args := #[Operand.tmp 12, Operand.tmp 14], argTypes := #[6
    apply detStep_plain [(2, some 12), (4, some 14)]
    exact fun _ => rfl
    rfl
    rintro vals ⟨⟨⟨⟨⟨-, -⟩, -⟩, f2⟩, -⟩, f4⟩ w1 hC1 E hE
    simp only [puts, act_put, act_put_none, List.setIfInBounds_toArray, List.set_cons_zero, List.set_cons_succ, f2, f4] at hE ⊢
    clear f2 f4
    go_wp2_with fail
    refine calls_then (CB.out c 91 _ hC1.1 (by have := HL.out; simp at this; omega)) ?_
    rintro e w2 ⟨rfl, hb2, hw2⟩
    go_wp2_with fail
    exact .mk (hE _ (hC1.next hb2 hw2))
  rintro vals ⟨⟨⟨⟨⟨⟨-, f0⟩, f1⟩, f2⟩, f3⟩, f4⟩, f5⟩ w1 hC1
  simp only [puts, act_put, act_put_none, List.setIfInBounds_toArray, List.set_cons_zero, List.set_cons_succ, f0, f1, f2, f3, f4, f5]
  clear f0 f1 f2 f3 f4 f5
  have HB1 := Lib.hid hC1
  have hkb1 := hC1.2.blk HKB.out (by have := HG.out; omega) (by decide)
  have a4 : w1.cell? ⟨w.heap.size, 4, none⟩ = some (.slice kA kn kc) := hkb1.cell 4
  clear HC0 hC1 hkb1
  go_wp2_with fail
  go_loopw [19] (fun x wr => ∃ (i : Nat) (c' : Bs), i ≤ kn ∧ x = .int .i64 (i : Int) ∧ Out (c ++ [91]) (kidsB false ns ks i) c' ∧ WB W0 B p c' wr) (fun x _ => kn - (intOf x).toNat)
  case atStart => exact ⟨0, _, by omega, rfl, by simp [kidsB, itemsV]; exact Out.refl _, HB1.out⟩
  case round =>
    obtain ⟨i, c', hi, rfl, hout, hwr⟩ := hrel
    have HO := Lib.hid hout
    have HWR := Lib.hid hwr
    clear hout hwr
    by_cases hlt : i < kn
    · have hik : i < ks.length := by rw [← HN.out]; exact hlt
      have hiv : i < kv.length := by rw [HKV.out]; exact hik
      have hlt' : (i : Int) < (kn : Int) := by omega
      have HLT := Lib.hid hlt
      obtain ⟨ad, hA, hadb, hcell⟩ := rd_rows (f := jvCells) (m := 5) (fun _ => rfl) (by decide) HKR.out hiv
      subst hA
      obtain ⟨X, hX⟩ : ∃ X, X = kv[i] := ⟨_, rfl⟩
      obtain ⟨J, hJ⟩ : ∃ J, J = ks[i] := ⟨_, rfl⟩
      have HJX := Lib.hid (show JRep W0 (fun b => b < B) J X by rw [hX, hJ]; exact HKD.out i hik hiv)
      have HJR := Lib.hid (show rightV d J = true by rw [hJ]; exact HRI.out _ (List.getElem_mem hik))
      have HST := StepK.mk (show kidsB false ns ks (i + 1) = kidsB false ns ks i ++ ((if i = 0 then [] else [44]) ++ writeV J) by rw [hJ, HLEN.out]; exact kidsB_list hik)
      have HLN := Lib.hid (show (c ++ [91]).length + (kidsB false ns ks (i + 1)).length ≤ 1099511627776 by
        have h1 := kidsB_len false ns ks (i + 1)
        have h2 := HL.out
        simp at h2 ⊢
        omega)
      rw [← hX] at hcell
      have HCE := Lib.hid (show ∀ u, Below B W0 u → ∀ j x, (jvCells X).toList[j]? = some x → u.cell? ((ad.add (i * 5)).add j) = some x from fun u hu j x hx => by
        rw [hu.cell (p := (ad.add (i * 5)).add j) (by rw [block_of_add, block_of_add]; exact hadb)]
        exact hcell j x (by simpa using hx))
      clear hX hJ hcell hik hiv
      go_upto_if 25 with (first
        | (refine wpList_get_rd (r := (jvCells X).toList) (HCE.out _ HWR.out.2.below) rfl rfl rfl hu rfl jT_size ?_)
        | (refine wpList_put_box (x := .tmp 6) (cells := jvCells X) (Blk.new _ _ _) rfl rfl rfl rfl jT_size rfl (jvCells_one X) ?_; intro w2 hb2 hw2; have hk2 := box_low9 hw2; have HK2 := Lib.hid (Blk.keep9 hb2); have HW2 := Lib.hid (show WB W0 B p c' w2 from ⟨HWR.out.1.below hk2, HWR.out.2.trans (.all hk2 (by have := HWR.out.1.lt; omega))⟩); have HSZ := Lib.hid (show p < wr.heap.size from HWR.out.1.lt.2)))
      generalize hkb : wr.heap.size = kb at *
      go_cut [] (fun wx => ∃ c1 : Bs, Out (c ++ [91]) (kidsB false ns ks i ++ (if i = 0 then [] else [44])) c1 ∧ WB W0 B p c1 wx ∧ Blk wx kb 45 (jvCells X))
      case first =>
        go_wp2_with fail
        · have H0 := Lib.hid (show ¬ i = 0 by omega)
          refine calls_then (CB.out c' 44 _ HW2.out.1 (by have h1 := HO.out.2.1; have h2 := HLN.out; rw [HST.eq] at h2; simp at h1 h2; omega)) ?_
          rintro e w3 ⟨rfl, hb3, hw3⟩
          have HW3 := Lib.hid (HW2.out.next hb3 hw3)
          have HK3 := Lib.hid (hw3.blk HK2.out (by have := HSZ.out; omega) (by decide))
          clear hb3 hw3
          go_wp2_with fail
          go_meet
          exact ⟨_, by rw [if_neg H0.out]; exact HO.out.trans (Out.all _ _), HW3.out, HK3.out⟩
        · have H0 := Lib.hid (show i = 0 by omega)
          go_meet
          exact ⟨c', by rw [if_pos H0.out, List.append_nil]; exact HO.out, HW2.out, HK2.out⟩
      case rest =>
      obtain ⟨c1, hout1, hw3, hk3⟩ := hcut
      have HO1 := Lib.hid hout1
      have HW3 := Lib.hid hw3
      have HK3 := Lib.hid hk3
      have hkb3 := hw3.2.blk HKB.out (by have := HG.out; omega) (by decide)
      have a0 : wc.cell? ⟨w.heap.size, 0, none⟩ = some (.int .i64 4) := hkb3.cell 0
      have HT := Lib.hid (show (c ++ [91]).length + ((kidsB false ns ks i).length + (if i = 0 then [] else [44] : Bs).length) + ((writeV J).length) ≤ 1099511627776 by
        have h2 := HLN.out
        rw [HST.eq] at h2
        simp only [List.length_append, List.length_cons, List.length_nil] at h2 ⊢
        omega)
      have HT1 := Lib.hid (show c1.length ≤ (c ++ [91]).length + ((kidsB false ns ks i).length + (if i = 0 then [] else [44] : Bs).length) by
        have h1 := HO1.out.2.1
        rw [app_len (kidsB false ns ks i)] at h1
        exact h1)
      go_wp2_with (refine wpList_get_box (x := .tmp 6) (cs := jvCells X) HK3.out rfl rfl rfl hu rfl jT_size ?_)
      have HW5 := Lib.hid HW3.out
      clear hout1 hw3 hk3 hkb3
      refine calls_then (IH J X B p c1 W0 _ HJR.out (HJX.out.under HW5.out.2.below) HW5.out (by have h1 := HT.out; have h2 := HT1.out; simp only [List.length_append, List.length_cons, List.length_nil] at h1 h2 ⊢; omega)) ?_
      rintro e w6 ⟨rfl, c4, ho4, hw6⟩
      have HO4 := Lib.hid ho4
      have HW6 := Lib.hid hw6
      clear ho4 hw6
      have hns := HNS.out
      have hlt9 := HLT.out
      go_wp2_with fail
      go_roundw
      case rel => exact ⟨i + 1, c4, HLT.out, by go_num, by rw [HST.eq]; have h := HO1.out.trans HO4.out; simpa only [List.append_assoc] using h, HW6.out⟩
      case measure => have := HLT.out; simp [intOf]; omega
    · obtain rfl : i = kn := by omega
      have HCL := Lib.hid (show c'.length + 1 ≤ 140737488355328 by
        have h1 := HO.out.2.1
        have h2 := kidsB_len false ns ks i
        have h3 := HL.out
        simp at h1 h3
        omega)
      have HC0 := HWR.out.drew
      go_wp2_with fail
      refine wp_region_det (fun u => WB W0 B p c' u) (fun u => WB W0 B p (c' ++ [93]) u) [(0, some 48), (1, some 49), (2, some 50), (3, some 51), (4, some 52), (5, some 53)] (by kernel_rfl) (by kernel_rfl) (by decide) (by kernel_rfl) (fun _ => rfl) HC0 ?_
      apply DetL.next
      · -- 0: Op.move (Operand.tmp 0)
        apply detStep_plain []
        exact fun _ => rfl
        rfl
        rintro vals - w1 hC1 E hE
        simp only [puts, act_put, act_put_none, List.setIfInBounds_toArray, List.set_cons_zero, List.set_cons_succ] at hE ⊢
        go_wp2
        exact .mk (hE _ hC1)
      apply DetL.next
      · -- 1: Op.nilCheck (Operand.tmp 48)
        apply detStep_plain [(0, some 48)]
        exact fun _ => rfl
        rfl
        rintro vals ⟨-, f0⟩ w1 hC1 E hE
        simp only [puts, act_put, act_put_none, List.setIfInBounds_toArray, List.set_cons_zero, List.set_cons_succ, f0] at hE ⊢
        clear f0
        go_wp2
        exact .mk (hE _ hC1)
      apply DetL.next
      · -- 2: Op.fieldAddr 71 (Operand.tmp 49) 0
        apply detStep_plain [(1, some 49)]
        exact fun _ => rfl
        rfl
        rintro vals ⟨⟨-, -⟩, f1⟩ w1 hC1 E hE
        simp only [puts, act_put, act_put_none, List.setIfInBounds_toArray, List.set_cons_zero, List.set_cons_succ, f1] at hE ⊢
        clear f1
        go_wp2
        exact .mk (hE _ hC1)
      apply DetL.next
      · -- 3: Op.move (Operand.tmp 4)
        apply detStep_plain []
        exact fun _ => rfl
        rfl
        rintro vals ⟨⟨⟨-, -⟩, -⟩, -⟩ w1 hC1 E hE
        simp only [puts, act_put, act_put_none, List.setIfInBounds_toArray, List.set_cons_zero, List.set_cons_succ] at hE ⊢
        go_wp2
        exact .mk (hE _ hC1)
      apply DetL.next (v := .int .u8 93)
      · -- 4: Op.index 9 (Operand.tmp 51) (Operand.const (Value.int IntKind.i64 1))
        apply detStep_plain [(3, some 51)]
        exact fun _ => rfl
        rfl
        rintro vals ⟨⟨⟨⟨-, -⟩, -⟩, -⟩, f3⟩ w1 hC1 E hE
        simp only [puts, act_put, act_put_none, List.setIfInBounds_toArray, List.set_cons_zero, List.set_cons_succ, f3] at hE ⊢
        clear f3
        go_wp2
        exact .mk (hE _ hC1)
      apply DetL.last
      · -- 5: Op.call { callee := Callee.value (Operand.func 42), args := #[Operand.tmp 50, Operand.tmp 52], argTypes := #[6
        apply detStep_plain [(2, some 50), (4, some 52)]
        exact fun _ => rfl
        rfl
        rintro vals ⟨⟨⟨⟨⟨-, -⟩, -⟩, f2⟩, -⟩, f4⟩ w1 hC1 E hE
        simp only [puts, act_put, act_put_none, List.setIfInBounds_toArray, List.set_cons_zero, List.set_cons_succ, f2, f4] at hE ⊢
        clear f2 f4
        go_wp2_with fail
        refine calls_then (CB.out c' 93 _ hC1.1 HCL.out) ?_
        rintro e w2 ⟨rfl, hb2, hw2⟩
        go_wp2_with fail
        exact .mk (hE _ (hC1.next hb2 hw2))
      rintro vals ⟨⟨⟨⟨⟨⟨-, f0⟩, f1⟩, f2⟩, f3⟩, f4⟩, f5⟩ w1 hC1
      simp only [puts, act_put, act_put_none, List.setIfInBounds_toArray, List.set_cons_zero, List.set_cons_succ, f0, f1, f2, f3, f4, f5]
      clear f0 f1 f2 f3 f4 f5
      have HR := Lib.hid hC1
      clear hC1 HC0
      go_wp2_with fail
      go_end0
      refine ⟨rfl, _, ?_, ⟨HR.out.1, HS.out.trans HR.out.2⟩⟩
      have hall : kidsB false ns ks i = itemsV false ns ks true := by
        rw [kidsB, HN.out, List.take_length]
        rw [HLEN.out, List.take_nil]
      have h := ((Out.all c [91]).trans HO.out).trans (Out.all c' [93])
      rw [hall] at h
      simpa only [List.append_assoc, List.cons_append, List.nil_append] using h
end Go.Proofs.YtlkikjeccamheaaDoor.Js
/-
  Walk: json's writer: a value.
-/
namespace Go.Proofs.YtlkikjeccamheaaDoor.Js
set_option linter.unusedSimpArgs false
set_option linter.unusedVariables false
open Go.RowKit
set_option maxRecDepth 100000 in
set_option maxHeartbeats 4000000 in
theorem wval_step (d : Nat) (IH : ∀ d', d' < d → WVal d') : WVal d := by
  intro j v B p c w0 w hr hj hb hl
  have hu := Tryd.underlying45
  obtain ⟨ns, ks, kv, rfl, hn, _, hnr, hkn, _, hkv, hkr, hkids⟩ := hj.inv
  obtain ⟨W0, hW0⟩ : ∃ W0, W0 = w.alloc (.cells (jvCells v) 45) := ⟨_, rfl⟩
  have hb0 : Below w.heap.size w W0 := by rw [hW0]; exact (Below.refl _ w).alloc (Nat.le_refl _) _
  obtain ⟨hBp, hpw⟩ := hb.1.lt
  obtain ⟨G, hG⟩ : ∃ G, G = w.heap.size := ⟨_, rfl⟩
  have HG := Lib.hid (show p < G by omega)
  have HKB := Lib.hid (show Blk W0 G 45 (jvCells v) by rw [hW0, hG]; exact Blk.new _ _ _)
  have HS := Lib.hid (show BK B p w0 W0 from hb.2.trans (.all hb0 (by omega)))
  have HB := Lib.hid (show WB W0 B p c W0 from ⟨hb.1.below hb0, BK.refl _ _ _⟩)
  have HW0 := Lib.hid hW0
  have CL := Lib.hid (fun (u : World) (h : IsB u B 71 p c) => bld_len B p c u h)
  have CS := Lib.hid (fun (x : ByteArray) (u : World) (h : IsB u B 71 p c) (h2 : c.length + x.size ≤ 140737488355328) => bld_str jwT B p c x u h h2)
  have HL := Lib.hid hl
  have hfin : ∀ x (w' : World), WB W0 B p x w' → WB w0 B p x w' := fun x w' h => ⟨h.1, HS.out.trans h.2⟩
  have HF := Lib.hid hfin
  rw [rightV] at hr
  simp only [plainJ, Bool.and_eq_true, Bool.or_eq_true, Bool.not_eq_true', beq_iff_eq, decide_eq_true_eq, List.isEmpty_iff, bne_iff_ne] at hr
  obtain ⟨⟨⟨⟨⟨⟨⟨⟨⟨⟨⟨hvn, hvk⟩, hvns⟩, hvt⟩, hd⟩, hk0⟩, hlen⟩, hot⟩, _⟩, hint⟩, _⟩, hks⟩ := hr
  have HI := Lib.hid hint
  clear hint
  have HKI := Lib.hid (show ∀ i (h : i < ks.length) (h' : i < kv.length), JRep W0 (fun b => b < B) ks[i] kv[i] from fun i h h' => (hkids i h h').under (hb0.mono (by omega)))
  have HNR := Lib.hid (show RdS W0 (fun b => b < B) v.nA (rowsV sCell ns) from hnr.heap fun b _ hb' => hb0.block b (by omega))
  have HKR := Lib.hid (show RdS W0 (fun b => b < B) v.kA (rowsV jvCells kv) from hkr.heap fun b _ hb' => hb0.block b (by omega))
  clear hW0 hb0 hb hl hfin hnr hkr hkids
  obtain ⟨vk, vn, vt, nA, nn, nc, kA, kn, kc⟩ := v
  dsimp only at *
  subst hn hkn
  have a0 : W0.cell? ⟨G, 0, none⟩ = some (.int .i64 vk) := HKB.out.cell 0
  have a1 : W0.cell? ⟨G, 1, none⟩ = some (.int .i64 vn) := HKB.out.cell 1
  have a2 : W0.cell? ⟨G, 2, none⟩ = some (.string (bs vt)) := HKB.out.cell 2
  rw [hG] at *
  clear hG hBp hpw
  go_enter Tryd.func28, Tryd.ntmps28
  go_upto_region 1 with (fail)
  rw [← HW0.out]
  go_wp2_with fail
  refine calls_then (CL.out _ HB.out.1) ?_
  rintro e W1 ⟨rfl, rfl⟩
  by_cases hlong : 2000 < c.length
  · have hc : (2000 : Int) < (c.length : Int) := by omega
    go_wp2_with fail
    refine bodyPost_ret (results_none rfl _ _ _) rfl ?_
    exact ⟨rfl, c, Out.stop _ hlong, HF.out _ _ HB.out⟩
  · have hc : ¬ (2000 : Int) < (c.length : Int) := by omega
    have HLG := Lib.hid hlong
    clear hlong
    have hvk4 : vk = 0 ∨ vk = 1 ∨ vk = 2 ∨ vk = 3 ∨ vk = 4 ∨ vk = 5 := by omega
    rcases hvk4 with rfl | rfl | rfl | rfl | rfl | rfl
    · go_wp2_with fail
      refine calls_then (CS.out _ _ HB.out.1 (by have := HLG.out; simp [ByteArray.size]; omega)) ?_
      rintro e w2 ⟨rfl, hb2, hw2⟩
      have HB2 := Lib.hid (HB.out.next hb2 hw2)
      clear hb2 hw2
      go_wp2_with fail
      go_end0
      exact ⟨rfl, _, Out.all _ _, HF.out _ _ HB2.out⟩
    · have hvn' : vn = 0 ∨ vn = 1 := by
        simp at hvn
        exact hvn
      clear hvn
      rcases hvn' with rfl | rfl
      · clear hvk hvns hvt hd hk0 hlen hot hks hkv
        have HGP := Lib.hid (show w.heap.size ≠ p by have := HG.out; omega)
        go_wp2_with fail
        have HC0 : BK B p W1 W1.drew := HB.out.2.drew
        have HI0 : IsB W1.drew B 71 p c := HB.out.1
        refine wp_region_list (fun u => BK B p W1 u) (fun | false => (fun u => IsB u B 71 p c) | true => (fun _ => True)) (fun | false, i => i == 8 | true, _ => false)
          [fun z _ => z 0 = .pointer (some ⟨p, 0, none⟩),
           fun z _ => z 1 = .pointer (some ⟨p, 0, none⟩),
           fun z _ => z 2 = .pointer (some ⟨p, 0, none⟩),
           fun z u => (fun v u => ∃ g, v = .slice (some ⟨g, 0, none⟩) 2 2 ∧ Blk u g 9 #[.string ⟨#[102, 97, 108, 115, 101]⟩, .string ⟨#[116, 114, 117, 101]⟩]) (z 3) u,
           fun z _ => z 4 = .pointer (some ⟨w.heap.size, 1, none⟩),
           fun z _ => z 5 = .int .i64 0,
           fun z u => (fun v u => ∃ g, v = .pointer (some ⟨g, 0, none⟩) ∧ Blk u g 9 #[.string ⟨#[102, 97, 108, 115, 101]⟩, .string ⟨#[116, 114, 117, 101]⟩]) (z 6) u,
           fun z _ => z 7 = .string ⟨#[102, 97, 108, 115, 101]⟩,
           fun z u => IsB u B 71 p (c ++ [102, 97, 108, 115, 101])]
          [Eq, Eq, Eq, fun u u' => Below u.heap.size u u', Eq, Eq, Eq, Eq, fun _ _ => True]
          (fun i k => (i == 8 && k == 3) || (i == 8 && k == 6)) [(0, some 22), (1, some 23), (2, some 24), (3, some 25), (4, some 26), (5, some 27), (6, some 28), (7, some 29), (8, some 30)] (by kernel_rfl) (by kernel_rfl) rfl (fun _ => rfl) ?_ ?_ ?_ ?_ ?_ ?_
        · exact HC0
        · intro m; cases m; exact HI0; exact trivial
        · intro m; cases m
          · exact ⟨.inr (fun _ _ h h0 => h ▸ h0), .inr (fun _ _ h h0 => h ▸ h0), .inr (fun _ _ h h0 => h ▸ h0), .inr (fun _ _ h h0 => h0.below h), .inr (fun _ _ h h0 => h ▸ h0), .inr (fun _ _ h h0 => h ▸ h0), .inr (fun _ _ h h0 => h ▸ h0), .inr (fun _ _ h h0 => h ▸ h0), .inl rfl, trivial⟩
          · exact ⟨.inr (fun _ _ h h0 => h ▸ h0), .inr (fun _ _ h h0 => h ▸ h0), .inr (fun _ _ h h0 => h ▸ h0), .inr (fun _ _ _ h => h), .inr (fun _ _ h h0 => h ▸ h0), .inr (fun _ _ h h0 => h ▸ h0), .inr (fun _ _ h h0 => h ▸ h0), .inr (fun _ _ h h0 => h ▸ h0), .inr (fun _ _ _ h => h), trivial⟩
        · exact ⟨⟨.inl rfl, .inr (.inr (.inl rfl)), .inr (.inr (.inl rfl)), .inr (.inr (.inr (fun _ _ _ _ h h0 => by cases h; exact h0))), .inr (.inr (.inr (fun _ _ _ _ _ h => h))), .inr (.inr (.inr (fun _ _ _ _ _ h => h))), .inr (.inr (.inr (fun _ _ _ _ h h0 => by cases h; exact h0))), .inr (.inr (.inr (fun _ _ _ _ _ h => h))), .inr (.inr (.inl rfl)), trivial⟩,
            ⟨.inr (.inr (.inr (fun _ _ _ _ _ h => h))), .inl rfl, .inr (.inr (.inl rfl)), .inr (.inr (.inr (fun _ _ _ _ h h0 => by cases h; exact h0))), .inr (.inr (.inr (fun _ _ _ _ _ h => h))), .inr (.inr (.inr (fun _ _ _ _ _ h => h))), .inr (.inr (.inr (fun _ _ _ _ h h0 => by cases h; exact h0))), .inr (.inr (.inr (fun _ _ _ _ _ h => h))), .inr (.inr (.inl rfl)), trivial⟩,
            ⟨.inr (.inr (.inr (fun _ _ _ _ _ h => h))), .inr (.inr (.inr (fun _ _ _ _ _ h => h))), .inl rfl, .inr (.inr (.inr (fun _ _ _ _ h h0 => by cases h; exact h0))), .inr (.inr (.inr (fun _ _ _ _ _ h => h))), .inr (.inr (.inr (fun _ _ _ _ _ h => h))), .inr (.inr (.inr (fun _ _ _ _ h h0 => by cases h; exact h0))), .inr (.inr (.inr (fun _ _ _ _ _ h => h))), .inr (.inr (.inl rfl)), trivial⟩,
            ⟨.inr (.inr (.inr (fun _ _ _ _ _ h => h))), .inr (.inr (.inr (fun _ _ _ _ _ h => h))), .inr (.inr (.inr (fun _ _ _ _ _ h => h))), .inl rfl, .inr (.inr (.inr (fun _ _ _ _ _ h => h))), .inr (.inr (.inr (fun _ _ _ _ _ h => h))), .inr (.inr (.inl rfl)), .inr (.inr (.inl rfl)), .inr (.inr (.inl rfl)), trivial⟩,
            ⟨.inr (.inr (.inr (fun _ _ _ _ _ h => h))), .inr (.inr (.inr (fun _ _ _ _ _ h => h))), .inr (.inr (.inr (fun _ _ _ _ _ h => h))), .inr (.inr (.inr (fun _ _ _ _ h h0 => by cases h; exact h0))), .inl rfl, .inr (.inr (.inl rfl)), .inr (.inr (.inl rfl)), .inr (.inr (.inl rfl)), .inr (.inr (.inr (fun _ _ _ _ h h0 => by cases h; exact h0))), trivial⟩,
            ⟨.inr (.inr (.inr (fun _ _ _ _ _ h => h))), .inr (.inr (.inr (fun _ _ _ _ _ h => h))), .inr (.inr (.inr (fun _ _ _ _ _ h => h))), .inr (.inr (.inr (fun _ _ _ _ h h0 => by cases h; exact h0))), .inr (.inr (.inr (fun _ _ _ _ _ h => h))), .inl rfl, .inr (.inr (.inl rfl)), .inr (.inr (.inl rfl)), .inr (.inr (.inl rfl)), trivial⟩,
            ⟨.inr (.inr (.inr (fun _ _ _ _ _ h => h))), .inr (.inr (.inr (fun _ _ _ _ _ h => h))), .inr (.inr (.inr (fun _ _ _ _ _ h => h))), .inr (.inr (.inr (fun _ _ _ _ h h0 => by cases h; exact h0))), .inr (.inr (.inr (fun _ _ _ _ _ h => h))), .inr (.inr (.inr (fun _ _ _ _ _ h => h))), .inl rfl, .inr (.inr (.inl rfl)), .inr (.inr (.inl rfl)), trivial⟩,
            ⟨.inr (.inr (.inr (fun _ _ _ _ _ h => h))), .inr (.inr (.inr (fun _ _ _ _ _ h => h))), .inr (.inr (.inr (fun _ _ _ _ _ h => h))), .inr (.inr (.inr (fun _ _ _ _ h h0 => by cases h; exact h0))), .inr (.inr (.inr (fun _ _ _ _ _ h => h))), .inr (.inr (.inr (fun _ _ _ _ _ h => h))), .inr (.inr (.inr (fun _ _ _ _ h h0 => by cases h; exact h0))), .inl rfl, .inr (.inr (.inl rfl)), trivial⟩,
            ⟨.inr (.inr (.inr (fun _ _ _ _ _ h => h))), .inr (.inr (.inr (fun _ _ _ _ _ h => h))), .inr (.inr (.inr (fun _ _ _ _ _ h => h))), .inr (.inl rfl), .inr (.inr (.inr (fun _ _ _ _ _ h => h))), .inr (.inr (.inr (fun _ _ _ _ _ h => h))), .inr (.inl rfl), .inr (.inr (.inr (fun _ _ _ _ _ h => h))), .inl rfl, trivial⟩, trivial⟩
        · refine ⟨?_, ?_, ?_, ?_, ?_, ?_, ?_, ?_, ?_, trivial⟩
          · -- 0: Op.move (Operand.tmp 0)
            refine step_plain [] (fun _ => rfl) rfl ?_
            intro w1 vals hC1 hi0 hf E hE
            have hI1 : (fun u => IsB u B 71 p c) w1 := hi0 false rfl
            try dsimp only at hI1
            clear hi0
            clear hf
            simp only [puts, act_put, act_put_none, List.setIfInBounds_toArray, List.set_cons_zero, List.set_cons_succ] at hE ⊢
            go_wp2
            exact .mk (hE _ _ rfl hC1 rfl)
          · -- 1: Op.nilCheck (Operand.tmp 22)
            refine step_plain [(0, some 22)] (fun _ => rfl) rfl ?_
            intro w1 vals hC1 hi0 hf E hE
            have hI1 : (fun u => IsB u B 71 p c) w1 := hi0 false rfl
            try dsimp only at hI1
            clear hi0
            have f0 : vals 0 = .pointer (some ⟨p, 0, none⟩) := hf 0 rfl
            try dsimp only at f0
            clear hf
            simp only [puts, act_put, act_put_none, List.setIfInBounds_toArray, List.set_cons_zero, List.set_cons_succ, f0] at hE ⊢
            clear f0
            go_wp2
            exact .mk (hE _ _ rfl hC1 rfl)
          · -- 2: Op.fieldAddr 71 (Operand.tmp 23) 0
            refine step_plain [(1, some 23)] (fun _ => rfl) rfl ?_
            intro w1 vals hC1 hi0 hf E hE
            have hI1 : (fun u => IsB u B 71 p c) w1 := hi0 false rfl
            try dsimp only at hI1
            clear hi0
            have f1 : vals 1 = .pointer (some ⟨p, 0, none⟩) := hf 1 rfl
            try dsimp only at f1
            clear hf
            simp only [puts, act_put, act_put_none, List.setIfInBounds_toArray, List.set_cons_zero, List.set_cons_succ, f1] at hE ⊢
            clear f1
            go_wp2
            exact .mk (hE _ _ rfl hC1 rfl)
          · -- 3: Op.buildSlice 42 2 #[(0, Operand.const (Value.string { data := #[102, 97, 108, 115, 101] })), (1, Operand.cons
            refine step_plain [] (fun _ => rfl) rfl ?_
            intro w1 vals hC1 hi0 hf E hE
            have hI1 : (fun u => IsB u B 71 p c) w1 := hi0 false rfl
            try dsimp only at hI1
            clear hi0
            clear hf
            simp only [puts, act_put, act_put_none, List.setIfInBounds_toArray, List.set_cons_zero, List.set_cons_succ] at hE ⊢
            go_wp2
            exact .mk (hE _ _ ⟨_, rfl, Blk.new _ _ _⟩ (hC1.trans (.all ((Below.refl _ _).alloc (Nat.le_refl _) _) (by have := hI1.lt; omega))) ((Below.refl _ _).alloc (Nat.le_refl _) _))
          · -- 4: Op.fieldAddr 45 (Operand.tmp 3) 1
            refine step_plain [] (fun _ => rfl) rfl ?_
            intro w1 vals hC1 hi0 hf E hE
            clear hi0
            clear hf
            simp only [puts, act_put, act_put_none, List.setIfInBounds_toArray, List.set_cons_zero, List.set_cons_succ] at hE ⊢
            go_wp2
            exact .mk (hE _ _ rfl hC1 rfl)
          · -- 5: Op.load 3 (Operand.tmp 26)
            refine step_plain [(4, some 26)] (fun _ => rfl) rfl ?_
            intro w1 vals hC1 hi0 hf E hE
            have hI1 : (fun u => IsB u B 71 p c) w1 := hi0 false rfl
            try dsimp only at hI1
            clear hi0
            have f4 : vals 4 = .pointer (some ⟨w.heap.size, 1, none⟩) := hf 4 rfl
            try dsimp only at f4
            clear hf
            have a9 : w1.cell? ⟨w.heap.size, 1, none⟩ = some (.int .i64 0) := (hC1.blk HKB.out HGP.out (by decide)).cell 1
            simp only [puts, act_put, act_put_none, List.setIfInBounds_toArray, List.set_cons_zero, List.set_cons_succ, f4] at hE ⊢
            clear f4
            go_wp2
            exact .mk (hE _ _ rfl hC1 rfl)
          · -- 6: Op.indexAddr 42 (Operand.tmp 25) (Operand.tmp 27)
            refine step_plain [(3, some 25), (5, some 27)] (fun _ => rfl) rfl ?_
            intro w1 vals hC1 hi0 hf E hE
            have hI1 : (fun u => IsB u B 71 p c) w1 := hi0 false rfl
            try dsimp only at hI1
            clear hi0
            have f3 : (fun v u => ∃ g, v = .slice (some ⟨g, 0, none⟩) 2 2 ∧ Blk u g 9 #[.string ⟨#[102, 97, 108, 115, 101]⟩, .string ⟨#[116, 114, 117, 101]⟩]) (vals 3) w1 := hf 3 rfl
            have f5 : vals 5 = .int .i64 0 := hf 5 rfl
            try dsimp only at f3 f5
            clear hf
            obtain ⟨g3, hx3, hg3⟩ := f3
            simp only [puts, act_put, act_put_none, List.setIfInBounds_toArray, List.set_cons_zero, List.set_cons_succ, f5, hx3] at hE ⊢
            clear f5
            clear hx3
            go_wp2
            exact .mk (hE _ _ ⟨g3, rfl, hg3⟩ hC1 rfl)
          · -- 7: Op.load 9 (Operand.tmp 28)
            refine step_plain [(6, some 28)] (fun _ => rfl) rfl ?_
            intro w1 vals hC1 hi0 hf E hE
            have hI1 : (fun u => IsB u B 71 p c) w1 := hi0 false rfl
            try dsimp only at hI1
            clear hi0
            have f6 : (fun v u => ∃ g, v = .pointer (some ⟨g, 0, none⟩) ∧ Blk u g 9 #[.string ⟨#[102, 97, 108, 115, 101]⟩, .string ⟨#[116, 114, 117, 101]⟩]) (vals 6) w1 := hf 6 rfl
            try dsimp only at f6
            clear hf
            obtain ⟨g6, hx6, hg6⟩ := f6
            have a9 := hg6.cell 0
            simp only [puts, act_put, act_put_none, List.setIfInBounds_toArray, List.set_cons_zero, List.set_cons_succ, hx6] at hE ⊢
            clear hx6
            go_wp2
            exact .mk (hE _ _ rfl hC1 rfl)
          · -- 8: Op.call { callee := Callee.value (Operand.func 51), args := #[Operand.tmp 24, Operand.tmp 29], argTypes := #[6
            refine step_plain [(2, some 24), (7, some 29)] (fun _ => rfl) rfl ?_
            intro w1 vals hC1 hi0 hf E hE
            have hI1 : (fun u => IsB u B 71 p c) w1 := hi0 false rfl
            try dsimp only at hI1
            clear hi0
            have f2 : vals 2 = .pointer (some ⟨p, 0, none⟩) := hf 2 rfl
            have f7 : vals 7 = .string ⟨#[102, 97, 108, 115, 101]⟩ := hf 7 rfl
            try dsimp only at f2 f7
            clear hf
            simp only [puts, act_put, act_put_none, List.setIfInBounds_toArray, List.set_cons_zero, List.set_cons_succ, f2, f7] at hE ⊢
            clear f2 f7
            go_wp2_with fail
            refine calls_then (CS.out _ _ hI1 (by have := HLG.out; simp [ByteArray.size]; omega)) ?_
            rintro e w2 ⟨rfl, hb2, hw2⟩
            go_wp2_with fail
            exact .mk (hE _ _ hb2 (hC1.trans hw2) trivial)
        intro w1 vals hC1 hf
        have f0 : vals 0 = .pointer (some ⟨p, 0, none⟩) := hf 0 (by decide) rfl
        have f1 : vals 1 = .pointer (some ⟨p, 0, none⟩) := hf 1 (by decide) rfl
        have f2 : vals 2 = .pointer (some ⟨p, 0, none⟩) := hf 2 (by decide) rfl
        have f4 : vals 4 = .pointer (some ⟨w.heap.size, 1, none⟩) := hf 4 (by decide) rfl
        have f5 : vals 5 = .int .i64 0 := hf 5 (by decide) rfl
        have f7 : vals 7 = .string ⟨#[102, 97, 108, 115, 101]⟩ := hf 7 (by decide) rfl
        have f8 : (fun z u => IsB u B 71 p (c ++ [102, 97, 108, 115, 101])) vals w1 := hf 8 (by decide) rfl
        try dsimp only at f0 f1 f2 f4 f5 f7 f8
        clear hf
        simp only [puts, act_put, act_put_none, List.setIfInBounds_toArray, List.set_cons_zero, List.set_cons_succ, f0, f1, f2, f4, f5, f7]
        clear f0 f1 f2 f4 f5 f7
        generalize vals 3 = x3 at *
        generalize vals 6 = x6 at *
        generalize vals 8 = x8 at *
        have HR := Lib.hid (show WB W1 B p (c ++ [102, 97, 108, 115, 101]) _ from ⟨f8, hC1⟩)
        clear HC0 HI0 hC1 f8
        go_wp2_with fail
        go_end0
        exact ⟨rfl, _, by rw [writeV, if_neg (by decide), if_pos rfl]; exact Out.all _ _, HF.out _ _ HR.out⟩
      · clear hvk hvns hvt hd hk0 hlen hot hks hkv
        have HGP := Lib.hid (show w.heap.size ≠ p by have := HG.out; omega)
        go_wp2_with fail
        have HC0 : BK B p W1 W1.drew := HB.out.2.drew
        have HI0 : IsB W1.drew B 71 p c := HB.out.1
        refine wp_region_list (fun u => BK B p W1 u) (fun | false => (fun u => IsB u B 71 p c) | true => (fun _ => True)) (fun | false, i => i == 8 | true, _ => false)
          [fun z _ => z 0 = .pointer (some ⟨p, 0, none⟩),
           fun z _ => z 1 = .pointer (some ⟨p, 0, none⟩),
           fun z _ => z 2 = .pointer (some ⟨p, 0, none⟩),
           fun z u => (fun v u => ∃ g, v = .slice (some ⟨g, 0, none⟩) 2 2 ∧ Blk u g 9 #[.string ⟨#[102, 97, 108, 115, 101]⟩, .string ⟨#[116, 114, 117, 101]⟩]) (z 3) u,
           fun z _ => z 4 = .pointer (some ⟨w.heap.size, 1, none⟩),
           fun z _ => z 5 = .int .i64 1,
           fun z u => (fun v u => ∃ g, v = .pointer (some ⟨g, 1, none⟩) ∧ Blk u g 9 #[.string ⟨#[102, 97, 108, 115, 101]⟩, .string ⟨#[116, 114, 117, 101]⟩]) (z 6) u,
           fun z _ => z 7 = .string ⟨#[116, 114, 117, 101]⟩,
           fun z u => IsB u B 71 p (c ++ [116, 114, 117, 101])]
          [Eq, Eq, Eq, fun u u' => Below u.heap.size u u', Eq, Eq, Eq, Eq, fun _ _ => True]
          (fun i k => (i == 8 && k == 3) || (i == 8 && k == 6)) [(0, some 22), (1, some 23), (2, some 24), (3, some 25), (4, some 26), (5, some 27), (6, some 28), (7, some 29), (8, some 30)] (by kernel_rfl) (by kernel_rfl) rfl (fun _ => rfl) ?_ ?_ ?_ ?_ ?_ ?_
        · exact HC0
        · intro m; cases m; exact HI0; exact trivial
        · intro m; cases m
          · exact ⟨.inr (fun _ _ h h0 => h ▸ h0), .inr (fun _ _ h h0 => h ▸ h0), .inr (fun _ _ h h0 => h ▸ h0), .inr (fun _ _ h h0 => h0.below h), .inr (fun _ _ h h0 => h ▸ h0), .inr (fun _ _ h h0 => h ▸ h0), .inr (fun _ _ h h0 => h ▸ h0), .inr (fun _ _ h h0 => h ▸ h0), .inl rfl, trivial⟩
          · exact ⟨.inr (fun _ _ h h0 => h ▸ h0), .inr (fun _ _ h h0 => h ▸ h0), .inr (fun _ _ h h0 => h ▸ h0), .inr (fun _ _ _ h => h), .inr (fun _ _ h h0 => h ▸ h0), .inr (fun _ _ h h0 => h ▸ h0), .inr (fun _ _ h h0 => h ▸ h0), .inr (fun _ _ h h0 => h ▸ h0), .inr (fun _ _ _ h => h), trivial⟩
        · exact ⟨⟨.inl rfl, .inr (.inr (.inl rfl)), .inr (.inr (.inl rfl)), .inr (.inr (.inr (fun _ _ _ _ h h0 => by cases h; exact h0))), .inr (.inr (.inr (fun _ _ _ _ _ h => h))), .inr (.inr (.inr (fun _ _ _ _ _ h => h))), .inr (.inr (.inr (fun _ _ _ _ h h0 => by cases h; exact h0))), .inr (.inr (.inr (fun _ _ _ _ _ h => h))), .inr (.inr (.inl rfl)), trivial⟩,
            ⟨.inr (.inr (.inr (fun _ _ _ _ _ h => h))), .inl rfl, .inr (.inr (.inl rfl)), .inr (.inr (.inr (fun _ _ _ _ h h0 => by cases h; exact h0))), .inr (.inr (.inr (fun _ _ _ _ _ h => h))), .inr (.inr (.inr (fun _ _ _ _ _ h => h))), .inr (.inr (.inr (fun _ _ _ _ h h0 => by cases h; exact h0))), .inr (.inr (.inr (fun _ _ _ _ _ h => h))), .inr (.inr (.inl rfl)), trivial⟩,
            ⟨.inr (.inr (.inr (fun _ _ _ _ _ h => h))), .inr (.inr (.inr (fun _ _ _ _ _ h => h))), .inl rfl, .inr (.inr (.inr (fun _ _ _ _ h h0 => by cases h; exact h0))), .inr (.inr (.inr (fun _ _ _ _ _ h => h))), .inr (.inr (.inr (fun _ _ _ _ _ h => h))), .inr (.inr (.inr (fun _ _ _ _ h h0 => by cases h; exact h0))), .inr (.inr (.inr (fun _ _ _ _ _ h => h))), .inr (.inr (.inl rfl)), trivial⟩,
            ⟨.inr (.inr (.inr (fun _ _ _ _ _ h => h))), .inr (.inr (.inr (fun _ _ _ _ _ h => h))), .inr (.inr (.inr (fun _ _ _ _ _ h => h))), .inl rfl, .inr (.inr (.inr (fun _ _ _ _ _ h => h))), .inr (.inr (.inr (fun _ _ _ _ _ h => h))), .inr (.inr (.inl rfl)), .inr (.inr (.inl rfl)), .inr (.inr (.inl rfl)), trivial⟩,
            ⟨.inr (.inr (.inr (fun _ _ _ _ _ h => h))), .inr (.inr (.inr (fun _ _ _ _ _ h => h))), .inr (.inr (.inr (fun _ _ _ _ _ h => h))), .inr (.inr (.inr (fun _ _ _ _ h h0 => by cases h; exact h0))), .inl rfl, .inr (.inr (.inl rfl)), .inr (.inr (.inl rfl)), .inr (.inr (.inl rfl)), .inr (.inr (.inr (fun _ _ _ _ h h0 => by cases h; exact h0))), trivial⟩,
            ⟨.inr (.inr (.inr (fun _ _ _ _ _ h => h))), .inr (.inr (.inr (fun _ _ _ _ _ h => h))), .inr (.inr (.inr (fun _ _ _ _ _ h => h))), .inr (.inr (.inr (fun _ _ _ _ h h0 => by cases h; exact h0))), .inr (.inr (.inr (fun _ _ _ _ _ h => h))), .inl rfl, .inr (.inr (.inl rfl)), .inr (.inr (.inl rfl)), .inr (.inr (.inl rfl)), trivial⟩,
            ⟨.inr (.inr (.inr (fun _ _ _ _ _ h => h))), .inr (.inr (.inr (fun _ _ _ _ _ h => h))), .inr (.inr (.inr (fun _ _ _ _ _ h => h))), .inr (.inr (.inr (fun _ _ _ _ h h0 => by cases h; exact h0))), .inr (.inr (.inr (fun _ _ _ _ _ h => h))), .inr (.inr (.inr (fun _ _ _ _ _ h => h))), .inl rfl, .inr (.inr (.inl rfl)), .inr (.inr (.inl rfl)), trivial⟩,
            ⟨.inr (.inr (.inr (fun _ _ _ _ _ h => h))), .inr (.inr (.inr (fun _ _ _ _ _ h => h))), .inr (.inr (.inr (fun _ _ _ _ _ h => h))), .inr (.inr (.inr (fun _ _ _ _ h h0 => by cases h; exact h0))), .inr (.inr (.inr (fun _ _ _ _ _ h => h))), .inr (.inr (.inr (fun _ _ _ _ _ h => h))), .inr (.inr (.inr (fun _ _ _ _ h h0 => by cases h; exact h0))), .inl rfl, .inr (.inr (.inl rfl)), trivial⟩,
            ⟨.inr (.inr (.inr (fun _ _ _ _ _ h => h))), .inr (.inr (.inr (fun _ _ _ _ _ h => h))), .inr (.inr (.inr (fun _ _ _ _ _ h => h))), .inr (.inl rfl), .inr (.inr (.inr (fun _ _ _ _ _ h => h))), .inr (.inr (.inr (fun _ _ _ _ _ h => h))), .inr (.inl rfl), .inr (.inr (.inr (fun _ _ _ _ _ h => h))), .inl rfl, trivial⟩, trivial⟩
        · refine ⟨?_, ?_, ?_, ?_, ?_, ?_, ?_, ?_, ?_, trivial⟩
          · -- 0: Op.move (Operand.tmp 0)
            refine step_plain [] (fun _ => rfl) rfl ?_
            intro w1 vals hC1 hi0 hf E hE
            have hI1 : (fun u => IsB u B 71 p c) w1 := hi0 false rfl
            try dsimp only at hI1
            clear hi0
            clear hf
            simp only [puts, act_put, act_put_none, List.setIfInBounds_toArray, List.set_cons_zero, List.set_cons_succ] at hE ⊢
            go_wp2
            exact .mk (hE _ _ rfl hC1 rfl)
          · -- 1: Op.nilCheck (Operand.tmp 22)
            refine step_plain [(0, some 22)] (fun _ => rfl) rfl ?_
            intro w1 vals hC1 hi0 hf E hE
            have hI1 : (fun u => IsB u B 71 p c) w1 := hi0 false rfl
            try dsimp only at hI1
            clear hi0
            have f0 : vals 0 = .pointer (some ⟨p, 0, none⟩) := hf 0 rfl
            try dsimp only at f0
            clear hf
            simp only [puts, act_put, act_put_none, List.setIfInBounds_toArray, List.set_cons_zero, List.set_cons_succ, f0] at hE ⊢
            clear f0
            go_wp2
            exact .mk (hE _ _ rfl hC1 rfl)
          · -- 2: Op.fieldAddr 71 (Operand.tmp 23) 0
            refine step_plain [(1, some 23)] (fun _ => rfl) rfl ?_
            intro w1 vals hC1 hi0 hf E hE
            have hI1 : (fun u => IsB u B 71 p c) w1 := hi0 false rfl
            try dsimp only at hI1
            clear hi0
            have f1 : vals 1 = .pointer (some ⟨p, 0, none⟩) := hf 1 rfl
            try dsimp only at f1
            clear hf
            simp only [puts, act_put, act_put_none, List.setIfInBounds_toArray, List.set_cons_zero, List.set_cons_succ, f1] at hE ⊢
            clear f1
            go_wp2
            exact .mk (hE _ _ rfl hC1 rfl)
          · -- 3: Op.buildSlice 42 2 #[(0, Operand.const (Value.string { data := #[102, 97, 108, 115, 101] })), (1, Operand.cons
            refine step_plain [] (fun _ => rfl) rfl ?_
            intro w1 vals hC1 hi0 hf E hE
            have hI1 : (fun u => IsB u B 71 p c) w1 := hi0 false rfl
            try dsimp only at hI1
            clear hi0
            clear hf
            simp only [puts, act_put, act_put_none, List.setIfInBounds_toArray, List.set_cons_zero, List.set_cons_succ] at hE ⊢
            go_wp2
            exact .mk (hE _ _ ⟨_, rfl, Blk.new _ _ _⟩ (hC1.trans (.all ((Below.refl _ _).alloc (Nat.le_refl _) _) (by have := hI1.lt; omega))) ((Below.refl _ _).alloc (Nat.le_refl _) _))
          · -- 4: Op.fieldAddr 45 (Operand.tmp 3) 1
            refine step_plain [] (fun _ => rfl) rfl ?_
            intro w1 vals hC1 hi0 hf E hE
            clear hi0
            clear hf
            simp only [puts, act_put, act_put_none, List.setIfInBounds_toArray, List.set_cons_zero, List.set_cons_succ] at hE ⊢
            go_wp2
            exact .mk (hE _ _ rfl hC1 rfl)
          · -- 5: Op.load 3 (Operand.tmp 26)
            refine step_plain [(4, some 26)] (fun _ => rfl) rfl ?_
            intro w1 vals hC1 hi0 hf E hE
            have hI1 : (fun u => IsB u B 71 p c) w1 := hi0 false rfl
            try dsimp only at hI1
            clear hi0
            have f4 : vals 4 = .pointer (some ⟨w.heap.size, 1, none⟩) := hf 4 rfl
            try dsimp only at f4
            clear hf
            have a9 : w1.cell? ⟨w.heap.size, 1, none⟩ = some (.int .i64 1) := (hC1.blk HKB.out HGP.out (by decide)).cell 1
            simp only [puts, act_put, act_put_none, List.setIfInBounds_toArray, List.set_cons_zero, List.set_cons_succ, f4] at hE ⊢
            clear f4
            go_wp2
            exact .mk (hE _ _ rfl hC1 rfl)
          · -- 6: Op.indexAddr 42 (Operand.tmp 25) (Operand.tmp 27)
            refine step_plain [(3, some 25), (5, some 27)] (fun _ => rfl) rfl ?_
            intro w1 vals hC1 hi0 hf E hE
            have hI1 : (fun u => IsB u B 71 p c) w1 := hi0 false rfl
            try dsimp only at hI1
            clear hi0
            have f3 : (fun v u => ∃ g, v = .slice (some ⟨g, 0, none⟩) 2 2 ∧ Blk u g 9 #[.string ⟨#[102, 97, 108, 115, 101]⟩, .string ⟨#[116, 114, 117, 101]⟩]) (vals 3) w1 := hf 3 rfl
            have f5 : vals 5 = .int .i64 1 := hf 5 rfl
            try dsimp only at f3 f5
            clear hf
            obtain ⟨g3, hx3, hg3⟩ := f3
            simp only [puts, act_put, act_put_none, List.setIfInBounds_toArray, List.set_cons_zero, List.set_cons_succ, f5, hx3] at hE ⊢
            clear f5
            clear hx3
            go_wp2
            exact .mk (hE _ _ ⟨g3, rfl, hg3⟩ hC1 rfl)
          · -- 7: Op.load 9 (Operand.tmp 28)
            refine step_plain [(6, some 28)] (fun _ => rfl) rfl ?_
            intro w1 vals hC1 hi0 hf E hE
            have hI1 : (fun u => IsB u B 71 p c) w1 := hi0 false rfl
            try dsimp only at hI1
            clear hi0
            have f6 : (fun v u => ∃ g, v = .pointer (some ⟨g, 1, none⟩) ∧ Blk u g 9 #[.string ⟨#[102, 97, 108, 115, 101]⟩, .string ⟨#[116, 114, 117, 101]⟩]) (vals 6) w1 := hf 6 rfl
            try dsimp only at f6
            clear hf
            obtain ⟨g6, hx6, hg6⟩ := f6
            have a9 := hg6.cell 1
            simp only [puts, act_put, act_put_none, List.setIfInBounds_toArray, List.set_cons_zero, List.set_cons_succ, hx6] at hE ⊢
            clear hx6
            go_wp2
            exact .mk (hE _ _ rfl hC1 rfl)
          · -- 8: Op.call { callee := Callee.value (Operand.func 51), args := #[Operand.tmp 24, Operand.tmp 29], argTypes := #[6
            refine step_plain [(2, some 24), (7, some 29)] (fun _ => rfl) rfl ?_
            intro w1 vals hC1 hi0 hf E hE
            have hI1 : (fun u => IsB u B 71 p c) w1 := hi0 false rfl
            try dsimp only at hI1
            clear hi0
            have f2 : vals 2 = .pointer (some ⟨p, 0, none⟩) := hf 2 rfl
            have f7 : vals 7 = .string ⟨#[116, 114, 117, 101]⟩ := hf 7 rfl
            try dsimp only at f2 f7
            clear hf
            simp only [puts, act_put, act_put_none, List.setIfInBounds_toArray, List.set_cons_zero, List.set_cons_succ, f2, f7] at hE ⊢
            clear f2 f7
            go_wp2_with fail
            refine calls_then (CS.out _ _ hI1 (by have := HLG.out; simp [ByteArray.size]; omega)) ?_
            rintro e w2 ⟨rfl, hb2, hw2⟩
            go_wp2_with fail
            exact .mk (hE _ _ hb2 (hC1.trans hw2) trivial)
        intro w1 vals hC1 hf
        have f0 : vals 0 = .pointer (some ⟨p, 0, none⟩) := hf 0 (by decide) rfl
        have f1 : vals 1 = .pointer (some ⟨p, 0, none⟩) := hf 1 (by decide) rfl
        have f2 : vals 2 = .pointer (some ⟨p, 0, none⟩) := hf 2 (by decide) rfl
        have f4 : vals 4 = .pointer (some ⟨w.heap.size, 1, none⟩) := hf 4 (by decide) rfl
        have f5 : vals 5 = .int .i64 1 := hf 5 (by decide) rfl
        have f7 : vals 7 = .string ⟨#[116, 114, 117, 101]⟩ := hf 7 (by decide) rfl
        have f8 : (fun z u => IsB u B 71 p (c ++ [116, 114, 117, 101])) vals w1 := hf 8 (by decide) rfl
        try dsimp only at f0 f1 f2 f4 f5 f7 f8
        clear hf
        simp only [puts, act_put, act_put_none, List.setIfInBounds_toArray, List.set_cons_zero, List.set_cons_succ, f0, f1, f2, f4, f5, f7]
        clear f0 f1 f2 f4 f5 f7
        generalize vals 3 = x3 at *
        generalize vals 6 = x6 at *
        generalize vals 8 = x8 at *
        have HR := Lib.hid (show WB W1 B p (c ++ [116, 114, 117, 101]) _ from ⟨f8, hC1⟩)
        clear HC0 HI0 hC1 f8
        go_wp2_with fail
        go_end0
        exact ⟨rfl, _, by rw [writeV, if_neg (by decide), if_pos rfl]; exact Out.all _ _, HF.out _ _ HR.out⟩
    · go_wp2_with fail
      refine calls_then (wnum_any vn (by have := HI.out; omega) (by have := HI.out; omega) B p c W1 _ HB.out (by have h := HL.out; rw [writeV, if_neg (by decide), if_neg (by decide), if_pos rfl] at h; exact h)) ?_
      rintro e w2 ⟨rfl, hw2⟩
      have HB2 := Lib.hid hw2
      clear hw2
      go_wp2_with fail
      go_end0
      exact ⟨rfl, _, by rw [writeV, if_neg (by decide), if_neg (by decide), if_pos rfl]; exact Out.all _ _, HF.out _ _ HB2.out⟩
    · go_wp2_with fail
      refine calls_then (wtext_any (bs vt) B p c W1 _ HB.out (by have h := HL.out; rw [writeV, if_neg (by decide), if_neg (by decide), if_neg (by decide), if_pos rfl] at h; exact h)) ?_
      rintro e w2 ⟨rfl, hw2⟩
      have HB2 := Lib.hid hw2
      clear hw2
      go_wp2_with fail
      go_end0
      exact ⟨rfl, _, by rw [writeV, if_neg (by decide), if_neg (by decide), if_neg (by decide), if_pos rfl]; exact Out.all _ _, HF.out _ _ HB2.out⟩
    · have HD := Lib.hid (show 0 < d by simp at hd; omega)
      have HW := Lib.hid (show writeV (.mk 4 vn vt ns ks) = 91 :: (itemsV false ns ks true ++ [93]) by
        rw [writeV, if_neg (by decide), if_neg (by decide), if_neg (by decide), if_neg (by decide)]
        rfl)
      have hns : ns = [] := by simpa using hvns
      have C := Lib.hid (wlist_any (d - 1) (IH _ (by have := HD.out; omega)) ⟨4, vn, vt, nA, ns.length, nc, kA, ks.length, kc⟩ rfl ns ks kv B p c W1 W1 HNR.out rfl rfl hkv HKR.out HKI.out ((rightsV_iff _ _).1 hks) hns HB.out (by rw [← HW.out]; exact HL.out))
      clear hvn hvk hvns hvt hd hk0 hlen hot hks hkv hns
      go_wp2_with (refine wpList_get_box (x := .tmp 3) HKB.out rfl rfl rfl hu rfl jT_size ?_)
      refine calls_then C.out ?_
      rintro e w2 ⟨rfl, c', ho, hw2⟩
      have HO := Lib.hid ho
      have HB2 := Lib.hid hw2
      clear hw2 ho
      go_wp2_with fail
      go_end0
      exact ⟨rfl, _, by rw [HW.out]; exact HO.out, HF.out _ _ HB2.out⟩
    · have HD := Lib.hid (show 0 < d by simp at hd; omega)
      have HW := Lib.hid (show writeV (.mk 5 vn vt ns ks) = 123 :: (itemsV true ns ks true ++ [125]) by
        rw [writeV, if_neg (by decide), if_neg (by decide), if_neg (by decide), if_neg (by decide)]
        rfl)
      have hlen' : ns.length = ks.length := by simpa using hlen
      have C := Lib.hid (wmap_any (d - 1) (IH _ (by have := HD.out; omega)) ⟨5, vn, vt, nA, ns.length, nc, kA, ks.length, kc⟩ rfl ns ks kv B p c W1 W1 HNR.out rfl rfl hkv HKR.out HKI.out ((rightsV_iff _ _).1 hks) hlen' HB.out (by rw [← HW.out]; exact HL.out))
      clear hvn hvk hvns hvt hd hk0 hlen hot hks hkv hlen'
      go_wp2_with (refine wpList_get_box (x := .tmp 3) HKB.out rfl rfl rfl hu rfl jT_size ?_)
      refine calls_then C.out ?_
      rintro e w2 ⟨rfl, c', ho, hw2⟩
      have HO := Lib.hid ho
      have HB2 := Lib.hid hw2
      clear hw2 ho
      go_wp2_with fail
      go_end0
      exact ⟨rfl, _, by rw [HW.out]; exact HO.out, HF.out _ _ HB2.out⟩
theorem wval_any : ∀ d, WVal d := fun d => Nat.strongRecOn d fun d ih => wval_step d ih
end Go.Proofs.YtlkikjeccamheaaDoor.Js
/-
  Walk: json.Write.
-/
namespace Go.Proofs.YtlkikjeccamheaaDoor.Js
set_option linter.unusedSimpArgs false
set_option linter.unusedVariables false
open Go.RowKit
def wrE (j : JT) : Bs × Int := if rightV 6 j = false then ([], 1) else if 2000 < (writeV j).length then ([], 4) else (writeV j, 0)
theorem writeV_ne (j : JT) (h : rightV 6 j = true) : writeV j ≠ [] := by
  obtain ⟨c, l, h1, _⟩ := writeV_first j 6 h
  rw [h1]
  simp
set_option maxRecDepth 100000 in
set_option maxHeartbeats 4000000 in
theorem jwrite_any (j : JT) (v : JV) (B : Nat) (w : World) (hs : smallJ j = true) (hj : JRep w (fun b => b < B) j v) (hB : B ≤ w.heap.size) (hl : (writeV j).length ≤ 1099511627776) :
    Calls Tryd.prog 18 #[.agg (jvCells v)] w fun e w' => e = .returned (.tuple #[.string (bs (wrE j).1), .int .i64 (wrE j).2]) ∧ Below w.heap.size w w' := by
  have hu := Tryd.underlying45
  obtain ⟨G, hG⟩ : ∃ G, G = w.heap.size := ⟨_, rfl⟩
  obtain ⟨W0, hW0⟩ : ∃ W0, W0 = w.alloc (.cells (jvCells v) 45) := ⟨_, rfl⟩
  have hb0 : Below w.heap.size w W0 := by rw [hW0]; exact (Below.refl _ w).alloc (Nat.le_refl _) _
  have HB0 := Lib.hid hb0
  have HKB := Lib.hid (show Blk W0 G 45 (jvCells v) by rw [hW0, hG]; exact Blk.new _ _ _)
  have HJ := Lib.hid (hj.under (hb0.mono hB))
  have HBB := Lib.hid (show B ≤ W0.heap.size from Nat.le_trans hB hb0.size)
  have HL := Lib.hid hl
  have C := Lib.hid (right_any 6 (by decide) j v B W0 hs HJ.out HBB.out)
  have HW0 := Lib.hid hW0
  obtain ⟨R, hR⟩ : ∃ R, R = rightV 6 j := ⟨_, rfl⟩
  rw [← hR] at C
  have HR := Lib.hid hR
  clear hW0 hb0 hs hj hB hl hR
  rw [hG] at *
  clear hG
  go_enter Tryd.func18, Tryd.ntmps18
  go_upto_region 1 with (fail)
  rw [← HW0.out]
  clear HW0
  generalize Value.agg (jvCells v) = AV
  go_wp2_with (refine wpList_get_box (x := .tmp 1) (cs := jvCells v) HKB.out rfl rfl rfl hu rfl jT_size2 ?_)
  refine calls_then C.out ?_
  rintro e w1 ⟨rfl, hb1⟩
  have HB1 := Lib.hid hb1
  clear hb1
  cases R with
  | false =>
    have HE := Lib.hid (show wrE j = ([], 1) by rw [wrE, if_pos HR.out.symm])
    go_wp2_with fail
    go_ret2
    exact ⟨by rw [HE.out]; rfl, HB0.out.trans (HB1.out.mono HB0.out.size)⟩
  | true =>
    have HK1 := Lib.hid (HKB.out.below HB1.out HKB.out.lt)
    go_upto_region 4 with (fail)
    obtain ⟨W2, hW2⟩ : ∃ W2, W2 = w1.alloc (.cells #[.pointer none, .slice none 0 0] 71) := ⟨_, rfl⟩
    rw [← hW2]
    have hb2 : Below w1.heap.size w1 W2 := by rw [hW2]; exact (Below.refl _ w1).alloc (Nat.le_refl _) _
    have HB2 := Lib.hid (HB1.out.trans (hb2.mono HB1.out.size))
    have HK2 := Lib.hid (show Blk W2 w.heap.size 45 (jvCells v) from HK1.out.below hb2 HK1.out.lt)
    have HS := Lib.hid (show w1.heap.size < W2.heap.size by rw [hW2]; simp)
    have hj2 : JRep W2 (fun b => b < w1.heap.size) j v := (HJ.out.under ((HB1.out.trans (hb2.mono HB1.out.size)).mono HBB.out)).imp (fun b _ h => Nat.lt_of_lt_of_le h (Nat.le_trans HBB.out HB1.out.size))
    have hib : IsB W2 w1.heap.size 71 w1.heap.size [] := by rw [hW2]; exact IsB.new _ _ (Nat.le_refl _)
    have C2 := Lib.hid (wval_any 6 j v w1.heap.size w1.heap.size [] W2 W2 HR.out.symm hj2 ⟨hib, BK.refl _ _ _⟩ (by have := HL.out; simp; omega))
    clear hW2 hb2 hj2 hib C
    have HWP := Lib.hid (show w.heap.size ≤ w1.heap.size from Nat.le_trans HB0.out.size HB1.out.size)
    generalize hp : w1.heap.size = p at *
    go_wp2_with (refine wpList_get_box (x := .tmp 1) (cs := jvCells v) HK2.out rfl rfl rfl hu rfl jT_size2 ?_)
    refine calls_then C2.out ?_
    rintro e w3 ⟨rfl, c', hout, hw3⟩
    have HO := Lib.hid (Out.end_ hout)
    have HB3 := Lib.hid hw3.1
    have HF := Lib.hid (show Below w.heap.size w w3 from HB0.out.trans ((HB2.out.mono HB0.out.size).trans (hw3.2.below.mono HWP.out)))
    clear hout hw3
    go_wp2_with fail
    refine calls_then (bld_len _ _ _ _ HB3.out) ?_
    rintro e w4 ⟨rfl, rfl⟩
    by_cases hlong : 2000 < c'.length
    · have hc : (2000 : Int) < (c'.length : Int) := by omega
      have HE := Lib.hid (show wrE j = ([], 4) by rw [wrE, if_neg (by rw [← HR.out]; decide), if_pos (HO.out.2 hlong)])
      clear hlong
      go_wp2_with fail
      go_ret2
      exact ⟨by rw [HE.out]; rfl, HF.out⟩
    · have hc : ¬ (2000 : Int) < (c'.length : Int) := by omega
      have h1 := HO.out.1 (by omega)
      have HE := Lib.hid (show wrE j = (writeV j, 0) by rw [wrE, if_neg (by rw [← HR.out]; decide), if_neg (by omega)])
      have HC := Lib.hid h1.1
      have HNE := Lib.hid (show c' ≠ [] by rw [h1.1]; exact writeV_ne j HR.out.symm)
      clear hlong h1
      go_wp2_with fail
      refine calls_then (bld_string _ _ c' _ HB3.out HNE.out) ?_
      rintro e w5 ⟨rfl, hb5⟩
      have HB5 := Lib.hid hb5
      clear hb5
      go_wp2_with fail
      go_ret2
      exact ⟨by rw [HE.out, HC.out]; rfl, HF.out.trans (HB5.out.mono HWP.out)⟩
end Go.Proofs.YtlkikjeccamheaaDoor.Js
/-
  Walks: jwk.text; jwk.may and jwk.Write at a bundle without keys; the law's example.
-/
namespace Go.Proofs.YtlkikjeccamheaaDoor.Js
set_option linter.unusedSimpArgs false
set_option linter.unusedVariables false
open Go.RowKit
theorem jT_size4 : (Tryd.prog.info? 45).map (·.size) = some 5 := by kernel_rfl
def flatV (k n : Int) (t : Bs) : JV := ⟨k, n, t, none, 0, 0, none, 0, 0⟩
set_option maxHeartbeats 2000000 in
theorem jtext_any (s : Bs) (w : World) : Calls Tryd.prog 19 #[.string (bs s)] w fun e w' => e = .returned (.agg (jvCells (flatV 3 0 s))) ∧ Below w.heap.size w w' := by
  have hu := Tryd.underlying45
  obtain ⟨G, hG⟩ : ∃ G, G = w.heap.size := ⟨_, rfl⟩
  obtain ⟨W0, hW0⟩ : ∃ W0, W0 = w.alloc (.cells #[.int .i64 0, .int .i64 0, .string ⟨#[]⟩, .slice none 0 0, .slice none 0 0] 45) := ⟨_, rfl⟩
  have HB0 := Lib.hid (show Below w.heap.size w W0 by rw [hW0]; exact (Below.refl _ w).alloc (Nat.le_refl _) _)
  have HK := Lib.hid (show Blk W0 w.heap.size 45 (jvCells (flatV 0 0 [])) by rw [hW0]; exact Blk.new _ _ _)
  have HW0 := Lib.hid hW0
  have HF := Lib.hid (fun (u : World) (hw : Wrote w.heap.size W0 u) => show Below w.heap.size w u by
    rw [hW0] at hw
    exact box_low9 hw)
  clear hW0 hG
  go_enter Tryd.func19, Tryd.ntmps19
  go_upto_region 1 with (fail)
  rw [← HW0.out]
  go_wp2_with (refine wpList_put_box (x := .tmp 2) (cells := jvCells (flatV 3 0 s)) HK.out rfl rfl rfl rfl jT_size4 rfl (jvCells_one _) ?_; intro w9 hb9 hw9)
  have HB9 := Lib.hid hb9
  have HF9 := Lib.hid (HF.out _ hw9)
  refine bodyPost_ret (results_box (P := Tryd.prog) rfl rfl HB9.out hu rfl jT_size4) rfl ?_
  exact ⟨rfl, HF9.out⟩
def exD : Bs := [97, 46, 111, 114, 103]
def exB : BD := ⟨exD, 3, []⟩
theorem exD_size : ((bs exD).size : Int) ≤ 100000000 := by decide +kernel
theorem exD_dom : domB (bs exD).data.toList = true := by decide +kernel
set_option maxHeartbeats 2000000 in
theorem may0_any (D : ByteArray) (hd : domB D.data.toList = true) (hs : (D.size : Int) ≤ 100000000) (w : World) : Calls Tryd.prog 16 #[.agg #[.string D, .int .i64 3, .slice none 0 0]] w fun e w' => e = .returned (.bool true) ∧ Below w.heap.size w w' := by
  obtain ⟨W0, hW0⟩ : ∃ W0, W0 = w.alloc (.cells #[.string D, .int .i64 3, .slice none 0 0] 28) := ⟨_, rfl⟩
  have HB0 := Lib.hid (show Below w.heap.size w W0 by rw [hW0]; exact (Below.refl _ w).alloc (Nat.le_refl _) _)
  have HK := Lib.hid (show Blk W0 w.heap.size 28 #[.string D, .int .i64 3, .slice none 0 0] by rw [hW0]; exact Blk.new _ _ _)
  have HW0 := Lib.hid hW0
  have C := Lib.hid (domain_any D hs W0)
  rw [hd] at C
  have a0 : W0.cell? ⟨w.heap.size, 0, none⟩ = some (.string D) := HK.out.cell 0
  clear hW0 hd hs
  go_enter Tryd.func16, Tryd.ntmps16
  go_upto_region 1 with (fail)
  rw [← HW0.out]
  go_wp2_with fail
  refine calls_then C.out ?_
  rintro e u1 ⟨rfl, hb1⟩
  have HK1 := Lib.hid (HK.out.below hb1 HK.out.lt)
  have HB1 := Lib.hid (HB0.out.trans (hb1.mono HB0.out.size))
  have a1 : u1.cell? ⟨w.heap.size, 1, none⟩ = some (.int .i64 3) := HK1.out.cell 1
  have a2 : u1.cell? ⟨w.heap.size, 2, none⟩ = some (.slice none 0 0) := HK1.out.cell 2
  clear a0 hb1
  have hmm := @run_makeMap Tryd.prog
  go_upto_region 4 with (fail)
  have HB2 := Lib.hid (HB1.out.alloc (by have := HB0.out.size; have := HB1.out.size; omega) (.map #[] 0))
  obtain ⟨W2, hW2⟩ : ∃ W2, W2 = u1.alloc (.map #[] 0) := ⟨_, rfl⟩
  rw [← hW2] at HB2
  have b2 : W2.cell? ⟨w.heap.size, 2, none⟩ = some (.slice none 0 0) := by
    rw [hW2]
    exact (HK1.out.alloc _).cell 2
  rw [← hW2]
  clear hW2 a1 a2 hmm
  go_wp2_with fail
  go_loopw [30] (fun x wr => x = .int .i64 0 ∧ wr = W2) (fun x _ => 0)
  case atStart => exact ⟨rfl, rfl⟩
  case round =>
    obtain ⟨rfl, rfl⟩ := hrel
    go_wp2_with fail
    go_ret
    exact ⟨rfl, HB2.out⟩
theorem exB_small : smallJ (bundleJ exB) = true := by decide +kernel
theorem exB_len : (writeV (bundleJ exB)).length ≤ 1099511627776 := by decide +kernel
def RowAt (u : World) (t : TypeId) (n : Nat) (xs : List Value) (v : Value) : Prop := ∃ g, v = .slice (some ⟨g, 0, none⟩) n n ∧ Blk u g t xs.toArray
theorem RowAt.step {u u' : World} {t : TypeId} {n : Nat} {xs : List Value} {v : Value} (h : RowAt u t n xs v) (hb : Below u.heap.size u u') : RowAt u' t n xs v := by
  obtain ⟨g, h1, h2⟩ := h
  exact ⟨g, h1, h2.below hb h2.lt⟩
theorem rep_step {u u' : World} {j : JT} {v : Value} (h : ∃ jv, v = .agg (jvCells jv) ∧ JRep u (fun b => b < u.heap.size) j jv) (hb : Below u.heap.size u u') : ∃ jv, v = .agg (jvCells jv) ∧ JRep u' (fun b => b < u'.heap.size) j jv := by
  obtain ⟨jv, h1, h2⟩ := h
  exact ⟨jv, h1, (h2.under hb).imp fun b _ h => Nat.lt_of_lt_of_le h hb.size⟩
theorem bundle_rep {u : World} {gn gk : Nat} {tn tk : TypeId} (b : BD) (kv : JV) (hn : Blk u gn tn [Value.string (bs [100, 111, 109, 97, 105, 110]), .string (bs [107, 101, 121, 115]), .string (bs [110, 117, 109, 98, 101, 114])].toArray)
    (hk : Blk u gk tk (rowsV jvCells [flatV 3 0 b.dom, kv, flatV 2 b.num []]).toArray) (hj : JRep u (fun x => x < u.heap.size) (.mk 4 0 [] [] (b.keys.map keyJ)) kv) :
    JRep u (fun x => x < u.heap.size) (bundleJ b) ⟨5, 0, [], some ⟨gn, 0, none⟩, 3, 3, some ⟨gk, 0, none⟩, 3, 3⟩ := by
  have h1 : Rd u u.heap.size (some ⟨gn, 0, none⟩) (rowsV sCell [[100, 111, 109, 97, 105, 110], [107, 101, 121, 115], [110, 117, 109, 98, 101, 114]]) := Rd.of_blk hn hn.lt
  have h2 : Rd u u.heap.size (some ⟨gk, 0, none⟩) (rowsV jvCells [flatV 3 0 b.dom, kv, flatV 2 b.num []]) := Rd.of_blk hk hk.lt
  refine JRep.mk (⟨5, 0, [], some ⟨gn, 0, none⟩, 3, 3, some ⟨gk, 0, none⟩, 3, 3⟩ : JV) [[100, 111, 109, 97, 105, 110], [107, 101, 121, 115], [110, 117, 109, 98, 101, 114]] [jtext b.dom, .mk 4 0 [] [] (b.keys.map keyJ), jint b.num] [flatV 3 0 b.dom, kv, flatV 2 b.num []] rfl (Nat.le_refl _) (RdS.of_rd h1) rfl (Nat.le_refl _) rfl (RdS.of_rd h2) ?_
  intro i h h'
  match i, h, h' with
  | 0, _, _ => exact JRep.flat _ _ _ _ _
  | 1, _, _ => exact hj
  | 2, _, _ => exact JRep.flat _ _ _ _ _
  | n + 3, h, _ => exact absurd h (by simp)
theorem exB_right : (wrE (bundleJ exB)) = ([123, 34, 100, 111, 109, 97, 105, 110, 34, 58, 34, 97, 46, 111, 114, 103, 34, 44, 34, 107, 101, 121, 115, 34, 58, 91, 93, 44, 34, 110, 117, 109, 98, 101, 114, 34, 58, 51, 125], 0) := by decide +kernel
set_option maxRecDepth 100000 in
set_option maxHeartbeats 4000000 in
theorem write0_any (w : World) : Calls Tryd.prog 10 #[.agg #[.string (bs exD), .int .i64 3, .slice none 0 0]] w fun e w' => e = .returned (.tuple #[.string (bs (wrE (bundleJ exB)).1), .int .i64 0]) ∧ Below w.heap.size w w' := by
  have hu := Tryd.underlying45
  have hub := Tryd.underlying28
  have hbi : (Tryd.prog.info? 28).map (·.size) = some 3 := by kernel_rfl
  obtain ⟨W0, hW0⟩ : ∃ W0, W0 = w.alloc (.cells #[.string (bs exD), .int .i64 3, .slice none 0 0] 28) := ⟨_, rfl⟩
  have HB0 := Lib.hid (show Below w.heap.size w W0 by rw [hW0]; exact (Below.refl _ w).alloc (Nat.le_refl _) _)
  have HK := Lib.hid (show Blk W0 w.heap.size 28 #[.string (bs exD), .int .i64 3, .slice none 0 0] by rw [hW0]; exact Blk.new _ _ _)
  have HW0 := Lib.hid hW0
  have C := Lib.hid (may0_any (bs exD) exD_dom exD_size W0)
  clear hW0
  go_enter Tryd.func10, Tryd.ntmps10
  go_upto_region 1 with (fail)
  rw [← HW0.out]
  go_wp2_with (refine wpList_get_box (x := .tmp 1) (cs := #[.string (bs exD), .int .i64 3, .slice none 0 0]) HK.out rfl rfl rfl hub rfl hbi ?_)
  refine calls_then C.out ?_
  rintro e u1 ⟨rfl, hb1⟩
  have HK1 := Lib.hid (HK.out.below hb1 HK.out.lt)
  have HB1 := Lib.hid (HB0.out.trans (hb1.mono HB0.out.size))
  have HS1 := Lib.hid (show w.heap.size < u1.heap.size from HK1.out.lt)
  clear hb1
  go_upto_region 4 with (first | (refine wpList_put_box (cells := jvCells (flatV 4 0 [])) (Blk.new _ _ _) rfl rfl rfl rfl jT_size4 rfl (jvCells_one _) ?_; intro w9 hb9 hw9))
  have HB9 := Lib.hid hb9
  have HF9 := Lib.hid (HB1.out.trans ((box_low9 hw9).mono HB1.out.size))
  have HK9 := Lib.hid (HK1.out.below (box_low9 hw9) HK1.out.lt)
  have hs9 : u1.heap.size < w9.heap.size := hb9.lt
  have HS9 := Lib.hid hs9
  have b2 : w9.cell? ⟨w.heap.size, 2, none⟩ = some (.slice none 0 0) := HK9.out.cell 2
  clear hb9 hw9 hs9
  go_wp2_with fail
  go_loopw [14] (fun x wr => x = .int .i64 0 ∧ wr = w9) (fun x _ => 0)
  case atStart => exact ⟨rfl, rfl⟩
  case round =>
    obtain ⟨rfl, rfl⟩ := hrel
    have b0 : wr.cell? ⟨w.heap.size, 0, none⟩ = some (.string (bs exD)) := HK9.out.cell 0
    have b1 : wr.cell? ⟨w.heap.size, 1, none⟩ = some (.int .i64 3) := HK9.out.cell 1
    have HTX := Lib.hid (jtext_any exD)
    have HWR := Lib.hid (fun (u : World) (v : JV) (h : JRep u (fun b => b < u.heap.size) (bundleJ exB) v) => jwrite_any (bundleJ exB) v u.heap.size u exB_small h (Nat.le_refl _) exB_len)
    have HR := Lib.hid exB_right
    have HKJ := Lib.hid HB9.out
    go_wp2_with fail
    have HC0 : Below wr.heap.size wr wr.drew := (Below.refl _ _).drew
    refine wp_region_list (fun u => Below wr.heap.size wr u) (fun | false => (fun _ => True) | true => (fun _ => True)) (fun | false, _ => false | true, _ => false)
      [fun z u => (fun v u => RowAt u 9 3 [.string (bs [100, 111, 109, 97, 105, 110]), .string (bs [107, 101, 121, 115]), .string (bs [110, 117, 109, 98, 101, 114])] v) (z 0) u,
       fun z _ => z 1 = .pointer (some ⟨w.heap.size, 0, none⟩),
       fun z _ => z 2 = .string (bs exD),
       fun z _ => z 3 = .agg (jvCells (flatV 3 0 exD)),
       fun z _ => z 4 = .agg (jvCells (flatV 4 0 [])),
       fun z _ => z 5 = .pointer (some ⟨w.heap.size, 1, none⟩),
       fun z _ => z 6 = .int .i64 3,
       fun z _ => z 7 = .agg (jvCells (flatV 2 3 [])),
       fun z u => (fun v u => RowAt u 45 3 (rowsV jvCells [flatV 3 0 exD, flatV 4 0 [], flatV 2 3 []]) v) (z 8) u,
       fun z u => (fun v u => ∃ jv, v = .agg (jvCells jv) ∧ JRep u (fun b => b < u.heap.size) (bundleJ exB) jv) (z 9) u,
       fun z _ => z 10 = .tuple #[.string (bs (wrE (bundleJ exB)).1), .int .i64 (wrE (bundleJ exB)).2],
       fun z _ => z 11 = .string (bs (wrE (bundleJ exB)).1),
       fun z _ => z 12 = .int .i64 (wrE (bundleJ exB)).2,
       fun z _ => z 13 = .string (bs (wrE (bundleJ exB)).1),
       fun z _ => z 14 = .int .i64 (wrE (bundleJ exB)).2]
      [fun u u' => Below u.heap.size u u', Eq, Eq, fun u u' => Below u.heap.size u u', Eq, Eq, Eq, Eq, fun u u' => Below u.heap.size u u', Eq, fun u u' => Below u.heap.size u u', Eq, Eq, Eq, Eq]
      (fun _ _ => false) [(0, some 26), (1, some 27), (2, some 28), (3, some 29), (4, some 30), (5, some 31), (6, some 32), (7, some 33), (8, some 34), (9, some 35), (10, some 36), (11, some 37), (12, some 38), (13, some 2), (14, some 3)] (by kernel_rfl) (by kernel_rfl) rfl (fun _ => rfl) ?_ ?_ ?_ ?_ ?_ ?_
    · exact HC0
    · intro m; cases m; exact trivial; exact trivial
    · intro m; cases m
      · exact ⟨.inr (fun _ _ _ h => h), .inr (fun _ _ h h0 => h ▸ h0), .inr (fun _ _ h h0 => h ▸ h0), .inr (fun _ _ _ h => h), .inr (fun _ _ h h0 => h ▸ h0), .inr (fun _ _ h h0 => h ▸ h0), .inr (fun _ _ h h0 => h ▸ h0), .inr (fun _ _ h h0 => h ▸ h0), .inr (fun _ _ _ h => h), .inr (fun _ _ h h0 => h ▸ h0), .inr (fun _ _ _ h => h), .inr (fun _ _ h h0 => h ▸ h0), .inr (fun _ _ h h0 => h ▸ h0), .inr (fun _ _ h h0 => h ▸ h0), .inr (fun _ _ h h0 => h ▸ h0), trivial⟩
      · exact ⟨.inr (fun _ _ _ h => h), .inr (fun _ _ h h0 => h ▸ h0), .inr (fun _ _ h h0 => h ▸ h0), .inr (fun _ _ _ h => h), .inr (fun _ _ h h0 => h ▸ h0), .inr (fun _ _ h h0 => h ▸ h0), .inr (fun _ _ h h0 => h ▸ h0), .inr (fun _ _ h h0 => h ▸ h0), .inr (fun _ _ _ h => h), .inr (fun _ _ h h0 => h ▸ h0), .inr (fun _ _ _ h => h), .inr (fun _ _ h h0 => h ▸ h0), .inr (fun _ _ h h0 => h ▸ h0), .inr (fun _ _ h h0 => h ▸ h0), .inr (fun _ _ h h0 => h ▸ h0), trivial⟩
    · exact ⟨⟨.inl rfl, .inr (.inr (.inr (fun _ _ _ _ _ h => h))), .inr (.inr (.inr (fun _ _ _ _ _ h => h))), .inr (.inr (.inr (fun _ _ _ _ _ h => h))), .inr (.inr (.inr (fun _ _ _ _ _ h => h))), .inr (.inr (.inr (fun _ _ _ _ _ h => h))), .inr (.inr (.inr (fun _ _ _ _ _ h => h))), .inr (.inr (.inr (fun _ _ _ _ _ h => h))), .inr (.inr (.inr (fun _ _ _ _ h h0 => h0.step h))), .inr (.inr (.inl rfl)), .inr (.inr (.inl rfl)), .inr (.inr (.inl rfl)), .inr (.inr (.inl rfl)), .inr (.inr (.inl rfl)), .inr (.inr (.inl rfl)), trivial⟩,
        ⟨.inr (.inr (.inr (fun _ _ _ _ h h0 => by cases h; exact h0))), .inl rfl, .inr (.inr (.inl rfl)), .inr (.inr (.inl rfl)), .inr (.inr (.inr (fun _ _ _ _ _ h => h))), .inr (.inr (.inr (fun _ _ _ _ _ h => h))), .inr (.inr (.inr (fun _ _ _ _ _ h => h))), .inr (.inr (.inr (fun _ _ _ _ _ h => h))), .inr (.inr (.inl rfl)), .inr (.inr (.inr (fun _ _ _ _ h h0 => by cases h; exact h0))), .inr (.inr (.inl rfl)), .inr (.inr (.inr (fun _ _ _ _ _ h => h))), .inr (.inr (.inr (fun _ _ _ _ _ h => h))), .inr (.inr (.inl rfl)), .inr (.inr (.inl rfl)), trivial⟩,
        ⟨.inr (.inr (.inr (fun _ _ _ _ h h0 => by cases h; exact h0))), .inr (.inr (.inr (fun _ _ _ _ _ h => h))), .inl rfl, .inr (.inr (.inl rfl)), .inr (.inr (.inr (fun _ _ _ _ _ h => h))), .inr (.inr (.inr (fun _ _ _ _ _ h => h))), .inr (.inr (.inr (fun _ _ _ _ _ h => h))), .inr (.inr (.inr (fun _ _ _ _ _ h => h))), .inr (.inr (.inl rfl)), .inr (.inr (.inl rfl)), .inr (.inr (.inl rfl)), .inr (.inr (.inl rfl)), .inr (.inr (.inl rfl)), .inr (.inr (.inl rfl)), .inr (.inr (.inl rfl)), trivial⟩,
        ⟨.inr (.inr (.inr (fun _ _ _ _ h h0 => h0.step h))), .inr (.inr (.inr (fun _ _ _ _ _ h => h))), .inr (.inr (.inr (fun _ _ _ _ _ h => h))), .inl rfl, .inr (.inr (.inr (fun _ _ _ _ _ h => h))), .inr (.inr (.inr (fun _ _ _ _ _ h => h))), .inr (.inr (.inr (fun _ _ _ _ _ h => h))), .inr (.inr (.inr (fun _ _ _ _ _ h => h))), .inr (.inr (.inl rfl)), .inr (.inr (.inl rfl)), .inr (.inr (.inl rfl)), .inr (.inr (.inl rfl)), .inr (.inr (.inl rfl)), .inr (.inr (.inl rfl)), .inr (.inr (.inl rfl)), trivial⟩,
        ⟨.inr (.inr (.inr (fun _ _ _ _ h h0 => by cases h; exact h0))), .inr (.inr (.inr (fun _ _ _ _ _ h => h))), .inr (.inr (.inr (fun _ _ _ _ _ h => h))), .inr (.inr (.inr (fun _ _ _ _ _ h => h))), .inl rfl, .inr (.inr (.inr (fun _ _ _ _ _ h => h))), .inr (.inr (.inr (fun _ _ _ _ _ h => h))), .inr (.inr (.inr (fun _ _ _ _ _ h => h))), .inr (.inr (.inl rfl)), .inr (.inr (.inl rfl)), .inr (.inr (.inl rfl)), .inr (.inr (.inr (fun _ _ _ _ _ h => h))), .inr (.inr (.inr (fun _ _ _ _ _ h => h))), .inr (.inr (.inl rfl)), .inr (.inr (.inl rfl)), trivial⟩,
        ⟨.inr (.inr (.inr (fun _ _ _ _ h h0 => by cases h; exact h0))), .inr (.inr (.inr (fun _ _ _ _ _ h => h))), .inr (.inr (.inr (fun _ _ _ _ _ h => h))), .inr (.inr (.inr (fun _ _ _ _ _ h => h))), .inr (.inr (.inr (fun _ _ _ _ _ h => h))), .inl rfl, .inr (.inr (.inl rfl)), .inr (.inr (.inl rfl)), .inr (.inr (.inl rfl)), .inr (.inr (.inr (fun _ _ _ _ h h0 => by cases h; exact h0))), .inr (.inr (.inr (fun _ _ _ _ _ h => h))), .inr (.inr (.inr (fun _ _ _ _ _ h => h))), .inr (.inr (.inr (fun _ _ _ _ _ h => h))), .inr (.inr (.inl rfl)), .inr (.inr (.inl rfl)), trivial⟩,
        ⟨.inr (.inr (.inr (fun _ _ _ _ h h0 => by cases h; exact h0))), .inr (.inr (.inr (fun _ _ _ _ _ h => h))), .inr (.inr (.inr (fun _ _ _ _ _ h => h))), .inr (.inr (.inr (fun _ _ _ _ _ h => h))), .inr (.inr (.inr (fun _ _ _ _ _ h => h))), .inr (.inr (.inr (fun _ _ _ _ _ h => h))), .inl rfl, .inr (.inr (.inl rfl)), .inr (.inr (.inl rfl)), .inr (.inr (.inl rfl)), .inr (.inr (.inr (fun _ _ _ _ _ h => h))), .inr (.inr (.inr (fun _ _ _ _ _ h => h))), .inr (.inr (.inr (fun _ _ _ _ _ h => h))), .inr (.inr (.inl rfl)), .inr (.inr (.inl rfl)), trivial⟩,
        ⟨.inr (.inr (.inr (fun _ _ _ _ h h0 => by cases h; exact h0))), .inr (.inr (.inr (fun _ _ _ _ _ h => h))), .inr (.inr (.inr (fun _ _ _ _ _ h => h))), .inr (.inr (.inr (fun _ _ _ _ _ h => h))), .inr (.inr (.inr (fun _ _ _ _ _ h => h))), .inr (.inr (.inr (fun _ _ _ _ _ h => h))), .inr (.inr (.inr (fun _ _ _ _ _ h => h))), .inl rfl, .inr (.inr (.inl rfl)), .inr (.inr (.inl rfl)), .inr (.inr (.inl rfl)), .inr (.inr (.inr (fun _ _ _ _ _ h => h))), .inr (.inr (.inr (fun _ _ _ _ _ h => h))), .inr (.inr (.inl rfl)), .inr (.inr (.inl rfl)), trivial⟩,
        ⟨.inr (.inr (.inr (fun _ _ _ _ h h0 => h0.step h))), .inr (.inr (.inr (fun _ _ _ _ _ h => h))), .inr (.inr (.inr (fun _ _ _ _ _ h => h))), .inr (.inr (.inr (fun _ _ _ _ _ h => h))), .inr (.inr (.inr (fun _ _ _ _ _ h => h))), .inr (.inr (.inr (fun _ _ _ _ _ h => h))), .inr (.inr (.inr (fun _ _ _ _ _ h => h))), .inr (.inr (.inr (fun _ _ _ _ _ h => h))), .inl rfl, .inr (.inr (.inl rfl)), .inr (.inr (.inl rfl)), .inr (.inr (.inl rfl)), .inr (.inr (.inl rfl)), .inr (.inr (.inl rfl)), .inr (.inr (.inl rfl)), trivial⟩,
        ⟨.inr (.inr (.inr (fun _ _ _ _ h h0 => by cases h; exact h0))), .inr (.inr (.inr (fun _ _ _ _ _ h => h))), .inr (.inr (.inr (fun _ _ _ _ _ h => h))), .inr (.inr (.inr (fun _ _ _ _ _ h => h))), .inr (.inr (.inr (fun _ _ _ _ _ h => h))), .inr (.inr (.inr (fun _ _ _ _ _ h => h))), .inr (.inr (.inr (fun _ _ _ _ _ h => h))), .inr (.inr (.inr (fun _ _ _ _ _ h => h))), .inr (.inr (.inr (fun _ _ _ _ h h0 => by cases h; exact h0))), .inl rfl, .inr (.inr (.inl rfl)), .inr (.inr (.inl rfl)), .inr (.inr (.inl rfl)), .inr (.inr (.inl rfl)), .inr (.inr (.inl rfl)), trivial⟩,
        ⟨.inr (.inr (.inr (fun _ _ _ _ h h0 => h0.step h))), .inr (.inr (.inr (fun _ _ _ _ _ h => h))), .inr (.inr (.inr (fun _ _ _ _ _ h => h))), .inr (.inr (.inr (fun _ _ _ _ _ h => h))), .inr (.inr (.inr (fun _ _ _ _ _ h => h))), .inr (.inr (.inr (fun _ _ _ _ _ h => h))), .inr (.inr (.inr (fun _ _ _ _ _ h => h))), .inr (.inr (.inr (fun _ _ _ _ _ h => h))), .inr (.inr (.inr (fun _ _ _ _ h h0 => h0.step h))), .inr (.inr (.inr (fun _ _ _ _ h h0 => rep_step h0 h))), .inl rfl, .inr (.inr (.inl rfl)), .inr (.inr (.inl rfl)), .inr (.inr (.inl rfl)), .inr (.inr (.inl rfl)), trivial⟩,
        ⟨.inr (.inr (.inr (fun _ _ _ _ h h0 => by cases h; exact h0))), .inr (.inr (.inr (fun _ _ _ _ _ h => h))), .inr (.inr (.inr (fun _ _ _ _ _ h => h))), .inr (.inr (.inr (fun _ _ _ _ _ h => h))), .inr (.inr (.inr (fun _ _ _ _ _ h => h))), .inr (.inr (.inr (fun _ _ _ _ _ h => h))), .inr (.inr (.inr (fun _ _ _ _ _ h => h))), .inr (.inr (.inr (fun _ _ _ _ _ h => h))), .inr (.inr (.inr (fun _ _ _ _ h h0 => by cases h; exact h0))), .inr (.inr (.inr (fun _ _ _ _ h h0 => by cases h; exact h0))), .inr (.inr (.inr (fun _ _ _ _ _ h => h))), .inl rfl, .inr (.inr (.inr (fun _ _ _ _ _ h => h))), .inr (.inr (.inl rfl)), .inr (.inr (.inl rfl)), trivial⟩,
        ⟨.inr (.inr (.inr (fun _ _ _ _ h h0 => by cases h; exact h0))), .inr (.inr (.inr (fun _ _ _ _ _ h => h))), .inr (.inr (.inr (fun _ _ _ _ _ h => h))), .inr (.inr (.inr (fun _ _ _ _ _ h => h))), .inr (.inr (.inr (fun _ _ _ _ _ h => h))), .inr (.inr (.inr (fun _ _ _ _ _ h => h))), .inr (.inr (.inr (fun _ _ _ _ _ h => h))), .inr (.inr (.inr (fun _ _ _ _ _ h => h))), .inr (.inr (.inr (fun _ _ _ _ h h0 => by cases h; exact h0))), .inr (.inr (.inr (fun _ _ _ _ h h0 => by cases h; exact h0))), .inr (.inr (.inr (fun _ _ _ _ _ h => h))), .inr (.inr (.inr (fun _ _ _ _ _ h => h))), .inl rfl, .inr (.inr (.inl rfl)), .inr (.inr (.inl rfl)), trivial⟩,
        ⟨.inr (.inr (.inr (fun _ _ _ _ h h0 => by cases h; exact h0))), .inr (.inr (.inr (fun _ _ _ _ _ h => h))), .inr (.inr (.inr (fun _ _ _ _ _ h => h))), .inr (.inr (.inr (fun _ _ _ _ _ h => h))), .inr (.inr (.inr (fun _ _ _ _ _ h => h))), .inr (.inr (.inr (fun _ _ _ _ _ h => h))), .inr (.inr (.inr (fun _ _ _ _ _ h => h))), .inr (.inr (.inr (fun _ _ _ _ _ h => h))), .inr (.inr (.inr (fun _ _ _ _ h h0 => by cases h; exact h0))), .inr (.inr (.inr (fun _ _ _ _ h h0 => by cases h; exact h0))), .inr (.inr (.inr (fun _ _ _ _ _ h => h))), .inr (.inr (.inr (fun _ _ _ _ _ h => h))), .inr (.inr (.inr (fun _ _ _ _ _ h => h))), .inl rfl, .inr (.inr (.inl rfl)), trivial⟩,
        ⟨.inr (.inr (.inr (fun _ _ _ _ h h0 => by cases h; exact h0))), .inr (.inr (.inr (fun _ _ _ _ _ h => h))), .inr (.inr (.inr (fun _ _ _ _ _ h => h))), .inr (.inr (.inr (fun _ _ _ _ _ h => h))), .inr (.inr (.inr (fun _ _ _ _ _ h => h))), .inr (.inr (.inr (fun _ _ _ _ _ h => h))), .inr (.inr (.inr (fun _ _ _ _ _ h => h))), .inr (.inr (.inr (fun _ _ _ _ _ h => h))), .inr (.inr (.inr (fun _ _ _ _ h h0 => by cases h; exact h0))), .inr (.inr (.inr (fun _ _ _ _ h h0 => by cases h; exact h0))), .inr (.inr (.inr (fun _ _ _ _ _ h => h))), .inr (.inr (.inr (fun _ _ _ _ _ h => h))), .inr (.inr (.inr (fun _ _ _ _ _ h => h))), .inr (.inr (.inr (fun _ _ _ _ _ h => h))), .inl rfl, trivial⟩, trivial⟩
    · refine ⟨?_, ?_, ?_, ?_, ?_, ?_, ?_, ?_, ?_, ?_, ?_, ?_, ?_, ?_, ?_, trivial⟩
      · -- 0: Op.buildSlice 42 3 #[(0, Operand.const (Value.string { data := #[100, 111, 109, 97, 105, 110] })), (1, Operand
        refine step_plain [] (fun _ => rfl) rfl ?_
        intro w1 vals hC1 hi0 hf E hE
        clear hi0
        clear hf
        simp only [puts, act_put, act_put_none, List.setIfInBounds_toArray, List.set_cons_zero, List.set_cons_succ] at hE ⊢
        go_wp2
        exact .mk (hE _ _ ⟨_, rfl, Blk.new _ _ _⟩ (hC1.alloc hC1.size _) ((Below.refl _ _).alloc (Nat.le_refl _) _))
      · -- 1: Op.fieldAddr 28 (Operand.tmp 1) 0
        refine step_plain [] (fun _ => rfl) rfl ?_
        intro w1 vals hC1 hi0 hf E hE
        clear hi0
        clear hf
        simp only [puts, act_put, act_put_none, List.setIfInBounds_toArray, List.set_cons_zero, List.set_cons_succ] at hE ⊢
        go_wp2
        exact .mk (hE _ _ rfl hC1 rfl)
      · -- 2: Op.load 9 (Operand.tmp 27)
        refine step_plain [(1, some 27)] (fun _ => rfl) rfl ?_
        intro w1 vals hC1 hi0 hf E hE
        clear hi0
        have f1 : vals 1 = .pointer (some ⟨w.heap.size, 0, none⟩) := hf 1 rfl
        try dsimp only at f1
        clear hf
        simp only [puts, act_put, act_put_none, List.setIfInBounds_toArray, List.set_cons_zero, List.set_cons_succ, f1] at hE ⊢
        clear f1
        have d0 := (HK9.out.below hC1 HK9.out.lt).cell 0
        simp only [List.getElem?_toArray, List.getElem?_cons_zero] at d0
        go_wp2
        exact .mk (hE _ _ rfl hC1 rfl)
      · -- 3: Op.call { callee := Callee.value (Operand.func 19), args := #[Operand.tmp 28], argTypes := #[9] }
        refine step_plain [(2, some 28)] (fun _ => rfl) rfl ?_
        intro w1 vals hC1 hi0 hf E hE
        clear hi0
        have f2 : vals 2 = .string (bs exD) := hf 2 rfl
        try dsimp only at f2
        clear hf
        simp only [puts, act_put, act_put_none, List.setIfInBounds_toArray, List.set_cons_zero, List.set_cons_succ, f2] at hE ⊢
        clear f2
        go_wp2_with fail
        refine calls_then (HTX.out _) ?_
        rintro e w2 ⟨rfl, hb2⟩
        go_wp2_with fail
        exact .mk (hE _ _ rfl (hC1.trans (hb2.mono hC1.size)) hb2)
      · -- 4: Op.load 45 (Operand.tmp 4)
        refine step_plain [] (fun _ => rfl) rfl ?_
        intro w1 vals hC1 hi0 hf E hE
        clear hi0
        clear hf
        simp only [puts, act_put, act_put_none, List.setIfInBounds_toArray, List.set_cons_zero, List.set_cons_succ] at hE ⊢
        refine wpList_get_box (cs := jvCells (flatV 4 0 [])) (HKJ.out.below hC1 HKJ.out.lt) rfl rfl rfl hu rfl jT_size4 ?_
        go_wp2_with fail
        exact .mk (hE _ _ rfl hC1 rfl)
      · -- 5: Op.fieldAddr 28 (Operand.tmp 1) 1
        refine step_plain [] (fun _ => rfl) rfl ?_
        intro w1 vals hC1 hi0 hf E hE
        clear hi0
        clear hf
        simp only [puts, act_put, act_put_none, List.setIfInBounds_toArray, List.set_cons_zero, List.set_cons_succ] at hE ⊢
        go_wp2
        exact .mk (hE _ _ rfl hC1 rfl)
      · -- 6: Op.load 3 (Operand.tmp 31)
        refine step_plain [(5, some 31)] (fun _ => rfl) rfl ?_
        intro w1 vals hC1 hi0 hf E hE
        clear hi0
        have f5 : vals 5 = .pointer (some ⟨w.heap.size, 1, none⟩) := hf 5 rfl
        try dsimp only at f5
        clear hf
        simp only [puts, act_put, act_put_none, List.setIfInBounds_toArray, List.set_cons_zero, List.set_cons_succ, f5] at hE ⊢
        clear f5
        have d0 := (HK9.out.below hC1 HK9.out.lt).cell 1
        simp only [List.getElem?_toArray, List.getElem?_cons_zero, List.getElem?_cons_succ] at d0
        go_wp2
        exact .mk (hE _ _ rfl hC1 rfl)
      · -- 7: Op.build 45 #[(0, Operand.const (Value.int IntKind.i64 2)), (1, Operand.tmp 32)]
        refine step_plain [(6, some 32)] (fun _ => rfl) rfl ?_
        intro w1 vals hC1 hi0 hf E hE
        clear hi0
        have f6 : vals 6 = .int .i64 3 := hf 6 rfl
        try dsimp only at f6
        clear hf
        simp only [puts, act_put, act_put_none, List.setIfInBounds_toArray, List.set_cons_zero, List.set_cons_succ, f6] at hE ⊢
        clear f6
        go_wp2
        exact .mk (hE _ _ rfl hC1 rfl)
      · -- 8: Op.buildSlice 43 3 #[(0, Operand.tmp 29), (1, Operand.tmp 30), (2, Operand.tmp 33)]
        refine step_plain [(3, some 29), (4, some 30), (7, some 33)] (fun _ => rfl) rfl ?_
        intro w1 vals hC1 hi0 hf E hE
        clear hi0
        have f3 : vals 3 = .agg (jvCells (flatV 3 0 exD)) := hf 3 rfl
        have f4 : vals 4 = .agg (jvCells (flatV 4 0 [])) := hf 4 rfl
        have f7 : vals 7 = .agg (jvCells (flatV 2 3 [])) := hf 7 rfl
        try dsimp only at f3 f4 f7
        clear hf
        simp only [puts, act_put, act_put_none, List.setIfInBounds_toArray, List.set_cons_zero, List.set_cons_succ, f3, f4, f7] at hE ⊢
        clear f3 f4 f7
        unfold jvCells flatV
        go_wp2
        exact .mk (hE _ _ ⟨_, rfl, Blk.new _ _ _⟩ (hC1.alloc hC1.size _) ((Below.refl _ _).alloc (Nat.le_refl _) _))
      · -- 9: Op.build 45 #[(0, Operand.const (Value.int IntKind.i64 5)), (3, Operand.tmp 26), (4, Operand.tmp 34)]
        refine step_plain [(0, some 26), (8, some 34)] (fun _ => rfl) rfl ?_
        intro w1 vals hC1 hi0 hf E hE
        clear hi0
        have f0 : (fun v u => RowAt u 9 3 [.string (bs [100, 111, 109, 97, 105, 110]), .string (bs [107, 101, 121, 115]), .string (bs [110, 117, 109, 98, 101, 114])] v) (vals 0) w1 := hf 0 rfl
        have f8 : (fun v u => RowAt u 45 3 (rowsV jvCells [flatV 3 0 exD, flatV 4 0 [], flatV 2 3 []]) v) (vals 8) w1 := hf 8 rfl
        try dsimp only at f0 f8
        clear hf
        obtain ⟨g0, hx0, hg0⟩ := f0
        obtain ⟨g8, hx8, hg8⟩ := f8
        simp only [puts, act_put, act_put_none, List.setIfInBounds_toArray, List.set_cons_zero, List.set_cons_succ, hx0, hx8] at hE ⊢
        clear hx0 hx8
        go_wp2
        exact .mk (hE _ _ ⟨_, rfl, bundle_rep exB (flatV 4 0 []) hg0 hg8 (JRep.flat _ _ _ _ _)⟩ hC1 rfl)
      · -- 10: Op.call { callee := Callee.value (Operand.func 18), args := #[Operand.tmp 35], argTypes := #[45] }
        refine step_plain [(9, some 35), (3, some 29)] (fun _ => rfl) rfl ?_
        intro w1 vals hC1 hi0 hf E hE
        clear hi0
        have f3 : vals 3 = .agg (jvCells (flatV 3 0 exD)) := hf 3 rfl
        have f9 : (fun v u => ∃ jv, v = .agg (jvCells jv) ∧ JRep u (fun b => b < u.heap.size) (bundleJ exB) jv) (vals 9) w1 := hf 9 rfl
        try dsimp only at f3 f9
        clear hf
        obtain ⟨jv, hx9, hj9⟩ := f9
        simp only [puts, act_put, act_put_none, List.setIfInBounds_toArray, List.set_cons_zero, List.set_cons_succ, f3, hx9] at hE ⊢
        clear f3
        clear hx9
        go_wp2_with fail
        refine calls_then (HWR.out _ _ hj9) ?_
        rintro e w2 ⟨rfl, hb2⟩
        go_wp2_with fail
        exact .mk (hE _ _ rfl (hC1.trans (hb2.mono hC1.size)) hb2)
      · -- 11: Op.extract (Operand.tmp 36) 0
        refine step_plain [(10, some 36)] (fun _ => rfl) rfl ?_
        intro w1 vals hC1 hi0 hf E hE
        clear hi0
        have f10 : vals 10 = .tuple #[.string (bs (wrE (bundleJ exB)).1), .int .i64 (wrE (bundleJ exB)).2] := hf 10 rfl
        try dsimp only at f10
        clear hf
        simp only [puts, act_put, act_put_none, List.setIfInBounds_toArray, List.set_cons_zero, List.set_cons_succ, f10] at hE ⊢
        clear f10
        go_wp2
        exact .mk (hE _ _ rfl hC1 rfl)
      · -- 12: Op.extract (Operand.tmp 36) 1
        refine step_plain [(10, some 36)] (fun _ => rfl) rfl ?_
        intro w1 vals hC1 hi0 hf E hE
        clear hi0
        have f10 : vals 10 = .tuple #[.string (bs (wrE (bundleJ exB)).1), .int .i64 (wrE (bundleJ exB)).2] := hf 10 rfl
        try dsimp only at f10
        clear hf
        simp only [puts, act_put, act_put_none, List.setIfInBounds_toArray, List.set_cons_zero, List.set_cons_succ, f10] at hE ⊢
        clear f10
        go_wp2
        exact .mk (hE _ _ rfl hC1 rfl)
      · -- 13: Op.assign (Operand.tmp 37)
        refine step_plain [(11, some 37), (10, some 36), (0, some 26), (1, some 27), (2, some 28), (3, some 29), (4, some 30), (5, some 31), (6, some 32), (7, some 33), (8, some 34), (9, some 35), (10, some 36), (11, some 37), (12, some 38)] (fun _ => rfl) rfl ?_
        intro w1 vals hC1 hi0 hf E hE
        clear hi0
        have f0 : (fun v u => RowAt u 9 3 [.string (bs [100, 111, 109, 97, 105, 110]), .string (bs [107, 101, 121, 115]), .string (bs [110, 117, 109, 98, 101, 114])] v) (vals 0) w1 := hf 0 rfl
        have f1 : vals 1 = .pointer (some ⟨w.heap.size, 0, none⟩) := hf 1 rfl
        have f2 : vals 2 = .string (bs exD) := hf 2 rfl
        have f3 : vals 3 = .agg (jvCells (flatV 3 0 exD)) := hf 3 rfl
        have f4 : vals 4 = .agg (jvCells (flatV 4 0 [])) := hf 4 rfl
        have f5 : vals 5 = .pointer (some ⟨w.heap.size, 1, none⟩) := hf 5 rfl
        have f6 : vals 6 = .int .i64 3 := hf 6 rfl
        have f7 : vals 7 = .agg (jvCells (flatV 2 3 [])) := hf 7 rfl
        have f8 : (fun v u => RowAt u 45 3 (rowsV jvCells [flatV 3 0 exD, flatV 4 0 [], flatV 2 3 []]) v) (vals 8) w1 := hf 8 rfl
        have f9 : (fun v u => ∃ jv, v = .agg (jvCells jv) ∧ JRep u (fun b => b < u.heap.size) (bundleJ exB) jv) (vals 9) w1 := hf 9 rfl
        have f10 : vals 10 = .tuple #[.string (bs (wrE (bundleJ exB)).1), .int .i64 (wrE (bundleJ exB)).2] := hf 10 rfl
        have f11 : vals 11 = .string (bs (wrE (bundleJ exB)).1) := hf 11 rfl
        have f12 : vals 12 = .int .i64 (wrE (bundleJ exB)).2 := hf 12 rfl
        try dsimp only at f0 f1 f2 f3 f4 f5 f6 f7 f8 f9 f10 f11 f12
        clear hf
        simp only [puts, act_put, act_put_none, List.setIfInBounds_toArray, List.set_cons_zero, List.set_cons_succ, f1, f2, f3, f4, f5, f6, f7, f10, f11, f12] at hE ⊢
        clear f1 f2 f3 f4 f5 f6 f7 f10 f11 f12
        go_wp2
        exact .mk (hE _ _ rfl hC1 rfl)
      · -- 14: Op.assign (Operand.tmp 38)
        refine step_plain [(12, some 38), (13, some 2), (0, some 26), (1, some 27), (2, some 28), (3, some 29), (4, some 30), (5, some 31), (6, some 32), (7, some 33), (8, some 34), (9, some 35), (10, some 36), (11, some 37), (12, some 38), (13, some 2)] (fun _ => rfl) rfl ?_
        intro w1 vals hC1 hi0 hf E hE
        clear hi0
        have f0 : (fun v u => RowAt u 9 3 [.string (bs [100, 111, 109, 97, 105, 110]), .string (bs [107, 101, 121, 115]), .string (bs [110, 117, 109, 98, 101, 114])] v) (vals 0) w1 := hf 0 rfl
        have f1 : vals 1 = .pointer (some ⟨w.heap.size, 0, none⟩) := hf 1 rfl
        have f2 : vals 2 = .string (bs exD) := hf 2 rfl
        have f3 : vals 3 = .agg (jvCells (flatV 3 0 exD)) := hf 3 rfl
        have f4 : vals 4 = .agg (jvCells (flatV 4 0 [])) := hf 4 rfl
        have f5 : vals 5 = .pointer (some ⟨w.heap.size, 1, none⟩) := hf 5 rfl
        have f6 : vals 6 = .int .i64 3 := hf 6 rfl
        have f7 : vals 7 = .agg (jvCells (flatV 2 3 [])) := hf 7 rfl
        have f8 : (fun v u => RowAt u 45 3 (rowsV jvCells [flatV 3 0 exD, flatV 4 0 [], flatV 2 3 []]) v) (vals 8) w1 := hf 8 rfl
        have f9 : (fun v u => ∃ jv, v = .agg (jvCells jv) ∧ JRep u (fun b => b < u.heap.size) (bundleJ exB) jv) (vals 9) w1 := hf 9 rfl
        have f10 : vals 10 = .tuple #[.string (bs (wrE (bundleJ exB)).1), .int .i64 (wrE (bundleJ exB)).2] := hf 10 rfl
        have f11 : vals 11 = .string (bs (wrE (bundleJ exB)).1) := hf 11 rfl
        have f12 : vals 12 = .int .i64 (wrE (bundleJ exB)).2 := hf 12 rfl
        have f13 : vals 13 = .string (bs (wrE (bundleJ exB)).1) := hf 13 rfl
        try dsimp only at f0 f1 f2 f3 f4 f5 f6 f7 f8 f9 f10 f11 f12 f13
        clear hf
        simp only [puts, act_put, act_put_none, List.setIfInBounds_toArray, List.set_cons_zero, List.set_cons_succ, f1, f2, f3, f4, f5, f6, f7, f10, f11, f12, f13] at hE ⊢
        clear f1 f2 f3 f4 f5 f6 f7 f10 f11 f12 f13
        go_wp2
        exact .mk (hE _ _ rfl hC1 rfl)
    intro w1 vals hC1 hf
    have f0 : (fun v u => RowAt u 9 3 [.string (bs [100, 111, 109, 97, 105, 110]), .string (bs [107, 101, 121, 115]), .string (bs [110, 117, 109, 98, 101, 114])] v) (vals 0) w1 := hf 0 (by decide) rfl
    have f1 : vals 1 = .pointer (some ⟨w.heap.size, 0, none⟩) := hf 1 (by decide) rfl
    have f2 : vals 2 = .string (bs exD) := hf 2 (by decide) rfl
    have f3 : vals 3 = .agg (jvCells (flatV 3 0 exD)) := hf 3 (by decide) rfl
    have f4 : vals 4 = .agg (jvCells (flatV 4 0 [])) := hf 4 (by decide) rfl
    have f5 : vals 5 = .pointer (some ⟨w.heap.size, 1, none⟩) := hf 5 (by decide) rfl
    have f6 : vals 6 = .int .i64 3 := hf 6 (by decide) rfl
    have f7 : vals 7 = .agg (jvCells (flatV 2 3 [])) := hf 7 (by decide) rfl
    have f8 : (fun v u => RowAt u 45 3 (rowsV jvCells [flatV 3 0 exD, flatV 4 0 [], flatV 2 3 []]) v) (vals 8) w1 := hf 8 (by decide) rfl
    have f9 : (fun v u => ∃ jv, v = .agg (jvCells jv) ∧ JRep u (fun b => b < u.heap.size) (bundleJ exB) jv) (vals 9) w1 := hf 9 (by decide) rfl
    have f10 : vals 10 = .tuple #[.string (bs (wrE (bundleJ exB)).1), .int .i64 (wrE (bundleJ exB)).2] := hf 10 (by decide) rfl
    have f11 : vals 11 = .string (bs (wrE (bundleJ exB)).1) := hf 11 (by decide) rfl
    have f12 : vals 12 = .int .i64 (wrE (bundleJ exB)).2 := hf 12 (by decide) rfl
    have f13 : vals 13 = .string (bs (wrE (bundleJ exB)).1) := hf 13 (by decide) rfl
    have f14 : vals 14 = .int .i64 (wrE (bundleJ exB)).2 := hf 14 (by decide) rfl
    try dsimp only at f0 f1 f2 f3 f4 f5 f6 f7 f8 f9 f10 f11 f12 f13 f14
    clear hf
    simp only [puts, act_put, act_put_none, List.setIfInBounds_toArray, List.set_cons_zero, List.set_cons_succ, f1, f2, f3, f4, f5, f6, f7, f10, f11, f12, f13, f14]
    clear f1 f2 f3 f4 f5 f6 f7 f10 f11 f12 f13 f14
    generalize vals 0 = x0 at *
    generalize vals 8 = x8 at *
    generalize vals 9 = x9 at *
    have HC9 := Lib.hid hC1
    rw [HR.out]
    go_wp2_with fail
    go_ret2
    exact ⟨rfl, HF9.out.trans (HC9.out.mono HF9.out.size)⟩
set_option maxRecDepth 100000 in
set_option maxHeartbeats 4000000 in
theorem jlives_any (w : World) : Calls Tryd.prog 8 #[] w fun e w' => e = .returned (.bool true) ∧ Below w.heap.size w w' := by
  have C := Lib.hid (show Calls Tryd.prog 10 #[.agg #[.string ⟨#[97, 46, 111, 114, 103]⟩, .int .i64 3, .slice none 0 0]] w fun e w' => e = .returned (.tuple #[.string ⟨#[123, 34, 100, 111, 109, 97, 105, 110, 34, 58, 34, 97, 46, 111, 114, 103, 34, 44, 34, 107, 101, 121, 115, 34, 58, 91, 93, 44, 34, 110, 117, 109, 98, 101, 114, 34, 58, 51, 125]⟩, .int .i64 0]) ∧ Below w.heap.size w w' from by
    refine (write0_any w).mono ?_
    rintro e w' ⟨rfl, hb⟩
    rw [exB_right]
    exact ⟨rfl, hb⟩)
  go_enter Tryd.func8, Tryd.ntmps8
  go_wp2_with fail
  refine calls_then C.out ?_
  rintro e w2 ⟨rfl, hb2⟩
  have HB := Lib.hid hb2
  clear hb2
  go_wp2_with fail
  go_ret
  exact ⟨rfl, HB.out⟩
end Go.Proofs.YtlkikjeccamheaaDoor.Js
/-
  Walks: sha's form.turned, form.all, cut.
-/
namespace Go.Proofs.YtlkikjeccamheaaDoor.Sh
set_option linter.unusedSimpArgs false
set_option linter.unusedVariables false
open Go.RowKit
def f64C : Array Value := #[.int .i64 64, .int .i64 80, .int .i64 28, .int .i64 34, .int .i64 39, .int .i64 14, .int .i64 18, .int .i64 41, .int .i64 1, .int .i64 8, .int .i64 7, .int .i64 19, .int .i64 61, .int .i64 6]
def f32C : Array Value := #[.int .i64 32, .int .i64 64, .int .i64 2, .int .i64 13, .int .i64 22, .int .i64 6, .int .i64 11, .int .i64 25, .int .i64 7, .int .i64 18, .int .i64 3, .int .i64 17, .int .i64 19, .int .i64 10]
theorem below_new (w : World) (o : Obj) : Below w.heap.size w (w.alloc o) := (Below.refl _ _).alloc (Nat.le_refl _) _
theorem turned32_any (x n : Nat) (w : World) (hx : x < 18446744073709551616) (hn : n < 32) :
    Calls Tryd.prog 76 #[.agg f32C, .int .u64 x, .int .i64 n] w fun e w' => e = .returned (.int .u64 (turnedN 32 x n : Nat)) ∧ Below w.heap.size w w' := by
  have c0 := (Blk.new w 57 f32C).cell 0
  simp only [f32C, List.getElem?_toArray, List.getElem?_cons_zero] at c0
  have hnn : (0 : Int) ≤ (32 : Int) - (n : Int) := by omega
  have hn1 : (n : Int) < 32 := by omega
  have hx1 : (x : Int) < 18446744073709551616 := by omega
  have HX := Lib.hid hx
  clear hx
  rw [f32C]
  go_enter Tryd.func76, Tryd.ntmps76
  go_wp2
  go_quiet (fail)
  go_wp2
  go_ret
  refine ⟨ret_int' ?_, below_drewN' (below_new _ _) _⟩
  exact rot_walk32' x n
theorem form_size : (Tryd.prog.info? 57).map (·.size) = some 14 := by kernel_rfl
set_option maxHeartbeats 1000000 in
theorem all32_any (x p q c : Nat) (shift : Bool) (w : World) (hx : x < 18446744073709551616) (hp : p < 32) (hq : q < 32) (hc : c < 32) :
    Calls Tryd.prog 56 #[.agg f32C, .int .u64 x, .agg #[.int .i64 p, .int .i64 q, .int .i64 c], .bool shift] w fun e w' => e = .returned (.int .u64 (allN 32 x p q c shift : Nat)) ∧ Below w.heap.size w w' := by
  obtain ⟨W0, hW0⟩ : ∃ W0, W0 = ((w.alloc (.cells f32C 57)).alloc (.cells #[.int .i64 p, .int .i64 q, .int .i64 c] 53)) := ⟨_, rfl⟩
  have hb : Below w.heap.size w W0 := by rw [hW0]; exact (below_new _ _).alloc (by simp) _
  have hb4 : Blk W0 w.heap.size 57 f32C := by rw [hW0]; exact (Blk.new _ _ _).alloc _
  have hb6 : Blk W0 (w.heap.size + 1) 53 #[.int .i64 p, .int .i64 q, .int .i64 c] := by
    have := Blk.new (w.alloc (.cells f32C 57)) 53 #[.int .i64 p, .int .i64 q, .int .i64 c]
    rw [hW0]; simpa using this
  have hl4 := hb4.lt
  have hl6 := hb6.lt
  have HB := Lib.hid hb
  have H4 := Lib.hid hb4
  have H6 := Lib.hid hb6
  have HW := Lib.hid hW0
  have hu := Tryd.underlying57
  have hx1 : (x : Int) < 18446744073709551616 := by omega
  have HX := Lib.hid hx
  have hc1 : (c : Int) < 32 := by omega
  obtain ⟨L, hL⟩ : ∃ L : Nat, L = lastN 32 x c shift := ⟨_, rfl⟩
  have HL := Lib.hid hL
  have c2 := hb6.cell 2
  simp at c2
  have hb40 := hb4
  have c20 := c2
  rw [hW0] at hb40 c20
  have hHC : ∀ (f : List Value), f = f := fun _ => rfl
  clear hb hb4 hb6 hW0 hx hL hHC
  cases shift with
  | false =>
    go_enter Tryd.func56, Tryd.ntmps56
    go_wp2_with (refine wpList_get_box (x := .tmp 4) hb40 rfl rfl rfl hu rfl form_size ?_)
    rw [← HW.out]
    clear hb40 c20
    refine calls_then (turned32_any x c W0 HX.out hc) ?_
    rintro e w1 ⟨rfl, hb1⟩
    rw [show turnedN 32 x c = L from HL.out.symm]
    have g4 := H4.out.below hb1 hl4
    have g6 := H6.out.below hb1 hl6
    have hBw := HB.out.trans (hb1.mono HB.out.size)
    have h14 := g4.lt
    have h16 := g6.lt
    have G4 := Lib.hid g4
    have G6 := Lib.hid g6
    have HBw := Lib.hid hBw
    clear g4 g6 hBw hb1 c2
    go_wp2_with fail
    have HC0 : Below w1.heap.size w1 w1.drew := (Below.refl _ _).drew
    refine wp_region_det (fun u => Below w1.heap.size w1 u) (fun u => Below w1.heap.size w1 u) [(0, some 20), (1, some 21), (2, some 22), (3, some 23), (4, some 24), (5, some 25), (6, some 26), (7, some 27), (8, some 28), (9, some 29), (10, some 30), (11, some 31), (12, some 32), (13, some 8)] (by kernel_rfl) (by kernel_rfl) (by decide) (by kernel_rfl) (fun _ => rfl) HC0 ?_
    apply DetL.next
    · -- 0: Op.load 57 (Operand.tmp 4)
      apply detStep_plain []
      exact fun _ => rfl
      rfl
      rintro vals - w1 hC1 E hE
      simp only [puts, act_put, act_put_none, List.setIfInBounds_toArray, List.set_cons_zero, List.set_cons_succ] at hE ⊢
      refine wpList_get_box (G4.out.below hC1 h14) rfl rfl rfl hu rfl form_size ?_
      go_wp2_with fail
      exact .mk (hE _ hC1)
    apply DetL.next
    · -- 1: Op.move (Operand.tmp 1)
      apply detStep_plain []
      exact fun _ => rfl
      rfl
      rintro vals ⟨-, -⟩ w1 hC1 E hE
      simp only [puts, act_put, act_put_none, List.setIfInBounds_toArray, List.set_cons_zero, List.set_cons_succ] at hE ⊢
      go_wp2
      exact .mk (hE _ hC1)
    apply DetL.next
    · -- 2: Op.indexAddr 53 (Operand.tmp 6) (Operand.const (Value.int IntKind.i64 0))
      apply detStep_plain []
      exact fun _ => rfl
      rfl
      rintro vals ⟨⟨-, -⟩, -⟩ w1 hC1 E hE
      simp only [puts, act_put, act_put_none, List.setIfInBounds_toArray, List.set_cons_zero, List.set_cons_succ] at hE ⊢
      go_wp2
      exact .mk (hE _ hC1)
    apply DetL.next
    · -- 3: Op.load 3 (Operand.tmp 22)
      apply detStep_plain [(2, some 22)]
      exact fun _ => rfl
      rfl
      rintro vals ⟨⟨⟨-, -⟩, -⟩, f2⟩ w1 hC1 E hE
      have d0 := (G6.out.below hC1 h16).cell 0
      simp at d0
      simp only [puts, act_put, act_put_none, List.setIfInBounds_toArray, List.set_cons_zero, List.set_cons_succ, f2] at hE ⊢
      clear f2
      go_wp2
      exact .mk (hE _ hC1)
    apply DetL.next
    · -- 4: Op.call { callee := Callee.value (Operand.func 76), args := #[Operand.tmp 20, Operand.tmp 21, Operand.tmp 23],
      apply detStep_plain [(0, some 20), (1, some 21), (3, some 23)]
      exact fun _ => rfl
      rfl
      rintro vals ⟨⟨⟨⟨-, f0⟩, f1⟩, -⟩, f3⟩ w1 hC1 E hE
      simp only [puts, act_put, act_put_none, List.setIfInBounds_toArray, List.set_cons_zero, List.set_cons_succ, f0, f1, f3] at hE ⊢
      clear f0 f1 f3
      go_wp2_with fail
      refine calls_then (turned32_any x p _ HX.out hp) ?_
      rintro e w2 ⟨rfl, hb2⟩
      go_wp2_with fail
      exact .mk (hE _ (hC1.trans (hb2.mono hC1.size)))
    apply DetL.next
    · -- 5: Op.load 57 (Operand.tmp 4)
      apply detStep_plain []
      exact fun _ => rfl
      rfl
      rintro vals ⟨⟨⟨⟨⟨-, -⟩, -⟩, -⟩, -⟩, -⟩ w1 hC1 E hE
      simp only [puts, act_put, act_put_none, List.setIfInBounds_toArray, List.set_cons_zero, List.set_cons_succ] at hE ⊢
      refine wpList_get_box (G4.out.below hC1 h14) rfl rfl rfl hu rfl form_size ?_
      go_wp2_with fail
      exact .mk (hE _ hC1)
    apply DetL.next
    · -- 6: Op.move (Operand.tmp 1)
      apply detStep_plain []
      exact fun _ => rfl
      rfl
      rintro vals ⟨⟨⟨⟨⟨⟨-, -⟩, -⟩, -⟩, -⟩, -⟩, -⟩ w1 hC1 E hE
      simp only [puts, act_put, act_put_none, List.setIfInBounds_toArray, List.set_cons_zero, List.set_cons_succ] at hE ⊢
      go_wp2
      exact .mk (hE _ hC1)
    apply DetL.next
    · -- 7: Op.indexAddr 53 (Operand.tmp 6) (Operand.const (Value.int IntKind.i64 1))
      apply detStep_plain []
      exact fun _ => rfl
      rfl
      rintro vals ⟨⟨⟨⟨⟨⟨⟨-, -⟩, -⟩, -⟩, -⟩, -⟩, -⟩, -⟩ w1 hC1 E hE
      simp only [puts, act_put, act_put_none, List.setIfInBounds_toArray, List.set_cons_zero, List.set_cons_succ] at hE ⊢
      go_wp2
      exact .mk (hE _ hC1)
    apply DetL.next
    · -- 8: Op.load 3 (Operand.tmp 27)
      apply detStep_plain [(7, some 27)]
      exact fun _ => rfl
      rfl
      rintro vals ⟨⟨⟨⟨⟨⟨⟨⟨-, -⟩, -⟩, -⟩, -⟩, -⟩, -⟩, -⟩, f7⟩ w1 hC1 E hE
      have d0 := (G6.out.below hC1 h16).cell 1
      simp at d0
      simp only [puts, act_put, act_put_none, List.setIfInBounds_toArray, List.set_cons_zero, List.set_cons_succ, f7] at hE ⊢
      clear f7
      go_wp2
      exact .mk (hE _ hC1)
    apply DetL.next
    · -- 9: Op.call { callee := Callee.value (Operand.func 76), args := #[Operand.tmp 25, Operand.tmp 26, Operand.tmp 28],
      apply detStep_plain [(5, some 25), (6, some 26), (8, some 28), (4, some 24)]
      exact fun _ => rfl
      rfl
      rintro vals ⟨⟨⟨⟨⟨⟨⟨⟨⟨-, -⟩, -⟩, -⟩, -⟩, f4⟩, f5⟩, f6⟩, -⟩, f8⟩ w1 hC1 E hE
      simp only [puts, act_put, act_put_none, List.setIfInBounds_toArray, List.set_cons_zero, List.set_cons_succ, f4, f5, f6, f8] at hE ⊢
      clear f4 f5 f6 f8
      go_wp2_with fail
      refine calls_then (turned32_any x q _ HX.out hq) ?_
      rintro e w2 ⟨rfl, hb2⟩
      go_wp2_with fail
      exact .mk (hE _ (hC1.trans (hb2.mono hC1.size)))
    apply DetL.next
    · -- 10: Op.binOp BinOp.xor 75 (Operand.tmp 24) (Operand.tmp 29) 75
      apply detStep_plain [(4, some 24), (9, some 29)]
      exact fun _ => rfl
      rfl
      rintro vals ⟨⟨⟨⟨⟨⟨⟨⟨⟨⟨-, -⟩, -⟩, -⟩, -⟩, f4⟩, -⟩, -⟩, -⟩, -⟩, f9⟩ w1 hC1 E hE
      simp only [puts, act_put, act_put_none, List.setIfInBounds_toArray, List.set_cons_zero, List.set_cons_succ, f4, f9] at hE ⊢
      clear f4 f9
      go_wp2
      exact .mk (hE _ hC1)
    apply DetL.next
    · -- 11: Op.move (Operand.tmp 9)
      apply detStep_plain []
      exact fun _ => rfl
      rfl
      rintro vals ⟨⟨⟨⟨⟨⟨⟨⟨⟨⟨⟨-, -⟩, -⟩, -⟩, -⟩, -⟩, -⟩, -⟩, -⟩, -⟩, -⟩, -⟩ w1 hC1 E hE
      simp only [puts, act_put, act_put_none, List.setIfInBounds_toArray, List.set_cons_zero, List.set_cons_succ] at hE ⊢
      go_wp2
      exact .mk (hE _ hC1)
    apply DetL.next
    · -- 12: Op.binOp BinOp.xor 75 (Operand.tmp 30) (Operand.tmp 31) 75
      apply detStep_plain [(10, some 30), (11, some 31)]
      exact fun _ => rfl
      rfl
      rintro vals ⟨⟨⟨⟨⟨⟨⟨⟨⟨⟨⟨⟨-, -⟩, -⟩, -⟩, -⟩, -⟩, -⟩, -⟩, -⟩, -⟩, -⟩, f10⟩, f11⟩ w1 hC1 E hE
      simp only [puts, act_put, act_put_none, List.setIfInBounds_toArray, List.set_cons_zero, List.set_cons_succ, f10, f11] at hE ⊢
      clear f10 f11
      go_wp2
      exact .mk (hE _ hC1)
    apply DetL.last
    · -- 13: Op.assign (Operand.tmp 32)
      apply detStep_plain [(12, some 32), (9, some 29), (0, some 20), (1, some 21), (2, some 22), (3, some 23), (4, some 24), (5, some 25), (6, some 26), (7, some 27), (8, some 28), (9, some 29), (10, some 30), (11, some 31), (12, some 32)]
      exact fun _ => rfl
      rfl
      rintro vals ⟨⟨⟨⟨⟨⟨⟨⟨⟨⟨⟨⟨⟨-, f0⟩, f1⟩, f2⟩, f3⟩, f4⟩, f5⟩, f6⟩, f7⟩, f8⟩, f9⟩, f10⟩, f11⟩, f12⟩ w1 hC1 E hE
      simp only [puts, act_put, act_put_none, List.setIfInBounds_toArray, List.set_cons_zero, List.set_cons_succ, f0, f1, f2, f3, f4, f5, f6, f7, f8, f9, f10, f11, f12] at hE ⊢
      clear f0 f1 f2 f3 f4 f5 f6 f7 f8 f9 f10 f11 f12
      go_wp2
      exact .mk (hE _ hC1)
    rintro vals ⟨⟨⟨⟨⟨⟨⟨⟨⟨⟨⟨⟨⟨⟨-, f0⟩, f1⟩, f2⟩, f3⟩, f4⟩, f5⟩, f6⟩, f7⟩, f8⟩, f9⟩, f10⟩, f11⟩, f12⟩, f13⟩ w1 hC1
    simp only [puts, act_put, act_put_none, List.setIfInBounds_toArray, List.set_cons_zero, List.set_cons_succ, f0, f1, f2, f3, f4, f5, f6, f7, f8, f9, f10, f11, f12, f13]
    clear f0 f1 f2 f3 f4 f5 f6 f7 f8 f9 f10 f11 f12 f13
    go_wp2_with fail
    go_ret
    refine ⟨ret_int' ?_, HBw.out.trans (hC1.mono HBw.out.size)⟩
    rw [xor64 _ _ (turnedN_lt HX.out) (turnedN_lt HX.out), xor64 _ _ (xor_lt64 (turnedN_lt HX.out) (turnedN_lt HX.out)) (by rw [HL.out]; exact lastN_lt HX.out), HL.out]
    rfl
  | true =>
    go_enter Tryd.func56, Tryd.ntmps56
    go_wp2_with (refine wpList_get_box (x := .tmp 4) hb40 rfl rfl rfl hu rfl form_size ?_)
    rw [← HW.out]
    clear hb40 c20
    refine calls_then (turned32_any x c W0 HX.out hc) ?_
    rintro e w1 ⟨rfl, hb1⟩
    have g4 := H4.out.below hb1 hl4
    have g6 := H6.out.below hb1 hl6
    have hBw := HB.out.trans (hb1.mono HB.out.size)
    have h14 := g4.lt
    have h16 := g6.lt
    have cc := g6.cell 2
    simp at cc
    have G4 := Lib.hid g4
    have G6 := Lib.hid g6
    have HBw := Lib.hid hBw
    clear g4 g6 hBw hb1 c2
    go_wp2_with fail
    rw [show (x : Int) / 2 ^ c = (L : Int) by rw [HL.out, shr_int]; rfl]
    clear cc
    have HC0 : Below w1.heap.size w1 w1.drew := (Below.refl _ _).drew
    refine wp_region_det (fun u => Below w1.heap.size w1 u) (fun u => Below w1.heap.size w1 u) [(0, some 20), (1, some 21), (2, some 22), (3, some 23), (4, some 24), (5, some 25), (6, some 26), (7, some 27), (8, some 28), (9, some 29), (10, some 30), (11, some 31), (12, some 32), (13, some 8)] (by kernel_rfl) (by kernel_rfl) (by decide) (by kernel_rfl) (fun _ => rfl) HC0 ?_
    apply DetL.next
    · -- 0: Op.load 57 (Operand.tmp 4)
      apply detStep_plain []
      exact fun _ => rfl
      rfl
      rintro vals - w1 hC1 E hE
      simp only [puts, act_put, act_put_none, List.setIfInBounds_toArray, List.set_cons_zero, List.set_cons_succ] at hE ⊢
      refine wpList_get_box (G4.out.below hC1 h14) rfl rfl rfl hu rfl form_size ?_
      go_wp2_with fail
      exact .mk (hE _ hC1)
    apply DetL.next
    · -- 1: Op.move (Operand.tmp 1)
      apply detStep_plain []
      exact fun _ => rfl
      rfl
      rintro vals ⟨-, -⟩ w1 hC1 E hE
      simp only [puts, act_put, act_put_none, List.setIfInBounds_toArray, List.set_cons_zero, List.set_cons_succ] at hE ⊢
      go_wp2
      exact .mk (hE _ hC1)
    apply DetL.next
    · -- 2: Op.indexAddr 53 (Operand.tmp 6) (Operand.const (Value.int IntKind.i64 0))
      apply detStep_plain []
      exact fun _ => rfl
      rfl
      rintro vals ⟨⟨-, -⟩, -⟩ w1 hC1 E hE
      simp only [puts, act_put, act_put_none, List.setIfInBounds_toArray, List.set_cons_zero, List.set_cons_succ] at hE ⊢
      go_wp2
      exact .mk (hE _ hC1)
    apply DetL.next
    · -- 3: Op.load 3 (Operand.tmp 22)
      apply detStep_plain [(2, some 22)]
      exact fun _ => rfl
      rfl
      rintro vals ⟨⟨⟨-, -⟩, -⟩, f2⟩ w1 hC1 E hE
      have d0 := (G6.out.below hC1 h16).cell 0
      simp at d0
      simp only [puts, act_put, act_put_none, List.setIfInBounds_toArray, List.set_cons_zero, List.set_cons_succ, f2] at hE ⊢
      clear f2
      go_wp2
      exact .mk (hE _ hC1)
    apply DetL.next
    · -- 4: Op.call { callee := Callee.value (Operand.func 76), args := #[Operand.tmp 20, Operand.tmp 21, Operand.tmp 23],
      apply detStep_plain [(0, some 20), (1, some 21), (3, some 23)]
      exact fun _ => rfl
      rfl
      rintro vals ⟨⟨⟨⟨-, f0⟩, f1⟩, -⟩, f3⟩ w1 hC1 E hE
      simp only [puts, act_put, act_put_none, List.setIfInBounds_toArray, List.set_cons_zero, List.set_cons_succ, f0, f1, f3] at hE ⊢
      clear f0 f1 f3
      go_wp2_with fail
      refine calls_then (turned32_any x p _ HX.out hp) ?_
      rintro e w2 ⟨rfl, hb2⟩
      go_wp2_with fail
      exact .mk (hE _ (hC1.trans (hb2.mono hC1.size)))
    apply DetL.next
    · -- 5: Op.load 57 (Operand.tmp 4)
      apply detStep_plain []
      exact fun _ => rfl
      rfl
      rintro vals ⟨⟨⟨⟨⟨-, -⟩, -⟩, -⟩, -⟩, -⟩ w1 hC1 E hE
      simp only [puts, act_put, act_put_none, List.setIfInBounds_toArray, List.set_cons_zero, List.set_cons_succ] at hE ⊢
      refine wpList_get_box (G4.out.below hC1 h14) rfl rfl rfl hu rfl form_size ?_
      go_wp2_with fail
      exact .mk (hE _ hC1)
    apply DetL.next
    · -- 6: Op.move (Operand.tmp 1)
      apply detStep_plain []
      exact fun _ => rfl
      rfl
      rintro vals ⟨⟨⟨⟨⟨⟨-, -⟩, -⟩, -⟩, -⟩, -⟩, -⟩ w1 hC1 E hE
      simp only [puts, act_put, act_put_none, List.setIfInBounds_toArray, List.set_cons_zero, List.set_cons_succ] at hE ⊢
      go_wp2
      exact .mk (hE _ hC1)
    apply DetL.next
    · -- 7: Op.indexAddr 53 (Operand.tmp 6) (Operand.const (Value.int IntKind.i64 1))
      apply detStep_plain []
      exact fun _ => rfl
      rfl
      rintro vals ⟨⟨⟨⟨⟨⟨⟨-, -⟩, -⟩, -⟩, -⟩, -⟩, -⟩, -⟩ w1 hC1 E hE
      simp only [puts, act_put, act_put_none, List.setIfInBounds_toArray, List.set_cons_zero, List.set_cons_succ] at hE ⊢
      go_wp2
      exact .mk (hE _ hC1)
    apply DetL.next
    · -- 8: Op.load 3 (Operand.tmp 27)
      apply detStep_plain [(7, some 27)]
      exact fun _ => rfl
      rfl
      rintro vals ⟨⟨⟨⟨⟨⟨⟨⟨-, -⟩, -⟩, -⟩, -⟩, -⟩, -⟩, -⟩, f7⟩ w1 hC1 E hE
      have d0 := (G6.out.below hC1 h16).cell 1
      simp at d0
      simp only [puts, act_put, act_put_none, List.setIfInBounds_toArray, List.set_cons_zero, List.set_cons_succ, f7] at hE ⊢
      clear f7
      go_wp2
      exact .mk (hE _ hC1)
    apply DetL.next
    · -- 9: Op.call { callee := Callee.value (Operand.func 76), args := #[Operand.tmp 25, Operand.tmp 26, Operand.tmp 28],
      apply detStep_plain [(5, some 25), (6, some 26), (8, some 28), (4, some 24)]
      exact fun _ => rfl
      rfl
      rintro vals ⟨⟨⟨⟨⟨⟨⟨⟨⟨-, -⟩, -⟩, -⟩, -⟩, f4⟩, f5⟩, f6⟩, -⟩, f8⟩ w1 hC1 E hE
      simp only [puts, act_put, act_put_none, List.setIfInBounds_toArray, List.set_cons_zero, List.set_cons_succ, f4, f5, f6, f8] at hE ⊢
      clear f4 f5 f6 f8
      go_wp2_with fail
      refine calls_then (turned32_any x q _ HX.out hq) ?_
      rintro e w2 ⟨rfl, hb2⟩
      go_wp2_with fail
      exact .mk (hE _ (hC1.trans (hb2.mono hC1.size)))
    apply DetL.next
    · -- 10: Op.binOp BinOp.xor 75 (Operand.tmp 24) (Operand.tmp 29) 75
      apply detStep_plain [(4, some 24), (9, some 29)]
      exact fun _ => rfl
      rfl
      rintro vals ⟨⟨⟨⟨⟨⟨⟨⟨⟨⟨-, -⟩, -⟩, -⟩, -⟩, f4⟩, -⟩, -⟩, -⟩, -⟩, f9⟩ w1 hC1 E hE
      simp only [puts, act_put, act_put_none, List.setIfInBounds_toArray, List.set_cons_zero, List.set_cons_succ, f4, f9] at hE ⊢
      clear f4 f9
      go_wp2
      exact .mk (hE _ hC1)
    apply DetL.next
    · -- 11: Op.move (Operand.tmp 9)
      apply detStep_plain []
      exact fun _ => rfl
      rfl
      rintro vals ⟨⟨⟨⟨⟨⟨⟨⟨⟨⟨⟨-, -⟩, -⟩, -⟩, -⟩, -⟩, -⟩, -⟩, -⟩, -⟩, -⟩, -⟩ w1 hC1 E hE
      simp only [puts, act_put, act_put_none, List.setIfInBounds_toArray, List.set_cons_zero, List.set_cons_succ] at hE ⊢
      go_wp2
      exact .mk (hE _ hC1)
    apply DetL.next
    · -- 12: Op.binOp BinOp.xor 75 (Operand.tmp 30) (Operand.tmp 31) 75
      apply detStep_plain [(10, some 30), (11, some 31)]
      exact fun _ => rfl
      rfl
      rintro vals ⟨⟨⟨⟨⟨⟨⟨⟨⟨⟨⟨⟨-, -⟩, -⟩, -⟩, -⟩, -⟩, -⟩, -⟩, -⟩, -⟩, -⟩, f10⟩, f11⟩ w1 hC1 E hE
      simp only [puts, act_put, act_put_none, List.setIfInBounds_toArray, List.set_cons_zero, List.set_cons_succ, f10, f11] at hE ⊢
      clear f10 f11
      go_wp2
      exact .mk (hE _ hC1)
    apply DetL.last
    · -- 13: Op.assign (Operand.tmp 32)
      apply detStep_plain [(12, some 32), (9, some 29), (0, some 20), (1, some 21), (2, some 22), (3, some 23), (4, some 24), (5, some 25), (6, some 26), (7, some 27), (8, some 28), (9, some 29), (10, some 30), (11, some 31), (12, some 32)]
      exact fun _ => rfl
      rfl
      rintro vals ⟨⟨⟨⟨⟨⟨⟨⟨⟨⟨⟨⟨⟨-, f0⟩, f1⟩, f2⟩, f3⟩, f4⟩, f5⟩, f6⟩, f7⟩, f8⟩, f9⟩, f10⟩, f11⟩, f12⟩ w1 hC1 E hE
      simp only [puts, act_put, act_put_none, List.setIfInBounds_toArray, List.set_cons_zero, List.set_cons_succ, f0, f1, f2, f3, f4, f5, f6, f7, f8, f9, f10, f11, f12] at hE ⊢
      clear f0 f1 f2 f3 f4 f5 f6 f7 f8 f9 f10 f11 f12
      go_wp2
      exact .mk (hE _ hC1)
    rintro vals ⟨⟨⟨⟨⟨⟨⟨⟨⟨⟨⟨⟨⟨⟨-, f0⟩, f1⟩, f2⟩, f3⟩, f4⟩, f5⟩, f6⟩, f7⟩, f8⟩, f9⟩, f10⟩, f11⟩, f12⟩, f13⟩ w1 hC1
    simp only [puts, act_put, act_put_none, List.setIfInBounds_toArray, List.set_cons_zero, List.set_cons_succ, f0, f1, f2, f3, f4, f5, f6, f7, f8, f9, f10, f11, f12, f13]
    clear f0 f1 f2 f3 f4 f5 f6 f7 f8 f9 f10 f11 f12 f13
    go_wp2_with fail
    go_ret
    refine ⟨ret_int' ?_, HBw.out.trans (hC1.mono HBw.out.size)⟩
    rw [xor64 _ _ (turnedN_lt HX.out) (turnedN_lt HX.out), xor64 _ _ (xor_lt64 (turnedN_lt HX.out) (turnedN_lt HX.out)) (by rw [HL.out]; exact lastN_lt HX.out), HL.out]
    rfl
end Go.Proofs.YtlkikjeccamheaaDoor.Sh
/-
  Walk: sha's cut to 32 bits.
-/
namespace Go.Proofs.YtlkikjeccamheaaDoor.Sh
set_option linter.unusedSimpArgs false
set_option linter.unusedVariables false
open Go.RowKit
theorem cut32_any (x : Nat) (w : World) (hx : x < 18446744073709551616) : Calls Tryd.prog 32 #[.int .u64 x] w fun e w' => e = .returned (.int .u32 (x % 4294967296 : Nat)) ∧ w = w' := by
  have hx1 : (x : Int) < 18446744073709551616 := by omega
  clear hx
  go_enter Tryd.func32, Tryd.ntmps32
  go_wp2
  go_ret
  exact ⟨ret_int' (by omega), rfl⟩
end Go.Proofs.YtlkikjeccamheaaDoor.Sh
/-
  A struct or an array that is a part of a block: loaded whole; a cell stored.
-/
namespace Go.Proofs.YtlkikjeccamheaaDoor
set_option linter.unusedSimpArgs false
set_option linter.unusedVariables false
open Go.RowKit
theorem blk_setCell_at {w : World} {g i : Nat} {t : TypeId} {cs : Array Value} (h : Blk w g t cs) (u : Value) : Blk (w.setCell ⟨g, i, none⟩ u) g t (cs.setIfInBounds i u) := by
  unfold Blk at *
  simp only [World.setCell, Array.getElem?_modify, if_pos, h]
  rfl
theorem wrote_setCell_at (w : World) (g i : Nat) (u : Value) : Wrote g w (w.setCell ⟨g, i, none⟩ u) :=
  ⟨⟨rfl, rfl, rfl, by simp [World.setCell], fun k _ hk => Below.heap_setCell _ _ _ _ (by simpa using hk)⟩, by simp [World.setCell]⟩
theorem rd_drop {w : World} {B : Nat} {ad : Addr} {xs : List Value} (h : Rd w B (some ad) xs) (n : Nat) : Rd w B (some (ad.add n)) (xs.drop n) := fun i u hu => by
  rw [List.getElem?_drop] at hu
  obtain ⟨ad', e, hb, hc⟩ := h _ u hu
  injection e with e
  subst e
  refine ⟨_, rfl, by rw [block_of_add]; exact hb, ?_⟩
  rw [show (ad.add n).add i = ad.add (n + i) from ?_]
  · exact hc
  · unfold Addr.add
    by_cases h1 : n = 0 <;> by_cases h2 : i = 0 <;> simp [h1, h2, Nat.add_assoc]
theorem rd_take {w : World} {B : Nat} {A : Option Addr} {xs : List Value} (h : Rd w B A xs) (n : Nat) : Rd w B A (xs.take n) := fun i u hu => by
  rw [List.getElem?_take] at hu
  split at hu
  · exact h i u hu
  · simp at hu
theorem blk_src {w : World} {g : Nat} {t : TypeId} {cs : Array Value} (h : Blk w g t cs) (n : Nat) : ∀ j v, (cs.toList.take n)[j]? = some v → w.cell? ((⟨g, 0, none⟩ : Addr).add j) = some v := fun j v hv => by
  have hadd : (⟨g, 0, none⟩ : Addr).add j = ⟨g, j, none⟩ := by unfold Addr.add; split <;> simp_all
  rw [hadd, h.cell]
  rw [List.getElem?_take] at hv
  split at hv
  · simpa using hv
  · cases hv
section
variable {P : Program}
theorem run_loadVar_part {w : World} {g o n : Nat} {t ty : TypeId} {cs r : Array Value} {d : TypeDesc} (hg : Blk w g t cs) (ho : o + n ≤ cs.size) (hr : ((cs.toList.drop o).take n).toArray = r)
    (hu : P.underlying ty = some d) (hd : (match d with | .struct _ | .array _ _ => true | _ => false) = true) (hi : (P.info? ty).map (·.size) = some n) :
    (loadVar ty ⟨g, o, none⟩).run P w = .ok (.agg r) w := by
  subst hr
  have hlen : ((cs.toList.drop o).take n).length = n := by simp; omega
  have hl : (loadCells ⟨g, o, none⟩ ((cs.toList.drop o).take n).length).run P w = .ok ((cs.toList.drop o).take n).toArray w :=
    run_loadCells_list (P := P) w ⟨g, o, none⟩ ((cs.toList.drop o).take n) (fun j v hv => by
      have hadd : (⟨g, o, none⟩ : Addr).add j = ⟨g, o + j, none⟩ := by unfold Addr.add; split <;> simp_all
      rw [hadd, hg.cell]
      rw [List.getElem?_take] at hv
      split at hv
      · rw [List.getElem?_drop] at hv
        simpa using hv
      · cases hv)
  rw [hlen] at hl
  cases hq : P.info? ty with
  | none => simp [hq] at hi
  | some i =>
    have hs : i.size = n := by simpa [hq] using hi
    have hagg : (isAgg ty).run P w = .ok true w := by
      unfold isAgg
      rw [Sem.run_bind, run_underlying hu w]
      cases d <;> simp_all
    simp [loadVar, Sem.run_bind, hagg, sizeOf, typeInfo, hq, hs, hl]
theorem wpList_get_part {w : World} {ops : Array Oper} {rest : List Oper} {o : Oper} {a : Act} {Q : Exit → Act → World → Prop} {ty : TypeId} {x : Operand} {g k n : Nat} {cs r : Array Value} {t : TypeId} {d : TypeDesc}
    (hg : Blk w g t cs) (hk : k + n ≤ cs.size) (hr : ((cs.toList.drop k).take n).toArray = r) (hgd : o.guard = none) (ho : o.op = .load ty x) (hx : a.eval x = .pointer (some ⟨g, k, none⟩))
    (hu : P.underlying ty = some d) (hd : (match d with | .struct _ | .array _ _ => true | _ => false) = true) (hi : (P.info? ty).map (·.size) = some n)
    (h : wpList P ops Q rest (a.put o.dst (.agg r)) w) : wpList P ops Q (o :: rest) a w := by
  refine wpList_plain hgd fun K hK => ?_
  have hrun := run_loadVar_part (P := P) hg hk hr hu hd hi
  unfold Oper.wp execOp
  simp only [ho, hx, Instr.loadAt, Instr.sureAddr, Sem.run_bind, Sem.run_pure, Result.andThen_ok, hrun]
  exact hK _ _ h
theorem wpList_copy_blk {w : World} {ops : Array Oper} {rest : List Oper} {o : Oper} {a : Act} {Q : Exit → Act → World → Prop} {d s : Operand} {dT sT elem t : TypeId} {g off dLen dCap sLen sCap : Nat} {ad : Addr} {cur new : Array Value} (cs : List Value)
    (hg : Blk w g t cur) (hgd : o.guard = none) (ho : o.op = .call { callee := .builtin .copy, args := #[d, s], argTypes := #[dT, sT] }) (hu : P.underlying dT = some (.slice elem)) (hsz : (P.info? elem).map (·.size) = some 1)
    (hd : a.eval d = .slice (some ⟨g, off, none⟩) dLen dCap) (hs : a.eval s = .slice (some ad) sLen sCap) (hn : cs.length = Nat.min sLen dLen)
    (hsrc : ∀ j v, cs[j]? = some v → w.cell? (ad.add j) = some v) (hfit : off + cs.length ≤ cur.size) (h1 : ∀ v ∈ cs, v.oneCell' = true)
    (hnew : (cur.toList.take off ++ cs ++ cur.toList.drop (off + cs.length)).toArray = new)
    (h : ∀ w', Blk w' g t new → Wrote g w w' → wpList P ops Q rest (a.put o.dst (goInt cs.length)) w') : wpList P ops Q (o :: rest) a w := by
  refine wpList_plain hgd fun K hK => ?_
  have hr := run_copy_row (P := P) w dT sT o.type elem g off dLen dCap ad sLen sCap cur t cs hu hsz hg hn hsrc hfit h1
  rw [hnew] at hr
  unfold Oper.wp execOp
  simp only [ho, resolve, invoke, builtin, Sem.run_bind, Sem.run_pure, Result.andThen_ok, List.map_toArray, List.map_cons, List.map_nil, hs, hd, hr]
  exact hK _ _ (h _ (setRow_heap w g cur _ t (0, 0) hg) (wrote_setRow w g _))
theorem run_not32 {w : World} (e : Nat) (he : e < 4294967296) : (Op.unary .xor (.int .u32 (e : Int))).run P w = .ok (.int .u32 ((4294967295 - e : Nat) : Int)) w := by
  have h1 : BitVec.ofInt 32 (4294967295 : Int) = BitVec.allOnes 32 := by decide
  have h : bits .xor .u32 (4294967295 : Int) (e : Int) = ((4294967295 - e : Nat) : Int) := by
    show IntKind.u32.wrap ((BitVec.ofInt 32 (4294967295 : Int) ^^^ BitVec.ofInt 32 (e : Int)).toNat : Int) = _
    rw [h1, BitVec.allOnes_xor, BitVec.toNat_not, BitVec.ofInt_natCast, BitVec.toNat_ofNat, Nat.mod_eq_of_lt he, IntKind.wrap_u32]
    omega
  have hm : IntKind.u32.max = 4294967295 := by decide
  rw [unary_xor]
  simp only [IntKind.signed, hm, Bool.false_eq_true, if_false]
  rw [← h]
  rfl
theorem wpList_unary {w : World} {ops : Array Oper} {rest : List Oper} {o : Oper} {a : Act} {Q : Exit → Act → World → Prop} {u : UnOp} {ty : TypeId} {x : Operand} {v r : Value}
    (hr : (Op.unary u v).run P w = .ok r w) (hgd : o.guard = none) (ho : o.op = .unOp u ty x) (hx : a.eval x = v) (h : wpList P ops Q rest (a.put o.dst r) w) : wpList P ops Q (o :: rest) a w := by
  refine wpList_plain hgd fun K hK => ?_
  unfold Oper.wp execOp
  simp only [ho, hx, Sem.run_bind, Sem.run_pure, Result.andThen_ok, hr]
  exact hK _ _ h
theorem run_index_array {w : World} {t e : TypeId} {n : Nat} {cs : Array Value} {k : Nat} {v : Value} (h : P.underlying t = some (.array n e)) (hk : k < n) (hv : cs[k]? = some v) (hs : (P.info? e).map (·.size) = some 1)
    (hag : (match P.underlying e with | some (.struct _) | some (.array _ _) => true | _ => false) = false) (hu : ∃ d, P.underlying e = some d) : (Instr.index t (.agg cs) (.int .i64 (k : Int))).run P w = .ok v w := by
  obtain ⟨d, hd⟩ := hu
  have h0 : (0 : Int) ≤ (k : Int) ∧ (k : Int) < (n : Int) := by omega
  cases hq : P.info? e with
  | none => simp [hq] at hs
  | some j =>
    have hj : j.size = 1 := by simpa [hq] using hs
    have hagg : (isAgg e).run P w = .ok false w := by
      unfold isAgg
      rw [Sem.run_bind, run_underlying hd w]
      rw [hd] at hag
      cases d <;> simp_all
    simp [Instr.index, run_underlying h, asIntOf, h0, sizeOf, typeInfo, hq, hj, part, hagg, hv, go_sem]
    intro hle
    omega
end
end Go.Proofs.YtlkikjeccamheaaDoor
