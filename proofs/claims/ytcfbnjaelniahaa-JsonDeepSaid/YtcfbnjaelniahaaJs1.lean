/-
  Walks: json's reader: signs.
-/
import Derived.Test.YtcfbnjaelniahaaJsr
import Derived.Test.YtcfbnjaelniahaaProg
import Derived.Lib.Bytealg
import Derived.Lib.Strings
import Derived.Lib.Slices
import Derived.Laws.Externs
import Derived.Deep.QuietTactic
import Derived.BigQuiet
import Derived.Deep.DeepCutAuto
import Derived.Deep.LoopGhost
import Derived.Test.YtcfbnjaelniahaaDet
namespace Go.Proofs.Ytcfbnjaelniahaa.Js
set_option linter.unusedSimpArgs false
set_option linter.unusedVariables false
open Go.RowKit

set_option maxHeartbeats 1000000 in
set_option maxRecDepth 100000 in
theorem slidx_any (s : ByteArray) (c : Int) (w : World) :
    Calls Try.prog 56 #[.string s, .int .u8 c] w fun e w' => e = .returned (.int .i64 (Lib.indexByte s.data.toList c.toNat.toUInt8)) ∧ w' = w := by
  go_enter Try.func56, Try.ntmps56
  go_wp2
  rw [run_callFunc_extern Try.func63 (by kernel_rfl) (by kernel_rfl) (by kernel_rfl) (e := Extern.BytealgIndexByte.indexByte) (by kernel_rfl), Lib.run_indexByteString]
  simp only [Result.andThen]
  rw [Oper.upon_value]
  go_wp2
  go_ret
  exact ⟨rfl, rfl⟩
theorem idxb_any (s : ByteArray) (c : Int) (w : World) :
    Calls Try.prog 46 #[.string s, .int .u8 c] w fun e w' => e = .returned (.int .i64 (Lib.indexByte s.data.toList c.toNat.toUInt8)) ∧ w' = w := by
  have C := Lib.hid (slidx_any s c w)
  go_enter Try.func46, Try.ntmps46
  go_wp2_with fail
  refine calls_then C.out ?_
  rintro e w1 ⟨rfl, rfl⟩
  go_wp2_with fail
  go_ret
  exact ⟨rfl, rfl⟩
/-- the reader, as it lies -/
def rdCells (s : ByteArray) (a d e : Int) : Array Value := #[.string s, .int .i64 a, .int .i64 d, .int .i64 e]
def RD (w : World) (r : Nat) (s : ByteArray) (a : Nat) (d e : Int) : Prop := Blk w r 55 (rdCells s a d e)
/-- only the reader was written, and new memory -/
def RG (r : Nat) (w w' : World) : Prop := w.grownBy w' (some r)
theorem RG.refl (r : Nat) (w : World) : RG r w w := World.grownBy.refl _ _
theorem RG.trans {r : Nat} {a b c : World} (h : RG r a b) (h' : RG r b c) : RG r a c := World.grownBy.trans h h'
theorem RG.wrote {r : Nat} {a b : World} (h : Wrote r a b) : RG r a b := h.grown
theorem RG.drewN {r : Nat} {a b : World} (h : RG r a b) (n : Nat) : RG r a (b.drewN n) := grown_drewN h n
theorem RD.cells {w : World} {r : Nat} {s : ByteArray} {a : Nat} {d e : Int} (h : RD w r s a d e) :
    w.cell? ⟨r, 0, none⟩ = some (.string s) ∧ w.cell? ⟨r, 1, none⟩ = some (.int .i64 (a : Int)) ∧ w.cell? ⟨r, 2, none⟩ = some (.int .i64 d) ∧ w.cell? ⟨r, 3, none⟩ = some (.int .i64 e) :=
  ⟨Blk.cell h 0, Blk.cell h 1, Blk.cell h 2, Blk.cell h 3⟩
theorem fail_any (c : Int) (s : ByteArray) (r a : Nat) (d e : Int) (w : World) (h : RD w r s a d e) :
    Calls Try.prog 22 #[.pointer (some ⟨r, 0, none⟩), .int .i64 c] w fun x w' => x = .returned (.tuple #[]) ∧ RD w' r s a d (if e = 0 then c else e) ∧ RG r w w' := by
  obtain ⟨c0, c1, c2, c3⟩ := h.cells
  have H := Lib.hid h
  clear h c0 c1 c2
  by_cases he : e = 0
  · subst he
    go_enter Try.func22, Try.ntmps22
    go_wp2_with (refine wpList_put_cell (x := .tmp 12) (i := 3) H.out rfl rfl rfl rfl (by kernel_rfl) (by simp [rdCells]) rfl ?_; intro w1 hb1 hw1)
    go_end0
    exact ⟨rfl, hb1, .wrote hw1⟩
  · have he' : (e == 0) = false := by simpa using he
    have HE := Lib.hid he
    clear he
    go_enter Try.func22, Try.ntmps22
    go_wp2_with fail
    go_end0
    first
      | exact ⟨rfl, H.out, RG.refl _ _⟩
      | exact ⟨rfl, by rw [if_neg HE.out]; exact H.out, RG.refl _ _⟩
/-- the byte that is next -/
def lookE (s : ByteArray) (a : Nat) (e : Int) : UInt8 := if e = 0 then look (s.data.toList.drop a) else 0
theorem look_at {s : ByteArray} {a : Nat} (h : a < s.size) : look (s.data.toList.drop a) = s[a] := by
  have h1 : a < s.data.toList.length := h
  rw [List.drop_eq_getElem_cons h1]
  rfl
theorem look_off {s : ByteArray} {a : Nat} (h : ¬ a < s.size) : look (s.data.toList.drop a) = 0 := by
  rw [List.drop_eq_nil_of_le (by show s.size ≤ a; omega)]
  rfl
set_option maxHeartbeats 1000000 in
theorem look_any (s : ByteArray) (r a : Nat) (d e : Int) (w : World) (h : RD w r s a d e) :
    Calls Try.prog 37 #[.pointer (some ⟨r, 0, none⟩)] w fun x w' => x = .returned (byteV (lookE s a e)) ∧ RD w' r s a d e ∧ RG r w w' := by
  obtain ⟨c0, c1, c2, c3⟩ := h.cells
  have H := Lib.hid h
  clear h c2
  by_cases he : e = 0
  · subst he
    by_cases hl : a < s.size
    · have hl' : (a : Int) < (s.size : Int) := by omega
      have HV := Lib.hid (show byteV (lookE s a 0) = .int .u8 ((s[a].toNat : Nat) : Int) by rw [lookE, if_pos rfl, look_at hl]; rfl)
      go_enter Try.func37, Try.ntmps37
      go_wp2_with fail
      go_quiet (fail)
      go_wp2_with fail
      go_quiet (fail)
      go_wp2_with fail
      go_ret
      exact ⟨by rw [HV.out]; rfl, H.out, by first | exact (RG.refl r w).drewN _ | exact ((RG.refl r w).drewN _).drewN _⟩
    · have hl' : ¬ (a : Int) < (s.size : Int) := by omega
      have HV := Lib.hid (show byteV (lookE s a 0) = .int .u8 0 by rw [lookE, if_pos rfl, look_off hl]; rfl)
      go_enter Try.func37, Try.ntmps37
      go_wp2_with fail
      go_quiet (fail)
      go_wp2_with fail
      go_ret
      exact ⟨by rw [HV.out]; rfl, H.out, by first | exact (RG.refl r w).drewN _ | exact ((RG.refl r w).drewN _).drewN _⟩
  · have he' : (e == 0) = false := by simpa using he
    have he2 : (e != 0) = true := by simpa using he
    have HV := Lib.hid (show byteV (lookE s a e) = .int .u8 0 by rw [lookE, if_neg he]; rfl)
    clear he
    go_enter Try.func37, Try.ntmps37
    go_wp2_with fail
    go_quiet (fail)
    go_wp2_with fail
    go_ret
    exact ⟨by rw [HV.out]; rfl, H.out, by first | exact (RG.refl r w).drewN _ | exact ((RG.refl r w).drewN _).drewN _⟩
theorem blank_idx (c : UInt8) : decide (0 ≤ Lib.indexByte [32, 9, 10, 13] c) = isBl c := by
  have key : ∀ k : Fin 256, decide (0 ≤ Lib.indexByte [32, 9, 10, 13] (UInt8.ofNat k.1)) = isBl (UInt8.ofNat k.1) := by decide +kernel
  have := key ⟨c.toNat, c.toNat_lt⟩
  simpa using this
theorem skip_at {s : ByteArray} {a : Nat} (h : a < s.size) : skip (s.data.toList.drop a) = if isBl s[a] then skip (s.data.toList.drop (a + 1)) else s.data.toList.drop a := by
  have h1 : a < s.data.toList.length := h
  rw [List.drop_eq_getElem_cons h1, skip]
  rfl
theorem skip_off {s : ByteArray} {a : Nat} (h : ¬ a < s.size) : skip (s.data.toList.drop a) = s.data.toList.drop a := by
  rw [List.drop_eq_nil_of_le (by show s.size ≤ a; omega)]
  rfl
set_option maxHeartbeats 2000000 in
theorem blanks_any (s : ByteArray) (hs : (s.size : Int) ≤ 1000000) (r a : Nat) (d e : Int) (w : World) (h : RD w r s a d e) (ha : (a : Int) ≤ 2000000) :
    Calls Try.prog 35 #[.pointer (some ⟨r, 0, none⟩)] w fun x w' => x = .returned (.tuple #[]) ∧ ∃ a', a ≤ a' ∧ (a' ≤ a ∨ a' ≤ s.size) ∧ s.data.toList.drop a' = skip (s.data.toList.drop a) ∧ RD w' r s a' d e ∧ RG r w w' := by
  have CI := Lib.hid (fun (c : Int) (u : World) => idxb_any ⟨#[32, 9, 10, 13]⟩ c u)
  have H := Lib.hid h
  have HA := Lib.hid ha
  clear h ha
  go_enter Try.func35, Try.ntmps35
  go_wp2_with fail
  go_loopg [] (s.size - a) (fun gk wr => ∃ a', a ≤ a' ∧ (a' ≤ a ∨ a' ≤ s.size) ∧ s.size - a' = gk ∧ skip (s.data.toList.drop a') = skip (s.data.toList.drop a) ∧ RD wr r s a' d e ∧ RG r w wr)
  case atStart => exact ⟨a, Nat.le_refl _, .inl (Nat.le_refl _), rfl, rfl, H.out, RG.refl _ _⟩
  case round =>
    obtain ⟨b, hb1, hb2, hb3, hb4, hrd, hrg⟩ := hrel
    obtain ⟨c0, c1, c2, c3⟩ := hrd.cells
    have HRD := Lib.hid hrd
    have HRG := Lib.hid hrg
    have H4 := Lib.hid hb4
    clear hrd hrg hb4 c2 c3
    by_cases hl : b < s.size
    · have hl' : (b : Int) < (s.size : Int) := by omega
      obtain ⟨c, hc⟩ : ∃ c, c = s[b] := ⟨_, rfl⟩
      have HSK := Lib.hid (skip_at hl)
      rw [← hc] at HSK
      obtain ⟨k, hk⟩ : ∃ k, k = Lib.indexByte [32, 9, 10, 13] c := ⟨_, rfl⟩
      have HK := Lib.hid (show decide (0 ≤ k) = isBl c by rw [hk, blank_idx])
      have HC := Lib.hid (fun u => show Calls Try.prog 46 #[.string ⟨#[32, 9, 10, 13]⟩, .int .u8 ((s[b].toNat : Nat) : Int)] u fun x w' => x = .returned (.int .i64 k) ∧ w' = u by
        have h := CI.out ((s[b].toNat : Nat) : Int) u
        rw [show ((s[b].toNat : Nat) : Int).toNat.toUInt8 = c by rw [hc]; simp] at h
        rw [hk]
        exact h)
      clear hc hk
      go_wp2_with fail
      go_quiet (refine Calls.quiet_of_same (HC.out _))
      have HD := Lib.hid (show RD (wr.drewN nq) r s b d e ∧ RG r w (wr.drewN nq) from ⟨HRD.out, HRG.out.drewN nq⟩)
      have HBL : ∀ q, isBl c = q → decide (0 ≤ k) = q := fun q h => by rw [HK.out, h]
      cases hq : isBl c with
      | true =>
        have hk1 := HBL true hq
        have hk2 : 0 ≤ k := of_decide_eq_true hk1
        clear hk1 HBL
        go_wp2_with (refine wpList_put_cell (x := .tmp 31) (i := 1) HD.out.1 rfl rfl rfl rfl (by kernel_rfl) (by simp [rdCells]) rfl ?_; intro w5 hb5 hw5)
        go_roundg (gk - 1)
        case measure => omega
        case rel => exact ⟨b + 1, by omega, .inr (by omega), by omega, by rw [← H4.out, HSK.out, hq]; rfl, hb5, HD.out.2.trans (.wrote hw5)⟩
      | false =>
        have hk1 := HBL false hq
        have hk2 : ¬ 0 ≤ k := of_decide_eq_false hk1
        clear hk1 HBL
        go_wp2_with fail
        go_end0
        exact ⟨rfl, b, hb1, hb2, by rw [← H4.out, HSK.out, hq]; rfl, HD.out.1, HD.out.2⟩
    · have hl' : ¬ (b : Int) < (s.size : Int) := by omega
      have HSK := Lib.hid (skip_off hl)
      go_wp2_with fail
      go_quiet (fail)
      have HD := Lib.hid (show RD (wr.drewN nq) r s b d e ∧ RG r w (wr.drewN nq) from ⟨HRD.out, HRG.out.drewN nq⟩)
      go_wp2_with fail
      go_end0
      exact ⟨rfl, b, hb1, hb2, by rw [← H4.out, HSK.out], HD.out.1, HD.out.2⟩
end Go.Proofs.Ytcfbnjaelniahaa.Js
