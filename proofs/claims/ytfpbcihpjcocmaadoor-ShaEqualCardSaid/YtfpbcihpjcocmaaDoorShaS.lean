/-
  Plain: a digest, as the program makes it.
-/
import Derived.Test.YtfpbcihpjcocmaaDoorShaX
namespace Go.Proofs.YtfpbcihpjcocmaaDoor
set_option linter.unusedSimpArgs false
set_option linter.unusedVariables false
open Go.RowKit

/-- how many zeros stand behind the one -/
def zeroN (F : ShaF) (n : Nat) : Nat := (2 * F.bits - 8 + 2 * F.bits - (n + 1) % (2 * F.bits)) % (2 * F.bits)
def moreN (F : ShaF) (n : Nat) : Nat := if 8 < F.bits / 4 ∧ 2 * F.bits - F.bits / 4 ≤ n % (2 * F.bits) ∧ n % (2 * F.bits) < 2 * F.bits - 8 then 2 * F.bits else 0
/-- eight bytes of a number, the highest first; the first so many of them -/
def be8 (n : Nat) : Nat → List UInt8
  | 0 => []
  | k + 1 => be8 n k ++ [UInt8.ofNat (n / 2 ^ (56 - 8 * k))]
/-- what stands ahead of the length -/
def prepS (F : ShaF) (data : List UInt8) : List UInt8 := data ++ [128] ++ List.replicate (zeroN F data.length) 0 ++ List.replicate (moreN F data.length) 0
def padS (F : ShaF) (data : List UInt8) : List UInt8 := data ++ [128] ++ List.replicate (zeroN F data.length) 0 ++ List.replicate (moreN F data.length) 0 ++ be8 (data.length * 8) 8
def firstN : List Nat := [7640891576956012808, 13503953896175478587, 4354685564936845355, 11912009170470909681, 5840696475078001361, 11170449401992604703, 2270897969802886507, 6620516959819538809]
def startS (F : ShaF) : S8 :=
  let f := fun i => firstN.getD i 0 / 2 ^ (64 - F.bits) % 2 ^ F.bits
  ⟨f 0, f 1, f 2, f 3, f 4, f 5, f 6, f 7⟩
/-- the states behind the first so many blocks -/
def runS (F : ShaF) (all : List UInt8) : Nat → S8
  | 0 => startS F
  | k + 1 => mixS F (runS F all k) ((all.drop (k * (2 * F.bits))).take (2 * F.bits))
/-- a state of which the first so many words were set -/
def setC (K : IntKind) (s : S8) (i : Nat) : Array Value := (wordsV K ((s8L s).take i ++ (s8L ⟨0, 0, 0, 0, 0, 0, 0, 0⟩).drop i)).toArray
theorem setC_end (K : IntKind) (s : S8) : setC K s 8 = s8V K s := rfl
theorem setC_size (K : IntKind) (s : S8) (i : Nat) : (setC K s i).size = 8 := by
  simp [setC, wordsV, s8L]; omega
theorem setC_at (K : IntKind) (s : S8) (i : Nat) (h : i < 8) : (setC K s i)[i]? = some (.int K 0) := by
  match i, h with
  | 0, _ => rfl
  | 1, _ => rfl
  | 2, _ => rfl
  | 3, _ => rfl
  | 4, _ => rfl
  | 5, _ => rfl
  | 6, _ => rfl
  | 7, _ => rfl
theorem setC_set (K : IntKind) (s : S8) (i : Nat) (h : i < 8) : (setC K s i).setIfInBounds i (.int K (((s8L s).getD i 0 : Nat) : Int)) = setC K s (i + 1) := by
  match i, h with
  | 0, _ => rfl
  | 1, _ => rfl
  | 2, _ => rfl
  | 3, _ => rfl
  | 4, _ => rfl
  | 5, _ => rfl
  | 6, _ => rfl
  | 7, _ => rfl
theorem startS_at (F : ShaF) (i : Nat) (h : i < 8) : (s8L (startS F)).getD i 0 = firstN.getD i 0 / 2 ^ (64 - F.bits) % 2 ^ F.bits := by
  match i, h with
  | 0, _ => rfl
  | 1, _ => rfl
  | 2, _ => rfl
  | 3, _ => rfl
  | 4, _ => rfl
  | 5, _ => rfl
  | 6, _ => rfl
  | 7, _ => rfl
theorem firstN_all : (firstN.all fun x => decide (x < 18446744073709551616)) = true := by decide +kernel
theorem firstN_lt (i : Nat) : firstN.getD i 0 < 18446744073709551616 :=
  getD_lt (fun x hx => by simpa using (List.all_eq_true.1 firstN_all) x hx) (by decide) i
theorem startS_lt (F : ShaF) : (startS F).Lt (2 ^ F.bits) := by
  constructor <;> exact Nat.mod_lt _ (Nat.two_pow_pos _)
theorem mixS_lt (F : ShaF) (s : S8) (blk : List UInt8) : (mixS F s blk).Lt (2 ^ F.bits) := addS_lt _ _ _
theorem runS_lt (F : ShaF) (all : List UInt8) : ∀ k, (runS F all k).Lt (2 ^ F.bits)
  | 0 => startS_lt F
  | _ + 1 => mixS_lt F _ _
theorem s8L_lt {s : S8} {m : Nat} (h : s.Lt m) (hm : 0 < m) (i : Nat) : (s8L s).getD i 0 < m :=
  getD_lt (fun x hx => by
    simp [s8L] at hx
    rcases hx with rfl | rfl | rfl | rfl | rfl | rfl | rfl | rfl
    all_goals first | exact h.a | exact h.b | exact h.c | exact h.d | exact h.e | exact h.f | exact h.g | exact h.h) hm i
/-- a word's bytes, the highest first; the first so many -/
def wordB (b : Nat) (x : Nat) : Nat → List UInt8
  | 0 => []
  | k + 1 => wordB b x k ++ [UInt8.ofNat (x / 2 ^ (b - 8 - 8 * k))]
def digS (F : ShaF) (data : List UInt8) : List UInt8 := (s8L (runS F (padS F data) ((padS F data).length / (2 * F.bits)))).flatMap fun x => wordB F.bits x (F.bits / 8)
theorem dig_empty32 : (digS F32 []).take 4 = [0xe3, 0xb0, 0xc4, 0x42] := by decide +kernel
theorem dig_empty64 : (digS F64 []).take 4 = [0xcf, 0x83, 0xe1, 0x35] := by decide +kernel
end Go.Proofs.YtfpbcihpjcocmaaDoor
