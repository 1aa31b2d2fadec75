/-
  Plain: a state behind a block, as the program makes it.
-/
import Derived.Test.YtfpbcihpjcocmaaDoorShaM
namespace Go.Proofs.YtfpbcihpjcocmaaDoor
set_option linter.unusedSimpArgs false
set_option linter.unusedVariables false
open Go.RowKit

/-- the words of the steps -/
def stepsN : List Nat := [4794697086780616226, 8158064640168781261, 13096744586834688815, 16840607885511220156, 4131703408338449720, 6480981068601479193, 10538285296894168987, 12329834152419229976, 15566598209576043074, 1334009975649890238, 2608012711638119052, 6128411473006802146, 8268148722764581231, 9286055187155687089, 11230858885718282805, 13951009754708518548, 16472876342353939154, 17275323862435702243, 1135362057144423861, 2597628984639134821, 3308224258029322869, 5365058923640841347, 6679025012923562964, 8573033837759648693, 10970295158949994411, 12119686244451234320, 12683024718118986047, 13788192230050041572, 14330467153632333762, 15395433587784984357, 489312712824947311, 1452737877330783856, 2861767655752347644, 3322285676063803686, 5560940570517711597, 5996557281743188959, 7280758554555802590, 8532644243296465576, 9350256976987008742, 10552545826968843579, 11727347734174303076, 12113106623233404929, 14000437183269869457, 14369950271660146224, 15101387698204529176, 15463397548674623760, 17586052441742319658, 1182934255886127544, 1847814050463011016, 2177327727835720531, 2830643537854262169, 3796741975233480872, 4115178125766777443, 5681478168544905931, 6601373596472566643, 7507060721942968483, 8399075790359081724, 8693463985226723168, 9568029438360202098, 10144078919501101548, 10430055236837252648, 11840083180663258601, 13761210420658862357, 14299343276471374635, 14566680578165727644, 15097957966210449927, 16922976911328602910, 17689382322260857208, 500013540394364858, 748580250866718886, 1242879168328830382, 1977374033974150939, 2944078676154940804, 3659926193048069267, 4368137639120453308, 4836135668995329356, 5532061633213252278, 6448918945643986474, 6902733635092675308, 7801388544844847127]
theorem stepsN_length : stepsN.length = 80 := by decide +kernel
theorem stepsN_all : (stepsN.all fun x => decide (x < 18446744073709551616)) = true := by decide +kernel
theorem stepsN_lt (i : Nat) : stepsN.getD i 0 < 18446744073709551616 :=
  getD_lt (fun x hx => by simpa using (List.all_eq_true.1 stepsN_all) x hx) (by decide) i
def kN (F : ShaF) (t : Nat) : Nat := stepsN.getD t 0 / 2 ^ (64 - F.bits) % 2 ^ F.bits
/-- a state: eight words -/
structure S8 where
  a : Nat
  b : Nat
  c : Nat
  d : Nat
  e : Nat
  f : Nat
  g : Nat
  h : Nat
structure S8.Lt (s : S8) (m : Nat) : Prop where
  a : s.a < m
  b : s.b < m
  c : s.c < m
  d : s.d < m
  e : s.e < m
  f : s.f < m
  g : s.g < m
  h : s.h < m
def mixX (F : ShaF) (s : S8) (k w : Nat) : Nat := (s.h + allF F s.e F.s1 false + ((s.e &&& s.f) ^^^ ((2 ^ F.bits - 1 - s.e) &&& s.g)) + k + w) % 2 ^ F.bits
def mixY (F : ShaF) (s : S8) : Nat := (allF F s.a F.s0 false + ((s.a &&& s.b) ^^^ (s.a &&& s.c) ^^^ (s.b &&& s.c))) % 2 ^ F.bits
theorem mixX_32 (h al ch k w : Nat) : (h + al + ch + k + w) % 2 ^ 32 = ((((h + al % 4294967296) % 2 ^ 32 + ch) % 2 ^ 32 + k) % 2 ^ 32 + w) % 2 ^ 32 := by omega
theorem mixX_64 (h al ch k w : Nat) : (h + al + ch + k + w) % 2 ^ 64 = ((((h + al) % 2 ^ 64 + ch) % 2 ^ 64 + k) % 2 ^ 64 + w) % 2 ^ 64 := by omega
theorem mixY_32 (al mj : Nat) : (al + mj) % 2 ^ 32 = (al % 4294967296 + mj) % 2 ^ 32 := by omega
theorem mixY_64 (al mj : Nat) : (al + mj) % 2 ^ 64 = (al + mj) % 2 ^ 64 := rfl
def stepS (F : ShaF) (s : S8) (k w : Nat) : S8 := ⟨(mixX F s k w + mixY F s) % 2 ^ F.bits, s.a, s.b, s.c, (s.d + mixX F s k w) % 2 ^ F.bits, s.e, s.f, s.g⟩
def mixTo (F : ShaF) (r : List Nat) (s : S8) : Nat → S8
  | 0 => s
  | t + 1 => stepS F (mixTo F r s t) (kN F t) (r.getD t 0)
def addS (F : ShaF) (s v : S8) : S8 := ⟨(v.a + s.a) % 2 ^ F.bits, (v.b + s.b) % 2 ^ F.bits, (v.c + s.c) % 2 ^ F.bits, (v.d + s.d) % 2 ^ F.bits, (v.e + s.e) % 2 ^ F.bits, (v.f + s.f) % 2 ^ F.bits, (v.g + s.g) % 2 ^ F.bits, (v.h + s.h) % 2 ^ F.bits⟩
def mixS (F : ShaF) (s : S8) (blk : List UInt8) : S8 := addS F s (mixTo F (rowW F blk F.many) s F.many)
theorem stepS_lt {F : ShaF} {s : S8} {k w : Nat} (h : s.Lt (2 ^ F.bits)) : (stepS F s k w).Lt (2 ^ F.bits) :=
  ⟨Nat.mod_lt _ (Nat.two_pow_pos _), h.a, h.b, h.c, Nat.mod_lt _ (Nat.two_pow_pos _), h.e, h.f, h.g⟩
theorem mixTo_lt {F : ShaF} {r : List Nat} {s : S8} (h : s.Lt (2 ^ F.bits)) : ∀ t, (mixTo F r s t).Lt (2 ^ F.bits)
  | 0 => h
  | t + 1 => stepS_lt (mixTo_lt h t)
theorem addS_lt (F : ShaF) (s v : S8) : (addS F s v).Lt (2 ^ F.bits) := by
  constructor <;> exact Nat.mod_lt _ (Nat.two_pow_pos _)
def s8V (K : IntKind) (s : S8) : Array Value := #[.int K (s.a : Int), .int K (s.b : Int), .int K (s.c : Int), .int K (s.d : Int), .int K (s.e : Int), .int K (s.f : Int), .int K (s.g : Int), .int K (s.h : Int)]
def s8L (s : S8) : List Nat := [s.a, s.b, s.c, s.d, s.e, s.f, s.g, s.h]
/-- a state to which the first so many words were added -/
def addC (K : IntKind) (F : ShaF) (s v : S8) (i : Nat) : Array Value := (wordsV K ((s8L (addS F s v)).take i ++ (s8L v).drop i)).toArray
theorem addC_zero (K : IntKind) (F : ShaF) (s v : S8) : addC K F s v 0 = s8V K v := rfl
theorem addC_end (K : IntKind) (F : ShaF) (s v : S8) : addC K F s v 8 = s8V K (addS F s v) := rfl
theorem addC_size (K : IntKind) (F : ShaF) (s v : S8) (i : Nat) : (addC K F s v i).size = 8 := by
  simp [addC, wordsV, s8L]; omega
theorem s8V_at (K : IntKind) (s : S8) (i : Nat) (h : i < 8) : (s8V K s)[i]? = some (.int K (((s8L s).getD i 0 : Nat) : Int)) := by
  match i, h with
  | 0, _ => rfl
  | 1, _ => rfl
  | 2, _ => rfl
  | 3, _ => rfl
  | 4, _ => rfl
  | 5, _ => rfl
  | 6, _ => rfl
  | 7, _ => rfl
theorem addC_at (K : IntKind) (F : ShaF) (s v : S8) (i : Nat) (h : i < 8) : (addC K F s v i)[i]? = some (.int K (((s8L v).getD i 0 : Nat) : Int)) := by
  match i, h with
  | 0, _ => rfl
  | 1, _ => rfl
  | 2, _ => rfl
  | 3, _ => rfl
  | 4, _ => rfl
  | 5, _ => rfl
  | 6, _ => rfl
  | 7, _ => rfl
theorem addC_set (K : IntKind) (F : ShaF) (s v : S8) (i : Nat) (h : i < 8) : (addC K F s v i).setIfInBounds i (.int K ((((s8L v).getD i 0 + (s8L s).getD i 0) % 2 ^ F.bits : Nat) : Int)) = addC K F s v (i + 1) := by
  match i, h with
  | 0, _ => rfl
  | 1, _ => rfl
  | 2, _ => rfl
  | 3, _ => rfl
  | 4, _ => rfl
  | 5, _ => rfl
  | 6, _ => rfl
  | 7, _ => rfl
/-- the table of the steps, as it lies -/
structure TabG (w : World) : Prop where
  size : 0 < w.heap.size
  cell : ∀ i, i < 80 → w.cell? ⟨0, i, none⟩ = some (.int .u64 ((stepsN.getD i 0 : Nat) : Int))
theorem TabG.below {w w' : World} {B : Nat} (h : TabG w) (hb : Below B w w') (hB : 0 < B) : TabG w' :=
  ⟨Nat.lt_of_lt_of_le h.size hb.size, fun i hi => (hb.cell (p := ⟨0, i, none⟩) hB).trans (h.cell i hi)⟩
end Go.Proofs.YtfpbcihpjcocmaaDoor
