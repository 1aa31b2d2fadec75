/-
  Joined texts: ShaS Own SumC Sum32 Fld Fw Byt Fb Rdp Conv Rb Rl Nam TurnR RefT Rdx.
-/
import Derived.Deep.DeepCutAuto
import Derived.Test.YtilhhigdegccgaaDoorProg
import Derived.BigQuiet
import Derived.Deep.QuietTactic
import Derived.IntWalk
import Derived.Stop.BytesEq
import Derived.Shelf.Bits.Mul64
import Derived.Shelf.Spec.BitsCarry
import Derived.Laws.BytesArg
import Derived.Laws.IdiomStrings
import Derived.Laws.MakeOwn
import Derived.Laws.OwnMore
import Derived.Test.YtilhhigdegccgaaDoorJ13
import Derived.Test.YtilhhigdegccgaaDoorJ1
import Derived.Test.YtilhhigdegccgaaDoorJ5
import Derived.Test.YtilhhigdegccgaaDoorJ10
import Derived.Test.YtilhhigdegccgaaDoorJ8
/-
  Plain: a digest, as the program makes it.
-/
namespace Go.Proofs.YtilhhigdegccgaaDoor.Sh
set_option linter.unusedSimpArgs false
set_option linter.unusedVariables false
open Go.RowKit
def zeroN (F : ShaF) (n : Nat) : Nat := (2 * F.bits - 8 + 2 * F.bits - (n + 1) % (2 * F.bits)) % (2 * F.bits)
def moreN (F : ShaF) (n : Nat) : Nat := if 8 < F.bits / 4 ∧ 2 * F.bits - F.bits / 4 ≤ n % (2 * F.bits) ∧ n % (2 * F.bits) < 2 * F.bits - 8 then 2 * F.bits else 0
def be8 (n : Nat) : Nat → List UInt8
  | 0 => []
  | k + 1 => be8 n k ++ [UInt8.ofNat (n / 2 ^ (56 - 8 * k))]
def padS (F : ShaF) (data : List UInt8) : List UInt8 := data ++ [128] ++ List.replicate (zeroN F data.length) 0 ++ List.replicate (moreN F data.length) 0 ++ be8 (data.length * 8) 8
def firstN : List Nat := [7640891576956012808, 13503953896175478587, 4354685564936845355, 11912009170470909681, 5840696475078001361, 11170449401992604703, 2270897969802886507, 6620516959819538809]
def startS (F : ShaF) : S8 :=
  let f := fun i => firstN.getD i 0 / 2 ^ (64 - F.bits) % 2 ^ F.bits
  ⟨f 0, f 1, f 2, f 3, f 4, f 5, f 6, f 7⟩
def runS (F : ShaF) (all : List UInt8) : Nat → S8
  | 0 => startS F
  | k + 1 => mixS F (runS F all k) ((all.drop (k * (2 * F.bits))).take (2 * F.bits))
theorem startS_at (F : ShaF) (i : Nat) (h : i < 8) : (s8L (startS F)).getD i 0 = firstN.getD i 0 / 2 ^ (64 - F.bits) % 2 ^ F.bits := by
  match i, h with
  | 0, _ => rfl
  | 1, _ => rfl
  | 2, _ => rfl
  | 3, _ => rfl
  | 4, _ => rfl
  | 5, _ => rfl
  | 6, _ => rfl
  | 7, _ => rfl
theorem startS_lt (F : ShaF) : (startS F).Lt (2 ^ F.bits) := by
  constructor <;> exact Nat.mod_lt _ (Nat.two_pow_pos _)
theorem mixS_lt (F : ShaF) (s : S8) (blk : List UInt8) : (mixS F s blk).Lt (2 ^ F.bits) := addS_lt _ _ _
theorem runS_lt (F : ShaF) (all : List UInt8) : ∀ k, (runS F all k).Lt (2 ^ F.bits)
  | 0 => startS_lt F
  | _ + 1 => mixS_lt F _ _
theorem s8L_lt {s : S8} {m : Nat} (h : s.Lt m) (hm : 0 < m) (i : Nat) : (s8L s).getD i 0 < m :=
  getD_lt (fun x hx => by
    simp [s8L] at hx
    rcases hx with rfl | rfl | rfl | rfl | rfl | rfl | rfl | rfl
    all_goals first | exact h.a | exact h.b | exact h.c | exact h.d | exact h.e | exact h.f | exact h.g | exact h.h) hm i
def wordB (b : Nat) (x : Nat) : Nat → List UInt8
  | 0 => []
  | k + 1 => wordB b x k ++ [UInt8.ofNat (x / 2 ^ (b - 8 - 8 * k))]
def digS (F : ShaF) (data : List UInt8) : List UInt8 := (s8L (runS F (padS F data) ((padS F data).length / (2 * F.bits)))).flatMap fun x => wordB F.bits x (F.bits / 8)
end Go.Proofs.YtilhhigdegccgaaDoor.Sh
/-
  Laws of my own on rows that the call owns and may write: append of one element.
-/
namespace Go.Proofs.YtilhhigdegccgaaDoor
set_option linter.unusedSimpArgs false
set_option linter.unusedVariables false
open Go.RowKit
theorem own_len {w : World} {base e size n : Nat} {v : Value} {xs : List Value} (h : w.ownsRow base e size v n xs) : xs.length = n * size := h.1
theorem own_lt {w : World} {base e size n : Nat} {v : Value} {xs : List Value} (h : w.ownsRow base e size v n xs) : ∀ k, v.ownBlock = some k → base ≤ k ∧ k < w.heap.size := (OwnX.of h).lt
theorem own_mono {w : World} {base base' e size n : Nat} {v : Value} {xs : List Value} (h : w.ownsRow base e size v n xs) (hb : base' ≤ base) : w.ownsRow base' e size v n xs :=
  ⟨h.1, h.2.elim .inl fun ⟨g, cap, cur, hv, hg, r⟩ => .inr ⟨g, cap, cur, hv, Nat.le_trans hb hg, r⟩⟩
theorem own_cap {w : World} {base e size n c : Nat} {A : Option Addr} {xs : List Value} (h : OwnX w base e size (.slice A n c) n xs) : n ≤ c ∧ c ≤ 9223372036854775807 := by
  rcases h.2 with ⟨hv, hn⟩ | ⟨g, cap, cur, fz, hv, _, _, hnc, hcm, _⟩
  · injection hv with _ _ h3; omega
  · injection hv with _ _ h3; unfold maxLen at hcm; omega
section
variable {P : Program}
theorem wpList_append_own1 {w0 : World} {y : Value} {ops : Array Oper} {rest : List Oper} {o : Oper} {a : Act} {Q : Exit → Act → World → Prop} {s x : Operand} {t e : TypeId} {bytes : Nat} (T : SlT P t e 1 bytes)
    (hgd : o.guard = none) (ho : o.op = .call { callee := .builtin .append, args := #[s, x], argTypes := #[t, t] })
    {base n : Nat} {v : Value} {xs : List Value} {ad : Nat} (hown : w0.ownsRow base e 1 v n xs) (hs : a.eval s = v) (hx : a.eval x = .slice (some ⟨ad, 0, none⟩) 1 1) (had : ad = w0.heap.size)
    (hy : y.oneCell' = true)
    (h63 : n + 1 ≤ maxLen) (hbytes : (n + 1) * bytes ≤ 140737488355328) (hbase : base ≤ w0.heap.size)
    (h : ∀ A c w', w'.ownsRow base e 1 (.slice A (n + 1) c) (n + 1) (xs ++ [y]) → w0.grownBy w' v.ownBlock → wpList P ops Q rest (a.put o.dst (.slice A (n + 1) c)) w') :
    wpList P ops Q (o :: rest) a (w0.alloc (.cells #[y] e)) := by
  subst had
  obtain ⟨i, z, hi, hz, hsz, hby, hzs⟩ := T.info
  obtain ⟨v', w', hr, h2, h3, _, _⟩ := run_append_own_at (P := P) (w0.alloc (.cells #[y] e)) base t o.type e i z 1 bytes T.und hi hz hsz hby hzs (by omega) v n xs (hown.alloc _) ⟨w0.heap.size, 0, none⟩ 1 1 [y] rfl (fun j u hu => cell_one_new _ _ _ j u hu)
    (by intro u hu; simp at hu; subst hu; exact hy) h63 hbytes (by simp; omega)
  have hv : ∃ A c, v' = .slice A (n + 1) c := by
    rcases h2.2 with ⟨_, h0⟩ | ⟨g, cap, cur, rfl, _⟩
    · omega
    · exact ⟨_, _, rfl⟩
  obtain ⟨A, c, rfl⟩ := hv
  refine wpList_of_append (R := fun v' w1 => v' = .slice A (n + 1) c ∧ w1 = w') hgd ho hs hx ⟨_, _, hr, rfl, rfl⟩ ?_
  rintro v' w1 ⟨rfl, rfl⟩
  exact h _ _ _ h2 ((World.grownBy_alloc w0 _ _).trans h3)
end
end Go.Proofs.YtilhhigdegccgaaDoor
/-
  Walks and plain: what sha's sums of both kinds share.
-/
namespace Go.Proofs.YtilhhigdegccgaaDoor.Sh
set_option linter.unusedSimpArgs false
set_option linter.unusedVariables false
open Go.RowKit
theorem sl_bytes : SlT Tryd.prog 79 5 1 1 := SlT.mk1 (z := .int .u8 0) Tryd.underlying79 (by kernel_rfl) rfl (by decide)
def lenOf : Value → Nat | .slice _ n _ => n | _ => 0
def outW (b e : Nat) (s : S8) (k : Nat) : List UInt8 := ((s8L s).take k).flatMap fun x => wordB b x e
theorem wordB_length (b x : Nat) : ∀ k, (wordB b x k).length = k
  | 0 => rfl
  | k + 1 => by simp [wordB, wordB_length b x k]
theorem outW_length (b e : Nat) (s : S8) (k : Nat) (h : k ≤ 8) : (outW b e s k).length = k * e := by
  match k, h with
  | 0, _ => simp [outW, s8L]
  | 1, _ => simp [outW, s8L, wordB_length]
  | 2, _ => simp [outW, s8L, wordB_length]; omega
  | 3, _ => simp [outW, s8L, wordB_length]; omega
  | 4, _ => simp [outW, s8L, wordB_length]; omega
  | 5, _ => simp [outW, s8L, wordB_length]; omega
  | 6, _ => simp [outW, s8L, wordB_length]; omega
  | 7, _ => simp [outW, s8L, wordB_length]; omega
  | 8, _ => simp [outW, s8L, wordB_length]; omega
theorem outW_succ (b e : Nat) (s : S8) (k : Nat) (h : k < 8) : outW b e s (k + 1) = outW b e s k ++ wordB b ((s8L s).getD k 0) e := by
  match k, h with
  | 0, _ => simp [outW, s8L]
  | 1, _ => simp [outW, s8L]
  | 2, _ => simp [outW, s8L]
  | 3, _ => simp [outW, s8L]
  | 4, _ => simp [outW, s8L]
  | 5, _ => simp [outW, s8L]
  | 6, _ => simp [outW, s8L]
  | 7, _ => simp [outW, s8L]
def oneZ (data : List UInt8) (k : Nat) : List UInt8 := data ++ [128] ++ List.replicate k 0
theorem oneZ_length (data : List UInt8) (k : Nat) : (oneZ data k).length = data.length + 1 + k := by simp [oneZ]; omega
theorem oneZ_zero (data : List UInt8) : oneZ data 0 = data ++ [128] := by simp [oneZ]
theorem oneZ_succ (data : List UInt8) (k : Nat) : oneZ data (k + 1) = oneZ data k ++ [0] := by simp [oneZ, List.replicate_succ']
theorem bytesV_snoc (l : List UInt8) (b : UInt8) : bytesV (l ++ [b]) = bytesV l ++ [.int .u8 (b.toNat : Int)] := by simp [bytesV, byteV]
theorem be8_length (n : Nat) : ∀ k, (be8 n k).length = k
  | 0 => rfl
  | k + 1 => by simp [be8, be8_length n k]
end Go.Proofs.YtilhhigdegccgaaDoor.Sh
/-
  Walk: sha's sum, words of 32 bits.
-/
namespace Go.Proofs.YtilhhigdegccgaaDoor.Sh
set_option linter.unusedSimpArgs false
set_option linter.unusedVariables false
open Go.RowKit
theorem pad32_blocks (data : List UInt8) : (padS F32 data).length % 64 = 0 := by
  have hz : zeroN F32 data.length = (2 * 32 - 8 + 2 * 32 - (data.length + 1) % (2 * 32)) % (2 * 32) := rfl
  have hm : moreN F32 data.length = 0 ∨ moreN F32 data.length = 64 := by
    unfold moreN
    split
    · exact .inr rfl
    · exact .inl rfl
  simp only [padS, List.length_append, List.length_replicate, List.length_singleton, be8_length]
  omega
end Go.Proofs.YtilhhigdegccgaaDoor.Sh
/-
  Plain: numbers modulo 2^255 - 19 as five limbs of 51 bits.
-/
namespace Go.Proofs.YtilhhigdegccgaaDoor
set_option linter.unusedSimpArgs false
set_option linter.unusedVariables false
open Go.RowKit
structure E5 where
  a : Nat
  b : Nat
  c : Nat
  d : Nat
  e : Nat
def E5.val (x : E5) : Nat := x.a + x.b * 2251799813685248 + x.c * 5070602400912917605986812821504 + x.d * 11417981541647679048466287755595961091061972992 + x.e * 25711008708143844408671393477458601640355247900524685364822016
structure E5.Lt (x : E5) (m : Nat) : Prop where
  a : x.a < m
  b : x.b < m
  c : x.c < m
  d : x.d < m
  e : x.e < m
theorem E5.Lt.mono {x : E5} {m n : Nat} (h : x.Lt m) (hm : m ≤ n) : x.Lt n := ⟨Nat.lt_of_lt_of_le h.a hm, Nat.lt_of_lt_of_le h.b hm, Nat.lt_of_lt_of_le h.c hm, Nat.lt_of_lt_of_le h.d hm, Nat.lt_of_lt_of_le h.e hm⟩
abbrev E5.Ok (x : E5) : Prop := x.Lt 4503599627370496
theorem E5.Ok.big {x : E5} (h : x.Ok) : x.Lt 18446744073709551616 := E5.Lt.mono h (by decide)
end Go.Proofs.YtilhhigdegccgaaDoor
/-
  Walks: the field's carried.
-/
namespace Go.Proofs.YtilhhigdegccgaaDoor
set_option linter.unusedSimpArgs false
set_option linter.unusedVariables false
open Go.RowKit
theorem below_new (w : World) (o : Obj) : Below w.heap.size w (w.alloc o) := (Below.refl _ _).alloc (Nat.le_refl _) _
theorem Blk.newAt {w : World} {n : Nat} {t : TypeId} {cs : Array Value} (h : w.heap.size = n) : Blk (w.alloc (.cells cs t)) n t cs := h ▸ Blk.new w t cs
end Go.Proofs.YtilhhigdegccgaaDoor
/-
  Plain: a number's bytes, bit by bit.
-/
namespace Go.Proofs.YtilhhigdegccgaaDoor
set_option linter.unusedSimpArgs false
set_option linter.unusedVariables false
open Go.RowKit
def byN (N : Nat) : List Nat := (List.range 32).map fun j => N / 256 ^ j % 256
end Go.Proofs.YtilhhigdegccgaaDoor
/-
  Walk: the field's Bytes.
-/
namespace Go.Proofs.YtilhhigdegccgaaDoor
set_option linter.unusedSimpArgs false
set_option linter.unusedVariables false
open Go.RowKit
def bnV (l : List Nat) : List Value := l.map fun n : Nat => Value.int .u8 (n : Int)
def BytesPost (N : Nat) (w : World) (e : Ending) (w' : World) : Prop :=
  ∃ o, e = .returned (.slice (some ⟨o, 0, none⟩) 32 32) ∧ w.heap.size ≤ o ∧ Blk w' o 5 (bnV (byN N)).toArray ∧ Below w.heap.size w w'
end Go.Proofs.YtilhhigdegccgaaDoor
/-
  Plain: an element of 32 bytes.
-/
namespace Go.Proofs.YtilhhigdegccgaaDoor
set_option linter.unusedSimpArgs false
set_option linter.unusedVariables false
open Go.RowKit
def digs (l : List UInt8) : List Nat := l.map UInt8.toNat
theorem digs_lt (l : List UInt8) : ∀ d ∈ digs l, d < 256 := fun d h => by
  obtain ⟨b, _, rfl⟩ := List.mem_map.1 h
  exact b.toNat_lt
end Go.Proofs.YtilhhigdegccgaaDoor
/-
  Laws of my own on conversions between bytes and strings.
-/
namespace Go.Proofs.YtilhhigdegccgaaDoor
set_option linter.unusedSimpArgs false
set_option linter.unusedVariables false
open Go.RowKit
section
variable {P : Program}
theorem run_str_of {w : World} {B : Nat} {src dst e : TypeId} (hs : P.underlying src = some (.slice e)) (he : P.underlying e = some (.int .u8)) (hd : P.underlying dst = some .string)
    {A : Option Addr} {l : List UInt8} (hr : Rd w B A (bytesV l)) (c : Nat) : (convert src dst (.slice A l.length c)).run P w = .ok (.string ⟨l.toArray⟩) w := by
  cases A with
  | none =>
    have hl : l = [] := by
      cases l with
      | nil => rfl
      | cons x r =>
        obtain ⟨ad, h, _⟩ := hr 0 (byteV x) (by simp [bytesV])
        cases h
    subst hl
    rw [run_convert_bytes_nil w src e hs he _ c dst hd]
    rfl
  | some ad =>
    have hl : (loadCells ad l.length).run P w = .ok ((l.map fun b => (b.toNat : Int)).map (Value.int .u8)).toArray w := by
      have := run_loadCells_list (P := P) w ad ((l.map fun b => (b.toNat : Int)).map (Value.int .u8)) (fun j v hj => by
        obtain ⟨ad', h, _, hc⟩ := hr j v (by rw [← hj]; simp [bytesV, byteV]; rfl)
        injection h with h
        subst h
        exact hc)
      simpa using this
    rw [run_convert_bytes_string w src dst e _ l.length c hs he hd, run_bytesToString w _ l.length c (l.map fun b => (b.toNat : Int)) hl, foldl_push_bytes]
    have e1 : ((l.map fun b => (b.toNat : Int)).map fun n => UInt8.ofNat n.toNat) = l := by
      rw [List.map_map]
      conv => rhs; rw [← List.map_id l]
      exact List.map_congr_left fun b _ => by simp
    rw [e1]
    simp [ByteArray.empty, ByteArray.emptyWithCapacity]
    rfl
theorem wpList_str_of {w : World} {ops : Array Oper} {rest : List Oper} {o : Oper} {a : Act} {Q : Exit → Act → World → Prop} {B : Nat} {src dst e : TypeId} {x : Operand} {A : Option Addr} {l : List UInt8} {c : Nat}
    (hr : Rd w B A (bytesV l)) (hs : P.underlying src = some (.slice e)) (he : P.underlying e = some (.int .u8)) (hd : P.underlying dst = some .string)
    (hgd : o.guard = none) (ho : o.op = .convert src dst x) (hx : a.eval x = .slice A l.length c)
    (h : wpList P ops Q rest (a.put o.dst (.string ⟨l.toArray⟩)) w) : wpList P ops Q (o :: rest) a w := by
  refine wpList_plain hgd fun K hK => ?_
  have hrun := run_str_of (P := P) hs he hd hr c
  unfold Oper.wp execOp
  simp only [ho, hx]
  simp only [Sem.run_bind, hrun, Result.andThen_ok, Sem.run_pure]
  exact hK _ _ h
end
end Go.Proofs.YtilhhigdegccgaaDoor
/-
  Walks: the reference's Digits and Bytes.
-/
namespace Go.Proofs.YtilhhigdegccgaaDoor
set_option linter.unusedSimpArgs false
set_option linter.unusedVariables false
open Go.RowKit
theorem sl_bytes : SlT Tryd.prog 79 5 1 1 := SlT.mk1 (z := .int .u8 0) Tryd.underlying79 (by kernel_rfl) rfl (by decide)
def numV (n : Nat) : Value := .int .i64 (n : Int)
def dV (l : List Nat) : List Value := l.map numV
end Go.Proofs.YtilhhigdegccgaaDoor
/-
  Walks: the reference's P and Less.
-/
namespace Go.Proofs.YtilhhigdegccgaaDoor
set_option linter.unusedSimpArgs false
set_option linter.unusedVariables false
open Go.RowKit
def DigPost (l : List Nat) (w : World) (e : Ending) (w' : World) : Prop :=
  ∃ A c, e = .returned (.slice A l.length c) ∧ l.length ≤ c ∧ Rd w' w'.heap.size A (dV l) ∧ Below w.heap.size w w'
structure D1 (w0 : World) (o : Nat) (l : List Nat) (u : World) : Prop where
  bel : Below w0.heap.size w0 u
  out : Blk u o 3 (dV l).toArray
  lo : w0.heap.size ≤ o
theorem D1.put {w0 u u' : World} {o : Nat} {l l' : List Nat} (k : D1 w0 o l u) (hw : Wrote o u u') (hb : Blk u' o 3 (dV l').toArray) : D1 w0 o l' u' :=
  ⟨hw.below k.bel k.lo k.bel.size, hb, k.lo⟩
theorem D1.next {w0 u u' : World} {o : Nat} {l : List Nat} (k : D1 w0 o l u) (hb : Below u.heap.size u u') : D1 w0 o l u' :=
  ⟨k.bel.trans (hb.mono k.bel.size), k.out.below hb k.out.lt, k.lo⟩
theorem D1.drew {w0 u : World} {o : Nat} {l : List Nat} (k : D1 w0 o l u) : D1 w0 o l u.drew := ⟨k.bel.drew, k.out, k.lo⟩
theorem D1.post {w0 u : World} {o n c : Nat} {l : List Nat} (k : D1 w0 o l u) (hn : n = l.length) (hc : n ≤ c) : DigPost l w0 (.returned (.slice (some ⟨o, 0, none⟩) n c)) u :=
  ⟨_, c, by rw [hn], by omega, Rd.of_blk k.out k.out.lt, k.bel⟩
end Go.Proofs.YtilhhigdegccgaaDoor
/-
  Walk: jwk.Name.
-/
namespace Go.Proofs.YtilhhigdegccgaaDoor
set_option linter.unusedSimpArgs false
set_option linter.unusedVariables false
open Go.RowKit
def hexD (n : Nat) : Nat := if n < 10 then 48 + n else 87 + n
def hexB (x : Nat) : List UInt8 := [UInt8.ofNat (hexD (x / 16)), UInt8.ofNat (hexD (x % 16))]
def nameK (h : List UInt8) (k : Nat) : List UInt8 := (h.take k).flatMap fun b => hexB b.toNat
theorem nameK_succ {h : List UInt8} {k : Nat} (hk : k < h.length) : nameK h (k + 1) = nameK h k ++ hexB h[k].toNat := by
  rw [nameK, List.take_succ_eq_append_getElem hk, List.flatMap_append]
  simp [nameK]
theorem hexB_length (x : Nat) : (hexB x).length = 2 := rfl
theorem nameK_length {h : List UInt8} : ∀ {k : Nat}, k ≤ h.length → (nameK h k).length = 2 * k
  | 0, _ => by simp [nameK]
  | k + 1, hk => by rw [nameK_succ (by omega), List.length_append, nameK_length (k := k) (by omega), hexB_length]; omega
def nameS (data : List UInt8) : ByteArray := ⟨(nameK (Sh.digS Sh.F32 data) 4).toArray⟩
end Go.Proofs.YtilhhigdegccgaaDoor
/-
  Plain: turning a word step by step is turning it at once.
-/
namespace Go.Proofs.YtilhhigdegccgaaDoor.Sh
set_option linter.unusedSimpArgs false
set_option linter.unusedVariables false
open Go.RowKit
def turnR (b x : Nat) : Nat → Nat
  | 0 => x
  | n + 1 => turnR b x n / 2 + turnR b x n % 2 * 2 ^ (b - 1)
theorem rotN_add {b x n : Nat} (hx : x < 2 ^ b) (hn : n ≤ b) : rotN b x n = x / 2 ^ n + x % 2 ^ n * 2 ^ (b - n) := by
  obtain ⟨m, rfl⟩ : ∃ m, b = n + m := ⟨b - n, by omega⟩
  have hm : n + m - n = m := by omega
  rw [rotN, hm]
  have h1 : x * 2 ^ m % 2 ^ (n + m) = x % 2 ^ n * 2 ^ m := by
    rw [Nat.pow_add, Nat.mul_mod_mul_right]
  have h2 : x / 2 ^ n < 2 ^ m := by
    rw [Nat.div_lt_iff_lt_mul (Nat.two_pow_pos _), ← Nat.pow_add, Nat.add_comm m n]; exact hx
  rw [h1, Nat.mul_comm (x % 2 ^ n), Nat.or_comm, ← Nat.two_pow_add_eq_or_of_lt h2]
  omega
theorem turnR_eq {b x : Nat} (hx : x < 2 ^ b) : ∀ n, n ≤ b → turnR b x n = x / 2 ^ n + x % 2 ^ n * 2 ^ (b - n)
  | 0, _ => by simp [turnR, Nat.mod_one]
  | n + 1, hn => by
    rw [turnR, turnR_eq hx n (by omega)]
    obtain ⟨m, rfl⟩ : ∃ m, b = n + 1 + m := ⟨b - (n + 1), by omega⟩
    rw [show n + 1 + m - n = m + 1 by omega, show n + 1 + m - (n + 1) = m by omega, show n + 1 + m - 1 = n + m by omega]
    obtain ⟨q, hq⟩ : ∃ q, q = x / 2 ^ n := ⟨_, rfl⟩
    obtain ⟨r, hr⟩ : ∃ r, r = x % 2 ^ n := ⟨_, rfl⟩
    have hq2 : x / 2 ^ (n + 1) = q / 2 := by rw [hq, Nat.pow_succ, Nat.div_div_eq_div_mul]
    have hr2 : x % 2 ^ (n + 1) = r + q % 2 * 2 ^ n := by
      rw [hr, hq, Nat.pow_succ, Nat.mod_mul]
      rw [Nat.mul_comm (2 ^ n)]
    rw [hq2, hr2, ← hq, ← hr]
    rw [Nat.pow_succ, ← Nat.mul_assoc]
    generalize hz : r * 2 ^ m = z
    rw [Nat.add_mul, hz, Nat.mul_assoc, ← Nat.pow_add, Nat.add_mul_mod_self_right, Nat.add_mul_div_right _ _ (by decide)]
    omega
theorem turnR_rot {b x n : Nat} (hx : x < 2 ^ b) (hn : n ≤ b) : turnR b x n = rotN b x n := by rw [turnR_eq hx n hn, rotN_add hx hn]
theorem turnR_lt {b x : Nat} (hb : 0 < b) (hx : x < 2 ^ b) : ∀ n, turnR b x n < 2 ^ b
  | 0 => hx
  | n + 1 => by
    have ih := turnR_lt hb hx n
    obtain ⟨c, rfl⟩ : ∃ c, b = c + 1 := ⟨b - 1, by omega⟩
    rw [turnR, show c + 1 - 1 = c by omega]
    rw [Nat.pow_succ] at *
    generalize 2 ^ c = p at *
    generalize turnR (c + 1) x n = y at *
    have : y % 2 = 0 ∨ y % 2 = 1 := by omega
    rcases this with h | h <;> rw [h] <;> omega
theorem turnR_turned {b x n : Nat} (hb : b = 32 ∨ b = 64) (hx : x < 2 ^ b) (hn : n ≤ b) : turnR b x n = turnedN b x n := by
  rw [turnR_rot hx hn]
  rcases hb with rfl | rfl
  · rw [turnedN, if_pos rfl, Nat.mod_eq_of_lt hx]
  · rw [turnedN, if_neg (by decide)]
end Go.Proofs.YtilhhigdegccgaaDoor.Sh
/-
  Walks: the reference's turn, mixed, low, top.
-/
namespace Go.Proofs.YtilhhigdegccgaaDoor.Sh
set_option linter.unusedSimpArgs false
set_option linter.unusedVariables false
open Go.RowKit
def hC (bits steps : Nat) (a b c d k f : Value) : Array Value := #[.int .i64 bits, .int .i64 steps, a, b, c, d, k, f]
section
variable (bits steps : Nat) (a b c d k f : Value) (w : World)
theorem low_any (hb : bits = 32 ∨ bits = 64) (x : Nat) (hx : x < 18446744073709551616) :
    Calls Tryd.prog 91 #[.agg (hC bits steps a b c d k f), .int .u64 x] w fun e w' => e = .returned (.int .u64 (x % 2 ^ bits : Nat)) ∧ Below w.heap.size w w' := by
  have c0 := (Blk.new w 108 (hC bits steps a b c d k f)).cell 0
  simp only [hC, List.getElem?_toArray, List.getElem?_cons_zero] at c0
  have hx1 : (x : Int) < 18446744073709551616 := by omega
  rw [hC]
  rcases hb with rfl | rfl
  · clear hx
    go_enter Tryd.func91, Tryd.ntmps91
    go_wp2
    go_ret
    exact ⟨ret_int' (by omega), below_new _ _⟩
  · have HX := Lib.hid hx
    clear hx
    go_enter Tryd.func91, Tryd.ntmps91
    go_wp2
    go_ret
    exact ⟨ret_int' (by have := HX.out; omega), below_new _ _⟩
theorem top_any (hb : bits = 32 ∨ bits = 64) (x : Nat) (hx : x < 18446744073709551616) :
    Calls Tryd.prog 77 #[.agg (hC bits steps a b c d k f), .int .u64 x] w fun e w' => e = .returned (.int .u64 (x / 2 ^ (64 - bits) % 2 ^ bits : Nat)) ∧ Below w.heap.size w w' := by
  have c0 := (Blk.new w 108 (hC bits steps a b c d k f)).cell 0
  simp only [hC, List.getElem?_toArray, List.getElem?_cons_zero] at c0
  have hx1 : (x : Int) < 18446744073709551616 := by omega
  rw [hC]
  rcases hb with rfl | rfl
  · have HX := Lib.hid hx
    clear hx
    go_enter Tryd.func77, Tryd.ntmps77
    go_wp2
    go_ret
    exact ⟨ret_int' (by have := HX.out; omega), below_new _ _⟩
  · have HX := Lib.hid hx
    clear hx
    go_enter Tryd.func77, Tryd.ntmps77
    go_wp2
    go_ret
    exact ⟨ret_int' (by have := HX.out; omega), below_new _ _⟩
set_option maxHeartbeats 1000000 in
theorem turn_any (hb : bits = 32 ∨ bits = 64) (x n : Nat) (hx : x < 2 ^ bits) (hn : n ≤ bits) :
    Calls Tryd.prog 96 #[.agg (hC bits steps a b c d k f), .int .u64 x, .int .i64 n] w fun e w' => e = .returned (.int .u64 (turnedN bits x n : Nat)) ∧ Below w.heap.size w w' := by
  have c0 := (Blk.new w 108 (hC bits steps a b c d k f)).cell 0
  simp only [hC, List.getElem?_toArray, List.getElem?_cons_zero] at c0
  have hbel := below_new w (.cells (hC bits steps a b c d k f) 108)
  rw [hC] at hbel ⊢
  have HTU := Lib.hid (turnR_turned hb hx hn)
  have HTL := Lib.hid (turnR_lt (by omega) hx)
  have HBEL := Lib.hid hbel
  have hn64 : n ≤ 64 := by omega
  clear hbel hn hx
  rcases hb with rfl | rfl
  all_goals
    go_enter Tryd.func96, Tryd.ntmps96
    go_wp2
    go_loop [1, 7] (fun v i => ∃ j y : Nat, j ≤ n ∧ i = .int .i64 j ∧ y = turnR _ x j ∧ v = .int .u64 y) (fun _ i => n - (intOf i).toNat)
    case atStart => exact ⟨0, x, by omega, rfl, rfl, rfl⟩
    case round =>
      obtain ⟨j, y, hj, rfl, hy, rfl⟩ := hrel
      have hyl := HTL.out j
      rw [← hy] at hyl
      have HY := Lib.hid hy
      have hyl2 : (y : Int) < 18446744073709551616 := by omega
      have hyl3 : (y : Int) / 2 + 2147483648 < 18446744073709551616 := by omega
      have hyl4 : (y : Int) / 2 + 9223372036854775808 < 18446744073709551616 := by omega
      clear hy hyl
      by_cases hlt : j < n
      · rcases Nat.mod_two_eq_zero_or_one y with h | h
        · have ho : (((y : Int) % 2) == 1) = false := by rw [beq_eq_false_iff_ne]; omega
          have HH := Lib.hid h
          clear h
          go_wp2
          exact ⟨⟨j + 1, y / 2, by omega, by go_num, by rw [turnR, ← HY.out, HH.out]; omega, by go_num⟩, by simp [intOf]; omega⟩
        · have ho : (((y : Int) % 2) == 1) = true := by rw [beq_iff_eq]; omega
          have HH := Lib.hid h
          clear h
          go_wp2
          first
            | exact ⟨⟨j + 1, y / 2 + 2147483648, by omega, by go_num, by rw [turnR, ← HY.out, HH.out], by go_num⟩, by simp [intOf]; omega⟩
            | exact ⟨⟨j + 1, y / 2 + 9223372036854775808, by omega, by go_num, by rw [turnR, ← HY.out, HH.out], by go_num⟩, by simp [intOf]; omega⟩
      · obtain rfl : j = n := by omega
        go_wp2
        go_ret
        exact ⟨ret_int' (by rw [HY.out, HTU.out]), HBEL.out⟩
end
end Go.Proofs.YtilhhigdegccgaaDoor.Sh
/-
  Laws of my own: cells of a slice that reads.
-/
namespace Go.Proofs.YtilhhigdegccgaaDoor
set_option linter.unusedSimpArgs false
set_option linter.unusedVariables false
open Go.RowKit
theorem Rd.val {w : World} {B : Nat} {ad : Addr} {xs : List Value} (h : Rd w B (some ad) xs) {k : Nat} {v : Value} (hv : xs[k]? = some v) : w.cell? (ad.add k) = some v := by
  obtain ⟨ad', e, _, hc⟩ := h k v hv
  injection e with e
  subst e
  exact hc
theorem Rd.val0 {w : World} {B : Nat} {ad : Addr} {xs : List Value} (h : Rd w B (some ad) xs) {v : Value} (hv : xs[0]? = some v) : w.cell? ad = some v := by
  have := h.val hv
  rwa [show ad.add 0 = ad by unfold Addr.add; simp] at this
theorem Rd.lit {w : World} {B : Nat} {ad : Addr} {xs : List Value} (h : Rd w B (some ad) xs) {k : Nat} {v : Value} (hv : xs[k]? = some v) (hk : k ≠ 0) : w.cell? ⟨ad.block, ad.off + k, none⟩ = some v := by
  have := h.val hv
  rwa [show ad.add k = ⟨ad.block, ad.off + k, none⟩ by unfold Addr.add; simp [hk]] at this
theorem OwnX.ptr {w : World} {base e n c : Nat} {A : Option Addr} {xs : List Value} (h : OwnX w base e 1 (.slice A n c) n xs) (hn : 0 < n) : ∃ g, A = some ⟨g, 0, none⟩ ∧ base ≤ g ∧ g < w.heap.size := by
  have hl := h.lt
  rcases h.2 with ⟨_, h0⟩ | ⟨g, cap, cur, fz, hv, hb, hg, _⟩
  · omega
  · injection hv with h1
    subst h1
    exact ⟨g, rfl, hb, (Array.getElem?_eq_some_iff.1 hg).1⟩
theorem OwnX.atN {w : World} {base e n c g i : Nat} {xs : List Value} {v : Value} (h : OwnX w base e 1 (.slice (some ⟨g, 0, none⟩) n c) n xs) (hv : xs[i]? = some v) : w.cell? ⟨g, i, none⟩ = some v := by
  have := h.cells (g := g) rfl i v hv
  rwa [Addr.add_lit, Nat.zero_add] at this
end Go.Proofs.YtilhhigdegccgaaDoor
