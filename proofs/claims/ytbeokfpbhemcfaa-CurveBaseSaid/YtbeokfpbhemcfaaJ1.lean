/-
  Joined texts: Base Laws Open OpenB Box Part Region Guard Conv Det Words.
-/
import Derived.WalkKit
import Derived.WalkSpells
import Derived.WalkLawsBesides
import Derived.Lib.Strings
import Derived.Maps.AppendAt
import Derived.Deep.Draws
import Derived.Lib.AppendStr
import Derived.Lib.Hide
import Derived.Test.YtbeokfpbhemcfaaRows
import Derived.ProofKit
import Derived.OpenShut
import Derived.SizedLaws
import Derived.Lib.SmallJoins
import Derived.SliceStrings
import Derived.Laws.Rows
import Derived.Laws.Tables
import Derived.Laws.CopyRow
import Derived.Laws.Unary
import Derived.Laws.Bits64
import Derived.Laws.BitsLemmas
import Derived.Orders
import Derived.Laws.BytesArg
import Derived.Laws.IdiomStrings
/-
  Small words of my own: bytes as values.
-/
namespace Go.Proofs.Ytbeokfpbhemcfaa
set_option linter.unusedSimpArgs false
set_option linter.unusedVariables false
open Go.RowKit

/-- A byte as a value. -/
def byteV (b : UInt8) : Value := .int .u8 (b.toNat : Int)
def bytesV (l : List UInt8) : List Value := l.map byteV

theorem bytesV_append (l r : List UInt8) : bytesV (l ++ r) = bytesV l ++ bytesV r := by simp [bytesV]
theorem bytesV_length (l : List UInt8) : (bytesV l).length = l.length := by simp [bytesV]
theorem ret_int {k : IntKind} {a b : Int} (h : a = b) : Ending.returned (.int k a) = .returned (.int k b) := by rw [h]
theorem ret_bool {a b : Bool} (h : a = b) : Ending.returned (.bool a) = .returned (.bool b) := by rw [h]
theorem ret_str {a b : ByteArray} (h : a = b) : Ending.returned (.string a) = .returned (.string b) := by rw [h]
theorem toList_eq (s : ByteArray) : s.toList = s.data.toList := Lib.toList_data s
theorem toList_nil_iff (s : ByteArray) : s.toList = [] ↔ s.size = 0 := by
  rw [toList_eq]
  constructor
  · intro h
    have : s.data.toList.length = 0 := by rw [h]; rfl
    rwa [Array.length_toList] at this
  · intro h
    exact List.eq_nil_of_length_eq_zero (by rw [Array.length_toList]; exact h)
theorem byteV_ofInt (x : Int) (h0 : 0 ≤ x) : byteV (UInt8.ofInt x) = .int .u8 (x % 256) := by
  unfold byteV
  congr 1
  obtain ⟨n, rfl⟩ := Int.eq_ofNat_of_zero_le h0
  simp [UInt8.ofInt, UInt8.toNat, UInt8.ofNat]
  omega

end Go.Proofs.Ytbeokfpbhemcfaa
/-
  Laws of my own in forms that meet the walk's goal as it stands: append of one element, of a string, of a slice that reads; rows that grow one behind the other.
-/
namespace Go.Proofs.Ytbeokfpbhemcfaa
set_option linter.unusedSimpArgs false
set_option linter.unusedVariables false
open Go.RowKit

theorem calls_then {P : Program} {f : FuncId} {args : Array Value} {w : World} {R K : Ending → World → Prop} (h : Calls P f args w R) (hk : ∀ e w', R e w' → K e w') : Calls P f args w K := h.mono hk
/-- A slice type's rows of the table, in one word. -/
structure SlT (P : Program) (t e : TypeId) (size bytes : Nat) : Prop where
  und : P.underlying t = some (.slice e)
  info : ∃ i z, P.info? e = some i ∧ i.zero = some z ∧ i.size = size ∧ i.bytes = bytes ∧ z.cells.size = size
  pos : 0 < size

theorem SlT.mk1 {P : Program} {t e : TypeId} {z : Value} {size bytes : Nat} (hu : P.underlying t = some (.slice e)) (h : (P.info? e).map (fun i => (i.zero, i.size, i.bytes)) = some (some z, size, bytes))
    (hz : z.cells.size = size) (hp : 0 < size) : SlT P t e size bytes := by
  obtain ⟨i, hi, h0, h1, h2⟩ := info_parts h
  exact ⟨hu, ⟨i, z, hi, h0, h1, h2, hz⟩, hp⟩

/-- The row of v' lies where v's lay, or in memory made since w. -/
def Next (w : World) (v v' : Value) : Prop := v'.ownBlock = v.ownBlock ∨ ∀ k, v'.ownBlock = some k → w.heap.size ≤ k

theorem Next.refl (w : World) (v : Value) : Next w v v := .inl rfl
theorem Next.trans {w w1 : World} {v v1 v2 : Value} (h : Next w v v1) (h1 : Next w1 v1 v2) (hs : w.heap.size ≤ w1.heap.size) : Next w v v2 := by
  rcases h1 with h1 | h1
  · rcases h with h | h
    · exact .inl (h1.trans h)
    · exact .inr fun k hk => h k (h1 ▸ hk)
  · exact .inr fun k hk => Nat.le_trans hs (h1 k hk)
theorem Next.back {w w1 : World} {v v' : Value} (h : Next w1 v v') (hs : w.heap.size ≤ w1.heap.size) : Next w v v' :=
  h.imp id fun h k hk => Nat.le_trans hs (h k hk)
/-- Two writings one behind the other. -/
theorem grown_next {w w1 w2 : World} {v v1 : Value} (h : w.grownBy w1 v.ownBlock) (hn : Next w v v1) (h1 : w1.grownBy w2 v1.ownBlock) : w.grownBy w2 v.ownBlock := by
  refine ⟨h1.os.trans h.os, h1.tape.trans h.tape, h1.output.trans h.output, Nat.le_trans h.size h1.size, fun k hk hne => ?_⟩
  refine (h1.block k (Nat.lt_of_lt_of_le hk h.size) ?_).trans (h.block k hk hne)
  rcases hn with hn | hn
  · rwa [hn]
  · intro e; have := hn k e.symm; omega
theorem grown_drew {w w1 : World} {r : Option Nat} (h : w.grownBy w1 r) : w.grownBy w1.drew r := ⟨h.os, h.tape, h.output, h.size, h.block⟩
theorem grown_drewN {w w1 : World} {r : Option Nat} (h : w.grownBy w1 r) (n : Nat) : w.grownBy (w1.drewN n) r := ⟨h.os, h.tape, h.output, h.size, h.block⟩
theorem grown_alloc {w w1 : World} {r : Option Nat} (h : w.grownBy w1 r) (o : Obj) : w.grownBy (w1.alloc o) r :=
  h.trans (World.grownBy_alloc _ _ _)
/-- What grows by a row of new memory leaves what was there. -/
theorem below_of_grown {B : Nat} {w w1 : World} {v : Value} (h : w.grownBy w1 v.ownBlock) (hB : B ≤ w.heap.size) (hv : ∀ k, v.ownBlock = some k → B ≤ k) : Below B w w1 :=
  (Below.refl B w).grown h hB hv

/-- A row that the call owns, as 'ownsRow'; or one without room whose block bears a mark of its own (a constant's bytes). -/
def OwnX (w : World) (base : Nat) (e : TypeId) (size : Nat) (v : Value) (n : Nat) (xs : List Value) : Prop :=
  xs.length = n * size ∧
  ((v = .slice none 0 0 ∧ n = 0) ∨
   ∃ g cap cur fz, v = .slice (some ⟨g, 0, none⟩) n cap ∧ base ≤ g ∧ w.heap[g]? = some (.cells cur e fz) ∧ n ≤ cap ∧ cap ≤ maxLen ∧ cur.size = cap * size ∧ cur.toList.take (n * size) = xs ∧ (fz = (0, 0) ∨ cap = n))
section
variable {w w' : World} {base e size n : Nat} {v : Value} {xs : List Value}
theorem OwnX.of (h : w.ownsRow base e size v n xs) : OwnX w base e size v n xs := by
  refine ⟨h.1, ?_⟩
  rcases h.2 with h | ⟨g, cap, cur, h1, h2, h3, h4, h5, h6, h7⟩
  · exact .inl h
  · exact .inr ⟨g, cap, cur, (0, 0), h1, h2, h3, h4, h5, h6, h7, .inl rfl⟩
theorem OwnX.nil (w : World) (base e size : Nat) : OwnX w base e size (.slice none 0 0) 0 [] := ⟨by simp, .inl ⟨rfl, rfl⟩⟩
theorem OwnX.lt (h : OwnX w base e size v n xs) : ∀ k, v.ownBlock = some k → base ≤ k ∧ k < w.heap.size := by
  intro k hk
  rcases h.2 with ⟨rfl, _⟩ | ⟨g, cap, cur, fz, rfl, hb, hg, _⟩
  · simp [Value.ownBlock] at hk
  · simp [Value.ownBlock] at hk
    subst hk
    exact ⟨hb, (Array.getElem?_eq_some_iff.1 hg).1⟩
theorem OwnX.kept {row : Option Nat} (h : OwnX w base e size v n xs) (hg : w.grownBy w' row) (hne : v.ownBlock = none ∨ v.ownBlock ≠ row) : OwnX w' base e size v n xs := by
  refine ⟨h.1, ?_⟩
  rcases h.2 with hn | ⟨g, cap, cur, fz, rfl, hb, hgg, rest⟩
  · exact .inl hn
  · refine .inr ⟨g, cap, cur, fz, rfl, hb, ?_, rest⟩
    rw [hg.block g (Array.getElem?_eq_some_iff.1 hgg).1 (by simpa [Value.ownBlock] using hne)]
    exact hgg
theorem OwnX.alloc (h : OwnX w base e size v n xs) (o : Obj) : OwnX (w.alloc o) base e size v n xs :=
  h.kept (World.grownBy_alloc w o none) (by cases hv : v.ownBlock <;> simp)
theorem OwnX.below (h : OwnX w base e size v n xs) {B : Nat} (hb : Below B w w') (hB : w.heap.size ≤ B) : OwnX w' base e size v n xs := by
  refine ⟨h.1, ?_⟩
  rcases h.2 with hn | ⟨g, cap, cur, fz, rfl, hbb, hgg, rest⟩
  · exact .inl hn
  · exact .inr ⟨g, cap, cur, fz, rfl, hbb, (hb.block g (Nat.lt_of_lt_of_le (Array.getElem?_eq_some_iff.1 hgg).1 hB)).trans hgg, rest⟩
theorem OwnX.le_cap {A : Option Addr} {c : Nat} (h : OwnX w base e size (.slice A n c) n xs) : n ≤ c := by
  rcases h.2 with ⟨_, hn⟩ | ⟨g, cap, cur, fz, hv, _, _, hnc, _⟩
  · omega
  · injection hv with _ _ h3; omega
theorem OwnX.mono (h : OwnX w base e size v n xs) {base' : Nat} (hb : base' ≤ base) : OwnX w base' e size v n xs :=
  ⟨h.1, h.2.elim .inl fun ⟨g, cap, cur, fz, hv, hg, r⟩ => .inr ⟨g, cap, cur, fz, hv, Nat.le_trans hb hg, r⟩⟩
theorem OwnX.cells (h : OwnX w base e size v n xs) {g : Nat} (hg : v.ownBlock = some g) : ∀ j u, xs[j]? = some u → w.cell? ((⟨g, 0, none⟩ : Addr).add j) = some u := by
  intro j u hu
  rcases h.2 with ⟨rfl, _⟩ | ⟨g', cap, cur, fz, rfl, _, hgg, _, _, _, htake, _⟩
  · simp [Value.ownBlock] at hg
  · simp [Value.ownBlock] at hg
    subst hg
    have hadd : (⟨g', 0, none⟩ : Addr).add j = ⟨g', j, none⟩ := by unfold Addr.add; split <;> simp_all
    rw [hadd, cell_of_row w g' j cur e fz hgg]
    rw [← htake, List.getElem?_take] at hu
    split at hu
    · simpa using hu
    · cases hu
end

theorem grown_of_below {w w1 : World} (h : Below w.heap.size w w1) (r : Option Nat) : w.grownBy w1 r := ⟨h.os, h.tape, h.output, h.size, fun k hk _ => h.block k hk⟩
theorem next_nil {W w : World} {B e s n : Nat} {v : Value} {xs : List Value} (h : OwnX w B e s v n xs) (hB : W.heap.size ≤ B) : Next W (.slice none 0 0) v := .inr fun k hk => Nat.le_trans hB (h.lt k hk).1
theorem below_own {W w1 w2 : World} {B e s n : Nat} {v : Value} {xs : List Value} (hb : Below W.heap.size W w1) (h : OwnX w1 B e s v n xs) (hB : W.heap.size ≤ B) (hg : w1.grownBy w2 v.ownBlock) : Below W.heap.size W w2 :=
  hb.grown hg hb.size fun k hk => Nat.le_trans hB (h.lt k hk).1
theorem below_row {W w1 w2 : World} {v : Value} (hb : Below W.heap.size W w1) (hn : Next W (.slice none 0 0) v) (hg : w1.grownBy w2 v.ownBlock) : Below W.heap.size W w2 := by
  refine hb.grown hg hb.size fun k hk => ?_
  rcases hn with hn | hn
  · rw [hn] at hk; simp [Value.ownBlock] at hk
  · exact hn k hk
/-- What a slice (or nothing) at A reads as, in blocks below B. -/
def Rd (w : World) (B : Nat) (A : Option Addr) (xs : List Value) : Prop := ∀ i u, xs[i]? = some u → ∃ ad, A = some ad ∧ ad.block < B ∧ w.cell? (ad.add i) = some u
theorem block_of_add (a : Addr) (n : Nat) : (a.add n).block = a.block := by unfold Addr.add; split <;> rfl
theorem Rd.below {w w' : World} {B : Nat} {A : Option Addr} {xs : List Value} (h : Rd w B A xs) (hb : Below B w w') : Rd w' B A xs := fun i u hu => by
  obtain ⟨ad, ha, hlt, hc⟩ := h i u hu
  exact ⟨ad, ha, hlt, (hb.cell (by rw [block_of_add]; exact hlt)).trans hc⟩
theorem Rd.mono {w : World} {B B' : Nat} {A : Option Addr} {xs : List Value} (h : Rd w B A xs) (hb : B ≤ B') : Rd w B' A xs := fun i u hu => by
  obtain ⟨ad, ha, hlt, hc⟩ := h i u hu
  exact ⟨ad, ha, Nat.lt_of_lt_of_le hlt hb, hc⟩
theorem Rd.nil (w : World) (B : Nat) (A : Option Addr) : Rd w B A [] := fun i u hu => by simp at hu
theorem Rd.at_ {w : World} {B k : Nat} {A : Option Addr} {xs : List Value} (h : Rd w B A xs) (hk : k < xs.length) : ∃ ad, A = some ad ∧ ad.block < B ∧ w.cell? (ad.add k) = some xs[k] :=
  h k _ (List.getElem?_eq_getElem hk)
theorem Rd.of_own {w : World} {base B : Nat} {e : TypeId} {size n c : Nat} {A : Option Addr} {xs : List Value} (h : OwnX w base e size (.slice A n c) n xs) (hB : w.heap.size ≤ B) : Rd w B A xs := fun i u hu => by
  rcases h.2 with ⟨hv, hn⟩ | ⟨g, cap, cur, fz, hv, hbg, hg, _⟩
  · have := h.1
    rw [hn, Nat.zero_mul] at this
    rw [List.eq_nil_of_length_eq_zero this] at hu
    simp at hu
  · have hA : A = some ⟨g, 0, none⟩ := by injection hv
    subst hA
    exact ⟨_, rfl, by have := (Array.getElem?_eq_some_iff.1 hg).1; show g < B; omega, h.cells (g := g) rfl i u hu⟩

/-- Every block of cells that are not of type e stays as it was. -/
def KeepBut (e : TypeId) (w w' : World) : Prop := w.heap.size ≤ w'.heap.size ∧ ∀ (k : Nat) (cs : Array Value) (t : TypeId) (fz : Nat × Nat), t ≠ e → w.heap[k]? = some (Obj.cells cs t fz) → w'.heap[k]? = some (Obj.cells cs t fz)
theorem keepBut_of_grown {w w' : World} {B : Nat} {e : TypeId} {s n : Nat} {v : Value} {xs : List Value} (hown : OwnX w B e s v n xs) (hg : w.grownBy w' v.ownBlock) : KeepBut e w w' := by
  refine ⟨hg.size, fun k cs t fz ht hk => ?_⟩
  have hlt : k < w.heap.size := (Array.getElem?_eq_some_iff.1 hk).1
  refine (hg.block k hlt fun hb => ?_).trans hk
  rcases hown.2 with ⟨rfl, _⟩ | ⟨g, cap, cur, fz, rfl, _, hgg, _⟩
  · simp [Value.ownBlock] at hb
  · simp [Value.ownBlock] at hb
    subst hb
    rw [hgg] at hk
    simp at hk
    exact ht hk.2.1.symm
theorem heap_keep {e : TypeId} {w w' : World} (h : KeepBut e w w') {k : Nat} {cs : Array Value} {t : TypeId} {fz : Nat × Nat} (ht : t ≠ e) (hk : w.heap[k]? = some (.cells cs t fz)) : w'.heap[k]? = some (.cells cs t fz) := h.2 k cs t fz ht hk
/-- One block more. -/
def Alloc1 (w w' : World) : Prop := ∃ o, w' = w.alloc o
theorem heap_alloc1 {w w' : World} (h : Alloc1 w w') {k : Nat} {o : Obj} (hk : w.heap[k]? = some o) : w'.heap[k]? = some o := by
  obtain ⟨o', rfl⟩ := h
  exact (Below.heap_alloc w o' k (Array.getElem?_eq_some_iff.1 hk).1).trans hk
theorem own_alloc1 {w w' : World} (h : Alloc1 w w') {B : Nat} {e : TypeId} {s n : Nat} {v : Value} {xs : List Value} (ho : OwnX w B e s v n xs) : OwnX w' B e s v n xs := by
  obtain ⟨o', rfl⟩ := h; exact ho.alloc _
theorem grown_alloc1 {w0 w w' : World} (h : Alloc1 w w') {r : Option Nat} (hg : w0.grownBy w r) : w0.grownBy w' r := by
  obtain ⟨o', rfl⟩ := h; exact grown_alloc hg _
/-- A slice of one number, in memory of its own. -/
def One (e : TypeId) (y : Value) (x : Value) (w : World) : Prop := ∃ g, x = .slice (some ⟨g, 0, none⟩) 1 1 ∧ w.heap[g]? = some (.cells #[y] e (0, 0))
theorem One.keep {e f : TypeId} {y x : Value} {w w' : World} (h : One e y x w) (hk : KeepBut f w w') (hne : e ≠ f) : One e y x w' := by
  obtain ⟨g, hx, hg⟩ := h; exact ⟨g, hx, heap_keep hk hne hg⟩
theorem One.alloc1 {e : TypeId} {y x : Value} {w w' : World} (h : One e y x w) (hk : Alloc1 w w') : One e y x w' := by
  obtain ⟨g, hx, hg⟩ := h; exact ⟨g, hx, heap_alloc1 hk hg⟩
theorem One.full {e : TypeId} {y x : Value} {w w' : World} (h : One e y x w) (hk : Below w.heap.size w w') : One e y x w' := by
  obtain ⟨g, hx, hg⟩ := h; exact ⟨g, hx, (hk.block g (Array.getElem?_eq_some_iff.1 hg).1).trans hg⟩
theorem One.new (e : TypeId) (y : Value) (w : World) : One e y (.slice (some ⟨w.heap.size, 0, none⟩) 1 1) (w.alloc (.cells #[y] e)) := ⟨_, rfl, heap_alloc_new w _⟩

section
variable {P : Program}
/-- A new row behind growth. -/
theorem own_grown {w : World} {base e size n m old : Nat} {z : Value} {xs news : List Value} (hx : xs.length = n * size) (hl : news.length = m * size) (hzs : z.cells.size = size) (h63 : n + m ≤ maxLen) (hbase : base ≤ w.heap.size) :
    (w.drew.alloc (.cells (xs.toArray ++ news.toArray ++ Builtin.zeroCells z.cells (grownCap w (n + m) old e - (n + m))) e)).ownsRow base e size
      (.slice (some ⟨w.heap.size, 0, none⟩) (n + m) (grownCap w (n + m) old e)) (n + m) (xs ++ news) := by
  have hge := grownCap_ge w (n + m) old e
  have hcm : grownCap w (n + m) old e ≤ maxLen := grownCap_le_maxLen w (n + m) old e h63
  have hlen : (xs ++ news).length = (n + m) * size := by rw [List.length_append, hx, hl, Nat.add_mul]
  refine ⟨hlen, .inr ⟨w.heap.size, _, _, rfl, hbase, heap_alloc_new w.drew _, hge, hcm, ?_, ?_⟩⟩
  · simp only [Array.size_append, List.size_toArray, size_zeroCells, hzs, hx, hl, ← Nat.add_mul]
    congr 1
    omega
  · simp only [Array.toList_append, List.append_assoc]
    rw [← List.append_assoc, ← hlen]
    exact List.take_left
theorem grown_draw_alloc (w : World) (o : Obj) (r : Option Nat) : w.grownBy (w.drew.alloc o) r := ⟨rfl, rfl, rfl, by simp, fun k hk _ => Below.heap_alloc w.drew o k hk⟩

/-- What an append leaves. -/
def App (w : World) (base e size : Nat) (v : Value) (n : Nat) (xs : List Value) (x : Value) (w' : World) : Prop :=
  OwnX w' base e size x n xs ∧ w.grownBy w' v.ownBlock ∧ Next w v x

/-- 'append(s, x...)', x a slice that reads as it stands. -/
theorem run_append_x {w : World} {t ty e : TypeId} {size bytes : Nat} (T : SlT P t e size bytes) {base n : Nat} {v : Value} {xs : List Value} (hown : OwnX w base e size v n xs)
    {Ad : Option Addr} {m c : Nat} {news : List Value} (hl : news.length = m * size) (hnews : ∀ j u, news[j]? = some u → ∃ ad, Ad = some ad ∧ w.cell? (ad.add j) = some u) (h1 : ∀ u ∈ news, u.oneCell' = true)
    (h63 : n + m ≤ maxLen) (hbytes : (n + m) * bytes ≤ 140737488355328) (hbase : base ≤ w.heap.size) :
    ∃ A c' w', (Builtin.append_ #[t, t] ty #[v, .slice Ad m c]).run P w = .ok (.slice A (n + m) c') w' ∧ App w base e size v (n + m) (xs ++ news) (.slice A (n + m) c') w' := by
  obtain ⟨i, z, hi, hz, hsz, hby, hzs⟩ := T.info
  by_cases hm : m = 0
  · subst hm
    have hnn : news = [] := List.eq_nil_of_length_eq_zero (by simpa using hl)
    subst hnn
    rcases hown.2 with ⟨rfl, rfl⟩ | ⟨g, cap, cur, fz, rfl, hb, hgg, hnc, rest⟩
    · refine ⟨none, 0, w, ?_, by simpa using hown, World.grownBy.refl _ _, .inl rfl⟩
      cases Ad <;> simp [Builtin.append_, run_underlying T.und, sizeOf, typeInfo, hi, Builtin.lenOf, Builtin.firstCells, loadCells, loadCellsFrom]
    · refine ⟨some ⟨g, 0, none⟩, cap, w, ?_, by simpa using hown, World.grownBy.refl _ _, .inl rfl⟩
      cases Ad <;> simp [Builtin.append_, run_underlying T.und, sizeOf, typeInfo, hi, Builtin.lenOf, Builtin.firstCells, loadCells, loadCellsFrom, hnc, storeCells]
  · have hpos : 0 < news.length := by rw [hl]; exact Nat.mul_pos (by omega) T.pos
    obtain ⟨ad, rfl, _⟩ := hnews 0 _ (List.getElem?_eq_getElem hpos)
    have hcells : ∀ j u, news[j]? = some u → w.cell? (ad.add j) = some u := fun j u hu => by
      obtain ⟨ad', he, hc⟩ := hnews j u hu
      injection he with he
      subst he
      exact hc
    by_cases hf : w.ownsRow base e size v n xs
    · obtain ⟨v', w', hr, h2, h3, _, h5⟩ := run_append_own_at (P := P) w base t ty e i z size bytes T.und hi hz hsz hby hzs T.pos v n xs hf ad m c news hl hcells h1 h63 hbytes hbase
      have hn : Next w v v' := by
        rcases h5 with h5 | h5
        · exact .inl h5
        · exact .inr fun k hk => by rw [h5] at hk; simp at hk; omega
      rcases h2.2 with ⟨_, h0⟩ | ⟨g, cap, cur, rfl, _⟩
      · omega
      · exact ⟨_, _, w', hr, .of h2, h3, hn⟩
    · rcases hown.2 with hnil | ⟨g, cap, cur, fz, rfl, hb, hgg, hnc, hcm, hcs, htk, hfz⟩
      · exact absurd ⟨hown.1, .inl hnil⟩ hf
      · rcases hfz with rfl | rfl
        · exact absurd ⟨hown.1, .inr ⟨g, cap, cur, rfl, hb, hgg, hnc, hcm, hcs, htk⟩⟩ hf
        · have holds := hown.cells (g := g) rfl
          subst hsz
          subst hby
          have hr := run_append_grow (P := P) w t ty e i z T.und hi hz ⟨g, 0, none⟩ cap cap xs hown.1 holds ad m c news hl hcells (by omega) (by simp only [maxLen] at h63; omega) (growslice_fits (by omega) hbytes)
          exact ⟨_, _, _, hr, .of (own_grown hown.1 hl hzs h63 hbase), grown_draw_alloc _ _ _, .inr fun k hk => by simp [Value.ownBlock] at hk; omega⟩

/-- 'append(b, s...)', s a string: the run. -/
theorem run_append_str {w : World} {t u ty e : TypeId} (T : SlT P t e 1 1) (hz0 : ∃ i, P.info? e = some i ∧ i.zero = some (.int .u8 0)) (hu : P.underlying u = some .string)
    {base n : Nat} {v : Value} {xs : List Value} (s : ByteArray) (hown : OwnX w base e 1 v n xs) (hbytes : n + s.size ≤ 140737488355328) (hbase : base ≤ w.heap.size) :
    ∃ A c w', (Builtin.append_ #[t, u] ty #[v, .string s]).run P w = .ok (.slice A (n + s.size) c) w' ∧ App w base e 1 v (n + s.size) (xs ++ Lib.strCells s) (.slice A (n + s.size) c) w' := by
  obtain ⟨i, z, hi, hz, hsz, hby, hzs⟩ := T.info
  obtain ⟨i', hi', hz'⟩ := hz0
  have : i = i' := by rw [hi] at hi'; exact Option.some.inj hi'
  subst this
  have hsc : (Lib.strCells s).length = s.size * 1 := by rw [Lib.strCells_length]; omega
  by_cases hm : s.size = 0
  · have hf := Lib.run_firstCells_string (P := P) w 1 s
    rw [hm] at hf
    have hnn : Lib.strCells s = [] := List.eq_nil_of_length_eq_zero (by omega)
    rw [hm, hnn, List.append_nil, Nat.add_zero]
    rcases hown.2 with ⟨rfl, rfl⟩ | ⟨g, cap, cur, fz, rfl, hb, hgg, hnc, rest⟩
    · refine ⟨none, 0, w, ?_, hown, World.grownBy.refl _ _, .inl rfl⟩
      simp [Builtin.append_, run_underlying T.und, run_underlying hu, sizeOf, typeInfo, hi, hsz, Builtin.lenOf, hm, hf]
    · refine ⟨some ⟨g, 0, none⟩, cap, w, ?_, hown, World.grownBy.refl _ _, .inl rfl⟩
      rw [hnn] at hf
      simp [Builtin.append_, run_underlying T.und, run_underlying hu, sizeOf, typeInfo, hi, hsz, Builtin.lenOf, hm, hf, hnc, storeCells]
  · rcases hown.2 with ⟨rfl, rfl⟩ | ⟨g, cap, cur, fz, rfl, hbg, hg, hnc, hcm, hcs, htake, hfz⟩
    · have hx : xs = [] := List.eq_nil_of_length_eq_zero (by simpa using hown.1)
      subst hx
      have hr := run_append_nil_string (P := P) w t u ty e i (.int .u8 0) T.und hu hi hz' s (by omega) (by omega) (by rw [hby]; omega)
      have e1 : (s.data.map fun b => Value.int .u8 b.toNat) = (Lib.strCells s).toArray := by
        apply Array.ext'
        simp [Lib.strCells]
      rw [e1] at hr
      have hg := own_grown (w := w) (base := base) (e := e) (n := 0) (m := s.size) (old := 0) (z := .int .u8 0) (xs := []) (news := Lib.strCells s) (size := 1) (by simp) hsc rfl (by unfold maxLen; omega) hbase
      simp only [Nat.zero_add, List.nil_append, Array.empty_append] at hg ⊢
      exact ⟨_, _, _, hr, .of hg, grown_draw_alloc _ _ _, .inr fun k hk => by simp [Value.ownBlock] at hk; omega⟩
    · by_cases hroom : n + s.size ≤ cap
      · obtain rfl : fz = (0, 0) := by
          rcases hfz with h | h
          · exact h
          · omega
        have hcs' : cur.size = cap := by simpa using hcs
        have hr := Lib.run_append_room_string (P := P) w t u ty e i T.und hu hi hsz g n cap cur hg s hroom (by omega)
        refine ⟨_, _, _, hr, .of ⟨by rw [List.length_append, hsc, hown.1, Nat.add_mul], .inr ⟨g, cap, _, rfl, hbg, setRow_heap w g cur _ e _ hg, hroom, hcm, ?_, ?_⟩⟩, ⟨rfl, rfl, rfl, by simp, fun k _ hk => setRow_other w g k _ (fun e => hk (by simp [Value.ownBlock, e]))⟩, .inl rfl⟩
        · simp only [List.size_toArray, List.length_append, List.length_take, List.length_drop, Array.length_toList, Lib.strCells_length]
          omega
        · have ht' : cur.toList.take n = xs := by simpa using htake
          have hxl : xs.length = n := by simpa using hown.1
          rw [ht', show (n + s.size) * 1 = (xs ++ Lib.strCells s).length by rw [List.length_append, Lib.strCells_length]; omega]
          exact List.take_left
      · have holds := hown.cells (g := g) rfl
        have hr := Lib.run_append_grow_string (P := P) w t u ty e i (.int .u8 0) T.und hu hi hz' ⟨g, 0, none⟩ n cap xs (by rw [hsz]; exact hown.1) holds s (by omega) (by omega) (by rw [hby]; exact growslice_fits (by omega) (by omega))
        exact ⟨_, _, _, hr, .of (own_grown hown.1 hsc rfl (by unfold maxLen; omega) hbase), grown_draw_alloc _ _ _, .inr fun k hk => by simp [Value.ownBlock] at hk; omega⟩

theorem wpList_of_append {w : World} {ops : Array Oper} {rest : List Oper} {o : Oper} {a : Act} {Q : Exit → Act → World → Prop} {sl x : Operand} {t u : TypeId} {v y : Value} {R : Value → World → Prop}
    (hgd : o.guard = none) (ho : o.op = .call { callee := .builtin .append, args := #[sl, x], argTypes := #[t, u] }) (hs : a.eval sl = v) (hx : a.eval x = y)
    (hrun : ∃ v' w', (Builtin.append_ #[t, u] o.type #[v, y]).run P w = .ok v' w' ∧ R v' w') (h : ∀ v' w', R v' w' → wpList P ops Q rest (a.put o.dst v') w') :
    wpList P ops Q (o :: rest) a w := by
  refine wpList_plain hgd fun K hK => ?_
  obtain ⟨v', w', hr, h2⟩ := hrun
  unfold Oper.wp execOp
  simp only [ho, resolve, invoke, builtin, Sem.run_bind, Sem.run_pure, Result.andThen_ok, List.map_toArray, List.map_cons, List.map_nil, hs, hx, hr]
  exact hK _ _ (h v' w' h2)

/-- 'append(s, y)': the one cell lies in a block that was just laid. -/
theorem wpList_append_one {w0 : World} {y : Value} {ops : Array Oper} {rest : List Oper} {o : Oper} {a : Act} {Q : Exit → Act → World → Prop} {s x : Operand} {t e : TypeId} {bytes : Nat} (T : SlT P t e 1 bytes)
    (hgd : o.guard = none) (ho : o.op = .call { callee := .builtin .append, args := #[s, x], argTypes := #[t, t] })
    {base n : Nat} {v : Value} {xs : List Value} {ad : Nat} (hown : OwnX w0 base e 1 v n xs) (hs : a.eval s = v) (hx : a.eval x = .slice (some ⟨ad, 0, none⟩) 1 1) (had : ad = w0.heap.size)
    (hy : y.oneCell' = true)
    (h63 : n + 1 ≤ maxLen) (hbytes : (n + 1) * bytes ≤ 140737488355328) (hbase : base ≤ w0.heap.size)
    (h : ∀ A c w', OwnX w' base e 1 (.slice A (n + 1) c) (n + 1) (xs ++ [y]) → w0.grownBy w' v.ownBlock → Next w0 v (.slice A (n + 1) c) → wpList P ops Q rest (a.put o.dst (.slice A (n + 1) c)) w') :
    wpList P ops Q (o :: rest) a (w0.alloc (.cells #[y] e)) := by
  subst had
  obtain ⟨A, c, w', hr, h2, h3, h4⟩ := run_append_x (ty := o.type) (c := 1) (Ad := some ⟨w0.heap.size, 0, none⟩) T (hown.alloc (.cells #[y] e)) (news := [y]) (m := 1) rfl (fun j u hu => ⟨_, rfl, cell_one_new _ _ _ j u hu⟩)
    (by intro u hu; simp at hu; subst hu; exact hy) h63 hbytes (by simp; omega)
  refine wpList_of_append (R := fun v' w1 => v' = .slice A (n + 1) c ∧ w1 = w') hgd ho hs hx ⟨_, _, hr, rfl, rfl⟩ ?_
  rintro v' w1 ⟨rfl, rfl⟩
  exact h _ _ _ h2 ((World.grownBy_alloc w0 _ _).trans h3) (h4.back (by simp))

/-- 'append(s, y, z ..)': the cells lie in a block that was just laid. -/
theorem wpList_append_lit {w0 : World} {ys : List Value} {ops : Array Oper} {rest : List Oper} {o : Oper} {a : Act} {Q : Exit → Act → World → Prop} {s x : Operand} {t e : TypeId} {bytes : Nat} (T : SlT P t e 1 bytes)
    (hgd : o.guard = none) (ho : o.op = .call { callee := .builtin .append, args := #[s, x], argTypes := #[t, t] })
    {base n m : Nat} {v : Value} {xs : List Value} {ad : Nat} (hown : OwnX w0 base e 1 v n xs) (hs : a.eval s = v) (hx : a.eval x = .slice (some ⟨ad, 0, none⟩) m m) (had : ad = w0.heap.size) (hm : ys.length = m)
    (hy : ∀ u ∈ ys, u.oneCell' = true)
    (h63 : n + m ≤ maxLen) (hbytes : (n + m) * bytes ≤ 140737488355328) (hbase : base ≤ w0.heap.size)
    (h : ∀ A c w', OwnX w' base e 1 (.slice A (n + m) c) (n + m) (xs ++ ys) → w0.grownBy w' v.ownBlock → Next w0 v (.slice A (n + m) c) → wpList P ops Q rest (a.put o.dst (.slice A (n + m) c)) w') :
    wpList P ops Q (o :: rest) a (w0.alloc (.cells ys.toArray e)) := by
  subst had
  obtain ⟨A, c, w', hr, h2, h3, h4⟩ := run_append_x (ty := o.type) (c := m) (Ad := some ⟨w0.heap.size, 0, none⟩) T (hown.alloc (.cells ys.toArray e)) (news := ys) (m := m) (by omega) (fun j u hu => ⟨_, rfl, by
    have hadd : (⟨w0.heap.size, 0, none⟩ : Addr).add j = ⟨w0.heap.size, j, none⟩ := by unfold Addr.add; split <;> simp_all
    rw [hadd, cell_of_row _ _ _ _ _ (0, 0) (heap_alloc_new w0 _)]
    simpa using hu⟩) hy h63 hbytes (by simp; omega)
  refine wpList_of_append (R := fun v' w1 => v' = .slice A (n + m) c ∧ w1 = w') hgd ho hs hx ⟨_, _, hr, rfl, rfl⟩ ?_
  rintro v' w1 ⟨rfl, rfl⟩
  exact h _ _ _ h2 ((World.grownBy_alloc w0 _ _).trans h3) (h4.back (by simp))

/-- 'append(b, s...)', s a string. -/
theorem wpList_append_str {w : World} {ops : Array Oper} {rest : List Oper} {o : Oper} {a : Act} {Q : Exit → Act → World → Prop} {sl x : Operand} {t u e : TypeId} (T : SlT P t e 1 1)
    (hz : ∃ i, P.info? e = some i ∧ i.zero = some (.int .u8 0)) (hu : P.underlying u = some .string)
    (hgd : o.guard = none) (ho : o.op = .call { callee := .builtin .append, args := #[sl, x], argTypes := #[t, u] })
    {base n : Nat} {v : Value} {xs : List Value} {s : ByteArray} (hown : OwnX w base e 1 v n xs) (hs : a.eval sl = v) (hx : a.eval x = .string s)
    (hbytes : n + s.size ≤ 140737488355328) (hbase : base ≤ w.heap.size)
    (h : ∀ A c w', OwnX w' base e 1 (.slice A (n + s.size) c) (n + s.size) (xs ++ Lib.strCells s) → w.grownBy w' v.ownBlock → Next w v (.slice A (n + s.size) c) → wpList P ops Q rest (a.put o.dst (.slice A (n + s.size) c)) w') :
    wpList P ops Q (o :: rest) a w := by
  obtain ⟨A, c, w', hr, h2, h3, h4⟩ := run_append_str (ty := o.type) T hz hu s hown hbytes hbase
  refine wpList_of_append (R := fun v' w1 => v' = .slice A (n + s.size) c ∧ w1 = w') hgd ho hs hx ⟨_, _, hr, rfl, rfl⟩ ?_
  rintro v' w1 ⟨rfl, rfl⟩
  exact h _ _ _ h2 h3 h4

/-- 'append(b, x...)', x a slice that reads. -/
theorem wpList_append_rd {w : World} {ops : Array Oper} {rest : List Oper} {o : Oper} {a : Act} {Q : Exit → Act → World → Prop} {sl x : Operand} {t e : TypeId} {size bytes : Nat} (T : SlT P t e size bytes)
    (hgd : o.guard = none) (ho : o.op = .call { callee := .builtin .append, args := #[sl, x], argTypes := #[t, t] })
    {base n B : Nat} {v : Value} {xs : List Value} {Ad : Option Addr} {m cx : Nat} {news : List Value} (hown : OwnX w base e size v n xs) (hs : a.eval sl = v) (hx : a.eval x = .slice Ad m cx)
    (hl : news.length = m * size) (hr : Rd w B Ad news) (h1 : ∀ u ∈ news, u.oneCell' = true)
    (h63 : n + m ≤ maxLen) (hbytes : (n + m) * bytes ≤ 140737488355328) (hbase : base ≤ w.heap.size)
    (h : ∀ A c w', OwnX w' base e size (.slice A (n + m) c) (n + m) (xs ++ news) → w.grownBy w' v.ownBlock → Next w v (.slice A (n + m) c) → wpList P ops Q rest (a.put o.dst (.slice A (n + m) c)) w') :
    wpList P ops Q (o :: rest) a w := by
  obtain ⟨A, c, w', hr, h2, h3, h4⟩ := run_append_x (ty := o.type) (c := cx) T hown hl (fun j u hu => by
    obtain ⟨ad, h1, _, h3⟩ := hr j u hu
    exact ⟨ad, h1, h3⟩) h1 h63 hbytes hbase
  refine wpList_of_append (R := fun v' w1 => v' = .slice A (n + m) c ∧ w1 = w') hgd ho hs hx ⟨_, _, hr, rfl, rfl⟩ ?_
  rintro v' w1 ⟨rfl, rfl⟩
  exact h _ _ _ h2 h3 h4

/-- '[]byte("..")' of a constant: the bytes' block gets its mark. -/
theorem own_const {w : World} {e : TypeId} {C : Array Value} {n g base : Nat} {fz : Nat × Nat} (hg : g = w.heap.size) (hn : C.size = n) (hm : n ≤ maxLen) (hb : base ≤ w.heap.size) :
    OwnX (w.alloc (.cells C e fz)) base e 1 (.slice (some ⟨g, 0, none⟩) n n) n C.toList := by
  subst hg
  exact ⟨by simp [hn], .inr ⟨w.heap.size, n, C, fz, rfl, hb, heap_alloc_new w _, Nat.le_refl _, hm, by omega, by rw [Nat.mul_one, ← hn, ← Array.length_toList]; exact List.take_length, .inr rfl⟩⟩

end
end Go.Proofs.Ytbeokfpbhemcfaa
/-
  Opening arguments; what a law's row asks of a walk that leaves old memory as it was.
-/
namespace Go.Proofs.Ytbeokfpbhemcfaa
set_option linter.unusedSimpArgs false
set_option linter.unusedVariables false
open Go.ChangeShapes Go.WideShapes Go.ChangeAt Go.RowKit Go.Joins
open Go.WideMaps Go.WideElems
open Go.ChangeMaps (open_string shut_string)

theorem own : ownKnob Try.prog.godebug = none := by kernel_rfl
theorem laidOut : laidOutB Try.prog = true := by kernel_rfl

section
variable {H : Type} {enc : TypeId × Value → H} {P : Program}
theorem post_of_below {f : Func} {s : ChangeSpec} {apart fresh handsOn again : Bool} {W W' : World} {args : Array Value} {v : Value} {ds gs : List (DataW H)} {before pa pv : List MemPlace}
    (hW : DataW.Whole enc P f.params.toList s.vars apart W args.toList ds gs before)
    (hres : ∀ (b : Nat) (sp : Nat → Bool) (hd : Bool), DataW.TrodAll enc P W' b sp hd f.resultTypes.toList (v.resultList f.resultTypes.size) (s.fn H (ds ++ gs)).results [])
    (hargs : ∀ sp : Nat → Bool, (∀ p ∈ before, sp p.block = true) → DataW.TrodAll enc P W' 0 sp true f.params.toList args.toList (s.fn H (ds ++ gs)).args pa)
    (hvars : ∀ sp : Nat → Bool, (∀ p ∈ before, sp p.block = true) → DataW.TrodVars enc P W' sp s.vars (s.fn H (ds ++ gs)).vars pv)
    (hps : before = pa ++ pv) (hb : Below W.heap.size W W')
    (hok : ∀ (j : Nat) (t : TypeId) (r : Value), f.resultTypes[j]? = some t → (v.resultList f.resultTypes.size)[j]? = some r → Value.okWide P W' .any 0 t r) :
    s.post enc P f apart fresh handsOn again W args v W' := by
  have hlt : ∀ p ∈ before, p.block < W.heap.size := fun p hp => hW.lt p hp
  have hold : ∀ p ∈ before, (fun b => decide (b < W.heap.size)) p.block = true := fun p hp => by simpa using hlt p hp
  refine ⟨ds, gs, before, [], pa, pv, hW, hres _ _ _, hargs _ hold, hvars _ hold, World.keptBut_mono (fun p hp => ⟨hp, ?_⟩) (hb.frame (· ∈ before)), fun _ => ?_⟩
  · rw [hps, List.mem_append] at hp
    exact Or.inr hp
  · obtain ⟨_, _, _, _, _, hz, hn⟩ := hW
    refine ⟨hok, _, _, ([] ++ pa) ++ pv, ⟨[] ++ pa, pv, trodAll_append (hargs _ (fun _ _ => rfl)) (hres _ _ _), hvars _ (fun _ _ => rfl), rfl, ?_, ?_⟩, ?_⟩
    · intro b off hp
      have hin : MemPlace.cell b off ∈ before := by rw [hps]; simpa using hp
      rw [hb.frozen (hlt _ hin)]
      exact hz b off hin
    · intro ha
      have := hn ha
      rw [hps] at this
      simpa using this
    · intro p hp _
      rw [hps]
      simpa using hp
/-- An argument reads behind the call as before it. -/
theorem stays {t : TypeId} (hl : laidOutB P = true) (hr : P.readableRec t = true) (hrow : t < P.types.size) {W W' : World} {v : Value} {d : DataW H} {ps : List MemPlace}
    (h : DataW.Trod enc P W 0 (fun _ => true) true t v d ps) (hb : Below W.heap.size W W') (hlt : ∀ x ∈ ps, x.block < W.heap.size) {sp : Nat → Bool} (hsp : ∀ x ∈ ps, sp x.block = true) :
    DataW.Trod enc P W' 0 sp true t v d ps :=
  WideElems.Trod_stays hl hr hrow h (fun x hx => hb.same (hlt x hx)) hsp

section
variable {w : World} {base : Nat} {spare : Nat → Bool} {held : Bool}
open Go.Deep
theorem open_agg6 {r : Reach} {b0 : Nat} {t : TypeId} {f0 f1 f2 f3 f4 f5 : Field} {v : Value} {d : DataW H} {p : List MemPlace} (hs : P.underlying t = some (.struct #[f0, f1, f2, f3, f4, f5])) (hone : oneCellFields P #[f0, f1, f2, f3, f4, f5] = true) (hC : P.cellsOf t = 6)
    (hv : Value.okWide P w r b0 t v) (h : DataW.Trod enc P w base spare held t v d p) :
    ∃ (v0 v1 v2 v3 v4 v5 : Value) (y0 y1 y2 y3 y4 y5 : DataW H × List MemPlace) (n : Nat), v = .agg #[v0, v1, v2, v3, v4, v5] ∧ d = .agg [y0.1, y1.1, y2.1, y3.1, y4.1, y5.1] ∧ p = y0.2 ++ (y1.2 ++ (y2.2 ++ (y3.2 ++ (y4.2 ++ y5.2)))) ∧
      DataW.trod enc P w base spare held n f0.type [v0] = some y0 ∧ DataW.trod enc P w base spare held n f1.type [v1] = some y1 ∧ DataW.trod enc P w base spare held n f2.type [v2] = some y2 ∧ DataW.trod enc P w base spare held n f3.type [v3] = some y3 ∧ DataW.trod enc P w base spare held n f4.type [v4] = some y4 ∧ DataW.trod enc P w base spare held n f5.type [v5] = some y5 := by
  obtain ⟨cs, rfl, hsz⟩ := okWide_struct hs hv
  obtain ⟨l⟩ := cs
  match l, hsz.trans hC with
  | [c0, c1, c2, c3, c4, c5], _ =>
    obtain ⟨fuel, hf⟩ := h
    obtain ⟨xs, n, _, hx, _, hlen, hg⟩ := DataW.trod_struct hs hf
    obtain ⟨o0, k0⟩ := hone_of hone 0 f0 rfl
    obtain ⟨o1, k1⟩ := hone_of hone 1 f1 rfl
    obtain ⟨o2, k2⟩ := hone_of hone 2 f2 rfl
    obtain ⟨o3, k3⟩ := hone_of hone 3 f3 rfl
    obtain ⟨o4, k4⟩ := hone_of hone 4 f4 rfl
    obtain ⟨o5, k5⟩ := hone_of hone 5 f5 rfl
    match xs, hlen with
    | [y0, y1, y2, y3, y4, y5], _ =>
      simp only [Prod.mk.injEq] at hx
      exact ⟨c0, c1, c2, c3, c4, c5, y0, y1, y2, y3, y4, y5, n, rfl, by simpa using hx.1, by simpa using hx.2, by simpa [Value.cells, o0, k0] using hg 0 f0 rfl, by simpa [Value.cells, o1, k1] using hg 1 f1 rfl, by simpa [Value.cells, o2, k2] using hg 2 f2 rfl, by simpa [Value.cells, o3, k3] using hg 3 f3 rfl, by simpa [Value.cells, o4, k4] using hg 4 f4 rfl, by simpa [Value.cells, o5, k5] using hg 5 f5 rfl⟩
end
/-- A slice of strings that came in. -/
theorem open_strs_rd {t e : TypeId} {fuel : Nat} {cs : List Value} {x : DataW H × List MemPlace} {W : World} {base : Nat} {sp : Nat → Bool} {held : Bool} (ht : P.underlying t = some (.slice e)) (he : P.underlying e = some .string) (hc : P.cellsOf e = 1)
    (h : DataW.trod enc P W base sp held fuel t cs = some x) : ∃ (A : Option Addr) (c : Nat) (l : List ByteArray), cs = [.slice A l.length c] ∧ l.length ≤ c ∧ l.length ≤ maxLen ∧ Rd W W.heap.size A (l.map Value.string) ∧ (∀ s ∈ l, s.size ≤ maxLen) := by
  rcases open_strings ht he hc h with ⟨rfl, _⟩ | ⟨a, len, cap, ss, rfl, _, hl, hm, hz, _, hcell, hs⟩
  · exact ⟨none, 0, [], rfl, Nat.le_refl _, Nat.zero_le _, Rd.nil _ _ _, fun s hs => by simp at hs⟩
  · have hlen : len ≤ ss.length := by rw [hz]; split <;> omega
    refine ⟨some a, cap, ss.take len, by rw [List.length_take, Nat.min_eq_left hlen], by rw [List.length_take]; omega, by rw [List.length_take]; omega, fun i u hu => ?_, fun s hs' => hs s (List.mem_of_mem_take hs')⟩
    rw [List.getElem?_map] at hu
    obtain ⟨s, hs1, rfl⟩ := Option.map_eq_some_iff.1 hu
    have hi : i < (ss.take len).length := (List.getElem?_eq_some_iff.1 hs1).1
    rw [List.length_take] at hi
    have hcl := hcell i (by omega)
    rw [List.getElem?_take, if_pos (by omega)] at hs1
    have e1 : ss.getD i ByteArray.empty = s := by simp [List.getD, hs1]
    rw [e1] at hcl
    refine ⟨a, rfl, ?_, hcl⟩
    have := World.block_lt_of_cell? W _ hcl
    rwa [block_of_add] at this
end
end Go.Proofs.Ytbeokfpbhemcfaa
/-
  Opening a slice of bytes that came in.
-/
namespace Go.Proofs.Ytbeokfpbhemcfaa
set_option linter.unusedSimpArgs false
set_option linter.unusedVariables false
open Go.ChangeShapes Go.WideShapes Go.ChangeAt Go.RowKit Go.Joins

section
variable {H : Type} {enc : TypeId × Value → H} {P : Program}
theorem open_bytes_rd {t e : TypeId} {fuel : Nat} {cs : List Value} {x : DataW H × List MemPlace} {W : World} {base : Nat} {sp : Nat → Bool} {held : Bool} (ht : P.underlying t = some (.slice e)) (he : P.underlying e = some (.int .u8)) (hc : P.cellsOf e = 1)
    (h : DataW.trod enc P W base sp held fuel t cs = some x) : ∃ (A : Option Addr) (c : Nat) (l : List UInt8), cs = [.slice A l.length c] ∧ l.length ≤ c ∧ l.length ≤ maxLen ∧ Rd W W.heap.size A (bytesV l) := by
  rcases open_ints ht he hc h with ⟨rfl, _⟩ | ⟨a, len, cap, zs, rfl, _, hl, hm, hz, _, hcell, hwz⟩
  · exact ⟨none, 0, [], rfl, Nat.le_refl _, Nat.zero_le _, Rd.nil _ _ _⟩
  · have hlen : len ≤ zs.length := by rw [hz]; split <;> omega
    have hl2 : ((zs.take len).map fun n => UInt8.ofNat n.toNat).length = len := by simp; omega
    refine ⟨some a, cap, (zs.take len).map fun n => UInt8.ofNat n.toNat, by rw [hl2], by rw [hl2]; omega, by rw [hl2]; omega, fun i u hu => ?_⟩
    rw [bytesV, List.getElem?_map, List.getElem?_map] at hu
    obtain ⟨s, hs1, rfl⟩ := Option.map_eq_some_iff.1 hu
    obtain ⟨n, hn1, rfl⟩ := Option.map_eq_some_iff.1 hs1
    have hi : i < (zs.take len).length := (List.getElem?_eq_some_iff.1 hn1).1
    rw [List.length_take] at hi
    have hcl := hcell i (by omega)
    rw [List.getElem?_take, if_pos (by omega)] at hn1
    have e1 : zs.getD i 0 = n := by simp [List.getD, hn1]
    have hb := range_u8 hwz i
    rw [e1] at hcl
    have e2 : zs[i]?.getD 0 = n := by rw [hn1]; rfl
    rw [e2] at hb
    refine ⟨a, rfl, ?_, ?_⟩
    · have := World.block_lt_of_cell? W _ hcl
      rwa [block_of_add] at this
    · rw [hcl, byteV]
      congr 2
      simp only [UInt8.toNat_ofNat']
      omega
end
theorem cells_u8 : Try.prog.cellsOf 5 = 1 := by kernel_rfl
theorem open_bytes_arg {H : Type} {enc : TypeId × Value → H} {W : World} {base : Nat} {r : Reach} {b0 : Nat} {sp : Nat → Bool} {held : Bool} {v : Value} {d : DataW H} {p : List MemPlace}
    (hv : Value.okWide Try.prog W r b0 22 v) (h : DataW.Trod enc Try.prog W base sp held 22 v d p) :
    ∃ (l : List UInt8) (A : Option Addr) (c : Nat), v = .slice A l.length c ∧ Rd W W.heap.size A (bytesV l) ∧ l.length ≤ c ∧ l.length ≤ 9223372036854775807 := by
  obtain ⟨a1, len, cap, rfl⟩ := okWide_slice Try.underlying22 hv
  obtain ⟨fuel, hf⟩ := h
  obtain ⟨A, c, l, e, h1, h2, h3⟩ := open_bytes_rd Try.underlying22 Try.underlying5 cells_u8 hf
  simp [Value.cells] at e
  obtain ⟨rfl, rfl, rfl⟩ := e
  simp only [maxLen] at h2
  exact ⟨l, _, _, rfl, h3, h1, by omega⟩
end Go.Proofs.Ytbeokfpbhemcfaa
/-
  Laws of my own on structs that lie in a block of the call's own: whole and field by field; a result that is such a struct.
-/
namespace Go.Proofs.Ytbeokfpbhemcfaa
set_option linter.unusedSimpArgs false
set_option linter.unusedVariables false
open Go.RowKit

/-- Block g is just these cells. -/
def Blk (w : World) (g : Nat) (t : TypeId) (cs : Array Value) : Prop := w.heap[g]? = some (.cells cs t (0, 0))
section
variable {w w' : World} {g : Nat} {t : TypeId} {cs : Array Value}
theorem Blk.lt (h : Blk w g t cs) : g < w.heap.size := (Array.getElem?_eq_some_iff.1 h).1
theorem Blk.cell (h : Blk w g t cs) (i : Nat) : w.cell? ⟨g, i, none⟩ = cs[i]? := cell_of_row w g i cs t (0, 0) h
theorem Blk.free (h : Blk w g t cs) (i : Nat) : w.frozen? ⟨g, i, none⟩ = false := by
  unfold Blk at h
  simp [World.frozen?, h]
theorem Blk.new (w : World) (t : TypeId) (cs : Array Value) : Blk (w.alloc (.cells cs t)) w.heap.size t cs := heap_alloc_new w _
theorem Blk.alloc (h : Blk w g t cs) (o : Obj) : Blk (w.alloc o) g t cs := (Below.heap_alloc w o g h.lt).trans h
theorem Blk.below {B : Nat} (h : Blk w g t cs) (hb : Below B w w') (hg : g < B) : Blk w' g t cs := (hb.block g hg).trans h
theorem Blk.grown {row : Option Nat} (h : Blk w g t cs) (hb : w.grownBy w' row) (hg : some g ≠ row) : Blk w' g t cs := (hb.block g h.lt hg).trans h
theorem Blk.keep {e : TypeId} (h : Blk w g t cs) (hk : KeepBut e w w') (hne : t ≠ e) : Blk w' g t cs := heap_keep hk hne h
theorem Blk.alloc1 (h : Blk w g t cs) (hk : Alloc1 w w') : Blk w' g t cs := heap_alloc1 hk h
theorem own_ne_blk {B : Nat} {e : TypeId} {s n : Nat} {v : Value} {xs : List Value} (ho : OwnX w B e s v n xs) (h : Blk w g t cs) (hne : t ≠ e) : v.ownBlock ≠ some g := by
  intro hb
  rcases ho.2 with ⟨rfl, _⟩ | ⟨g', cap, cur, fz, rfl, _, hgg, _⟩
  · simp [Value.ownBlock] at hb
  · simp [Value.ownBlock] at hb
    subst hb
    unfold Blk at h
    rw [hgg] at h
    simp at h
    exact hne h.2.1.symm
end

theorem Rd.of_blk {w : World} {g B : Nat} {t : TypeId} {l : List Value} (h : Blk w g t l.toArray) (hB : g < B) : Rd w B (some ⟨g, 0, none⟩) l := fun i u hu => by
  refine ⟨_, rfl, hB, ?_⟩
  have hadd : (⟨g, 0, none⟩ : Addr).add i = ⟨g, i, none⟩ := by unfold Addr.add; split <;> simp_all
  rw [hadd, h.cell i]
  simpa using hu
/-- Block g was written, and nothing else. -/
structure Wrote (g : Nat) (w w' : World) : Prop where
  grown : w.grownBy w' (some g)
  size : w'.heap.size = w.heap.size
theorem Wrote.below {B g : Nat} {a w w' : World} (h : Wrote g w w') (hb : Below B a w) (hg : B ≤ g) (hB : B ≤ w.heap.size) : Below B a w' := hb.grown h.grown hB fun k hk => by injection hk with hk; omega
theorem Wrote.own {g : Nat} {w w' : World} {B : Nat} {e : TypeId} {s n : Nat} {v : Value} {xs : List Value} (h : Wrote g w w') (ho : OwnX w B e s v n xs) (hne : v.ownBlock ≠ some g) : OwnX w' B e s v n xs := ho.kept h.grown (.inr hne)
theorem Wrote.blk {g g' : Nat} {w w' : World} {t : TypeId} {cs : Array Value} (h : Wrote g w w') (hb : Blk w g' t cs) (hne : g' ≠ g) : Blk w' g' t cs := hb.grown h.grown (by simpa using hne)
theorem wrote_setRow (w : World) (g : Nat) (cs : Array Value) : Wrote g w (w.setRow g cs) :=
  ⟨⟨rfl, rfl, rfl, by simp, fun k _ hk => setRow_other w g k _ (fun e => hk (by rw [e]))⟩, by simp⟩

section
variable {P : Program}
/-- '*p = v' of a whole struct. -/
theorem wpList_put_box {w : World} {ops : Array Oper} {rest : List Oper} {o : Oper} {a : Act} {Q : Exit → Act → World → Prop} {ty : TypeId} {x y : Operand} {g : Nat} {cells old : Array Value} {t : TypeId}
    (hg : Blk w g t old) (hgd : o.guard = none) (ho : o.op = .store ty x y) (hx : a.eval x = .pointer (some ⟨g, 0, none⟩)) (hy : a.eval y = .agg cells)
    (hi : (P.info? ty).map (·.size) = some cells.size) (hold : old.size = cells.size) (h1 : cells.all (·.oneCell') = true)
    (h : ∀ w', Blk w' g t cells → Wrote g w w' → wpList P ops Q rest (a.put o.dst undef) w') : wpList P ops Q (o :: rest) a w :=
  wpList_store_row hgd ty x y ho g cells hx hy t old hg hi hold h1 (h _ (setRow_heap w g old cells t (0, 0) hg) (wrote_setRow w g cells))
/-- 'x := *p', a whole struct. -/
theorem wpList_get_box {w : World} {ops : Array Oper} {rest : List Oper} {o : Oper} {a : Act} {Q : Exit → Act → World → Prop} {ty : TypeId} {x : Operand} {g : Nat} {cs : Array Value} {t : TypeId} {d : TypeDesc}
    (hg : Blk w g t cs) (hgd : o.guard = none) (ho : o.op = .load ty x) (hx : a.eval x = .pointer (some ⟨g, 0, none⟩))
    (hu : P.underlying ty = some d) (hd : (match d with | .struct _ | .array _ _ => true | _ => false) = true) (hi : (P.info? ty).map (·.size) = some cs.size)
    (h : wpList P ops Q rest (a.put o.dst (.agg cs)) w) : wpList P ops Q (o :: rest) a w :=
  wpList_load_row hgd ty x ho g hx t cs (0, 0) d hg hu hd hi h
theorem results_box {fn : Func} {p : Tmp} {ty : TypeId} (h : fn.results = #[.cell p ty]) {tmps : Array Value} {w : World} {g : Nat} {cs : Array Value} {t : TypeId} {d : TypeDesc} (hp : tmps.getD p undef = .pointer (some ⟨g, 0, none⟩))
    (hg : Blk w g t cs) (hu : P.underlying ty = some d) (hd : (match d with | .struct _ | .array _ _ => true | _ => false) = true) (hi : (P.info? ty).map (·.size) = some cs.size) :
    (results fn tmps).run P w = .ok (.agg cs) w := by
  have hl := run_loadVar_row (P := P) w g t ty cs (0, 0) d hg hu hd hi
  have hp' : tmps[p]?.getD undef = .pointer (some ⟨g, 0, none⟩) := by simpa using hp
  simp only [results, h]
  simp [Sem.run_bind, Result.andThen, hp', asAddr, hl]
theorem results_box_tmp {fn : Func} {p u : Tmp} {ty : TypeId} (h : fn.results = #[.cell p ty, .tmp u]) {tmps : Array Value} {w : World} {g : Nat} {cs : Array Value} {t : TypeId} {d : TypeDesc} (hp : tmps.getD p undef = .pointer (some ⟨g, 0, none⟩))
    (hg : Blk w g t cs) (hu : P.underlying ty = some d) (hd : (match d with | .struct _ | .array _ _ => true | _ => false) = true) (hi : (P.info? ty).map (·.size) = some cs.size) :
    (results fn tmps).run P w = .ok (.tuple #[.agg cs, tmps.getD u undef]) w := by
  have hl := run_loadVar_row (P := P) w g t ty cs (0, 0) d hg hu hd hi
  have hp' : tmps[p]?.getD undef = .pointer (some ⟨g, 0, none⟩) := by simpa using hp
  simp only [results, h]
  simp [Sem.run_bind, Result.andThen, hp', asAddr, hl]
/-- 'p.f = v', one cell. -/
theorem run_store_cell {w : World} {ty : TypeId} {g i : Nat} {v : Value} {cs : Array Value} {t : TypeId} (hg : Blk w g t cs) (hi : (P.info? ty).map (·.size) = some 1) (hlt : i < cs.size) (h1 : v.oneCell' = true) :
    (storeVar ty ⟨g, i, none⟩ v).run P w = .ok () (w.setRow g (cs.setIfInBounds i v)) := by
  have hc1 : v.cells = #[v] := by cases v <;> first | rfl | simp [Value.oneCell'] at h1
  have hst := run_storeCells_at P g i t [v] 0 cs w hg (by simp; omega) (by intro u hu; simp at hu; subst hu; exact h1)
  cases hq : P.info? ty with
  | none => simp [hq] at hi
  | some j =>
    have hj : j.size = 1 := by simpa [hq] using hi
    have e : (cs.toList.take (i + 0) ++ [v] ++ cs.toList.drop (i + 0 + [v].length)).toArray = cs.setIfInBounds i v := by
      apply Array.ext'
      simp only [Nat.add_zero, List.length_cons, List.length_nil, Array.toList_setIfInBounds]
      rw [List.set_eq_take_append_cons_drop, if_pos (by simpa using hlt)]
      simp
    rw [e] at hst
    simp [storeVar, hc1, sizeOf, typeInfo, hq, hj, hst]
theorem wpList_put_cell {w : World} {ops : Array Oper} {rest : List Oper} {o : Oper} {a : Act} {Q : Exit → Act → World → Prop} {ty : TypeId} {x y : Operand} {g i : Nat} {v : Value} {cs : Array Value} {t : TypeId}
    (hg : Blk w g t cs) (hgd : o.guard = none) (ho : o.op = .store ty x y) (hx : a.eval x = .pointer (some ⟨g, i, none⟩)) (hy : a.eval y = v)
    (hi : (P.info? ty).map (·.size) = some 1) (hlt : i < cs.size) (h1 : v.oneCell' = true)
    (h : ∀ w', Blk w' g t (cs.setIfInBounds i v) → Wrote g w w' → wpList P ops Q rest (a.put o.dst undef) w') : wpList P ops Q (o :: rest) a w := by
  refine wpList_plain hgd fun K hK => ?_
  have hr := run_store_cell (P := P) (ty := ty) hg hi hlt h1
  unfold Oper.wp execOp
  simp only [ho, hx, hy, Instr.storeAt, Instr.sureAddr, Sem.run_bind, Sem.run_pure, Result.andThen_ok, hr]
  exact hK _ _ (h _ (setRow_heap w g cs _ t (0, 0) hg) (wrote_setRow w g _))
end
end Go.Proofs.Ytbeokfpbhemcfaa
/-
  A struct or an array that is a part of a block: loaded whole; a cell stored.
-/
namespace Go.Proofs.Ytbeokfpbhemcfaa
set_option linter.unusedSimpArgs false
set_option linter.unusedVariables false
open Go.RowKit
theorem blk_setCell_at {w : World} {g i : Nat} {t : TypeId} {cs : Array Value} (h : Blk w g t cs) (u : Value) : Blk (w.setCell ⟨g, i, none⟩ u) g t (cs.setIfInBounds i u) := by
  unfold Blk at *
  simp only [World.setCell, Array.getElem?_modify, if_pos, h]
  rfl
theorem wrote_setCell_at (w : World) (g i : Nat) (u : Value) : Wrote g w (w.setCell ⟨g, i, none⟩ u) :=
  ⟨⟨rfl, rfl, rfl, by simp [World.setCell], fun k _ hk => Below.heap_setCell _ _ _ _ (by simpa using hk)⟩, by simp [World.setCell]⟩
theorem wrote_trans {g : Nat} {w w1 w2 : World} (h : Wrote g w w1) (h2 : Wrote g w1 w2) : Wrote g w w2 :=
  ⟨⟨h2.grown.os.trans h.grown.os, h2.grown.tape.trans h.grown.tape, h2.grown.output.trans h.grown.output, by rw [h2.size, h.size]; exact Nat.le_refl _, fun k hk hne => (h2.grown.block k (by rw [h.size]; exact hk) hne).trans (h.grown.block k hk hne)⟩, h2.size.trans h.size⟩
theorem rd_drop {w : World} {B : Nat} {ad : Addr} {xs : List Value} (h : Rd w B (some ad) xs) (n : Nat) : Rd w B (some (ad.add n)) (xs.drop n) := fun i u hu => by
  rw [List.getElem?_drop] at hu
  obtain ⟨ad', e, hb, hc⟩ := h _ u hu
  injection e with e
  subst e
  refine ⟨_, rfl, by rw [block_of_add]; exact hb, ?_⟩
  rw [show (ad.add n).add i = ad.add (n + i) from ?_]
  · exact hc
  · unfold Addr.add
    by_cases h1 : n = 0 <;> by_cases h2 : i = 0 <;> simp [h1, h2, Nat.add_assoc]
theorem rd_take {w : World} {B : Nat} {A : Option Addr} {xs : List Value} (h : Rd w B A xs) (n : Nat) : Rd w B A (xs.take n) := fun i u hu => by
  rw [List.getElem?_take] at hu
  split at hu
  · exact h i u hu
  · simp at hu
theorem blk_src {w : World} {g : Nat} {t : TypeId} {cs : Array Value} (h : Blk w g t cs) (n : Nat) : ∀ j v, (cs.toList.take n)[j]? = some v → w.cell? ((⟨g, 0, none⟩ : Addr).add j) = some v := fun j v hv => by
  have hadd : (⟨g, 0, none⟩ : Addr).add j = ⟨g, j, none⟩ := by unfold Addr.add; split <;> simp_all
  rw [hadd, h.cell]
  rw [List.getElem?_take] at hv
  split at hv
  · simpa using hv
  · cases hv
section
variable {P : Program}
theorem run_loadVar_part {w : World} {g o n : Nat} {t ty : TypeId} {cs r : Array Value} {d : TypeDesc} (hg : Blk w g t cs) (ho : o + n ≤ cs.size) (hr : ((cs.toList.drop o).take n).toArray = r)
    (hu : P.underlying ty = some d) (hd : (match d with | .struct _ | .array _ _ => true | _ => false) = true) (hi : (P.info? ty).map (·.size) = some n) :
    (loadVar ty ⟨g, o, none⟩).run P w = .ok (.agg r) w := by
  subst hr
  have hlen : ((cs.toList.drop o).take n).length = n := by simp; omega
  have hl : (loadCells ⟨g, o, none⟩ ((cs.toList.drop o).take n).length).run P w = .ok ((cs.toList.drop o).take n).toArray w :=
    run_loadCells_list (P := P) w ⟨g, o, none⟩ ((cs.toList.drop o).take n) (fun j v hv => by
      have hadd : (⟨g, o, none⟩ : Addr).add j = ⟨g, o + j, none⟩ := by unfold Addr.add; split <;> simp_all
      rw [hadd, hg.cell]
      rw [List.getElem?_take] at hv
      split at hv
      · rw [List.getElem?_drop] at hv
        simpa using hv
      · cases hv)
  rw [hlen] at hl
  cases hq : P.info? ty with
  | none => simp [hq] at hi
  | some i =>
    have hs : i.size = n := by simpa [hq] using hi
    have hagg : (isAgg ty).run P w = .ok true w := by
      unfold isAgg
      rw [Sem.run_bind, run_underlying hu w]
      cases d <;> simp_all
    simp [loadVar, Sem.run_bind, hagg, sizeOf, typeInfo, hq, hs, hl]
theorem wpList_get_part {w : World} {ops : Array Oper} {rest : List Oper} {o : Oper} {a : Act} {Q : Exit → Act → World → Prop} {ty : TypeId} {x : Operand} {g k n : Nat} {cs r : Array Value} {t : TypeId} {d : TypeDesc}
    (hg : Blk w g t cs) (hk : k + n ≤ cs.size) (hr : ((cs.toList.drop k).take n).toArray = r) (hgd : o.guard = none) (ho : o.op = .load ty x) (hx : a.eval x = .pointer (some ⟨g, k, none⟩))
    (hu : P.underlying ty = some d) (hd : (match d with | .struct _ | .array _ _ => true | _ => false) = true) (hi : (P.info? ty).map (·.size) = some n)
    (h : wpList P ops Q rest (a.put o.dst (.agg r)) w) : wpList P ops Q (o :: rest) a w := by
  refine wpList_plain hgd fun K hK => ?_
  have hrun := run_loadVar_part (P := P) hg hk hr hu hd hi
  unfold Oper.wp execOp
  simp only [ho, hx, Instr.loadAt, Instr.sureAddr, Sem.run_bind, Sem.run_pure, Result.andThen_ok, hrun]
  exact hK _ _ h
/-- 'copy' into a block that is known whole. -/
theorem wpList_copy_blk {w : World} {ops : Array Oper} {rest : List Oper} {o : Oper} {a : Act} {Q : Exit → Act → World → Prop} {d s : Operand} {dT sT elem t : TypeId} {g off dLen dCap sLen sCap : Nat} {ad : Addr} {cur new : Array Value} (cs : List Value)
    (hg : Blk w g t cur) (hgd : o.guard = none) (ho : o.op = .call { callee := .builtin .copy, args := #[d, s], argTypes := #[dT, sT] }) (hu : P.underlying dT = some (.slice elem)) (hsz : (P.info? elem).map (·.size) = some 1)
    (hd : a.eval d = .slice (some ⟨g, off, none⟩) dLen dCap) (hs : a.eval s = .slice (some ad) sLen sCap) (hn : cs.length = Nat.min sLen dLen)
    (hsrc : ∀ j v, cs[j]? = some v → w.cell? (ad.add j) = some v) (hfit : off + cs.length ≤ cur.size) (h1 : ∀ v ∈ cs, v.oneCell' = true)
    (hnew : (cur.toList.take off ++ cs ++ cur.toList.drop (off + cs.length)).toArray = new)
    (h : ∀ w', Blk w' g t new → Wrote g w w' → wpList P ops Q rest (a.put o.dst (goInt cs.length)) w') : wpList P ops Q (o :: rest) a w := by
  refine wpList_plain hgd fun K hK => ?_
  have hr := run_copy_row (P := P) w dT sT o.type elem g off dLen dCap ad sLen sCap cur t cs hu hsz hg hn hsrc hfit h1
  rw [hnew] at hr
  unfold Oper.wp execOp
  simp only [ho, resolve, invoke, builtin, Sem.run_bind, Sem.run_pure, Result.andThen_ok, List.map_toArray, List.map_cons, List.map_nil, hs, hd, hr]
  exact hK _ _ (h _ (setRow_heap w g cur _ t (0, 0) hg) (wrote_setRow w g _))
/-- '^x' of a word. -/
theorem run_not32 {w : World} (e : Nat) (he : e < 4294967296) : (Op.unary .xor (.int .u32 (e : Int))).run P w = .ok (.int .u32 ((4294967295 - e : Nat) : Int)) w := by
  have h1 : BitVec.ofInt 32 (4294967295 : Int) = BitVec.allOnes 32 := by decide
  have h : bits .xor .u32 (4294967295 : Int) (e : Int) = ((4294967295 - e : Nat) : Int) := by
    show IntKind.u32.wrap ((BitVec.ofInt 32 (4294967295 : Int) ^^^ BitVec.ofInt 32 (e : Int)).toNat : Int) = _
    rw [h1, BitVec.allOnes_xor, BitVec.toNat_not, BitVec.ofInt_natCast, BitVec.toNat_ofNat, Nat.mod_eq_of_lt he, IntKind.wrap_u32]
    omega
  have hm : IntKind.u32.max = 4294967295 := by decide
  rw [unary_xor]
  simp only [IntKind.signed, hm, Bool.false_eq_true, if_false]
  rw [← h]
  rfl
theorem run_not64 {w : World} (e : Nat) (he : e < 18446744073709551616) : (Op.unary .xor (.int .u64 (e : Int))).run P w = .ok (.int .u64 ((18446744073709551615 - e : Nat) : Int)) w := by
  have h1 : BitVec.ofInt 64 (18446744073709551615 : Int) = BitVec.allOnes 64 := by decide
  have h : bits .xor .u64 (18446744073709551615 : Int) (e : Int) = ((18446744073709551615 - e : Nat) : Int) := by
    show IntKind.u64.wrap ((BitVec.ofInt 64 (18446744073709551615 : Int) ^^^ BitVec.ofInt 64 (e : Int)).toNat : Int) = _
    rw [h1, BitVec.allOnes_xor, BitVec.toNat_not, BitVec.ofInt_natCast, BitVec.toNat_ofNat, Nat.mod_eq_of_lt he, IntKind.wrap_u64]
    omega
  have hm : IntKind.u64.max = 18446744073709551615 := by decide
  rw [unary_xor]
  simp only [IntKind.signed, hm, Bool.false_eq_true, if_false]
  rw [← h]
  rfl
theorem wpList_unary {w : World} {ops : Array Oper} {rest : List Oper} {o : Oper} {a : Act} {Q : Exit → Act → World → Prop} {u : UnOp} {ty : TypeId} {x : Operand} {v r : Value}
    (hr : (Op.unary u v).run P w = .ok r w) (hgd : o.guard = none) (ho : o.op = .unOp u ty x) (hx : a.eval x = v) (h : wpList P ops Q rest (a.put o.dst r) w) : wpList P ops Q (o :: rest) a w := by
  refine wpList_plain hgd fun K hK => ?_
  unfold Oper.wp execOp
  simp only [ho, hx, Sem.run_bind, Sem.run_pure, Result.andThen_ok, hr]
  exact hK _ _ h
/-- 'a[i]' of an array by value, elements of one cell. -/
theorem run_index_array {w : World} {t e : TypeId} {n : Nat} {cs : Array Value} {k : Nat} {v : Value} (h : P.underlying t = some (.array n e)) (hk : k < n) (hv : cs[k]? = some v) (hs : (P.info? e).map (·.size) = some 1)
    (hag : (match P.underlying e with | some (.struct _) | some (.array _ _) => true | _ => false) = false) (hu : ∃ d, P.underlying e = some d) : (Instr.index t (.agg cs) (.int .i64 (k : Int))).run P w = .ok v w := by
  obtain ⟨d, hd⟩ := hu
  have h0 : (0 : Int) ≤ (k : Int) ∧ (k : Int) < (n : Int) := by omega
  cases hq : P.info? e with
  | none => simp [hq] at hs
  | some j =>
    have hj : j.size = 1 := by simpa [hq] using hs
    have hagg : (isAgg e).run P w = .ok false w := by
      unfold isAgg
      rw [Sem.run_bind, run_underlying hd w]
      rw [hd] at hag
      cases d <;> simp_all
    simp [Instr.index, run_underlying h, asIntOf, h0, sizeOf, typeInfo, hq, hj, part, hagg, hv, go_sem]
    intro hle
    omega
end
end Go.Proofs.Ytbeokfpbhemcfaa
/-
  Regions that draw their order, by one step for each operation: each operation is shown, in whatever world, to give what is said of it out of what is said of those that it waits for; what is said stays under the others' steps.
-/
namespace Go.Proofs.Ytbeokfpbhemcfaa
set_option linter.unusedSimpArgs false
set_option linter.unusedVariables false
section
variable {P : Program} {ops : Array Oper}

def dstAt (ops : Array Oper) (i : Nat) : Option Tmp := (ops[i]?).bind (·.dst)
/-- The operations that operation i waits for. -/
def waitsOf (ops : Array Oper) (i : Nat) : List Nat :=
  match ops[i]? with
  | some o => o.after.toList.filterMap fun e => if Region.binds .any e then some e.on else none
  | none => []
def putAll (ops : Array Oper) (vals : Nat → Value) : List Nat → Act → Act
  | [], a => a
  | j :: r, a => putAll ops vals r (a.put (dstAt ops j) (vals j))
def regionOk (ops : Array Oper) : Bool :=
  (List.range ops.size).all fun i =>
    match ops[i]? with
    | none => false
    | some o =>
      (match o.op with | .select .. => false | _ => true) &&
      (waitsOf ops i).all (· < i) &&
      (o.looksAt ops).all (fun t => (List.range ops.size).all fun j => dstAt ops j != some t || (waitsOf ops i).contains j || (waitsOf ops j).contains i) &&
      (match o.guard with | some (g, _) => (waitsOf ops i).contains g | none => true) &&
      (List.range ops.size).all fun j => j == i || dstAt ops i == none || dstAt ops j != dstAt ops i
/-- .. and those for which these wait, some steps deep. -/
def deepWaits (ops : Array Oper) : Nat → Nat → List Nat
  | 0, i => waitsOf ops i
  | f + 1, i => waitsOf ops i ++ (waitsOf ops i).flatMap (deepWaits ops f)
theorem deep_listed {ops : Array Oper} {L : Nat → Prop} (hc : ∀ j, L j → ∀ i ∈ waitsOf ops j, L i) : ∀ (f j : Nat), L j → ∀ i ∈ deepWaits ops f j, L i
  | 0, j, hj, i, hi => hc j hj i hi
  | f + 1, j, hj, i, hi => by
    rcases List.mem_append.1 hi with h | h
    · exact hc j hj i h
    · obtain ⟨k, hk, hik⟩ := List.mem_flatMap.1 h
      exact deep_listed hc f k (hc j hj k hk) i hik
/-- What is said of j is there when i comes up. -/
def availAt (ops : Array Oper) (kills : Nat → Nat → Bool) (j i : Nat) : Bool :=
  (waitsOf ops i).contains j && (List.range ops.size).all fun k => k == i || k == j || !kills k j || (deepWaits ops 5 k).contains i
/-- What was there at the start is there when i comes up. -/
def availIni (ops : Array Oper) (ik : Nat → Bool) (i : Nat) : Bool :=
  (List.range ops.size).all fun k => k == i || !ik k || (deepWaits ops 5 k).contains i
def aliveAt (ops : Array Oper) (kills : Nat → Nat → Bool) (j : Nat) : Bool :=
  (List.range ops.size).all fun k => k == j || !kills k j

theorem put_size (a : Act) (d : Option Tmp) (v : Value) : (a.put d v).tmps.size = a.tmps.size := by cases d <;> simp [Act.put]
theorem put_defers (a : Act) (d : Option Tmp) (v : Value) : (a.put d v).defers = a.defers := by cases d <;> rfl
theorem put_at (a : Act) (d : Tmp) (v : Value) (h : d < a.tmps.size) : (a.put (some d) v).tmps[d]? = some v := by simp [Act.put, h]
theorem put_other (a : Act) (d : Option Tmp) (v : Value) (t : Tmp) (h : d ≠ some t) : (a.put d v).tmps[t]? = a.tmps[t]? := by
  cases d with
  | none => rfl
  | some d => simp [Act.put, Array.getElem?_setIfInBounds_ne (show d ≠ t from fun e => h (by rw [e]))]

structure OkAt (ops : Array Oper) (i : Nat) (o : Oper) : Prop where
  sel : ∀ cs b, o.op ≠ .select cs b
  before : ∀ j ∈ waitsOf ops i, j < i
  look : ∀ t ∈ o.looksAt ops, ∀ j, dstAt ops j = some t → j ∈ waitsOf ops i ∨ i ∈ waitsOf ops j
  guard : ∀ g b, o.guard = some (g, b) → g ∈ waitsOf ops i
  dist : ∀ j, j ≠ i → ∀ d, dstAt ops i = some d → dstAt ops j ≠ some d

theorem dst_lt {j : Nat} {d : Tmp} (h : dstAt ops j = some d) : j < ops.size := by
  rcases Nat.lt_or_ge j ops.size with h' | h'
  · exact h'
  · simp [dstAt, Array.getElem?_eq_none h'] at h

theorem okAt (hok : regionOk ops = true) {i : Nat} {o : Oper} (ho : ops[i]? = some o) : OkAt ops i o := by
  have hi : i < ops.size := (Array.getElem?_eq_some_iff.1 ho).1
  have h := (List.all_eq_true.1 hok) i (List.mem_range.2 hi)
  simp only [ho, Bool.and_eq_true] at h
  obtain ⟨⟨⟨⟨h1, h2⟩, h3⟩, h4⟩, h5⟩ := h
  refine ⟨fun cs b e => by simp [e] at h1, fun j hj => by simpa using (List.all_eq_true.1 h2) j hj, fun t ht j hj => ?_, fun g b hg => ?_, fun j hj d hd => ?_⟩
  · have := (List.all_eq_true.1 ((List.all_eq_true.1 h3) t ht)) j (List.mem_range.2 (dst_lt hj))
    simpa [hj] using this
  · rw [hg] at h4
    simpa using h4
  · intro e
    have := (List.all_eq_true.1 h5) j (List.mem_range.2 (dst_lt e))
    simp [hj, hd, e] at this

theorem putAll_look (hdist : ∀ i j d, i ≠ j → dstAt ops i = some d → dstAt ops j ≠ some d) (vals : Nat → Value) : ∀ (l : List Nat) (a : Act),
    (putAll ops vals l a).tmps.size = a.tmps.size ∧ (putAll ops vals l a).defers = a.defers ∧
    (∀ j ∈ l, ∀ d, dstAt ops j = some d → d < a.tmps.size → (putAll ops vals l a).tmps[d]? = some (vals j)) ∧
    (∀ t, (∀ j ∈ l, dstAt ops j ≠ some t) → (putAll ops vals l a).tmps[t]? = a.tmps[t]?)
  | [], a => ⟨rfl, rfl, fun j hj => by simp at hj, fun _ _ => rfl⟩
  | j :: r, a => by
    obtain ⟨h1, h2, h3, h4⟩ := putAll_look hdist vals r (a.put (dstAt ops j) (vals j))
    simp only [putAll]
    refine ⟨h1.trans (put_size _ _ _), h2.trans (put_defers _ _ _), fun k hk d hd hlt => ?_, fun t ht => ?_⟩
    · by_cases hkr : k ∈ r
      · exact h3 k hkr d hd (by rw [put_size]; exact hlt)
      · have hkj : k = j := by
          rcases List.mem_cons.1 hk with h | h
          · exact h
          · exact absurd h hkr
        subst hkj
        rw [h4 d (fun m hm e => hdist k m d (fun e' => hkr (e' ▸ hm)) hd e), hd]
        exact put_at a d _ hlt
    · rw [h4 t (fun m hm => ht m (List.mem_cons_of_mem _ hm))]
      exact put_other a _ _ t (ht j (List.mem_cons_self ..))

def upd (vals : Nat → Value) (i : Nat) (v : Value) : Nat → Value := fun k => if k = i then v else vals k
/-- The state while a region runs. -/
structure RI (ops : Array Oper) (a0 : Act) (C : World → Prop) (I0 : Bool → World → Prop) (ik : Bool → Nat → Bool) (F : Nat → (Nat → Value) → World → Prop) (kills : Nat → Nat → Bool) (listed : Array Bool) (a : Act) (w : World) (vals : Nat → Value) : Prop where
  size : listed.size = ops.size
  tsize : a.tmps.size = a0.tmps.size
  defers : a.defers = a0.defers
  done : ∀ j, listed.getD j false = true → ∀ d, dstAt ops j = some d → d < a0.tmps.size → a.tmps[d]? = some (vals j)
  other : ∀ t, (∀ j, listed.getD j false = true → dstAt ops j ≠ some t) → a.tmps[t]? = a0.tmps[t]?
  closed : ∀ j, listed.getD j false = true → ∀ i ∈ waitsOf ops j, listed.getD i false = true
  c : C w
  ini : ∀ m, (∀ k, listed.getD k false = true → ik m k = false) → I0 m w
  facts : ∀ j, listed.getD j false = true → (∀ k, listed.getD k false = true → k ≠ j → kills k j = false) → F j vals w

theorem mem_waits {i j : Nat} {o : Oper} (ho : ops[i]? = some o) : j ∈ waitsOf ops i ↔ ∃ e ∈ o.after, Region.binds .any e = true ∧ e.on = j := by
  simp [waitsOf, ho]

theorem getD_set_self (l : Array Bool) (i : Nat) (h : i < l.size) : (l.setIfInBounds i true).getD i false = true := by simp [h]
theorem getD_set_other (l : Array Bool) {i j : Nat} (h : i ≠ j) : (l.setIfInBounds i true).getD j false = l.getD j false := by
  simp [Array.getElem?_setIfInBounds_ne h]

/-- what is asked of one operation -/
def StepAt (P : Program) (ops : Array Oper) (a0 : Act) (C : World → Prop) (I0 : Bool → World → Prop) (ik : Bool → Nat → Bool) (F : Nat → (Nat → Value) → World → Prop) (St : Nat → World → World → Prop) (kills : Nat → Nat → Bool) (i : Nat) (o : Oper) : Prop :=
  ∀ (w : World) (vals : Nat → Value), C w → (∀ m, availIni ops (ik m) i = true → I0 m w) → (∀ j, availAt ops kills j i = true → F j vals w) →
    wpList P ops (fun e a' w' => e = .normal ∧ ∃ v, a' = (putAll ops vals (waitsOf ops i) a0).put o.dst v ∧ F i (upd vals i v) w' ∧ C w' ∧ St i w w') [o] (putAll ops vals (waitsOf ops i) a0) w

theorem RI.step {a0 : Act} {C : World → Prop} {I0 : Bool → World → Prop} {ik : Bool → Nat → Bool} {F : Nat → (Nat → Value) → World → Prop} {St : Nat → World → World → Prop} {kills : Nat → Nat → Bool} {Q : Exit → Act → World → Prop}
    (hok : regionOk ops = true) (hini : ∀ m i, ik m i = false → ∀ w w', St i w w' → I0 m w → I0 m w') (hpres : ∀ i k, i < ops.size → i ≠ k → kills i k = false → (deepWaits ops 5 k).contains i = false → ∀ vals v w w', St i w w' → F k vals w → F k (upd vals i v) w')
    (hstep : ∀ i o, ops[i]? = some o → StepAt P ops a0 C I0 ik F St kills i o)
    {listed : Array Bool} {a : Act} {w : World} {vals : Nat → Value} (h : RI ops a0 C I0 ik F kills listed a w vals) {i : Nat} (hi : i ∈ Region.ready .any ops listed) :
    wpOp P ops Q i (fun a' w' => ∃ vals', RI ops a0 C I0 ik F kills (listed.setIfInBounds i true) a' w' vals') a w := by
  obtain ⟨hun, o, ho, hall⟩ := mem_ready.1 hi
  have hlt : i < ops.size := (Array.getElem?_eq_some_iff.1 ho).1
  have hltl : i < listed.size := by rw [h.size]; exact hlt
  have hunf : listed.getD i false = false := by
    simp [hltl] at hun ⊢; exact hun
  have ok := okAt hok ho
  have hdist : ∀ i j d, i ≠ j → dstAt ops i = some d → dstAt ops j ≠ some d := fun i j d hij hd => by
    have hil := dst_lt hd
    exact (okAt hok (Array.getElem?_eq_getElem hil)).dist j (Ne.symm hij) d hd
  have hw : ∀ j ∈ waitsOf ops i, listed.getD j false = true := fun j hj => by
    obtain ⟨e, he, hb, rfl⟩ := (mem_waits ho).1 hj
    exact hall e he hb
  obtain ⟨p1, p2, p3, p4⟩ := putAll_look hdist vals (waitsOf ops i) a0
  -- what the operation looks at is the same in both frames
  have hlook : ∀ t ∈ o.looksAt ops, a.tmps[t]? = (putAll ops vals (waitsOf ops i) a0).tmps[t]? := by
    intro t ht
    by_cases hex : ∃ j, dstAt ops j = some t
    · obtain ⟨j, hj⟩ := hex
      rcases ok.look t ht j hj with hji | hij
      · by_cases hts : t < a0.tmps.size
        · rw [h.done j (hw j hji) t hj hts, p3 j hji t hj hts]
        · rw [Array.getElem?_eq_none (by rw [h.tsize]; exact Nat.le_of_not_lt hts), Array.getElem?_eq_none (by rw [p1]; exact Nat.le_of_not_lt hts)]
      · have hjl : ¬ listed.getD j false = true := fun hj' => by rw [h.closed j hj' i hij] at hunf; cases hunf
        rw [h.other t (fun k hk e => by
          have : k = j := by
            rcases Nat.decEq k j with hne | he
            · exact absurd e (hdist j k t (Ne.symm hne) hj)
            · exact he
          subst this; exact hjl hk)]
        rw [p4 t (fun k hk e => by
          have : k = j := by
            rcases Nat.decEq k j with hne | he
            · exact absurd e (hdist j k t (Ne.symm hne) hj)
            · exact he
          subst this; exact hjl (hw k hk))]
    · have hno : ∀ j, dstAt ops j ≠ some t := fun j e => hex ⟨j, e⟩
      rw [h.other t (fun j _ => hno j), p4 t (fun j _ => hno j)]
  have heval : ∀ x ∈ o.op.operands, a.eval x = (putAll ops vals (waitsOf ops i) a0).eval x := by
    intro x hx
    cases x with
    | tmp t =>
      have := hlook t (List.mem_append_left _ (List.mem_filterMap.2 ⟨.tmp t, by simpa using hx, rfl⟩))
      simp only [Act.eval, Array.getD_eq_getD_getElem?, this]
    | _ => rfl
  have hexec : execOp a.eval o = execOp (putAll ops vals (waitsOf ops i) a0).eval o := execOp_congr o ok.sel heval
  have hwant : Region.wanted o (yielded ops a.tmps) = Region.wanted o (yielded ops (putAll ops vals (waitsOf ops i) a0).tmps) := by
    unfold Region.wanted
    cases hg : o.guard with
    | none => rfl
    | some gw =>
      obtain ⟨g, want⟩ := gw
      have : yielded ops a.tmps g = yielded ops (putAll ops vals (waitsOf ops i) a0).tmps g := by
        unfold yielded
        cases ht : (ops[g]?).bind (·.dst) with
        | none => rfl
        | some t =>
          have := hlook t (by
            refine List.mem_append_right _ ?_
            simp [hg, ht])
          simp only [Option.bind_some, this]
      simp only [this]
  have havail : ∀ j, availAt ops kills j i = true → F j vals w := by
    intro j hj
    simp only [availAt, Bool.and_eq_true] at hj
    obtain ⟨hj1, hj2⟩ := hj
    have hjl := hw j (by simpa using hj1)
    refine h.facts j hjl fun k hk hkj => ?_
    have hkl : k < ops.size := by
      rcases Nat.lt_or_ge k ops.size with h' | h'
      · exact h'
      · rw [← h.size] at h'; simp [Array.getElem?_eq_none h'] at hk
    have := (List.all_eq_true.1 hj2) k (List.mem_range.2 hkl)
    simp only [Bool.or_eq_true, beq_iff_eq, Bool.not_eq_true'] at this
    rcases this with ((this | this) | this) | this
    · subst this; rw [hunf] at hk; cases hk
    · exact absurd this hkj
    · exact this
    · have := deep_listed (L := fun j => listed.getD j false = true) h.closed 5 k hk i (by simpa using this)
      simp only [hunf] at this; cases this
  have hini0 : ∀ m, availIni ops (ik m) i = true → I0 m w := by
    intro m hj2
    refine h.ini m fun k hk => ?_
    have hkl : k < ops.size := by
      rcases Nat.lt_or_ge k ops.size with h' | h'
      · exact h'
      · rw [← h.size] at h'; simp [Array.getElem?_eq_none h'] at hk
    have := (List.all_eq_true.1 hj2) k (List.mem_range.2 hkl)
    simp only [Bool.or_eq_true, beq_iff_eq, Bool.not_eq_true'] at this
    rcases this with (this | this) | this
    · subst this; rw [hunf] at hk; cases hk
    · exact this
    · have := deep_listed (L := fun j => listed.getD j false = true) h.closed 5 k hk i (by simpa using this)
      simp only [hunf] at this; cases this
  -- the end of the step
  have hend : ∀ (v : Value) (w' : World), (∃ v', (putAll ops vals (waitsOf ops i) a0).put o.dst v = (putAll ops vals (waitsOf ops i) a0).put o.dst v' ∧ F i (upd vals i v') w' ∧ C w' ∧ St i w w') →
      ∃ vals', RI ops a0 C I0 ik F kills (listed.setIfInBounds i true) (a.put o.dst v) w' vals' := by
    rintro v w' ⟨v', hv, hF, hC, hSt⟩
    have hdo : dstAt ops i = o.dst := by simp [dstAt, ho]
    refine ⟨upd vals i v', ⟨by simp [h.size], (put_size _ _ _).trans h.tsize, (put_defers _ _ _).trans h.defers, ?_, ?_, ?_, hC, ?_, ?_⟩⟩
    · intro j hj d hd hlt'
      by_cases hji : j = i
      · subst hji
        rw [hdo] at hd
        simp only [upd, if_true]
        rw [hd] at hv ⊢
        rw [put_at _ _ _ (by rw [h.tsize]; exact hlt')]
        have := congrArg (fun a : Act => a.tmps[d]?) hv
        rw [put_at _ _ _ (by rw [p1]; exact hlt'), put_at _ _ _ (by rw [p1]; exact hlt')] at this
        exact this
      · simp only [upd, hji, if_false]
        rw [getD_set_other _ (Ne.symm hji)] at hj
        rw [put_other _ _ _ _ (fun e => hdist j i d hji hd (hdo.trans e))]
        exact h.done j hj d hd hlt'
    · intro t ht
      rw [put_other _ _ _ _ (fun e => ht i (getD_set_self _ _ hltl) (hdo.trans e))]
      refine h.other t fun j hj => ?_
      by_cases hji : j = i
      · subst hji; rw [hunf] at hj; cases hj
      · exact ht j (by rw [getD_set_other _ (Ne.symm hji)]; exact hj)
    · intro j hj k hk
      by_cases hki : k = i
      · subst hki; exact getD_set_self _ _ hltl
      · rw [getD_set_other _ (Ne.symm hki)]
        by_cases hji : j = i
        · subst hji; exact hw k hk
        · rw [getD_set_other _ (Ne.symm hji)] at hj
          exact h.closed j hj k hk
    · intro m hk
      refine hini m i (hk i (getD_set_self _ _ hltl)) _ _ hSt (h.ini m fun k hk' => hk k ?_)
      by_cases hki : k = i
      · subst hki; exact getD_set_self _ _ hltl
      · rw [getD_set_other _ (Ne.symm hki)]; exact hk'
    · intro j hj hk
      by_cases hji : j = i
      · subst hji; exact hF
      · have hj0 := hj
        rw [getD_set_other _ (Ne.symm hji)] at hj
        refine hpres i j hlt (Ne.symm hji) (hk i (getD_set_self _ _ hltl) (Ne.symm hji)) (by
          by_cases hc : (deepWaits ops 5 j).contains i = true
          · have := deep_listed (L := fun j => listed.getD j false = true) h.closed 5 j hj i (by simpa using hc)
            simp only [hunf] at this; cases this
          · simpa using hc) _ _ _ _ hSt (h.facts j hj fun k hk' hkj => ?_)
        refine hk k ?_ hkj
        by_cases hki : k = i
        · subst hki; exact getD_set_self _ _ hltl
        · rw [getD_set_other _ (Ne.symm hki)]; exact hk'
  have hs := hstep i o ho w vals h.c hini0 havail
  unfold wpOp
  simp only [ho]
  simp only [wpList] at hs
  rw [hwant]
  split
  · rename_i hwt
    rw [if_pos hwt] at hs
    rcases hs with hs | ⟨_, a₀, w₀, hq⟩
    case inr => exact absurd hq.1 (by simp)
    refine .inl ?_
    unfold Oper.wp at *
    rw [hexec]
    generalize (execOp (putAll ops vals (waitsOf ops i) a0).eval o).run P w = r at *
    cases r with
    | ok n w' =>
      cases n <;> simp only [Oper.upon] at hs ⊢
      case value v => exact hend v w' hs.2
      case skip => exact hend _ w' hs.2
      case defer d =>
        obtain ⟨_, v, hv, _⟩ := hs
        have := congrArg Act.defers hv
        rw [put_defers, put_defers] at this
        exact absurd this (by simp)
      case enter f args =>
        refine Calls.mono hs fun e w'' he => ?_
        cases e with
        | returned v => exact hend v w'' he.2
        | panicked c => exact absurd he.1 (by simp)
        | outgrown => obtain ⟨_, _, hq⟩ := he; exact absurd hq.1 (by simp)
      case row row args => exact Rows.mono hs fun v w'' he => hend v w'' he.2
    | halt x w' =>
      cases x <;> simp only [Oper.upon] at hs ⊢
      exact absurd hs.1 (by simp)
  · rename_i hwt
    rw [if_neg hwt] at hs
    exact hend _ _ hs.2

theorem count_set {l : Array Bool} {i : Nat} (hi : i < l.size) (hf : l.getD i false = false) {n : Nat} (hn : l.toList.countP (fun b => !b) ≤ n + 1) : (l.setIfInBounds i true).toList.countP (fun b => !b) ≤ n := by
  have hf' : l.toList[i]'(by simpa using hi) = false := by simpa [hi] using hf
  rw [Array.toList_setIfInBounds, List.countP_set (by simpa using hi)]
  rw [hf', if_pos (by rfl), if_neg (by simp)]
  omega

theorem all_listed (hok : regionOk ops = true) {listed : Array Bool} (hs : listed.size = ops.size) (hr : Region.ready .any ops listed = []) : ∀ n, ∀ i, i < n → i < ops.size → listed.getD i false = true := by
  intro n
  induction n with
  | zero => intro i h; omega
  | succ n ih =>
    intro i hin hi
    by_cases hl : listed.getD i false = true
    · exact hl
    · exfalso
      have ho : ops[i]? = some ops[i] := Array.getElem?_eq_getElem hi
      have ok := okAt hok ho
      have : i ∈ Region.ready .any ops listed := by
        refine mem_ready.2 ⟨?_, ops[i], ho, fun e he hb => ?_⟩
        · have : i < listed.size := by rw [hs]; exact hi
          simp [this] at hl ⊢; exact hl
        · have hlt := ok.before e.on ((mem_waits ho).2 ⟨e, he, hb, rfl⟩)
          exact ih e.on (by omega) (by omega)
      rw [hr] at this
      cases this

/-- **A REGION THAT DRAWS ITS ORDER, by one step an operation.** -/
theorem wp_region_rel {id : Nat} {a0 : Act} {w0 : World} {Q : Exit → Act → World → Prop} (C : World → Prop) (I0 : Bool → World → Prop) (ik : Bool → Nat → Bool) (F : Nat → (Nat → Value) → World → Prop) (St : Nat → World → World → Prop) (kills : Nat → Nat → Bool)
    (hm : P.follows .mixedOrders = true) (hok : regionOk ops = true) (hC : C w0.drew) (hI : ∀ m, I0 m w0.drew) (hini : ∀ m i, ik m i = false → ∀ w w', St i w w' → I0 m w → I0 m w')
    (hpres : ∀ i k, i < ops.size → i ≠ k → kills i k = false → (deepWaits ops 5 k).contains i = false → ∀ vals v w w', St i w w' → F k vals w → F k (upd vals i v) w')
    (hstep : ∀ i o, ops[i]? = some o → StepAt P ops a0 C I0 ik F St kills i o)
    (hfin : ∀ w vals, C w → (∀ j, j < ops.size → aliveAt ops kills j = true → F j vals w) → Q .normal (putAll ops vals (List.range ops.size) a0) w) :
    (Code.region id ops true).wp P Q a0 w0 := by
  have hdist : ∀ i j d, i ≠ j → dstAt ops i = some d → dstAt ops j ≠ some d := fun i j d hij hd => by
    have hil := dst_lt hd
    exact (okAt hok (Array.getElem?_eq_getElem hil)).dist j (Ne.symm hij) d hd
  have final : ∀ listed a w vals, RI ops a0 C I0 ik F kills listed a w vals → Region.ready .any ops listed = [] → Q .normal a w := by
    intro listed a w vals h hr
    have hall : ∀ j, j < ops.size → listed.getD j false = true := fun j hj => all_listed hok h.size hr (j + 1) j (by omega) hj
    obtain ⟨p1, p2, p3, p4⟩ := putAll_look hdist vals (List.range ops.size) a0
    have ha : a = putAll ops vals (List.range ops.size) a0 := by
      have ht : a.tmps = (putAll ops vals (List.range ops.size) a0).tmps := by
        apply Array.ext_getElem?
        intro t
        by_cases hex : ∃ j, dstAt ops j = some t
        · obtain ⟨j, hj⟩ := hex
          have hjl := dst_lt hj
          by_cases hts : t < a0.tmps.size
          · rw [h.done j (hall j hjl) t hj hts, p3 j (List.mem_range.2 hjl) t hj hts]
          · rw [Array.getElem?_eq_none (by rw [h.tsize]; exact Nat.le_of_not_lt hts), Array.getElem?_eq_none (by rw [p1]; exact Nat.le_of_not_lt hts)]
        · have hno : ∀ j, dstAt ops j ≠ some t := fun j e => hex ⟨j, e⟩
          rw [h.other t (fun j _ => hno j), p4 t (fun j _ => hno j)]
      have hd : a.defers = (putAll ops vals (List.range ops.size) a0).defers := h.defers.trans p2.symm
      cases a
      simp only at ht hd
      rw [ht, hd]
    rw [ha]
    refine hfin w vals h.c fun j hj hal => h.facts j (hall j hj) fun k hk hkj => ?_
    have hkl : k < ops.size := by
      rcases Nat.lt_or_ge k ops.size with h' | h'
      · exact h'
      · rw [← h.size] at h'; simp [Array.getElem?_eq_none h'] at hk
    have := (List.all_eq_true.1 hal) k (List.mem_range.2 hkl)
    simpa [hkj] using this
  refine wp_region_any hm ?_
  have key : ∀ (fuel : Nat) (listed : Array Bool) (a : Act) (w : World) (vals : Nat → Value), listed.toList.countP (fun b => !b) ≤ fuel → RI ops a0 C I0 ik F kills listed a w vals → wpAny P .any ops Q fuel listed a w := by
    intro fuel
    induction fuel with
    | zero =>
      intro listed a w vals hc h
      have hr : Region.ready .any ops listed = [] := by
        refine List.eq_nil_iff_forall_not_mem.2 fun i hi => ?_
        obtain ⟨hun, o, ho, _⟩ := mem_ready.1 hi
        have hlt : i < listed.size := by rw [h.size]; exact (Array.getElem?_eq_some_iff.1 ho).1
        have h0 : listed.toList.countP (fun b => !b) = 0 := by omega
        rw [List.countP_eq_zero] at h0
        have := h0 (listed[i]) (by simp)
        simp [hlt] at hun
        simp [hun] at this
      exact ⟨hr, final listed a w vals h hr⟩
    | succ fuel ih =>
      intro listed a w vals hc h
      refine ⟨fun hr => final listed a w vals h hr, fun i hi => ?_⟩
      obtain ⟨hun, o, ho, _⟩ := mem_ready.1 hi
      have hlt : i < listed.size := by rw [h.size]; exact (Array.getElem?_eq_some_iff.1 ho).1
      refine wpOp_mono (fun a' w' ⟨vals', h'⟩ => ih _ _ _ vals' (count_set hlt (by simp [hlt] at hun ⊢; exact hun) hc) h') (h.step (Q := Q) hok hini hpres hstep hi)
  refine key _ _ _ _ (fun _ => undef) ?_ ⟨by simp, rfl, rfl, ?_, ?_, ?_, hC, fun m _ => hI m, ?_⟩
  · have := List.countP_le_length (p := fun b : Bool => !b) (l := (Array.replicate ops.size false).toList)
    simpa using this
  · intro j hj; simp [Array.getElem?_replicate] at hj; split at hj <;> simp at hj
  · intro t _; rfl
  · intro j hj; simp [Array.getElem?_replicate] at hj; split at hj <;> simp at hj
  · intro j hj; simp [Array.getElem?_replicate] at hj; split at hj <;> simp at hj


/-! ### For the walk -/
def puts (vals : Nat → Value) : List (Nat × Option Tmp) → Act → Act
  | [], a => a
  | (j, d) :: r, a => puts vals r (a.put d (vals j))
def GoodEnd (o : Oper) (ai : Act) (R : Value → World → Prop) : Exit → Act → World → Prop := fun e a' w' => e = .normal ∧ ∃ v, a' = ai.put o.dst v ∧ R v w'

def fct (Fs : List ((Nat → Value) → World → Prop)) (i : Nat) : (Nat → Value) → World → Prop := (Fs[i]?).getD fun _ _ => True
def stp (Sts : List (World → World → Prop)) (i : Nat) : World → World → Prop := (Sts[i]?).getD Eq

def StepsL (p : Nat → Oper → Prop) : Nat → List Oper → Prop
  | _, [] => True
  | k, o :: r => p k o ∧ StepsL p (k + 1) r
theorem stepsL_spec {p : Nat → Oper → Prop} : ∀ {l : List Oper} {k : Nat}, StepsL p k l → ∀ i o, l[i]? = some o → p (k + i) o
  | [], _, _, i, o, h => by simp at h
  | o :: r, k, h, 0, o', ho => by simp at ho; subst ho; exact h.1
  | o :: r, k, h, i + 1, o', ho => by
    have := stepsL_spec h.2 i o' (by simpa using ho)
    rwa [show k + 1 + i = k + (i + 1) by omega] at this

/-- The world's step S keeps each of what is said, but for i's own and what is killed. -/
def Keeps (kill skip : Nat → Bool) (i : Nat) (S : World → World → Prop) : Nat → List ((Nat → Value) → World → Prop) → Prop
  | _, [] => True
  | k, F :: r => (i = k ∨ kill k = true ∨ skip k = true ∨ ∀ vals v w w', S w w' → F vals w → F (upd vals i v) w') ∧ Keeps kill skip i S (k + 1) r
theorem keeps_spec {kill skip : Nat → Bool} {i : Nat} {S : World → World → Prop} : ∀ {Fs : List ((Nat → Value) → World → Prop)} {k : Nat}, Keeps kill skip i S k Fs →
    ∀ j, i ≠ k + j → kill (k + j) = false → skip (k + j) = false → ∀ vals v w w', S w w' → fct Fs j vals w → fct Fs j (upd vals i v) w'
  | [], _, _, j, _, _, _, vals, v, w, w', _, hf => trivial
  | F :: r, k, h, 0, hj, hk, hs, vals, v, w, w', hS, hf => by
    rcases h.1 with h1 | h1 | h1 | h1
    · exact absurd h1 hj
    · simp only [Nat.add_zero] at hk; rw [hk] at h1; cases h1
    · simp only [Nat.add_zero] at hs; rw [hs] at h1; cases h1
    · exact h1 vals v w w' hS hf
  | F :: r, k, h, j + 1, hj, hk, hs, vals, v, w, w', hS, hf => by
    have e : k + (j + 1) = k + 1 + j := by omega
    rw [e] at hj hk hs
    exact keeps_spec h.2 j hj hk hs vals v w w' hS hf
def KeepsL (kills skips : Nat → Nat → Bool) (Fs : List ((Nat → Value) → World → Prop)) : Nat → List (World → World → Prop) → Prop
  | _, [] => True
  | i, S :: r => Keeps (kills i) (skips i) i S 0 Fs ∧ KeepsL kills skips Fs (i + 1) r
theorem keepsL_spec {kills skips : Nat → Nat → Bool} {Fs : List ((Nat → Value) → World → Prop)} : ∀ {Sts : List (World → World → Prop)} {i : Nat}, KeepsL kills skips Fs i Sts →
    ∀ j k, i + j ≠ k → kills (i + j) k = false → skips (i + j) k = false → j < Sts.length → ∀ vals v w w', stp Sts j w w' → fct Fs k vals w → fct Fs k (upd vals (i + j) v) w'
  | [], i, _, j, k, _, _, _, hl, _, _, _, _, _, _ => by simp at hl
  | S :: r, i, h, 0, k, hj, hk, hs, _, vals, v, w, w', hS, hf => by
    have := keeps_spec h.1 k (by simpa using hj) (by simpa using hk) (by simpa using hs) vals v w w' hS
    exact this hf
  | S :: r, i, h, j + 1, k, hj, hk, hs, hl, vals, v, w, w', hS, hf => by
    have e : i + (j + 1) = i + 1 + j := by omega
    rw [e] at hj hk hs ⊢
    exact keepsL_spec h.2 j k hj hk hs (by simpa using hl) vals v w w' hS hf

def IniL (ik : Nat → Bool) (I0 : World → Prop) : Nat → List (World → World → Prop) → Prop
  | _, [] => True
  | i, S :: r => (ik i = true ∨ ∀ w w', S w w' → I0 w → I0 w') ∧ IniL ik I0 (i + 1) r
theorem iniL_spec {ik : Nat → Bool} {I0 : World → Prop} : ∀ {Sts : List (World → World → Prop)} {i : Nat}, IniL ik I0 i Sts → ∀ j, ik (i + j) = false → ∀ w w', stp Sts j w w' → I0 w → I0 w'
  | [], i, _, j, _, w, w', hS, h => by
    have : w = w' := hS
    subst this; exact h
  | S :: r, i, h, 0, hj, w, w', hS, h0 => by
    rcases h.1 with h1 | h1
    · simp only [Nat.add_zero] at hj; rw [hj] at h1; cases h1
    · exact h1 w w' hS h0
  | S :: r, i, h, j + 1, hj, w, w', hS, h0 => by
    have e : i + (j + 1) = i + 1 + j := by omega
    rw [e] at hj
    exact iniL_spec h.2 j hj w w' hS h0
theorem wp_region_list {id : Nat} {l : List Oper} {a0 : Act} {w0 : World} {Q : Exit → Act → World → Prop} (C : World → Prop) (I0 : Bool → World → Prop) (ik : Bool → Nat → Bool) (Fs : List ((Nat → Value) → World → Prop)) (Sts : List (World → World → Prop)) (kills : Nat → Nat → Bool) (ps : List (Nat × Option Tmp))
    (hm : P.follows .mixedOrders = true) (hok : regionOk l.toArray = true) (hlen : Sts.length = l.length) (hps : ∀ vals, putAll l.toArray vals (List.range l.toArray.size) a0 = puts vals ps a0) (hC : C w0.drew) (hI : ∀ m, I0 m w0.drew) (hini : ∀ m, IniL (ik m) (I0 m) 0 Sts)
    (hpres : KeepsL kills (fun i k => (deepWaits l.toArray 5 k).contains i) Fs 0 Sts)
    (hstep : StepsL (StepAt P l.toArray a0 C I0 ik (fct Fs) (stp Sts) kills) 0 l)
    (hfin : ∀ w vals, C w → (∀ j, j < l.toArray.size → aliveAt l.toArray kills j = true → fct Fs j vals w) → Q .normal (puts vals ps a0) w) :
    (Code.region id l.toArray true).wp P Q a0 w0 :=
  wp_region_rel C I0 ik (fct Fs) (stp Sts) kills hm hok hC hI (fun m i hi w w' hS h => by
      have := iniL_spec (hini m) i (by simpa using hi) w w' hS
      exact this h)
    (fun i k hil hik hk hs vals v w w' hS hf => by
      have := keepsL_spec hpres i k (by simpa using hik) (by simpa using hk) (by simpa using hs) (by rw [hlen]; simpa using hil) vals v w w' hS
      rw [Nat.zero_add] at this
      exact this hf)
    (fun i o ho => by
      have := stepsL_spec hstep i o (by simpa using ho)
      simpa using this)
    (fun w vals hc hf => by rw [hps]; exact hfin w vals hc hf)

theorem act_put (t : Array Value) (d : List Deferred) (i : Tmp) (v : Value) : Act.put ⟨t, d⟩ (some i) v = ⟨t.setIfInBounds i v, d⟩ := rfl
theorem act_put_none (a : Act) (v : Value) : Act.put a none v = a := rfl
/-- The end of one operation's walk, of which the walk sees a letter alone. -/
def EndOf (E : Act → World → Prop) : Exit → Act → World → Prop := fun e a w => e = .normal ∧ E a w
theorem EndOf.mk {E : Act → World → Prop} {a : Act} {w : World} (h : E a w) : EndOf E .normal a w := ⟨rfl, h⟩

theorem step_plain {a0 : Act} {C : World → Prop} {I0 : Bool → World → Prop} {ik : Bool → Nat → Bool} {F : Nat → (Nat → Value) → World → Prop} {St : Nat → World → World → Prop} {kills : Nat → Nat → Bool} {i : Nat} {o : Oper} (ps : List (Nat × Option Tmp))
    (hps : ∀ vals, putAll ops vals (waitsOf ops i) a0 = puts vals ps a0) (hg : o.guard = none)
    (h : ∀ w vals, C w → (∀ m, availIni ops (ik m) i = true → I0 m w) → (∀ j, availAt ops kills j i = true → F j vals w) →
      ∀ E : Act → World → Prop, (∀ v w', F i (upd vals i v) w' → C w' → St i w w' → E ((puts vals ps a0).put o.dst v) w') → wpList P #[] (EndOf E) [o] (puts vals ps a0) w) :
    StepAt P ops a0 C I0 ik F St kills i o := by
  intro w vals hc h0 hf
  have h1 := h w vals hc h0 hf (fun a' w' => ∃ v, a' = (puts vals ps a0).put o.dst v ∧ F i (upd vals i v) w' ∧ C w' ∧ St i w w') fun v w' h1 h2 h3 => ⟨v, rfl, h1, h2, h3⟩
  rw [hps]
  show wpList P ops (EndOf fun a' w' => ∃ v, a' = (puts vals ps a0).put o.dst v ∧ F i (upd vals i v) w' ∧ C w' ∧ St i w w') [o] (puts vals ps a0) w
  have hw : ∀ (O : Array Oper) (t : Array Value), Region.wanted o (yielded O t) = true := fun O t => by simp [Region.wanted, hg]
  simp only [wpList, hw, if_true] at h1 ⊢
  exact h1
/-- A guarded operation. -/
theorem step_guard {a0 : Act} {C : World → Prop} {I0 : Bool → World → Prop} {ik : Bool → Nat → Bool} {F : Nat → (Nat → Value) → World → Prop} {St : Nat → World → World → Prop} {kills : Nat → Nat → Bool} {i : Nat} {o : Oper} (ps : List (Nat × Option Tmp))
    (hps : ∀ vals, putAll ops vals (waitsOf ops i) a0 = puts vals ps a0) (g : Nat) (t : Tmp) (want : Bool) (hg : o.guard = some (g, want)) (hd : dstAt ops g = some t)
    (hyes : ∀ w vals, C w → (∀ m, availIni ops (ik m) i = true → I0 m w) → (∀ j, availAt ops kills j i = true → F j vals w) → (puts vals ps a0).tmps[t]? = some (.bool want) →
      ∀ E : Act → World → Prop, (∀ v w', F i (upd vals i v) w' → C w' → St i w w' → E ((puts vals ps a0).put o.dst v) w') → wpList P #[] (EndOf E) [{ o with guard := none }] (puts vals ps a0) w)
    (hno : ∀ w vals, C w → (∀ m, availIni ops (ik m) i = true → I0 m w) → (∀ j, availAt ops kills j i = true → F j vals w) → (puts vals ps a0).tmps[t]? ≠ some (.bool want) → F i (upd vals i undef) w ∧ St i w w) :
    StepAt P ops a0 C I0 ik F St kills i o := by
  intro w vals hc h0 hf
  rw [hps]
  show wpList P ops (EndOf fun a' w' => ∃ v, a' = (puts vals ps a0).put o.dst v ∧ F i (upd vals i v) w' ∧ C w' ∧ St i w w') [o] (puts vals ps a0) w
  have hd' : (ops[g]?).bind (·.dst) = some t := hd
  by_cases hy : (puts vals ps a0).tmps[t]? = some (.bool want)
  · have h1 := hyes w vals hc h0 hf hy (fun a' w' => ∃ v, a' = (puts vals ps a0).put o.dst v ∧ F i (upd vals i v) w' ∧ C w' ∧ St i w w') fun v w' h1 h2 h3 => ⟨v, rfl, h1, h2, h3⟩
    have hw : Region.wanted o (yielded ops (puts vals ps a0).tmps) = true := by simp [Region.wanted, hg, yielded, hd', hy]
    have hw' : ∀ (O : Array Oper) (t : Array Value), Region.wanted { o with guard := none } (yielded O t) = true := fun O t => by simp [Region.wanted]
    simp only [wpList, hw, hw', if_true] at h1 ⊢
    have he : ∀ ρ, execOp ρ { o with guard := none } = execOp ρ o := fun ρ => rfl
    have ha : ∀ a w, Oper.asks P { o with guard := none } a w = Oper.asks P o a w := fun a w => rfl
    rw [ha] at h1
    exact h1
  · obtain ⟨hF, hS⟩ := hno w vals hc h0 hf hy
    have hw : ¬ Region.wanted o (yielded ops (puts vals ps a0).tmps) = true := by
      simp only [Region.wanted, hg, yielded, hd', Option.bind_some, beq_iff_eq]
      intro e
      apply hy
      split at e
      · rename_i b hb; simp at e; subst e; exact hb
      · cases e
    simp only [wpList, if_neg hw]
    exact ⟨rfl, undef, rfl, hF, hc, hS⟩

end
end Go.Proofs.Ytbeokfpbhemcfaa
/-
  A guarded operation whose guard holds.
-/
namespace Go.Proofs.Ytbeokfpbhemcfaa
set_option linter.unusedSimpArgs false
set_option linter.unusedVariables false
open Go.RowKit
section
variable {P : Program}
theorem wpList_open {w : World} {ops : Array Oper} {rest : List Oper} {o : Oper} {a : Act} {Q : Exit → Act → World → Prop}
    (hw : Region.wanted o (yielded ops a.tmps) = true) (h : wpList P ops Q ({ o with guard := none } :: rest) a w) : wpList P ops Q (o :: rest) a w := by
  have hw' : ∀ (O : Array Oper) (t : Array Value), Region.wanted { o with guard := none } (yielded O t) = true := fun O t => by simp [Region.wanted]
  simp only [wpList, hw, hw', if_true] at h ⊢
  have ha : ∀ a w, Oper.asks P { o with guard := none } a w = Oper.asks P o a w := fun a w => rfl
  rw [ha] at h
  exact h
end
end Go.Proofs.Ytbeokfpbhemcfaa
/-
  Laws of my own on conversions between bytes and strings.
-/
namespace Go.Proofs.Ytbeokfpbhemcfaa
set_option linter.unusedSimpArgs false
set_option linter.unusedVariables false
open Go.RowKit
section
variable {P : Program}
theorem run_str_of {w : World} {B : Nat} {src dst e : TypeId} (hs : P.underlying src = some (.slice e)) (he : P.underlying e = some (.int .u8)) (hd : P.underlying dst = some .string)
    {A : Option Addr} {l : List UInt8} (hr : Rd w B A (bytesV l)) (c : Nat) : (convert src dst (.slice A l.length c)).run P w = .ok (.string ⟨l.toArray⟩) w := by
  cases A with
  | none =>
    have hl : l = [] := by
      cases l with
      | nil => rfl
      | cons x r =>
        obtain ⟨ad, h, _⟩ := hr 0 (byteV x) (by simp [bytesV])
        cases h
    subst hl
    rw [run_convert_bytes_nil w src e hs he _ c dst hd]
    rfl
  | some ad =>
    have hl : (loadCells ad l.length).run P w = .ok ((l.map fun b => (b.toNat : Int)).map (Value.int .u8)).toArray w := by
      have := run_loadCells_list (P := P) w ad ((l.map fun b => (b.toNat : Int)).map (Value.int .u8)) (fun j v hj => by
        obtain ⟨ad', h, _, hc⟩ := hr j v (by rw [← hj]; simp [bytesV, byteV]; rfl)
        injection h with h
        subst h
        exact hc)
      simpa using this
    rw [run_convert_bytes_string w src dst e _ l.length c hs he hd, run_bytesToString w _ l.length c (l.map fun b => (b.toNat : Int)) hl, foldl_push_bytes]
    have e1 : ((l.map fun b => (b.toNat : Int)).map fun n => UInt8.ofNat n.toNat) = l := by
      rw [List.map_map]
      conv => rhs; rw [← List.map_id l]
      exact List.map_congr_left fun b _ => by simp
    rw [e1]
    simp [ByteArray.empty, ByteArray.emptyWithCapacity]
    rfl
theorem wpList_str_of {w : World} {ops : Array Oper} {rest : List Oper} {o : Oper} {a : Act} {Q : Exit → Act → World → Prop} {B : Nat} {src dst e : TypeId} {x : Operand} {A : Option Addr} {l : List UInt8} {c : Nat}
    (hr : Rd w B A (bytesV l)) (hs : P.underlying src = some (.slice e)) (he : P.underlying e = some (.int .u8)) (hd : P.underlying dst = some .string)
    (hgd : o.guard = none) (ho : o.op = .convert src dst x) (hx : a.eval x = .slice A l.length c)
    (h : wpList P ops Q rest (a.put o.dst (.string ⟨l.toArray⟩)) w) : wpList P ops Q (o :: rest) a w := by
  refine wpList_plain hgd fun K hK => ?_
  have hrun := run_str_of (P := P) hs he hd hr c
  unfold Oper.wp execOp
  simp only [ho, hx]
  simp only [Sem.run_bind, hrun, Result.andThen_ok, Sem.run_pure]
  exact hK _ _ h
end
end Go.Proofs.Ytbeokfpbhemcfaa
/-
  Regions that draw their order and whose operations give one value each, whatever the order: one step for each operation, in the order of the text; the last one may write.
-/
namespace Go.Proofs.Ytbeokfpbhemcfaa
set_option linter.unusedSimpArgs false
set_option linter.unusedVariables false
section
variable {P : Program}

theorem putAll_congr (ops : Array Oper) (v1 v2 : Nat → Value) : ∀ (l : List Nat) (a : Act), (∀ j ∈ l, v1 j = v2 j) → putAll ops v1 l a = putAll ops v2 l a
  | [], _, _ => rfl
  | j :: r, a, h => by
    rw [putAll, putAll, h j (List.mem_cons_self ..)]
    exact putAll_congr ops v1 v2 r _ fun k hk => h k (List.mem_cons_of_mem _ hk)
/-- One step: the value v, whatever the world. -/
def DetStep (P : Program) (ops : Array Oper) (C D : World → Prop) (Φ : (Nat → Value) → Prop) (i : Nat) (a0 : Act) (o : Oper) (v : Value) : Prop :=
  ∀ vals, Φ vals → ∀ w, C w → ∀ E : Act → World → Prop, (∀ w', D w' → E ((putAll ops vals (waitsOf ops i) a0).put o.dst v) w') → wpList P ops (EndOf E) [o] (putAll ops vals (waitsOf ops i) a0) w
/-- The steps from the i-th on. -/
def DetL (P : Program) (ops : Array Oper) (C D : World → Prop) (a0 : Act) (K : ((Nat → Value) → Prop) → Prop) : Nat → List Oper → ((Nat → Value) → Prop) → Prop
  | _, [], Φ => K Φ
  | i, [o], Φ => ∃ v, DetStep P ops C D Φ i a0 o v ∧ K fun vals => Φ vals ∧ vals i = v
  | i, o :: r :: rest, Φ => ∃ v, DetStep P ops C C Φ i a0 o v ∧ DetL P ops C D a0 K (i + 1) (r :: rest) fun vals => Φ vals ∧ vals i = v

/-- All steps, gathered. -/
theorem detL_all {ops : Array Oper} {C D : World → Prop} {a0 : Act} {K : ((Nat → Value) → Prop) → Prop} : ∀ (rest : List Oper) (i : Nat) (Φ : (Nat → Value) → Prop),
    (∀ v1 v2 : Nat → Value, (∀ j, j < i → v1 j = v2 j) → Φ v1 → Φ v2) → (∃ vals, Φ vals) → DetL P ops C D a0 K i rest Φ →
    ∃ (vs : Nat → Value) (Ψ : (Nat → Value) → Prop), K Ψ ∧ Φ vs ∧ (∀ vals, (∀ j, j < i + rest.length → vals j = vs j) → Ψ vals) ∧
      ∀ j o, rest[j]? = some o → ∀ vals w, C w → (∀ k, k < i + j → vals k = vs k) → ∀ E : Act → World → Prop, (∀ w', (if j + 1 = rest.length then D w' else C w') → E ((putAll ops vals (waitsOf ops (i + j)) a0).put o.dst (vs (i + j))) w') → wpList P ops (EndOf E) [o] (putAll ops vals (waitsOf ops (i + j)) a0) w
  | [], i, Φ, hΦ, ⟨v0, h0⟩, h => ⟨v0, Φ, h, h0, fun vals hv => hΦ _ _ (fun j hj => (hv j (by simpa using hj)).symm) h0, fun j o ho => by simp at ho⟩
  | [o], i, Φ, hΦ, ⟨v0, h0⟩, ⟨v, h1, h2⟩ => by
    refine ⟨upd v0 i v, _, h2, hΦ v0 _ (fun j hj => by simp [upd, Nat.ne_of_lt hj]) h0, fun vals hv => ⟨hΦ v0 _ (fun j hj => ?_) h0, ?_⟩, fun j o' ho w => ?_⟩
    · have := hv j (by simp; omega)
      rw [this]; simp [upd, Nat.ne_of_lt hj]
    · have := hv i (by simp)
      rw [this]; simp [upd]
    · cases j with
      | zero =>
        simp at ho
        subst ho
        intro w' hc hv
        have hΦv : Φ w := hΦ v0 _ (fun j hj => by rw [hv j (by omega)]; simp [upd, Nat.ne_of_lt hj]) h0
        intro E hE
        refine h1 w hΦv w' hc E fun w'' hd => ?_
        have := hE w'' (by simpa using hd)
        simpa [upd] using this
      | succ j => simp at ho
  | o :: r :: rest, i, Φ, hΦ, ⟨v0, h0⟩, ⟨v, h1, h2⟩ => by
    obtain ⟨vs, Ψ, k1, k2, k3, k4⟩ := detL_all (r :: rest) (i + 1) (fun vals => Φ vals ∧ vals i = v)
      (fun v1 v2 hv hp => ⟨hΦ v1 v2 (fun j hj => hv j (by omega)) hp.1, by rw [← hv i (by omega)]; exact hp.2⟩)
      ⟨upd v0 i v, hΦ v0 _ (fun j hj => by simp [upd, Nat.ne_of_lt hj]) h0, by simp [upd]⟩ h2
    refine ⟨vs, Ψ, k1, k2.1, fun vals hv => k3 vals fun j hj => hv j (by simp only [List.length_cons] at hj ⊢; omega), fun j o' ho vals w hc hv => ?_⟩
    cases j with
    | zero =>
      simp at ho
      subst ho
      have hΦv : Φ vals := hΦ vs _ (fun j hj => (hv j (by omega)).symm) k2.1
      intro E hE
      refine h1 vals hΦv w hc E fun w'' hd => ?_
      have : ¬ 0 + 1 = (o :: r :: rest).length := by simp
      have h4 := hE w'' (by rw [if_neg this]; exact hd)
      rw [Nat.add_zero, k2.2] at h4
      exact h4
    | succ j =>
      have h3 := k4 j o' (by simpa using ho) vals w hc (fun k hk => hv k (by omega))
      intro E hE
      rw [show i + (j + 1) = i + 1 + j by omega] at hE ⊢
      refine h3 E fun w'' hd => hE w'' ?_
      have e : (j + 1 + 1 = (o :: r :: rest).length) = (j + 1 = (r :: rest).length) := by simp
      simp only [e]
      exact hd

theorem wp_region_det {id : Nat} {l : List Oper} {a0 : Act} {w0 : World} {Q : Exit → Act → World → Prop} (C D : World → Prop) (ps : List (Nat × Option Tmp))
    (hm : P.follows .mixedOrders = true) (hok : regionOk l.toArray = true) (hpos : 0 < l.length)
    (hlast : ((List.range (l.length - 1)).all fun i => (deepWaits l.toArray 5 (l.length - 1)).contains i) = true)
    (hps : ∀ vals, putAll l.toArray vals (List.range l.toArray.size) a0 = puts vals ps a0) (hC : C w0.drew)
    (h : DetL P l.toArray C D a0 (fun Φ => ∀ vals, Φ vals → ∀ w, D w → Q .normal (puts vals ps a0) w) 0 l (fun _ => True)) :
    (Code.region id l.toArray true).wp P Q a0 w0 := by
  obtain ⟨vs, Ψ, k1, _, k3, k4⟩ := detL_all (P := P) l 0 (fun _ => True) (fun _ _ _ h => h) ⟨fun _ => undef, trivial⟩ h
  have hafter : ∀ i, i < l.length → i ≠ l.length - 1 → (deepWaits l.toArray 5 (l.length - 1)).contains i = true := fun i hi hne =>
    (List.all_eq_true.1 hlast) i (List.mem_range.2 (by omega))
  refine wp_region_rel (fun _ => True) (fun _ => C) (fun _ i => i == l.length - 1) (fun i vals w => vals i = vs i ∧ (i = l.length - 1 → D w)) (fun i w w' => if i = l.length - 1 then True else (C w → C w')) (fun _ _ => false) hm hok trivial (fun _ => hC) ?_ ?_ ?_ ?_
  · intro _ i hi w w' hS hc
    have hne : ¬ i = l.length - 1 := by simpa using hi
    rw [if_neg hne] at hS
    exact hS hc
  · intro i k hi hik _ hdk vals v w w' _ hF
    refine ⟨by simp [upd, Ne.symm hik, hF.1], fun hk => ?_⟩
    subst hk
    have := hafter i (by simpa using hi) hik
    rw [this] at hdk
    cases hdk
  · intro i o ho w vals _ hini hav
    have hil : i < l.length := by have := (Array.getElem?_eq_some_iff.1 ho).1; simpa using this
    have hok1 := okAt hok ho
    have hcw : C w := hini false (by
      unfold availIni
      rw [List.all_eq_true]
      intro k hk
      have hk' : k < l.length := by simpa using hk
      by_cases hki : k = i
      · simp [hki]
      · by_cases hkl : k = l.length - 1
        · have := hafter i hil (by omega)
          subst hkl
          simp only [this, Bool.or_true]
        · simp [hkl])
    have hvals : ∀ j ∈ waitsOf l.toArray i, vals j = vs j := fun j hj => by
      have h1 : availAt l.toArray (fun _ _ => false) j i = true := by
        unfold availAt
        simp [hj]
      exact (hav j h1).1
    have hcon : putAll l.toArray vals (waitsOf l.toArray i) a0 = putAll l.toArray vs (waitsOf l.toArray i) a0 := putAll_congr _ _ _ _ _ hvals
    have h3 := k4 i o (by simpa using ho) vs w hcw (fun _ _ => rfl)
    rw [Nat.zero_add] at h3
    rw [hcon]
    refine h3 (fun a' w' => ∃ v, a' = (putAll l.toArray vs (waitsOf l.toArray i) a0).put o.dst v ∧ (upd vals i v i = vs i ∧ (i = l.length - 1 → D w')) ∧ True ∧ (if i = l.length - 1 then True else (C w → C w'))) fun w' hd => ?_
    refine ⟨vs i, rfl, ⟨by simp [upd], fun hi => ?_⟩, trivial, ?_⟩
    · rw [if_pos (by omega)] at hd; exact hd
    · by_cases hi : i = l.length - 1
      · rw [if_pos hi]; trivial
      · rw [if_neg hi]
        intro _
        rw [if_neg (by omega)] at hd; exact hd
  · intro w vals _ hF
    rw [hps]
    have hal : ∀ j, aliveAt l.toArray (fun _ _ => false) j = true := fun j => by simp [aliveAt]
    have hD : D w := (hF (l.length - 1) (by simp; omega) (hal _)).2 rfl
    exact k1 vals (k3 vals fun j hj => (hF j (by simpa using hj) (hal _)).1) w hD

/-- The operations that come last, one behind the other; what each leaves may turn on the world. -/
def tailP (P : Program) (ops : Array Oper) (a0 : Act) (Kf : (Nat → Value) → World → Prop) : Nat → List Oper → (Nat → Value) → World → Prop
  | _, [], vals, w => Kf vals w
  | i, o :: r, vals, w => ∀ E : Act → World → Prop, (∀ v w', tailP P ops a0 Kf (i + 1) r (upd vals i v) w' → E ((putAll ops vals (waitsOf ops i) a0).put o.dst v) w') → wpList P ops (EndOf E) [o] (putAll ops vals (waitsOf ops i) a0) w
def mergeV (d : Nat) (vs vals : Nat → Value) : Nat → Value := fun j => if j < d then vs j else vals j
theorem mergeV_upd {d i : Nat} (vs vals : Nat → Value) (v : Value) (h : d ≤ i) : mergeV d vs (upd vals i v) = upd (mergeV d vs vals) i v := by
  funext j
  unfold mergeV upd
  by_cases h1 : j = i
  · subst h1
    have : ¬ j < d := by omega
    simp [this]
  · simp [h1]
theorem wp_region_tail {id : Nat} {l : List Oper} {a0 : Act} {w0 : World} {Q : Exit → Act → World → Prop} (C : World → Prop) (d : Nat) (ps : List (Nat × Option Tmp))
    (hm : P.follows .mixedOrders = true) (hok : regionOk l.toArray = true) (hd : d < l.length)
    (hlast : ((List.range l.length).all fun k => decide (k < d) || (((List.range k).all fun i => (deepWaits l.toArray 5 k).contains i) && (k == d || (waitsOf l.toArray k).contains (k - 1)))) = true)
    (hps : ∀ vals, putAll l.toArray vals (List.range l.toArray.size) a0 = puts vals ps a0) (hC : C w0.drew)
    (h : DetL P l.toArray C C a0 (fun Φ => ∀ vals, Φ vals → ∀ w, C w → tailP P l.toArray a0 (fun vals w => Q .normal (puts vals ps a0) w) d (l.drop d) vals w) 0 (l.take d) (fun _ => True)) :
    (Code.region id l.toArray true).wp P Q a0 w0 := by
  obtain ⟨vs, Ψ, k1, _, k3, k4⟩ := detL_all (P := P) (l.take d) 0 (fun _ => True) (fun _ _ _ h => h) ⟨fun _ => undef, trivial⟩ h
  have htl : (l.take d).length = d := by rw [List.length_take]; omega
  rw [htl] at k4
  simp only [Nat.zero_add, htl] at k3 k4
  have hdeep : ∀ k, k < l.length → d ≤ k → ∀ i, i < k → (deepWaits l.toArray 5 k).contains i = true := fun k hk hdk i hi => by
    have h1 := (List.all_eq_true.1 hlast) k (List.mem_range.2 hk)
    simp only [Bool.or_eq_true, decide_eq_true_eq, Bool.and_eq_true] at h1
    rcases h1 with h1 | h1
    · omega
    · exact (List.all_eq_true.1 h1.1) i (List.mem_range.2 hi)
  have hprev : ∀ k, k < l.length → d < k → (waitsOf l.toArray k).contains (k - 1) = true := fun k hk hdk => by
    have h1 := (List.all_eq_true.1 hlast) k (List.mem_range.2 hk)
    simp only [Bool.or_eq_true, decide_eq_true_eq, Bool.and_eq_true, beq_iff_eq] at h1
    rcases h1 with h1 | ⟨_, h1 | h1⟩
    · omega
    · omega
    · exact h1
  let Kf : (Nat → Value) → World → Prop := fun vals w => Q .normal (puts vals ps a0) w
  let kills : Nat → Nat → Bool := fun i k => decide (d ≤ k) && (decide (k < i) || decide (l.length ≤ k))
  refine wp_region_rel (fun _ => True) (fun _ => C) (fun _ i => decide (d ≤ i))
    (fun i vals w => if i < d then vals i = vs i else tailP P l.toArray a0 Kf (i + 1) (l.drop (i + 1)) (mergeV d vs vals) w)
    (fun i w w' => if d ≤ i then True else (C w → C w')) kills hm hok trivial (fun _ => hC) ?_ ?_ ?_ ?_
  · intro _ i hi w w' hS hc
    have hne : ¬ d ≤ i := by simpa using hi
    rw [if_neg hne] at hS
    exact hS hc
  · intro i k hi hik hk hdk vals v w w' _ hF
    by_cases hkd : k < d
    · simp only [hkd, if_true] at hF ⊢
      simp [upd, Ne.symm hik, hF]
    · exfalso
      have hki : ¬ k < i := by
        intro hlt
        have h9 : kills i k = true := by
          have a1 : d ≤ k := by omega
          simp [kills, a1, hlt]
        rw [h9] at hk; cases hk
      have hkl : k < l.length ∨ l.length ≤ k := Nat.lt_or_ge _ _
      rcases hkl with hkl | hkl
      · have := hdeep k hkl (by omega) i (by omega)
        rw [this] at hdk; cases hdk
      · have h9 : kills i k = true := by
          have a1 : d ≤ k := by omega
          simp [kills, a1, hkl]
        rw [h9] at hk; cases hk
  · intro i o ho w vals _ hini hav
    have hil : i < l.length := by have := (Array.getElem?_eq_some_iff.1 ho).1; simpa using this
    have hok1 := okAt hok ho
    by_cases hid : i < d
    · have hcw : C w := hini false (by
        unfold availIni
        rw [List.all_eq_true]
        intro k hk
        have hk' : k < l.length := by simpa using hk
        by_cases hki : k = i
        · simp [hki]
        · by_cases hkd : d ≤ k
          · have := hdeep k hk' hkd i (by omega)
            simp only [this, Bool.or_true]
          · simp [hkd])
      have hvals : ∀ j ∈ waitsOf l.toArray i, vals j = vs j := fun j hj => by
        have hji : j < d := by
          have := hok1.before j hj
          omega
        have h1 : availAt l.toArray kills j i = true := by
          unfold availAt
          simp only [kills, Bool.and_eq_true]
          refine ⟨by simpa using hj, ?_⟩
          rw [List.all_eq_true]
          intro k _
          have : ¬ d ≤ j := by omega
          simp [this]
        have := hav j h1
        dsimp only at this
        rw [if_pos hji] at this
        exact this
      have hcon : putAll l.toArray vals (waitsOf l.toArray i) a0 = putAll l.toArray vs (waitsOf l.toArray i) a0 := putAll_congr _ _ _ _ _ hvals
      have ho2 : (l.take d)[i]? = some o := by rw [List.getElem?_take, if_pos hid]; simpa using ho
      have h3 := k4 i o ho2 vs w hcw (fun _ _ => rfl)
      rw [hcon]
      refine h3 _ fun w' hd' => ?_
      refine ⟨vs i, rfl, ?_, trivial, ?_⟩
      · dsimp only; rw [if_pos hid]; simp [upd]
      · have hcw' : C w' := by
          by_cases he : i + 1 = d
          · rw [if_pos he] at hd'; exact hd'
          · rw [if_neg he] at hd'; exact hd'
        dsimp only
        rw [if_neg (by omega)]
        exact fun _ => hcw'
    · have hget : l.drop i = o :: l.drop (i + 1) := by
        have h1 : l[i]? = some o := by simpa using ho
        have h2 := List.drop_eq_getElem_cons hil
        rw [List.getElem?_eq_getElem hil] at h1
        rw [h2, Option.some.inj h1]
      have hvals : ∀ j ∈ waitsOf l.toArray i, vals j = mergeV d vs vals j := fun j hj => by
        unfold mergeV
        split
        · rename_i hjd
          have h1 : availAt l.toArray kills j i = true := by
            unfold availAt
            simp only [kills, Bool.and_eq_true]
            refine ⟨by simpa using hj, ?_⟩
            rw [List.all_eq_true]
            intro k _
            have : ¬ d ≤ j := by omega
            simp [this]
          have := hav j h1
          dsimp only at this
          rw [if_pos hjd] at this
          exact this
        · rfl
      have hcon : putAll l.toArray vals (waitsOf l.toArray i) a0 = putAll l.toArray (mergeV d vs vals) (waitsOf l.toArray i) a0 := putAll_congr _ _ _ _ _ hvals
      have htail : tailP P l.toArray a0 Kf i (l.drop i) (mergeV d vs vals) w := by
        by_cases he : i = d
        · subst he
          have hcw : C w := hini false (by
            unfold availIni
            rw [List.all_eq_true]
            intro k hk
            have hk' : k < l.length := by simpa using hk
            by_cases hki : k = i
            · simp [hki]
            · by_cases hkd : i ≤ k
              · have := hdeep k hk' hkd i (by omega)
                simp only [this, Bool.or_true]
              · simp [hkd])
          exact k1 _ (k3 _ fun j hj => by simp [mergeV, hj]) w hcw
        · have hav1 : availAt l.toArray kills (i - 1) i = true := by
            unfold availAt
            rw [Bool.and_eq_true]
            refine ⟨hprev i hil (by omega), ?_⟩
            rw [List.all_eq_true]
            intro k hk
            have hk' : k < l.length := by simpa using hk
            by_cases hki : k = i
            · simp [hki]
            · by_cases hki2 : i < k
              · have := hdeep k hk' (by omega) i hki2
                simp only [this, Bool.or_true]
              · have : ¬ i - 1 < k ∨ k = i - 1 := by omega
                rcases this with h1 | h1
                · have h8 : ¬ l.length ≤ i - 1 := by omega
                  simp [kills, h1, h8]
                · simp [h1]
          have := hav (i - 1) hav1
          dsimp only at this
          rw [if_neg (by omega), show i - 1 + 1 = i by omega] at this
          exact this
      rw [hget] at htail
      rw [hcon]
      refine htail _ fun v w' ht => ?_
      refine ⟨v, rfl, ?_, trivial, ?_⟩
      · dsimp only
        rw [if_neg hid, mergeV_upd _ _ _ (by omega)]
        exact ht
      · dsimp only; rw [if_pos (by omega)]; trivial
  · intro w vals _ hF
    have hn1 : l.length - 1 < l.length := by omega
    have halive : aliveAt l.toArray kills (l.length - 1) = true := by
      unfold aliveAt
      rw [List.all_eq_true]
      intro k hk
      have hk' : k < l.length := by simpa using hk
      have : ¬ l.length - 1 < k := by omega
      have h8 : ¬ l.length ≤ l.length - 1 := by omega
      simp [kills, this, h8]
    have h1 := hF (l.length - 1) (by simpa using hn1) halive
    rw [if_neg (by omega), show l.length - 1 + 1 = l.length by omega, List.drop_length] at h1
    have hcon : putAll l.toArray vals (List.range l.toArray.size) a0 = putAll l.toArray (mergeV d vs vals) (List.range l.toArray.size) a0 := putAll_congr _ _ _ _ _ fun j hj => by
      unfold mergeV
      split
      · rename_i hjd
        have hal : aliveAt l.toArray kills j = true := by
          unfold aliveAt
          rw [List.all_eq_true]
          intro k _
          have : ¬ d ≤ j := by omega
          simp [kills, this]
        have := hF j (by simpa using (List.mem_range.1 hj)) hal
        rw [if_pos hjd] at this
        exact this
      · rfl
    rw [hcon, hps]
    exact h1

section
variable {ops : Array Oper} {C D : World → Prop} {a0 : Act} {K : ((Nat → Value) → Prop) → Prop} {i : Nat} {Φ : (Nat → Value) → Prop} {o : Oper}
theorem detStep_plain {v : Value} (ps : List (Nat × Option Tmp)) (hps : ∀ vals, putAll ops vals (waitsOf ops i) a0 = puts vals ps a0) (hg : o.guard = none)
    (h : ∀ vals, Φ vals → ∀ w, C w → ∀ E : Act → World → Prop, (∀ w', D w' → E ((puts vals ps a0).put o.dst v) w') → wpList P #[] (EndOf E) [o] (puts vals ps a0) w) : DetStep P ops C D Φ i a0 o v := by
  intro vals hp w hc E hE
  rw [hps] at hE ⊢
  have h1 := h vals hp w hc E hE
  have hw : ∀ (O : Array Oper) (t : Array Value), Region.wanted o (yielded O t) = true := fun O t => by simp [Region.wanted, hg]
  simp only [wpList, hw, if_true] at h1 ⊢
  exact h1
theorem detStep_yes {v : Value} (ps : List (Nat × Option Tmp)) (hps : ∀ vals, putAll ops vals (waitsOf ops i) a0 = puts vals ps a0) (g : Nat) (t : Tmp) (want : Bool) (hg : o.guard = some (g, want)) (hd : dstAt ops g = some t)
    (hy : ∀ vals, Φ vals → (puts vals ps a0).tmps[t]? = some (.bool want))
    (h : ∀ vals, Φ vals → ∀ w, C w → ∀ E : Act → World → Prop, (∀ w', D w' → E ((puts vals ps a0).put o.dst v) w') → wpList P #[] (EndOf E) [{ o with guard := none }] (puts vals ps a0) w) : DetStep P ops C D Φ i a0 o v := by
  intro vals hp w hc E hE
  rw [hps] at hE ⊢
  have h1 := h vals hp w hc E hE
  have hd' : (ops[g]?).bind (·.dst) = some t := hd
  have hw : Region.wanted o (yielded ops (puts vals ps a0).tmps) = true := by simp [Region.wanted, hg, yielded, hd', hy vals hp]
  have hw' : ∀ (O : Array Oper) (t : Array Value), Region.wanted { o with guard := none } (yielded O t) = true := fun O t => by simp [Region.wanted]
  simp only [wpList, hw, hw', if_true] at h1 ⊢
  have ha : ∀ a w, Oper.asks P { o with guard := none } a w = Oper.asks P o a w := fun a w => rfl
  rw [ha] at h1
  exact h1
theorem detStep_no (ps : List (Nat × Option Tmp)) (hps : ∀ vals, putAll ops vals (waitsOf ops i) a0 = puts vals ps a0) (g : Nat) (t : Tmp) (want : Bool) (hg : o.guard = some (g, want)) (hd : dstAt ops g = some t)
    (hy : ∀ vals, Φ vals → (puts vals ps a0).tmps[t]? = some (.bool !want)) (hCD : ∀ w, C w → D w) : DetStep P ops C D Φ i a0 o undef := by
  intro vals hp w hc E hE
  rw [hps] at hE ⊢
  have hd' : (ops[g]?).bind (·.dst) = some t := hd
  have hw : ¬ Region.wanted o (yielded ops (puts vals ps a0).tmps) = true := by
    simp [Region.wanted, hg, yielded, hd', hy vals hp]
  simp only [wpList, if_neg hw]
  exact ⟨rfl, hE w (hCD w hc)⟩
theorem tail_step {Kf : (Nat → Value) → World → Prop} {r : List Oper} {vals : Nat → Value} {w : World} (ps : List (Nat × Option Tmp)) (hps : ∀ vals, putAll ops vals (waitsOf ops i) a0 = puts vals ps a0) (hg : o.guard = none)
    (h : ∀ E : Act → World → Prop, (∀ v w', tailP P ops a0 Kf (i + 1) r (upd vals i v) w' → E ((puts vals ps a0).put o.dst v) w') → wpList P #[] (EndOf E) [o] (puts vals ps a0) w) : tailP P ops a0 Kf i (o :: r) vals w := by
  intro E hE
  rw [hps] at hE ⊢
  have h1 := h E hE
  have hw : ∀ (O : Array Oper) (t : Array Value), Region.wanted o (yielded O t) = true := fun O t => by simp [Region.wanted, hg]
  simp only [wpList, hw, if_true] at h1 ⊢
  exact h1
theorem tail_end {Kf : (Nat → Value) → World → Prop} {vals : Nat → Value} {w : World} (h : Kf vals w) : tailP P ops a0 Kf i [] vals w := h
theorem upd_self (vals : Nat → Value) (i : Nat) (v : Value) : upd vals i v i = v := if_pos rfl
theorem upd_ne {vals : Nat → Value} {i j : Nat} {v : Value} (h : j ≠ i) : upd vals i v j = vals j := if_neg h
theorem DetL.next {v : Value} {r : Oper} {rest : List Oper} (hs : DetStep P ops C C Φ i a0 o v) (h : DetL P ops C D a0 K (i + 1) (r :: rest) fun vals => Φ vals ∧ vals i = v) : DetL P ops C D a0 K i (o :: r :: rest) Φ := ⟨v, hs, h⟩
theorem DetL.last {v : Value} (hs : DetStep P ops C D Φ i a0 o v) (h : K fun vals => Φ vals ∧ vals i = v) : DetL P ops C D a0 K i [o] Φ := ⟨v, hs, h⟩
end
end
end Go.Proofs.Ytbeokfpbhemcfaa
/-
  Plain: words as natural numbers, and how the walk spells what is done to them.
-/
namespace Go.Proofs.Ytbeokfpbhemcfaa
set_option linter.unusedSimpArgs false
set_option linter.unusedVariables false
open Go.RowKit

section
variable (a b : Nat)
theorem bv64 : (BitVec.ofInt 64 (a : Int)) = BitVec.ofNat 64 a := by simp
theorem or64 (ha : a < 18446744073709551616) (hb : b < 18446744073709551616) : bits .or .u64 (a : Int) (b : Int) = ((a ||| b : Nat) : Int) := by
  show IntKind.u64.wrap ((BitVec.ofInt 64 (a : Int) ||| BitVec.ofInt 64 (b : Int)).toNat : Int) = _
  have h := Nat.or_lt_two_pow (n := 64) (x := a) (y := b) ha hb
  rw [BitVec.toNat_or, BitVec.ofInt_natCast, BitVec.ofInt_natCast, BitVec.toNat_ofNat, BitVec.toNat_ofNat, Nat.mod_eq_of_lt ha, Nat.mod_eq_of_lt hb, IntKind.wrap_u64]
  omega
theorem xor64 (ha : a < 18446744073709551616) (hb : b < 18446744073709551616) : bits .xor .u64 (a : Int) (b : Int) = ((a ^^^ b : Nat) : Int) := by
  show IntKind.u64.wrap ((BitVec.ofInt 64 (a : Int) ^^^ BitVec.ofInt 64 (b : Int)).toNat : Int) = _
  have h := Nat.xor_lt_two_pow (n := 64) (x := a) (y := b) ha hb
  rw [BitVec.toNat_xor, BitVec.ofInt_natCast, BitVec.ofInt_natCast, BitVec.toNat_ofNat, BitVec.toNat_ofNat, Nat.mod_eq_of_lt ha, Nat.mod_eq_of_lt hb, IntKind.wrap_u64]
  omega
theorem and64 (ha : a < 18446744073709551616) (hb : b < 18446744073709551616) : bits .and .u64 (a : Int) (b : Int) = ((a &&& b : Nat) : Int) := by
  show IntKind.u64.wrap ((BitVec.ofInt 64 (a : Int) &&& BitVec.ofInt 64 (b : Int)).toNat : Int) = _
  have h : a &&& b ≤ a := Nat.and_le_left
  rw [BitVec.toNat_and, BitVec.ofInt_natCast, BitVec.ofInt_natCast, BitVec.toNat_ofNat, BitVec.toNat_ofNat, Nat.mod_eq_of_lt ha, Nat.mod_eq_of_lt hb, IntKind.wrap_u64]
  omega
theorem or32 (ha : a < 4294967296) (hb : b < 4294967296) : bits .or .u32 (a : Int) (b : Int) = ((a ||| b : Nat) : Int) := by
  show IntKind.u32.wrap ((BitVec.ofInt 32 (a : Int) ||| BitVec.ofInt 32 (b : Int)).toNat : Int) = _
  have h := Nat.or_lt_two_pow (n := 32) (x := a) (y := b) ha hb
  rw [BitVec.toNat_or, BitVec.ofInt_natCast, BitVec.ofInt_natCast, BitVec.toNat_ofNat, BitVec.toNat_ofNat, Nat.mod_eq_of_lt ha, Nat.mod_eq_of_lt hb, IntKind.wrap_u32]
  omega
theorem xor32 (ha : a < 4294967296) (hb : b < 4294967296) : bits .xor .u32 (a : Int) (b : Int) = ((a ^^^ b : Nat) : Int) := by
  show IntKind.u32.wrap ((BitVec.ofInt 32 (a : Int) ^^^ BitVec.ofInt 32 (b : Int)).toNat : Int) = _
  have h := Nat.xor_lt_two_pow (n := 32) (x := a) (y := b) ha hb
  rw [BitVec.toNat_xor, BitVec.ofInt_natCast, BitVec.ofInt_natCast, BitVec.toNat_ofNat, BitVec.toNat_ofNat, Nat.mod_eq_of_lt ha, Nat.mod_eq_of_lt hb, IntKind.wrap_u32]
  omega
theorem and32 (ha : a < 4294967296) (hb : b < 4294967296) : bits .and .u32 (a : Int) (b : Int) = ((a &&& b : Nat) : Int) := by
  show IntKind.u32.wrap ((BitVec.ofInt 32 (a : Int) &&& BitVec.ofInt 32 (b : Int)).toNat : Int) = _
  have h : a &&& b ≤ a := Nat.and_le_left
  rw [BitVec.toNat_and, BitVec.ofInt_natCast, BitVec.ofInt_natCast, BitVec.toNat_ofNat, BitVec.toNat_ofNat, Nat.mod_eq_of_lt ha, Nat.mod_eq_of_lt hb, IntKind.wrap_u32]
  omega
theorem or8 (ha : a < 256) (hb : b < 256) : bits .or .u8 (a : Int) (b : Int) = ((a ||| b : Nat) : Int) := by
  show IntKind.u8.wrap ((BitVec.ofInt 8 (a : Int) ||| BitVec.ofInt 8 (b : Int)).toNat : Int) = _
  have h := Nat.or_lt_two_pow (n := 8) (x := a) (y := b) ha hb
  rw [BitVec.toNat_or, BitVec.ofInt_natCast, BitVec.ofInt_natCast, BitVec.toNat_ofNat, BitVec.toNat_ofNat, Nat.mod_eq_of_lt ha, Nat.mod_eq_of_lt hb, IntKind.wrap_u8]
  omega
theorem xor8 (ha : a < 256) (hb : b < 256) : bits .xor .u8 (a : Int) (b : Int) = ((a ^^^ b : Nat) : Int) := by
  show IntKind.u8.wrap ((BitVec.ofInt 8 (a : Int) ^^^ BitVec.ofInt 8 (b : Int)).toNat : Int) = _
  have h := Nat.xor_lt_two_pow (n := 8) (x := a) (y := b) ha hb
  rw [BitVec.toNat_xor, BitVec.ofInt_natCast, BitVec.ofInt_natCast, BitVec.toNat_ofNat, BitVec.toNat_ofNat, Nat.mod_eq_of_lt ha, Nat.mod_eq_of_lt hb, IntKind.wrap_u8]
  omega
theorem wrap64n (a : Nat) : IntKind.u64.wrap (a : Int) = ((a % 18446744073709551616 : Nat) : Int) := by rw [IntKind.wrap_u64]; omega
theorem wrap32n (a : Nat) : IntKind.u32.wrap (a : Int) = ((a % 4294967296 : Nat) : Int) := by rw [IntKind.wrap_u32]; omega
theorem wrap8n (a : Nat) : IntKind.u8.wrap (a : Int) = ((a % 256 : Nat) : Int) := by rw [IntKind.wrap_u8]; omega
end
theorem ret_int' {k : IntKind} {a b : Int} (h : a = b) : Ending.returned (.int k a) = .returned (.int k b) := by rw [h]
theorem below_drewN' {B : Nat} {a w : World} (h : Below B a w) (n : Nat) : Below B a (w.drewN n) := ⟨h.os, h.tape, h.output, h.size, h.block⟩
theorem sum64w (x y : Nat) : IntKind.u64.wrap ((x : Int) + (y : Int)) = (((x + y) % 18446744073709551616 : Nat) : Int) := by rw [IntKind.wrap_u64]; omega
theorem sum32f (a b x y : Nat) : (((a : Int) + (b : Int)) % 4294967296 + ((x : Int) + (y : Int)) % 4294967296) % 4294967296 = (((a + b + (x + y)) % 2 ^ 32 : Nat) : Int) := by omega
theorem sum64f (a b x y : Nat) : IntKind.u64.wrap (IntKind.u64.wrap ((a : Int) + (b : Int)) + ((x : Int) + (y : Int)) % 18446744073709551616) = (((a + b + (x + y)) % 2 ^ 64 : Nat) : Int) := by
  rw [IntKind.wrap_u64, IntKind.wrap_u64]; omega
theorem add2_32 (a b : Nat) : ((a : Int) + (b : Int)) % 4294967296 = (((a + b) % 2 ^ 32 : Nat) : Int) := by omega
theorem add2_64 (a b : Nat) : IntKind.u64.wrap ((a : Int) + (b : Int)) = (((a + b) % 2 ^ 64 : Nat) : Int) := by rw [IntKind.wrap_u64]; omega
theorem mixsum32 (a b c d e : Nat) : ((((((a : Int) + (b : Int)) % 4294967296 + (c : Int)) % 4294967296 + (d : Int)) % 4294967296) + (e : Int)) % 4294967296 = (((a + b + c + d + e) % 2 ^ 32 : Nat) : Int) := by omega
theorem mixsum64 (a b c d e : Nat) : IntKind.u64.wrap (IntKind.u64.wrap (IntKind.u64.wrap (IntKind.u64.wrap ((a : Int) + (b : Int)) + (c : Int)) + (d : Int)) + (e : Int)) = (((a + b + c + d + e) % 2 ^ 64 : Nat) : Int) := by
  simp only [IntKind.wrap_u64]; omega
theorem and_lt {a b m : Nat} (h : a < m) : a &&& b < m := Nat.lt_of_le_of_lt Nat.and_le_left h
theorem or_shl8 (x z : Nat) (hz : z < 256) : x * 256 ||| z = x * 256 + z := by
  have := Nat.two_pow_add_eq_or_of_lt (i := 8) (b := z) hz x
  rw [show 2 ^ 8 * x = x * 256 by omega] at this
  exact this.symm
theorem or_byte32 (x z : Nat) (hx : x < 16777216) (hz : z < 256) : bits .or .u32 ((x : Int) * 256 % 4294967296) (z : Int) = ((x * 256 + z : Nat) : Int) := by
  rw [show (x : Int) * 256 % 4294967296 = ((x * 256 : Nat) : Int) by omega, or32 _ _ (by omega) (by omega), or_shl8 x z hz]
theorem or_byte64 (x z : Nat) (hx : x < 72057594037927936) (hz : z < 256) : bits .or .u64 (IntKind.u64.wrap ((x : Int) * 256)) (z : Int) = ((x * 256 + z : Nat) : Int) := by
  rw [show IntKind.u64.wrap ((x : Int) * 256) = ((x * 256 : Nat) : Int) by rw [IntKind.wrap_u64]; omega, or64 _ _ (by omega) (by omega), or_shl8 x z hz]
/-- A word of so many bits, turned to the right. -/
def rotN (b x n : Nat) : Nat := x / 2 ^ n ||| x * 2 ^ (b - n) % 2 ^ b
theorem rotN_lt {b x n : Nat} (hx : x < 2 ^ b) : rotN b x n < 2 ^ b :=
  Nat.or_lt_two_pow (Nat.lt_of_le_of_lt (Nat.div_le_self _ _) hx) (Nat.mod_lt _ (Nat.two_pow_pos _))
def turnedN (b x n : Nat) : Nat := if b = 32 then rotN 32 (x % 4294967296) n else rotN 64 x n
theorem turnedN_lt {b x n : Nat} (hx : x < 18446744073709551616) : turnedN b x n < 18446744073709551616 := by
  unfold turnedN
  split
  · have := rotN_lt (b := 32) (x := x % 4294967296) (n := n) (Nat.mod_lt _ (by decide))
    omega
  · exact rotN_lt (b := 64) hx
def lastN (b x c : Nat) (shift : Bool) : Nat := if shift then x / 2 ^ c else turnedN b x c
theorem lastN_lt {b x c : Nat} {shift : Bool} (hx : x < 18446744073709551616) : lastN b x c shift < 18446744073709551616 := by
  unfold lastN
  split
  · exact Nat.lt_of_le_of_lt (Nat.div_le_self _ _) hx
  · exact turnedN_lt hx
/-- Three turns of a word. -/
def allN (b x p q c : Nat) (shift : Bool) : Nat := turnedN b x p ^^^ turnedN b x q ^^^ lastN b x c shift
theorem xor_lt64 {a b : Nat} (ha : a < 18446744073709551616) (hb : b < 18446744073709551616) : a ^^^ b < 18446744073709551616 := Nat.xor_lt_two_pow (n := 64) ha hb
theorem allN_lt {b x p q c : Nat} {shift : Bool} (hx : x < 18446744073709551616) : allN b x p q c shift < 18446744073709551616 :=
  xor_lt64 (xor_lt64 (turnedN_lt hx) (turnedN_lt hx)) (lastN_lt hx)
theorem pow_int (n : Nat) : (2 : Int) ^ n = ((2 ^ n : Nat) : Int) := by simp
theorem shr_int (x n : Nat) : (x : Int) / 2 ^ n = ((x / 2 ^ n : Nat) : Int) := by rw [pow_int]; simp
theorem shl_int (x n : Nat) : (x : Int) * 2 ^ n = ((x * 2 ^ n : Nat) : Int) := by rw [pow_int]; simp
theorem rot_walk64 (x n : Nat) (hx : x < 18446744073709551616) : bits .or .u64 ((x : Int) / 2 ^ n) (IntKind.u64.wrap ((x : Int) * 2 ^ (64 - n))) = (rotN 64 x n : Int) := by
  rw [shr_int, shl_int, wrap64n, or64 _ _ (Nat.lt_of_le_of_lt (Nat.div_le_self _ _) hx) (Nat.mod_lt _ (by decide))]
  rfl
theorem rot_walk32 (x n : Nat) (hx : x < 4294967296) : bits .or .u32 ((x : Int) / 2 ^ n) (IntKind.u32.wrap ((x : Int) * 2 ^ (32 - n))) = (rotN 32 x n : Int) := by
  rw [shr_int, shl_int, wrap32n, or32 _ _ (Nat.lt_of_le_of_lt (Nat.div_le_self _ _) hx) (Nat.mod_lt _ (by decide))]
  rfl
theorem rot_walk32' (x n : Nat) : IntKind.u64.wrap (bits .or .u32 ((x : Int) % 4294967296 / 2 ^ n) ((x : Int) % 4294967296 * 2 ^ (32 - n) % 4294967296)) = (turnedN 32 x n : Int) := by
  have h := rot_walk32 (x % 4294967296) n (Nat.mod_lt _ (by decide))
  rw [IntKind.wrap_u32] at h
  rw [show (x : Int) % 4294967296 = ((x % 4294967296 : Nat) : Int) by omega, h, wrap64n]
  have h2 := rotN_lt (b := 32) (x := x % 4294967296) (n := n) (Nat.mod_lt _ (by decide))
  rw [Nat.mod_eq_of_lt (by omega)]
  rfl
end Go.Proofs.Ytbeokfpbhemcfaa
