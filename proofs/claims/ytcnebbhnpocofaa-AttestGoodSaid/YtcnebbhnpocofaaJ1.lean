/-
  Joined texts: Base Laws Open Box Region R9a R9b Rwz Owr Led R9c R9d R9e Part R15a Orp Ld2 Grd H9 Guard Det Words Tail Seq Seq2 Turned ShaM ShaX ShaS Own SumC Sum32 Fld Fw Byt Fb Rdp Conv Rb Rl Nam TurnR RefT Rdx.
-/
import Derived.WalkKit
import Derived.WalkSpells
import Derived.WalkLawsBesides
import Derived.Lib.Strings
import Derived.Maps.AppendAt
import Derived.Deep.Draws
import Derived.Lib.AppendStr
import Derived.Lib.Hide
import Derived.Test.YtcnebbhnpocofaaRows
import Derived.ProofKit
import Derived.OpenShut
import Derived.SizedLaws
import Derived.Lib.SmallJoins
import Derived.SliceStrings
import Derived.Laws.Rows
import Derived.Laws.Tables
import Derived.Orders
import Derived.Test.YtcnebbhnpocofaaProg
import Derived.Deep.QuietTactic
import Derived.BigQuiet
import Derived.Deep.DeepCutAuto
import Derived.Laws.CopyRow
import Derived.Laws.Unary
import Derived.Laws.Bits64
import Derived.Laws.BitsLemmas
import Derived.IntWalk
import Derived.Stop.BytesEq
import Derived.Shelf.Bits.Mul64
import Derived.Shelf.Spec.BitsCarry
import Derived.Laws.BytesArg
import Derived.Laws.IdiomStrings
import Derived.Laws.MakeOwn
import Derived.Laws.OwnMore
/-
  Small words of my own: bytes as values.
-/
namespace Go.Proofs.Ytcnebbhnpocofaa
set_option linter.unusedSimpArgs false
set_option linter.unusedVariables false
open Go.RowKit
def byteV (b : UInt8) : Value := .int .u8 (b.toNat : Int)
def bytesV (l : List UInt8) : List Value := l.map byteV
theorem bytesV_append (l r : List UInt8) : bytesV (l ++ r) = bytesV l ++ bytesV r := by simp [bytesV]
theorem bytesV_length (l : List UInt8) : (bytesV l).length = l.length := by simp [bytesV]
theorem ret_bool {a b : Bool} (h : a = b) : Ending.returned (.bool a) = .returned (.bool b) := by rw [h]
theorem toList_eq (s : ByteArray) : s.toList = s.data.toList := Lib.toList_data s
end Go.Proofs.Ytcnebbhnpocofaa
/-
  Laws of my own in forms that meet the walk's goal as it stands: append of one element, of a string, of a slice that reads; rows that grow one behind the other.
-/
namespace Go.Proofs.Ytcnebbhnpocofaa
set_option linter.unusedSimpArgs false
set_option linter.unusedVariables false
open Go.RowKit
theorem calls_then {P : Program} {f : FuncId} {args : Array Value} {w : World} {R K : Ending → World → Prop} (h : Calls P f args w R) (hk : ∀ e w', R e w' → K e w') : Calls P f args w K := h.mono hk
structure SlT (P : Program) (t e : TypeId) (size bytes : Nat) : Prop where
  und : P.underlying t = some (.slice e)
  info : ∃ i z, P.info? e = some i ∧ i.zero = some z ∧ i.size = size ∧ i.bytes = bytes ∧ z.cells.size = size
  pos : 0 < size
theorem SlT.mk1 {P : Program} {t e : TypeId} {z : Value} {size bytes : Nat} (hu : P.underlying t = some (.slice e)) (h : (P.info? e).map (fun i => (i.zero, i.size, i.bytes)) = some (some z, size, bytes))
    (hz : z.cells.size = size) (hp : 0 < size) : SlT P t e size bytes := by
  obtain ⟨i, hi, h0, h1, h2⟩ := info_parts h
  exact ⟨hu, ⟨i, z, hi, h0, h1, h2, hz⟩, hp⟩
def Next (w : World) (v v' : Value) : Prop := v'.ownBlock = v.ownBlock ∨ ∀ k, v'.ownBlock = some k → w.heap.size ≤ k
theorem Next.refl (w : World) (v : Value) : Next w v v := .inl rfl
theorem Next.trans {w w1 : World} {v v1 v2 : Value} (h : Next w v v1) (h1 : Next w1 v1 v2) (hs : w.heap.size ≤ w1.heap.size) : Next w v v2 := by
  rcases h1 with h1 | h1
  · rcases h with h | h
    · exact .inl (h1.trans h)
    · exact .inr fun k hk => h k (h1 ▸ hk)
  · exact .inr fun k hk => Nat.le_trans hs (h1 k hk)
theorem Next.back {w w1 : World} {v v' : Value} (h : Next w1 v v') (hs : w.heap.size ≤ w1.heap.size) : Next w v v' :=
  h.imp id fun h k hk => Nat.le_trans hs (h k hk)
theorem below_of_grown {B : Nat} {w w1 : World} {v : Value} (h : w.grownBy w1 v.ownBlock) (hB : B ≤ w.heap.size) (hv : ∀ k, v.ownBlock = some k → B ≤ k) : Below B w w1 :=
  (Below.refl B w).grown h hB hv
def OwnX (w : World) (base : Nat) (e : TypeId) (size : Nat) (v : Value) (n : Nat) (xs : List Value) : Prop :=
  xs.length = n * size ∧
  ((v = .slice none 0 0 ∧ n = 0) ∨
   ∃ g cap cur fz, v = .slice (some ⟨g, 0, none⟩) n cap ∧ base ≤ g ∧ w.heap[g]? = some (.cells cur e fz) ∧ n ≤ cap ∧ cap ≤ maxLen ∧ cur.size = cap * size ∧ cur.toList.take (n * size) = xs ∧ (fz = (0, 0) ∨ cap = n))
section
variable {w w' : World} {base e size n : Nat} {v : Value} {xs : List Value}
theorem OwnX.of (h : w.ownsRow base e size v n xs) : OwnX w base e size v n xs := by
  refine ⟨h.1, ?_⟩
  rcases h.2 with h | ⟨g, cap, cur, h1, h2, h3, h4, h5, h6, h7⟩
  · exact .inl h
  · exact .inr ⟨g, cap, cur, (0, 0), h1, h2, h3, h4, h5, h6, h7, .inl rfl⟩
theorem OwnX.nil (w : World) (base e size : Nat) : OwnX w base e size (.slice none 0 0) 0 [] := ⟨by simp, .inl ⟨rfl, rfl⟩⟩
theorem OwnX.lt (h : OwnX w base e size v n xs) : ∀ k, v.ownBlock = some k → base ≤ k ∧ k < w.heap.size := by
  intro k hk
  rcases h.2 with ⟨rfl, _⟩ | ⟨g, cap, cur, fz, rfl, hb, hg, _⟩
  · simp [Value.ownBlock] at hk
  · simp [Value.ownBlock] at hk
    subst hk
    exact ⟨hb, (Array.getElem?_eq_some_iff.1 hg).1⟩
theorem OwnX.kept {row : Option Nat} (h : OwnX w base e size v n xs) (hg : w.grownBy w' row) (hne : v.ownBlock = none ∨ v.ownBlock ≠ row) : OwnX w' base e size v n xs := by
  refine ⟨h.1, ?_⟩
  rcases h.2 with hn | ⟨g, cap, cur, fz, rfl, hb, hgg, rest⟩
  · exact .inl hn
  · refine .inr ⟨g, cap, cur, fz, rfl, hb, ?_, rest⟩
    rw [hg.block g (Array.getElem?_eq_some_iff.1 hgg).1 (by simpa [Value.ownBlock] using hne)]
    exact hgg
theorem OwnX.alloc (h : OwnX w base e size v n xs) (o : Obj) : OwnX (w.alloc o) base e size v n xs :=
  h.kept (World.grownBy_alloc w o none) (by cases hv : v.ownBlock <;> simp)
theorem OwnX.below (h : OwnX w base e size v n xs) {B : Nat} (hb : Below B w w') (hB : w.heap.size ≤ B) : OwnX w' base e size v n xs := by
  refine ⟨h.1, ?_⟩
  rcases h.2 with hn | ⟨g, cap, cur, fz, rfl, hbb, hgg, rest⟩
  · exact .inl hn
  · exact .inr ⟨g, cap, cur, fz, rfl, hbb, (hb.block g (Nat.lt_of_lt_of_le (Array.getElem?_eq_some_iff.1 hgg).1 hB)).trans hgg, rest⟩
theorem OwnX.le_cap {A : Option Addr} {c : Nat} (h : OwnX w base e size (.slice A n c) n xs) : n ≤ c := by
  rcases h.2 with ⟨_, hn⟩ | ⟨g, cap, cur, fz, hv, _, _, hnc, _⟩
  · omega
  · injection hv with _ _ h3; omega
theorem OwnX.mono (h : OwnX w base e size v n xs) {base' : Nat} (hb : base' ≤ base) : OwnX w base' e size v n xs :=
  ⟨h.1, h.2.elim .inl fun ⟨g, cap, cur, fz, hv, hg, r⟩ => .inr ⟨g, cap, cur, fz, hv, Nat.le_trans hb hg, r⟩⟩
theorem OwnX.cells (h : OwnX w base e size v n xs) {g : Nat} (hg : v.ownBlock = some g) : ∀ j u, xs[j]? = some u → w.cell? ((⟨g, 0, none⟩ : Addr).add j) = some u := by
  intro j u hu
  rcases h.2 with ⟨rfl, _⟩ | ⟨g', cap, cur, fz, rfl, _, hgg, _, _, _, htake, _⟩
  · simp [Value.ownBlock] at hg
  · simp [Value.ownBlock] at hg
    subst hg
    have hadd : (⟨g', 0, none⟩ : Addr).add j = ⟨g', j, none⟩ := by unfold Addr.add; split <;> simp_all
    rw [hadd, cell_of_row w g' j cur e fz hgg]
    rw [← htake, List.getElem?_take] at hu
    split at hu
    · simpa using hu
    · cases hu
end
def Rd (w : World) (B : Nat) (A : Option Addr) (xs : List Value) : Prop := ∀ i u, xs[i]? = some u → ∃ ad, A = some ad ∧ ad.block < B ∧ w.cell? (ad.add i) = some u
theorem block_of_add (a : Addr) (n : Nat) : (a.add n).block = a.block := by unfold Addr.add; split <;> rfl
theorem Rd.below {w w' : World} {B : Nat} {A : Option Addr} {xs : List Value} (h : Rd w B A xs) (hb : Below B w w') : Rd w' B A xs := fun i u hu => by
  obtain ⟨ad, ha, hlt, hc⟩ := h i u hu
  exact ⟨ad, ha, hlt, (hb.cell (by rw [block_of_add]; exact hlt)).trans hc⟩
theorem Rd.mono {w : World} {B B' : Nat} {A : Option Addr} {xs : List Value} (h : Rd w B A xs) (hb : B ≤ B') : Rd w B' A xs := fun i u hu => by
  obtain ⟨ad, ha, hlt, hc⟩ := h i u hu
  exact ⟨ad, ha, Nat.lt_of_lt_of_le hlt hb, hc⟩
theorem Rd.nil (w : World) (B : Nat) (A : Option Addr) : Rd w B A [] := fun i u hu => by simp at hu
theorem Rd.at_ {w : World} {B k : Nat} {A : Option Addr} {xs : List Value} (h : Rd w B A xs) (hk : k < xs.length) : ∃ ad, A = some ad ∧ ad.block < B ∧ w.cell? (ad.add k) = some xs[k] :=
  h k _ (List.getElem?_eq_getElem hk)
theorem Rd.of_own {w : World} {base B : Nat} {e : TypeId} {size n c : Nat} {A : Option Addr} {xs : List Value} (h : OwnX w base e size (.slice A n c) n xs) (hB : w.heap.size ≤ B) : Rd w B A xs := fun i u hu => by
  rcases h.2 with ⟨hv, hn⟩ | ⟨g, cap, cur, fz, hv, hbg, hg, _⟩
  · have := h.1
    rw [hn, Nat.zero_mul] at this
    rw [List.eq_nil_of_length_eq_zero this] at hu
    simp at hu
  · have hA : A = some ⟨g, 0, none⟩ := by injection hv
    subst hA
    exact ⟨_, rfl, by have := (Array.getElem?_eq_some_iff.1 hg).1; show g < B; omega, h.cells (g := g) rfl i u hu⟩
def KeepBut (e : TypeId) (w w' : World) : Prop := w.heap.size ≤ w'.heap.size ∧ ∀ (k : Nat) (cs : Array Value) (t : TypeId) (fz : Nat × Nat), t ≠ e → w.heap[k]? = some (Obj.cells cs t fz) → w'.heap[k]? = some (Obj.cells cs t fz)
theorem keepBut_of_grown {w w' : World} {B : Nat} {e : TypeId} {s n : Nat} {v : Value} {xs : List Value} (hown : OwnX w B e s v n xs) (hg : w.grownBy w' v.ownBlock) : KeepBut e w w' := by
  refine ⟨hg.size, fun k cs t fz ht hk => ?_⟩
  have hlt : k < w.heap.size := (Array.getElem?_eq_some_iff.1 hk).1
  refine (hg.block k hlt fun hb => ?_).trans hk
  rcases hown.2 with ⟨rfl, _⟩ | ⟨g, cap, cur, fz, rfl, _, hgg, _⟩
  · simp [Value.ownBlock] at hb
  · simp [Value.ownBlock] at hb
    subst hb
    rw [hgg] at hk
    simp at hk
    exact ht hk.2.1.symm
theorem heap_keep {e : TypeId} {w w' : World} (h : KeepBut e w w') {k : Nat} {cs : Array Value} {t : TypeId} {fz : Nat × Nat} (ht : t ≠ e) (hk : w.heap[k]? = some (.cells cs t fz)) : w'.heap[k]? = some (.cells cs t fz) := h.2 k cs t fz ht hk
def Alloc1 (w w' : World) : Prop := ∃ o, w' = w.alloc o
theorem heap_alloc1 {w w' : World} (h : Alloc1 w w') {k : Nat} {o : Obj} (hk : w.heap[k]? = some o) : w'.heap[k]? = some o := by
  obtain ⟨o', rfl⟩ := h
  exact (Below.heap_alloc w o' k (Array.getElem?_eq_some_iff.1 hk).1).trans hk
def One (e : TypeId) (y : Value) (x : Value) (w : World) : Prop := ∃ g, x = .slice (some ⟨g, 0, none⟩) 1 1 ∧ w.heap[g]? = some (.cells #[y] e (0, 0))
theorem One.keep {e f : TypeId} {y x : Value} {w w' : World} (h : One e y x w) (hk : KeepBut f w w') (hne : e ≠ f) : One e y x w' := by
  obtain ⟨g, hx, hg⟩ := h; exact ⟨g, hx, heap_keep hk hne hg⟩
theorem One.alloc1 {e : TypeId} {y x : Value} {w w' : World} (h : One e y x w) (hk : Alloc1 w w') : One e y x w' := by
  obtain ⟨g, hx, hg⟩ := h; exact ⟨g, hx, heap_alloc1 hk hg⟩
theorem One.full {e : TypeId} {y x : Value} {w w' : World} (h : One e y x w) (hk : Below w.heap.size w w') : One e y x w' := by
  obtain ⟨g, hx, hg⟩ := h; exact ⟨g, hx, (hk.block g (Array.getElem?_eq_some_iff.1 hg).1).trans hg⟩
theorem One.new (e : TypeId) (y : Value) (w : World) : One e y (.slice (some ⟨w.heap.size, 0, none⟩) 1 1) (w.alloc (.cells #[y] e)) := ⟨_, rfl, heap_alloc_new w _⟩
section
variable {P : Program}
theorem own_grown {w : World} {base e size n m old : Nat} {z : Value} {xs news : List Value} (hx : xs.length = n * size) (hl : news.length = m * size) (hzs : z.cells.size = size) (h63 : n + m ≤ maxLen) (hbase : base ≤ w.heap.size) :
    (w.drew.alloc (.cells (xs.toArray ++ news.toArray ++ Builtin.zeroCells z.cells (grownCap w (n + m) old e - (n + m))) e)).ownsRow base e size
      (.slice (some ⟨w.heap.size, 0, none⟩) (n + m) (grownCap w (n + m) old e)) (n + m) (xs ++ news) := by
  have hge := grownCap_ge w (n + m) old e
  have hcm : grownCap w (n + m) old e ≤ maxLen := grownCap_le_maxLen w (n + m) old e h63
  have hlen : (xs ++ news).length = (n + m) * size := by rw [List.length_append, hx, hl, Nat.add_mul]
  refine ⟨hlen, .inr ⟨w.heap.size, _, _, rfl, hbase, heap_alloc_new w.drew _, hge, hcm, ?_, ?_⟩⟩
  · simp only [Array.size_append, List.size_toArray, size_zeroCells, hzs, hx, hl, ← Nat.add_mul]
    congr 1
    omega
  · simp only [Array.toList_append, List.append_assoc]
    rw [← List.append_assoc, ← hlen]
    exact List.take_left
theorem grown_draw_alloc (w : World) (o : Obj) (r : Option Nat) : w.grownBy (w.drew.alloc o) r := ⟨rfl, rfl, rfl, by simp, fun k hk _ => Below.heap_alloc w.drew o k hk⟩
def App (w : World) (base e size : Nat) (v : Value) (n : Nat) (xs : List Value) (x : Value) (w' : World) : Prop :=
  OwnX w' base e size x n xs ∧ w.grownBy w' v.ownBlock ∧ Next w v x
theorem run_append_x {w : World} {t ty e : TypeId} {size bytes : Nat} (T : SlT P t e size bytes) {base n : Nat} {v : Value} {xs : List Value} (hown : OwnX w base e size v n xs)
    {Ad : Option Addr} {m c : Nat} {news : List Value} (hl : news.length = m * size) (hnews : ∀ j u, news[j]? = some u → ∃ ad, Ad = some ad ∧ w.cell? (ad.add j) = some u) (h1 : ∀ u ∈ news, u.oneCell' = true)
    (h63 : n + m ≤ maxLen) (hbytes : (n + m) * bytes ≤ 140737488355328) (hbase : base ≤ w.heap.size) :
    ∃ A c' w', (Builtin.append_ #[t, t] ty #[v, .slice Ad m c]).run P w = .ok (.slice A (n + m) c') w' ∧ App w base e size v (n + m) (xs ++ news) (.slice A (n + m) c') w' := by
  obtain ⟨i, z, hi, hz, hsz, hby, hzs⟩ := T.info
  by_cases hm : m = 0
  · subst hm
    have hnn : news = [] := List.eq_nil_of_length_eq_zero (by simpa using hl)
    subst hnn
    rcases hown.2 with ⟨rfl, rfl⟩ | ⟨g, cap, cur, fz, rfl, hb, hgg, hnc, rest⟩
    · refine ⟨none, 0, w, ?_, by simpa using hown, World.grownBy.refl _ _, .inl rfl⟩
      cases Ad <;> simp [Builtin.append_, run_underlying T.und, sizeOf, typeInfo, hi, Builtin.lenOf, Builtin.firstCells, loadCells, loadCellsFrom]
    · refine ⟨some ⟨g, 0, none⟩, cap, w, ?_, by simpa using hown, World.grownBy.refl _ _, .inl rfl⟩
      cases Ad <;> simp [Builtin.append_, run_underlying T.und, sizeOf, typeInfo, hi, Builtin.lenOf, Builtin.firstCells, loadCells, loadCellsFrom, hnc, storeCells]
  · have hpos : 0 < news.length := by rw [hl]; exact Nat.mul_pos (by omega) T.pos
    obtain ⟨ad, rfl, _⟩ := hnews 0 _ (List.getElem?_eq_getElem hpos)
    have hcells : ∀ j u, news[j]? = some u → w.cell? (ad.add j) = some u := fun j u hu => by
      obtain ⟨ad', he, hc⟩ := hnews j u hu
      injection he with he
      subst he
      exact hc
    by_cases hf : w.ownsRow base e size v n xs
    · obtain ⟨v', w', hr, h2, h3, _, h5⟩ := run_append_own_at (P := P) w base t ty e i z size bytes T.und hi hz hsz hby hzs T.pos v n xs hf ad m c news hl hcells h1 h63 hbytes hbase
      have hn : Next w v v' := by
        rcases h5 with h5 | h5
        · exact .inl h5
        · exact .inr fun k hk => by rw [h5] at hk; simp at hk; omega
      rcases h2.2 with ⟨_, h0⟩ | ⟨g, cap, cur, rfl, _⟩
      · omega
      · exact ⟨_, _, w', hr, .of h2, h3, hn⟩
    · rcases hown.2 with hnil | ⟨g, cap, cur, fz, rfl, hb, hgg, hnc, hcm, hcs, htk, hfz⟩
      · exact absurd ⟨hown.1, .inl hnil⟩ hf
      · rcases hfz with rfl | rfl
        · exact absurd ⟨hown.1, .inr ⟨g, cap, cur, rfl, hb, hgg, hnc, hcm, hcs, htk⟩⟩ hf
        · have holds := hown.cells (g := g) rfl
          subst hsz
          subst hby
          have hr := run_append_grow (P := P) w t ty e i z T.und hi hz ⟨g, 0, none⟩ cap cap xs hown.1 holds ad m c news hl hcells (by omega) (by simp only [maxLen] at h63; omega) (growslice_fits (by omega) hbytes)
          exact ⟨_, _, _, hr, .of (own_grown hown.1 hl hzs h63 hbase), grown_draw_alloc _ _ _, .inr fun k hk => by simp [Value.ownBlock] at hk; omega⟩
theorem wpList_of_append {w : World} {ops : Array Oper} {rest : List Oper} {o : Oper} {a : Act} {Q : Exit → Act → World → Prop} {sl x : Operand} {t u : TypeId} {v y : Value} {R : Value → World → Prop}
    (hgd : o.guard = none) (ho : o.op = .call { callee := .builtin .append, args := #[sl, x], argTypes := #[t, u] }) (hs : a.eval sl = v) (hx : a.eval x = y)
    (hrun : ∃ v' w', (Builtin.append_ #[t, u] o.type #[v, y]).run P w = .ok v' w' ∧ R v' w') (h : ∀ v' w', R v' w' → wpList P ops Q rest (a.put o.dst v') w') :
    wpList P ops Q (o :: rest) a w := by
  refine wpList_plain hgd fun K hK => ?_
  obtain ⟨v', w', hr, h2⟩ := hrun
  unfold Oper.wp execOp
  simp only [ho, resolve, invoke, builtin, Sem.run_bind, Sem.run_pure, Result.andThen_ok, List.map_toArray, List.map_cons, List.map_nil, hs, hx, hr]
  exact hK _ _ (h v' w' h2)
theorem wpList_append_one {w0 : World} {y : Value} {ops : Array Oper} {rest : List Oper} {o : Oper} {a : Act} {Q : Exit → Act → World → Prop} {s x : Operand} {t e : TypeId} {bytes : Nat} (T : SlT P t e 1 bytes)
    (hgd : o.guard = none) (ho : o.op = .call { callee := .builtin .append, args := #[s, x], argTypes := #[t, t] })
    {base n : Nat} {v : Value} {xs : List Value} {ad : Nat} (hown : OwnX w0 base e 1 v n xs) (hs : a.eval s = v) (hx : a.eval x = .slice (some ⟨ad, 0, none⟩) 1 1) (had : ad = w0.heap.size)
    (hy : y.oneCell' = true)
    (h63 : n + 1 ≤ maxLen) (hbytes : (n + 1) * bytes ≤ 140737488355328) (hbase : base ≤ w0.heap.size)
    (h : ∀ A c w', OwnX w' base e 1 (.slice A (n + 1) c) (n + 1) (xs ++ [y]) → w0.grownBy w' v.ownBlock → Next w0 v (.slice A (n + 1) c) → wpList P ops Q rest (a.put o.dst (.slice A (n + 1) c)) w') :
    wpList P ops Q (o :: rest) a (w0.alloc (.cells #[y] e)) := by
  subst had
  obtain ⟨A, c, w', hr, h2, h3, h4⟩ := run_append_x (ty := o.type) (c := 1) (Ad := some ⟨w0.heap.size, 0, none⟩) T (hown.alloc (.cells #[y] e)) (news := [y]) (m := 1) rfl (fun j u hu => ⟨_, rfl, cell_one_new _ _ _ j u hu⟩)
    (by intro u hu; simp at hu; subst hu; exact hy) h63 hbytes (by simp; omega)
  refine wpList_of_append (R := fun v' w1 => v' = .slice A (n + 1) c ∧ w1 = w') hgd ho hs hx ⟨_, _, hr, rfl, rfl⟩ ?_
  rintro v' w1 ⟨rfl, rfl⟩
  exact h _ _ _ h2 ((World.grownBy_alloc w0 _ _).trans h3) (h4.back (by simp))
theorem wpList_append_rd {w : World} {ops : Array Oper} {rest : List Oper} {o : Oper} {a : Act} {Q : Exit → Act → World → Prop} {sl x : Operand} {t e : TypeId} {size bytes : Nat} (T : SlT P t e size bytes)
    (hgd : o.guard = none) (ho : o.op = .call { callee := .builtin .append, args := #[sl, x], argTypes := #[t, t] })
    {base n B : Nat} {v : Value} {xs : List Value} {Ad : Option Addr} {m cx : Nat} {news : List Value} (hown : OwnX w base e size v n xs) (hs : a.eval sl = v) (hx : a.eval x = .slice Ad m cx)
    (hl : news.length = m * size) (hr : Rd w B Ad news) (h1 : ∀ u ∈ news, u.oneCell' = true)
    (h63 : n + m ≤ maxLen) (hbytes : (n + m) * bytes ≤ 140737488355328) (hbase : base ≤ w.heap.size)
    (h : ∀ A c w', OwnX w' base e size (.slice A (n + m) c) (n + m) (xs ++ news) → w.grownBy w' v.ownBlock → Next w v (.slice A (n + m) c) → wpList P ops Q rest (a.put o.dst (.slice A (n + m) c)) w') :
    wpList P ops Q (o :: rest) a w := by
  obtain ⟨A, c, w', hr, h2, h3, h4⟩ := run_append_x (ty := o.type) (c := cx) T hown hl (fun j u hu => by
    obtain ⟨ad, h1, _, h3⟩ := hr j u hu
    exact ⟨ad, h1, h3⟩) h1 h63 hbytes hbase
  refine wpList_of_append (R := fun v' w1 => v' = .slice A (n + m) c ∧ w1 = w') hgd ho hs hx ⟨_, _, hr, rfl, rfl⟩ ?_
  rintro v' w1 ⟨rfl, rfl⟩
  exact h _ _ _ h2 h3 h4
theorem own_const {w : World} {e : TypeId} {C : Array Value} {n g base : Nat} {fz : Nat × Nat} (hg : g = w.heap.size) (hn : C.size = n) (hm : n ≤ maxLen) (hb : base ≤ w.heap.size) :
    OwnX (w.alloc (.cells C e fz)) base e 1 (.slice (some ⟨g, 0, none⟩) n n) n C.toList := by
  subst hg
  exact ⟨by simp [hn], .inr ⟨w.heap.size, n, C, fz, rfl, hb, heap_alloc_new w _, Nat.le_refl _, hm, by omega, by rw [Nat.mul_one, ← hn, ← Array.length_toList]; exact List.take_length, .inr rfl⟩⟩
end
end Go.Proofs.Ytcnebbhnpocofaa
/-
  Opening arguments; what a law's row asks of a walk that leaves old memory as it was.
-/
namespace Go.Proofs.Ytcnebbhnpocofaa
set_option linter.unusedSimpArgs false
set_option linter.unusedVariables false
open Go.ChangeShapes Go.WideShapes Go.ChangeAt Go.RowKit Go.Joins
open Go.WideMaps Go.WideElems
open Go.ChangeMaps (open_string shut_string)
theorem own : ownKnob Try.prog.godebug = none := by kernel_rfl
theorem laidOut : laidOutB Try.prog = true := by kernel_rfl
section
variable {H : Type} {enc : TypeId × Value → H} {P : Program}
theorem post_of_below {f : Func} {s : ChangeSpec} {apart fresh handsOn again : Bool} {W W' : World} {args : Array Value} {v : Value} {ds gs : List (DataW H)} {before pa pv : List MemPlace}
    (hW : DataW.Whole enc P f.params.toList s.vars apart W args.toList ds gs before)
    (hres : ∀ (b : Nat) (sp : Nat → Bool) (hd : Bool), DataW.TrodAll enc P W' b sp hd f.resultTypes.toList (v.resultList f.resultTypes.size) (s.fn H (ds ++ gs)).results [])
    (hargs : ∀ sp : Nat → Bool, (∀ p ∈ before, sp p.block = true) → DataW.TrodAll enc P W' 0 sp true f.params.toList args.toList (s.fn H (ds ++ gs)).args pa)
    (hvars : ∀ sp : Nat → Bool, (∀ p ∈ before, sp p.block = true) → DataW.TrodVars enc P W' sp s.vars (s.fn H (ds ++ gs)).vars pv)
    (hps : before = pa ++ pv) (hb : Below W.heap.size W W')
    (hok : ∀ (j : Nat) (t : TypeId) (r : Value), f.resultTypes[j]? = some t → (v.resultList f.resultTypes.size)[j]? = some r → Value.okWide P W' .any 0 t r) :
    s.post enc P f apart fresh handsOn again W args v W' := by
  have hlt : ∀ p ∈ before, p.block < W.heap.size := fun p hp => hW.lt p hp
  have hold : ∀ p ∈ before, (fun b => decide (b < W.heap.size)) p.block = true := fun p hp => by simpa using hlt p hp
  refine ⟨ds, gs, before, [], pa, pv, hW, hres _ _ _, hargs _ hold, hvars _ hold, World.keptBut_mono (fun p hp => ⟨hp, ?_⟩) (hb.frame (· ∈ before)), fun _ => ?_⟩
  · rw [hps, List.mem_append] at hp
    exact Or.inr hp
  · obtain ⟨_, _, _, _, _, hz, hn⟩ := hW
    refine ⟨hok, _, _, ([] ++ pa) ++ pv, ⟨[] ++ pa, pv, trodAll_append (hargs _ (fun _ _ => rfl)) (hres _ _ _), hvars _ (fun _ _ => rfl), rfl, ?_, ?_⟩, ?_⟩
    · intro b off hp
      have hin : MemPlace.cell b off ∈ before := by rw [hps]; simpa using hp
      rw [hb.frozen (hlt _ hin)]
      exact hz b off hin
    · intro ha
      have := hn ha
      rw [hps] at this
      simpa using this
    · intro p hp _
      rw [hps]
      simpa using hp
theorem stays {t : TypeId} (hl : laidOutB P = true) (hr : P.readableRec t = true) (hrow : t < P.types.size) {W W' : World} {v : Value} {d : DataW H} {ps : List MemPlace}
    (h : DataW.Trod enc P W 0 (fun _ => true) true t v d ps) (hb : Below W.heap.size W W') (hlt : ∀ x ∈ ps, x.block < W.heap.size) {sp : Nat → Bool} (hsp : ∀ x ∈ ps, sp x.block = true) :
    DataW.Trod enc P W' 0 sp true t v d ps :=
  WideElems.Trod_stays hl hr hrow h (fun x hx => hb.same (hlt x hx)) hsp
section
variable {w : World} {base : Nat} {spare : Nat → Bool} {held : Bool}
open Go.Deep
theorem open_agg6 {r : Reach} {b0 : Nat} {t : TypeId} {f0 f1 f2 f3 f4 f5 : Field} {v : Value} {d : DataW H} {p : List MemPlace} (hs : P.underlying t = some (.struct #[f0, f1, f2, f3, f4, f5])) (hone : oneCellFields P #[f0, f1, f2, f3, f4, f5] = true) (hC : P.cellsOf t = 6)
    (hv : Value.okWide P w r b0 t v) (h : DataW.Trod enc P w base spare held t v d p) :
    ∃ (v0 v1 v2 v3 v4 v5 : Value) (y0 y1 y2 y3 y4 y5 : DataW H × List MemPlace) (n : Nat), v = .agg #[v0, v1, v2, v3, v4, v5] ∧ d = .agg [y0.1, y1.1, y2.1, y3.1, y4.1, y5.1] ∧ p = y0.2 ++ (y1.2 ++ (y2.2 ++ (y3.2 ++ (y4.2 ++ y5.2)))) ∧
      DataW.trod enc P w base spare held n f0.type [v0] = some y0 ∧ DataW.trod enc P w base spare held n f1.type [v1] = some y1 ∧ DataW.trod enc P w base spare held n f2.type [v2] = some y2 ∧ DataW.trod enc P w base spare held n f3.type [v3] = some y3 ∧ DataW.trod enc P w base spare held n f4.type [v4] = some y4 ∧ DataW.trod enc P w base spare held n f5.type [v5] = some y5 := by
  obtain ⟨cs, rfl, hsz⟩ := okWide_struct hs hv
  obtain ⟨l⟩ := cs
  match l, hsz.trans hC with
  | [c0, c1, c2, c3, c4, c5], _ =>
    obtain ⟨fuel, hf⟩ := h
    obtain ⟨xs, n, _, hx, _, hlen, hg⟩ := DataW.trod_struct hs hf
    obtain ⟨o0, k0⟩ := hone_of hone 0 f0 rfl
    obtain ⟨o1, k1⟩ := hone_of hone 1 f1 rfl
    obtain ⟨o2, k2⟩ := hone_of hone 2 f2 rfl
    obtain ⟨o3, k3⟩ := hone_of hone 3 f3 rfl
    obtain ⟨o4, k4⟩ := hone_of hone 4 f4 rfl
    obtain ⟨o5, k5⟩ := hone_of hone 5 f5 rfl
    match xs, hlen with
    | [y0, y1, y2, y3, y4, y5], _ =>
      simp only [Prod.mk.injEq] at hx
      exact ⟨c0, c1, c2, c3, c4, c5, y0, y1, y2, y3, y4, y5, n, rfl, by simpa using hx.1, by simpa using hx.2, by simpa [Value.cells, o0, k0] using hg 0 f0 rfl, by simpa [Value.cells, o1, k1] using hg 1 f1 rfl, by simpa [Value.cells, o2, k2] using hg 2 f2 rfl, by simpa [Value.cells, o3, k3] using hg 3 f3 rfl, by simpa [Value.cells, o4, k4] using hg 4 f4 rfl, by simpa [Value.cells, o5, k5] using hg 5 f5 rfl⟩
end
theorem open_strs_rd {t e : TypeId} {fuel : Nat} {cs : List Value} {x : DataW H × List MemPlace} {W : World} {base : Nat} {sp : Nat → Bool} {held : Bool} (ht : P.underlying t = some (.slice e)) (he : P.underlying e = some .string) (hc : P.cellsOf e = 1)
    (h : DataW.trod enc P W base sp held fuel t cs = some x) : ∃ (A : Option Addr) (c : Nat) (l : List ByteArray), cs = [.slice A l.length c] ∧ l.length ≤ c ∧ l.length ≤ maxLen ∧ Rd W W.heap.size A (l.map Value.string) ∧ (∀ s ∈ l, s.size ≤ maxLen) := by
  rcases open_strings ht he hc h with ⟨rfl, _⟩ | ⟨a, len, cap, ss, rfl, _, hl, hm, hz, _, hcell, hs⟩
  · exact ⟨none, 0, [], rfl, Nat.le_refl _, Nat.zero_le _, Rd.nil _ _ _, fun s hs => by simp at hs⟩
  · have hlen : len ≤ ss.length := by rw [hz]; split <;> omega
    refine ⟨some a, cap, ss.take len, by rw [List.length_take, Nat.min_eq_left hlen], by rw [List.length_take]; omega, by rw [List.length_take]; omega, fun i u hu => ?_, fun s hs' => hs s (List.mem_of_mem_take hs')⟩
    rw [List.getElem?_map] at hu
    obtain ⟨s, hs1, rfl⟩ := Option.map_eq_some_iff.1 hu
    have hi : i < (ss.take len).length := (List.getElem?_eq_some_iff.1 hs1).1
    rw [List.length_take] at hi
    have hcl := hcell i (by omega)
    rw [List.getElem?_take, if_pos (by omega)] at hs1
    have e1 : ss.getD i ByteArray.empty = s := by simp [List.getD, hs1]
    rw [e1] at hcl
    refine ⟨a, rfl, ?_, hcl⟩
    have := World.block_lt_of_cell? W _ hcl
    rwa [block_of_add] at this
end
end Go.Proofs.Ytcnebbhnpocofaa
/-
  Laws of my own on structs that lie in a block of the call's own: whole and field by field; a result that is such a struct.
-/
namespace Go.Proofs.Ytcnebbhnpocofaa
set_option linter.unusedSimpArgs false
set_option linter.unusedVariables false
open Go.RowKit
def Blk (w : World) (g : Nat) (t : TypeId) (cs : Array Value) : Prop := w.heap[g]? = some (.cells cs t (0, 0))
section
variable {w w' : World} {g : Nat} {t : TypeId} {cs : Array Value}
theorem Blk.lt (h : Blk w g t cs) : g < w.heap.size := (Array.getElem?_eq_some_iff.1 h).1
theorem Blk.cell (h : Blk w g t cs) (i : Nat) : w.cell? ⟨g, i, none⟩ = cs[i]? := cell_of_row w g i cs t (0, 0) h
theorem Blk.free (h : Blk w g t cs) (i : Nat) : w.frozen? ⟨g, i, none⟩ = false := by
  unfold Blk at h
  simp [World.frozen?, h]
theorem Blk.new (w : World) (t : TypeId) (cs : Array Value) : Blk (w.alloc (.cells cs t)) w.heap.size t cs := heap_alloc_new w _
theorem Blk.alloc (h : Blk w g t cs) (o : Obj) : Blk (w.alloc o) g t cs := (Below.heap_alloc w o g h.lt).trans h
theorem Blk.below {B : Nat} (h : Blk w g t cs) (hb : Below B w w') (hg : g < B) : Blk w' g t cs := (hb.block g hg).trans h
theorem Blk.grown {row : Option Nat} (h : Blk w g t cs) (hb : w.grownBy w' row) (hg : some g ≠ row) : Blk w' g t cs := (hb.block g h.lt hg).trans h
theorem Blk.keep {e : TypeId} (h : Blk w g t cs) (hk : KeepBut e w w') (hne : t ≠ e) : Blk w' g t cs := heap_keep hk hne h
theorem Blk.alloc1 (h : Blk w g t cs) (hk : Alloc1 w w') : Blk w' g t cs := heap_alloc1 hk h
theorem own_ne_blk {B : Nat} {e : TypeId} {s n : Nat} {v : Value} {xs : List Value} (ho : OwnX w B e s v n xs) (h : Blk w g t cs) (hne : t ≠ e) : v.ownBlock ≠ some g := by
  intro hb
  rcases ho.2 with ⟨rfl, _⟩ | ⟨g', cap, cur, fz, rfl, _, hgg, _⟩
  · simp [Value.ownBlock] at hb
  · simp [Value.ownBlock] at hb
    subst hb
    unfold Blk at h
    rw [hgg] at h
    simp at h
    exact hne h.2.1.symm
end
theorem Rd.of_blk {w : World} {g B : Nat} {t : TypeId} {l : List Value} (h : Blk w g t l.toArray) (hB : g < B) : Rd w B (some ⟨g, 0, none⟩) l := fun i u hu => by
  refine ⟨_, rfl, hB, ?_⟩
  have hadd : (⟨g, 0, none⟩ : Addr).add i = ⟨g, i, none⟩ := by unfold Addr.add; split <;> simp_all
  rw [hadd, h.cell i]
  simpa using hu
structure Wrote (g : Nat) (w w' : World) : Prop where
  grown : w.grownBy w' (some g)
  size : w'.heap.size = w.heap.size
theorem Wrote.below {B g : Nat} {a w w' : World} (h : Wrote g w w') (hb : Below B a w) (hg : B ≤ g) (hB : B ≤ w.heap.size) : Below B a w' := hb.grown h.grown hB fun k hk => by injection hk with hk; omega
theorem Wrote.own {g : Nat} {w w' : World} {B : Nat} {e : TypeId} {s n : Nat} {v : Value} {xs : List Value} (h : Wrote g w w') (ho : OwnX w B e s v n xs) (hne : v.ownBlock ≠ some g) : OwnX w' B e s v n xs := ho.kept h.grown (.inr hne)
theorem Wrote.blk {g g' : Nat} {w w' : World} {t : TypeId} {cs : Array Value} (h : Wrote g w w') (hb : Blk w g' t cs) (hne : g' ≠ g) : Blk w' g' t cs := hb.grown h.grown (by simpa using hne)
theorem wrote_setRow (w : World) (g : Nat) (cs : Array Value) : Wrote g w (w.setRow g cs) :=
  ⟨⟨rfl, rfl, rfl, by simp, fun k _ hk => setRow_other w g k _ (fun e => hk (by rw [e]))⟩, by simp⟩
section
variable {P : Program}
theorem wpList_put_box {w : World} {ops : Array Oper} {rest : List Oper} {o : Oper} {a : Act} {Q : Exit → Act → World → Prop} {ty : TypeId} {x y : Operand} {g : Nat} {cells old : Array Value} {t : TypeId}
    (hg : Blk w g t old) (hgd : o.guard = none) (ho : o.op = .store ty x y) (hx : a.eval x = .pointer (some ⟨g, 0, none⟩)) (hy : a.eval y = .agg cells)
    (hi : (P.info? ty).map (·.size) = some cells.size) (hold : old.size = cells.size) (h1 : cells.all (·.oneCell') = true)
    (h : ∀ w', Blk w' g t cells → Wrote g w w' → wpList P ops Q rest (a.put o.dst undef) w') : wpList P ops Q (o :: rest) a w :=
  wpList_store_row hgd ty x y ho g cells hx hy t old hg hi hold h1 (h _ (setRow_heap w g old cells t (0, 0) hg) (wrote_setRow w g cells))
theorem wpList_get_box {w : World} {ops : Array Oper} {rest : List Oper} {o : Oper} {a : Act} {Q : Exit → Act → World → Prop} {ty : TypeId} {x : Operand} {g : Nat} {cs : Array Value} {t : TypeId} {d : TypeDesc}
    (hg : Blk w g t cs) (hgd : o.guard = none) (ho : o.op = .load ty x) (hx : a.eval x = .pointer (some ⟨g, 0, none⟩))
    (hu : P.underlying ty = some d) (hd : (match d with | .struct _ | .array _ _ => true | _ => false) = true) (hi : (P.info? ty).map (·.size) = some cs.size)
    (h : wpList P ops Q rest (a.put o.dst (.agg cs)) w) : wpList P ops Q (o :: rest) a w :=
  wpList_load_row hgd ty x ho g hx t cs (0, 0) d hg hu hd hi h
theorem results_box {fn : Func} {p : Tmp} {ty : TypeId} (h : fn.results = #[.cell p ty]) {tmps : Array Value} {w : World} {g : Nat} {cs : Array Value} {t : TypeId} {d : TypeDesc} (hp : tmps.getD p undef = .pointer (some ⟨g, 0, none⟩))
    (hg : Blk w g t cs) (hu : P.underlying ty = some d) (hd : (match d with | .struct _ | .array _ _ => true | _ => false) = true) (hi : (P.info? ty).map (·.size) = some cs.size) :
    (results fn tmps).run P w = .ok (.agg cs) w := by
  have hl := run_loadVar_row (P := P) w g t ty cs (0, 0) d hg hu hd hi
  have hp' : tmps[p]?.getD undef = .pointer (some ⟨g, 0, none⟩) := by simpa using hp
  simp only [results, h]
  simp [Sem.run_bind, Result.andThen, hp', asAddr, hl]
theorem results_box_tmp {fn : Func} {p u : Tmp} {ty : TypeId} (h : fn.results = #[.cell p ty, .tmp u]) {tmps : Array Value} {w : World} {g : Nat} {cs : Array Value} {t : TypeId} {d : TypeDesc} (hp : tmps.getD p undef = .pointer (some ⟨g, 0, none⟩))
    (hg : Blk w g t cs) (hu : P.underlying ty = some d) (hd : (match d with | .struct _ | .array _ _ => true | _ => false) = true) (hi : (P.info? ty).map (·.size) = some cs.size) :
    (results fn tmps).run P w = .ok (.tuple #[.agg cs, tmps.getD u undef]) w := by
  have hl := run_loadVar_row (P := P) w g t ty cs (0, 0) d hg hu hd hi
  have hp' : tmps[p]?.getD undef = .pointer (some ⟨g, 0, none⟩) := by simpa using hp
  simp only [results, h]
  simp [Sem.run_bind, Result.andThen, hp', asAddr, hl]
theorem run_store_cell {w : World} {ty : TypeId} {g i : Nat} {v : Value} {cs : Array Value} {t : TypeId} (hg : Blk w g t cs) (hi : (P.info? ty).map (·.size) = some 1) (hlt : i < cs.size) (h1 : v.oneCell' = true) :
    (storeVar ty ⟨g, i, none⟩ v).run P w = .ok () (w.setRow g (cs.setIfInBounds i v)) := by
  have hc1 : v.cells = #[v] := by cases v <;> first | rfl | simp [Value.oneCell'] at h1
  have hst := run_storeCells_at P g i t [v] 0 cs w hg (by simp; omega) (by intro u hu; simp at hu; subst hu; exact h1)
  cases hq : P.info? ty with
  | none => simp [hq] at hi
  | some j =>
    have hj : j.size = 1 := by simpa [hq] using hi
    have e : (cs.toList.take (i + 0) ++ [v] ++ cs.toList.drop (i + 0 + [v].length)).toArray = cs.setIfInBounds i v := by
      apply Array.ext'
      simp only [Nat.add_zero, List.length_cons, List.length_nil, Array.toList_setIfInBounds]
      rw [List.set_eq_take_append_cons_drop, if_pos (by simpa using hlt)]
      simp
    rw [e] at hst
    simp [storeVar, hc1, sizeOf, typeInfo, hq, hj, hst]
theorem wpList_put_cell {w : World} {ops : Array Oper} {rest : List Oper} {o : Oper} {a : Act} {Q : Exit → Act → World → Prop} {ty : TypeId} {x y : Operand} {g i : Nat} {v : Value} {cs : Array Value} {t : TypeId}
    (hg : Blk w g t cs) (hgd : o.guard = none) (ho : o.op = .store ty x y) (hx : a.eval x = .pointer (some ⟨g, i, none⟩)) (hy : a.eval y = v)
    (hi : (P.info? ty).map (·.size) = some 1) (hlt : i < cs.size) (h1 : v.oneCell' = true)
    (h : ∀ w', Blk w' g t (cs.setIfInBounds i v) → Wrote g w w' → wpList P ops Q rest (a.put o.dst undef) w') : wpList P ops Q (o :: rest) a w := by
  refine wpList_plain hgd fun K hK => ?_
  have hr := run_store_cell (P := P) (ty := ty) hg hi hlt h1
  unfold Oper.wp execOp
  simp only [ho, hx, hy, Instr.storeAt, Instr.sureAddr, Sem.run_bind, Sem.run_pure, Result.andThen_ok, hr]
  exact hK _ _ (h _ (setRow_heap w g cs _ t (0, 0) hg) (wrote_setRow w g _))
end
end Go.Proofs.Ytcnebbhnpocofaa
/-
  Regions that draw their order, by one step for each operation: each operation is shown, in whatever world, to give what is said of it out of what is said of those that it waits for; what is said stays under the others' steps.
-/
namespace Go.Proofs.Ytcnebbhnpocofaa
set_option linter.unusedSimpArgs false
set_option linter.unusedVariables false
section
variable {P : Program} {ops : Array Oper}
def dstAt (ops : Array Oper) (i : Nat) : Option Tmp := (ops[i]?).bind (·.dst)
def waitsOf (ops : Array Oper) (i : Nat) : List Nat :=
  match ops[i]? with
  | some o => o.after.toList.filterMap fun e => if Region.binds .any e then some e.on else none
  | none => []
def putAll (ops : Array Oper) (vals : Nat → Value) : List Nat → Act → Act
  | [], a => a
  | j :: r, a => putAll ops vals r (a.put (dstAt ops j) (vals j))
def regionOk (ops : Array Oper) : Bool :=
  (List.range ops.size).all fun i =>
    match ops[i]? with
    | none => false
    | some o =>
      (match o.op with | .select .. => false | _ => true) &&
      (waitsOf ops i).all (· < i) &&
      (o.looksAt ops).all (fun t => (List.range ops.size).all fun j => dstAt ops j != some t || (waitsOf ops i).contains j || (waitsOf ops j).contains i) &&
      (match o.guard with | some (g, _) => (waitsOf ops i).contains g | none => true) &&
      (List.range ops.size).all fun j => j == i || dstAt ops i == none || dstAt ops j != dstAt ops i
def deepWaits (ops : Array Oper) : Nat → Nat → List Nat
  | 0, i => waitsOf ops i
  | f + 1, i => waitsOf ops i ++ (waitsOf ops i).flatMap (deepWaits ops f)
theorem deep_listed {ops : Array Oper} {L : Nat → Prop} (hc : ∀ j, L j → ∀ i ∈ waitsOf ops j, L i) : ∀ (f j : Nat), L j → ∀ i ∈ deepWaits ops f j, L i
  | 0, j, hj, i, hi => hc j hj i hi
  | f + 1, j, hj, i, hi => by
    rcases List.mem_append.1 hi with h | h
    · exact hc j hj i h
    · obtain ⟨k, hk, hik⟩ := List.mem_flatMap.1 h
      exact deep_listed hc f k (hc j hj k hk) i hik
def availAt (ops : Array Oper) (kills : Nat → Nat → Bool) (j i : Nat) : Bool :=
  (waitsOf ops i).contains j && (List.range ops.size).all fun k => k == i || k == j || !kills k j || (deepWaits ops 5 k).contains i
def availIni (ops : Array Oper) (ik : Nat → Bool) (i : Nat) : Bool :=
  (List.range ops.size).all fun k => k == i || !ik k || (deepWaits ops 5 k).contains i
def aliveAt (ops : Array Oper) (kills : Nat → Nat → Bool) (j : Nat) : Bool :=
  (List.range ops.size).all fun k => k == j || !kills k j
theorem put_size (a : Act) (d : Option Tmp) (v : Value) : (a.put d v).tmps.size = a.tmps.size := by cases d <;> simp [Act.put]
theorem put_defers (a : Act) (d : Option Tmp) (v : Value) : (a.put d v).defers = a.defers := by cases d <;> rfl
theorem put_at (a : Act) (d : Tmp) (v : Value) (h : d < a.tmps.size) : (a.put (some d) v).tmps[d]? = some v := by simp [Act.put, h]
theorem put_other (a : Act) (d : Option Tmp) (v : Value) (t : Tmp) (h : d ≠ some t) : (a.put d v).tmps[t]? = a.tmps[t]? := by
  cases d with
  | none => rfl
  | some d => simp [Act.put, Array.getElem?_setIfInBounds_ne (show d ≠ t from fun e => h (by rw [e]))]
structure OkAt (ops : Array Oper) (i : Nat) (o : Oper) : Prop where
  sel : ∀ cs b, o.op ≠ .select cs b
  before : ∀ j ∈ waitsOf ops i, j < i
  look : ∀ t ∈ o.looksAt ops, ∀ j, dstAt ops j = some t → j ∈ waitsOf ops i ∨ i ∈ waitsOf ops j
  guard : ∀ g b, o.guard = some (g, b) → g ∈ waitsOf ops i
  dist : ∀ j, j ≠ i → ∀ d, dstAt ops i = some d → dstAt ops j ≠ some d
theorem dst_lt {j : Nat} {d : Tmp} (h : dstAt ops j = some d) : j < ops.size := by
  rcases Nat.lt_or_ge j ops.size with h' | h'
  · exact h'
  · simp [dstAt, Array.getElem?_eq_none h'] at h
theorem okAt (hok : regionOk ops = true) {i : Nat} {o : Oper} (ho : ops[i]? = some o) : OkAt ops i o := by
  have hi : i < ops.size := (Array.getElem?_eq_some_iff.1 ho).1
  have h := (List.all_eq_true.1 hok) i (List.mem_range.2 hi)
  simp only [ho, Bool.and_eq_true] at h
  obtain ⟨⟨⟨⟨h1, h2⟩, h3⟩, h4⟩, h5⟩ := h
  refine ⟨fun cs b e => by simp [e] at h1, fun j hj => by simpa using (List.all_eq_true.1 h2) j hj, fun t ht j hj => ?_, fun g b hg => ?_, fun j hj d hd => ?_⟩
  · have := (List.all_eq_true.1 ((List.all_eq_true.1 h3) t ht)) j (List.mem_range.2 (dst_lt hj))
    simpa [hj] using this
  · rw [hg] at h4
    simpa using h4
  · intro e
    have := (List.all_eq_true.1 h5) j (List.mem_range.2 (dst_lt e))
    simp [hj, hd, e] at this
theorem putAll_look (hdist : ∀ i j d, i ≠ j → dstAt ops i = some d → dstAt ops j ≠ some d) (vals : Nat → Value) : ∀ (l : List Nat) (a : Act),
    (putAll ops vals l a).tmps.size = a.tmps.size ∧ (putAll ops vals l a).defers = a.defers ∧
    (∀ j ∈ l, ∀ d, dstAt ops j = some d → d < a.tmps.size → (putAll ops vals l a).tmps[d]? = some (vals j)) ∧
    (∀ t, (∀ j ∈ l, dstAt ops j ≠ some t) → (putAll ops vals l a).tmps[t]? = a.tmps[t]?)
  | [], a => ⟨rfl, rfl, fun j hj => by simp at hj, fun _ _ => rfl⟩
  | j :: r, a => by
    obtain ⟨h1, h2, h3, h4⟩ := putAll_look hdist vals r (a.put (dstAt ops j) (vals j))
    simp only [putAll]
    refine ⟨h1.trans (put_size _ _ _), h2.trans (put_defers _ _ _), fun k hk d hd hlt => ?_, fun t ht => ?_⟩
    · by_cases hkr : k ∈ r
      · exact h3 k hkr d hd (by rw [put_size]; exact hlt)
      · have hkj : k = j := by
          rcases List.mem_cons.1 hk with h | h
          · exact h
          · exact absurd h hkr
        subst hkj
        rw [h4 d (fun m hm e => hdist k m d (fun e' => hkr (e' ▸ hm)) hd e), hd]
        exact put_at a d _ hlt
    · rw [h4 t (fun m hm => ht m (List.mem_cons_of_mem _ hm))]
      exact put_other a _ _ t (ht j (List.mem_cons_self ..))
def upd (vals : Nat → Value) (i : Nat) (v : Value) : Nat → Value := fun k => if k = i then v else vals k
structure RI (ops : Array Oper) (a0 : Act) (C : World → Prop) (I0 : Bool → World → Prop) (ik : Bool → Nat → Bool) (F : Nat → (Nat → Value) → World → Prop) (kills : Nat → Nat → Bool) (listed : Array Bool) (a : Act) (w : World) (vals : Nat → Value) : Prop where
  size : listed.size = ops.size
  tsize : a.tmps.size = a0.tmps.size
  defers : a.defers = a0.defers
  done : ∀ j, listed.getD j false = true → ∀ d, dstAt ops j = some d → d < a0.tmps.size → a.tmps[d]? = some (vals j)
  other : ∀ t, (∀ j, listed.getD j false = true → dstAt ops j ≠ some t) → a.tmps[t]? = a0.tmps[t]?
  closed : ∀ j, listed.getD j false = true → ∀ i ∈ waitsOf ops j, listed.getD i false = true
  c : C w
  ini : ∀ m, (∀ k, listed.getD k false = true → ik m k = false) → I0 m w
  facts : ∀ j, listed.getD j false = true → (∀ k, listed.getD k false = true → k ≠ j → kills k j = false) → F j vals w
theorem mem_waits {i j : Nat} {o : Oper} (ho : ops[i]? = some o) : j ∈ waitsOf ops i ↔ ∃ e ∈ o.after, Region.binds .any e = true ∧ e.on = j := by
  simp [waitsOf, ho]
theorem getD_set_self (l : Array Bool) (i : Nat) (h : i < l.size) : (l.setIfInBounds i true).getD i false = true := by simp [h]
theorem getD_set_other (l : Array Bool) {i j : Nat} (h : i ≠ j) : (l.setIfInBounds i true).getD j false = l.getD j false := by
  simp [Array.getElem?_setIfInBounds_ne h]
def StepAt (P : Program) (ops : Array Oper) (a0 : Act) (C : World → Prop) (I0 : Bool → World → Prop) (ik : Bool → Nat → Bool) (F : Nat → (Nat → Value) → World → Prop) (St : Nat → World → World → Prop) (kills : Nat → Nat → Bool) (i : Nat) (o : Oper) : Prop :=
  ∀ (w : World) (vals : Nat → Value), C w → (∀ m, availIni ops (ik m) i = true → I0 m w) → (∀ j, availAt ops kills j i = true → F j vals w) →
    wpList P ops (fun e a' w' => e = .normal ∧ ∃ v, a' = (putAll ops vals (waitsOf ops i) a0).put o.dst v ∧ F i (upd vals i v) w' ∧ C w' ∧ St i w w') [o] (putAll ops vals (waitsOf ops i) a0) w
theorem RI.step {a0 : Act} {C : World → Prop} {I0 : Bool → World → Prop} {ik : Bool → Nat → Bool} {F : Nat → (Nat → Value) → World → Prop} {St : Nat → World → World → Prop} {kills : Nat → Nat → Bool} {Q : Exit → Act → World → Prop}
    (hok : regionOk ops = true) (hini : ∀ m i, ik m i = false → ∀ w w', St i w w' → I0 m w → I0 m w') (hpres : ∀ i k, i < ops.size → i ≠ k → kills i k = false → (deepWaits ops 5 k).contains i = false → ∀ vals v w w', St i w w' → F k vals w → F k (upd vals i v) w')
    (hstep : ∀ i o, ops[i]? = some o → StepAt P ops a0 C I0 ik F St kills i o)
    {listed : Array Bool} {a : Act} {w : World} {vals : Nat → Value} (h : RI ops a0 C I0 ik F kills listed a w vals) {i : Nat} (hi : i ∈ Region.ready .any ops listed) :
    wpOp P ops Q i (fun a' w' => ∃ vals', RI ops a0 C I0 ik F kills (listed.setIfInBounds i true) a' w' vals') a w := by
  obtain ⟨hun, o, ho, hall⟩ := mem_ready.1 hi
  have hlt : i < ops.size := (Array.getElem?_eq_some_iff.1 ho).1
  have hltl : i < listed.size := by rw [h.size]; exact hlt
  have hunf : listed.getD i false = false := by
    simp [hltl] at hun ⊢; exact hun
  have ok := okAt hok ho
  have hdist : ∀ i j d, i ≠ j → dstAt ops i = some d → dstAt ops j ≠ some d := fun i j d hij hd => by
    have hil := dst_lt hd
    exact (okAt hok (Array.getElem?_eq_getElem hil)).dist j (Ne.symm hij) d hd
  have hw : ∀ j ∈ waitsOf ops i, listed.getD j false = true := fun j hj => by
    obtain ⟨e, he, hb, rfl⟩ := (mem_waits ho).1 hj
    exact hall e he hb
  obtain ⟨p1, p2, p3, p4⟩ := putAll_look hdist vals (waitsOf ops i) a0
  -- what the operation looks at is the same in both frames
  have hlook : ∀ t ∈ o.looksAt ops, a.tmps[t]? = (putAll ops vals (waitsOf ops i) a0).tmps[t]? := by
    intro t ht
    by_cases hex : ∃ j, dstAt ops j = some t
    · obtain ⟨j, hj⟩ := hex
      rcases ok.look t ht j hj with hji | hij
      · by_cases hts : t < a0.tmps.size
        · rw [h.done j (hw j hji) t hj hts, p3 j hji t hj hts]
        · rw [Array.getElem?_eq_none (by rw [h.tsize]; exact Nat.le_of_not_lt hts), Array.getElem?_eq_none (by rw [p1]; exact Nat.le_of_not_lt hts)]
      · have hjl : ¬ listed.getD j false = true := fun hj' => by rw [h.closed j hj' i hij] at hunf; cases hunf
        rw [h.other t (fun k hk e => by
          have : k = j := by
            rcases Nat.decEq k j with hne | he
            · exact absurd e (hdist j k t (Ne.symm hne) hj)
            · exact he
          subst this; exact hjl hk)]
        rw [p4 t (fun k hk e => by
          have : k = j := by
            rcases Nat.decEq k j with hne | he
            · exact absurd e (hdist j k t (Ne.symm hne) hj)
            · exact he
          subst this; exact hjl (hw k hk))]
    · have hno : ∀ j, dstAt ops j ≠ some t := fun j e => hex ⟨j, e⟩
      rw [h.other t (fun j _ => hno j), p4 t (fun j _ => hno j)]
  have heval : ∀ x ∈ o.op.operands, a.eval x = (putAll ops vals (waitsOf ops i) a0).eval x := by
    intro x hx
    cases x with
    | tmp t =>
      have := hlook t (List.mem_append_left _ (List.mem_filterMap.2 ⟨.tmp t, by simpa using hx, rfl⟩))
      simp only [Act.eval, Array.getD_eq_getD_getElem?, this]
    | _ => rfl
  have hexec : execOp a.eval o = execOp (putAll ops vals (waitsOf ops i) a0).eval o := execOp_congr o ok.sel heval
  have hwant : Region.wanted o (yielded ops a.tmps) = Region.wanted o (yielded ops (putAll ops vals (waitsOf ops i) a0).tmps) := by
    unfold Region.wanted
    cases hg : o.guard with
    | none => rfl
    | some gw =>
      obtain ⟨g, want⟩ := gw
      have : yielded ops a.tmps g = yielded ops (putAll ops vals (waitsOf ops i) a0).tmps g := by
        unfold yielded
        cases ht : (ops[g]?).bind (·.dst) with
        | none => rfl
        | some t =>
          have := hlook t (by
            refine List.mem_append_right _ ?_
            simp [hg, ht])
          simp only [Option.bind_some, this]
      simp only [this]
  have havail : ∀ j, availAt ops kills j i = true → F j vals w := by
    intro j hj
    simp only [availAt, Bool.and_eq_true] at hj
    obtain ⟨hj1, hj2⟩ := hj
    have hjl := hw j (by simpa using hj1)
    refine h.facts j hjl fun k hk hkj => ?_
    have hkl : k < ops.size := by
      rcases Nat.lt_or_ge k ops.size with h' | h'
      · exact h'
      · rw [← h.size] at h'; simp [Array.getElem?_eq_none h'] at hk
    have := (List.all_eq_true.1 hj2) k (List.mem_range.2 hkl)
    simp only [Bool.or_eq_true, beq_iff_eq, Bool.not_eq_true'] at this
    rcases this with ((this | this) | this) | this
    · subst this; rw [hunf] at hk; cases hk
    · exact absurd this hkj
    · exact this
    · have := deep_listed (L := fun j => listed.getD j false = true) h.closed 5 k hk i (by simpa using this)
      simp only [hunf] at this; cases this
  have hini0 : ∀ m, availIni ops (ik m) i = true → I0 m w := by
    intro m hj2
    refine h.ini m fun k hk => ?_
    have hkl : k < ops.size := by
      rcases Nat.lt_or_ge k ops.size with h' | h'
      · exact h'
      · rw [← h.size] at h'; simp [Array.getElem?_eq_none h'] at hk
    have := (List.all_eq_true.1 hj2) k (List.mem_range.2 hkl)
    simp only [Bool.or_eq_true, beq_iff_eq, Bool.not_eq_true'] at this
    rcases this with (this | this) | this
    · subst this; rw [hunf] at hk; cases hk
    · exact this
    · have := deep_listed (L := fun j => listed.getD j false = true) h.closed 5 k hk i (by simpa using this)
      simp only [hunf] at this; cases this
  -- the end of the step
  have hend : ∀ (v : Value) (w' : World), (∃ v', (putAll ops vals (waitsOf ops i) a0).put o.dst v = (putAll ops vals (waitsOf ops i) a0).put o.dst v' ∧ F i (upd vals i v') w' ∧ C w' ∧ St i w w') →
      ∃ vals', RI ops a0 C I0 ik F kills (listed.setIfInBounds i true) (a.put o.dst v) w' vals' := by
    rintro v w' ⟨v', hv, hF, hC, hSt⟩
    have hdo : dstAt ops i = o.dst := by simp [dstAt, ho]
    refine ⟨upd vals i v', ⟨by simp [h.size], (put_size _ _ _).trans h.tsize, (put_defers _ _ _).trans h.defers, ?_, ?_, ?_, hC, ?_, ?_⟩⟩
    · intro j hj d hd hlt'
      by_cases hji : j = i
      · subst hji
        rw [hdo] at hd
        simp only [upd, if_true]
        rw [hd] at hv ⊢
        rw [put_at _ _ _ (by rw [h.tsize]; exact hlt')]
        have := congrArg (fun a : Act => a.tmps[d]?) hv
        rw [put_at _ _ _ (by rw [p1]; exact hlt'), put_at _ _ _ (by rw [p1]; exact hlt')] at this
        exact this
      · simp only [upd, hji, if_false]
        rw [getD_set_other _ (Ne.symm hji)] at hj
        rw [put_other _ _ _ _ (fun e => hdist j i d hji hd (hdo.trans e))]
        exact h.done j hj d hd hlt'
    · intro t ht
      rw [put_other _ _ _ _ (fun e => ht i (getD_set_self _ _ hltl) (hdo.trans e))]
      refine h.other t fun j hj => ?_
      by_cases hji : j = i
      · subst hji; rw [hunf] at hj; cases hj
      · exact ht j (by rw [getD_set_other _ (Ne.symm hji)]; exact hj)
    · intro j hj k hk
      by_cases hki : k = i
      · subst hki; exact getD_set_self _ _ hltl
      · rw [getD_set_other _ (Ne.symm hki)]
        by_cases hji : j = i
        · subst hji; exact hw k hk
        · rw [getD_set_other _ (Ne.symm hji)] at hj
          exact h.closed j hj k hk
    · intro m hk
      refine hini m i (hk i (getD_set_self _ _ hltl)) _ _ hSt (h.ini m fun k hk' => hk k ?_)
      by_cases hki : k = i
      · subst hki; exact getD_set_self _ _ hltl
      · rw [getD_set_other _ (Ne.symm hki)]; exact hk'
    · intro j hj hk
      by_cases hji : j = i
      · subst hji; exact hF
      · have hj0 := hj
        rw [getD_set_other _ (Ne.symm hji)] at hj
        refine hpres i j hlt (Ne.symm hji) (hk i (getD_set_self _ _ hltl) (Ne.symm hji)) (by
          by_cases hc : (deepWaits ops 5 j).contains i = true
          · have := deep_listed (L := fun j => listed.getD j false = true) h.closed 5 j hj i (by simpa using hc)
            simp only [hunf] at this; cases this
          · simpa using hc) _ _ _ _ hSt (h.facts j hj fun k hk' hkj => ?_)
        refine hk k ?_ hkj
        by_cases hki : k = i
        · subst hki; exact getD_set_self _ _ hltl
        · rw [getD_set_other _ (Ne.symm hki)]; exact hk'
  have hs := hstep i o ho w vals h.c hini0 havail
  unfold wpOp
  simp only [ho]
  simp only [wpList] at hs
  rw [hwant]
  split
  · rename_i hwt
    rw [if_pos hwt] at hs
    rcases hs with hs | ⟨_, a₀, w₀, hq⟩
    case inr => exact absurd hq.1 (by simp)
    refine .inl ?_
    unfold Oper.wp at *
    rw [hexec]
    generalize (execOp (putAll ops vals (waitsOf ops i) a0).eval o).run P w = r at *
    cases r with
    | ok n w' =>
      cases n <;> simp only [Oper.upon] at hs ⊢
      case value v => exact hend v w' hs.2
      case skip => exact hend _ w' hs.2
      case defer d =>
        obtain ⟨_, v, hv, _⟩ := hs
        have := congrArg Act.defers hv
        rw [put_defers, put_defers] at this
        exact absurd this (by simp)
      case enter f args =>
        refine Calls.mono hs fun e w'' he => ?_
        cases e with
        | returned v => exact hend v w'' he.2
        | panicked c => exact absurd he.1 (by simp)
        | outgrown => obtain ⟨_, _, hq⟩ := he; exact absurd hq.1 (by simp)
      case row row args => exact Rows.mono hs fun v w'' he => hend v w'' he.2
    | halt x w' =>
      cases x <;> simp only [Oper.upon] at hs ⊢
      exact absurd hs.1 (by simp)
  · rename_i hwt
    rw [if_neg hwt] at hs
    exact hend _ _ hs.2
theorem count_set {l : Array Bool} {i : Nat} (hi : i < l.size) (hf : l.getD i false = false) {n : Nat} (hn : l.toList.countP (fun b => !b) ≤ n + 1) : (l.setIfInBounds i true).toList.countP (fun b => !b) ≤ n := by
  have hf' : l.toList[i]'(by simpa using hi) = false := by simpa [hi] using hf
  rw [Array.toList_setIfInBounds, List.countP_set (by simpa using hi)]
  rw [hf', if_pos (by rfl), if_neg (by simp)]
  omega
theorem all_listed (hok : regionOk ops = true) {listed : Array Bool} (hs : listed.size = ops.size) (hr : Region.ready .any ops listed = []) : ∀ n, ∀ i, i < n → i < ops.size → listed.getD i false = true := by
  intro n
  induction n with
  | zero => intro i h; omega
  | succ n ih =>
    intro i hin hi
    by_cases hl : listed.getD i false = true
    · exact hl
    · exfalso
      have ho : ops[i]? = some ops[i] := Array.getElem?_eq_getElem hi
      have ok := okAt hok ho
      have : i ∈ Region.ready .any ops listed := by
        refine mem_ready.2 ⟨?_, ops[i], ho, fun e he hb => ?_⟩
        · have : i < listed.size := by rw [hs]; exact hi
          simp [this] at hl ⊢; exact hl
        · have hlt := ok.before e.on ((mem_waits ho).2 ⟨e, he, hb, rfl⟩)
          exact ih e.on (by omega) (by omega)
      rw [hr] at this
      cases this
theorem wp_region_rel {id : Nat} {a0 : Act} {w0 : World} {Q : Exit → Act → World → Prop} (C : World → Prop) (I0 : Bool → World → Prop) (ik : Bool → Nat → Bool) (F : Nat → (Nat → Value) → World → Prop) (St : Nat → World → World → Prop) (kills : Nat → Nat → Bool)
    (hm : P.follows .mixedOrders = true) (hok : regionOk ops = true) (hC : C w0.drew) (hI : ∀ m, I0 m w0.drew) (hini : ∀ m i, ik m i = false → ∀ w w', St i w w' → I0 m w → I0 m w')
    (hpres : ∀ i k, i < ops.size → i ≠ k → kills i k = false → (deepWaits ops 5 k).contains i = false → ∀ vals v w w', St i w w' → F k vals w → F k (upd vals i v) w')
    (hstep : ∀ i o, ops[i]? = some o → StepAt P ops a0 C I0 ik F St kills i o)
    (hfin : ∀ w vals, C w → (∀ j, j < ops.size → aliveAt ops kills j = true → F j vals w) → Q .normal (putAll ops vals (List.range ops.size) a0) w) :
    (Code.region id ops true).wp P Q a0 w0 := by
  have hdist : ∀ i j d, i ≠ j → dstAt ops i = some d → dstAt ops j ≠ some d := fun i j d hij hd => by
    have hil := dst_lt hd
    exact (okAt hok (Array.getElem?_eq_getElem hil)).dist j (Ne.symm hij) d hd
  have final : ∀ listed a w vals, RI ops a0 C I0 ik F kills listed a w vals → Region.ready .any ops listed = [] → Q .normal a w := by
    intro listed a w vals h hr
    have hall : ∀ j, j < ops.size → listed.getD j false = true := fun j hj => all_listed hok h.size hr (j + 1) j (by omega) hj
    obtain ⟨p1, p2, p3, p4⟩ := putAll_look hdist vals (List.range ops.size) a0
    have ha : a = putAll ops vals (List.range ops.size) a0 := by
      have ht : a.tmps = (putAll ops vals (List.range ops.size) a0).tmps := by
        apply Array.ext_getElem?
        intro t
        by_cases hex : ∃ j, dstAt ops j = some t
        · obtain ⟨j, hj⟩ := hex
          have hjl := dst_lt hj
          by_cases hts : t < a0.tmps.size
          · rw [h.done j (hall j hjl) t hj hts, p3 j (List.mem_range.2 hjl) t hj hts]
          · rw [Array.getElem?_eq_none (by rw [h.tsize]; exact Nat.le_of_not_lt hts), Array.getElem?_eq_none (by rw [p1]; exact Nat.le_of_not_lt hts)]
        · have hno : ∀ j, dstAt ops j ≠ some t := fun j e => hex ⟨j, e⟩
          rw [h.other t (fun j _ => hno j), p4 t (fun j _ => hno j)]
      have hd : a.defers = (putAll ops vals (List.range ops.size) a0).defers := h.defers.trans p2.symm
      cases a
      simp only at ht hd
      rw [ht, hd]
    rw [ha]
    refine hfin w vals h.c fun j hj hal => h.facts j (hall j hj) fun k hk hkj => ?_
    have hkl : k < ops.size := by
      rcases Nat.lt_or_ge k ops.size with h' | h'
      · exact h'
      · rw [← h.size] at h'; simp [Array.getElem?_eq_none h'] at hk
    have := (List.all_eq_true.1 hal) k (List.mem_range.2 hkl)
    simpa [hkj] using this
  refine wp_region_any hm ?_
  have key : ∀ (fuel : Nat) (listed : Array Bool) (a : Act) (w : World) (vals : Nat → Value), listed.toList.countP (fun b => !b) ≤ fuel → RI ops a0 C I0 ik F kills listed a w vals → wpAny P .any ops Q fuel listed a w := by
    intro fuel
    induction fuel with
    | zero =>
      intro listed a w vals hc h
      have hr : Region.ready .any ops listed = [] := by
        refine List.eq_nil_iff_forall_not_mem.2 fun i hi => ?_
        obtain ⟨hun, o, ho, _⟩ := mem_ready.1 hi
        have hlt : i < listed.size := by rw [h.size]; exact (Array.getElem?_eq_some_iff.1 ho).1
        have h0 : listed.toList.countP (fun b => !b) = 0 := by omega
        rw [List.countP_eq_zero] at h0
        have := h0 (listed[i]) (by simp)
        simp [hlt] at hun
        simp [hun] at this
      exact ⟨hr, final listed a w vals h hr⟩
    | succ fuel ih =>
      intro listed a w vals hc h
      refine ⟨fun hr => final listed a w vals h hr, fun i hi => ?_⟩
      obtain ⟨hun, o, ho, _⟩ := mem_ready.1 hi
      have hlt : i < listed.size := by rw [h.size]; exact (Array.getElem?_eq_some_iff.1 ho).1
      refine wpOp_mono (fun a' w' ⟨vals', h'⟩ => ih _ _ _ vals' (count_set hlt (by simp [hlt] at hun ⊢; exact hun) hc) h') (h.step (Q := Q) hok hini hpres hstep hi)
  refine key _ _ _ _ (fun _ => undef) ?_ ⟨by simp, rfl, rfl, ?_, ?_, ?_, hC, fun m _ => hI m, ?_⟩
  · have := List.countP_le_length (p := fun b : Bool => !b) (l := (Array.replicate ops.size false).toList)
    simpa using this
  · intro j hj; simp [Array.getElem?_replicate] at hj; split at hj <;> simp at hj
  · intro t _; rfl
  · intro j hj; simp [Array.getElem?_replicate] at hj; split at hj <;> simp at hj
  · intro j hj; simp [Array.getElem?_replicate] at hj; split at hj <;> simp at hj
/-! ### For the walk -/
def puts (vals : Nat → Value) : List (Nat × Option Tmp) → Act → Act
  | [], a => a
  | (j, d) :: r, a => puts vals r (a.put d (vals j))
def GoodEnd (o : Oper) (ai : Act) (R : Value → World → Prop) : Exit → Act → World → Prop := fun e a' w' => e = .normal ∧ ∃ v, a' = ai.put o.dst v ∧ R v w'
def fct (Fs : List ((Nat → Value) → World → Prop)) (i : Nat) : (Nat → Value) → World → Prop := (Fs[i]?).getD fun _ _ => True
def stp (Sts : List (World → World → Prop)) (i : Nat) : World → World → Prop := (Sts[i]?).getD Eq
def StepsL (p : Nat → Oper → Prop) : Nat → List Oper → Prop
  | _, [] => True
  | k, o :: r => p k o ∧ StepsL p (k + 1) r
theorem stepsL_spec {p : Nat → Oper → Prop} : ∀ {l : List Oper} {k : Nat}, StepsL p k l → ∀ i o, l[i]? = some o → p (k + i) o
  | [], _, _, i, o, h => by simp at h
  | o :: r, k, h, 0, o', ho => by simp at ho; subst ho; exact h.1
  | o :: r, k, h, i + 1, o', ho => by
    have := stepsL_spec h.2 i o' (by simpa using ho)
    rwa [show k + 1 + i = k + (i + 1) by omega] at this
def Keeps (kill skip : Nat → Bool) (i : Nat) (S : World → World → Prop) : Nat → List ((Nat → Value) → World → Prop) → Prop
  | _, [] => True
  | k, F :: r => (i = k ∨ kill k = true ∨ skip k = true ∨ ∀ vals v w w', S w w' → F vals w → F (upd vals i v) w') ∧ Keeps kill skip i S (k + 1) r
theorem keeps_spec {kill skip : Nat → Bool} {i : Nat} {S : World → World → Prop} : ∀ {Fs : List ((Nat → Value) → World → Prop)} {k : Nat}, Keeps kill skip i S k Fs →
    ∀ j, i ≠ k + j → kill (k + j) = false → skip (k + j) = false → ∀ vals v w w', S w w' → fct Fs j vals w → fct Fs j (upd vals i v) w'
  | [], _, _, j, _, _, _, vals, v, w, w', _, hf => trivial
  | F :: r, k, h, 0, hj, hk, hs, vals, v, w, w', hS, hf => by
    rcases h.1 with h1 | h1 | h1 | h1
    · exact absurd h1 hj
    · simp only [Nat.add_zero] at hk; rw [hk] at h1; cases h1
    · simp only [Nat.add_zero] at hs; rw [hs] at h1; cases h1
    · exact h1 vals v w w' hS hf
  | F :: r, k, h, j + 1, hj, hk, hs, vals, v, w, w', hS, hf => by
    have e : k + (j + 1) = k + 1 + j := by omega
    rw [e] at hj hk hs
    exact keeps_spec h.2 j hj hk hs vals v w w' hS hf
def KeepsL (kills skips : Nat → Nat → Bool) (Fs : List ((Nat → Value) → World → Prop)) : Nat → List (World → World → Prop) → Prop
  | _, [] => True
  | i, S :: r => Keeps (kills i) (skips i) i S 0 Fs ∧ KeepsL kills skips Fs (i + 1) r
theorem keepsL_spec {kills skips : Nat → Nat → Bool} {Fs : List ((Nat → Value) → World → Prop)} : ∀ {Sts : List (World → World → Prop)} {i : Nat}, KeepsL kills skips Fs i Sts →
    ∀ j k, i + j ≠ k → kills (i + j) k = false → skips (i + j) k = false → j < Sts.length → ∀ vals v w w', stp Sts j w w' → fct Fs k vals w → fct Fs k (upd vals (i + j) v) w'
  | [], i, _, j, k, _, _, _, hl, _, _, _, _, _, _ => by simp at hl
  | S :: r, i, h, 0, k, hj, hk, hs, _, vals, v, w, w', hS, hf => by
    have := keeps_spec h.1 k (by simpa using hj) (by simpa using hk) (by simpa using hs) vals v w w' hS
    exact this hf
  | S :: r, i, h, j + 1, k, hj, hk, hs, hl, vals, v, w, w', hS, hf => by
    have e : i + (j + 1) = i + 1 + j := by omega
    rw [e] at hj hk hs ⊢
    exact keepsL_spec h.2 j k hj hk hs (by simpa using hl) vals v w w' hS hf
def IniL (ik : Nat → Bool) (I0 : World → Prop) : Nat → List (World → World → Prop) → Prop
  | _, [] => True
  | i, S :: r => (ik i = true ∨ ∀ w w', S w w' → I0 w → I0 w') ∧ IniL ik I0 (i + 1) r
theorem iniL_spec {ik : Nat → Bool} {I0 : World → Prop} : ∀ {Sts : List (World → World → Prop)} {i : Nat}, IniL ik I0 i Sts → ∀ j, ik (i + j) = false → ∀ w w', stp Sts j w w' → I0 w → I0 w'
  | [], i, _, j, _, w, w', hS, h => by
    have : w = w' := hS
    subst this; exact h
  | S :: r, i, h, 0, hj, w, w', hS, h0 => by
    rcases h.1 with h1 | h1
    · simp only [Nat.add_zero] at hj; rw [hj] at h1; cases h1
    · exact h1 w w' hS h0
  | S :: r, i, h, j + 1, hj, w, w', hS, h0 => by
    have e : i + (j + 1) = i + 1 + j := by omega
    rw [e] at hj
    exact iniL_spec h.2 j hj w w' hS h0
theorem wp_region_list {id : Nat} {l : List Oper} {a0 : Act} {w0 : World} {Q : Exit → Act → World → Prop} (C : World → Prop) (I0 : Bool → World → Prop) (ik : Bool → Nat → Bool) (Fs : List ((Nat → Value) → World → Prop)) (Sts : List (World → World → Prop)) (kills : Nat → Nat → Bool) (ps : List (Nat × Option Tmp))
    (hm : P.follows .mixedOrders = true) (hok : regionOk l.toArray = true) (hlen : Sts.length = l.length) (hps : ∀ vals, putAll l.toArray vals (List.range l.toArray.size) a0 = puts vals ps a0) (hC : C w0.drew) (hI : ∀ m, I0 m w0.drew) (hini : ∀ m, IniL (ik m) (I0 m) 0 Sts)
    (hpres : KeepsL kills (fun i k => (deepWaits l.toArray 5 k).contains i) Fs 0 Sts)
    (hstep : StepsL (StepAt P l.toArray a0 C I0 ik (fct Fs) (stp Sts) kills) 0 l)
    (hfin : ∀ w vals, C w → (∀ j, j < l.toArray.size → aliveAt l.toArray kills j = true → fct Fs j vals w) → Q .normal (puts vals ps a0) w) :
    (Code.region id l.toArray true).wp P Q a0 w0 :=
  wp_region_rel C I0 ik (fct Fs) (stp Sts) kills hm hok hC hI (fun m i hi w w' hS h => by
      have := iniL_spec (hini m) i (by simpa using hi) w w' hS
      exact this h)
    (fun i k hil hik hk hs vals v w w' hS hf => by
      have := keepsL_spec hpres i k (by simpa using hik) (by simpa using hk) (by simpa using hs) (by rw [hlen]; simpa using hil) vals v w w' hS
      rw [Nat.zero_add] at this
      exact this hf)
    (fun i o ho => by
      have := stepsL_spec hstep i o (by simpa using ho)
      simpa using this)
    (fun w vals hc hf => by rw [hps]; exact hfin w vals hc hf)
theorem act_put (t : Array Value) (d : List Deferred) (i : Tmp) (v : Value) : Act.put ⟨t, d⟩ (some i) v = ⟨t.setIfInBounds i v, d⟩ := rfl
theorem act_put_none (a : Act) (v : Value) : Act.put a none v = a := rfl
def EndOf (E : Act → World → Prop) : Exit → Act → World → Prop := fun e a w => e = .normal ∧ E a w
theorem EndOf.mk {E : Act → World → Prop} {a : Act} {w : World} (h : E a w) : EndOf E .normal a w := ⟨rfl, h⟩
theorem step_plain {a0 : Act} {C : World → Prop} {I0 : Bool → World → Prop} {ik : Bool → Nat → Bool} {F : Nat → (Nat → Value) → World → Prop} {St : Nat → World → World → Prop} {kills : Nat → Nat → Bool} {i : Nat} {o : Oper} (ps : List (Nat × Option Tmp))
    (hps : ∀ vals, putAll ops vals (waitsOf ops i) a0 = puts vals ps a0) (hg : o.guard = none)
    (h : ∀ w vals, C w → (∀ m, availIni ops (ik m) i = true → I0 m w) → (∀ j, availAt ops kills j i = true → F j vals w) →
      ∀ E : Act → World → Prop, (∀ v w', F i (upd vals i v) w' → C w' → St i w w' → E ((puts vals ps a0).put o.dst v) w') → wpList P #[] (EndOf E) [o] (puts vals ps a0) w) :
    StepAt P ops a0 C I0 ik F St kills i o := by
  intro w vals hc h0 hf
  have h1 := h w vals hc h0 hf (fun a' w' => ∃ v, a' = (puts vals ps a0).put o.dst v ∧ F i (upd vals i v) w' ∧ C w' ∧ St i w w') fun v w' h1 h2 h3 => ⟨v, rfl, h1, h2, h3⟩
  rw [hps]
  show wpList P ops (EndOf fun a' w' => ∃ v, a' = (puts vals ps a0).put o.dst v ∧ F i (upd vals i v) w' ∧ C w' ∧ St i w w') [o] (puts vals ps a0) w
  have hw : ∀ (O : Array Oper) (t : Array Value), Region.wanted o (yielded O t) = true := fun O t => by simp [Region.wanted, hg]
  simp only [wpList, hw, if_true] at h1 ⊢
  exact h1
theorem step_guard {a0 : Act} {C : World → Prop} {I0 : Bool → World → Prop} {ik : Bool → Nat → Bool} {F : Nat → (Nat → Value) → World → Prop} {St : Nat → World → World → Prop} {kills : Nat → Nat → Bool} {i : Nat} {o : Oper} (ps : List (Nat × Option Tmp))
    (hps : ∀ vals, putAll ops vals (waitsOf ops i) a0 = puts vals ps a0) (g : Nat) (t : Tmp) (want : Bool) (hg : o.guard = some (g, want)) (hd : dstAt ops g = some t)
    (hyes : ∀ w vals, C w → (∀ m, availIni ops (ik m) i = true → I0 m w) → (∀ j, availAt ops kills j i = true → F j vals w) → (puts vals ps a0).tmps[t]? = some (.bool want) →
      ∀ E : Act → World → Prop, (∀ v w', F i (upd vals i v) w' → C w' → St i w w' → E ((puts vals ps a0).put o.dst v) w') → wpList P #[] (EndOf E) [{ o with guard := none }] (puts vals ps a0) w)
    (hno : ∀ w vals, C w → (∀ m, availIni ops (ik m) i = true → I0 m w) → (∀ j, availAt ops kills j i = true → F j vals w) → (puts vals ps a0).tmps[t]? ≠ some (.bool want) → F i (upd vals i undef) w ∧ St i w w) :
    StepAt P ops a0 C I0 ik F St kills i o := by
  intro w vals hc h0 hf
  rw [hps]
  show wpList P ops (EndOf fun a' w' => ∃ v, a' = (puts vals ps a0).put o.dst v ∧ F i (upd vals i v) w' ∧ C w' ∧ St i w w') [o] (puts vals ps a0) w
  have hd' : (ops[g]?).bind (·.dst) = some t := hd
  by_cases hy : (puts vals ps a0).tmps[t]? = some (.bool want)
  · have h1 := hyes w vals hc h0 hf hy (fun a' w' => ∃ v, a' = (puts vals ps a0).put o.dst v ∧ F i (upd vals i v) w' ∧ C w' ∧ St i w w') fun v w' h1 h2 h3 => ⟨v, rfl, h1, h2, h3⟩
    have hw : Region.wanted o (yielded ops (puts vals ps a0).tmps) = true := by simp [Region.wanted, hg, yielded, hd', hy]
    have hw' : ∀ (O : Array Oper) (t : Array Value), Region.wanted { o with guard := none } (yielded O t) = true := fun O t => by simp [Region.wanted]
    simp only [wpList, hw, hw', if_true] at h1 ⊢
    have he : ∀ ρ, execOp ρ { o with guard := none } = execOp ρ o := fun ρ => rfl
    have ha : ∀ a w, Oper.asks P { o with guard := none } a w = Oper.asks P o a w := fun a w => rfl
    rw [ha] at h1
    exact h1
  · obtain ⟨hF, hS⟩ := hno w vals hc h0 hf hy
    have hw : ¬ Region.wanted o (yielded ops (puts vals ps a0).tmps) = true := by
      simp only [Region.wanted, hg, yielded, hd', Option.bind_some, beq_iff_eq]
      intro e
      apply hy
      split at e
      · rename_i b hb; simp at e; subst e; exact hb
      · cases e
    simp only [wpList, if_neg hw]
    exact ⟨rfl, undef, rfl, hF, hc, hS⟩
end
end Go.Proofs.Ytcnebbhnpocofaa
/-
  Walks: the reference's in, of, Domain, Agent (some answer each).
-/
namespace Go.Proofs.Ytcnebbhnpocofaa
set_option linter.unusedSimpArgs false
set_option linter.unusedVariables false
open Go.RowKit
def SomeB (w : World) (e : Ending) (w' : World) : Prop := (∃ b : Bool, e = .returned (.bool b)) ∧ w = w'
def SomeP (p : Bool → Prop) (w : World) (e : Ending) (w' : World) : Prop := (∃ b : Bool, e = .returned (.bool b) ∧ p b) ∧ w = w'
theorem in9_any (c : Int) (s : ByteArray) (hs : s.size ≤ 1000) (w : World) : Calls Try.prog 67 #[.int .u8 c, .string s] w (SomeB w) := by
  have hs' : (s.size : Int) ≤ 1000 := by omega
  go_enter Try.func67, Try.ntmps67
  go_wp2_with fail
  go_loop [5] (fun i => ∃ k : Nat, k ≤ s.size ∧ i = .int .i64 k) (fun i => s.size - (intOf i).toNat)
  case atStart => exact ⟨0, Nat.zero_le _, rfl⟩
  case round =>
    obtain ⟨k, hk, rfl⟩ := hrel
    by_cases hlt : k < s.size
    · by_cases he : ((s[k].toNat : Nat) : Int) = c
      · go_wp2_with fail
        go_ret
        exact ⟨⟨_, rfl⟩, rfl⟩
      · go_wp2_with fail
        go_round
        case rel => exact ⟨k + 1, by omega, by go_num⟩
        case measure => simp [intOf]; omega
    · go_wp2_with fail
      go_ret
      exact ⟨⟨_, rfl⟩, rfl⟩
theorem of9_any (s t : ByteArray) (n : Int) (hs : s.size ≤ 1000) (ht : t.size ≤ 1000) (w : World) : Calls Try.prog 66 #[.string s, .string t, .int .i64 n] w (SomeP (fun b => b = true → 1 ≤ s.size) w) := by
  have hs' : (s.size : Int) ≤ 1000 := by omega
  have C := Lib.hid (fun c => in9_any c t ht w)
  go_enter Try.func66, Try.ntmps66
  go_wp2_with fail
  go_loop [7] (fun i => ∃ k : Nat, k ≤ s.size ∧ i = .int .i64 k) (fun i => s.size - (intOf i).toNat)
  case atStart => exact ⟨0, Nat.zero_le _, rfl⟩
  case round =>
    obtain ⟨k, hk, rfl⟩ := hrel
    by_cases hlt : k < s.size
    · go_wp2_with fail
      refine calls_then (C.out _) ?_
      rintro e w' ⟨⟨b, rfl⟩, rfl⟩
      cases b with
      | true =>
        go_wp2_with fail
        go_round
        case rel => exact ⟨k + 1, by omega, by go_num⟩
        case measure => simp [intOf]; omega
      | false =>
        go_wp2_with fail
        go_ret
        exact ⟨⟨_, rfl, fun h => by cases h⟩, rfl⟩
    · by_cases h1 : (1 : Int) ≤ (s.size : Int)
      · have d1 : decide ((1 : Int) ≤ (s.size : Int)) = true := by simpa using h1
        go_wp2_with fail
        go_ret
        exact ⟨⟨_, rfl, fun _ => by omega⟩, rfl⟩
      · have d1 : decide ((1 : Int) ≤ (s.size : Int)) = false := by simpa using h1
        go_wp2_with fail
        go_ret
        exact ⟨⟨_, rfl, fun h => by cases h⟩, rfl⟩
end Go.Proofs.Ytcnebbhnpocofaa
/-
  Walks: the reference's Domain, Agent, Path (some answer each).
-/
namespace Go.Proofs.Ytcnebbhnpocofaa
set_option linter.unusedSimpArgs false
set_option linter.unusedVariables false
open Go.RowKit
set_option maxHeartbeats 1000000 in
theorem path9_any (s : ByteArray) (hs : s.size ≤ 1000) (w : World) : Calls Try.prog 53 #[.string s] w (SomeB w) := by
  have hs' : (s.size : Int) ≤ 1000 := by omega
  have CO := Lib.hid (fun (u t : ByteArray) (n : Int) (hu : u.size ≤ 1000) (ht : t.size ≤ 1000) => of9_any u t n hu ht w)
  by_cases h1 : s.size < 2
  · have d1 : decide ((s.size : Int) < 2) = true := by simp; omega
    go_enter Try.func53, Try.ntmps53
    go_wp2_with fail
    go_ret
    exact ⟨⟨_, rfl⟩, rfl⟩
  · by_cases h2 : 40 < s.size
    · have d1 : decide ((s.size : Int) < 2) = false := by simp; omega
      have d2 : decide ((s.size : Int) > 40) = true := by simp; omega
      have d3 : decide ((40 : Int) < (s.size : Int)) = true := by simp; omega
      go_enter Try.func53, Try.ntmps53
      go_wp2_with fail
      go_ret
      exact ⟨⟨_, rfl⟩, rfl⟩
    · have d1 : decide ((s.size : Int) < 2) = false := by simp; omega
      have d2 : decide ((s.size : Int) > 40) = false := by simp; omega
      have d3 : decide ((40 : Int) < (s.size : Int)) = false := by simp; omega
      have h0 : 0 < s.size := by omega
      by_cases h3 : ((s[0].toNat : Nat) : Int) = 47
      · go_enter Try.func53, Try.ntmps53
        go_wp2_with fail
        go_loop [3, 4] (fun f i => ∃ a k : Nat, 1 ≤ a ∧ a ≤ k ∧ k ≤ s.size + 1 ∧ f = .int .i64 (a : Int) ∧ i = .int .i64 (k : Int)) (fun _ i => s.size + 1 - (intOf i).toNat)
        case atStart => exact ⟨1, 1, by omega, by omega, by omega, rfl, rfl⟩
        case round =>
          obtain ⟨a, k, ha, hak, hk, rfl, rfl⟩ := hrel
          by_cases hle : k ≤ s.size
          · have l1 : decide ((k : Int) ≤ (s.size : Int)) = true := by simp; omega
            by_cases hq : ∃ h : k < s.size, ((s[k].toNat : Nat) : Int) ≠ 47
            · obtain ⟨hlt, hq⟩ := hq
              have l2 : decide ((k : Int) < (s.size : Int)) = true := by simp; omega
              have l2' : (k : Int) < (s.size : Int) := by omega
              go_wp2_with fail
              go_round
              case rel => exact ⟨a, k + 1, ha, by omega, by omega, rfl, by go_num⟩
              case measure => simp [intOf]; omega
            · have HW : (s.extract a k).size ≤ 1000 := by simp; omega
              have i1 : (a : Int) ≤ (k : Int) := by omega
              have i2 : (k : Int) ≤ (s.size : Int) := by omega
              have i3 : (0 : Int) ≤ (a : Int) := by omega
              by_cases hlt : k < s.size
              · have l2 : decide ((k : Int) < (s.size : Int)) = true := by simp; omega
                have l2' : (k : Int) < (s.size : Int) := by omega
                have hs47 : ((s[k].toNat : Nat) : Int) = 47 := by
                  refine Classical.byContradiction fun h => hq ⟨hlt, h⟩
                clear hq
                go_wp2_with fail
                refine calls_then (CO.out _ _ _ HW (by decide)) ?_
                rintro e w' ⟨⟨b, rfl, _⟩, rfl⟩
                cases b with
                | false =>
                  go_wp2_with fail
                  go_ret
                  exact ⟨⟨_, rfl⟩, rfl⟩
                | true =>
                  generalize s.extract a k = u at *
                  go_wp2_with fail
                  all_goals first
                    | (go_ret; exact ⟨⟨_, rfl⟩, rfl⟩)
                    | (go_round
                       case rel => exact ⟨k + 1, k + 1, by omega, by omega, by omega, by go_num, by go_num⟩
                       case measure => simp [intOf]; omega)
              · have l2 : decide ((k : Int) < (s.size : Int)) = false := by simp; omega
                have l2' : ¬ (k : Int) < (s.size : Int) := by omega
                clear hq
                go_wp2_with fail
                refine calls_then (CO.out _ _ _ HW (by decide)) ?_
                rintro e w' ⟨⟨b, rfl, _⟩, rfl⟩
                cases b with
                | false =>
                  go_wp2_with fail
                  go_ret
                  exact ⟨⟨_, rfl⟩, rfl⟩
                | true =>
                  generalize s.extract a k = u at *
                  go_wp2_with fail
                  all_goals first
                    | (go_ret; exact ⟨⟨_, rfl⟩, rfl⟩)
                    | (go_round
                       case rel => exact ⟨k + 1, k + 1, by omega, by omega, by omega, by go_num, by go_num⟩
                       case measure => simp [intOf]; omega)
          · have l1 : decide ((k : Int) ≤ (s.size : Int)) = false := by simp; omega
            have l1' : ¬ (k : Int) ≤ (s.size : Int) := by omega
            go_wp2_with fail
            go_ret
            exact ⟨⟨_, rfl⟩, rfl⟩
      · go_enter Try.func53, Try.ntmps53
        go_wp2_with fail
        go_ret
        exact ⟨⟨_, rfl⟩, rfl⟩
set_option maxHeartbeats 1000000 in
theorem agent9_any (s : ByteArray) (hs : s.size ≤ 1000) (w : World) : Calls Try.prog 54 #[.string s] w (SomeB w) := by
  have hs' : (s.size : Int) ≤ 1000 := by omega
  have CP := Lib.hid (path9_any s hs w)
  have CI := Lib.hid (fun c (t : ByteArray) (ht : t.size ≤ 1000) => in9_any c t ht w)
  by_cases h8 : s.size < 8
  · have d1 : decide ((s.size : Int) < 8) = true := by simp; omega
    go_enter Try.func54, Try.ntmps54
    go_wp2_with fail
    refine calls_then CP.out ?_
    rintro e w' ⟨⟨b, rfl⟩, rfl⟩
    cases b <;> go_wp2_with fail
    all_goals go_ret
    all_goals exact ⟨⟨_, rfl⟩, rfl⟩
  · have d1 : decide ((s.size : Int) < 8) = false := by simp; omega
    have i7 : (7 : Int) ≤ (s.size : Int) := by omega
    have HW : (s.extract 7 s.size).size ≤ 1000 := by simp; omega
    go_enter Try.func54, Try.ntmps54
    go_wp2_with fail
    refine calls_then CP.out ?_
    rintro e w' ⟨⟨b, rfl⟩, rfl⟩
    cases b with
    | false =>
      go_wp2_with fail
      go_ret
      exact ⟨⟨_, rfl⟩, rfl⟩
    | true =>
      go_wp2_with fail
      all_goals first
        | (go_ret; exact ⟨⟨_, rfl⟩, rfl⟩)
        | (refine calls_then (CI.out _ _ HW) ?_
           rintro e w' ⟨⟨b1, rfl⟩, rfl⟩
           go_wp2_with fail
           go_ret
           exact ⟨⟨_, rfl⟩, rfl⟩)
end Go.Proofs.Ytcnebbhnpocofaa
/-
  Rows of structs: cells one behind the other; rows of which the blocks' type is known.
-/
namespace Go.Proofs.Ytcnebbhnpocofaa
set_option linter.unusedSimpArgs false
set_option linter.unusedVariables false
open Go.RowKit
section
variable {α : Type}
def rowsV (f : α → Array Value) (l : List α) : List Value := l.flatMap fun x => (f x).toList
theorem rowsV_append (f : α → Array Value) (l r : List α) : rowsV f (l ++ r) = rowsV f l ++ rowsV f r := by simp [rowsV]
theorem rowsV_one (f : α → Array Value) (x : α) : rowsV f [x] = (f x).toList := by simp [rowsV]
theorem rowsV_len {f : α → Array Value} {m : Nat} (hf : ∀ x, (f x).size = m) : ∀ l : List α, (rowsV f l).length = l.length * m
  | [] => by simp [rowsV]
  | x :: r => by
    have := rowsV_len hf r
    rw [show rowsV f (x :: r) = (f x).toList ++ rowsV f r by simp [rowsV], List.length_append, this]
    simp [hf, Nat.add_mul, Nat.add_comm]
theorem rowsV_at {f : α → Array Value} {m : Nat} (hf : ∀ x, (f x).size = m) : ∀ (l : List α) (i : Nat) (h : i < l.length) (j : Nat) (u : Value), (f l[i])[j]? = some u → (rowsV f l)[i * m + j]? = some u
  | x :: r, 0, h, j, u, hu => by
    rw [show rowsV f (x :: r) = (f x).toList ++ rowsV f r by simp [rowsV]]
    have hu' : (f x)[j]? = some u := by simpa using hu
    have hj : j < (f x).size := (Array.getElem?_eq_some_iff.1 hu').1
    rw [Nat.zero_mul, Nat.zero_add, List.getElem?_append_left (by simpa using hj), Array.getElem?_toList]
    exact hu'
  | x :: r, i + 1, h, j, u, hu => by
    have hi : i < r.length := by simpa using h
    have := rowsV_at hf r i hi j u (by simpa using hu)
    have e : (i + 1) * m = m + i * m := by rw [Nat.add_mul]; omega
    rw [show rowsV f (x :: r) = (f x).toList ++ rowsV f r by simp [rowsV], List.getElem?_append_right (by simp [hf]; omega)]
    simp only [Array.length_toList, hf]
    rw [show (i + 1) * m + j - m = i * m + j by omega]
    exact this
theorem rowsV_take {f : α → Array Value} {m : Nat} (hf : ∀ x, (f x).size = m) : ∀ (l : List α) (k : Nat), rowsV f (l.take k) = (rowsV f l).take (k * m)
  | [], k => by simp [rowsV]
  | x :: r, 0 => by simp [rowsV]
  | x :: r, k + 1 => by
    have := rowsV_take hf r k
    rw [List.take_succ_cons, show rowsV f (x :: r.take k) = (f x).toList ++ rowsV f (r.take k) by simp [rowsV], show rowsV f (x :: r) = (f x).toList ++ rowsV f r by simp [rowsV], this, List.take_append]
    have e : (k + 1) * m = m + k * m := by rw [Nat.add_mul]; omega
    rw [e]
    have hl : (f x).toList.length = m := by simp [hf]
    rw [hl, List.take_of_length_le (l := (f x).toList) (by rw [hl]; omega), Nat.add_sub_cancel_left]
theorem rowsV_drop {f : α → Array Value} {m : Nat} (hf : ∀ x, (f x).size = m) : ∀ (l : List α) (k : Nat), rowsV f (l.drop k) = (rowsV f l).drop (k * m)
  | [], k => by simp [rowsV]
  | x :: r, 0 => by simp [rowsV]
  | x :: r, k + 1 => by
    have := rowsV_drop hf r k
    have e : (k + 1) * m = m + k * m := by rw [Nat.add_mul]; omega
    have hl : (f x).toList.length = m := by simp [hf]
    rw [List.drop_succ_cons, this, show rowsV f (x :: r) = (f x).toList ++ rowsV f r by simp [rowsV], List.drop_append, e, hl, @List.drop_eq_nil_of_le _ (f x).toList _ (by rw [hl]; omega), Nat.add_sub_cancel_left, List.nil_append]
theorem rowsV_mem {f : α → Array Value} (h1 : ∀ x, (f x).all (·.oneCell') = true) (l : List α) : ∀ u ∈ rowsV f l, u.oneCell' = true := fun u hu => by
  obtain ⟨x, _, hx⟩ := List.mem_flatMap.1 hu
  have := h1 x
  rw [Array.all_eq_true_iff_forall_mem] at this
  exact this u (by simpa using hx)
theorem rd_rows {f : α → Array Value} {m : Nat} (hf : ∀ x, (f x).size = m) (hm : 0 < m) {w : World} {B : Nat} {A : Option Addr} {l : List α} (h : Rd w B A (rowsV f l)) {i : Nat} (hi : i < l.length) :
    ∃ ad, A = some ad ∧ ad.block < B ∧ ∀ j u, (f l[i])[j]? = some u → w.cell? ((ad.add (i * m)).add j) = some u := by
  have h0 := rowsV_at hf l i hi 0 _ (Array.getElem?_eq_getElem (by rw [hf]; exact hm))
  obtain ⟨ad, hA, hb, -⟩ := h _ _ h0
  refine ⟨ad, hA, hb, fun j u hu => ?_⟩
  obtain ⟨ad', hA', -, hc⟩ := h _ _ (rowsV_at hf l i hi j u hu)
  rw [hA] at hA'
  injection hA' with e
  subst e
  rw [← hc]
  congr 1
  generalize i * m = n
  unfold Addr.add
  by_cases h1 : n = 0 <;> by_cases h2 : j = 0 <;> simp [h1, h2, Nat.add_assoc]
end
def Row (w : World) (B : Nat) (t : TypeId) (A : Option Addr) (xs : List Value) : Prop :=
  ∀ i u, xs[i]? = some u → ∃ ad cs fz, A = some ad ∧ ad.block < B ∧ w.cell? (ad.add i) = some u ∧ w.heap[ad.block]? = some (.cells cs t fz)
variable {w w' : World} {B : Nat} {t : TypeId} {A : Option Addr} {xs : List Value}
theorem Row.rd (h : Row w B t A xs) : Rd w B A xs := fun i u hu => by
  obtain ⟨ad, cs, fz, h1, h2, h3, _⟩ := h i u hu
  exact ⟨ad, h1, h2, h3⟩
theorem Row.nil (w : World) (B : Nat) (t : TypeId) (A : Option Addr) : Row w B t A [] := fun i u hu => by simp at hu
theorem Row.below (h : Row w B t A xs) (hb : Below B w w') : Row w' B t A xs := fun i u hu => by
  obtain ⟨ad, cs, fz, h1, h2, h3, h4⟩ := h i u hu
  exact ⟨ad, cs, fz, h1, h2, by rw [hb.cell (p := ad.add i) (by rw [block_of_add]; exact h2)]; exact h3, by rw [hb.block _ h2]; exact h4⟩
theorem Row.mono {B' : Nat} (h : Row w B t A xs) (hB : B ≤ B') : Row w B' t A xs := fun i u hu => by
  obtain ⟨ad, cs, fz, h1, h2, h3, h4⟩ := h i u hu
  exact ⟨ad, cs, fz, h1, Nat.lt_of_lt_of_le h2 hB, h3, h4⟩
theorem Row.grow (h : Row w w.heap.size t A xs) (hb : Below w.heap.size w w') : Row w' w'.heap.size t A xs := (h.below hb).mono hb.size
theorem Row.keep {e : TypeId} (h : Row w B t A xs) (hk : KeepBut e w w') (ht : t ≠ e) : Row w' B t A xs := fun i u hu => by
  obtain ⟨ad, cs, fz, h1, h2, h3, h4⟩ := h i u hu
  have h5 := heap_keep hk ht h4
  refine ⟨ad, cs, fz, h1, h2, ?_, h5⟩
  rw [← h3]
  exact World.cell?_of_block (w := w) (w' := w') (by rw [block_of_add, h5, h4])
theorem Row.of_own {base size n c : Nat} (h : OwnX w base t size (.slice A n c) n xs) : Row w w.heap.size t A xs := fun i u hu => by
  obtain ⟨ad, h1, h2, h3⟩ := Rd.of_own h (Nat.le_refl _) i u hu
  rcases h.2 with ⟨hn, _⟩ | ⟨g, cap, cur, fz, hv, hb, hgg, hrest⟩
  · simp at hn
    rw [hn.1] at h1
    simp at h1
  · simp at hv
    rw [hv.1] at h1
    injection h1 with h1
    subst h1
    exact ⟨_, _, _, hv.1, h2, h3, hgg⟩
theorem Row.take (h : Row w B t A xs) (k : Nat) : Row w B t A (xs.take k) := fun i u hu => by
  rw [List.getElem?_take] at hu
  split at hu
  · exact h i u hu
  · simp at hu
theorem Row.drop {ad : Addr} (h : Row w B t (some ad) xs) (k : Nat) : Row w B t (some (ad.add k)) (xs.drop k) := fun i u hu => by
  rw [List.getElem?_drop] at hu
  obtain ⟨ad', cs, fz, h1, h2, h3, h4⟩ := h _ u hu
  injection h1 with h1
  subst h1
  refine ⟨_, cs, fz, rfl, by rw [block_of_add]; exact h2, ?_, by rw [block_of_add]; exact h4⟩
  rw [← h3]
  congr 1
  unfold Addr.add
  by_cases e1 : k = 0 <;> by_cases e2 : i = 0 <;> simp [e1, e2, Nat.add_assoc]
end Go.Proofs.Ytcnebbhnpocofaa
/-
  Laws of my own: rows of structs that the call owns and may write to.
-/
namespace Go.Proofs.Ytcnebbhnpocofaa
set_option linter.unusedSimpArgs false
set_option linter.unusedVariables false
open Go.RowKit
def OwnR (w : World) (base : Nat) (e : TypeId) (size : Nat) (A : Option Addr) (c : Nat) (n : Nat) (xs : List Value) : Prop := w.ownsRow base e size (.slice A n c) n xs
section
variable {w w' : World} {base : Nat} {e : TypeId} {size : Nat} {A : Option Addr} {c n : Nat} {xs : List Value}
theorem OwnR.x (h : OwnR w base e size A c n xs) : OwnX w base e size (.slice A n c) n xs := .of h
theorem OwnR.nil (w : World) (base : Nat) (e : TypeId) (size : Nat) : OwnR w base e size none 0 0 [] := ⟨by simp, .inl ⟨rfl, rfl⟩⟩
theorem OwnR.cap (h : OwnR w base e size A c n xs) : n ≤ c := by
  rcases h.2 with ⟨h1, h2⟩ | ⟨g, cap, cur, h1, h2, h3, h4, h5, h6, h7⟩
  · omega
  · injection h1 with e1 e2 e3
    omega
theorem OwnR.capm (h : OwnR w base e size A c n xs) : c ≤ maxLen := by
  rcases h.2 with ⟨h1, h2⟩ | ⟨g, cap, cur, h1, h2, h3, h4, h5, h6, h7⟩
  · injection h1 with e1 e2 e3
    unfold maxLen
    omega
  · injection h1 with e1 e2 e3
    omega
theorem OwnR.lt (h : OwnR w base e size A c n xs) : ∀ k, (Value.slice A n c).ownBlock = some k → base ≤ k ∧ k < w.heap.size := h.x.lt
theorem OwnR.mono {base' : Nat} (h : OwnR w base e size A c n xs) (hb : base' ≤ base) : OwnR w base' e size A c n xs := by
  refine ⟨h.1, ?_⟩
  rcases h.2 with h0 | ⟨g, cap, cur, h1, h2, h3⟩
  · exact .inl h0
  · exact .inr ⟨g, cap, cur, h1, by omega, h3⟩
theorem OwnR.heap (h : OwnR w base e size A c n xs) (hk : ∀ k cs, w.heap[k]? = some (.cells cs e (0, 0)) → base ≤ k → w'.heap[k]? = some (.cells cs e (0, 0))) : OwnR w' base e size A c n xs := by
  refine ⟨h.1, ?_⟩
  rcases h.2 with h0 | ⟨g, cap, cur, h1, h2, h3, h4⟩
  · exact .inl h0
  · exact .inr ⟨g, cap, cur, h1, h2, hk _ _ h3 h2, h4⟩
theorem OwnR.keep {f : TypeId} (h : OwnR w base e size A c n xs) (hk : KeepBut f w w') (ht : e ≠ f) : OwnR w' base e size A c n xs := h.heap fun k cs h1 _ => heap_keep hk ht h1
theorem OwnR.alloc (h : OwnR w base e size A c n xs) (o : Obj) : OwnR (w.alloc o) base e size A c n xs := h.heap fun k cs h1 _ => (Below.heap_alloc w o k (Array.getElem?_eq_some_iff.1 h1).1).trans h1
theorem OwnR.below (h : OwnR w base e size A c n xs) (hb : Below w.heap.size w w') : OwnR w' base e size A c n xs := h.heap fun k cs h1 _ => (hb.block k (Array.getElem?_eq_some_iff.1 h1).1).trans h1
theorem OwnR.row (h : OwnR w base e size A c n xs) : Row w w.heap.size e A xs := .of_own h.x
end
theorem KeepBut.refl (e : TypeId) (w : World) : KeepBut e w w := ⟨Nat.le_refl _, fun _ _ _ _ _ h => h⟩
theorem KeepBut.trans {e : TypeId} {a b c : World} (h : KeepBut e a b) (h' : KeepBut e b c) : KeepBut e a c := ⟨Nat.le_trans h.1 h'.1, fun k cs t fz ht hk => h'.2 k cs t fz ht (h.2 k cs t fz ht hk)⟩
theorem KeepBut.of_below {e : TypeId} {a b : World} (h : Below a.heap.size a b) : KeepBut e a b := ⟨h.size, fun k cs t fz _ hk => (h.block k (Array.getElem?_eq_some_iff.1 hk).1).trans hk⟩
theorem KeepBut.of_wrote {e : TypeId} {a b : World} {g : Nat} {cs : Array Value} (h : Wrote g a b) (hb : Blk a g e cs) : KeepBut e a b := ⟨h.grown.size, fun k cs' t fz ht hk => by
  refine (h.grown.block k (Array.getElem?_eq_some_iff.1 hk).1 (fun hg => ?_)).trans hk
  injection hg with hg
  subst hg
  unfold Blk at hb
  rw [hb] at hk
  injection hk with hk
  injection hk with h1 h2
  exact ht h2.symm⟩
section
variable {P : Program}
theorem run_append_r {w : World} {t ty e : TypeId} {size bytes : Nat} (T : SlT P t e size bytes) {base n c : Nat} {A : Option Addr} {xs : List Value} (hown : OwnR w base e size A c n xs)
    {Ad : Option Addr} {m cx : Nat} {news : List Value} (hl : news.length = m * size) (hnews : ∀ j u, news[j]? = some u → ∃ ad, Ad = some ad ∧ w.cell? (ad.add j) = some u) (h1 : ∀ u ∈ news, u.oneCell' = true)
    (h63 : n + m ≤ maxLen) (hbytes : (n + m) * bytes ≤ 140737488355328) (hbase : base ≤ w.heap.size) :
    ∃ A' c' w', (Builtin.append_ #[t, t] ty #[.slice A n c, .slice Ad m cx]).run P w = .ok (.slice A' (n + m) c') w' ∧ OwnR w' base e size A' c' (n + m) (xs ++ news) ∧ w.grownBy w' (Value.slice A n c).ownBlock ∧ Next w (.slice A n c) (.slice A' (n + m) c') := by
  obtain ⟨i, z, hi, hz, hsz, hby, hzs⟩ := T.info
  by_cases hm : m = 0
  · subst hm
    have hnn : news = [] := List.eq_nil_of_length_eq_zero (by simpa using hl)
    subst hnn
    have hcap := hown.cap
    refine ⟨A, c, w, ?_, by simpa using hown, World.grownBy.refl _ _, .inl rfl⟩
    rcases hown.2 with ⟨h1, h2⟩ | ⟨g, cap, cur, h1, h2, h3, h4, h5, h6, h7⟩
    · injection h1 with e1 e2 e3
      subst e1 e2 e3
      cases Ad <;> simp [Builtin.append_, run_underlying T.und, sizeOf, typeInfo, hi, Builtin.lenOf, Builtin.firstCells, loadCells, loadCellsFrom]
    · injection h1 with e1 e2 e3
      subst e1 e3
      cases Ad <;> simp [Builtin.append_, run_underlying T.und, sizeOf, typeInfo, hi, Builtin.lenOf, Builtin.firstCells, loadCells, loadCellsFrom, hcap, storeCells]
  · have hpos : 0 < news.length := by rw [hl]; exact Nat.mul_pos (by omega) T.pos
    obtain ⟨ad, rfl, _⟩ := hnews 0 _ (List.getElem?_eq_getElem hpos)
    have hcells : ∀ j u, news[j]? = some u → w.cell? (ad.add j) = some u := fun j u hu => by
      obtain ⟨ad', he, hc⟩ := hnews j u hu
      injection he with he
      subst he
      exact hc
    obtain ⟨v', w', hr, h2, h3, _, h5⟩ := run_append_own_at (P := P) w base t ty e i z size bytes T.und hi hz hsz hby hzs T.pos (.slice A n c) n xs hown ad m cx news hl hcells h1 h63 hbytes hbase
    have hn : Next w (.slice A n c) v' := by
      rcases h5 with h5 | h5
      · exact .inl h5
      · exact .inr fun k hk => by rw [h5] at hk; simp at hk; omega
    have hv : ∃ A' c', v' = .slice A' (n + m) c' := by
      rcases h2.2 with ⟨_, h0⟩ | ⟨g, cap, cur, rfl, _⟩
      · omega
      · exact ⟨_, _, rfl⟩
    obtain ⟨A', c', rfl⟩ := hv
    exact ⟨A', c', w', hr, h2, h3, hn⟩
theorem wpList_append_r {w : World} {ops : Array Oper} {rest : List Oper} {o : Oper} {a : Act} {Q : Exit → Act → World → Prop} {sl x : Operand} {t e : TypeId} {size bytes : Nat} (T : SlT P t e size bytes)
    (hgd : o.guard = none) (ho : o.op = .call { callee := .builtin .append, args := #[sl, x], argTypes := #[t, t] })
    {base n c B : Nat} {A : Option Addr} {xs : List Value} {Ad : Option Addr} {m cx : Nat} {news : List Value} (hown : OwnR w base e size A c n xs) (hs : a.eval sl = .slice A n c) (hx : a.eval x = .slice Ad m cx)
    (hl : news.length = m * size) (hr : Rd w B Ad news) (h1 : ∀ u ∈ news, u.oneCell' = true)
    (h63 : n + m ≤ maxLen) (hbytes : (n + m) * bytes ≤ 140737488355328) (hbase : base ≤ w.heap.size)
    (h : ∀ A' c' w', OwnR w' base e size A' c' (n + m) (xs ++ news) → w.grownBy w' (Value.slice A n c).ownBlock → Next w (.slice A n c) (.slice A' (n + m) c') → wpList P ops Q rest (a.put o.dst (.slice A' (n + m) c')) w') :
    wpList P ops Q (o :: rest) a w := by
  obtain ⟨A', c', w', hrun, h2, h3, h4⟩ := run_append_r (ty := o.type) (cx := cx) T hown hl (fun j u hu => by
    obtain ⟨ad, h1, _, h3⟩ := hr j u hu
    exact ⟨ad, h1, h3⟩) h1 h63 hbytes hbase
  refine wpList_of_append (R := fun v' w1 => v' = .slice A' (n + m) c' ∧ w1 = w') hgd ho hs hx ⟨_, _, hrun, rfl, rfl⟩ ?_
  rintro v' w1 ⟨rfl, rfl⟩
  exact h _ _ _ h2 h3 h4
theorem wpList_append_r1 {w0 : World} {ys : List Value} {ops : Array Oper} {rest : List Oper} {o : Oper} {a : Act} {Q : Exit → Act → World → Prop} {s x : Operand} {t e : TypeId} {size bytes : Nat} (T : SlT P t e size bytes)
    (hgd : o.guard = none) (ho : o.op = .call { callee := .builtin .append, args := #[s, x], argTypes := #[t, t] })
    {base n c ad : Nat} {A : Option Addr} {xs : List Value} (hown : OwnR w0 base e size A c n xs) (hs : a.eval s = .slice A n c) (hx : a.eval x = .slice (some ⟨ad, 0, none⟩) 1 1) (had : ad = w0.heap.size) (hm : ys.length = size)
    (hy : ∀ u ∈ ys, u.oneCell' = true)
    (h63 : n + 1 ≤ maxLen) (hbytes : (n + 1) * bytes ≤ 140737488355328) (hbase : base ≤ w0.heap.size)
    (h : ∀ A' c' w', OwnR w' base e size A' c' (n + 1) (xs ++ ys) → w0.grownBy w' (Value.slice A n c).ownBlock → Next w0 (.slice A n c) (.slice A' (n + 1) c') → wpList P ops Q rest (a.put o.dst (.slice A' (n + 1) c')) w') :
    wpList P ops Q (o :: rest) a (w0.alloc (.cells ys.toArray e)) := by
  subst had
  obtain ⟨A', c', w', hrun, h2, h3, h4⟩ := run_append_r (ty := o.type) (cx := 1) (Ad := some ⟨w0.heap.size, 0, none⟩) T (hown.alloc (.cells ys.toArray e)) (news := ys) (m := 1) (by omega) (fun j u hu => ⟨_, rfl, by
    have hadd : (⟨w0.heap.size, 0, none⟩ : Addr).add j = ⟨w0.heap.size, j, none⟩ := by unfold Addr.add; split <;> simp_all
    rw [hadd, cell_of_row _ _ _ _ _ (0, 0) (heap_alloc_new w0 _)]
    simpa using hu⟩) hy h63 hbytes (by simp; omega)
  refine wpList_of_append (R := fun v' w1 => v' = .slice A' (n + 1) c' ∧ w1 = w') hgd ho hs hx ⟨_, _, hrun, rfl, rfl⟩ ?_
  rintro v' w1 ⟨rfl, rfl⟩
  exact h _ _ _ h2 ((World.grownBy_alloc w0 _ _).trans h3) (h4.back (by simp))
end
end Go.Proofs.Ytcnebbhnpocofaa
/-
  Plain: a ledger, as it lies in memory.
-/
namespace Go.Proofs.Ytcnebbhnpocofaa
set_option linter.unusedSimpArgs false
set_option linter.unusedVariables false
open Go.RowKit
structure NodeD where
  name : ByteArray
  key : ByteArray
  exp : Int
  seq : Int
  doc : ByteArray
def nodeCells (k : NodeD) : Array Value := #[.string k.name, .string k.key, .int .i64 k.exp, .int .i64 k.seq, .string k.doc]
structure JoinD where
  text : ByteArray
  name : ByteArray
  exp : Int
  used : Bool
def joinCells (k : JoinD) : Array Value := #[.string k.text, .string k.name, .int .i64 k.exp, .bool k.used]
structure SkeyD where
  kid : ByteArray
  seed : ByteArray
  state : Int
  since : Int
def skeyCells (k : SkeyD) : Array Value := #[.string k.kid, .string k.seed, .int .i64 k.state, .int .i64 k.since]
structure EntD where
  n : Int
  path : ByteArray
  parent : ByteArray
  ttl : Int
  sA : Option Addr
  sn : Nat
  sc : Nat
def entCells (k : EntD) : Array Value := #[.int .i64 k.n, .string k.path, .string k.parent, .int .i64 k.ttl, .slice k.sA k.sn k.sc]
structure JwkD where
  kid : ByteArray
  x : ByteArray
def jwkCells (k : JwkD) : Array Value := #[.string k.kid, .string k.x]
structure BunD where
  dom : ByteArray
  num : Int
  kA : Option Addr
  kn : Nat
  kc : Nat
def bunCells (k : BunD) : Array Value := #[.string k.dom, .int .i64 k.num, .slice k.kA k.kn k.kc]
def strCell (s : ByteArray) : Array Value := #[.string s]
theorem nodeCells_one (k : NodeD) : (nodeCells k).all (·.oneCell') = true := by simp [nodeCells, Value.oneCell']
theorem joinCells_one (k : JoinD) : (joinCells k).all (·.oneCell') = true := by simp [joinCells, Value.oneCell']
theorem skeyCells_one (k : SkeyD) : (skeyCells k).all (·.oneCell') = true := by simp [skeyCells, Value.oneCell']
theorem entCells_one (k : EntD) : (entCells k).all (·.oneCell') = true := by simp [entCells, Value.oneCell']
theorem jwkCells_one (k : JwkD) : (jwkCells k).all (·.oneCell') = true := by simp [jwkCells, Value.oneCell']
theorem bunCells_one (k : BunD) : (bunCells k).all (·.oneCell') = true := by simp [bunCells, Value.oneCell']
theorem strCell_one (k : ByteArray) : (strCell k).all (·.oneCell') = true := by simp [strCell, Value.oneCell']
theorem nodeT_size : (Try.prog.info? 40).map (·.size) = some 5 := by kernel_rfl
theorem joinT_size : (Try.prog.info? 38).map (·.size) = some 4 := by kernel_rfl
theorem skeyT_size : (Try.prog.info? 42).map (·.size) = some 4 := by kernel_rfl
theorem entT_size : (Try.prog.info? 36).map (·.size) = some 5 := by kernel_rfl
theorem bunT_size : (Try.prog.info? 45).map (·.size) = some 3 := by kernel_rfl
theorem jwkT_size : (Try.prog.info? 76).map (·.size) = some 2 := by kernel_rfl
theorem ledT_size : (Try.prog.info? 33).map (·.size) = some 6 := by kernel_rfl
theorem opT_size : (Try.prog.info? 47).map (·.size) = some 24 := by kernel_rfl
theorem sl_nodes : SlT Try.prog 27 40 5 64 := SlT.mk1 (z := .agg #[.string ⟨#[]⟩, .string ⟨#[]⟩, .int .i64 0, .int .i64 0, .string ⟨#[]⟩]) Try.underlying27 (by kernel_rfl) rfl (by decide)
theorem sl_joins : SlT Try.prog 29 38 4 48 := SlT.mk1 (z := .agg #[.string ⟨#[]⟩, .string ⟨#[]⟩, .int .i64 0, .bool false]) Try.underlying29 (by kernel_rfl) rfl (by decide)
theorem sl_skeys : SlT Try.prog 30 42 4 48 := SlT.mk1 (z := .agg #[.string ⟨#[]⟩, .string ⟨#[]⟩, .int .i64 0, .int .i64 0]) Try.underlying30 (by kernel_rfl) rfl (by decide)
theorem sl_ents : SlT Try.prog 26 36 5 72 := SlT.mk1 (z := .agg #[.int .i64 0, .string ⟨#[]⟩, .string ⟨#[]⟩, .int .i64 0, .slice none 0 0]) Try.underlying26 (by kernel_rfl) rfl (by decide)
theorem sl_buns : SlT Try.prog 31 45 3 48 := SlT.mk1 (z := .agg #[.string ⟨#[]⟩, .int .i64 0, .slice none 0 0]) Try.underlying31 (by kernel_rfl) rfl (by decide)
theorem sl_jwks : SlT Try.prog 43 76 2 32 := SlT.mk1 (z := .agg #[.string ⟨#[]⟩, .string ⟨#[]⟩]) Try.underlying43 (by kernel_rfl) rfl (by decide)
theorem sl_strz : SlT Try.prog 28 9 1 16 := SlT.mk1 (z := .string ⟨#[]⟩) Try.underlying28 (by kernel_rfl) rfl (by decide)
structure Sl (α : Type) where
  A : Option Addr
  c : Nat
  l : List α
def Sl.v {α : Type} (s : Sl α) : Value := .slice s.A s.l.length s.c
def Sl.nil {α : Type} : Sl α := ⟨none, 0, []⟩
structure LedD where
  ents : Sl EntD
  nodes : Sl NodeD
  bans : Sl ByteArray
  joins : Sl JoinD
  keys : Sl SkeyD
  buns : Sl BunD
def ledCells (d : LedD) : Array Value := #[d.ents.v, d.nodes.v, d.bans.v, d.joins.v, d.keys.v, d.buns.v]
def zLed : LedD := ⟨.nil, .nil, .nil, .nil, .nil, .nil⟩
theorem ledCells_one (d : LedD) : (ledCells d).all (·.oneCell') = true := by simp [ledCells, Sl.v, Value.oneCell']
structure Sl.Ok {α : Type} (w : World) (t : TypeId) (f : α → Array Value) (K : Nat) (s : Sl α) : Prop where
  row : Row w w.heap.size t s.A (rowsV f s.l)
  len : s.l.length ≤ K
  cap : s.l.length ≤ s.c
structure Sl.Own {α : Type} (w : World) (base : Nat) (t : TypeId) (m : Nat) (f : α → Array Value) (K : Nat) (s : Sl α) : Prop where
  own : OwnR w base t m s.A s.c s.l.length (rowsV f s.l)
  len : s.l.length ≤ K
theorem Sl.Own.ok {α : Type} {w : World} {base : Nat} {t : TypeId} {m : Nat} {f : α → Array Value} {K : Nat} {s : Sl α} (h : s.Own w base t m f K) : s.Ok w t f K := ⟨h.own.row, h.len, h.own.cap⟩
def EntOk (w : World) (x : EntD) : Prop := x.sn ≤ x.sc ∧ x.sn ≤ 1000 ∧ ∃ l : List ByteArray, l.length = x.sn ∧ Row w w.heap.size 9 x.sA (rowsV strCell l)
def BunOk (w : World) (x : BunD) : Prop := x.kn ≤ x.kc ∧ x.kn ≤ 1000 ∧ ∃ l : List JwkD, l.length = x.kn ∧ Row w w.heap.size 76 x.kA (rowsV jwkCells l)
structure LedOk (w : World) (K : Nat) (d : LedD) : Prop where
  ents : d.ents.Ok w 36 entCells K
  nodes : d.nodes.Ok w 40 nodeCells K
  bans : d.bans.Ok w 9 strCell K
  joins : d.joins.Ok w 38 joinCells K
  keys : d.keys.Ok w 42 skeyCells K
  buns : d.buns.Ok w 45 bunCells K
  entOk : ∀ x ∈ d.ents.l, EntOk w x
  bunOk : ∀ x ∈ d.buns.l, BunOk w x
section
variable {w w' : World} {K : Nat} {d : LedD}
theorem Sl.Ok.grow {α : Type} {t : TypeId} {f : α → Array Value} {s : Sl α} (h : s.Ok w t f K) (hb : Below w.heap.size w w') : s.Ok w' t f K := ⟨h.row.grow hb, h.len, h.cap⟩
theorem Sl.Ok.keep {α : Type} {t e : TypeId} {f : α → Array Value} {s : Sl α} (h : s.Ok w t f K) (hk : KeepBut e w w') (ht : t ≠ e) : s.Ok w' t f K := ⟨(h.row.keep hk ht).mono hk.1, h.len, h.cap⟩
theorem Sl.Ok.more {α : Type} {t : TypeId} {f : α → Array Value} {s : Sl α} {K' : Nat} (h : s.Ok w t f K) (hk : K ≤ K') : s.Ok w t f K' := ⟨h.row, Nat.le_trans h.len hk, h.cap⟩
theorem Sl.Ok.nil {α : Type} (w : World) (t : TypeId) (f : α → Array Value) (K : Nat) : (Sl.nil : Sl α).Ok w t f K := ⟨Row.nil _ _ _ _, Nat.zero_le _, Nat.zero_le _⟩
theorem EntOk.grow {x : EntD} (h : EntOk w x) (hb : Below w.heap.size w w') : EntOk w' x := by
  obtain ⟨h1, h2, l, h3, h4⟩ := h
  exact ⟨h1, h2, l, h3, h4.grow hb⟩
theorem EntOk.keep {e : TypeId} {x : EntD} (h : EntOk w x) (hk : KeepBut e w w') (ht : 9 ≠ e) : EntOk w' x := by
  obtain ⟨h1, h2, l, h3, h4⟩ := h
  exact ⟨h1, h2, l, h3, (h4.keep hk ht).mono hk.1⟩
theorem BunOk.grow {x : BunD} (h : BunOk w x) (hb : Below w.heap.size w w') : BunOk w' x := by
  obtain ⟨h1, h2, l, h3, h4⟩ := h
  exact ⟨h1, h2, l, h3, h4.grow hb⟩
theorem BunOk.keep {e : TypeId} {x : BunD} (h : BunOk w x) (hk : KeepBut e w w') (ht : 76 ≠ e) : BunOk w' x := by
  obtain ⟨h1, h2, l, h3, h4⟩ := h
  exact ⟨h1, h2, l, h3, (h4.keep hk ht).mono hk.1⟩
theorem LedOk.grow (h : LedOk w K d) (hb : Below w.heap.size w w') : LedOk w' K d :=
  ⟨h.ents.grow hb, h.nodes.grow hb, h.bans.grow hb, h.joins.grow hb, h.keys.grow hb, h.buns.grow hb, fun x hx => (h.entOk x hx).grow hb, fun x hx => (h.bunOk x hx).grow hb⟩
theorem LedOk.more {K' : Nat} (h : LedOk w K d) (hk : K ≤ K') : LedOk w K' d :=
  ⟨h.ents.more hk, h.nodes.more hk, h.bans.more hk, h.joins.more hk, h.keys.more hk, h.buns.more hk, h.entOk, h.bunOk⟩
theorem LedOk.box (h : LedOk w K d) (hk : KeepBut 33 w w') : LedOk w' K d :=
  ⟨h.ents.keep hk (by decide), h.nodes.keep hk (by decide), h.bans.keep hk (by decide), h.joins.keep hk (by decide), h.keys.keep hk (by decide), h.buns.keep hk (by decide), fun x hx => (h.entOk x hx).keep hk (by decide), fun x hx => (h.bunOk x hx).keep hk (by decide)⟩
theorem zLed_ok (w : World) : LedOk w 0 zLed := ⟨.nil _ _ _ _, .nil _ _ _ _, .nil _ _ _ _, .nil _ _ _ _, .nil _ _ _ _, .nil _ _ _ _, fun x hx => (by cases hx), fun x hx => (by cases hx)⟩
end
end Go.Proofs.Ytcnebbhnpocofaa
/-
  Walks: the reference's Selector, Has, Same (some answer each; Has: whether it is there).
-/
namespace Go.Proofs.Ytcnebbhnpocofaa
set_option linter.unusedSimpArgs false
set_option linter.unusedVariables false
open Go.RowKit
theorem rowsV_str (l : List ByteArray) : rowsV strCell l = l.map Value.string := by
  induction l with
  | nil => rfl
  | cons x r ih => rw [show rowsV strCell (x :: r) = (strCell x).toList ++ rowsV strCell r by simp [rowsV], ih]; rfl
set_option maxHeartbeats 1000000 in
theorem selector9_any (s : ByteArray) (hs : s.size ≤ 1000) (w : World) : Calls Try.prog 65 #[.string s] w (SomeB w) := by
  have hs' : (s.size : Int) ≤ 1000 := by omega
  have CO := Lib.hid (fun (u t : ByteArray) (n : Int) (hu : u.size ≤ 1000) (ht : t.size ≤ 1000) => of9_any u t n hu ht w)
  go_enter Try.func65, Try.ntmps65
  go_wp2_with fail
  go_loop [3] (fun i => ∃ k : Nat, k ≤ s.size ∧ i = .int .i64 (k : Int)) (fun i => s.size - (intOf i).toNat)
  case atStart => exact ⟨0, by omega, rfl⟩
  case round =>
    obtain ⟨k, hk, rfl⟩ := hrel
    by_cases hlt : k < s.size
    · have l2 : decide ((k : Int) < (s.size : Int)) = true := by simp; omega
      have l2' : (k : Int) < (s.size : Int) := by omega
      by_cases hq : ((s[k].toNat : Nat) : Int) = 58
      · have l3 : ((k : Int) == (s.size : Int)) = false := by simp; omega
        have l4 : ¬ (k : Int) = (s.size : Int) := by omega
        have HW : (s.extract 0 k).size ≤ 1000 := by simp; omega
        have i1 : (k : Int) + 1 ≤ (s.size : Int) := by omega
        have HV : (s.extract (k + 1) s.size).size ≤ 1000 := by simp; omega
        go_wp2_with fail
        refine calls_then (CO.out _ _ _ HW (by decide)) ?_
        rintro e w' ⟨⟨b, rfl, _⟩, rfl⟩
        generalize s.extract 0 k = u0 at *
        go_wp2_with fail
        generalize hv : s.extract (k + 1) s.size = v at *
        have hv' : (v.size : Int) ≤ 1000 := by omega
        clear hv
        go_loop [6] (fun i => ∃ j : Nat, j ≤ v.size ∧ i = .int .i64 (j : Int)) (fun i => v.size - (intOf i).toNat)
        case atStart => exact ⟨0, by omega, rfl⟩
        case round =>
          obtain ⟨j, hj, rfl⟩ := hrel
          by_cases hlj : j < v.size
          · by_cases c1 : ((v[j].toNat : Nat) : Int) < 33
            · have e1 : decide (((v[j].toNat : Nat) : Int) < 33) = true := by simpa using c1
              go_wp2_with fail
              go_ret
              exact ⟨⟨_, rfl⟩, rfl⟩
            · have e1 : decide (((v[j].toNat : Nat) : Int) < 33) = false := by simpa using c1
              by_cases c2 : (126 : Int) < ((v[j].toNat : Nat) : Int)
              · go_wp2_with fail
                go_ret
                exact ⟨⟨_, rfl⟩, rfl⟩
              · go_wp2_with fail
                go_round
                case rel => exact ⟨j + 1, by omega, by go_num⟩
                case measure => simp [intOf]; omega
          · cases b with
            | false =>
              go_wp2_with fail
              go_ret
              exact ⟨⟨_, rfl⟩, rfl⟩
            | true =>
              by_cases c1 : (1 : Int) ≤ (v.size : Int)
              · have e1 : decide ((1 : Int) ≤ (v.size : Int)) = true := by simpa using c1
                go_wp2_with fail
                go_ret
                exact ⟨⟨_, rfl⟩, rfl⟩
              · have e1 : decide ((1 : Int) ≤ (v.size : Int)) = false := by simpa using c1
                go_wp2_with fail
                go_ret
                exact ⟨⟨_, rfl⟩, rfl⟩
      · go_wp2_with fail
        go_round
        case rel => exact ⟨k + 1, by omega, by go_num⟩
        case measure => simp [intOf]; omega
    · obtain rfl : k = s.size := by omega
      go_wp2_with fail
      go_ret
      exact ⟨⟨_, rfl⟩, rfl⟩
end Go.Proofs.Ytcnebbhnpocofaa
/-
  Walks: the reference's Same, Set.
-/
namespace Go.Proofs.Ytcnebbhnpocofaa
set_option linter.unusedSimpArgs false
set_option linter.unusedVariables false
open Go.RowKit
set_option maxHeartbeats 1000000 in
theorem same9_some (A1 A2 : Option Addr) (c1 c2 B : Nat) (a b : List ByteArray) (w : World) (h1 : Rd w B A1 (a.map Value.string)) (h2 : Rd w B A2 (b.map Value.string)) (hm1 : a.length ≤ 1000) (hm2 : b.length ≤ 1000) :
    Calls Try.prog 39 #[.slice A1 a.length c1, .slice A2 b.length c2] w fun e w' => (∃ r : Bool, e = .returned (.bool r)) ∧ ∃ n, w' = w.drewN n := by
  by_cases hl : a.length = b.length
  · have hlb : ((a.length : Int) != (b.length : Int)) = false := by simp [hl]
    have HL := Lib.hid hl
    clear hl
    go_enter Try.func39, Try.ntmps39
    go_wp2_with fail
    go_loopw [5] (fun i wr => ∃ k : Nat, k ≤ a.length ∧ i = .int .i64 k ∧ ∃ n, wr = w.drewN n) (fun i _ => a.length - (intOf i).toNat)
    case atStart => exact ⟨0, Nat.zero_le _, rfl, 0, rfl⟩
    case round =>
      obtain ⟨k, hk, rfl, n, rfl⟩ := hrel
      by_cases hlt : k < a.length
      · have hltb : k < b.length := by have := HL.out; omega
        obtain ⟨ad1, rfl, _, hc1⟩ := h1.at_ (k := k) (by simp; omega)
        obtain ⟨ad2, rfl, _, hc2⟩ := h2.at_ (k := k) (by simp; omega)
        simp only [List.getElem_map] at hc1 hc2
        have hk1 : (0 : Int) ≤ (k : Int) := by omega
        have hk2 : (k : Int) < (a.length : Int) := by omega
        have hk3 : (k : Int) < (b.length : Int) := by omega
        go_wp2_with fail
        go_quiet (fail)
        go_wp2_with fail
        · go_ret
          exact ⟨⟨_, rfl⟩, _, World.drewN_drewN _ _ _⟩
        · go_roundw
          case rel => exact ⟨k + 1, hlt, by go_num, _, rfl⟩
          case measure => simp [intOf]; omega
      · go_wp2_with fail
        go_ret
        exact ⟨⟨_, rfl⟩, _, rfl⟩
  · have hlb : ((a.length : Int) != (b.length : Int)) = true := by simp; omega
    clear hl
    go_enter Try.func39, Try.ntmps39
    go_wp2_with fail
    go_ret
    exact ⟨⟨_, rfl⟩, 0, rfl⟩
end Go.Proofs.Ytcnebbhnpocofaa
/-
  Walk: the reference's Set. (Printed by gen/set9.py.)
-/
namespace Go.Proofs.Ytcnebbhnpocofaa
set_option linter.unusedSimpArgs false
set_option linter.unusedVariables false
open Go.RowKit
theorem toList_nil9 : (⟨#[]⟩ : ByteArray).toList = [] := by rw [toList_eq]
theorem below_drewN9 {B : Nat} {a w : World} (h : Below B a w) (n : Nat) : Below B a (w.drewN n) := ⟨h.os, h.tape, h.output, h.size, h.block⟩
theorem bl_irr : ∀ x : List UInt8, Op.bytesLess x x = false
  | [] => rfl
  | a :: x => by simp [Op.bytesLess, bl_irr x]
theorem bl_trans : ∀ x y z : List UInt8, Op.bytesLess x y = true → Op.bytesLess y z = true → Op.bytesLess x z = true
  | x, [], z, h1, h2 => by cases x <;> simp [Op.bytesLess] at h1
  | [], b :: y, [], h1, h2 => by simp [Op.bytesLess] at h2
  | [], b :: y, c :: z, h1, h2 => by simp [Op.bytesLess]
  | a :: x, b :: y, [], h1, h2 => by simp [Op.bytesLess] at h2
  | a :: x, b :: y, c :: z, h1, h2 => by
    simp only [Op.bytesLess, Bool.or_eq_true, decide_eq_true_eq, Bool.and_eq_true, beq_iff_eq] at h1 h2 ⊢
    rcases h1 with h1 | ⟨rfl, h1⟩
    · rcases h2 with h2 | ⟨rfl, h2⟩
      · exact .inl (UInt8.lt_trans h1 h2)
      · exact .inl h1
    · rcases h2 with h2 | ⟨rfl, h2⟩
      · exact .inl h2
      · exact .inr ⟨rfl, bl_trans x y z h1 h2⟩
theorem bl_conn : ∀ x y : List UInt8, Op.bytesLess x y = false → x ≠ y → Op.bytesLess y x = true
  | [], [], _, h => absurd rfl h
  | [], b :: y, h, _ => by simp [Op.bytesLess] at h
  | a :: x, [], _, _ => by simp [Op.bytesLess]
  | a :: x, b :: y, h1, h2 => by
    simp only [Op.bytesLess, Bool.or_eq_false_iff, decide_eq_false_iff_not, Bool.and_eq_false_iff, beq_eq_false_iff_ne] at h1
    simp only [Op.bytesLess, Bool.or_eq_true, decide_eq_true_eq, Bool.and_eq_true, beq_iff_eq]
    obtain ⟨h3, h4⟩ := h1
    by_cases e : a = b
    · subst e
      refine .inr ⟨rfl, bl_conn x y ?_ (fun e => h2 (by rw [e]))⟩
      rcases h4 with h4 | h4
      · exact absurd rfl h4
      · exact h4
    · left
      rw [UInt8.lt_iff_toNat_lt] at h3 ⊢
      have : a.toNat ≠ b.toNat := fun h => e (UInt8.toNat_inj.1 h)
      omega
def gtS (a b : ByteArray) : Bool := Op.bytesLess b.toList a.toList
theorem gtS_of {a b : ByteArray} (h : (!(Op.bytesLess a.toList b.toList || a.toList == b.toList)) = true) : gtS a b = true := by
  simp only [Bool.not_eq_true', Bool.or_eq_false_iff, beq_eq_false_iff_ne] at h
  exact bl_conn _ _ h.1 h.2
def cntS (l xs : List ByteArray) : Nat := match xs.getLast? with | none => l.length | some z => (l.filter fun x => gtS x z).length
theorem cntS_step {l xs : List ByteArray} {b : ByteArray} (hb : b ∈ l) (h : ∀ z, xs.getLast? = some z → gtS b z = true) : cntS l (xs ++ [b]) < cntS l xs := by
  have key : ∀ (p q : ByteArray → Bool) (l : List ByteArray), (∀ x, q x = true → p x = true) → b ∈ l → p b = true → q b = false → (l.filter q).length < (l.filter p).length := by
    intro p q l hpq
    induction l with
    | nil => intro h; cases h
    | cons x r ih =>
      intro hm hp hq
      have hle : (r.filter q).length ≤ (r.filter p).length := by
        clear ih hm
        induction r with
        | nil => simp
        | cons y r ih2 =>
          by_cases h1 : q y = true
          · simp [List.filter_cons, h1, hpq y h1]; omega
          · by_cases h2 : p y = true <;> simp [List.filter_cons, h1, h2] <;> omega
      by_cases e : x = b
      · subst e
        simp [List.filter_cons, hp, hq]
        omega
      · have hm' : b ∈ r := by
          rcases List.mem_cons.1 hm with h | h
          · exact absurd h.symm e
          · exact h
        have := ih hm' hp hq
        by_cases h1 : q x = true
        · simp [List.filter_cons, h1, hpq x h1]; omega
        · by_cases h2 : p x = true <;> simp [List.filter_cons, h1, h2] <;> omega
  have irr : gtS b b = false := bl_irr _
  simp only [cntS, List.getLast?_append, List.getLast?_singleton, Option.some_or]
  cases hz : xs.getLast? with
  | none =>
    have := key (fun _ => true) (fun x => gtS x b) l (fun _ _ => rfl) hb rfl irr
    rw [show List.filter (fun _ => true) l = l from List.filter_eq_self.2 (fun _ _ => rfl)] at this
    exact this
  | some z => exact key (fun x => gtS x z) (fun x => gtS x b) l (fun x hx => bl_trans _ _ _ (h z hz) hx) hb (h z hz) irr
def SetIn (l xs : List ByteArray) (bst : ByteArray) : Prop := bst.toList = [] ∨ (bst ∈ l ∧ ∀ z, xs.getLast? = some z → gtS bst z = true)
def SetPost (w : World) (e : Ending) (w' : World) : Prop := ∃ A c, ∃ xs : List ByteArray, ∃ f : Int, e = .returned (.tuple #[.slice A xs.length c, .int .i64 f]) ∧ xs.length ≤ 1000 ∧ xs.length ≤ c ∧ Row w' w'.heap.size 9 A (rowsV strCell xs) ∧ Below w.heap.size w w'
set_option maxRecDepth 100000 in
set_option maxHeartbeats 4000000 in
theorem set9_any (l : List ByteArray) (hl : l.length ≤ 1000) (hs : ∀ s ∈ l, s.size ≤ 1000) (A : Option Addr) (c : Nat) (w : World) (hr : Rd w w.heap.size A (l.map Value.string)) : Calls Try.prog 52 #[.slice A l.length c] w (SetPost w) := by
  have hl' : (l.length : Int) ≤ 1000 := by omega
  have HS := Lib.hid hs
  clear hs
  go_enter Try.func52, Try.ntmps52
  go_wp2_with fail
  go_loop [4] (fun i => ∃ k : Nat, k ≤ l.length ∧ i = .int .i64 (k : Int)) (fun i => l.length - (intOf i).toNat)
  case atStart => exact ⟨0, by omega, rfl⟩
  case round =>
    obtain ⟨k, hk, rfl⟩ := hrel
    by_cases hlt : k < l.length
    · obtain ⟨ad, rfl, _, hc⟩ := hr.at_ (k := k) (by simpa using hlt)
      simp only [List.getElem_map] at hc
      have hk2 : (k : Int) < (l.length : Int) := by omega
      have CS := Lib.hid (selector9_any l[k] (HS.out _ (List.getElem_mem hlt)) w)
      go_wp2_with fail
      refine calls_then CS.out ?_
      rintro e w' ⟨⟨b, rfl⟩, rfl⟩
      cases b with
      | true =>
        go_wp2_with fail
        go_round
        case rel => exact ⟨k + 1, by omega, by go_num⟩
        case measure => simp [intOf]; omega
      | false =>
        go_wp2_with fail
        go_ret2
        exact ⟨none, 0, [], 13, rfl, by simp, by simp, Row.nil _ _ _ _, Below.refl _ _⟩
    · obtain rfl : k = l.length := by omega
      go_wp2_with fail
      go_loopw [6] (fun out wr => ∃ (A1 : Option Addr) (c1 : Nat) (xs : List ByteArray), out = .slice A1 xs.length c1 ∧ OwnR wr w.heap.size 9 1 A1 c1 xs.length (rowsV strCell xs) ∧ Below w.heap.size w wr ∧ xs.length + cntS l xs ≤ l.length) (fun out _ => match out with | .slice _ n _ => l.length - n | _ => 0)
      case atStart => exact ⟨none, 0, [], rfl, OwnR.nil _ _ _ _, Below.refl _ _, by simp [cntS]⟩
      case round =>
        obtain ⟨A1, c1, xs, rfl, hown, hbel, hx⟩ := hrel
        have hxl : xs.length ≤ l.length := by omega
        have hxl' : (xs.length : Int) ≤ 1000 := by omega
        have HX := Lib.hid hx
        have HOWN := Lib.hid hown
        have HBEL := Lib.hid hbel
        clear hx hown hbel
        go_wp2_with fail
        go_loopw [7, 8] (fun b i wq => ∃ (k : Nat) (bst : ByteArray) (nd : Nat), k ≤ l.length ∧ i = .int .i64 (k : Int) ∧ b = .string bst ∧ wq = wr.drewN nd ∧ SetIn l xs bst) (fun _ i _ => l.length - (intOf i).toNat)
        case atStart => exact ⟨0, ⟨#[]⟩, 0, by omega, rfl, rfl, rfl, .inl toList_nil9⟩
        case round =>
          obtain ⟨k, bst, nd, hk, rfl, rfl, rfl, hin⟩ := hrel
          have HIN := Lib.hid hin
          clear hin
          by_cases hlt : k < l.length
          · obtain ⟨ad, rfl, hadb, hc0⟩ := hr.at_ (k := k) (by simpa using hlt)
            simp only [List.getElem_map] at hc0
            obtain ⟨x, hx⟩ : ∃ x, x = l[k] := ⟨_, rfl⟩
            rw [← hx] at hc0
            have HXL := Lib.hid (show x ∈ l by rw [hx]; exact List.getElem_mem hlt)
            have hc : wr.cell? (ad.add k) = some (.string x) := by rw [HBEL.out.cell (p := ad.add k) (by rw [block_of_add]; exact hadb)]; exact hc0
            have hk1 : (0 : Int) ≤ (k : Int) := by omega
            have hk2 : (k : Int) < (l.length : Int) := by omega
            clear hc0 hx
            by_cases hemp : xs = []
            · have HGT := Lib.hid (show ∀ z, xs.getLast? = some z → gtS x z = true from fun z hz => by rw [hemp] at hz; cases hz)
              have z1 : ((xs.length : Int) == 0) = true := by simp [hemp]
              have z2 : xs.length = 0 := by simp [hemp]
              clear hemp
              by_cases he : bst.toList = []
              · have e1 : (bst.toList == []) = true := by simpa using he
                have e2 : bst.toList.isEmpty = true := by simp [he]
                have e3 : (bst.toList == (⟨#[]⟩ : ByteArray).toList) = true := by rw [he, toList_nil9]; rfl
                go_wp2_with fail
                go_quiet (fail)
                go_wp2_with fail
                go_roundw
                case rel => exact ⟨k + 1, x, _, hlt, by go_num, rfl, rfl, .inr ⟨HXL.out, HGT.out⟩⟩
                case measure => simp [intOf]; omega
              · have e1 : (bst.toList == []) = false := by simpa using he
                have e2 : bst.toList.isEmpty = false := by simpa using he
                have e3 : (bst.toList == (⟨#[]⟩ : ByteArray).toList) = false := by rw [toList_nil9]; exact e1
                by_cases hlss : Op.bytesLess x.toList bst.toList = true
                ·
                  go_wp2_with fail
                  go_quiet (fail)
                  go_wp2_with fail
                  go_roundw
                  case rel => exact ⟨k + 1, x, _, hlt, by go_num, rfl, rfl, .inr ⟨HXL.out, HGT.out⟩⟩
                  case measure => simp [intOf]; omega
                · have hlss' : Op.bytesLess x.toList bst.toList = false := by simpa using hlss
                  go_wp2_with fail
                  go_quiet (fail)
                  go_wp2_with fail
                  go_roundw
                  case rel => exact ⟨k + 1, bst, _, hlt, by go_num, rfl, rfl, HIN.out⟩
                  case measure => simp [intOf]; omega
            · have hpos : 0 < xs.length := List.length_pos_iff.2 hemp
              have z1 : ((xs.length : Int) == 0) = false := by simp; omega
              have z2 : ¬ (xs.length : Int) = 0 := by omega
              have z3 : (0 : Int) ≤ (xs.length : Int) - 1 := by omega
              have z4 : (1 : Int) ≤ (xs.length : Int) := by omega
              have z5 : ((xs.length : Int) - 1).toNat = xs.length - 1 := by omega
              obtain ⟨z, hz⟩ : ∃ z, xs.getLast? = some z := ⟨xs.getLast hemp, List.getLast?_eq_some_getLast hemp⟩
              obtain ⟨ad2, rfl, _, hcz⟩ := (HOWN.out.row.rd).at_ (k := xs.length - 1) (by rw [rowsV_str]; simp; omega)
              simp only [rowsV_str, List.getElem_map] at hcz
              have hzz : xs[xs.length - 1] = z := by rw [List.getLast?_eq_getElem?] at hz; exact (List.getElem?_eq_some_iff.1 hz).2
              rw [hzz] at hcz
              by_cases hg : (!(Op.bytesLess x.toList z.toList || x.toList == z.toList)) = true
              · have HGT := Lib.hid (show ∀ z', xs.getLast? = some z' → gtS x z' = true from fun z' hz' => by rw [hz] at hz'; injection hz' with e; subst e; exact gtS_of hg)
                clear hzz hz hemp
                by_cases he : bst.toList = []
                · have e1 : (bst.toList == []) = true := by simpa using he
                  have e2 : bst.toList.isEmpty = true := by simp [he]
                  have e3 : (bst.toList == (⟨#[]⟩ : ByteArray).toList) = true := by rw [he, toList_nil9]; rfl
                  go_wp2_with fail
                  go_quiet (fail)
                  go_wp2_with fail
                  go_roundw
                  case rel => exact ⟨k + 1, x, _, hlt, by go_num, rfl, rfl, .inr ⟨HXL.out, HGT.out⟩⟩
                  case measure => simp [intOf]; omega
                · have e1 : (bst.toList == []) = false := by simpa using he
                  have e2 : bst.toList.isEmpty = false := by simpa using he
                  have e3 : (bst.toList == (⟨#[]⟩ : ByteArray).toList) = false := by rw [toList_nil9]; exact e1
                  by_cases hlss : Op.bytesLess x.toList bst.toList = true
                  ·
                    go_wp2_with fail
                    go_quiet (fail)
                    go_wp2_with fail
                    go_roundw
                    case rel => exact ⟨k + 1, x, _, hlt, by go_num, rfl, rfl, .inr ⟨HXL.out, HGT.out⟩⟩
                    case measure => simp [intOf]; omega
                  · have hlss' : Op.bytesLess x.toList bst.toList = false := by simpa using hlss
                    go_wp2_with fail
                    go_quiet (fail)
                    go_wp2_with fail
                    go_roundw
                    case rel => exact ⟨k + 1, bst, _, hlt, by go_num, rfl, rfl, HIN.out⟩
                    case measure => simp [intOf]; omega
              · have hg' : (!(Op.bytesLess x.toList z.toList || x.toList == z.toList)) = false := by simpa using hg
                clear hzz hz hemp hg
                go_wp2_with fail
                go_quiet (fail)
                go_wp2_with fail
                go_roundw
                case rel => exact ⟨k + 1, bst, _, hlt, by go_num, rfl, rfl, HIN.out⟩
                case measure => simp [intOf]; omega
          · obtain rfl : k = l.length := by omega
            by_cases he : bst.toList = []
            · have e1 : (bst.toList == []) = true := by simpa using he
              have e2 : bst.toList.isEmpty = true := by simp [he]
              by_cases h4 : 4 < xs.length
              · have h4' : (4 : Int) < (xs.length : Int) := by omega
                go_wp2_with fail
                go_ret2
                exact ⟨none, 0, [], 4, rfl, by simp, by simp, Row.nil _ _ _ _, below_drewN9 HBEL.out nd⟩
              · have h4' : ¬ (4 : Int) < (xs.length : Int) := by omega
                go_wp2_with fail
                go_ret2
                exact ⟨A1, c1, xs, 0, rfl, by omega, HOWN.out.cap, HOWN.out.row, below_drewN9 HBEL.out nd⟩
            · have e1 : (bst.toList == []) = false := by simpa using he
              have e2 : bst.toList.isEmpty = false := by simpa using he
              have HB := Lib.hid (show bst ∈ l ∧ ∀ z, xs.getLast? = some z → gtS bst z = true from (HIN.out).resolve_left he)
              have HD := Lib.hid (show OwnR (wr.drewN nd) w.heap.size 9 1 A1 c1 xs.length (rowsV strCell xs) from HOWN.out)
              go_wp2_with (refine wpList_append_r1 (ys := [.string bst]) sl_strz rfl rfl HD.out rfl rfl rfl rfl (by simp [Value.oneCell']) (by unfold maxLen; omega) (by omega) HBEL.out.size ?_; intro A2 c2 w5 hown5 hgr5 hn5)
              have hb5 : Below w.heap.size w w5 := (below_drewN9 HBEL.out nd).grown hgr5 HBEL.out.size (fun j hj => (HOWN.out.lt j hj).1)
              have hst := cntS_step HB.out.1 HB.out.2
              have HST := Lib.hid hst
              have HN5 := Lib.hid hown5
              have HB5 := Lib.hid hb5
              clear hst hown5 hgr5 hn5 hb5
              go_roundw
              case rel => exact ⟨A2, c2, xs ++ [bst], by simp, by rw [rowsV_append, rowsV_one]; simpa [strCell] using HN5.out, HB5.out, by have := HST.out; have := HX.out; simp; omega⟩
              case measure => have := HST.out; have := HX.out; simp; omega
end Go.Proofs.Ytcnebbhnpocofaa
/-
  A struct or an array that is a part of a block: loaded whole; a cell stored.
-/
namespace Go.Proofs.Ytcnebbhnpocofaa
set_option linter.unusedSimpArgs false
set_option linter.unusedVariables false
open Go.RowKit
theorem blk_setCell_at {w : World} {g i : Nat} {t : TypeId} {cs : Array Value} (h : Blk w g t cs) (u : Value) : Blk (w.setCell ⟨g, i, none⟩ u) g t (cs.setIfInBounds i u) := by
  unfold Blk at *
  simp only [World.setCell, Array.getElem?_modify, if_pos, h]
  rfl
theorem wrote_setCell_at (w : World) (g i : Nat) (u : Value) : Wrote g w (w.setCell ⟨g, i, none⟩ u) :=
  ⟨⟨rfl, rfl, rfl, by simp [World.setCell], fun k _ hk => Below.heap_setCell _ _ _ _ (by simpa using hk)⟩, by simp [World.setCell]⟩
theorem wrote_trans {g : Nat} {w w1 w2 : World} (h : Wrote g w w1) (h2 : Wrote g w1 w2) : Wrote g w w2 :=
  ⟨⟨h2.grown.os.trans h.grown.os, h2.grown.tape.trans h.grown.tape, h2.grown.output.trans h.grown.output, by rw [h2.size, h.size]; exact Nat.le_refl _, fun k hk hne => (h2.grown.block k (by rw [h.size]; exact hk) hne).trans (h.grown.block k hk hne)⟩, h2.size.trans h.size⟩
theorem rd_drop {w : World} {B : Nat} {ad : Addr} {xs : List Value} (h : Rd w B (some ad) xs) (n : Nat) : Rd w B (some (ad.add n)) (xs.drop n) := fun i u hu => by
  rw [List.getElem?_drop] at hu
  obtain ⟨ad', e, hb, hc⟩ := h _ u hu
  injection e with e
  subst e
  refine ⟨_, rfl, by rw [block_of_add]; exact hb, ?_⟩
  rw [show (ad.add n).add i = ad.add (n + i) from ?_]
  · exact hc
  · unfold Addr.add
    by_cases h1 : n = 0 <;> by_cases h2 : i = 0 <;> simp [h1, h2, Nat.add_assoc]
theorem rd_take {w : World} {B : Nat} {A : Option Addr} {xs : List Value} (h : Rd w B A xs) (n : Nat) : Rd w B A (xs.take n) := fun i u hu => by
  rw [List.getElem?_take] at hu
  split at hu
  · exact h i u hu
  · simp at hu
theorem blk_src {w : World} {g : Nat} {t : TypeId} {cs : Array Value} (h : Blk w g t cs) (n : Nat) : ∀ j v, (cs.toList.take n)[j]? = some v → w.cell? ((⟨g, 0, none⟩ : Addr).add j) = some v := fun j v hv => by
  have hadd : (⟨g, 0, none⟩ : Addr).add j = ⟨g, j, none⟩ := by unfold Addr.add; split <;> simp_all
  rw [hadd, h.cell]
  rw [List.getElem?_take] at hv
  split at hv
  · simpa using hv
  · cases hv
section
variable {P : Program}
theorem run_loadVar_part {w : World} {g o n : Nat} {t ty : TypeId} {cs r : Array Value} {d : TypeDesc} (hg : Blk w g t cs) (ho : o + n ≤ cs.size) (hr : ((cs.toList.drop o).take n).toArray = r)
    (hu : P.underlying ty = some d) (hd : (match d with | .struct _ | .array _ _ => true | _ => false) = true) (hi : (P.info? ty).map (·.size) = some n) :
    (loadVar ty ⟨g, o, none⟩).run P w = .ok (.agg r) w := by
  subst hr
  have hlen : ((cs.toList.drop o).take n).length = n := by simp; omega
  have hl : (loadCells ⟨g, o, none⟩ ((cs.toList.drop o).take n).length).run P w = .ok ((cs.toList.drop o).take n).toArray w :=
    run_loadCells_list (P := P) w ⟨g, o, none⟩ ((cs.toList.drop o).take n) (fun j v hv => by
      have hadd : (⟨g, o, none⟩ : Addr).add j = ⟨g, o + j, none⟩ := by unfold Addr.add; split <;> simp_all
      rw [hadd, hg.cell]
      rw [List.getElem?_take] at hv
      split at hv
      · rw [List.getElem?_drop] at hv
        simpa using hv
      · cases hv)
  rw [hlen] at hl
  cases hq : P.info? ty with
  | none => simp [hq] at hi
  | some i =>
    have hs : i.size = n := by simpa [hq] using hi
    have hagg : (isAgg ty).run P w = .ok true w := by
      unfold isAgg
      rw [Sem.run_bind, run_underlying hu w]
      cases d <;> simp_all
    simp [loadVar, Sem.run_bind, hagg, sizeOf, typeInfo, hq, hs, hl]
theorem wpList_get_part {w : World} {ops : Array Oper} {rest : List Oper} {o : Oper} {a : Act} {Q : Exit → Act → World → Prop} {ty : TypeId} {x : Operand} {g k n : Nat} {cs r : Array Value} {t : TypeId} {d : TypeDesc}
    (hg : Blk w g t cs) (hk : k + n ≤ cs.size) (hr : ((cs.toList.drop k).take n).toArray = r) (hgd : o.guard = none) (ho : o.op = .load ty x) (hx : a.eval x = .pointer (some ⟨g, k, none⟩))
    (hu : P.underlying ty = some d) (hd : (match d with | .struct _ | .array _ _ => true | _ => false) = true) (hi : (P.info? ty).map (·.size) = some n)
    (h : wpList P ops Q rest (a.put o.dst (.agg r)) w) : wpList P ops Q (o :: rest) a w := by
  refine wpList_plain hgd fun K hK => ?_
  have hrun := run_loadVar_part (P := P) hg hk hr hu hd hi
  unfold Oper.wp execOp
  simp only [ho, hx, Instr.loadAt, Instr.sureAddr, Sem.run_bind, Sem.run_pure, Result.andThen_ok, hrun]
  exact hK _ _ h
theorem wpList_copy_blk {w : World} {ops : Array Oper} {rest : List Oper} {o : Oper} {a : Act} {Q : Exit → Act → World → Prop} {d s : Operand} {dT sT elem t : TypeId} {g off dLen dCap sLen sCap : Nat} {ad : Addr} {cur new : Array Value} (cs : List Value)
    (hg : Blk w g t cur) (hgd : o.guard = none) (ho : o.op = .call { callee := .builtin .copy, args := #[d, s], argTypes := #[dT, sT] }) (hu : P.underlying dT = some (.slice elem)) (hsz : (P.info? elem).map (·.size) = some 1)
    (hd : a.eval d = .slice (some ⟨g, off, none⟩) dLen dCap) (hs : a.eval s = .slice (some ad) sLen sCap) (hn : cs.length = Nat.min sLen dLen)
    (hsrc : ∀ j v, cs[j]? = some v → w.cell? (ad.add j) = some v) (hfit : off + cs.length ≤ cur.size) (h1 : ∀ v ∈ cs, v.oneCell' = true)
    (hnew : (cur.toList.take off ++ cs ++ cur.toList.drop (off + cs.length)).toArray = new)
    (h : ∀ w', Blk w' g t new → Wrote g w w' → wpList P ops Q rest (a.put o.dst (goInt cs.length)) w') : wpList P ops Q (o :: rest) a w := by
  refine wpList_plain hgd fun K hK => ?_
  have hr := run_copy_row (P := P) w dT sT o.type elem g off dLen dCap ad sLen sCap cur t cs hu hsz hg hn hsrc hfit h1
  rw [hnew] at hr
  unfold Oper.wp execOp
  simp only [ho, resolve, invoke, builtin, Sem.run_bind, Sem.run_pure, Result.andThen_ok, List.map_toArray, List.map_cons, List.map_nil, hs, hd, hr]
  exact hK _ _ (h _ (setRow_heap w g cur _ t (0, 0) hg) (wrote_setRow w g _))
theorem run_not32 {w : World} (e : Nat) (he : e < 4294967296) : (Op.unary .xor (.int .u32 (e : Int))).run P w = .ok (.int .u32 ((4294967295 - e : Nat) : Int)) w := by
  have h1 : BitVec.ofInt 32 (4294967295 : Int) = BitVec.allOnes 32 := by decide
  have h : bits .xor .u32 (4294967295 : Int) (e : Int) = ((4294967295 - e : Nat) : Int) := by
    show IntKind.u32.wrap ((BitVec.ofInt 32 (4294967295 : Int) ^^^ BitVec.ofInt 32 (e : Int)).toNat : Int) = _
    rw [h1, BitVec.allOnes_xor, BitVec.toNat_not, BitVec.ofInt_natCast, BitVec.toNat_ofNat, Nat.mod_eq_of_lt he, IntKind.wrap_u32]
    omega
  have hm : IntKind.u32.max = 4294967295 := by decide
  rw [unary_xor]
  simp only [IntKind.signed, hm, Bool.false_eq_true, if_false]
  rw [← h]
  rfl
theorem run_not64 {w : World} (e : Nat) (he : e < 18446744073709551616) : (Op.unary .xor (.int .u64 (e : Int))).run P w = .ok (.int .u64 ((18446744073709551615 - e : Nat) : Int)) w := by
  have h1 : BitVec.ofInt 64 (18446744073709551615 : Int) = BitVec.allOnes 64 := by decide
  have h : bits .xor .u64 (18446744073709551615 : Int) (e : Int) = ((18446744073709551615 - e : Nat) : Int) := by
    show IntKind.u64.wrap ((BitVec.ofInt 64 (18446744073709551615 : Int) ^^^ BitVec.ofInt 64 (e : Int)).toNat : Int) = _
    rw [h1, BitVec.allOnes_xor, BitVec.toNat_not, BitVec.ofInt_natCast, BitVec.toNat_ofNat, Nat.mod_eq_of_lt he, IntKind.wrap_u64]
    omega
  have hm : IntKind.u64.max = 18446744073709551615 := by decide
  rw [unary_xor]
  simp only [IntKind.signed, hm, Bool.false_eq_true, if_false]
  rw [← h]
  rfl
theorem wpList_unary {w : World} {ops : Array Oper} {rest : List Oper} {o : Oper} {a : Act} {Q : Exit → Act → World → Prop} {u : UnOp} {ty : TypeId} {x : Operand} {v r : Value}
    (hr : (Op.unary u v).run P w = .ok r w) (hgd : o.guard = none) (ho : o.op = .unOp u ty x) (hx : a.eval x = v) (h : wpList P ops Q rest (a.put o.dst r) w) : wpList P ops Q (o :: rest) a w := by
  refine wpList_plain hgd fun K hK => ?_
  unfold Oper.wp execOp
  simp only [ho, hx, Sem.run_bind, Sem.run_pure, Result.andThen_ok, hr]
  exact hK _ _ h
theorem run_index_array {w : World} {t e : TypeId} {n : Nat} {cs : Array Value} {k : Nat} {v : Value} (h : P.underlying t = some (.array n e)) (hk : k < n) (hv : cs[k]? = some v) (hs : (P.info? e).map (·.size) = some 1)
    (hag : (match P.underlying e with | some (.struct _) | some (.array _ _) => true | _ => false) = false) (hu : ∃ d, P.underlying e = some d) : (Instr.index t (.agg cs) (.int .i64 (k : Int))).run P w = .ok v w := by
  obtain ⟨d, hd⟩ := hu
  have h0 : (0 : Int) ≤ (k : Int) ∧ (k : Int) < (n : Int) := by omega
  cases hq : P.info? e with
  | none => simp [hq] at hs
  | some j =>
    have hj : j.size = 1 := by simpa [hq] using hs
    have hagg : (isAgg e).run P w = .ok false w := by
      unfold isAgg
      rw [Sem.run_bind, run_underlying hd w]
      rw [hd] at hag
      cases d <;> simp_all
    simp [Instr.index, run_underlying h, asIntOf, h0, sizeOf, typeInfo, hq, hj, part, hagg, hv, go_sem]
    intro hle
    omega
end
end Go.Proofs.Ytcnebbhnpocofaa
/-
  Walks: the reference's Key, Node, Join, Entry (some answer each).
-/
namespace Go.Proofs.Ytcnebbhnpocofaa
set_option linter.unusedSimpArgs false
set_option linter.unusedVariables false
open Go.RowKit
def SomeBB (w : World) (e : Ending) (w' : World) : Prop := (∃ b : Bool, e = .returned (.bool b)) ∧ Below w.heap.size w w'
set_option maxHeartbeats 1000000 in
theorem key15_any (k : SkeyD) (w : World) : Calls Try.prog 60 #[.agg (skeyCells k)] w (SomeBB w) := by
  obtain ⟨W0, hW0⟩ : ∃ W0, W0 = w.alloc (.cells (skeyCells k) 42) := ⟨_, rfl⟩
  have HB0 := Lib.hid (show Below w.heap.size w W0 by rw [hW0]; exact (Below.refl _ w).alloc (Nat.le_refl _) _)
  have hk1 : Blk W0 w.heap.size 42 (skeyCells k) := by rw [hW0]; exact Blk.new _ _ _
  have a0 : W0.cell? ⟨w.heap.size, 0, none⟩ = some (.string k.kid) := hk1.cell 0
  have a1 : W0.cell? ⟨w.heap.size, 1, none⟩ = some (.string k.seed) := hk1.cell 1
  have a2 : W0.cell? ⟨w.heap.size, 2, none⟩ = some (.int .i64 k.state) := hk1.cell 2
  have a3 : W0.cell? ⟨w.heap.size, 3, none⟩ = some (.int .i64 k.since) := hk1.cell 3
  have HW0 := Lib.hid hW0
  clear hk1 hW0
  go_enter Try.func60, Try.ntmps60
  go_upto_region 1 with (fail)
  rw [← HW0.out]
  go_wp2_with fail
  all_goals go_ret
  all_goals exact ⟨⟨_, rfl⟩, HB0.out⟩
set_option maxHeartbeats 1000000 in
theorem node15_any (k : NodeD) (hn : k.name.size ≤ 1000) (w : World) : Calls Try.prog 56 #[.agg (nodeCells k)] w (SomeBB w) := by
  obtain ⟨W0, hW0⟩ : ∃ W0, W0 = w.alloc (.cells (nodeCells k) 40) := ⟨_, rfl⟩
  have HB0 := Lib.hid (show Below w.heap.size w W0 by rw [hW0]; exact (Below.refl _ w).alloc (Nat.le_refl _) _)
  have hk1 : Blk W0 w.heap.size 40 (nodeCells k) := by rw [hW0]; exact Blk.new _ _ _
  have a0 : W0.cell? ⟨w.heap.size, 0, none⟩ = some (.string k.name) := hk1.cell 0
  have a1 : W0.cell? ⟨w.heap.size, 1, none⟩ = some (.string k.key) := hk1.cell 1
  have a2 : W0.cell? ⟨w.heap.size, 2, none⟩ = some (.int .i64 k.exp) := hk1.cell 2
  have a3 : W0.cell? ⟨w.heap.size, 3, none⟩ = some (.int .i64 k.seq) := hk1.cell 3
  have a4 : W0.cell? ⟨w.heap.size, 4, none⟩ = some (.string k.doc) := hk1.cell 4
  have HW0 := Lib.hid hW0
  have CA := Lib.hid (agent9_any k.name hn W0)
  clear hk1 hW0
  go_enter Try.func56, Try.ntmps56
  go_upto_region 1 with (fail)
  rw [← HW0.out]
  go_wp2_with fail
  refine calls_then CA.out ?_
  rintro e w1 ⟨⟨b, rfl⟩, rfl⟩
  cases b <;> go_wp2_with fail
  all_goals go_ret
  all_goals exact ⟨⟨_, rfl⟩, HB0.out⟩
set_option maxHeartbeats 2000000 in
theorem join15_any (k : JoinD) (hn : k.name.size ≤ 1000) (ht : k.text.size ≤ 1000) (w : World) : Calls Try.prog 55 #[.agg (joinCells k)] w (SomeBB w) := by
  obtain ⟨W0, hW0⟩ : ∃ W0, W0 = w.alloc (.cells (joinCells k) 38) := ⟨_, rfl⟩
  have HB0 := Lib.hid (show Below w.heap.size w W0 by rw [hW0]; exact (Below.refl _ w).alloc (Nat.le_refl _) _)
  have hk1 : Blk W0 w.heap.size 38 (joinCells k) := by rw [hW0]; exact Blk.new _ _ _
  have a0 : W0.cell? ⟨w.heap.size, 0, none⟩ = some (.string k.text) := hk1.cell 0
  have a1 : W0.cell? ⟨w.heap.size, 1, none⟩ = some (.string k.name) := hk1.cell 1
  have a2 : W0.cell? ⟨w.heap.size, 2, none⟩ = some (.int .i64 k.exp) := hk1.cell 2
  have a3 : W0.cell? ⟨w.heap.size, 3, none⟩ = some (.bool k.used) := hk1.cell 3
  have HW0 := Lib.hid hW0
  have CA := Lib.hid (agent9_any k.name hn W0)
  have ht' : (k.text.size : Int) ≤ 1000 := by omega
  obtain ⟨text, name, exp, used⟩ := k
  dsimp only [joinCells] at *
  clear hk1 hW0
  go_enter Try.func55, Try.ntmps55
  go_upto_region 1 with (fail)
  rw [← HW0.out]
  go_wp2_with fail
  go_loop [3] (fun i => ∃ j : Nat, j ≤ text.size ∧ i = .int .i64 (j : Int)) (fun i => text.size - (intOf i).toNat)
  case atStart => exact ⟨0, by omega, rfl⟩
  case round =>
    obtain ⟨j, hj, rfl⟩ := hrel
    by_cases hlt : j < text.size
    · have hlt' : (j : Int) < (text.size : Int) := by omega
      go_wp2_with fail
      all_goals first
        | (go_ret; exact ⟨⟨_, rfl⟩, HB0.out⟩)
        | (go_round
           case rel => exact ⟨j + 1, by omega, by go_num⟩
           case measure => simp [intOf]; omega)
    · obtain rfl : j = text.size := by omega
      go_wp2_with fail
      refine calls_then CA.out ?_
      rintro e w1 ⟨⟨b, rfl⟩, rfl⟩
      cases b <;> go_wp2_with fail
      all_goals go_ret
      all_goals exact ⟨⟨_, rfl⟩, HB0.out⟩
def EntIn (w : World) (x : EntD) : Prop := x.path.size ≤ 1000 ∧ x.parent.size ≤ 1000 ∧ x.sn ≤ x.sc ∧ x.sn ≤ 1000 ∧ ∃ l : List ByteArray, l.length = x.sn ∧ (∀ s ∈ l, s.size ≤ 1000) ∧ Row w w.heap.size 9 x.sA (rowsV strCell l)
theorem EntIn.ok {w : World} {x : EntD} (h : EntIn w x) : EntOk w x := by
  obtain ⟨_, _, h1, h2, l, h3, _, h4⟩ := h
  exact ⟨h1, h2, l, h3, h4⟩
theorem EntIn.grow {w w' : World} {x : EntD} (h : EntIn w x) (hb : Below w.heap.size w w') : EntIn w' x := by
  obtain ⟨p1, p2, h1, h2, l, h3, h5, h4⟩ := h
  exact ⟨p1, p2, h1, h2, l, h3, h5, h4.grow hb⟩
set_option maxHeartbeats 2000000 in
theorem entry15_any (k : EntD) (w : World) (hin : EntIn w k) : Calls Try.prog 42 #[.agg (entCells k)] w (SomeBB w) := by
  obtain ⟨W0, hW0⟩ : ∃ W0, W0 = w.alloc (.cells (entCells k) 36) := ⟨_, rfl⟩
  have HB0 := Lib.hid (show Below w.heap.size w W0 by rw [hW0]; exact (Below.refl _ w).alloc (Nat.le_refl _) _)
  have hk1 : Blk W0 w.heap.size 36 (entCells k) := by rw [hW0]; exact Blk.new _ _ _
  have a0 : W0.cell? ⟨w.heap.size, 0, none⟩ = some (.int .i64 k.n) := hk1.cell 0
  have a1 : W0.cell? ⟨w.heap.size, 1, none⟩ = some (.string k.path) := hk1.cell 1
  have a2 : W0.cell? ⟨w.heap.size, 2, none⟩ = some (.string k.parent) := hk1.cell 2
  have a3 : W0.cell? ⟨w.heap.size, 3, none⟩ = some (.int .i64 k.ttl) := hk1.cell 3
  have a4 : W0.cell? ⟨w.heap.size, 4, none⟩ = some (.slice k.sA k.sn k.sc) := hk1.cell 4
  have HW0 := Lib.hid hW0
  have hin0 := hin.grow HB0.out
  obtain ⟨p1, p2, h1, h2, l, h3, h5, h4⟩ := hin0
  have hr : Rd W0 W0.heap.size k.sA (l.map Value.string) := by rw [← rowsV_str]; exact h4.rd
  have CS := Lib.hid (set9_any l (by omega) h5 k.sA k.sc W0 hr)
  rw [h3] at CS
  have C2 := Lib.hid (show ∀ u A c (xs : List ByteArray), xs.length ≤ 1000 → Below W0.heap.size W0 u → Row u u.heap.size 9 A (rowsV strCell xs) → Calls Try.prog 39 #[.slice A xs.length c, .slice k.sA k.sn k.sc] u fun e w' => (∃ r : Bool, e = .returned (.bool r)) ∧ ∃ n, w' = u.drewN n from fun u A c xs hx hb hr2 => by
    rw [← h3]
    exact same9_some A k.sA c k.sc u.heap.size xs l u (by rw [← rowsV_str]; exact hr2.rd) ((hr.below hb).mono hb.size) hx (by omega))
  have CP := Lib.hid (show ∀ u, Calls Try.prog 53 #[.string k.path] u (SomeB u) from fun u => path9_any _ p1 u)
  have CA := Lib.hid (show ∀ u, Calls Try.prog 54 #[.string k.path] u (SomeB u) from fun u => agent9_any _ p1 u)
  have CP2 := Lib.hid (show ∀ u, Calls Try.prog 53 #[.string k.parent] u (SomeB u) from fun u => path9_any _ p2 u)
  have HK := Lib.hid hk1
  clear hk1 hW0 hr h4 h5 h3 h2 h1 p1 p2 hin
  obtain ⟨n, path, parent, ttl, sA, sn, sc⟩ := k
  dsimp only [entCells] at *
  go_enter Try.func42, Try.ntmps42
  go_upto_region 1 with (fail)
  rw [← HW0.out]
  go_wp2_with fail
  refine calls_then CS.out ?_
  rintro e w1 ⟨A1, c1, xs, f, rfl, hx1, hx2, hr1, hb1⟩
  have hk1 := HK.out.below hb1 HK.out.lt
  have b0 : w1.cell? ⟨w.heap.size, 0, none⟩ = some (.int .i64 n) := hk1.cell 0
  have b1 : w1.cell? ⟨w.heap.size, 1, none⟩ = some (.string path) := hk1.cell 1
  have b2 : w1.cell? ⟨w.heap.size, 2, none⟩ = some (.string parent) := hk1.cell 2
  have b3 : w1.cell? ⟨w.heap.size, 3, none⟩ = some (.int .i64 ttl) := hk1.cell 3
  have b4 : w1.cell? ⟨w.heap.size, 4, none⟩ = some (.slice sA sn sc) := hk1.cell 4
  have HX := Lib.hid (C2.out w1 A1 c1 xs hx1 hb1 hr1)
  have HB1 := Lib.hid (HB0.out.trans (hb1.mono HB0.out.size))
  have hxl : (xs.length : Int) ≤ 1000 := by omega
  generalize xs.length = m at *
  clear hk1 hr1 hb1 hx1 hx2
  go_wp2_with fail
  refine calls_then HX.out ?_
  rintro e w2 ⟨⟨b, rfl⟩, nd, rfl⟩
  go_wp2_with fail
  refine calls_then (CP.out _) ?_
  rintro e w3 ⟨⟨bb1, rfl⟩, rfl⟩
  go_wp2_with fail
  refine calls_then (CA.out _) ?_
  rintro e w3 ⟨⟨bb2, rfl⟩, rfl⟩
  go_wp2_with fail
  refine calls_then (CP2.out _) ?_
  rintro e w3 ⟨⟨bb3, rfl⟩, rfl⟩
  have HB2 := Lib.hid (show Below w.heap.size w (w1.drewN nd) from below_drewN9 HB1.out nd)
  cases b <;> cases bb1 <;> cases bb2 <;> cases bb3 <;> go_wp2_with fail
  all_goals go_ret
  all_goals exact ⟨⟨_, rfl⟩, HB2.out⟩
end Go.Proofs.Ytcnebbhnpocofaa
/-
  Laws: one field of one element of a row that the call owns is written; another block is written.
-/
namespace Go.Proofs.Ytcnebbhnpocofaa
set_option linter.unusedSimpArgs false
set_option linter.unusedVariables false
open Go.RowKit
theorem ownR_put_r {w w' : World} {base : Nat} {e : TypeId} {size : Nat} {A : Option Addr} {c n g : Nat} {xs : List Value} (h : OwnR w base e size A c n xs) (hw : Wrote g w w') (hne : ∀ k, (Value.slice A n c).ownBlock = some k → k ≠ g) : OwnR w' base e size A c n xs := by
  refine ⟨h.1, ?_⟩
  rcases h.2 with h0 | ⟨g', cap, cur, h1, h2, h3, h4⟩
  · exact .inl h0
  · have hn : g' ≠ g := hne g' (by rw [h1]; rfl)
    exact .inr ⟨g', cap, cur, h1, h2, (hw.grown.block g' (Array.getElem?_eq_some_iff.1 h3).1 (by intro he; injection he with he; exact hn he)).trans h3, h4⟩
theorem rowsV_cons_r {α : Type} (f : α → Array Value) (x : α) (l : List α) : rowsV f (x :: l) = (f x).toList ++ rowsV f l := by simp [rowsV]
theorem rowsV_set_r {α : Type} {f : α → Array Value} {m : Nat} (hf : ∀ x, (f x).size = m) {j : Nat} (hj : j < m) {v : Value} {x' : α} : ∀ (xs : List α) (i : Nat) (hi : i < xs.length), f x' = (f xs[i]).setIfInBounds j v → rowsV f (xs.set i x') = (rowsV f xs).set (i * m + j) v
  | x :: r, 0, _, hx => by
    have hx : f x' = (f x).setIfInBounds j v := hx
    have hl : j < (f x).toList.length := by simpa [hf] using hj
    rw [List.set_cons_zero, rowsV_cons_r, rowsV_cons_r, hx, Nat.zero_mul, Nat.zero_add, List.set_append_left _ _ hl, Array.toList_setIfInBounds]
  | x :: r, i + 1, hi, hx => by
    have ih := rowsV_set_r hf hj r i (by simpa using hi) hx
    have hl : (f x).toList.length = m := by simp [hf]
    rw [List.set_cons_succ, rowsV_cons_r, rowsV_cons_r, ih, List.set_append_right _ _ (by rw [hl, Nat.add_mul]; omega), hl]
    congr 2
    rw [Nat.add_mul]
    omega
theorem ownR_at_r {α : Type} {f : α → Array Value} {m : Nat} (hf : ∀ x, (f x).size = m) {w : World} {base : Nat} {e : TypeId} {A : Option Addr} {c : Nat} {xs : List α} (h : OwnR w base e m A c xs.length (rowsV f xs)) {i : Nat} (hi : i < xs.length) {j : Nat} (hj : j < m) :
    ∃ g cur, A = some ⟨g, 0, none⟩ ∧ base ≤ g ∧ Blk w g e cur ∧ i * m + j < cur.size ∧ ∀ (v : Value) (x' : α) (w' : World), f x' = (f xs[i]).setIfInBounds j v → Blk w' g e (cur.setIfInBounds (i * m + j) v) → OwnR w' base e m A c xs.length (rowsV f (xs.set i x')) := by
  rcases h.2 with ⟨_, h0⟩ | ⟨g, cap, cur, h1, h2, h3, h4, h5, h6, h7⟩
  · omega
  · injection h1 with e1 e2 e3
    have hcs : i * m + j < xs.length * m := by
      have : (i + 1) * m ≤ xs.length * m := Nat.mul_le_mul_right _ hi
      rw [Nat.add_mul] at this
      omega
    have hle : xs.length * m ≤ cap * m := Nat.mul_le_mul_right _ h4
    refine ⟨g, cur, e1, h2, h3, by omega, fun v x' w' hx hb => ⟨by rw [rowsV_len hf, List.length_set], .inr ⟨g, cap, _, by rw [e1, e3], h2, hb, h4, h5, by simpa using h6, ?_⟩⟩⟩
    rw [rowsV_set_r hf hj xs i hi hx, ← h7, Array.toList_setIfInBounds, List.take_set]
theorem add0_r (g k : Nat) : (⟨g, 0, none⟩ : Addr).add k = ⟨g, k, none⟩ := by unfold Addr.add; split <;> simp_all
theorem ownR_ad_r {α : Type} {f : α → Array Value} {m : Nat} (hf : ∀ x, (f x).size = m) {w : World} {base : Nat} {e : TypeId} {A : Option Addr} {c : Nat} {xs : List α} (h : OwnR w base e m A c xs.length (rowsV f xs)) {i : Nat} (hi : i < xs.length) {j : Nat} (hj : j < m) :
    ∃ ad cur, A = some ad ∧ base ≤ (ad.add (i * m)).block ∧ (ad.add (i * m)).block < w.heap.size ∧ Blk w (ad.add (i * m)).block e cur ∧ (ad.add (i * m)).off + j < cur.size ∧ ∀ (v : Value) (x' : α) (w' : World), f x' = (f xs[i]).setIfInBounds j v → Blk w' (ad.add (i * m)).block e (cur.setIfInBounds ((ad.add (i * m)).off + j) v) → OwnR w' base e m A c xs.length (rowsV f (xs.set i x')) := by
  obtain ⟨g, cur, h1, h2, h3, h4, h5⟩ := ownR_at_r hf h hi hj
  refine ⟨⟨g, 0, none⟩, cur, h1, ?_, ?_, ?_, ?_, fun v x' w' hx hb => ?_⟩
  · rw [add0_r]; exact h2
  · rw [add0_r]; exact h3.lt
  · rw [add0_r]; exact h3
  · rw [add0_r]; exact h4
  · rw [add0_r] at hb; exact h5 v x' w' hx hb
theorem ownR_wrote_r {w w' : World} {base : Nat} {e : TypeId} {size : Nat} {A : Option Addr} {c n g : Nat} {xs : List Value} (h : OwnR w base e size A c n xs) (hw : Wrote g w w') (hne : ∀ k, (Value.slice A n c).ownBlock = some k → k ≠ g) : OwnR w' base e size A c n xs := ownR_put_r h hw hne
theorem ownR_ne_r {w : World} {base : Nat} {e t : TypeId} {size : Nat} {A : Option Addr} {c n g : Nat} {xs : List Value} {cs : Array Value} (h : OwnR w base e size A c n xs) (hb : Blk w g t cs) (ht : t ≠ e) : ∀ k, (Value.slice A n c).ownBlock = some k → k ≠ g := fun k hk he => by
  subst he
  exact own_ne_blk h.x hb ht hk
end Go.Proofs.Ytcnebbhnpocofaa
/-
  Memory: a ledger in a box, its lists the call's own; an operation.
-/
namespace Go.Proofs.Ytcnebbhnpocofaa
set_option linter.unusedSimpArgs false
set_option linter.unusedVariables false
open Go.RowKit

section
variable {α : Type} {u u' : World} {base : Nat} {t e : TypeId} {m : Nat} {f : α → Array Value} {K K' : Nat} {s : Sl α}
theorem Sl.Own.below (h : s.Own u base t m f K) (hb : Below u.heap.size u u') : s.Own u' base t m f K := ⟨h.own.below hb, h.len⟩
theorem Sl.Own.keep (h : s.Own u base t m f K) (hk : KeepBut e u u') (ht : t ≠ e) : s.Own u' base t m f K := ⟨h.own.keep hk ht, h.len⟩
theorem Sl.Own.more (h : s.Own u base t m f K) (hk : K ≤ K') : s.Own u base t m f K' := ⟨h.own, Nat.le_trans h.len hk⟩
theorem Sl.Own.mono {base' : Nat} (h : s.Own u base t m f K) (hb : base' ≤ base) : s.Own u base' t m f K := ⟨h.own.mono hb, h.len⟩
theorem Sl.Own.nil (u : World) (base : Nat) (t : TypeId) (m : Nat) (f : α → Array Value) (K : Nat) : (Sl.nil : Sl α).Own u base t m f K := ⟨OwnR.nil _ _ _ _, Nat.zero_le _⟩
end
/-- the lists of a ledger, the call's own -/
structure LL (u : World) (base K : Nat) (d : LedD) : Prop where
  ents : d.ents.Own u base 36 5 entCells K
  nodes : d.nodes.Own u base 40 5 nodeCells K
  bans : d.bans.Own u base 9 1 strCell K
  joins : d.joins.Own u base 38 4 joinCells K
  keys : d.keys.Own u base 42 4 skeyCells K
  buns : d.buns.Own u base 45 3 bunCells K
  entOk : ∀ x ∈ d.ents.l, EntOk u x
  bunOk : ∀ x ∈ d.buns.l, BunOk u x
/-- .. and its box -/
structure LW (u : World) (base g K : Nat) (d : LedD) : Prop where
  box : Blk u g 33 (ledCells d)
  hg : base ≤ g
  ll : LL u base K d
section
variable {u u' : World} {base g K K' : Nat} {d d' : LedD}
theorem LL.ok (h : LL u base K d) : LedOk u K d := ⟨h.ents.ok, h.nodes.ok, h.bans.ok, h.joins.ok, h.keys.ok, h.buns.ok, h.entOk, h.bunOk⟩
theorem LL.below (h : LL u base K d) (hb : Below u.heap.size u u') : LL u' base K d := ⟨h.ents.below hb, h.nodes.below hb, h.bans.below hb, h.joins.below hb, h.keys.below hb, h.buns.below hb, fun x hx => (h.entOk x hx).grow hb, fun x hx => (h.bunOk x hx).grow hb⟩
theorem LL.more (h : LL u base K d) (hk : K ≤ K') : LL u base K' d := ⟨h.ents.more hk, h.nodes.more hk, h.bans.more hk, h.joins.more hk, h.keys.more hk, h.buns.more hk, h.entOk, h.bunOk⟩
theorem LL.wrote {cs : Array Value} (h : LL u base K d) (hb : Blk u g 33 cs) (hw : Wrote g u u') : LL u' base K d := by
  have hk := KeepBut.of_wrote hw hb
  exact ⟨h.ents.keep hk (by decide), h.nodes.keep hk (by decide), h.bans.keep hk (by decide), h.joins.keep hk (by decide), h.keys.keep hk (by decide), h.buns.keep hk (by decide), fun x hx => (h.entOk x hx).keep hk (by decide), fun x hx => (h.bunOk x hx).keep hk (by decide)⟩
theorem LL.setEnts {s : Sl EntD} (h : LL u base K d) (hs : s.Own u base 36 5 entCells K) (ho : ∀ x ∈ s.l, EntOk u x) : LL u base K { d with ents := s } := ⟨hs, h.nodes, h.bans, h.joins, h.keys, h.buns, ho, h.bunOk⟩
theorem LL.setNodes {s : Sl NodeD} (h : LL u base K d) (hs : s.Own u base 40 5 nodeCells K) : LL u base K { d with nodes := s } := ⟨h.ents, hs, h.bans, h.joins, h.keys, h.buns, h.entOk, h.bunOk⟩
theorem LL.setBans {s : Sl ByteArray} (h : LL u base K d) (hs : s.Own u base 9 1 strCell K) : LL u base K { d with bans := s } := ⟨h.ents, h.nodes, hs, h.joins, h.keys, h.buns, h.entOk, h.bunOk⟩
theorem LL.setBuns {s : Sl BunD} (h : LL u base K d) (hs : s.Own u base 45 3 bunCells K) (ho : ∀ x ∈ s.l, BunOk u x) : LL u base K { d with buns := s } := ⟨h.ents, h.nodes, h.bans, h.joins, h.keys, hs, h.entOk, ho⟩
theorem LL.keepJ {s : Sl JoinD} (h : LL u base K d) (hk : KeepBut 38 u u') (hs : s.Own u' base 38 4 joinCells K) : LL u' base K { d with joins := s } :=
  ⟨h.ents.keep hk (by decide), h.nodes.keep hk (by decide), h.bans.keep hk (by decide), hs, h.keys.keep hk (by decide), h.buns.keep hk (by decide), fun x hx => (h.entOk x hx).keep hk (by decide), fun x hx => (h.bunOk x hx).keep hk (by decide)⟩
theorem LL.keepK {s : Sl SkeyD} (h : LL u base K d) (hk : KeepBut 42 u u') (hs : s.Own u' base 42 4 skeyCells K) : LL u' base K { d with keys := s } :=
  ⟨h.ents.keep hk (by decide), h.nodes.keep hk (by decide), h.bans.keep hk (by decide), h.joins.keep hk (by decide), hs, h.buns.keep hk (by decide), fun x hx => (h.entOk x hx).keep hk (by decide), fun x hx => (h.bunOk x hx).keep hk (by decide)⟩
theorem LL.keepN {s : Sl NodeD} (h : LL u base K d) (hk : KeepBut 40 u u') (hs : s.Own u' base 40 5 nodeCells K) : LL u' base K { d with nodes := s } :=
  ⟨h.ents.keep hk (by decide), hs, h.bans.keep hk (by decide), h.joins.keep hk (by decide), h.keys.keep hk (by decide), h.buns.keep hk (by decide), fun x hx => (h.entOk x hx).keep hk (by decide), fun x hx => (h.bunOk x hx).keep hk (by decide)⟩
theorem LW.below (h : LW u base g K d) (hb : Below u.heap.size u u') : LW u' base g K d := ⟨h.box.below hb h.box.lt, h.hg, h.ll.below hb⟩
theorem LW.more (h : LW u base g K d) (hk : K ≤ K') : LW u base g K' d := ⟨h.box, h.hg, h.ll.more hk⟩
/-- a list is put into the box -/
theorem LW.put {cs : Array Value} (hb : Blk u g 33 cs) (hg : base ≤ g) (hl : LL u base K d') (hw : Wrote g u u') (hb' : Blk u' g 33 (ledCells d')) : LW u' base g K d' := ⟨hb', hg, hl.wrote hb hw⟩
/-- a row's own block alone may be another -/
theorem keepBut_grown {base : Nat} {e : TypeId} {m : Nat} {A : Option Addr} {c n : Nat} {xs : List Value} (h : OwnR u base e m A c n xs) (hg : u.grownBy u' (Value.slice A n c).ownBlock) : KeepBut e u u' := ⟨hg.size, fun k cs t fz ht hk => by
  refine (hg.block k (Array.getElem?_eq_some_iff.1 hk).1 (fun he => ?_)).trans hk
  rcases h.2 with ⟨h1, _⟩ | ⟨g', cap, cur, h1, h2, h3, _⟩
  · rw [h1] at he
    simp [Value.ownBlock] at he
  · rw [h1] at he
    simp [Value.ownBlock] at he
    subst he
    rw [h3] at hk
    injection hk with hk
    injection hk with _ hk _
    exact ht hk.symm⟩
end
/-- an operation, as it lies -/
structure OpD where
  kind : Int
  n : Int
  name : ByteArray
  ent : EntD
  join : JoinD
  node : NodeD
  key : SkeyD
  bun : BunD
def opC (o : OpD) : Array Value := #[.int .i64 o.kind, .int .i64 o.n, .string o.name, .int .i64 o.ent.n, .string o.ent.path, .string o.ent.parent, .int .i64 o.ent.ttl, .slice o.ent.sA o.ent.sn o.ent.sc,
  .string o.join.text, .string o.join.name, .int .i64 o.join.exp, .bool o.join.used, .string o.node.name, .string o.node.key, .int .i64 o.node.exp, .int .i64 o.node.seq, .string o.node.doc,
  .string o.key.kid, .string o.key.seed, .int .i64 o.key.state, .int .i64 o.key.since, .string o.bun.dom, .int .i64 o.bun.num, .slice o.bun.kA o.bun.kn o.bun.kc]
theorem opC_one (o : OpD) : (opC o).all (·.oneCell') = true := by simp [opC, Value.oneCell']
def BunIn (w : World) (x : BunD) : Prop := x.dom.size ≤ 1000 ∧ x.kn ≤ x.kc ∧ x.kn ≤ 1000 ∧ ∃ l : List JwkD, l.length = x.kn ∧ (∀ k ∈ l, k.x.size ≤ 1000) ∧ Row w w.heap.size 76 x.kA (rowsV jwkCells l)
theorem BunIn.ok {w : World} {x : BunD} (h : BunIn w x) : BunOk w x := by
  obtain ⟨_, h1, h2, l, h3, _, h4⟩ := h
  exact ⟨h1, h2, l, h3, h4⟩
theorem BunIn.grow {w w' : World} {x : BunD} (h : BunIn w x) (hb : Below w.heap.size w w') : BunIn w' x := by
  obtain ⟨h0, h1, h2, l, h3, h4, h5⟩ := h
  exact ⟨h0, h1, h2, l, h3, h4, h5.grow hb⟩
structure OpIn (w : World) (o : OpD) : Prop where
  name : o.name.size ≤ 1000
  ent : EntIn w o.ent
  jtext : o.join.text.size ≤ 1000
  jname : o.join.name.size ≤ 1000
  nname : o.node.name.size ≤ 1000
  bun : BunIn w o.bun
theorem OpIn.grow {w w' : World} {o : OpD} (h : OpIn w o) (hb : Below w.heap.size w w') : OpIn w' o := ⟨h.name, h.ent.grow hb, h.jtext, h.jname, h.nname, h.bun.grow hb⟩
/-- what an operation leaves -/
def DoPost (base g K : Nat) (w : World) (e : Ending) (w' : World) : Prop := ∃ (d' : LedD) (f : Int), e = .returned (.int .i64 f) ∧ LW w' base g (K + 1) d' ∧ Below base w w'
/-- it is refused, and nothing is done -/
theorem DoPost.no {base g K : Nat} {d : LedD} {w u : World} (h : LW u base g K d) (hb : Below base w u) (f : Int) : DoPost base g K w (.returned (.int .i64 f)) u := ⟨d, f, rfl, h.more (Nat.le_succ _), hb⟩
end Go.Proofs.Ytcnebbhnpocofaa
/-
  Laws of my own: a whole struct is loaded from where it reads.
-/
namespace Go.Proofs.Ytcnebbhnpocofaa
set_option linter.unusedSimpArgs false
set_option linter.unusedVariables false
open Go.RowKit
section
variable {P : Program} {w : World} {ops : Array Oper} {rest : List Oper} {o : Oper} {a : Act} {Q : Exit → Act → World → Prop}
theorem run_loadVar_rd {ty : TypeId} {p : Addr} {r : List Value} {d : TypeDesc} (hr : ∀ j u, r[j]? = some u → w.cell? (p.add j) = some u)
    (hu : P.underlying ty = some d) (hd : (match d with | .struct _ | .array _ _ => true | _ => false) = true) (hi : (P.info? ty).map (·.size) = some r.length) :
    (loadVar ty p).run P w = .ok (.agg r.toArray) w := by
  have hl : (loadCells p r.length).run P w = .ok r.toArray w := run_loadCells_list (P := P) w p r hr
  cases hq : P.info? ty with
  | none => simp [hq] at hi
  | some i =>
    have hs : i.size = r.length := by simpa [hq] using hi
    have hagg : (isAgg ty).run P w = .ok true w := by
      unfold isAgg
      rw [Sem.run_bind, run_underlying hu w]
      cases d <;> simp_all
    simp [loadVar, Sem.run_bind, hagg, sizeOf, typeInfo, hq, hs, hl]
theorem wpList_get_rd {ty : TypeId} {x : Operand} {p : Addr} {r : List Value} {d : TypeDesc} (hr : ∀ j u, r[j]? = some u → w.cell? (p.add j) = some u)
    (hgd : o.guard = none) (ho : o.op = .load ty x) (hx : a.eval x = .pointer (some p))
    (hu : P.underlying ty = some d) (hd : (match d with | .struct _ | .array _ _ => true | _ => false) = true) (hi : (P.info? ty).map (·.size) = some r.length)
    (h : wpList P ops Q rest (a.put o.dst (.agg r.toArray)) w) : wpList P ops Q (o :: rest) a w := by
  refine wpList_plain hgd fun K hK => ?_
  have hl := run_loadVar_rd (P := P) (w := w) hr hu hd hi
  unfold Oper.wp execOp
  simp only [ho, hx, Instr.loadAt, Instr.sureAddr, Sem.run_bind, Sem.run_pure, Result.andThen_ok, hl]
  exact hK _ _ h
end
theorem box_low9 {u u' : World} {o : Obj} (hw : Wrote u.heap.size (u.alloc o) u') : Below u.heap.size u u' :=
  hw.below ((Below.refl _ u).alloc (Nat.le_refl _) o) (Nat.le_refl _) (by simp)
end Go.Proofs.Ytcnebbhnpocofaa
/-
  Walk: brevetref09.Has.
-/
namespace Go.Proofs.Ytcnebbhnpocofaa
set_option linter.unusedSimpArgs false
set_option linter.unusedVariables false
open Go.RowKit
theorem beq_toList9 (a b : ByteArray) : (a.toList == b.toList) = decide (a = b) := by
  rw [Bool.eq_iff_iff, beq_iff_eq, decide_eq_true_iff, toList_eq, toList_eq]
  exact ⟨fun h => ByteArray.ext (Array.toList_inj.1 h), fun h => by rw [h]⟩
def hasB (l : List ByteArray) (s : ByteArray) : Bool := l.any fun x => decide (x = s)
theorem hasB_yes {l : List ByteArray} {s : ByteArray} (h : s ∈ l) : hasB l s = true := by rw [hasB, List.any_eq_true]; exact ⟨s, h, by simp⟩
theorem hasB_no {l : List ByteArray} {s : ByteArray} (h : s ∉ l) : hasB l s = false := by
  rw [hasB, List.any_eq_false]
  intro x hx
  simp
  rintro rfl
  exact h hx
set_option maxHeartbeats 1000000 in
theorem has9_any (l : List ByteArray) (hl : l.length ≤ 1000) (s : ByteArray) (A : Option Addr) (c B : Nat) (w : World) (hr : Rd w B A (l.map Value.string)) : Calls Try.prog 25 #[.slice A l.length c, .string s] w (fun e w' => e = .returned (.bool (hasB l s)) ∧ w = w') := by
  have hl' : (l.length : Int) ≤ 1000 := by omega
  obtain ⟨b, hb⟩ : ∃ b, b = hasB l s := ⟨_, rfl⟩
  have HB := Lib.hid hb
  rw [← hb]
  clear hb
  go_enter Try.func25, Try.ntmps25
  go_wp2_with fail
  go_loop [5] (fun i => ∃ k : Nat, k ≤ l.length ∧ i = .int .i64 (k : Int) ∧ s ∉ l.take k) (fun i => l.length - (intOf i).toNat)
  case atStart => exact ⟨0, by omega, rfl, by simp⟩
  case round =>
    obtain ⟨k, hk, rfl, hno⟩ := hrel
    have HNO := Lib.hid hno
    clear hno
    by_cases hlt : k < l.length
    · obtain ⟨ad, rfl, _, hc⟩ := hr.at_ (k := k) (by simpa using hlt)
      simp only [List.getElem_map] at hc
      have hk2 : (k : Int) < (l.length : Int) := by omega
      obtain ⟨x, hx⟩ : ∃ x, x = l[k] := ⟨_, rfl⟩
      rw [← hx] at hc
      have HX := Lib.hid hx
      clear hx
      by_cases he : x = s
      · have h1 : (x.toList == s.toList) = true := by rw [beq_toList9]; simpa using he
        have h2 : b = true := by rw [HB.out]; refine hasB_yes ?_; rw [← he, HX.out]; exact List.getElem_mem hlt
        subst h2
        clear he
        go_wp2_with fail
        go_ret
        exact ⟨rfl, rfl⟩
      · have h1 : (x.toList == s.toList) = false := by rw [beq_toList9]; simpa using he
        have HE := Lib.hid he
        clear he
        go_wp2_with fail
        go_round
        case rel => exact ⟨k + 1, by omega, by go_num, by
          rw [List.take_succ_eq_append_getElem hlt, ← HX.out]
          simp
          exact ⟨HNO.out, fun h => HE.out h.symm⟩⟩
        case measure => simp [intOf]; omega
    · have h2 : b = false := by
        rw [HB.out]
        have := HNO.out
        rw [List.take_of_length_le (by omega)] at this
        exact hasB_no this
      subst h2
      obtain rfl : k = l.length := by omega
      go_wp2_with fail
      go_ret
      exact ⟨rfl, rfl⟩
end Go.Proofs.Ytcnebbhnpocofaa
/-
  A guarded operation whose guard holds.
-/
namespace Go.Proofs.Ytcnebbhnpocofaa
set_option linter.unusedSimpArgs false
set_option linter.unusedVariables false
open Go.RowKit
section
variable {P : Program}
theorem wpList_open {w : World} {ops : Array Oper} {rest : List Oper} {o : Oper} {a : Act} {Q : Exit → Act → World → Prop}
    (hw : Region.wanted o (yielded ops a.tmps) = true) (h : wpList P ops Q ({ o with guard := none } :: rest) a w) : wpList P ops Q (o :: rest) a w := by
  have hw' : ∀ (O : Array Oper) (t : Array Value), Region.wanted { o with guard := none } (yielded O t) = true := fun O t => by simp [Region.wanted]
  simp only [wpList, hw, hw', if_true] at h ⊢
  have ha : ∀ a w, Oper.asks P { o with guard := none } a w = Oper.asks P o a w := fun a w => rfl
  rw [ha] at h
  exact h
end
end Go.Proofs.Ytcnebbhnpocofaa
/-
  Regions that draw their order and whose operations give one value each, whatever the order: one step for each operation, in the order of the text; the last one may write.
-/
namespace Go.Proofs.Ytcnebbhnpocofaa
set_option linter.unusedSimpArgs false
set_option linter.unusedVariables false
section
variable {P : Program}
theorem putAll_congr (ops : Array Oper) (v1 v2 : Nat → Value) : ∀ (l : List Nat) (a : Act), (∀ j ∈ l, v1 j = v2 j) → putAll ops v1 l a = putAll ops v2 l a
  | [], _, _ => rfl
  | j :: r, a, h => by
    rw [putAll, putAll, h j (List.mem_cons_self ..)]
    exact putAll_congr ops v1 v2 r _ fun k hk => h k (List.mem_cons_of_mem _ hk)
def DetStep (P : Program) (ops : Array Oper) (C D : World → Prop) (Φ : (Nat → Value) → Prop) (i : Nat) (a0 : Act) (o : Oper) (v : Value) : Prop :=
  ∀ vals, Φ vals → ∀ w, C w → ∀ E : Act → World → Prop, (∀ w', D w' → E ((putAll ops vals (waitsOf ops i) a0).put o.dst v) w') → wpList P ops (EndOf E) [o] (putAll ops vals (waitsOf ops i) a0) w
def DetL (P : Program) (ops : Array Oper) (C D : World → Prop) (a0 : Act) (K : ((Nat → Value) → Prop) → Prop) : Nat → List Oper → ((Nat → Value) → Prop) → Prop
  | _, [], Φ => K Φ
  | i, [o], Φ => ∃ v, DetStep P ops C D Φ i a0 o v ∧ K fun vals => Φ vals ∧ vals i = v
  | i, o :: r :: rest, Φ => ∃ v, DetStep P ops C C Φ i a0 o v ∧ DetL P ops C D a0 K (i + 1) (r :: rest) fun vals => Φ vals ∧ vals i = v
theorem detL_all {ops : Array Oper} {C D : World → Prop} {a0 : Act} {K : ((Nat → Value) → Prop) → Prop} : ∀ (rest : List Oper) (i : Nat) (Φ : (Nat → Value) → Prop),
    (∀ v1 v2 : Nat → Value, (∀ j, j < i → v1 j = v2 j) → Φ v1 → Φ v2) → (∃ vals, Φ vals) → DetL P ops C D a0 K i rest Φ →
    ∃ (vs : Nat → Value) (Ψ : (Nat → Value) → Prop), K Ψ ∧ Φ vs ∧ (∀ vals, (∀ j, j < i + rest.length → vals j = vs j) → Ψ vals) ∧
      ∀ j o, rest[j]? = some o → ∀ vals w, C w → (∀ k, k < i + j → vals k = vs k) → ∀ E : Act → World → Prop, (∀ w', (if j + 1 = rest.length then D w' else C w') → E ((putAll ops vals (waitsOf ops (i + j)) a0).put o.dst (vs (i + j))) w') → wpList P ops (EndOf E) [o] (putAll ops vals (waitsOf ops (i + j)) a0) w
  | [], i, Φ, hΦ, ⟨v0, h0⟩, h => ⟨v0, Φ, h, h0, fun vals hv => hΦ _ _ (fun j hj => (hv j (by simpa using hj)).symm) h0, fun j o ho => by simp at ho⟩
  | [o], i, Φ, hΦ, ⟨v0, h0⟩, ⟨v, h1, h2⟩ => by
    refine ⟨upd v0 i v, _, h2, hΦ v0 _ (fun j hj => by simp [upd, Nat.ne_of_lt hj]) h0, fun vals hv => ⟨hΦ v0 _ (fun j hj => ?_) h0, ?_⟩, fun j o' ho w => ?_⟩
    · have := hv j (by simp; omega)
      rw [this]; simp [upd, Nat.ne_of_lt hj]
    · have := hv i (by simp)
      rw [this]; simp [upd]
    · cases j with
      | zero =>
        simp at ho
        subst ho
        intro w' hc hv
        have hΦv : Φ w := hΦ v0 _ (fun j hj => by rw [hv j (by omega)]; simp [upd, Nat.ne_of_lt hj]) h0
        intro E hE
        refine h1 w hΦv w' hc E fun w'' hd => ?_
        have := hE w'' (by simpa using hd)
        simpa [upd] using this
      | succ j => simp at ho
  | o :: r :: rest, i, Φ, hΦ, ⟨v0, h0⟩, ⟨v, h1, h2⟩ => by
    obtain ⟨vs, Ψ, k1, k2, k3, k4⟩ := detL_all (r :: rest) (i + 1) (fun vals => Φ vals ∧ vals i = v)
      (fun v1 v2 hv hp => ⟨hΦ v1 v2 (fun j hj => hv j (by omega)) hp.1, by rw [← hv i (by omega)]; exact hp.2⟩)
      ⟨upd v0 i v, hΦ v0 _ (fun j hj => by simp [upd, Nat.ne_of_lt hj]) h0, by simp [upd]⟩ h2
    refine ⟨vs, Ψ, k1, k2.1, fun vals hv => k3 vals fun j hj => hv j (by simp only [List.length_cons] at hj ⊢; omega), fun j o' ho vals w hc hv => ?_⟩
    cases j with
    | zero =>
      simp at ho
      subst ho
      have hΦv : Φ vals := hΦ vs _ (fun j hj => (hv j (by omega)).symm) k2.1
      intro E hE
      refine h1 vals hΦv w hc E fun w'' hd => ?_
      have : ¬ 0 + 1 = (o :: r :: rest).length := by simp
      have h4 := hE w'' (by rw [if_neg this]; exact hd)
      rw [Nat.add_zero, k2.2] at h4
      exact h4
    | succ j =>
      have h3 := k4 j o' (by simpa using ho) vals w hc (fun k hk => hv k (by omega))
      intro E hE
      rw [show i + (j + 1) = i + 1 + j by omega] at hE ⊢
      refine h3 E fun w'' hd => hE w'' ?_
      have e : (j + 1 + 1 = (o :: r :: rest).length) = (j + 1 = (r :: rest).length) := by simp
      simp only [e]
      exact hd
theorem wp_region_det {id : Nat} {l : List Oper} {a0 : Act} {w0 : World} {Q : Exit → Act → World → Prop} (C D : World → Prop) (ps : List (Nat × Option Tmp))
    (hm : P.follows .mixedOrders = true) (hok : regionOk l.toArray = true) (hpos : 0 < l.length)
    (hlast : ((List.range (l.length - 1)).all fun i => (deepWaits l.toArray 5 (l.length - 1)).contains i) = true)
    (hps : ∀ vals, putAll l.toArray vals (List.range l.toArray.size) a0 = puts vals ps a0) (hC : C w0.drew)
    (h : DetL P l.toArray C D a0 (fun Φ => ∀ vals, Φ vals → ∀ w, D w → Q .normal (puts vals ps a0) w) 0 l (fun _ => True)) :
    (Code.region id l.toArray true).wp P Q a0 w0 := by
  obtain ⟨vs, Ψ, k1, _, k3, k4⟩ := detL_all (P := P) l 0 (fun _ => True) (fun _ _ _ h => h) ⟨fun _ => undef, trivial⟩ h
  have hafter : ∀ i, i < l.length → i ≠ l.length - 1 → (deepWaits l.toArray 5 (l.length - 1)).contains i = true := fun i hi hne =>
    (List.all_eq_true.1 hlast) i (List.mem_range.2 (by omega))
  refine wp_region_rel (fun _ => True) (fun _ => C) (fun _ i => i == l.length - 1) (fun i vals w => vals i = vs i ∧ (i = l.length - 1 → D w)) (fun i w w' => if i = l.length - 1 then True else (C w → C w')) (fun _ _ => false) hm hok trivial (fun _ => hC) ?_ ?_ ?_ ?_
  · intro _ i hi w w' hS hc
    have hne : ¬ i = l.length - 1 := by simpa using hi
    rw [if_neg hne] at hS
    exact hS hc
  · intro i k hi hik _ hdk vals v w w' _ hF
    refine ⟨by simp [upd, Ne.symm hik, hF.1], fun hk => ?_⟩
    subst hk
    have := hafter i (by simpa using hi) hik
    rw [this] at hdk
    cases hdk
  · intro i o ho w vals _ hini hav
    have hil : i < l.length := by have := (Array.getElem?_eq_some_iff.1 ho).1; simpa using this
    have hok1 := okAt hok ho
    have hcw : C w := hini false (by
      unfold availIni
      rw [List.all_eq_true]
      intro k hk
      have hk' : k < l.length := by simpa using hk
      by_cases hki : k = i
      · simp [hki]
      · by_cases hkl : k = l.length - 1
        · have := hafter i hil (by omega)
          subst hkl
          simp only [this, Bool.or_true]
        · simp [hkl])
    have hvals : ∀ j ∈ waitsOf l.toArray i, vals j = vs j := fun j hj => by
      have h1 : availAt l.toArray (fun _ _ => false) j i = true := by
        unfold availAt
        simp [hj]
      exact (hav j h1).1
    have hcon : putAll l.toArray vals (waitsOf l.toArray i) a0 = putAll l.toArray vs (waitsOf l.toArray i) a0 := putAll_congr _ _ _ _ _ hvals
    have h3 := k4 i o (by simpa using ho) vs w hcw (fun _ _ => rfl)
    rw [Nat.zero_add] at h3
    rw [hcon]
    refine h3 (fun a' w' => ∃ v, a' = (putAll l.toArray vs (waitsOf l.toArray i) a0).put o.dst v ∧ (upd vals i v i = vs i ∧ (i = l.length - 1 → D w')) ∧ True ∧ (if i = l.length - 1 then True else (C w → C w'))) fun w' hd => ?_
    refine ⟨vs i, rfl, ⟨by simp [upd], fun hi => ?_⟩, trivial, ?_⟩
    · rw [if_pos (by omega)] at hd; exact hd
    · by_cases hi : i = l.length - 1
      · rw [if_pos hi]; trivial
      · rw [if_neg hi]
        intro _
        rw [if_neg (by omega)] at hd; exact hd
  · intro w vals _ hF
    rw [hps]
    have hal : ∀ j, aliveAt l.toArray (fun _ _ => false) j = true := fun j => by simp [aliveAt]
    have hD : D w := (hF (l.length - 1) (by simp; omega) (hal _)).2 rfl
    exact k1 vals (k3 vals fun j hj => (hF j (by simpa using hj) (hal _)).1) w hD
def tailP (P : Program) (ops : Array Oper) (a0 : Act) (Kf : (Nat → Value) → World → Prop) : Nat → List Oper → (Nat → Value) → World → Prop
  | _, [], vals, w => Kf vals w
  | i, o :: r, vals, w => ∀ E : Act → World → Prop, (∀ v w', tailP P ops a0 Kf (i + 1) r (upd vals i v) w' → E ((putAll ops vals (waitsOf ops i) a0).put o.dst v) w') → wpList P ops (EndOf E) [o] (putAll ops vals (waitsOf ops i) a0) w
def mergeV (d : Nat) (vs vals : Nat → Value) : Nat → Value := fun j => if j < d then vs j else vals j
theorem mergeV_upd {d i : Nat} (vs vals : Nat → Value) (v : Value) (h : d ≤ i) : mergeV d vs (upd vals i v) = upd (mergeV d vs vals) i v := by
  funext j
  unfold mergeV upd
  by_cases h1 : j = i
  · subst h1
    have : ¬ j < d := by omega
    simp [this]
  · simp [h1]
section
variable {ops : Array Oper} {C D : World → Prop} {a0 : Act} {K : ((Nat → Value) → Prop) → Prop} {i : Nat} {Φ : (Nat → Value) → Prop} {o : Oper}
theorem detStep_plain {v : Value} (ps : List (Nat × Option Tmp)) (hps : ∀ vals, putAll ops vals (waitsOf ops i) a0 = puts vals ps a0) (hg : o.guard = none)
    (h : ∀ vals, Φ vals → ∀ w, C w → ∀ E : Act → World → Prop, (∀ w', D w' → E ((puts vals ps a0).put o.dst v) w') → wpList P #[] (EndOf E) [o] (puts vals ps a0) w) : DetStep P ops C D Φ i a0 o v := by
  intro vals hp w hc E hE
  rw [hps] at hE ⊢
  have h1 := h vals hp w hc E hE
  have hw : ∀ (O : Array Oper) (t : Array Value), Region.wanted o (yielded O t) = true := fun O t => by simp [Region.wanted, hg]
  simp only [wpList, hw, if_true] at h1 ⊢
  exact h1
theorem detStep_yes {v : Value} (ps : List (Nat × Option Tmp)) (hps : ∀ vals, putAll ops vals (waitsOf ops i) a0 = puts vals ps a0) (g : Nat) (t : Tmp) (want : Bool) (hg : o.guard = some (g, want)) (hd : dstAt ops g = some t)
    (hy : ∀ vals, Φ vals → (puts vals ps a0).tmps[t]? = some (.bool want))
    (h : ∀ vals, Φ vals → ∀ w, C w → ∀ E : Act → World → Prop, (∀ w', D w' → E ((puts vals ps a0).put o.dst v) w') → wpList P #[] (EndOf E) [{ o with guard := none }] (puts vals ps a0) w) : DetStep P ops C D Φ i a0 o v := by
  intro vals hp w hc E hE
  rw [hps] at hE ⊢
  have h1 := h vals hp w hc E hE
  have hd' : (ops[g]?).bind (·.dst) = some t := hd
  have hw : Region.wanted o (yielded ops (puts vals ps a0).tmps) = true := by simp [Region.wanted, hg, yielded, hd', hy vals hp]
  have hw' : ∀ (O : Array Oper) (t : Array Value), Region.wanted { o with guard := none } (yielded O t) = true := fun O t => by simp [Region.wanted]
  simp only [wpList, hw, hw', if_true] at h1 ⊢
  have ha : ∀ a w, Oper.asks P { o with guard := none } a w = Oper.asks P o a w := fun a w => rfl
  rw [ha] at h1
  exact h1
theorem detStep_no (ps : List (Nat × Option Tmp)) (hps : ∀ vals, putAll ops vals (waitsOf ops i) a0 = puts vals ps a0) (g : Nat) (t : Tmp) (want : Bool) (hg : o.guard = some (g, want)) (hd : dstAt ops g = some t)
    (hy : ∀ vals, Φ vals → (puts vals ps a0).tmps[t]? = some (.bool !want)) (hCD : ∀ w, C w → D w) : DetStep P ops C D Φ i a0 o undef := by
  intro vals hp w hc E hE
  rw [hps] at hE ⊢
  have hd' : (ops[g]?).bind (·.dst) = some t := hd
  have hw : ¬ Region.wanted o (yielded ops (puts vals ps a0).tmps) = true := by
    simp [Region.wanted, hg, yielded, hd', hy vals hp]
  simp only [wpList, if_neg hw]
  exact ⟨rfl, hE w (hCD w hc)⟩
theorem tail_step {Kf : (Nat → Value) → World → Prop} {r : List Oper} {vals : Nat → Value} {w : World} (ps : List (Nat × Option Tmp)) (hps : ∀ vals, putAll ops vals (waitsOf ops i) a0 = puts vals ps a0) (hg : o.guard = none)
    (h : ∀ E : Act → World → Prop, (∀ v w', tailP P ops a0 Kf (i + 1) r (upd vals i v) w' → E ((puts vals ps a0).put o.dst v) w') → wpList P #[] (EndOf E) [o] (puts vals ps a0) w) : tailP P ops a0 Kf i (o :: r) vals w := by
  intro E hE
  rw [hps] at hE ⊢
  have h1 := h E hE
  have hw : ∀ (O : Array Oper) (t : Array Value), Region.wanted o (yielded O t) = true := fun O t => by simp [Region.wanted, hg]
  simp only [wpList, hw, if_true] at h1 ⊢
  exact h1
theorem tail_end {Kf : (Nat → Value) → World → Prop} {vals : Nat → Value} {w : World} (h : Kf vals w) : tailP P ops a0 Kf i [] vals w := h
theorem upd_self (vals : Nat → Value) (i : Nat) (v : Value) : upd vals i v i = v := if_pos rfl
theorem upd_ne {vals : Nat → Value} {i j : Nat} {v : Value} (h : j ≠ i) : upd vals i v j = vals j := if_neg h
theorem DetL.next {v : Value} {r : Oper} {rest : List Oper} (hs : DetStep P ops C C Φ i a0 o v) (h : DetL P ops C D a0 K (i + 1) (r :: rest) fun vals => Φ vals ∧ vals i = v) : DetL P ops C D a0 K i (o :: r :: rest) Φ := ⟨v, hs, h⟩
theorem DetL.last {v : Value} (hs : DetStep P ops C D Φ i a0 o v) (h : K fun vals => Φ vals ∧ vals i = v) : DetL P ops C D a0 K i [o] Φ := ⟨v, hs, h⟩
end
end
end Go.Proofs.Ytcnebbhnpocofaa
/-
  Plain: words as natural numbers, and how the walk spells what is done to them.
-/
namespace Go.Proofs.Ytcnebbhnpocofaa
set_option linter.unusedSimpArgs false
set_option linter.unusedVariables false
open Go.RowKit
section
variable (a b : Nat)
theorem xor64 (ha : a < 18446744073709551616) (hb : b < 18446744073709551616) : bits .xor .u64 (a : Int) (b : Int) = ((a ^^^ b : Nat) : Int) := by
  show IntKind.u64.wrap ((BitVec.ofInt 64 (a : Int) ^^^ BitVec.ofInt 64 (b : Int)).toNat : Int) = _
  have h := Nat.xor_lt_two_pow (n := 64) (x := a) (y := b) ha hb
  rw [BitVec.toNat_xor, BitVec.ofInt_natCast, BitVec.ofInt_natCast, BitVec.toNat_ofNat, BitVec.toNat_ofNat, Nat.mod_eq_of_lt ha, Nat.mod_eq_of_lt hb, IntKind.wrap_u64]
  omega
theorem and64 (ha : a < 18446744073709551616) (hb : b < 18446744073709551616) : bits .and .u64 (a : Int) (b : Int) = ((a &&& b : Nat) : Int) := by
  show IntKind.u64.wrap ((BitVec.ofInt 64 (a : Int) &&& BitVec.ofInt 64 (b : Int)).toNat : Int) = _
  have h : a &&& b ≤ a := Nat.and_le_left
  rw [BitVec.toNat_and, BitVec.ofInt_natCast, BitVec.ofInt_natCast, BitVec.toNat_ofNat, BitVec.toNat_ofNat, Nat.mod_eq_of_lt ha, Nat.mod_eq_of_lt hb, IntKind.wrap_u64]
  omega
end
theorem ret_int' {k : IntKind} {a b : Int} (h : a = b) : Ending.returned (.int k a) = .returned (.int k b) := by rw [h]
theorem below_drewN' {B : Nat} {a w : World} (h : Below B a w) (n : Nat) : Below B a (w.drewN n) := ⟨h.os, h.tape, h.output, h.size, h.block⟩
theorem add2_64 (a b : Nat) : IntKind.u64.wrap ((a : Int) + (b : Int)) = (((a + b) % 2 ^ 64 : Nat) : Int) := by rw [IntKind.wrap_u64]; omega
theorem and_lt {a b m : Nat} (h : a < m) : a &&& b < m := Nat.lt_of_le_of_lt Nat.and_le_left h
def rotN (b x n : Nat) : Nat := x / 2 ^ n ||| x * 2 ^ (b - n) % 2 ^ b
theorem rotN_lt {b x n : Nat} (hx : x < 2 ^ b) : rotN b x n < 2 ^ b :=
  Nat.or_lt_two_pow (Nat.lt_of_le_of_lt (Nat.div_le_self _ _) hx) (Nat.mod_lt _ (Nat.two_pow_pos _))
def turnedN (b x n : Nat) : Nat := if b = 32 then rotN 32 (x % 4294967296) n else rotN 64 x n
theorem turnedN_lt {b x n : Nat} (hx : x < 18446744073709551616) : turnedN b x n < 18446744073709551616 := by
  unfold turnedN
  split
  · have := rotN_lt (b := 32) (x := x % 4294967296) (n := n) (Nat.mod_lt _ (by decide))
    omega
  · exact rotN_lt (b := 64) hx
def lastN (b x c : Nat) (shift : Bool) : Nat := if shift then x / 2 ^ c else turnedN b x c
theorem lastN_lt {b x c : Nat} {shift : Bool} (hx : x < 18446744073709551616) : lastN b x c shift < 18446744073709551616 := by
  unfold lastN
  split
  · exact Nat.lt_of_le_of_lt (Nat.div_le_self _ _) hx
  · exact turnedN_lt hx
def allN (b x p q c : Nat) (shift : Bool) : Nat := turnedN b x p ^^^ turnedN b x q ^^^ lastN b x c shift
end Go.Proofs.Ytcnebbhnpocofaa
/-
  Regions that draw their order: operations that give one value each (some of them pure), and a tail of operations, one behind the other, that may turn on the world.
-/
namespace Go.Proofs.Ytcnebbhnpocofaa
set_option linter.unusedSimpArgs false
set_option linter.unusedVariables false
section
variable {P : Program}
def DetStepQ (P : Program) (ops : Array Oper) (C : World → Prop) (p : Bool) (Φ : (Nat → Value) → Prop) (i : Nat) (a0 : Act) (o : Oper) (v : Value) : Prop :=
  ∀ vals, Φ vals → ∀ w, (p = false → C w) → ∀ E : Act → World → Prop, (∀ w', (if p = true then w' = w else C w') → E ((putAll ops vals (waitsOf ops i) a0).put o.dst v) w') → wpList P ops (EndOf E) [o] (putAll ops vals (waitsOf ops i) a0) w
def DetQ (P : Program) (ops : Array Oper) (C : World → Prop) (pu : Nat → Bool) (a0 : Act) (K : ((Nat → Value) → Prop) → Prop) : Nat → List Oper → ((Nat → Value) → Prop) → Prop
  | _, [], Φ => K Φ
  | i, o :: rest, Φ => ∃ v, DetStepQ P ops C (pu i) Φ i a0 o v ∧ DetQ P ops C pu a0 K (i + 1) rest fun vals => Φ vals ∧ vals i = v
theorem detQ_all {ops : Array Oper} {C : World → Prop} {pu : Nat → Bool} {a0 : Act} {K : ((Nat → Value) → Prop) → Prop} : ∀ (rest : List Oper) (i : Nat) (Φ : (Nat → Value) → Prop),
    (∀ v1 v2 : Nat → Value, (∀ j, j < i → v1 j = v2 j) → Φ v1 → Φ v2) → (∃ vals, Φ vals) → DetQ P ops C pu a0 K i rest Φ →
    ∃ (vs : Nat → Value) (Ψ : (Nat → Value) → Prop), K Ψ ∧ Φ vs ∧ (∀ vals, (∀ j, j < i + rest.length → vals j = vs j) → Ψ vals) ∧
      ∀ j o, rest[j]? = some o → ∀ vals w, (pu (i + j) = false → C w) → (∀ k, k < i + j → vals k = vs k) → ∀ E : Act → World → Prop, (∀ w', (if pu (i + j) = true then w' = w else C w') → E ((putAll ops vals (waitsOf ops (i + j)) a0).put o.dst (vs (i + j))) w') → wpList P ops (EndOf E) [o] (putAll ops vals (waitsOf ops (i + j)) a0) w
  | [], i, Φ, hΦ, ⟨v0, h0⟩, h => ⟨v0, Φ, h, h0, fun vals hv => hΦ _ _ (fun j hj => (hv j (by simpa using hj)).symm) h0, fun j o ho => by simp at ho⟩
  | o :: rest, i, Φ, hΦ, ⟨v0, h0⟩, ⟨v, h1, h2⟩ => by
    obtain ⟨vs, Ψ, k1, k2, k3, k4⟩ := detQ_all rest (i + 1) (fun vals => Φ vals ∧ vals i = v)
      (fun v1 v2 hv hp => ⟨hΦ v1 v2 (fun j hj => hv j (by omega)) hp.1, by rw [← hv i (by omega)]; exact hp.2⟩)
      ⟨upd v0 i v, hΦ v0 _ (fun j hj => by simp [upd, Nat.ne_of_lt hj]) h0, by simp [upd]⟩ h2
    refine ⟨vs, Ψ, k1, k2.1, fun vals hv => k3 vals fun j hj => hv j (by simp only [List.length_cons] at hj ⊢; omega), fun j o' ho vals w hc hv => ?_⟩
    cases j with
    | zero =>
      simp at ho
      subst ho
      have hΦv : Φ vals := hΦ vs _ (fun j hj => (hv j (by omega)).symm) k2.1
      intro E hE
      refine h1 vals hΦv w hc E fun w'' hd => ?_
      have h4 := hE w'' hd
      rw [Nat.add_zero, k2.2] at h4
      exact h4
    | succ j =>
      rw [show i + (j + 1) = i + 1 + j by omega] at hc hv ⊢
      exact k4 j o' (by simpa using ho) vals w hc hv
theorem wp_region_tailq {id : Nat} {l : List Oper} {a0 : Act} {w0 : World} {Q : Exit → Act → World → Prop} (C : World → Prop) (pu : Nat → Bool) (d : Nat) (ps : List (Nat × Option Tmp))
    (hm : P.follows .mixedOrders = true) (hok : regionOk l.toArray = true) (hd : d < l.length)
    (hlast : ((List.range l.length).all fun k => decide (k < d) || (((List.range k).all fun i => (deepWaits l.toArray 5 k).contains i || (pu i && decide (i < d))) && (k == d || (waitsOf l.toArray k).contains (k - 1)))) = true)
    (hps : ∀ vals, putAll l.toArray vals (List.range l.toArray.size) a0 = puts vals ps a0) (hC : C w0.drew)
    (h : DetQ P l.toArray C pu a0 (fun Φ => ∀ vals, Φ vals → ∀ w, C w → tailP P l.toArray a0 (fun vals w => Q .normal (puts vals ps a0) w) d (l.drop d) vals w) 0 (l.take d) (fun _ => True)) :
    (Code.region id l.toArray true).wp P Q a0 w0 := by
  obtain ⟨vs, Ψ, k1, _, k3, k4⟩ := detQ_all (P := P) (l.take d) 0 (fun _ => True) (fun _ _ _ h => h) ⟨fun _ => undef, trivial⟩ h
  have htl : (l.take d).length = d := by rw [List.length_take]; omega
  simp only [Nat.zero_add, htl] at k3 k4
  have hdeep : ∀ k, k < l.length → d ≤ k → ∀ i, i < k → (deepWaits l.toArray 5 k).contains i = true ∨ (pu i = true ∧ i < d) := fun k hk hdk i hi => by
    have h1 := (List.all_eq_true.1 hlast) k (List.mem_range.2 hk)
    simp only [Bool.or_eq_true, decide_eq_true_eq, Bool.and_eq_true] at h1
    rcases h1 with h1 | h1
    · omega
    · have h2 := (List.all_eq_true.1 h1.1) i (List.mem_range.2 hi)
      simpa only [Bool.or_eq_true, Bool.and_eq_true, decide_eq_true_eq] using h2
  have hprev : ∀ k, k < l.length → d < k → (waitsOf l.toArray k).contains (k - 1) = true := fun k hk hdk => by
    have h1 := (List.all_eq_true.1 hlast) k (List.mem_range.2 hk)
    simp only [Bool.or_eq_true, decide_eq_true_eq, Bool.and_eq_true, beq_iff_eq] at h1
    rcases h1 with h1 | ⟨_, h1 | h1⟩
    · omega
    · omega
    · exact h1
  let Kf : (Nat → Value) → World → Prop := fun vals w => Q .normal (puts vals ps a0) w
  let kills : Nat → Nat → Bool := fun i k => decide (d ≤ k) && (decide (k < i) || decide (l.length ≤ k))
  refine wp_region_rel (fun _ => True) (fun _ => C) (fun _ i => decide (d ≤ i))
    (fun i vals w => if i < d then vals i = vs i else tailP P l.toArray a0 Kf (i + 1) (l.drop (i + 1)) (mergeV d vs vals) w)
    (fun i w w' => if d ≤ i then True else if pu i = true then w' = w else (C w → C w')) kills hm hok trivial (fun _ => hC) ?_ ?_ ?_ ?_
  · intro _ i hi w w' hS hc
    have hne : ¬ d ≤ i := by simpa using hi
    rw [if_neg hne] at hS
    by_cases hp : pu i = true
    · rw [if_pos hp] at hS; rw [hS]; exact hc
    · rw [if_neg hp] at hS; exact hS hc
  · intro i k hi hik hk hdk vals v w w' hS hF
    by_cases hkd : k < d
    · simp only [hkd, if_true] at hF ⊢
      simp [upd, Ne.symm hik, hF]
    · have hki : ¬ k < i := by
        intro hlt
        have h9 : kills i k = true := by
          have a1 : d ≤ k := by omega
          simp [kills, a1, hlt]
        rw [h9] at hk; cases hk
      have hkl : k < l.length ∨ l.length ≤ k := Nat.lt_or_ge _ _
      rcases hkl with hkl | hkl
      · rcases hdeep k hkl (by omega) i (by omega) with h8 | ⟨h8, h7⟩
        · rw [h8] at hdk; cases hdk
        · simp only [hkd, if_false] at hF ⊢
          rw [if_neg (by omega), if_pos h8] at hS
          subst hS
          have e : mergeV d vs (upd vals i v) = mergeV d vs vals := by
            funext j
            unfold mergeV upd
            by_cases h1 : j = i
            · subst h1; simp [h7]
            · simp [h1]
          rw [e]; exact hF
      · have h9 : kills i k = true := by
          have a1 : d ≤ k := by omega
          simp [kills, a1, hkl]
        rw [h9] at hk; cases hk
  · intro i o ho w vals _ hini hav
    have hil : i < l.length := by have := (Array.getElem?_eq_some_iff.1 ho).1; simpa using this
    have hok1 := okAt hok ho
    by_cases hid : i < d
    · have hcw : pu i = false → C w := fun hpf => hini false (by
        unfold availIni
        rw [List.all_eq_true]
        intro k hk
        have hk' : k < l.length := by simpa using hk
        by_cases hki : k = i
        · simp [hki]
        · by_cases hkd : d ≤ k
          · rcases hdeep k hk' hkd i (by omega) with h8 | ⟨h8, _⟩
            · simp only [h8, Bool.or_true]
            · rw [h8] at hpf; cases hpf
          · simp [hkd])
      have hvals : ∀ j ∈ waitsOf l.toArray i, vals j = vs j := fun j hj => by
        have hji : j < d := by
          have := hok1.before j hj
          omega
        have h1 : availAt l.toArray kills j i = true := by
          unfold availAt
          simp only [kills, Bool.and_eq_true]
          refine ⟨by simpa using hj, ?_⟩
          rw [List.all_eq_true]
          intro k _
          have : ¬ d ≤ j := by omega
          simp [this]
        have := hav j h1
        dsimp only at this
        rw [if_pos hji] at this
        exact this
      have hcon : putAll l.toArray vals (waitsOf l.toArray i) a0 = putAll l.toArray vs (waitsOf l.toArray i) a0 := putAll_congr _ _ _ _ _ hvals
      have ho2 : (l.take d)[i]? = some o := by rw [List.getElem?_take, if_pos hid]; simpa using ho
      have h3 := k4 i o ho2 vs w hcw (fun _ _ => rfl)
      rw [hcon]
      refine h3 _ fun w' hd' => ?_
      refine ⟨vs i, rfl, ?_, trivial, ?_⟩
      · dsimp only; rw [if_pos hid]; simp [upd]
      · dsimp only
        rw [if_neg (by omega)]
        by_cases hp : pu i = true
        · rw [if_pos hp] at hd' ⊢; exact hd'
        · rw [if_neg hp] at hd' ⊢; exact fun _ => hd'
    · have hget : l.drop i = o :: l.drop (i + 1) := by
        have h1 : l[i]? = some o := by simpa using ho
        have h2 := List.drop_eq_getElem_cons hil
        rw [List.getElem?_eq_getElem hil] at h1
        rw [h2, Option.some.inj h1]
      have hvals : ∀ j ∈ waitsOf l.toArray i, vals j = mergeV d vs vals j := fun j hj => by
        unfold mergeV
        split
        · rename_i hjd
          have h1 : availAt l.toArray kills j i = true := by
            unfold availAt
            simp only [kills, Bool.and_eq_true]
            refine ⟨by simpa using hj, ?_⟩
            rw [List.all_eq_true]
            intro k _
            have : ¬ d ≤ j := by omega
            simp [this]
          have := hav j h1
          dsimp only at this
          rw [if_pos hjd] at this
          exact this
        · rfl
      have hcon : putAll l.toArray vals (waitsOf l.toArray i) a0 = putAll l.toArray (mergeV d vs vals) (waitsOf l.toArray i) a0 := putAll_congr _ _ _ _ _ hvals
      have htail : tailP P l.toArray a0 Kf i (l.drop i) (mergeV d vs vals) w := by
        by_cases he : i = d
        · subst he
          have hcw : C w := hini false (by
            unfold availIni
            rw [List.all_eq_true]
            intro k hk
            have hk' : k < l.length := by simpa using hk
            by_cases hki : k = i
            · simp [hki]
            · by_cases hkd : i ≤ k
              · rcases hdeep k hk' hkd i (by omega) with h8 | ⟨_, h8⟩
                · simp only [h8, Bool.or_true]
                · omega
              · simp [hkd])
          exact k1 _ (k3 _ fun j hj => by simp [mergeV, hj]) w hcw
        · have hav1 : availAt l.toArray kills (i - 1) i = true := by
            unfold availAt
            rw [Bool.and_eq_true]
            refine ⟨hprev i hil (by omega), ?_⟩
            rw [List.all_eq_true]
            intro k hk
            have hk' : k < l.length := by simpa using hk
            by_cases hki : k = i
            · simp [hki]
            · by_cases hki2 : i < k
              · rcases hdeep k hk' (by omega) i hki2 with h8 | ⟨_, h8⟩
                · simp only [h8, Bool.or_true]
                · omega
              · have : ¬ i - 1 < k ∨ k = i - 1 := by omega
                rcases this with h1 | h1
                · have h8 : ¬ l.length ≤ i - 1 := by omega
                  simp [kills, h1, h8]
                · simp [h1]
          have := hav (i - 1) hav1
          dsimp only at this
          rw [if_neg (by omega), show i - 1 + 1 = i by omega] at this
          exact this
      rw [hget] at htail
      rw [hcon]
      refine htail _ fun v w' ht => ?_
      refine ⟨v, rfl, ?_, trivial, ?_⟩
      · dsimp only
        rw [if_neg hid, mergeV_upd _ _ _ (by omega)]
        exact ht
      · dsimp only; rw [if_pos (by omega)]; trivial
  · intro w vals _ hF
    have hn1 : l.length - 1 < l.length := by omega
    have halive : aliveAt l.toArray kills (l.length - 1) = true := by
      unfold aliveAt
      rw [List.all_eq_true]
      intro k hk
      have hk' : k < l.length := by simpa using hk
      have : ¬ l.length - 1 < k := by omega
      have h8 : ¬ l.length ≤ l.length - 1 := by omega
      simp [kills, this, h8]
    have h1 := hF (l.length - 1) (by simpa using hn1) halive
    rw [if_neg (by omega), show l.length - 1 + 1 = l.length by omega, List.drop_length] at h1
    have hcon : putAll l.toArray vals (List.range l.toArray.size) a0 = putAll l.toArray (mergeV d vs vals) (List.range l.toArray.size) a0 := putAll_congr _ _ _ _ _ fun j hj => by
      unfold mergeV
      split
      · rename_i hjd
        have hal : aliveAt l.toArray kills j = true := by
          unfold aliveAt
          rw [List.all_eq_true]
          intro k _
          have : ¬ d ≤ j := by omega
          simp [kills, this]
        have := hF j (by simpa using (List.mem_range.1 hj)) hal
        rw [if_pos hjd] at this
        exact this
      · rfl
    rw [hcon, hps]
    exact h1
section
variable {ops : Array Oper} {C D : World → Prop} {a0 : Act} {K : ((Nat → Value) → Prop) → Prop} {i : Nat} {Φ : (Nat → Value) → Prop} {o : Oper}
theorem DetQ.next {v : Value} {rest : List Oper} {pu : Nat → Bool} (hs : DetStepQ P ops C (pu i) Φ i a0 o v) (h : DetQ P ops C pu a0 K (i + 1) rest fun vals => Φ vals ∧ vals i = v) : DetQ P ops C pu a0 K i (o :: rest) Φ := ⟨v, hs, h⟩
theorem DetQ.done {pu : Nat → Bool} (h : K Φ) : DetQ P ops C pu a0 K i [] Φ := h
end
end
end Go.Proofs.Ytcnebbhnpocofaa
/-
  Regions that draw their order, walked as if in order: each operation gives one value whatever the world, as long as C holds; a tail of operations comes last, one behind the other.
-/
namespace Go.Proofs.Ytcnebbhnpocofaa
set_option linter.unusedSimpArgs false
set_option linter.unusedVariables false
open Go.RowKit
variable {P : Program}
def SeqL (P : Program) (ops : Array Oper) (C : World → Prop) (pu : Nat → Bool) (K : Act → Prop) : Nat → List Oper → Act → Prop
  | _, [], a => K a
  | i, o :: r, a => ∃ v, (∀ w, (pu i = false → C w) → ∀ E : Act → World → Prop, (∀ w', (if pu i = true then w' = w else C w') → E (a.put o.dst v) w') → wpList P ops (EndOf E) [o] a w) ∧ SeqL P ops C pu K (i + 1) r (a.put o.dst v)
def SeqT (P : Program) (ops : Array Oper) (K : Act → World → Prop) : List Oper → Act → World → Prop
  | [], a, w => K a w
  | o :: r, a, w => ∀ E : Act → World → Prop, (∀ v w', SeqT P ops K r (a.put o.dst v) w' → E (a.put o.dst v) w') → wpList P ops (EndOf E) [o] a w
theorem put_like {A1 A2 : Act} {d : Option Tmp} {v v' : Value} (hs : A1.tmps.size = A2.tmps.size) (h : A2.put d v = A2.put d v') : A1.put d v = A1.put d v' := by
  cases d with
  | none => rfl
  | some d =>
    by_cases hd : d < A2.tmps.size
    · have h1 := congrArg (fun a : Act => a.tmps[d]?) h
      simp only [put_at _ _ _ hd] at h1
      rw [Option.some.inj h1]
    · have h2 : ¬ d < A1.tmps.size := by rw [hs]; exact hd
      simp only [Act.put, Array.setIfInBounds, h2, dif_neg, not_false_eq_true]
theorem seq_move {ops : Array Oper} {o : Oper} {A1 A2 : Act} {w : World} {R : Value → World → Prop} {E1 : Act → World → Prop} (hsel : ∀ cs b, o.op ≠ .select cs b)
    (hs : A1.tmps.size = A2.tmps.size) (hlook : ∀ t ∈ o.looksAt ops, A1.tmps[t]? = A2.tmps[t]?)
    (h : wpList P ops (EndOf fun a' w' => ∃ v, a' = A2.put o.dst v ∧ R v w') [o] A2 w) (hE : ∀ v w', R v w' → E1 (A1.put o.dst v) w') : wpList P ops (EndOf E1) [o] A1 w := by
  have heval : ∀ x ∈ o.op.operands, A1.eval x = A2.eval x := by
    intro x hx
    cases x with
    | tmp t =>
      have := hlook t (List.mem_append_left _ (List.mem_filterMap.2 ⟨.tmp t, by simpa using hx, rfl⟩))
      simp only [Act.eval, Array.getD_eq_getD_getElem?, this]
    | _ => rfl
  have hexec : execOp A1.eval o = execOp A2.eval o := execOp_congr o hsel heval
  have hwant : Region.wanted o (yielded ops A1.tmps) = Region.wanted o (yielded ops A2.tmps) := by
    unfold Region.wanted
    cases hg : o.guard with
    | none => rfl
    | some gw =>
      obtain ⟨g, want⟩ := gw
      have : yielded ops A1.tmps g = yielded ops A2.tmps g := by
        unfold yielded
        cases ht : (ops[g]?).bind (·.dst) with
        | none => rfl
        | some t =>
          have := hlook t (by
            refine List.mem_append_right _ ?_
            simp [hg, ht])
          simp only [Option.bind_some, this]
      simp only [this]
  have hend : ∀ (v : Value) (w' : World), (∃ v', A2.put o.dst v = A2.put o.dst v' ∧ R v' w') → E1 (A1.put o.dst v) w' := by
    rintro v w' ⟨v', h1, h2⟩
    rw [put_like hs h1]
    exact hE v' w' h2
  simp only [wpList] at h ⊢
  rw [hwant]
  split
  · rename_i hwt
    rw [if_pos hwt] at h
    rcases h with h | ⟨_, a₀, w₀, hq⟩
    case inr => exact absurd hq.1 (by simp)
    refine .inl ?_
    unfold Oper.wp at *
    rw [hexec]
    generalize (execOp A2.eval o).run P w = r at *
    cases r with
    | ok n w' =>
      cases n <;> simp only [Oper.upon] at h ⊢
      case value v => exact ⟨rfl, hend v w' h.2⟩
      case skip => exact ⟨rfl, hend _ w' h.2⟩
      case defer d =>
        obtain ⟨_, v, hv, _⟩ := h
        have := congrArg Act.defers hv
        rw [put_defers, put_defers] at this
        exact absurd this (by simp)
      case enter f args =>
        refine Calls.mono h fun e w'' he => ?_
        cases e with
        | returned v => exact ⟨rfl, hend v w'' he.2⟩
        | panicked c => exact absurd he.1 (by simp)
        | outgrown => obtain ⟨_, _, hq⟩ := he; exact absurd hq.1 (by simp)
      case row row args => exact Rows.mono h fun v w'' he => ⟨rfl, hend v w'' he.2⟩
    | halt x w' =>
      cases x <;> simp only [Oper.upon] at h ⊢
      exact absurd h.1 (by simp)
  · rename_i hwt
    rw [if_neg hwt] at h
    exact ⟨rfl, hend _ _ h.2⟩
theorem putAll_snoc (ops : Array Oper) (vals : Nat → Value) (i : Nat) : ∀ (l : List Nat) (a : Act), putAll ops vals (l ++ [i]) a = (putAll ops vals l a).put (dstAt ops i) (vals i)
  | [], a => rfl
  | j :: r, a => putAll_snoc ops vals i r _
theorem region_dist {ops : Array Oper} (hok : regionOk ops = true) : ∀ i j d, i ≠ j → dstAt ops i = some d → dstAt ops j ≠ some d := fun i j d hij hd => by
  have hil := dst_lt hd
  exact (okAt hok (Array.getElem?_eq_getElem hil)).dist j (Ne.symm hij) d hd
theorem seq_look {ops : Array Oper} (hok : regionOk ops = true) {i : Nat} {o : Oper} (ho : ops[i]? = some o) (vals : Nat → Value) (a0 : Act) :
    ∀ t ∈ o.looksAt ops, (putAll ops vals (waitsOf ops i) a0).tmps[t]? = (putAll ops vals (List.range i) a0).tmps[t]? := by
  intro t ht
  have hdist := region_dist hok
  obtain ⟨p1, p2, p3, p4⟩ := putAll_look hdist vals (waitsOf ops i) a0
  obtain ⟨q1, q2, q3, q4⟩ := putAll_look hdist vals (List.range i) a0
  have ok := okAt hok ho
  by_cases hex : ∃ j, dstAt ops j = some t
  · obtain ⟨j, hj⟩ := hex
    rcases ok.look t ht j hj with hji | hij
    · have hlt := ok.before j hji
      by_cases hts : t < a0.tmps.size
      · rw [p3 j hji t hj hts, q3 j (List.mem_range.2 hlt) t hj hts]
      · rw [Array.getElem?_eq_none (by rw [p1]; exact Nat.le_of_not_lt hts), Array.getElem?_eq_none (by rw [q1]; exact Nat.le_of_not_lt hts)]
    · have hjl := dst_lt hj
      have hlt : i < j := (okAt hok (Array.getElem?_eq_getElem hjl)).before i hij
      have no : ∀ k, k < i → dstAt ops k ≠ some t := fun k hk e => by
        by_cases hkj : k = j
        · omega
        · exact hdist j k t (fun e => hkj e.symm) hj e
      rw [p4 t fun k hk => no k (ok.before k hk), q4 t fun k hk => no k (List.mem_range.1 hk)]
  · have hno : ∀ j, dstAt ops j ≠ some t := fun j e => hex ⟨j, e⟩
    rw [p4 t fun k _ => hno k, q4 t fun k _ => hno k]
theorem seq_detQ {ops : Array Oper} {C : World → Prop} {pu : Nat → Bool} {a0 : Act} {K : ((Nat → Value) → Prop) → Prop} {Ks : Act → Prop} (hok : regionOk ops = true) :
    ∀ (rest : List Oper) (i : Nat) (Φ : (Nat → Value) → Prop) (a : Act), (∀ j o, rest[j]? = some o → ops[i + j]? = some o) → (∀ vals, Φ vals → putAll ops vals (List.range i) a0 = a) →
      (∀ (a : Act) (Ψ : (Nat → Value) → Prop), (∀ vals, Ψ vals → putAll ops vals (List.range (i + rest.length)) a0 = a) → Ks a → K Ψ) → SeqL P ops C pu Ks i rest a → DetQ P ops C pu a0 K i rest Φ
  | [], i, Φ, a, _, hΦ, hK, h => hK a Φ hΦ h
  | o :: r, i, Φ, a, hat, hΦ, hK, ⟨v, h1, h2⟩ => by
    have ho : ops[i]? = some o := by simpa using hat 0 o rfl
    have hdo : dstAt ops i = o.dst := by simp [dstAt, ho]
    have ok := okAt hok ho
    refine ⟨v, ?_, ?_⟩
    · intro vals hv w hc E hE
      have ha := hΦ vals hv
      have h3 := h1 w hc (fun a' w' => ∃ v', a' = a.put o.dst v' ∧ (v' = v ∧ (if pu i = true then w' = w else C w'))) fun w' hw' => ⟨v, rfl, rfl, hw'⟩
      have hdist := region_dist hok
      refine seq_move (A2 := a) (R := fun v' w' => v' = v ∧ (if pu i = true then w' = w else C w')) ok.sel ?_ ?_ h3 ?_
      · rw [← ha, (putAll_look hdist vals (waitsOf ops i) a0).1, (putAll_look hdist vals (List.range i) a0).1]
      · rw [← ha]
        exact seq_look hok ho vals a0
      · rintro v' w' ⟨rfl, hw'⟩
        exact hE w' hw'
    · refine seq_detQ hok r (i + 1) _ (a.put o.dst v) (fun j o' hj => by rw [show i + 1 + j = i + (j + 1) by omega]; exact hat (j + 1) o' (by simpa using hj)) ?_ ?_ h2
      · rintro vals ⟨hv, hvi⟩
        rw [List.range_succ, putAll_snoc, hΦ vals hv, hdo, hvi]
      · intro a' Ψ hΨ hk
        refine hK a' Ψ (fun vals hv => ?_) hk
        rw [← hΨ vals hv]
        congr 2
        simp only [List.length_cons]
        omega
theorem putAll_puts (ops : Array Oper) (vals : Nat → Value) : ∀ (l : List Nat) (a : Act), putAll ops vals l a = puts vals (l.map fun j => (j, dstAt ops j)) a
  | [], _ => rfl
  | j :: r, a => putAll_puts ops vals r _
theorem seq_tail {ops : Array Oper} {a0 : Act} {Kq : Act → World → Prop} {n : Nat} (hok : regionOk ops = true) : ∀ (rest : List Oper) (i : Nat) (vals : Nat → Value) (a : Act) (w : World), (∀ j o, rest[j]? = some o → ops[i + j]? = some o) → i + rest.length = n →
    putAll ops vals (List.range i) a0 = a → SeqT P ops Kq rest a w → tailP P ops a0 (fun vals w => Kq (putAll ops vals (List.range n) a0) w) i rest vals w
  | [], i, vals, a, w, _, hn, ha, h => by
    have hn' : i = n := by simpa using hn
    show Kq (putAll ops vals (List.range n) a0) w
    rw [← hn', ha]
    exact h
  | o :: r, i, vals, a, w, hat, hn, ha, h => by
    have ho : ops[i]? = some o := by simpa using hat 0 o rfl
    have hdo : dstAt ops i = o.dst := by simp [dstAt, ho]
    have ok := okAt hok ho
    have hdist := region_dist hok
    intro E hE
    have h3 := h (fun a' w' => ∃ v, a' = a.put o.dst v ∧ SeqT P ops Kq r (a.put o.dst v) w') fun v w' hv => ⟨v, rfl, hv⟩
    refine seq_move (A2 := a) (R := fun v w' => SeqT P ops Kq r (a.put o.dst v) w') ok.sel ?_ ?_ h3 ?_
    · rw [← ha, (putAll_look hdist vals (waitsOf ops i) a0).1, (putAll_look hdist vals (List.range i) a0).1]
    · rw [← ha]
      exact seq_look hok ho vals a0
    · intro v w' hv
      refine hE v w' ?_
      refine seq_tail hok r (i + 1) (upd vals i v) (a.put o.dst v) w' (fun j o' hj => by rw [show i + 1 + j = i + (j + 1) by omega]; exact hat (j + 1) o' (by simpa using hj)) (by simp only [List.length_cons] at hn; omega) ?_ hv
      rw [List.range_succ, putAll_snoc, hdo]
      rw [putAll_congr ops (upd vals i v) vals (List.range i) a0 (fun j hj => by have := List.mem_range.1 hj; simp [upd, Nat.ne_of_lt this]), ha]
      simp [upd]
theorem wp_region_seq {id : Nat} {l : List Oper} {a0 : Act} {w0 : World} {Q : Exit → Act → World → Prop} (C : World → Prop)
    (hm : P.follows .mixedOrders = true) (hok : regionOk l.toArray = true) (hC : C w0.drew)
    (h : SeqL P l.toArray C (fun _ => false) (fun a => ∀ w, C w → Q .normal a w) 0 l a0) :
    (Code.region id l.toArray true).wp P Q a0 w0 := by
  have hd := seq_detQ (K := fun Φ => ∀ vals, Φ vals → ∀ w, C w → Q .normal (putAll l.toArray vals (List.range l.toArray.size) a0) w) hok l 0 (fun _ => True) a0 (by simp) (fun _ _ => rfl)
    (fun a Ψ hΨ hk vals hv w hc => by
      have := hΨ vals hv
      rw [Nat.zero_add] at this
      rw [show l.toArray.size = l.length by simp, this]
      exact hk w hc) h
  obtain ⟨vs, Ψ, k1, _, k3, k4⟩ := detQ_all (P := P) l 0 (fun _ => True) (fun _ _ _ h => h) ⟨fun _ => undef, trivial⟩ hd
  refine wp_region_rel C (fun _ _ => True) (fun _ _ => true) (fun i vals w => vals i = vs i) (fun _ _ _ => True) (fun _ _ => false) hm hok hC (fun _ => trivial) ?_ ?_ ?_ ?_
  · intro _ i hi
    cases hi
  · intro i k hi hik _ hdk vals v w w' _ hF
    show upd vals i v k = vs k
    simp [upd, Ne.symm hik, hF]
  · intro i o ho w vals hcw _ hav
    have hvals : ∀ j ∈ waitsOf l.toArray i, vals j = vs j := fun j hj => by
      have h1 : availAt l.toArray (fun _ _ => false) j i = true := by
        unfold availAt
        simp [hj]
      exact hav j h1
    have hcon : putAll l.toArray vals (waitsOf l.toArray i) a0 = putAll l.toArray vs (waitsOf l.toArray i) a0 := putAll_congr _ _ _ _ _ hvals
    have h3 := k4 i o (by simpa using ho) vs w (fun _ => hcw) (fun _ _ => rfl)
    rw [Nat.zero_add] at h3
    rw [hcon]
    refine h3 (fun a' w' => ∃ v, a' = (putAll l.toArray vs (waitsOf l.toArray i) a0).put o.dst v ∧ upd vals i v i = vs i ∧ C w' ∧ True) fun w' hd => ?_
    exact ⟨vs i, rfl, by simp [upd], by simpa using hd, trivial⟩
  · intro w vals hcw hF
    have hal : ∀ j, aliveAt l.toArray (fun _ _ => false) j = true := fun j => by simp [aliveAt]
    exact k1 vals (k3 vals fun j hj => hF j (by simpa using hj) (hal _)) w hcw
theorem wp_region_seqt {id : Nat} {l : List Oper} {a0 : Act} {w0 : World} {Q : Exit → Act → World → Prop} (C : World → Prop) (pu : Nat → Bool) (d : Nat)
    (hm : P.follows .mixedOrders = true) (hok : regionOk l.toArray = true) (hd : d < l.length)
    (hlast : ((List.range l.length).all fun k => decide (k < d) || (((List.range k).all fun i => (deepWaits l.toArray 5 k).contains i || (pu i && decide (i < d))) && (k == d || (waitsOf l.toArray k).contains (k - 1)))) = true)
    (hC : C w0.drew)
    (h : SeqL P l.toArray C pu (fun a => ∀ w, C w → SeqT P l.toArray (fun a w => Q .normal a w) (l.drop d) a w) 0 (l.take d) a0) :
    (Code.region id l.toArray true).wp P Q a0 w0 := by
  refine wp_region_tailq C pu d ((List.range l.toArray.size).map fun j => (j, dstAt l.toArray j)) hm hok hd hlast (fun vals => putAll_puts _ _ _ _) hC ?_
  have htl : (l.take d).length = d := by rw [List.length_take]; omega
  refine seq_detQ hok (l.take d) 0 (fun _ => True) a0 (fun j o hj => ?_) (fun _ _ => rfl) (fun a Ψ hΨ hk vals hv w hc => ?_) h
  · rw [List.getElem?_take] at hj
    split at hj
    · simpa using hj
    · cases hj
  · have ha := hΨ vals hv
    rw [Nat.zero_add, htl] at ha
    have h9 := seq_tail (P := P) (Kq := fun a w => Q .normal a w) (n := l.length) hok (l.drop d) d vals a w (fun j o hj => by
      rw [List.getElem?_drop] at hj
      simpa using hj) (by rw [List.length_drop]; omega) ha (hk w hc)
    have e : (fun (vals : Nat → Value) w => Q .normal (puts vals ((List.range l.toArray.size).map fun j => (j, dstAt l.toArray j)) a0) w) = fun vals w => Q .normal (putAll l.toArray vals (List.range l.length) a0) w := by
      funext vals w
      rw [← putAll_puts]
      simp
    rw [e]
    exact h9
section
variable {ops : Array Oper} {C : World → Prop} {pu : Nat → Bool} {K : Act → Prop} {i : Nat} {o : Oper} {r : List Oper} {a a' : Act} {v : Value}
theorem SeqL.nil (h : K a) : SeqL P ops C pu K i [] a := h
theorem SeqT.nil {K : Act → World → Prop} {w : World} (h : K a w) : SeqT P ops K [] a w := h
theorem SeqL.next (hp : pu i = false) (hg : o.guard = none) (ha : a.put o.dst v = a')
    (h : ∀ w, C w → ∀ E : Act → World → Prop, (∀ w', C w' → E a' w') → wpList P #[] (EndOf E) [o] a w)
    (hr : SeqL P ops C pu K (i + 1) r a') : SeqL P ops C pu K i (o :: r) a := by
  subst ha
  refine ⟨v, fun w hc E hE => ?_, hr⟩
  have h1 := h w (hc hp) E (fun w' hw' => hE w' (by rw [hp]; simpa using hw'))
  have hw : ∀ (O : Array Oper) (t : Array Value), Region.wanted o (yielded O t) = true := fun O t => by simp [Region.wanted, hg]
  simp only [wpList, hw, if_true] at h1 ⊢
  exact h1
theorem SeqL.pure (hp : pu i = true) (hg : o.guard = none) (ha : a.put o.dst v = a')
    (h : ∀ w, ∀ E : Act → World → Prop, E a' w → wpList P #[] (EndOf E) [o] a w)
    (hr : SeqL P ops C pu K (i + 1) r a') : SeqL P ops C pu K i (o :: r) a := by
  subst ha
  refine ⟨v, fun w hc E hE => ?_, hr⟩
  have h1 := h w E (hE w (by rw [hp]; simp))
  have hw : ∀ (O : Array Oper) (t : Array Value), Region.wanted o (yielded O t) = true := fun O t => by simp [Region.wanted, hg]
  simp only [wpList, hw, if_true] at h1 ⊢
  exact h1
theorem SeqL.yes {g : Nat} {t : Tmp} {b : Bool} (hp : pu i = false) (hg : o.guard = some (g, b)) (hd : dstAt ops g = some t) (ht : a.tmps[t]? = some (.bool b)) (ha : a.put o.dst v = a')
    (h : ∀ w, C w → ∀ E : Act → World → Prop, (∀ w', C w' → E a' w') → wpList P #[] (EndOf E) [{ o with guard := none }] a w)
    (hr : SeqL P ops C pu K (i + 1) r a') : SeqL P ops C pu K i (o :: r) a := by
  subst ha
  refine ⟨v, fun w hc E hE => ?_, hr⟩
  have h1 := h w (hc hp) E (fun w' hw' => hE w' (by rw [hp]; simpa using hw'))
  have hw : Region.wanted o (yielded ops a.tmps) = true := by
    unfold dstAt at hd
    simp [Region.wanted, hg, yielded, hd, ht]
  have hw' : ∀ (O : Array Oper) (t : Array Value), Region.wanted { o with guard := none } (yielded O t) = true := fun O t => by simp [Region.wanted]
  simp only [wpList, hw, hw', if_true] at h1 ⊢
  have hk : ∀ a w, Oper.asks P { o with guard := none } a w = Oper.asks P o a w := fun a w => rfl
  rw [hk] at h1
  exact h1
theorem SeqL.no {g : Nat} {t : Tmp} {b : Bool} (hg : o.guard = some (g, b)) (hd : dstAt ops g = some t) (ht : a.tmps[t]? = some (.bool !b)) (ha : a.put o.dst undef = a')
    (hr : SeqL P ops C pu K (i + 1) r a') : SeqL P ops C pu K i (o :: r) a := by
  subst ha
  refine ⟨undef, fun w hc E hE => ?_, hr⟩
  have hd' : (ops[g]?).bind (·.dst) = some t := hd
  have hw : ¬ Region.wanted o (yielded ops a.tmps) = true := by
    simp [Region.wanted, hg, yielded, hd', ht]
  simp only [wpList, if_neg hw]
  refine ⟨rfl, hE w ?_⟩
  split
  · rfl
  · rename_i h
    exact hc (by simpa using h)
theorem SeqT.step {K : Act → World → Prop} {w : World} (hg : o.guard = none)
    (h : ∀ E : Act → World → Prop, (∀ v w', SeqT P ops K r (a.put o.dst v) w' → E (a.put o.dst v) w') → wpList P #[] (EndOf E) [o] a w) : SeqT P ops K (o :: r) a w := by
  intro E hE
  have h1 := h E hE
  have hw : ∀ (O : Array Oper) (t : Array Value), Region.wanted o (yielded O t) = true := fun O t => by simp [Region.wanted, hg]
  simp only [wpList, hw, if_true] at h1 ⊢
  exact h1
end
end Go.Proofs.Ytcnebbhnpocofaa
/-
  A drawn region walked in order: an operation that gives no value (a store that keeps C).
-/
namespace Go.Proofs.Ytcnebbhnpocofaa
set_option linter.unusedSimpArgs false
set_option linter.unusedVariables false
variable {P : Program} {ops : Array Oper} {C : World → Prop} {pu : Nat → Bool} {K : Act → Prop} {i : Nat} {o : Oper} {r : List Oper} {a : Act}
theorem SeqL.store (hp : pu i = false) (hg : o.guard = none) (hd : o.dst = none)
    (h : ∀ w, C w → ∀ E : Act → World → Prop, (∀ w', C w' → E a w') → wpList P #[] (EndOf E) [o] a w)
    (hr : SeqL P ops C pu K (i + 1) r a) : SeqL P ops C pu K i (o :: r) a :=
  SeqL.next (v := undef) hp hg (by rw [hd]; rfl) h hr
theorem SeqT.last {K : Act → World → Prop} {D : World → Prop} {v : Value} {a' : Act} (hg : o.guard = none) (ha : a.put o.dst v = a')
    (h : ∀ w, C w → ∀ E : Act → World → Prop, (∀ w', D w' → E a' w') → wpList P #[] (EndOf E) [o] a w) (hq : ∀ w, D w → K a' w) : ∀ w, C w → SeqT P ops K [o] a w := by
  subst ha
  intro w hc
  exact SeqT.step hg fun E hE => h w hc E fun w' hd => hE v w' (hq w' hd)
end Go.Proofs.Ytcnebbhnpocofaa
/-
  Walks: sha's form.turned, form.all, cut.
-/
namespace Go.Proofs.Ytcnebbhnpocofaa.Sh
set_option linter.unusedSimpArgs false
set_option linter.unusedVariables false
open Go.RowKit
theorem below_new (w : World) (o : Obj) : Below w.heap.size w (w.alloc o) := (Below.refl _ _).alloc (Nat.le_refl _) _
end Go.Proofs.Ytcnebbhnpocofaa.Sh
/-
  Plain: the digests, as the program makes them.
-/
namespace Go.Proofs.Ytcnebbhnpocofaa.Sh
set_option linter.unusedSimpArgs false
set_option linter.unusedVariables false
open Go.RowKit
def beN (l : List UInt8) : Nat := l.foldl (fun n c => n * 256 + c.toNat) 0
theorem beN_snoc (l : List UInt8) (c : UInt8) : beN (l ++ [c]) = beN l * 256 + c.toNat := by simp [beN]
theorem foldl_fromN (x : Nat) (c : List UInt8) : c.foldl (fun n c => n * 256 + c.toNat) x = x * 256 ^ c.length + beN c := by
  induction c generalizing x with
  | nil => simp [beN]
  | cons z c ih =>
    have e : beN (z :: c) = c.foldl (fun n c => n * 256 + c.toNat) z.toNat := by simp [beN]
    rw [List.foldl_cons, ih, e, ih, List.length_cons, Nat.pow_succ, Nat.add_mul, Nat.mul_assoc, Nat.mul_comm 256, Nat.add_assoc]
theorem beN_append (a c : List UInt8) : beN (a ++ c) = beN a * 256 ^ c.length + beN c := by
  rw [beN, List.foldl_append, foldl_fromN]; rfl
theorem beN_lt (l : List UInt8) : beN l < 256 ^ l.length := by
  induction l with
  | nil => simp [beN]
  | cons z l ih =>
    have e := beN_append [z] l
    have hz := z.toNat_lt
    have e1 : beN [z] = z.toNat := by simp [beN]
    rw [show z :: l = [z] ++ l from rfl, e, e1, List.length_append, List.length_singleton, Nat.pow_add, Nat.pow_one]
    have : z.toNat * 256 ^ l.length ≤ 255 * 256 ^ l.length := Nat.mul_le_mul_right _ (by omega)
    omega
structure ShaF where
  bits : Nat
  many : Nat
  s0 : Nat × Nat × Nat
  s1 : Nat × Nat × Nat
  t0 : Nat × Nat × Nat
  t1 : Nat × Nat × Nat
def F32 : ShaF := ⟨32, 64, (2, 13, 22), (6, 11, 25), (7, 18, 3), (17, 19, 10)⟩
def allF (F : ShaF) (x : Nat) (p : Nat × Nat × Nat) (shift : Bool) : Nat := allN F.bits x p.1 p.2.1 p.2.2 shift
def pieceN (e : Nat) (blk : List UInt8) (t : Nat) : Nat := beN ((blk.drop (t * e)).take e)
def nextW (F : ShaF) (r : List Nat) (t : Nat) : Nat :=
  (r.getD (t - 16) 0 + r.getD (t - 7) 0 + (allF F (r.getD (t - 15) 0) F.t0 true + allF F (r.getD (t - 2) 0) F.t1 true)) % 2 ^ F.bits
def rowW (F : ShaF) (blk : List UInt8) : Nat → List Nat
  | 0 => []
  | t + 1 => rowW F blk t ++ [if t < 16 then pieceN (F.bits / 8) blk t else nextW F (rowW F blk t) t]
theorem rowW_length (F : ShaF) (blk : List UInt8) : ∀ t, (rowW F blk t).length = t
  | 0 => rfl
  | t + 1 => by simp [rowW, rowW_length F blk t]
theorem pieceN_lt (e : Nat) (blk : List UInt8) (t : Nat) : pieceN e blk t < 256 ^ e := by
  have h := beN_lt ((blk.drop (t * e)).take e)
  have h2 : ((blk.drop (t * e)).take e).length ≤ e := List.length_take_le _ _
  exact Nat.lt_of_lt_of_le h (Nat.pow_le_pow_right (by omega) h2)
theorem rowW_lt (F : ShaF) (hb : 256 ^ (F.bits / 8) = 2 ^ F.bits) (blk : List UInt8) : ∀ t, ∀ x ∈ rowW F blk t, x < 2 ^ F.bits
  | 0, x, hx => by simp [rowW] at hx
  | t + 1, x, hx => by
    simp only [rowW, List.mem_append, List.mem_singleton] at hx
    rcases hx with hx | rfl
    · exact rowW_lt F hb blk t x hx
    · split
      · rw [← hb]; exact pieceN_lt _ _ _
      · exact Nat.mod_lt _ (Nat.two_pow_pos _)
theorem getD_lt {l : List Nat} {b : Nat} (h : ∀ x ∈ l, x < b) (hb : 0 < b) (i : Nat) : l.getD i 0 < b := by
  by_cases hi : i < l.length
  · rw [List.getD_eq_getElem?_getD, List.getElem?_eq_getElem hi]; exact h _ (List.getElem_mem hi)
  · rw [List.getD_eq_getElem?_getD, List.getElem?_eq_none (by omega)]; exact hb
def wordsV (K : IntKind) (l : List Nat) : List Value := l.map fun n : Nat => Value.int K (n : Int)
theorem wordsV_length (K : IntKind) (l : List Nat) : (wordsV K l).length = l.length := by simp [wordsV]
end Go.Proofs.Ytcnebbhnpocofaa.Sh
/-
  Plain: a state behind a block, as the program makes it.
-/
namespace Go.Proofs.Ytcnebbhnpocofaa.Sh
set_option linter.unusedSimpArgs false
set_option linter.unusedVariables false
open Go.RowKit
def stepsN : List Nat := [4794697086780616226, 8158064640168781261, 13096744586834688815, 16840607885511220156, 4131703408338449720, 6480981068601479193, 10538285296894168987, 12329834152419229976, 15566598209576043074, 1334009975649890238, 2608012711638119052, 6128411473006802146, 8268148722764581231, 9286055187155687089, 11230858885718282805, 13951009754708518548, 16472876342353939154, 17275323862435702243, 1135362057144423861, 2597628984639134821, 3308224258029322869, 5365058923640841347, 6679025012923562964, 8573033837759648693, 10970295158949994411, 12119686244451234320, 12683024718118986047, 13788192230050041572, 14330467153632333762, 15395433587784984357, 489312712824947311, 1452737877330783856, 2861767655752347644, 3322285676063803686, 5560940570517711597, 5996557281743188959, 7280758554555802590, 8532644243296465576, 9350256976987008742, 10552545826968843579, 11727347734174303076, 12113106623233404929, 14000437183269869457, 14369950271660146224, 15101387698204529176, 15463397548674623760, 17586052441742319658, 1182934255886127544, 1847814050463011016, 2177327727835720531, 2830643537854262169, 3796741975233480872, 4115178125766777443, 5681478168544905931, 6601373596472566643, 7507060721942968483, 8399075790359081724, 8693463985226723168, 9568029438360202098, 10144078919501101548, 10430055236837252648, 11840083180663258601, 13761210420658862357, 14299343276471374635, 14566680578165727644, 15097957966210449927, 16922976911328602910, 17689382322260857208, 500013540394364858, 748580250866718886, 1242879168328830382, 1977374033974150939, 2944078676154940804, 3659926193048069267, 4368137639120453308, 4836135668995329356, 5532061633213252278, 6448918945643986474, 6902733635092675308, 7801388544844847127]
def kN (F : ShaF) (t : Nat) : Nat := stepsN.getD t 0 / 2 ^ (64 - F.bits) % 2 ^ F.bits
structure S8 where
  a : Nat
  b : Nat
  c : Nat
  d : Nat
  e : Nat
  f : Nat
  g : Nat
  h : Nat
structure S8.Lt (s : S8) (m : Nat) : Prop where
  a : s.a < m
  b : s.b < m
  c : s.c < m
  d : s.d < m
  e : s.e < m
  f : s.f < m
  g : s.g < m
  h : s.h < m
def mixX (F : ShaF) (s : S8) (k w : Nat) : Nat := (s.h + allF F s.e F.s1 false + ((s.e &&& s.f) ^^^ ((2 ^ F.bits - 1 - s.e) &&& s.g)) + k + w) % 2 ^ F.bits
def mixY (F : ShaF) (s : S8) : Nat := (allF F s.a F.s0 false + ((s.a &&& s.b) ^^^ (s.a &&& s.c) ^^^ (s.b &&& s.c))) % 2 ^ F.bits
def stepS (F : ShaF) (s : S8) (k w : Nat) : S8 := ⟨(mixX F s k w + mixY F s) % 2 ^ F.bits, s.a, s.b, s.c, (s.d + mixX F s k w) % 2 ^ F.bits, s.e, s.f, s.g⟩
def mixTo (F : ShaF) (r : List Nat) (s : S8) : Nat → S8
  | 0 => s
  | t + 1 => stepS F (mixTo F r s t) (kN F t) (r.getD t 0)
def addS (F : ShaF) (s v : S8) : S8 := ⟨(v.a + s.a) % 2 ^ F.bits, (v.b + s.b) % 2 ^ F.bits, (v.c + s.c) % 2 ^ F.bits, (v.d + s.d) % 2 ^ F.bits, (v.e + s.e) % 2 ^ F.bits, (v.f + s.f) % 2 ^ F.bits, (v.g + s.g) % 2 ^ F.bits, (v.h + s.h) % 2 ^ F.bits⟩
def mixS (F : ShaF) (s : S8) (blk : List UInt8) : S8 := addS F s (mixTo F (rowW F blk F.many) s F.many)
theorem stepS_lt {F : ShaF} {s : S8} {k w : Nat} (h : s.Lt (2 ^ F.bits)) : (stepS F s k w).Lt (2 ^ F.bits) :=
  ⟨Nat.mod_lt _ (Nat.two_pow_pos _), h.a, h.b, h.c, Nat.mod_lt _ (Nat.two_pow_pos _), h.e, h.f, h.g⟩
theorem mixTo_lt {F : ShaF} {r : List Nat} {s : S8} (h : s.Lt (2 ^ F.bits)) : ∀ t, (mixTo F r s t).Lt (2 ^ F.bits)
  | 0 => h
  | t + 1 => stepS_lt (mixTo_lt h t)
theorem addS_lt (F : ShaF) (s v : S8) : (addS F s v).Lt (2 ^ F.bits) := by
  constructor <;> exact Nat.mod_lt _ (Nat.two_pow_pos _)
def s8L (s : S8) : List Nat := [s.a, s.b, s.c, s.d, s.e, s.f, s.g, s.h]
def addC (K : IntKind) (F : ShaF) (s v : S8) (i : Nat) : Array Value := (wordsV K ((s8L (addS F s v)).take i ++ (s8L v).drop i)).toArray
end Go.Proofs.Ytcnebbhnpocofaa.Sh
/-
  Plain: a digest, as the program makes it.
-/
namespace Go.Proofs.Ytcnebbhnpocofaa.Sh
set_option linter.unusedSimpArgs false
set_option linter.unusedVariables false
open Go.RowKit
def zeroN (F : ShaF) (n : Nat) : Nat := (2 * F.bits - 8 + 2 * F.bits - (n + 1) % (2 * F.bits)) % (2 * F.bits)
def moreN (F : ShaF) (n : Nat) : Nat := if 8 < F.bits / 4 ∧ 2 * F.bits - F.bits / 4 ≤ n % (2 * F.bits) ∧ n % (2 * F.bits) < 2 * F.bits - 8 then 2 * F.bits else 0
def be8 (n : Nat) : Nat → List UInt8
  | 0 => []
  | k + 1 => be8 n k ++ [UInt8.ofNat (n / 2 ^ (56 - 8 * k))]
def padS (F : ShaF) (data : List UInt8) : List UInt8 := data ++ [128] ++ List.replicate (zeroN F data.length) 0 ++ List.replicate (moreN F data.length) 0 ++ be8 (data.length * 8) 8
def firstN : List Nat := [7640891576956012808, 13503953896175478587, 4354685564936845355, 11912009170470909681, 5840696475078001361, 11170449401992604703, 2270897969802886507, 6620516959819538809]
def startS (F : ShaF) : S8 :=
  let f := fun i => firstN.getD i 0 / 2 ^ (64 - F.bits) % 2 ^ F.bits
  ⟨f 0, f 1, f 2, f 3, f 4, f 5, f 6, f 7⟩
def runS (F : ShaF) (all : List UInt8) : Nat → S8
  | 0 => startS F
  | k + 1 => mixS F (runS F all k) ((all.drop (k * (2 * F.bits))).take (2 * F.bits))
theorem startS_at (F : ShaF) (i : Nat) (h : i < 8) : (s8L (startS F)).getD i 0 = firstN.getD i 0 / 2 ^ (64 - F.bits) % 2 ^ F.bits := by
  match i, h with
  | 0, _ => rfl
  | 1, _ => rfl
  | 2, _ => rfl
  | 3, _ => rfl
  | 4, _ => rfl
  | 5, _ => rfl
  | 6, _ => rfl
  | 7, _ => rfl
theorem startS_lt (F : ShaF) : (startS F).Lt (2 ^ F.bits) := by
  constructor <;> exact Nat.mod_lt _ (Nat.two_pow_pos _)
theorem mixS_lt (F : ShaF) (s : S8) (blk : List UInt8) : (mixS F s blk).Lt (2 ^ F.bits) := addS_lt _ _ _
theorem runS_lt (F : ShaF) (all : List UInt8) : ∀ k, (runS F all k).Lt (2 ^ F.bits)
  | 0 => startS_lt F
  | _ + 1 => mixS_lt F _ _
theorem s8L_lt {s : S8} {m : Nat} (h : s.Lt m) (hm : 0 < m) (i : Nat) : (s8L s).getD i 0 < m :=
  getD_lt (fun x hx => by
    simp [s8L] at hx
    rcases hx with rfl | rfl | rfl | rfl | rfl | rfl | rfl | rfl
    all_goals first | exact h.a | exact h.b | exact h.c | exact h.d | exact h.e | exact h.f | exact h.g | exact h.h) hm i
def wordB (b : Nat) (x : Nat) : Nat → List UInt8
  | 0 => []
  | k + 1 => wordB b x k ++ [UInt8.ofNat (x / 2 ^ (b - 8 - 8 * k))]
def digS (F : ShaF) (data : List UInt8) : List UInt8 := (s8L (runS F (padS F data) ((padS F data).length / (2 * F.bits)))).flatMap fun x => wordB F.bits x (F.bits / 8)
end Go.Proofs.Ytcnebbhnpocofaa.Sh
/-
  Laws of my own on rows that the call owns and may write: append of one element.
-/
namespace Go.Proofs.Ytcnebbhnpocofaa
set_option linter.unusedSimpArgs false
set_option linter.unusedVariables false
open Go.RowKit
theorem own_len {w : World} {base e size n : Nat} {v : Value} {xs : List Value} (h : w.ownsRow base e size v n xs) : xs.length = n * size := h.1
theorem own_lt {w : World} {base e size n : Nat} {v : Value} {xs : List Value} (h : w.ownsRow base e size v n xs) : ∀ k, v.ownBlock = some k → base ≤ k ∧ k < w.heap.size := (OwnX.of h).lt
theorem own_mono {w : World} {base base' e size n : Nat} {v : Value} {xs : List Value} (h : w.ownsRow base e size v n xs) (hb : base' ≤ base) : w.ownsRow base' e size v n xs :=
  ⟨h.1, h.2.elim .inl fun ⟨g, cap, cur, hv, hg, r⟩ => .inr ⟨g, cap, cur, hv, Nat.le_trans hb hg, r⟩⟩
theorem own_cap {w : World} {base e size n c : Nat} {A : Option Addr} {xs : List Value} (h : OwnX w base e size (.slice A n c) n xs) : n ≤ c ∧ c ≤ 9223372036854775807 := by
  rcases h.2 with ⟨hv, hn⟩ | ⟨g, cap, cur, fz, hv, _, _, hnc, hcm, _⟩
  · injection hv with _ _ h3; omega
  · injection hv with _ _ h3; unfold maxLen at hcm; omega
section
variable {P : Program}
theorem wpList_append_own1 {w0 : World} {y : Value} {ops : Array Oper} {rest : List Oper} {o : Oper} {a : Act} {Q : Exit → Act → World → Prop} {s x : Operand} {t e : TypeId} {bytes : Nat} (T : SlT P t e 1 bytes)
    (hgd : o.guard = none) (ho : o.op = .call { callee := .builtin .append, args := #[s, x], argTypes := #[t, t] })
    {base n : Nat} {v : Value} {xs : List Value} {ad : Nat} (hown : w0.ownsRow base e 1 v n xs) (hs : a.eval s = v) (hx : a.eval x = .slice (some ⟨ad, 0, none⟩) 1 1) (had : ad = w0.heap.size)
    (hy : y.oneCell' = true)
    (h63 : n + 1 ≤ maxLen) (hbytes : (n + 1) * bytes ≤ 140737488355328) (hbase : base ≤ w0.heap.size)
    (h : ∀ A c w', w'.ownsRow base e 1 (.slice A (n + 1) c) (n + 1) (xs ++ [y]) → w0.grownBy w' v.ownBlock → wpList P ops Q rest (a.put o.dst (.slice A (n + 1) c)) w') :
    wpList P ops Q (o :: rest) a (w0.alloc (.cells #[y] e)) := by
  subst had
  obtain ⟨i, z, hi, hz, hsz, hby, hzs⟩ := T.info
  obtain ⟨v', w', hr, h2, h3, _, _⟩ := run_append_own_at (P := P) (w0.alloc (.cells #[y] e)) base t o.type e i z 1 bytes T.und hi hz hsz hby hzs (by omega) v n xs (hown.alloc _) ⟨w0.heap.size, 0, none⟩ 1 1 [y] rfl (fun j u hu => cell_one_new _ _ _ j u hu)
    (by intro u hu; simp at hu; subst hu; exact hy) h63 hbytes (by simp; omega)
  have hv : ∃ A c, v' = .slice A (n + 1) c := by
    rcases h2.2 with ⟨_, h0⟩ | ⟨g, cap, cur, rfl, _⟩
    · omega
    · exact ⟨_, _, rfl⟩
  obtain ⟨A, c, rfl⟩ := hv
  refine wpList_of_append (R := fun v' w1 => v' = .slice A (n + 1) c ∧ w1 = w') hgd ho hs hx ⟨_, _, hr, rfl, rfl⟩ ?_
  rintro v' w1 ⟨rfl, rfl⟩
  exact h _ _ _ h2 ((World.grownBy_alloc w0 _ _).trans h3)
end
end Go.Proofs.Ytcnebbhnpocofaa
/-
  Walks and plain: what sha's sums of both kinds share.
-/
namespace Go.Proofs.Ytcnebbhnpocofaa.Sh
set_option linter.unusedSimpArgs false
set_option linter.unusedVariables false
open Go.RowKit
theorem sl_bytes : SlT Try.prog 78 5 1 1 := SlT.mk1 (z := .int .u8 0) Try.underlying78 (by kernel_rfl) rfl (by decide)
def lenOf : Value → Nat | .slice _ n _ => n | _ => 0
def outW (b e : Nat) (s : S8) (k : Nat) : List UInt8 := ((s8L s).take k).flatMap fun x => wordB b x e
theorem wordB_length (b x : Nat) : ∀ k, (wordB b x k).length = k
  | 0 => rfl
  | k + 1 => by simp [wordB, wordB_length b x k]
theorem outW_length (b e : Nat) (s : S8) (k : Nat) (h : k ≤ 8) : (outW b e s k).length = k * e := by
  match k, h with
  | 0, _ => simp [outW, s8L]
  | 1, _ => simp [outW, s8L, wordB_length]
  | 2, _ => simp [outW, s8L, wordB_length]; omega
  | 3, _ => simp [outW, s8L, wordB_length]; omega
  | 4, _ => simp [outW, s8L, wordB_length]; omega
  | 5, _ => simp [outW, s8L, wordB_length]; omega
  | 6, _ => simp [outW, s8L, wordB_length]; omega
  | 7, _ => simp [outW, s8L, wordB_length]; omega
  | 8, _ => simp [outW, s8L, wordB_length]; omega
theorem outW_succ (b e : Nat) (s : S8) (k : Nat) (h : k < 8) : outW b e s (k + 1) = outW b e s k ++ wordB b ((s8L s).getD k 0) e := by
  match k, h with
  | 0, _ => simp [outW, s8L]
  | 1, _ => simp [outW, s8L]
  | 2, _ => simp [outW, s8L]
  | 3, _ => simp [outW, s8L]
  | 4, _ => simp [outW, s8L]
  | 5, _ => simp [outW, s8L]
  | 6, _ => simp [outW, s8L]
  | 7, _ => simp [outW, s8L]
def oneZ (data : List UInt8) (k : Nat) : List UInt8 := data ++ [128] ++ List.replicate k 0
theorem oneZ_length (data : List UInt8) (k : Nat) : (oneZ data k).length = data.length + 1 + k := by simp [oneZ]; omega
theorem oneZ_zero (data : List UInt8) : oneZ data 0 = data ++ [128] := by simp [oneZ]
theorem oneZ_succ (data : List UInt8) (k : Nat) : oneZ data (k + 1) = oneZ data k ++ [0] := by simp [oneZ, List.replicate_succ']
theorem bytesV_snoc (l : List UInt8) (b : UInt8) : bytesV (l ++ [b]) = bytesV l ++ [.int .u8 (b.toNat : Int)] := by simp [bytesV, byteV]
theorem be8_length (n : Nat) : ∀ k, (be8 n k).length = k
  | 0 => rfl
  | k + 1 => by simp [be8, be8_length n k]
end Go.Proofs.Ytcnebbhnpocofaa.Sh
/-
  Walk: sha's sum, words of 32 bits.
-/
namespace Go.Proofs.Ytcnebbhnpocofaa.Sh
set_option linter.unusedSimpArgs false
set_option linter.unusedVariables false
open Go.RowKit
theorem pad32_blocks (data : List UInt8) : (padS F32 data).length % 64 = 0 := by
  have hz : zeroN F32 data.length = (2 * 32 - 8 + 2 * 32 - (data.length + 1) % (2 * 32)) % (2 * 32) := rfl
  have hm : moreN F32 data.length = 0 ∨ moreN F32 data.length = 64 := by
    unfold moreN
    split
    · exact .inr rfl
    · exact .inl rfl
  simp only [padS, List.length_append, List.length_replicate, List.length_singleton, be8_length]
  omega
end Go.Proofs.Ytcnebbhnpocofaa.Sh
/-
  Plain: numbers modulo 2^255 - 19 as five limbs of 51 bits.
-/
namespace Go.Proofs.Ytcnebbhnpocofaa
set_option linter.unusedSimpArgs false
set_option linter.unusedVariables false
open Go.RowKit
structure E5 where
  a : Nat
  b : Nat
  c : Nat
  d : Nat
  e : Nat
def E5.val (x : E5) : Nat := x.a + x.b * 2251799813685248 + x.c * 5070602400912917605986812821504 + x.d * 11417981541647679048466287755595961091061972992 + x.e * 25711008708143844408671393477458601640355247900524685364822016
structure E5.Lt (x : E5) (m : Nat) : Prop where
  a : x.a < m
  b : x.b < m
  c : x.c < m
  d : x.d < m
  e : x.e < m
theorem E5.Lt.mono {x : E5} {m n : Nat} (h : x.Lt m) (hm : m ≤ n) : x.Lt n := ⟨Nat.lt_of_lt_of_le h.a hm, Nat.lt_of_lt_of_le h.b hm, Nat.lt_of_lt_of_le h.c hm, Nat.lt_of_lt_of_le h.d hm, Nat.lt_of_lt_of_le h.e hm⟩
abbrev E5.Ok (x : E5) : Prop := x.Lt 4503599627370496
theorem E5.Ok.big {x : E5} (h : x.Ok) : x.Lt 18446744073709551616 := E5.Lt.mono h (by decide)
end Go.Proofs.Ytcnebbhnpocofaa
/-
  Walks: the field's carried.
-/
namespace Go.Proofs.Ytcnebbhnpocofaa
set_option linter.unusedSimpArgs false
set_option linter.unusedVariables false
open Go.RowKit
theorem below_new (w : World) (o : Obj) : Below w.heap.size w (w.alloc o) := (Below.refl _ _).alloc (Nat.le_refl _) _
theorem Blk.newAt {w : World} {n : Nat} {t : TypeId} {cs : Array Value} (h : w.heap.size = n) : Blk (w.alloc (.cells cs t)) n t cs := h ▸ Blk.new w t cs
end Go.Proofs.Ytcnebbhnpocofaa
/-
  Plain: a number's bytes, bit by bit.
-/
namespace Go.Proofs.Ytcnebbhnpocofaa
set_option linter.unusedSimpArgs false
set_option linter.unusedVariables false
open Go.RowKit
def byN (N : Nat) : List Nat := (List.range 32).map fun j => N / 256 ^ j % 256
end Go.Proofs.Ytcnebbhnpocofaa
/-
  Walk: the field's Bytes.
-/
namespace Go.Proofs.Ytcnebbhnpocofaa
set_option linter.unusedSimpArgs false
set_option linter.unusedVariables false
open Go.RowKit
def bnV (l : List Nat) : List Value := l.map fun n : Nat => Value.int .u8 (n : Int)
def BytesPost (N : Nat) (w : World) (e : Ending) (w' : World) : Prop :=
  ∃ o, e = .returned (.slice (some ⟨o, 0, none⟩) 32 32) ∧ w.heap.size ≤ o ∧ Blk w' o 5 (bnV (byN N)).toArray ∧ Below w.heap.size w w'
end Go.Proofs.Ytcnebbhnpocofaa
/-
  Plain: an element of 32 bytes.
-/
namespace Go.Proofs.Ytcnebbhnpocofaa
set_option linter.unusedSimpArgs false
set_option linter.unusedVariables false
open Go.RowKit
def digs (l : List UInt8) : List Nat := l.map UInt8.toNat
theorem digs_lt (l : List UInt8) : ∀ d ∈ digs l, d < 256 := fun d h => by
  obtain ⟨b, _, rfl⟩ := List.mem_map.1 h
  exact b.toNat_lt
end Go.Proofs.Ytcnebbhnpocofaa
/-
  Laws of my own on conversions between bytes and strings.
-/
namespace Go.Proofs.Ytcnebbhnpocofaa
set_option linter.unusedSimpArgs false
set_option linter.unusedVariables false
open Go.RowKit
section
variable {P : Program}
theorem run_str_of {w : World} {B : Nat} {src dst e : TypeId} (hs : P.underlying src = some (.slice e)) (he : P.underlying e = some (.int .u8)) (hd : P.underlying dst = some .string)
    {A : Option Addr} {l : List UInt8} (hr : Rd w B A (bytesV l)) (c : Nat) : (convert src dst (.slice A l.length c)).run P w = .ok (.string ⟨l.toArray⟩) w := by
  cases A with
  | none =>
    have hl : l = [] := by
      cases l with
      | nil => rfl
      | cons x r =>
        obtain ⟨ad, h, _⟩ := hr 0 (byteV x) (by simp [bytesV])
        cases h
    subst hl
    rw [run_convert_bytes_nil w src e hs he _ c dst hd]
    rfl
  | some ad =>
    have hl : (loadCells ad l.length).run P w = .ok ((l.map fun b => (b.toNat : Int)).map (Value.int .u8)).toArray w := by
      have := run_loadCells_list (P := P) w ad ((l.map fun b => (b.toNat : Int)).map (Value.int .u8)) (fun j v hj => by
        obtain ⟨ad', h, _, hc⟩ := hr j v (by rw [← hj]; simp [bytesV, byteV]; rfl)
        injection h with h
        subst h
        exact hc)
      simpa using this
    rw [run_convert_bytes_string w src dst e _ l.length c hs he hd, run_bytesToString w _ l.length c (l.map fun b => (b.toNat : Int)) hl, foldl_push_bytes]
    have e1 : ((l.map fun b => (b.toNat : Int)).map fun n => UInt8.ofNat n.toNat) = l := by
      rw [List.map_map]
      conv => rhs; rw [← List.map_id l]
      exact List.map_congr_left fun b _ => by simp
    rw [e1]
    simp [ByteArray.empty, ByteArray.emptyWithCapacity]
    rfl
theorem wpList_str_of {w : World} {ops : Array Oper} {rest : List Oper} {o : Oper} {a : Act} {Q : Exit → Act → World → Prop} {B : Nat} {src dst e : TypeId} {x : Operand} {A : Option Addr} {l : List UInt8} {c : Nat}
    (hr : Rd w B A (bytesV l)) (hs : P.underlying src = some (.slice e)) (he : P.underlying e = some (.int .u8)) (hd : P.underlying dst = some .string)
    (hgd : o.guard = none) (ho : o.op = .convert src dst x) (hx : a.eval x = .slice A l.length c)
    (h : wpList P ops Q rest (a.put o.dst (.string ⟨l.toArray⟩)) w) : wpList P ops Q (o :: rest) a w := by
  refine wpList_plain hgd fun K hK => ?_
  have hrun := run_str_of (P := P) hs he hd hr c
  unfold Oper.wp execOp
  simp only [ho, hx]
  simp only [Sem.run_bind, hrun, Result.andThen_ok, Sem.run_pure]
  exact hK _ _ h
end
end Go.Proofs.Ytcnebbhnpocofaa
/-
  Walks: the reference's Digits and Bytes.
-/
namespace Go.Proofs.Ytcnebbhnpocofaa
set_option linter.unusedSimpArgs false
set_option linter.unusedVariables false
open Go.RowKit
theorem sl_bytes : SlT Try.prog 78 5 1 1 := SlT.mk1 (z := .int .u8 0) Try.underlying78 (by kernel_rfl) rfl (by decide)
def numV (n : Nat) : Value := .int .i64 (n : Int)
def dV (l : List Nat) : List Value := l.map numV
end Go.Proofs.Ytcnebbhnpocofaa
/-
  Walks: the reference's P and Less.
-/
namespace Go.Proofs.Ytcnebbhnpocofaa
set_option linter.unusedSimpArgs false
set_option linter.unusedVariables false
open Go.RowKit
def DigPost (l : List Nat) (w : World) (e : Ending) (w' : World) : Prop :=
  ∃ A c, e = .returned (.slice A l.length c) ∧ l.length ≤ c ∧ Rd w' w'.heap.size A (dV l) ∧ Below w.heap.size w w'
structure D1 (w0 : World) (o : Nat) (l : List Nat) (u : World) : Prop where
  bel : Below w0.heap.size w0 u
  out : Blk u o 3 (dV l).toArray
  lo : w0.heap.size ≤ o
theorem D1.put {w0 u u' : World} {o : Nat} {l l' : List Nat} (k : D1 w0 o l u) (hw : Wrote o u u') (hb : Blk u' o 3 (dV l').toArray) : D1 w0 o l' u' :=
  ⟨hw.below k.bel k.lo k.bel.size, hb, k.lo⟩
theorem D1.next {w0 u u' : World} {o : Nat} {l : List Nat} (k : D1 w0 o l u) (hb : Below u.heap.size u u') : D1 w0 o l u' :=
  ⟨k.bel.trans (hb.mono k.bel.size), k.out.below hb k.out.lt, k.lo⟩
theorem D1.drew {w0 u : World} {o : Nat} {l : List Nat} (k : D1 w0 o l u) : D1 w0 o l u.drew := ⟨k.bel.drew, k.out, k.lo⟩
theorem D1.post {w0 u : World} {o n c : Nat} {l : List Nat} (k : D1 w0 o l u) (hn : n = l.length) (hc : n ≤ c) : DigPost l w0 (.returned (.slice (some ⟨o, 0, none⟩) n c)) u :=
  ⟨_, c, by rw [hn], by omega, Rd.of_blk k.out k.out.lt, k.bel⟩
end Go.Proofs.Ytcnebbhnpocofaa
/-
  Walk: jwk.Name.
-/
namespace Go.Proofs.Ytcnebbhnpocofaa
set_option linter.unusedSimpArgs false
set_option linter.unusedVariables false
open Go.RowKit
def hexD (n : Nat) : Nat := if n < 10 then 48 + n else 87 + n
def hexB (x : Nat) : List UInt8 := [UInt8.ofNat (hexD (x / 16)), UInt8.ofNat (hexD (x % 16))]
def nameK (h : List UInt8) (k : Nat) : List UInt8 := (h.take k).flatMap fun b => hexB b.toNat
theorem nameK_succ {h : List UInt8} {k : Nat} (hk : k < h.length) : nameK h (k + 1) = nameK h k ++ hexB h[k].toNat := by
  rw [nameK, List.take_succ_eq_append_getElem hk, List.flatMap_append]
  simp [nameK]
theorem hexB_length (x : Nat) : (hexB x).length = 2 := rfl
theorem nameK_length {h : List UInt8} : ∀ {k : Nat}, k ≤ h.length → (nameK h k).length = 2 * k
  | 0, _ => by simp [nameK]
  | k + 1, hk => by rw [nameK_succ (by omega), List.length_append, nameK_length (k := k) (by omega), hexB_length]; omega
def nameS (data : List UInt8) : ByteArray := ⟨(nameK (Sh.digS Sh.F32 data) 4).toArray⟩
end Go.Proofs.Ytcnebbhnpocofaa
/-
  Plain: turning a word step by step is turning it at once.
-/
namespace Go.Proofs.Ytcnebbhnpocofaa.Sh
set_option linter.unusedSimpArgs false
set_option linter.unusedVariables false
open Go.RowKit
def turnR (b x : Nat) : Nat → Nat
  | 0 => x
  | n + 1 => turnR b x n / 2 + turnR b x n % 2 * 2 ^ (b - 1)
theorem rotN_add {b x n : Nat} (hx : x < 2 ^ b) (hn : n ≤ b) : rotN b x n = x / 2 ^ n + x % 2 ^ n * 2 ^ (b - n) := by
  obtain ⟨m, rfl⟩ : ∃ m, b = n + m := ⟨b - n, by omega⟩
  have hm : n + m - n = m := by omega
  rw [rotN, hm]
  have h1 : x * 2 ^ m % 2 ^ (n + m) = x % 2 ^ n * 2 ^ m := by
    rw [Nat.pow_add, Nat.mul_mod_mul_right]
  have h2 : x / 2 ^ n < 2 ^ m := by
    rw [Nat.div_lt_iff_lt_mul (Nat.two_pow_pos _), ← Nat.pow_add, Nat.add_comm m n]; exact hx
  rw [h1, Nat.mul_comm (x % 2 ^ n), Nat.or_comm, ← Nat.two_pow_add_eq_or_of_lt h2]
  omega
theorem turnR_eq {b x : Nat} (hx : x < 2 ^ b) : ∀ n, n ≤ b → turnR b x n = x / 2 ^ n + x % 2 ^ n * 2 ^ (b - n)
  | 0, _ => by simp [turnR, Nat.mod_one]
  | n + 1, hn => by
    rw [turnR, turnR_eq hx n (by omega)]
    obtain ⟨m, rfl⟩ : ∃ m, b = n + 1 + m := ⟨b - (n + 1), by omega⟩
    rw [show n + 1 + m - n = m + 1 by omega, show n + 1 + m - (n + 1) = m by omega, show n + 1 + m - 1 = n + m by omega]
    obtain ⟨q, hq⟩ : ∃ q, q = x / 2 ^ n := ⟨_, rfl⟩
    obtain ⟨r, hr⟩ : ∃ r, r = x % 2 ^ n := ⟨_, rfl⟩
    have hq2 : x / 2 ^ (n + 1) = q / 2 := by rw [hq, Nat.pow_succ, Nat.div_div_eq_div_mul]
    have hr2 : x % 2 ^ (n + 1) = r + q % 2 * 2 ^ n := by
      rw [hr, hq, Nat.pow_succ, Nat.mod_mul]
      rw [Nat.mul_comm (2 ^ n)]
    rw [hq2, hr2, ← hq, ← hr]
    rw [Nat.pow_succ, ← Nat.mul_assoc]
    generalize hz : r * 2 ^ m = z
    rw [Nat.add_mul, hz, Nat.mul_assoc, ← Nat.pow_add, Nat.add_mul_mod_self_right, Nat.add_mul_div_right _ _ (by decide)]
    omega
theorem turnR_rot {b x n : Nat} (hx : x < 2 ^ b) (hn : n ≤ b) : turnR b x n = rotN b x n := by rw [turnR_eq hx n hn, rotN_add hx hn]
theorem turnR_lt {b x : Nat} (hb : 0 < b) (hx : x < 2 ^ b) : ∀ n, turnR b x n < 2 ^ b
  | 0 => hx
  | n + 1 => by
    have ih := turnR_lt hb hx n
    obtain ⟨c, rfl⟩ : ∃ c, b = c + 1 := ⟨b - 1, by omega⟩
    rw [turnR, show c + 1 - 1 = c by omega]
    rw [Nat.pow_succ] at *
    generalize 2 ^ c = p at *
    generalize turnR (c + 1) x n = y at *
    have : y % 2 = 0 ∨ y % 2 = 1 := by omega
    rcases this with h | h <;> rw [h] <;> omega
theorem turnR_turned {b x n : Nat} (hb : b = 32 ∨ b = 64) (hx : x < 2 ^ b) (hn : n ≤ b) : turnR b x n = turnedN b x n := by
  rw [turnR_rot hx hn]
  rcases hb with rfl | rfl
  · rw [turnedN, if_pos rfl, Nat.mod_eq_of_lt hx]
  · rw [turnedN, if_neg (by decide)]
end Go.Proofs.Ytcnebbhnpocofaa.Sh
/-
  Walks: the reference's turn, mixed, low, top.
-/
namespace Go.Proofs.Ytcnebbhnpocofaa.Sh
set_option linter.unusedSimpArgs false
set_option linter.unusedVariables false
open Go.RowKit
def hC (bits steps : Nat) (a b c d k f : Value) : Array Value := #[.int .i64 bits, .int .i64 steps, a, b, c, d, k, f]
section
variable (bits steps : Nat) (a b c d k f : Value) (w : World)
theorem low_any (hb : bits = 32 ∨ bits = 64) (x : Nat) (hx : x < 18446744073709551616) :
    Calls Try.prog 77 #[.agg (hC bits steps a b c d k f), .int .u64 x] w fun e w' => e = .returned (.int .u64 (x % 2 ^ bits : Nat)) ∧ Below w.heap.size w w' := by
  have c0 := (Blk.new w 103 (hC bits steps a b c d k f)).cell 0
  simp only [hC, List.getElem?_toArray, List.getElem?_cons_zero] at c0
  have hx1 : (x : Int) < 18446744073709551616 := by omega
  rw [hC]
  rcases hb with rfl | rfl
  · clear hx
    go_enter Try.func77, Try.ntmps77
    go_wp2
    go_ret
    exact ⟨ret_int' (by omega), below_new _ _⟩
  · have HX := Lib.hid hx
    clear hx
    go_enter Try.func77, Try.ntmps77
    go_wp2
    go_ret
    exact ⟨ret_int' (by have := HX.out; omega), below_new _ _⟩
theorem top_any (hb : bits = 32 ∨ bits = 64) (x : Nat) (hx : x < 18446744073709551616) :
    Calls Try.prog 70 #[.agg (hC bits steps a b c d k f), .int .u64 x] w fun e w' => e = .returned (.int .u64 (x / 2 ^ (64 - bits) % 2 ^ bits : Nat)) ∧ Below w.heap.size w w' := by
  have c0 := (Blk.new w 103 (hC bits steps a b c d k f)).cell 0
  simp only [hC, List.getElem?_toArray, List.getElem?_cons_zero] at c0
  have hx1 : (x : Int) < 18446744073709551616 := by omega
  rw [hC]
  rcases hb with rfl | rfl
  · have HX := Lib.hid hx
    clear hx
    go_enter Try.func70, Try.ntmps70
    go_wp2
    go_ret
    exact ⟨ret_int' (by have := HX.out; omega), below_new _ _⟩
  · have HX := Lib.hid hx
    clear hx
    go_enter Try.func70, Try.ntmps70
    go_wp2
    go_ret
    exact ⟨ret_int' (by have := HX.out; omega), below_new _ _⟩
set_option maxHeartbeats 1000000 in
theorem turn_any (hb : bits = 32 ∨ bits = 64) (x n : Nat) (hx : x < 2 ^ bits) (hn : n ≤ bits) :
    Calls Try.prog 78 #[.agg (hC bits steps a b c d k f), .int .u64 x, .int .i64 n] w fun e w' => e = .returned (.int .u64 (turnedN bits x n : Nat)) ∧ Below w.heap.size w w' := by
  have c0 := (Blk.new w 103 (hC bits steps a b c d k f)).cell 0
  simp only [hC, List.getElem?_toArray, List.getElem?_cons_zero] at c0
  have hbel := below_new w (.cells (hC bits steps a b c d k f) 103)
  rw [hC] at hbel ⊢
  have HTU := Lib.hid (turnR_turned hb hx hn)
  have HTL := Lib.hid (turnR_lt (by omega) hx)
  have HBEL := Lib.hid hbel
  have hn64 : n ≤ 64 := by omega
  clear hbel hn hx
  rcases hb with rfl | rfl
  all_goals
    go_enter Try.func78, Try.ntmps78
    go_wp2
    go_loop [1, 7] (fun v i => ∃ j y : Nat, j ≤ n ∧ i = .int .i64 j ∧ y = turnR _ x j ∧ v = .int .u64 y) (fun _ i => n - (intOf i).toNat)
    case atStart => exact ⟨0, x, by omega, rfl, rfl, rfl⟩
    case round =>
      obtain ⟨j, y, hj, rfl, hy, rfl⟩ := hrel
      have hyl := HTL.out j
      rw [← hy] at hyl
      have HY := Lib.hid hy
      have hyl2 : (y : Int) < 18446744073709551616 := by omega
      have hyl3 : (y : Int) / 2 + 2147483648 < 18446744073709551616 := by omega
      have hyl4 : (y : Int) / 2 + 9223372036854775808 < 18446744073709551616 := by omega
      clear hy hyl
      by_cases hlt : j < n
      · rcases Nat.mod_two_eq_zero_or_one y with h | h
        · have ho : (((y : Int) % 2) == 1) = false := by rw [beq_eq_false_iff_ne]; omega
          have HH := Lib.hid h
          clear h
          go_wp2
          exact ⟨⟨j + 1, y / 2, by omega, by go_num, by rw [turnR, ← HY.out, HH.out]; omega, by go_num⟩, by simp [intOf]; omega⟩
        · have ho : (((y : Int) % 2) == 1) = true := by rw [beq_iff_eq]; omega
          have HH := Lib.hid h
          clear h
          go_wp2
          first
            | exact ⟨⟨j + 1, y / 2 + 2147483648, by omega, by go_num, by rw [turnR, ← HY.out, HH.out], by go_num⟩, by simp [intOf]; omega⟩
            | exact ⟨⟨j + 1, y / 2 + 9223372036854775808, by omega, by go_num, by rw [turnR, ← HY.out, HH.out], by go_num⟩, by simp [intOf]; omega⟩
      · obtain rfl : j = n := by omega
        go_wp2
        go_ret
        exact ⟨ret_int' (by rw [HY.out, HTU.out]), HBEL.out⟩
end
end Go.Proofs.Ytcnebbhnpocofaa.Sh
/-
  Laws of my own: cells of a slice that reads.
-/
namespace Go.Proofs.Ytcnebbhnpocofaa
set_option linter.unusedSimpArgs false
set_option linter.unusedVariables false
open Go.RowKit
theorem Rd.val {w : World} {B : Nat} {ad : Addr} {xs : List Value} (h : Rd w B (some ad) xs) {k : Nat} {v : Value} (hv : xs[k]? = some v) : w.cell? (ad.add k) = some v := by
  obtain ⟨ad', e, _, hc⟩ := h k v hv
  injection e with e
  subst e
  exact hc
theorem Rd.val0 {w : World} {B : Nat} {ad : Addr} {xs : List Value} (h : Rd w B (some ad) xs) {v : Value} (hv : xs[0]? = some v) : w.cell? ad = some v := by
  have := h.val hv
  rwa [show ad.add 0 = ad by unfold Addr.add; simp] at this
theorem Rd.lit {w : World} {B : Nat} {ad : Addr} {xs : List Value} (h : Rd w B (some ad) xs) {k : Nat} {v : Value} (hv : xs[k]? = some v) (hk : k ≠ 0) : w.cell? ⟨ad.block, ad.off + k, none⟩ = some v := by
  have := h.val hv
  rwa [show ad.add k = ⟨ad.block, ad.off + k, none⟩ by unfold Addr.add; simp [hk]] at this
theorem OwnX.ptr {w : World} {base e n c : Nat} {A : Option Addr} {xs : List Value} (h : OwnX w base e 1 (.slice A n c) n xs) (hn : 0 < n) : ∃ g, A = some ⟨g, 0, none⟩ ∧ base ≤ g ∧ g < w.heap.size := by
  have hl := h.lt
  rcases h.2 with ⟨_, h0⟩ | ⟨g, cap, cur, fz, hv, hb, hg, _⟩
  · omega
  · injection hv with h1
    subst h1
    exact ⟨g, rfl, hb, (Array.getElem?_eq_some_iff.1 hg).1⟩
theorem OwnX.atN {w : World} {base e n c g i : Nat} {xs : List Value} {v : Value} (h : OwnX w base e 1 (.slice (some ⟨g, 0, none⟩) n c) n xs) (hv : xs[i]? = some v) : w.cell? ⟨g, i, none⟩ = some v := by
  have := h.cells (g := g) rfl i v hv
  rwa [Addr.add_lit, Nat.zero_add] at this
end Go.Proofs.Ytcnebbhnpocofaa
