/-
  The walk of Unpack.
-/
import Derived.Test.YtlngjalclagojaaTxt
import Derived.Test.YtlngjalclagojaaGuard
import Derived.Test.YtlngjalclagojaaMay
import Derived.Test.YtlngjalclagojaaRefB
import Derived.Test.YtlngjalclagojaaPut
import Derived.Test.YtlngjalclagojaaCut
namespace Go.Proofs.Ytlngjalclagojaa
open Go.RowKit

def fieldsS : Nat → Rs → List ByteArray × Rs
  | 0, s => ([], s)
  | n + 1, s => ((fieldsS n s).1 ++ [(textS (fieldsS n s).2).1], (textS (fieldsS n s).2).2)

/-- what the bytes say, whole or not -/
structure Said where
  msg : MsgD
  left : Rs
def saidS (b : List UInt8) : Said :=
  let a1 := numS 1 ⟨b, false⟩
  let a2 := numS 8 a1.2
  let a3 := textS a2.2
  let a4 := textS a3.2
  let a5 := numS 1 a4.2
  let a6 := fieldsS a5.1.toNat a5.2
  let a7 := numS 1 a6.2
  let a8 := takeS a7.1.toNat a7.2
  ⟨⟨a1.1, a3.1, a4.1, a2.1, a6.1, ⟨a8.1.toArray⟩⟩, a8.2⟩

/-- Unpack's closures, as they lie. -/
structure Clo (w : World) (B gr gs gt gn : Nat) (s : Rs) : Prop where
  inp : Inp w B gr gs s
  ht : Blk w gt 40 #[.func (.func 20) #[] #[.pointer (some ⟨gr, 0, none⟩), .pointer (some ⟨gs, 0, none⟩)]]
  hn : Blk w gn 42 #[.func (.func 21) #[] #[.pointer (some ⟨gt, 0, none⟩)]]
  t1 : gt ≠ gr
  t2 : gt ≠ gs
  n1 : gn ≠ gr
  n2 : gn ≠ gs
theorem Clo.next {w w' : World} {B gr gs gt gn : Nat} {s s' : Rs} (h : Clo w B gr gs gt gn s) (hw : Wrote2 gr gs w w') (hi : Inp w' B gr gs s') : Clo w' B gr gs gt gn s' :=
  ⟨hi, hw.blk h.ht h.t1 h.t2, hw.blk h.hn h.n1 h.n2, h.t1, h.t2, h.n1, h.n2⟩
theorem Inp.kept {w w' : World} {B gr gs : Nat} {s : Rs} (h : Inp w B gr gs s) (hb : Below B w w') (h1 : w'.heap[gr]? = w.heap[gr]?) (h2 : w'.heap[gs]? = w.heap[gs]?) : Inp w' B gr gs s := by
  obtain ⟨⟨A, c, a, b, d⟩, e, f, g, i, j⟩ := h
  exact ⟨⟨A, c, h1.trans a, b, d.below hb⟩, h2.trans e, f, g, i, j⟩
/-- what leaves the closures' blocks alone leaves the closures alone -/
theorem Clo.kept {w w' : World} {B gr gs gt gn : Nat} {s : Rs} (h : Clo w B gr gs gt gn s) (hb : Below B w w') (h1 : w'.heap[gr]? = w.heap[gr]?) (h2 : w'.heap[gs]? = w.heap[gs]?) (h3 : w'.heap[gt]? = w.heap[gt]?) (h4 : w'.heap[gn]? = w.heap[gn]?) : Clo w' B gr gs gt gn s :=
  ⟨h.inp.kept hb h1 h2, h3.trans h.ht, h4.trans h.hn, h.t1, h.t2, h.n1, h.n2⟩
theorem Clo.alloc {w : World} {B gr gs gt gn : Nat} {s : Rs} (h : Clo w B gr gs gt gn s) (hB : B ≤ w.heap.size) (o : Obj) : Clo (w.alloc o) B gr gs gt gn s := by
  obtain ⟨A, c, ha, _⟩ := h.inp.row
  exact h.kept ((Below.refl _ _).alloc hB o) (Below.heap_alloc _ _ _ ha.lt) (Below.heap_alloc _ _ _ h.inp.flag.lt) (Below.heap_alloc _ _ _ h.ht.lt) (Below.heap_alloc _ _ _ h.hn.lt)
theorem Clo.wrote {w w' : World} {B gr gs gt gn g : Nat} {s : Rs} (h : Clo w B gr gs gt gn s) (hw : Wrote g w w') (hB : B ≤ g) (hBw : B ≤ w.heap.size) (h1 : gr ≠ g) (h2 : gs ≠ g) (h3 : gt ≠ g) (h4 : gn ≠ g) : Clo w' B gr gs gt gn s :=
  h.kept (hw.below (Below.refl _ _) hB hBw) (hw.block_ne _ h1) (hw.block_ne _ h2) (hw.block_ne _ h3) (hw.block_ne _ h4)

theorem Clo.alloc1 {w w' : World} {B gr gs gt gn : Nat} {s : Rs} (h : Clo w B gr gs gt gn s) (ha : Alloc1 w w') : Clo w' B gr gs gt gn s := by
  obtain ⟨o, rfl⟩ := ha
  obtain ⟨A, c, hb, _⟩ := h.inp.row
  exact h.alloc (by have := hb.lt; have := h.inp.br; omega) o
/-- a block that is none of these -/
structure Apt (N gr gs gt gn g : Nat) : Prop where
  lo : N < g
  r : g ≠ gr
  s : g ≠ gs
  t : g ≠ gt
  n : g ≠ gn
/-- what holds all along Unpack -/
structure Cw (w : World) (N gr gs gt gn : Nat) (u : World) : Prop where
  below : Below N w u
  size : N + 5 ≤ u.heap.size
  box : Blk u N 24 #[.int .i64 0, .string ⟨#[]⟩, .string ⟨#[]⟩, .int .i64 0, .slice none 0 0, .string ⟨#[]⟩]
  clo : ∃ s, Clo u N gr gs gt gn s
  r : N < gr
  s : N < gs
theorem Cw.next {w u u' : World} {N gr gs gt gn : Nat} {s s' : Rs} (h : Cw w N gr gs gt gn u) (hc : Clo u N gr gs gt gn s) (hw : Wrote2 gr gs u u') (hi : Inp u' N gr gs s') : Cw w N gr gs gt gn u' :=
  ⟨hw.below h.below (by have := h.r; omega) (by have := h.s; omega), by rw [hw.size]; exact h.size, hw.blk h.box (by have := h.r; omega) (by have := h.s; omega), ⟨_, hc.next hw hi⟩, h.r, h.s⟩
theorem Cw.alloc {w u : World} {N gr gs gt gn : Nat} (h : Cw w N gr gs gt gn u) (o : Obj) : Cw w N gr gs gt gn (u.alloc o) := by
  obtain ⟨s, hs⟩ := h.clo
  exact ⟨h.below.alloc (by have := h.size; omega) o, by have := h.size; simp; omega, h.box.alloc o, ⟨s, hs.alloc1 ⟨o, rfl⟩⟩, h.r, h.s⟩
theorem Clo.put {w w' : World} {N gr gs gt gn g : Nat} {s : Rs} (h : Clo w N gr gs gt gn s) (hw : Wrote g w w') (ha : Apt N gr gs gt gn g) : Clo w' N gr gs gt gn s :=
  h.wrote hw (Nat.le_of_lt ha.lo) (by obtain ⟨A, c, hb, _⟩ := h.inp.row; have := hb.lt; have := h.inp.br; omega) ha.r.symm ha.s.symm ha.t.symm ha.n.symm
theorem Cw.put {w u u' : World} {N gr gs gt gn g : Nat} (h : Cw w N gr gs gt gn u) (hw : Wrote g u u') (ha : Apt N gr gs gt gn g) : Cw w N gr gs gt gn u' := by
  obtain ⟨s, hs⟩ := h.clo
  exact ⟨hw.below h.below (Nat.le_of_lt ha.lo) (by have := h.size; omega), by rw [hw.size]; exact h.size, hw.blk h.box (by have := ha.lo; omega), ⟨s, hs.put hw ha⟩, h.r, h.s⟩
theorem Clo.drew {w : World} {B gr gs gt gn : Nat} {s : Rs} (h : Clo w B gr gs gt gn s) : Clo w.drew B gr gs gt gn s := ⟨h.inp.drew, h.ht, h.hn, h.t1, h.t2, h.n1, h.n2⟩
theorem Cw.drew {w u : World} {N gr gs gt gn : Nat} (h : Cw w N gr gs gt gn u) : Cw w N gr gs gt gn u.drew := by
  obtain ⟨s, hs⟩ := h.clo
  exact ⟨h.below.drew, h.size, h.box, ⟨s, hs.drew⟩, h.r, h.s⟩

theorem OwnX.w2 {w w' : World} {g k B : Nat} {e : TypeId} {s n : Nat} {v : Value} {xs : List Value} (h : OwnX w B e s v n xs) (hw : Wrote2 g k w w') (h1 : v.ownBlock ≠ some g) (h2 : v.ownBlock ≠ some k) : OwnX w' B e s v n xs := by
  refine ⟨h.1, ?_⟩
  rcases h.2 with hl | ⟨i, cap, cur, fz, rfl, hb, hg, hr⟩
  · exact .inl hl
  · refine .inr ⟨i, cap, cur, fz, rfl, hb, ?_, hr⟩
    rw [hw.block i (fun e => h1 (by rw [e]; rfl)) (fun e => h2 (by rw [e]; rfl))]
    exact hg
theorem Clo.keep {w w' : World} {B gr gs gt gn : Nat} {s : Rs} {e : TypeId} (h : Clo w B gr gs gt gn s) (hk : KeepBut e w w') (hb : Below B w w') (h1 : 26 ≠ e) (h2 : 4 ≠ e) (h3 : 40 ≠ e) (h4 : 42 ≠ e) : Clo w' B gr gs gt gn s := by
  obtain ⟨⟨⟨A, c, a, b, d⟩, f, g, i, j, l⟩, m, n, o1, o2, o3, o4⟩ := h
  exact ⟨⟨⟨A, c, a.keep hk h1, b, d.below hb⟩, f.keep hk h2, g, i, j, l⟩, m.keep hk h3, n.keep hk h4, o1, o2, o3, o4⟩
theorem Cw.keep {w u u' : World} {N gr gs gt gn : Nat} {e : TypeId} (h : Cw w N gr gs gt gn u) (hk : KeepBut e u u') (hb : Below N u u') (h0 : 24 ≠ e) (h1 : 26 ≠ e) (h2 : 4 ≠ e) (h3 : 40 ≠ e) (h4 : 42 ≠ e) : Cw w N gr gs gt gn u' := by
  obtain ⟨s, hs⟩ := h.clo
  exact ⟨h.below.trans hb, by have := h.size; have := hb.size; omega, h.box.keep hk h0, ⟨s, hs.keep hk hb h1 h2 h3 h4⟩, h.r, h.s⟩

theorem blk_new {w : World} {g : Nat} (t : TypeId) (cs : Array Value) (h : g = w.heap.size) : Blk (w.alloc (.cells cs t)) g t cs := h ▸ Blk.new w t cs

theorem textS_size (s : Rs) : (textS s).1.size ≤ 65535 := by
  obtain ⟨k, hk, hk2⟩ := numS_two 2 (Nat.le_refl _) s
  have := takeS_le k (numS 2 s).2
  simp only [textS, hk, ByteArray.size, List.size_toArray]
  simp only [Int.toNat_natCast]
  omega
theorem fieldsS_length (n : Nat) (s : Rs) : (fieldsS n s).1.length = n := by
  induction n with
  | zero => rfl
  | succ n ih => simp [fieldsS, ih]
theorem fieldsS_size (n : Nat) (s : Rs) : ∀ x ∈ (fieldsS n s).1, x.size ≤ 65535 := by
  induction n with
  | zero => intro x hx; simp [fieldsS] at hx
  | succ n ih =>
    intro x hx
    simp only [fieldsS, List.mem_append, List.mem_singleton] at hx
    rcases hx with hx | rfl
    · exact ih x hx
    · exact textS_size _
theorem num1_le (s : Rs) : (numS 1 s).1.toNat ≤ 65535 := by
  obtain ⟨n, hn, hn2⟩ := numS_two 1 (by omega) s
  rw [hn, Int.toNat_natCast]; omega
theorem take_size (n : Nat) (s : Rs) : (⟨(takeS n s).1.toArray⟩ : ByteArray).size ≤ n := by
  have := takeS_le n s
  simpa [ByteArray.size] using this
theorem small_max {n : Nat} (h : n ≤ 65535) : n ≤ 9223372036854775807 := by omega
theorem said_parts (b : List UInt8) : ∃ k1 a2 a3 a4 a5 a6 a7 a8, a3 = textS a2 ∧ a4 = textS a3.2 ∧ a5 = numS 1 a4.2 ∧ a6 = fieldsS a5.1.toNat a5.2 ∧ a7 = numS 1 a6.2 ∧ a8 = takeS a7.1.toNat a7.2 ∧ (saidS b) = ⟨⟨k1, a3.1, a4.1, (numS 8 (numS 1 ⟨b, false⟩).2).1, a6.1, ⟨a8.1.toArray⟩⟩, a8.2⟩ :=
  ⟨_, (numS 8 (numS 1 ⟨b, false⟩).2).2, _, _, _, _, _, _, rfl, rfl, rfl, rfl, rfl, rfl, rfl⟩
theorem msgOk_small (k1 k2 : Int) (x3 x4 : ByteArray) (l : List ByteArray) (t : List UInt8) (g3 : x3.size ≤ 65535) (g4 : x4.size ≤ 65535) (g6 : l.length ≤ 65535) (g6' : ∀ x ∈ l, x.size ≤ 65535) (g8 : (⟨t.toArray⟩ : ByteArray).size ≤ 65535) : MsgOk ⟨k1, x3, x4, k2, l, ⟨t.toArray⟩⟩ :=
  ⟨small_max g3, small_max g4, small_max g8, small_max g6, fun x hx => small_max (g6' x hx)⟩
theorem said_ok (b : List UInt8) : MsgOk (saidS b).msg := by
  obtain ⟨k1, a2, a3, a4, a5, a6, a7, a8, h3, h4, h5, h6, h7, h8, e⟩ := said_parts b
  rw [e]
  refine msgOk_small _ _ _ _ _ _ ?_ ?_ ?_ ?_ ?_
  · rw [h3]; exact textS_size _
  · rw [h4]; exact textS_size _
  · rw [h6, fieldsS_length, h5]; exact num1_le _
  · rw [h6]; exact fieldsS_size _ _
  · rw [h8]; refine Nat.le_trans (take_size _ _) ?_; rw [h7]; exact num1_le _

def zeroM : MsgD := ⟨0, ⟨#[]⟩, ⟨#[]⟩, 0, [], ⟨#[]⟩⟩
/-- Unpack's answer. -/
def unpS (b : List UInt8) : MsgD × Int := if (saidS b).left.short = true then (zeroM, 3) else if (saidS b).left.rest = [] ∧ mayB (saidS b).msg = true then ((saidS b).msg, 0) else (zeroM, 2)
def UnpPost (b : List UInt8) (w : World) (e : Ending) (w' : World) : Prop :=
  Below w.heap.size w w' ∧ ∃ A c, e = .returned (.tuple #[.agg (msgCells (unpS b).1 A c), .int .i64 (unpS b).2]) ∧ (unpS b).1.fields.length ≤ c ∧
    OwnX w' w.heap.size 9 1 (.slice A (unpS b).1.fields.length c) (unpS b).1.fields.length (strsV (unpS b).1.fields)

set_option maxHeartbeats 4000000 in
theorem unpack_any (b : List UInt8) (A : Option Addr) (c B : Nat) (w : World) (hr : Rd w B A (bytesV b)) (hB : B ≤ w.heap.size) (hc : b.length ≤ c) (hfit : b.length ≤ 140737488355328) :
    Calls Try.prog 10 #[.slice A b.length c] w (UnpPost b w) := by
  have HR := Lib.hid hr
  have HB := Lib.hid hB
  clear hr hB
  go_enter Try.func10, Try.ntmps10
  go_wp2_with (first
    | (refine wpList_put_cell (x := .tmp 6) (i := 0) (v := .func (.func 20) #[] #[.pointer (some ⟨w.heap.size + 1, 0, none⟩), .pointer (some ⟨w.heap.size + 1 + 1, 0, none⟩)]) (blk_new (g := w.heap.size + 1 + 1 + 1) _ _ (by simp)) rfl rfl rfl rfl (by kernel_rfl) (by simp) rfl ?_; intro w1 hb1 hw1)
    | (refine wpList_put_cell (x := .tmp 7) (i := 0) (v := .func (.func 21) #[] #[.pointer (some ⟨w.heap.size + 1 + 1 + 1, 0, none⟩)]) (blk_new (g := w1.heap.size) _ _ rfl) rfl rfl rfl rfl (by kernel_rfl) (by simp) rfl ?_; intro w2 hb2 hw2))
  have hs1 := hw1.size
  have hs2 := hw2.size
  simp at hs1 hs2
  have hb1' := hw2.blk (hb1.alloc _) (g' := w.heap.size + 1 + 1 + 1) (by omega)
  have hbox : Blk w2 w.heap.size 24 #[.int .i64 0, .string ⟨#[]⟩, .string ⟨#[]⟩, .int .i64 0, .slice none 0 0, .string ⟨#[]⟩] :=
    hw2.blk ((hw1.blk ((((Blk.new _ _ _).alloc _).alloc _).alloc _) (by omega)).alloc _) (by omega)
  have hrow : Blk w2 (w.heap.size + 1) 26 #[.slice A b.length c] :=
    hw2.blk ((hw1.blk (((blk_new _ _ (by simp)).alloc _).alloc _) (by omega)).alloc _) (by omega)
  have hflag : Blk w2 (w.heap.size + 1 + 1) 4 #[.bool false] :=
    hw2.blk ((hw1.blk ((blk_new _ _ (by simp)).alloc _) (by omega)).alloc _) (by omega)
  have hbel : Below w.heap.size w w2 := hw2.below ((hw1.below (((((Below.refl _ _).alloc (Nat.le_refl _) _).alloc (by simp) _).alloc (by simp; omega) _).alloc (by simp; omega) _) (by omega) (by simp; omega)).alloc (by omega) _) (by omega) (by simp; omega)
  have hrd : Rd w2 w.heap.size A (bytesV b) := (HR.out.mono HB.out).below hbel
  have hclo : Clo w2 w.heap.size (w.heap.size + 1) (w.heap.size + 1 + 1) (w.heap.size + 1 + 1 + 1) w1.heap.size ⟨b, false⟩ :=
    ⟨⟨⟨A, c, hrow, hc, hrd⟩, hflag, by omega, by omega, by omega, hfit⟩, hb1', hb2, by omega, by omega, by omega, by omega⟩
  have hsz : w2.heap.size = w.heap.size + 5 := by omega
  have hgn : w1.heap.size = w.heap.size + 4 := by omega
  clear hb1 hb2 hb1' hrow hflag hrd hs1 hs2 hw2 hw1
  have hcw : Cw w w.heap.size (w.heap.size + 1) (w.heap.size + 1 + 1) (w.heap.size + 1 + 1 + 1) w1.heap.size w2 := ⟨hbel, by omega, hbox, ⟨_, hclo⟩, by omega, by omega⟩
  have hapt : ∀ g, w.heap.size + 5 ≤ g → Apt w.heap.size (w.heap.size + 1) (w.heap.size + 1 + 1) (w.heap.size + 1 + 1 + 1) w1.heap.size g := fun g hg => ⟨by omega, by omega, by omega, by omega, by omega⟩
  generalize w1.heap.size = gn at *
  generalize w.heap.size + 1 + 1 + 1 = gt at *
  generalize w.heap.size + 1 + 1 = gs at *
  generalize w.heap.size + 1 = gr at *
  clear hbel hbox hsz hgn
  generalize hN : w.heap.size = N at *
  have HAP := Lib.hid hapt
  have HN := Lib.hid hN
  clear hN hapt
  obtain ⟨s1, hs1⟩ : ∃ s1, s1 = (numS 1 ⟨b, false⟩).2 := ⟨_, rfl⟩
  obtain ⟨k1, hk1⟩ : ∃ k1, k1 = (numS 1 ⟨b, false⟩).1 := ⟨_, rfl⟩
  obtain ⟨s2, hs2⟩ : ∃ s2, s2 = (numS 8 s1).2 := ⟨_, rfl⟩
  obtain ⟨k2, hk2⟩ : ∃ k2, k2 = (numS 8 s1).1 := ⟨_, rfl⟩
  have HS1 := Lib.hid hs1
  have HK1 := Lib.hid hk1
  have HS2 := Lib.hid hs2
  have HK2 := Lib.hid hk2
  clear hs1 hk1 hs2 hk2
  have HC0 := hcw.drew
  have HI0 := hclo.drew
  clear hcw hclo
  refine wp_region_list (Cw w N gr gs gt gn) (fun | false => (fun u => Clo u N gr gs gt gn ⟨b, false⟩) | true => (fun _ => True)) (fun | false, i => i == 1 || i == 3 || i == 6 | true, _ => false)
    [fun z _ => z 0 = .func (.func 21) #[] #[.pointer (some ⟨gt, 0, none⟩)],
     fun z u => z 1 = .int .i64 k1 ∧ Clo u N gr gs gt gn s1,
     fun z _ => z 2 = .func (.func 21) #[] #[.pointer (some ⟨gt, 0, none⟩)],
     fun z u => z 1 = .int .i64 k1 ∧ z 3 = .int .i64 k2 ∧ Clo u N gr gs gt gn s2,
     fun z _ => z 4 = .agg #[.int .i64 k1, .string ⟨#[]⟩, .string ⟨#[]⟩, .int .i64 k2, .slice none 0 0, .string ⟨#[]⟩],
     fun z u => ∃ g, z 5 = .pointer (some ⟨g, 0, none⟩) ∧ Apt N gr gs gt gn g ∧ Blk u g 24 #[.int .i64 0, .string ⟨#[]⟩, .string ⟨#[]⟩, .int .i64 0, .slice none 0 0, .string ⟨#[]⟩],
     fun z u => ∃ g, z 5 = .pointer (some ⟨g, 0, none⟩) ∧ Apt N gr gs gt gn g ∧ Blk u g 24 #[.int .i64 k1, .string ⟨#[]⟩, .string ⟨#[]⟩, .int .i64 k2, .slice none 0 0, .string ⟨#[]⟩] ∧ Clo u N gr gs gt gn s2]
    [Eq, Wrote2 gr gs, Eq, Wrote2 gr gs, Eq, Alloc1, fun _ _ => True]
    (fun i k => (i == 3 && k == 1) || (i == 6 && k == 1) || (i == 6 && k == 3) || (i == 6 && k == 5)) [(0, some 14), (1, some 15), (2, some 16), (3, some 17), (4, some 18), (5, some 9), (6, none)] (by kernel_rfl) (by kernel_rfl) rfl (fun _ => rfl) ?_ ?_ ?_ ?_ ?_ ?_
  · exact HC0
  · intro m; cases m; exact HI0; exact trivial
  · intro m; cases m
    · exact ⟨.inr (fun _ _ h h0 => h ▸ h0), .inl rfl, .inr (fun _ _ h h0 => h ▸ h0), .inl rfl, .inr (fun _ _ h h0 => h ▸ h0), .inr (fun _ _ h h0 => h0.alloc1 h), .inl rfl, trivial⟩
    · exact ⟨.inr (fun _ _ h h0 => h ▸ h0), .inr (fun _ _ _ h => h), .inr (fun _ _ h h0 => h ▸ h0), .inr (fun _ _ _ h => h), .inr (fun _ _ h h0 => h ▸ h0), .inr (fun _ _ _ h => h), .inr (fun _ _ _ h => h), trivial⟩
  · exact ⟨⟨.inl rfl, .inr (.inr (.inl rfl)), .inr (.inr (.inr (fun _ _ _ _ _ h => h))), .inr (.inr (.inl rfl)), .inr (.inr (.inl rfl)), .inr (.inr (.inr (fun _ _ _ _ h h0 => by cases h; exact h0))), .inr (.inr (.inl rfl)), trivial⟩,
      ⟨.inr (.inr (.inr (fun _ _ _ _ _ h => h))), .inl rfl, .inr (.inr (.inr (fun _ _ _ _ _ h => h))), .inr (.inr (.inl rfl)), .inr (.inr (.inl rfl)), .inr (.inr (.inr (fun _ _ _ _ h ⟨g, a, b, c⟩ => ⟨g, a, b, h.blk c b.r b.s⟩))), .inr (.inr (.inl rfl)), trivial⟩,
      ⟨.inr (.inr (.inr (fun _ _ _ _ _ h => h))), .inr (.inr (.inr (fun _ _ _ _ h h0 => by cases h; exact h0))), .inl rfl, .inr (.inr (.inl rfl)), .inr (.inr (.inl rfl)), .inr (.inr (.inr (fun _ _ _ _ h h0 => by cases h; exact h0))), .inr (.inr (.inl rfl)), trivial⟩,
      ⟨.inr (.inr (.inr (fun _ _ _ _ _ h => h))), .inr (.inl rfl), .inr (.inr (.inr (fun _ _ _ _ _ h => h))), .inl rfl, .inr (.inr (.inl rfl)), .inr (.inr (.inr (fun _ _ _ _ h ⟨g, a, b, c⟩ => ⟨g, a, b, h.blk c b.r b.s⟩))), .inr (.inr (.inl rfl)), trivial⟩,
      ⟨.inr (.inr (.inr (fun _ _ _ _ _ h => h))), .inr (.inr (.inr (fun _ _ _ _ h h0 => by cases h; exact h0))), .inr (.inr (.inr (fun _ _ _ _ _ h => h))), .inr (.inr (.inr (fun _ _ _ _ h h0 => by cases h; exact h0))), .inl rfl, .inr (.inr (.inr (fun _ _ _ _ h h0 => by cases h; exact h0))), .inr (.inr (.inl rfl)), trivial⟩,
      ⟨.inr (.inr (.inr (fun _ _ _ _ _ h => h))), .inr (.inr (.inr (fun _ _ _ _ h h0 => ⟨h0.1, h0.2.alloc1 h⟩))), .inr (.inr (.inr (fun _ _ _ _ _ h => h))), .inr (.inr (.inr (fun _ _ _ _ h h0 => ⟨h0.1, h0.2.1, h0.2.2.alloc1 h⟩))), .inr (.inr (.inr (fun _ _ _ _ _ h => h))), .inl rfl, .inr (.inr (.inl rfl)), trivial⟩,
      ⟨.inr (.inr (.inr (fun _ _ _ _ _ h => h))), .inr (.inl rfl), .inr (.inr (.inr (fun _ _ _ _ _ h => h))), .inr (.inl rfl), .inr (.inr (.inr (fun _ _ _ _ _ h => h))), .inr (.inl rfl), .inl rfl, trivial⟩, trivial⟩
  · refine ⟨?_, ?_, ?_, ?_, ?_, ?_, ?_, trivial⟩
    · -- 0: Op.load 42 (Operand.tmp 7)
      refine step_plain [] (fun _ => rfl) rfl ?_
      intro w1 vals hC1 hi0 hf E hE
      have hI1 : (fun u => Clo u N gr gs gt gn ⟨b, false⟩) w1 := hi0 false rfl
      try dsimp only at hI1
      clear hi0
      clear hf
      obtain ⟨sx, hx⟩ := hC1.clo
      have c0 := hx.hn.cell 0
      have fz0 := hx.hn.free 0
      simp only [puts, act_put, act_put_none, List.setIfInBounds_toArray, List.set_cons_zero, List.set_cons_succ] at hE ⊢
      go_wp2
      exact .mk (hE _ _ rfl hC1 rfl)
    · -- 1: Op.call { callee := Callee.value (Operand.tmp 14), args := #[Operand.const (Value.int IntKind.i64 1)], argType
      refine step_plain [(0, some 14)] (fun _ => rfl) rfl ?_
      intro w1 vals hC1 hi0 hf E hE
      have hI1 : (fun u => Clo u N gr gs gt gn ⟨b, false⟩) w1 := hi0 false rfl
      try dsimp only at hI1
      clear hi0
      have f0 : vals 0 = .func (.func 21) #[] #[.pointer (some ⟨gt, 0, none⟩)] := hf 0 rfl
      try dsimp only at f0
      clear hf
      simp only [puts, act_put, act_put_none, List.setIfInBounds_toArray, List.set_cons_zero, List.set_cons_succ, f0] at hE ⊢
      clear f0
      go_wp2_with fail
      refine calls_then (number_any N gr gs gt 1 _ _ hI1.inp (by omega) hI1.ht) ?_
      rintro e w2 ⟨rfl, hi2, hw2⟩
      rw [← HK1.out]
      rw [← HS1.out] at hi2
      go_wp2_with fail
      exact .mk (hE _ _ ⟨rfl, hI1.next hw2 hi2⟩ (hC1.next hI1 hw2 hi2) hw2)
    · -- 2: Op.load 42 (Operand.tmp 7)
      refine step_plain [] (fun _ => rfl) rfl ?_
      intro w1 vals hC1 hi0 hf E hE
      clear hi0
      clear hf
      obtain ⟨sx, hx⟩ := hC1.clo
      have c0 := hx.hn.cell 0
      have fz0 := hx.hn.free 0
      simp only [puts, act_put, act_put_none, List.setIfInBounds_toArray, List.set_cons_zero, List.set_cons_succ] at hE ⊢
      go_wp2
      exact .mk (hE _ _ rfl hC1 rfl)
    · -- 3: Op.call { callee := Callee.value (Operand.tmp 16), args := #[Operand.const (Value.int IntKind.i64 8)], argType
      refine step_plain [(2, some 16), (1, some 15)] (fun _ => rfl) rfl ?_
      intro w1 vals hC1 hi0 hf E hE
      clear hi0
      have f1 : (fun z u => z 1 = .int .i64 k1 ∧ Clo u N gr gs gt gn s1) vals w1 := hf 1 rfl
      have f2 : vals 2 = .func (.func 21) #[] #[.pointer (some ⟨gt, 0, none⟩)] := hf 2 rfl
      try dsimp only at f1 f2
      clear hf
      obtain ⟨hx1, hc1⟩ := f1
      have hx1' := Lib.hid hx1
      simp only [puts, act_put, act_put_none, List.setIfInBounds_toArray, List.set_cons_zero, List.set_cons_succ, f2, hx1] at hE ⊢
      clear f2
      clear hx1
      go_wp2_with fail
      refine calls_then (number_any N gr gs gt 8 _ _ hc1.inp (by omega) hc1.ht) ?_
      rintro e w2 ⟨rfl, hi2, hw2⟩
      rw [← HK2.out]
      rw [← HS2.out] at hi2
      go_wp2_with fail
      exact .mk (hE _ _ ⟨hx1'.out, rfl, hc1.next hw2 hi2⟩ (hC1.next hc1 hw2 hi2) hw2)
    · -- 4: Op.build 24 #[(0, Operand.tmp 15), (3, Operand.tmp 17)]
      refine step_plain [(1, some 15), (3, some 17)] (fun _ => rfl) rfl ?_
      intro w1 vals hC1 hi0 hf E hE
      clear hi0
      have f3 : (fun z u => z 1 = .int .i64 k1 ∧ z 3 = .int .i64 k2 ∧ Clo u N gr gs gt gn s2) vals w1 := hf 3 rfl
      try dsimp only at f3
      clear hf
      obtain ⟨hx1, hx3, hc3⟩ := f3
      simp only [puts, act_put, act_put_none, List.setIfInBounds_toArray, List.set_cons_zero, List.set_cons_succ, hx1, hx3] at hE ⊢
      clear hx1 hx3
      go_wp2
      exact .mk (hE _ _ rfl hC1 rfl)
    · -- 5: Op.alloc 24
      refine step_plain [] (fun _ => rfl) rfl ?_
      intro w1 vals hC1 hi0 hf E hE
      clear hi0
      clear hf
      simp only [puts, act_put, act_put_none, List.setIfInBounds_toArray, List.set_cons_zero, List.set_cons_succ] at hE ⊢
      go_wp2
      exact .mk (hE _ _ ⟨_, rfl, HAP.out _ hC1.size, heap_alloc_new _ _⟩ (hC1.alloc _) ⟨_, rfl⟩)
    · -- 6: Op.store 24 (Operand.tmp 9) (Operand.tmp 18)
      refine step_plain [(5, some 9), (4, some 18), (3, some 17), (0, some 14), (1, some 15), (2, some 16), (3, some 17), (4, some 18), (5, some 9)] (fun _ => rfl) rfl ?_
      intro w1 vals hC1 hi0 hf E hE
      clear hi0
      have f0 : vals 0 = .func (.func 21) #[] #[.pointer (some ⟨gt, 0, none⟩)] := hf 0 rfl
      have f2 : vals 2 = .func (.func 21) #[] #[.pointer (some ⟨gt, 0, none⟩)] := hf 2 rfl
      have f3 : (fun z u => z 1 = .int .i64 k1 ∧ z 3 = .int .i64 k2 ∧ Clo u N gr gs gt gn s2) vals w1 := hf 3 rfl
      have f4 : vals 4 = .agg #[.int .i64 k1, .string ⟨#[]⟩, .string ⟨#[]⟩, .int .i64 k2, .slice none 0 0, .string ⟨#[]⟩] := hf 4 rfl
      have f5 : (fun z u => ∃ g, z 5 = .pointer (some ⟨g, 0, none⟩) ∧ Apt N gr gs gt gn g ∧ Blk u g 24 #[.int .i64 0, .string ⟨#[]⟩, .string ⟨#[]⟩, .int .i64 0, .slice none 0 0, .string ⟨#[]⟩]) vals w1 := hf 5 rfl
      try dsimp only at f0 f2 f3 f4 f5
      clear hf
      obtain ⟨g, hx, hap, hg2⟩ := f5
      obtain ⟨-, -, hc3⟩ := f3
      have hx' := Lib.hid hx
      simp only [puts, act_put, act_put_none, List.setIfInBounds_toArray, List.set_cons_zero, List.set_cons_succ, f0, f2, f4, hx] at hE ⊢
      clear f0 f2 f4
      clear hx
      refine wpList_put_box hg2 rfl rfl rfl rfl msg_size rfl (by simp [Value.oneCell']) ?_
      intro w2 hb2 hw2
      go_wp2_with fail
      exact .mk (hE undef _ ⟨g, hx'.out, hap, hb2, hc3.put hw2 hap⟩ (hC1.put hw2 hap) trivial)
  intro w1 vals hC1 hf
  have f0 : vals 0 = .func (.func 21) #[] #[.pointer (some ⟨gt, 0, none⟩)] := hf 0 (by decide) rfl
  have f2 : vals 2 = .func (.func 21) #[] #[.pointer (some ⟨gt, 0, none⟩)] := hf 2 (by decide) rfl
  have f4 : vals 4 = .agg #[.int .i64 k1, .string ⟨#[]⟩, .string ⟨#[]⟩, .int .i64 k2, .slice none 0 0, .string ⟨#[]⟩] := hf 4 (by decide) rfl
  have f6 : (fun z u => ∃ g, z 5 = .pointer (some ⟨g, 0, none⟩) ∧ Apt N gr gs gt gn g ∧ Blk u g 24 #[.int .i64 k1, .string ⟨#[]⟩, .string ⟨#[]⟩, .int .i64 k2, .slice none 0 0, .string ⟨#[]⟩] ∧ Clo u N gr gs gt gn s2) vals w1 := hf 6 (by decide) rfl
  try dsimp only at f0 f2 f4 f6
  clear hf
  simp only [puts, act_put, act_put_none, List.setIfInBounds_toArray, List.set_cons_zero, List.set_cons_succ, f0, f2, f4]
  clear f0 f2 f4
  generalize vals 1 = x1 at *
  generalize vals 3 = x3 at *
  generalize vals 5 = x5 at *
  obtain ⟨g, hx, hap, hbm, hclo⟩ := f6
  rw [hx] at *
  clear hx
  obtain ⟨t3, ht3⟩ : ∃ t, t = textS s2 := ⟨_, rfl⟩
  obtain ⟨t4, ht4⟩ : ∃ t, t = textS t3.2 := ⟨_, rfl⟩
  have HT3 := Lib.hid ht3
  have HT4 := Lib.hid ht4
  clear ht3 ht4 HC0 HI0
  go_wp2_with fail
  refine calls_then (text_clo_any N gr gs gt gn _ _ hclo.inp hclo.ht hclo.hn hclo.t1 hclo.t2 hclo.n1 hclo.n2) ?_
  rintro e w3 ⟨rfl, hi3, hw3⟩
  have hclo3 := hclo.next hw3 hi3
  have hC3 := hC1.next hclo hw3 hi3
  have hbm3 := hw3.blk hbm hap.r hap.s
  rw [← HT3.out]
  rw [← HT3.out] at hclo3
  clear hclo hC1 hbm hw3 hi3
  go_wp2_with fail
  refine calls_then (text_clo_any N gr gs gt gn _ _ hclo3.inp hclo3.ht hclo3.hn hclo3.t1 hclo3.t2 hclo3.n1 hclo3.n2) ?_
  rintro e w4 ⟨rfl, hi4, hw4⟩
  have hclo4 := hclo3.next hw4 hi4
  have hC4 := hC3.next hclo3 hw4 hi4
  have hbm4 := hw4.blk hbm3 hap.r hap.s
  rw [← HT4.out]
  rw [← HT4.out] at hclo4
  clear hclo3 hC3 hbm3 hw4 hi4
  go_wp2_with (first
    | (refine wpList_put_cell (x := .tmp 23) (i := 1) (v := .string t3.1) hbm4 rfl rfl rfl rfl (by kernel_rfl) (by simp) rfl ?_; intro w5 hb5 hw5)
    | (refine wpList_put_cell (x := .tmp 24) (i := 2) (v := .string t4.1) hb5 rfl rfl rfl rfl (by kernel_rfl) (by simp) rfl ?_; intro w6 hb6 hw6; have hclo6 := (hclo4.put hw5 hap).put hw6 hap; have cn := hclo6.hn.cell 0; have fn := hclo6.hn.free 0))
  have hC6 := (hC4.put hw5 hap).put hw6 hap
  have hbm6 : Blk w6 g 24 #[.int .i64 k1, .string t3.1, .string t4.1, .int .i64 k2, .slice none 0 0, .string ⟨#[]⟩] := hb6
  clear hC4 hclo4 hbm4 hb5 hb6 hw5 hw6 cn fn
  obtain ⟨m, hm, hm2⟩ := numS_two 1 (by omega) t4.2
  obtain ⟨s5, hs5⟩ : ∃ s, s = (numS 1 t4.2).2 := ⟨_, rfl⟩
  have HM := Lib.hid hm
  have HS5 := Lib.hid hs5
  clear hm hs5
  refine calls_then (number_any N gr gs gt 1 _ _ hclo6.inp (by omega) hclo6.ht) ?_
  rintro e w7 ⟨rfl, hi7, hw7⟩
  have hclo7 := hclo6.next hw7 hi7
  have hC7 := hC6.next hclo6 hw7 hi7
  have hbm7 := hw7.blk hbm6 hap.r hap.s
  rw [HM.out]
  rw [← HS5.out] at hclo7
  clear hclo6 hC6 hbm6 hi7 hw7
  go_wp2_with fail
  go_loopw [27] (fun i wr => ∃ (k : Nat) (A1 : Option Addr) (c1 : Nat), k ≤ m ∧ i = .int .i64 k ∧ k ≤ c1 ∧ OwnX wr N 9 1 (.slice A1 k c1) k (strsV (fieldsS k s5).1) ∧
      Blk wr g 24 #[.int .i64 k1, .string t3.1, .string t4.1, .int .i64 k2, .slice A1 k c1, .string ⟨#[]⟩] ∧ Clo wr N gr gs gt gn (fieldsS k s5).2 ∧ Cw w N gr gs gt gn wr) (fun i _ => m - (intOf i).toNat)
  case atStart => exact ⟨0, none, 0, by omega, rfl, by omega, OwnX.nil _ _ _ _, hbm7, hclo7, hC7⟩
  case round =>
    obtain ⟨k, A1, c1, hk, rfl, hkc, hown1, hbk, hclo8, hC8⟩ := hrel
    by_cases hlt : k < m
    · have hi1 : (k : Int) < (m : Int) := by omega
      obtain ⟨A0, c0, hgr, _⟩ := hclo8.inp.row
      have HN1 := Lib.hid (own_ne_blk hown1 hgr (by decide))
      have HN2 := Lib.hid (own_ne_blk hown1 hclo8.inp.flag (by decide))
      obtain ⟨L, hL⟩ : ∃ L, L = (fieldsS k s5).1 := ⟨_, rfl⟩
      obtain ⟨S, hS⟩ : ∃ S, S = (fieldsS k s5).2 := ⟨_, rfl⟩
      obtain ⟨tx, htx⟩ : ∃ t, t = textS S := ⟨_, rfl⟩
      have HF : Hid (fieldsS (k + 1) s5 = (L ++ [tx.1], tx.2)) := Lib.hid (by rw [htx, hS, hL]; rfl)
      have HTX := Lib.hid htx
      rw [← hL] at hown1
      rw [← hS] at hclo8
      clear hgr hL hS htx hclo7 hC7 hbm7
      go_wp2_with fail
      have HC0 := hC8.drew
      have HJ0 := hclo8.drew
      have HI0 : Blk wr.drew g 24 #[.int .i64 k1, .string t3.1, .string t4.1, .int .i64 k2, .slice A1 k c1, .string ⟨#[]⟩] ∧ OwnX wr.drew N 9 1 (.slice A1 k c1) k (strsV L) := ⟨hbk, hown1⟩
      clear hbk hown1 hC8 hclo8
      refine wp_region_list (Cw w N gr gs gt gn) (fun | false => (fun u => Blk u g 24 #[.int .i64 k1, .string t3.1, .string t4.1, .int .i64 k2, .slice A1 k c1, .string ⟨#[]⟩] ∧ OwnX u N 9 1 (.slice A1 k c1) k (strsV L)) | true => (fun u => Clo u N gr gs gt gn S)) (fun | false, i => i == 5 || i == 7 | true, i => i == 3 || i == 5 || i == 7)
        [fun z u => z 0 = .pointer (some ⟨g, 4, none⟩) ∧ Blk u g 24 #[.int .i64 k1, .string t3.1, .string t4.1, .int .i64 k2, .slice A1 k c1, .string ⟨#[]⟩],
         fun z _ => z 1 = .slice A1 k c1,
         fun z _ => z 2 = .func (.func 22) #[] #[.pointer (some ⟨gt, 0, none⟩), .pointer (some ⟨gn, 0, none⟩)],
         fun z u => z 3 = .string tx.1 ∧ Clo u N gr gs gt gn tx.2,
         fun z u => (One 9 (.string tx.1)) (z 4) u,
         fun z u => ∃ A2 c2, z 5 = .slice A2 (k + 1) c2 ∧ k + 1 ≤ c2 ∧ OwnX u N 9 1 (.slice A2 (k + 1) c2) (k + 1) (strsV (L ++ [tx.1])),
         fun z _ => z 6 = .pointer (some ⟨g, 4, none⟩),
         fun z u => ∃ A2 c2, k + 1 ≤ c2 ∧ OwnX u N 9 1 (.slice A2 (k + 1) c2) (k + 1) (strsV (L ++ [tx.1])) ∧ Blk u g 24 #[.int .i64 k1, .string t3.1, .string t4.1, .int .i64 k2, .slice A2 (k + 1) c2, .string ⟨#[]⟩] ∧ Clo u N gr gs gt gn tx.2]
        [Eq, Eq, Eq, Wrote2 gr gs, Alloc1, fun u u' => KeepBut 9 u u' ∧ Below N u u', Eq, fun _ _ => True]
        (fun i k => (i == 5 && k == 4) || (i == 7 && k == 0) || (i == 7 && k == 3) || (i == 7 && k == 4) || (i == 7 && k == 5)) [(0, some 29), (1, some 30), (2, some 31), (3, some 32), (4, some 33), (5, some 34), (6, some 35), (7, none)] (by kernel_rfl) (by kernel_rfl) rfl (fun _ => rfl) ?_ ?_ ?_ ?_ ?_ ?_
      · exact HC0
      · intro m; cases m; exact HI0; exact HJ0
      · intro m; cases m
        · exact ⟨.inr (fun _ _ h h0 => h ▸ h0), .inr (fun _ _ h h0 => h ▸ h0), .inr (fun _ _ h h0 => h ▸ h0), .inr (fun _ _ h h0 => ⟨h.blk h0.1 hap.r hap.s, h0.2.w2 h HN1.out HN2.out⟩), .inr (fun _ _ h h0 => ⟨h0.1.alloc1 h, own_alloc1 h h0.2⟩), .inl rfl, .inr (fun _ _ h h0 => h ▸ h0), .inl rfl, trivial⟩
        · exact ⟨.inr (fun _ _ h h0 => h ▸ h0), .inr (fun _ _ h h0 => h ▸ h0), .inr (fun _ _ h h0 => h ▸ h0), .inl rfl, .inr (fun _ _ h h0 => h0.alloc1 h), .inl rfl, .inr (fun _ _ h h0 => h ▸ h0), .inl rfl, trivial⟩
      · exact ⟨⟨.inl rfl, .inr (.inr (.inl rfl)), .inr (.inr (.inr (fun _ _ _ _ _ h => h))), .inr (.inr (.inr (fun _ _ _ _ h h0 => by cases h; exact h0))), .inr (.inr (.inr (fun _ _ _ _ h h0 => by cases h; exact h0))), .inr (.inr (.inl rfl)), .inr (.inr (.inl rfl)), .inr (.inr (.inl rfl)), trivial⟩,
          ⟨.inr (.inr (.inr (fun _ _ _ _ h h0 => by cases h; exact h0))), .inl rfl, .inr (.inr (.inr (fun _ _ _ _ _ h => h))), .inr (.inr (.inr (fun _ _ _ _ h h0 => by cases h; exact h0))), .inr (.inr (.inr (fun _ _ _ _ h h0 => by cases h; exact h0))), .inr (.inr (.inl rfl)), .inr (.inr (.inl rfl)), .inr (.inr (.inl rfl)), trivial⟩,
          ⟨.inr (.inr (.inr (fun _ _ _ _ h h0 => by cases h; exact h0))), .inr (.inr (.inr (fun _ _ _ _ _ h => h))), .inl rfl, .inr (.inr (.inl rfl)), .inr (.inr (.inl rfl)), .inr (.inr (.inl rfl)), .inr (.inr (.inl rfl)), .inr (.inr (.inl rfl)), trivial⟩,
          ⟨.inr (.inr (.inr (fun _ _ _ _ h h0 => ⟨h0.1, h.blk h0.2 hap.r hap.s⟩))), .inr (.inr (.inr (fun _ _ _ _ _ h => h))), .inr (.inr (.inr (fun _ _ _ _ _ h => h))), .inl rfl, .inr (.inr (.inl rfl)), .inr (.inr (.inl rfl)), .inr (.inr (.inl rfl)), .inr (.inr (.inl rfl)), trivial⟩,
          ⟨.inr (.inr (.inr (fun _ _ _ _ h h0 => ⟨h0.1, h0.2.alloc1 h⟩))), .inr (.inr (.inr (fun _ _ _ _ _ h => h))), .inr (.inr (.inr (fun _ _ _ _ _ h => h))), .inr (.inr (.inr (fun _ _ _ _ h h0 => ⟨h0.1, h0.2.alloc1 h⟩))), .inl rfl, .inr (.inr (.inl rfl)), .inr (.inr (.inl rfl)), .inr (.inr (.inl rfl)), trivial⟩,
          ⟨.inr (.inr (.inr (fun _ _ _ _ h h0 => ⟨h0.1, h0.2.keep h.1 (by decide)⟩))), .inr (.inr (.inr (fun _ _ _ _ _ h => h))), .inr (.inr (.inr (fun _ _ _ _ _ h => h))), .inr (.inr (.inr (fun _ _ _ _ h h0 => ⟨h0.1, h0.2.keep h.1 h.2 (by decide) (by decide) (by decide) (by decide)⟩))), .inr (.inl rfl), .inl rfl, .inr (.inr (.inl rfl)), .inr (.inr (.inl rfl)), trivial⟩,
          ⟨.inr (.inr (.inr (fun _ _ _ _ h h0 => by cases h; exact h0))), .inr (.inr (.inr (fun _ _ _ _ _ h => h))), .inr (.inr (.inr (fun _ _ _ _ _ h => h))), .inr (.inr (.inr (fun _ _ _ _ h h0 => by cases h; exact h0))), .inr (.inr (.inr (fun _ _ _ _ h h0 => by cases h; exact h0))), .inr (.inr (.inr (fun _ _ _ _ h h0 => by cases h; exact h0))), .inl rfl, .inr (.inr (.inl rfl)), trivial⟩,
          ⟨.inr (.inl rfl), .inr (.inr (.inr (fun _ _ _ _ _ h => h))), .inr (.inr (.inr (fun _ _ _ _ _ h => h))), .inr (.inl rfl), .inr (.inl rfl), .inr (.inl rfl), .inr (.inr (.inr (fun _ _ _ _ _ h => h))), .inl rfl, trivial⟩, trivial⟩
      · refine ⟨?_, ?_, ?_, ?_, ?_, ?_, ?_, ?_, trivial⟩
        · -- 0: Op.fieldAddr 24 (Operand.tmp 9) 4
          refine step_plain [] (fun _ => rfl) rfl ?_
          intro w1 vals hC1 hi0 hf E hE
          have hI1 : (fun u => Blk u g 24 #[.int .i64 k1, .string t3.1, .string t4.1, .int .i64 k2, .slice A1 k c1, .string ⟨#[]⟩] ∧ OwnX u N 9 1 (.slice A1 k c1) k (strsV L)) w1 := hi0 false rfl
          try dsimp only at hI1
          clear hi0
          clear hf
          simp only [puts, act_put, act_put_none, List.setIfInBounds_toArray, List.set_cons_zero, List.set_cons_succ] at hE ⊢
          go_wp2
          exact .mk (hE _ _ ⟨rfl, hI1.1⟩ hC1 rfl)
        · -- 1: Op.load 22 (Operand.tmp 29)
          refine step_plain [(0, some 29)] (fun _ => rfl) rfl ?_
          intro w1 vals hC1 hi0 hf E hE
          have hI1 : (fun u => Blk u g 24 #[.int .i64 k1, .string t3.1, .string t4.1, .int .i64 k2, .slice A1 k c1, .string ⟨#[]⟩] ∧ OwnX u N 9 1 (.slice A1 k c1) k (strsV L)) w1 := hi0 false rfl
          try dsimp only at hI1
          clear hi0
          have f0 : (fun z u => z 0 = .pointer (some ⟨g, 4, none⟩) ∧ Blk u g 24 #[.int .i64 k1, .string t3.1, .string t4.1, .int .i64 k2, .slice A1 k c1, .string ⟨#[]⟩]) vals w1 := hf 0 rfl
          try dsimp only at f0
          clear hf
          obtain ⟨hx, hb⟩ := f0
          have hc0 := hb.cell 4
          simp at hc0
          simp only [puts, act_put, act_put_none, List.setIfInBounds_toArray, List.set_cons_zero, List.set_cons_succ, hx] at hE ⊢
          clear hx
          go_wp2
          exact .mk (hE _ _ rfl hC1 rfl)
        · -- 2: Op.move (Operand.tmp 8)
          refine step_plain [] (fun _ => rfl) rfl ?_
          intro w1 vals hC1 hi0 hf E hE
          have hI1 : (fun u => Blk u g 24 #[.int .i64 k1, .string t3.1, .string t4.1, .int .i64 k2, .slice A1 k c1, .string ⟨#[]⟩] ∧ OwnX u N 9 1 (.slice A1 k c1) k (strsV L)) w1 := hi0 false rfl
          try dsimp only at hI1
          have hJ1 : (fun u => Clo u N gr gs gt gn S) w1 := hi0 true rfl
          try dsimp only at hJ1
          clear hi0
          clear hf
          simp only [puts, act_put, act_put_none, List.setIfInBounds_toArray, List.set_cons_zero, List.set_cons_succ] at hE ⊢
          go_wp2
          exact .mk (hE _ _ rfl hC1 rfl)
        · -- 3: Op.call { callee := Callee.value (Operand.tmp 31), args := #[], argTypes := #[] }
          refine step_plain [(2, some 31)] (fun _ => rfl) rfl ?_
          intro w1 vals hC1 hi0 hf E hE
          have hI1 : (fun u => Blk u g 24 #[.int .i64 k1, .string t3.1, .string t4.1, .int .i64 k2, .slice A1 k c1, .string ⟨#[]⟩] ∧ OwnX u N 9 1 (.slice A1 k c1) k (strsV L)) w1 := hi0 false rfl
          try dsimp only at hI1
          have hJ1 : (fun u => Clo u N gr gs gt gn S) w1 := hi0 true rfl
          try dsimp only at hJ1
          clear hi0
          have f2 : vals 2 = .func (.func 22) #[] #[.pointer (some ⟨gt, 0, none⟩), .pointer (some ⟨gn, 0, none⟩)] := hf 2 rfl
          try dsimp only at f2
          clear hf
          simp only [puts, act_put, act_put_none, List.setIfInBounds_toArray, List.set_cons_zero, List.set_cons_succ, f2] at hE ⊢
          clear f2
          go_wp2_with fail
          refine calls_then (text_clo_any N gr gs gt gn _ _ hJ1.inp hJ1.ht hJ1.hn hJ1.t1 hJ1.t2 hJ1.n1 hJ1.n2) ?_
          rintro e w2 ⟨rfl, hi2, hw2⟩
          rw [← HTX.out]
          rw [← HTX.out] at hi2
          go_wp2_with fail
          exact .mk (hE _ _ ⟨rfl, hJ1.next hw2 hi2⟩ (hC1.next hJ1 hw2 hi2) hw2)
        · -- 4: Op.buildSlice 22 1 #[(0, Operand.tmp 32)]
          refine step_plain [(3, some 32)] (fun _ => rfl) rfl ?_
          intro w1 vals hC1 hi0 hf E hE
          have hI1 : (fun u => Blk u g 24 #[.int .i64 k1, .string t3.1, .string t4.1, .int .i64 k2, .slice A1 k c1, .string ⟨#[]⟩] ∧ OwnX u N 9 1 (.slice A1 k c1) k (strsV L)) w1 := hi0 false rfl
          try dsimp only at hI1
          clear hi0
          have f3 : (fun z u => z 3 = .string tx.1 ∧ Clo u N gr gs gt gn tx.2) vals w1 := hf 3 rfl
          try dsimp only at f3
          clear hf
          obtain ⟨hx3, -⟩ := f3
          simp only [puts, act_put, act_put_none, List.setIfInBounds_toArray, List.set_cons_zero, List.set_cons_succ, hx3] at hE ⊢
          clear hx3
          go_wp2
          exact .mk (hE _ _ (One.new _ _ _) (hC1.alloc _) ⟨_, rfl⟩)
        · -- 5: Op.call { callee := Callee.builtin Builtin.append, args := #[Operand.tmp 30, Operand.tmp 33], argTypes := #[22
          refine step_plain [(1, some 30), (4, some 33), (3, some 32)] (fun _ => rfl) rfl ?_
          intro w1 vals hC1 hi0 hf E hE
          have hI1 : (fun u => Blk u g 24 #[.int .i64 k1, .string t3.1, .string t4.1, .int .i64 k2, .slice A1 k c1, .string ⟨#[]⟩] ∧ OwnX u N 9 1 (.slice A1 k c1) k (strsV L)) w1 := hi0 false rfl
          try dsimp only at hI1
          clear hi0
          have f1 : vals 1 = .slice A1 k c1 := hf 1 rfl
          have f3 : (fun z u => z 3 = .string tx.1 ∧ Clo u N gr gs gt gn tx.2) vals w1 := hf 3 rfl
          have f4 : (One 9 (.string tx.1)) (vals 4) w1 := hf 4 rfl
          try dsimp only at f1 f3 f4
          clear hf
          clear f3
          obtain ⟨g8, hx8, hg8⟩ := f4
          simp only [puts, act_put, act_put_none, List.setIfInBounds_toArray, List.set_cons_zero, List.set_cons_succ, f1, hx8] at hE ⊢
          clear f1
          clear hx8
          have hNw : N ≤ w1.heap.size := by have := hC1.size; omega
          obtain ⟨A2, c2, w2, hr2, hown2, hgr2, hn2⟩ := run_append_x (ty := 22) (c := 1) (Ad := some ⟨g8, 0, none⟩) sl_strs hI1.2 (news := [.string tx.1]) (m := 1) rfl (fun j u hu => ⟨_, rfl, by match j, hu with | 0, hu => (simp at hu; subst hu; simpa [Addr.add] using cell_of_one hg8)⟩) (by intro u hu; simp at hu; subst hu; rfl) (by unfold maxLen; omega) (by omega) hNw
          refine wpList_of_append (R := fun v' u' => v' = .slice A2 (k + 1) c2 ∧ u' = w2) rfl rfl rfl rfl ⟨_, _, hr2, rfl, rfl⟩ ?_
          rintro v' u' ⟨rfl, rfl⟩
          go_wp2_with fail
          have hc2 : k + 1 ≤ c2 := hown2.le_cap
          have hkb := keepBut_of_grown hI1.2 hgr2
          have hbl := (Below.refl N w1).grown hgr2 hNw (fun j hj => (hI1.2.lt j hj).1)
          exact .mk (hE _ _ ⟨A2, c2, rfl, hc2, by rw [show strsV (L ++ [tx.1]) = strsV L ++ [.string tx.1] by simp [strsV]]; exact hown2⟩ (hC1.keep hkb hbl (by decide) (by decide) (by decide) (by decide) (by decide)) ⟨hkb, hbl⟩)
        · -- 6: Op.fieldAddr 24 (Operand.tmp 9) 4
          refine step_plain [(0, some 29), (1, some 30), (2, some 31), (3, some 32), (4, some 33), (5, some 34)] (fun _ => rfl) rfl ?_
          intro w1 vals hC1 hi0 hf E hE
          clear hi0
          have f0 : (fun z u => z 0 = .pointer (some ⟨g, 4, none⟩) ∧ Blk u g 24 #[.int .i64 k1, .string t3.1, .string t4.1, .int .i64 k2, .slice A1 k c1, .string ⟨#[]⟩]) vals w1 := hf 0 rfl
          have f1 : vals 1 = .slice A1 k c1 := hf 1 rfl
          have f2 : vals 2 = .func (.func 22) #[] #[.pointer (some ⟨gt, 0, none⟩), .pointer (some ⟨gn, 0, none⟩)] := hf 2 rfl
          have f3 : (fun z u => z 3 = .string tx.1 ∧ Clo u N gr gs gt gn tx.2) vals w1 := hf 3 rfl
          have f5 : (fun z u => ∃ A2 c2, z 5 = .slice A2 (k + 1) c2 ∧ k + 1 ≤ c2 ∧ OwnX u N 9 1 (.slice A2 (k + 1) c2) (k + 1) (strsV (L ++ [tx.1]))) vals w1 := hf 5 rfl
          try dsimp only at f0 f1 f2 f3 f5
          clear hf
          simp only [puts, act_put, act_put_none, List.setIfInBounds_toArray, List.set_cons_zero, List.set_cons_succ, f1, f2] at hE ⊢
          clear f1 f2
          go_wp2
          exact .mk (hE _ _ rfl hC1 rfl)
        · -- 7: Op.store 22 (Operand.tmp 35) (Operand.tmp 34)
          refine step_plain [(6, some 35), (5, some 34), (5, some 34), (0, some 29), (1, some 30), (2, some 31), (3, some 32), (4, some 33), (5, some 34)] (fun _ => rfl) rfl ?_
          intro w1 vals hC1 hi0 hf E hE
          clear hi0
          have f0 : (fun z u => z 0 = .pointer (some ⟨g, 4, none⟩) ∧ Blk u g 24 #[.int .i64 k1, .string t3.1, .string t4.1, .int .i64 k2, .slice A1 k c1, .string ⟨#[]⟩]) vals w1 := hf 0 rfl
          have f1 : vals 1 = .slice A1 k c1 := hf 1 rfl
          have f2 : vals 2 = .func (.func 22) #[] #[.pointer (some ⟨gt, 0, none⟩), .pointer (some ⟨gn, 0, none⟩)] := hf 2 rfl
          have f3 : (fun z u => z 3 = .string tx.1 ∧ Clo u N gr gs gt gn tx.2) vals w1 := hf 3 rfl
          have f5 : (fun z u => ∃ A2 c2, z 5 = .slice A2 (k + 1) c2 ∧ k + 1 ≤ c2 ∧ OwnX u N 9 1 (.slice A2 (k + 1) c2) (k + 1) (strsV (L ++ [tx.1]))) vals w1 := hf 5 rfl
          have f6 : vals 6 = .pointer (some ⟨g, 4, none⟩) := hf 6 rfl
          try dsimp only at f0 f1 f2 f3 f5 f6
          clear hf
          obtain ⟨A2, c2, hx9, hc2, hown2⟩ := f5
          obtain ⟨hx0, hb0⟩ := f0
          obtain ⟨-, hc3⟩ := f3
          simp only [puts, act_put, act_put_none, List.setIfInBounds_toArray, List.set_cons_zero, List.set_cons_succ, f1, f2, f6, hx9, hx0] at hE ⊢
          clear f1 f2 f6
          clear hx9 hx0
          refine wpList_put_cell hb0 rfl rfl rfl rfl (by kernel_rfl) (by simp) rfl ?_
          intro w2 hb2 hw2
          go_wp2_with fail
          exact .mk (hE undef _ ⟨A2, c2, hc2, hw2.own hown2 (own_ne_blk hown2 hb0 (by decide)), hb2, hc3.put hw2 hap⟩ (hC1.put hw2 hap) trivial)
      intro w1 vals hC1 hf
      have f1 : vals 1 = .slice A1 k c1 := hf 1 (by decide) rfl
      have f2 : vals 2 = .func (.func 22) #[] #[.pointer (some ⟨gt, 0, none⟩), .pointer (some ⟨gn, 0, none⟩)] := hf 2 (by decide) rfl
      have f6 : vals 6 = .pointer (some ⟨g, 4, none⟩) := hf 6 (by decide) rfl
      have f7 : (fun z u => ∃ A2 c2, k + 1 ≤ c2 ∧ OwnX u N 9 1 (.slice A2 (k + 1) c2) (k + 1) (strsV (L ++ [tx.1])) ∧ Blk u g 24 #[.int .i64 k1, .string t3.1, .string t4.1, .int .i64 k2, .slice A2 (k + 1) c2, .string ⟨#[]⟩] ∧ Clo u N gr gs gt gn tx.2) vals w1 := hf 7 (by decide) rfl
      try dsimp only at f1 f2 f6 f7
      clear hf
      simp only [puts, act_put, act_put_none, List.setIfInBounds_toArray, List.set_cons_zero, List.set_cons_succ, f1, f2, f6]
      clear f1 f2 f6
      generalize vals 0 = x0 at *
      generalize vals 3 = x3 at *
      generalize vals 4 = x4 at *
      generalize vals 5 = x5 at *
      obtain ⟨A2, c2, hc2, hown2, hb2, hclo9⟩ := f7
      clear HI0 HC0 HJ0
      go_wp2_with fail
      go_roundw
      case rel => exact ⟨k + 1, A2, c2, hlt, by go_num, hc2, by rw [HF.out]; exact hown2, hb2, by rw [HF.out]; exact hclo9, hC1⟩
      case measure => simp [intOf]; omega
    · obtain rfl : k = m := by omega
      obtain ⟨A0, c0, hgr, _⟩ := hclo8.inp.row
      have HN1 := Lib.hid (own_ne_blk hown1 hgr (by decide))
      have HN2 := Lib.hid (own_ne_blk hown1 hclo8.inp.flag (by decide))
      obtain ⟨L, hL⟩ : ∃ L, L = (fieldsS k s5).1 := ⟨_, rfl⟩
      obtain ⟨S, hS⟩ : ∃ S, S = (fieldsS k s5).2 := ⟨_, rfl⟩
      obtain ⟨n, hn, hn2⟩ := numS_two 1 (by omega) S
      obtain ⟨s7, hs7⟩ : ∃ s, s = (numS 1 S).2 := ⟨_, rfl⟩
      obtain ⟨tk, htk⟩ : ∃ t, t = takeS n s7 := ⟨_, rfl⟩
      have HL := Lib.hid hL
      have HS := Lib.hid hS
      have HNN := Lib.hid hn
      have HS7 := Lib.hid hs7
      have HTK := Lib.hid htk
      rw [← hL] at hown1
      rw [← hS] at hclo8
      clear hgr hL hS hn hs7 htk hclo7 hC7 hbm7
      go_wp2_with fail
      have HC0 := hC8.drew
      have HI0 := hclo8.drew
      have HJ0 : Blk wr.drew g 24 #[.int .i64 k1, .string t3.1, .string t4.1, .int .i64 k2, .slice A1 k c1, .string ⟨#[]⟩] ∧ OwnX wr.drew N 9 1 (.slice A1 k c1) k (strsV L) := ⟨hbk, hown1⟩
      clear hbk hown1 hC8 hclo8
      refine wp_region_list (Cw w N gr gs gt gn) (fun | false => (fun u => Clo u N gr gs gt gn S) | true => (fun u => Blk u g 24 #[.int .i64 k1, .string t3.1, .string t4.1, .int .i64 k2, .slice A1 k c1, .string ⟨#[]⟩] ∧ OwnX u N 9 1 (.slice A1 k c1) k (strsV L))) (fun | false, i => i == 2 || i == 3 || i == 6 | true, i => i == 6)
        [fun z _ => z 0 = .func (.func 20) #[] #[.pointer (some ⟨gr, 0, none⟩), .pointer (some ⟨gs, 0, none⟩)],
         fun z _ => z 1 = .func (.func 21) #[] #[.pointer (some ⟨gt, 0, none⟩)],
         fun z u => z 2 = .int .i64 n ∧ Clo u N gr gs gt gn s7,
         fun z u => Clo u N gr gs gt gn tk.2 ∧ ∃ A c, z 3 = .slice A tk.1.length c ∧ Rd u N A (bytesV tk.1),
         fun z _ => z 4 = .string ⟨tk.1.toArray⟩,
         fun z _ => z 5 = .pointer (some ⟨g, 5, none⟩),
         fun z u => Blk u g 24 #[.int .i64 k1, .string t3.1, .string t4.1, .int .i64 k2, .slice A1 k c1, .string ⟨tk.1.toArray⟩] ∧ OwnX u N 9 1 (.slice A1 k c1) k (strsV L) ∧ Clo u N gr gs gt gn tk.2]
        [Eq, Eq, Wrote2 gr gs, Wrote2 gr gs, Eq, Eq, fun _ _ => True]
        (fun i k => (i == 3 && k == 2) || (i == 6 && k == 2) || (i == 6 && k == 3)) [(0, some 37), (1, some 38), (2, some 39), (3, some 40), (4, some 41), (5, some 42), (6, none)] (by kernel_rfl) (by kernel_rfl) rfl (fun _ => rfl) ?_ ?_ ?_ ?_ ?_ ?_
      · exact HC0
      · intro m; cases m; exact HI0; exact HJ0
      · intro m; cases m
        · exact ⟨.inr (fun _ _ h h0 => h ▸ h0), .inr (fun _ _ h h0 => h ▸ h0), .inl rfl, .inl rfl, .inr (fun _ _ h h0 => h ▸ h0), .inr (fun _ _ h h0 => h ▸ h0), .inl rfl, trivial⟩
        · exact ⟨.inr (fun _ _ h h0 => h ▸ h0), .inr (fun _ _ h h0 => h ▸ h0), .inr (fun _ _ h h0 => ⟨h.blk h0.1 hap.r hap.s, h0.2.w2 h HN1.out HN2.out⟩), .inr (fun _ _ h h0 => ⟨h.blk h0.1 hap.r hap.s, h0.2.w2 h HN1.out HN2.out⟩), .inr (fun _ _ h h0 => h ▸ h0), .inr (fun _ _ h h0 => h ▸ h0), .inl rfl, trivial⟩
      · exact ⟨⟨.inl rfl, .inr (.inr (.inr (fun _ _ _ _ _ h => h))), .inr (.inr (.inr (fun _ _ _ _ h h0 => by cases h; exact h0))), .inr (.inr (.inl rfl)), .inr (.inr (.inl rfl)), .inr (.inr (.inl rfl)), .inr (.inr (.inl rfl)), trivial⟩,
          ⟨.inr (.inr (.inr (fun _ _ _ _ _ h => h))), .inl rfl, .inr (.inr (.inl rfl)), .inr (.inr (.inl rfl)), .inr (.inr (.inl rfl)), .inr (.inr (.inl rfl)), .inr (.inr (.inl rfl)), trivial⟩,
          ⟨.inr (.inr (.inr (fun _ _ _ _ _ h => h))), .inr (.inr (.inr (fun _ _ _ _ _ h => h))), .inl rfl, .inr (.inr (.inl rfl)), .inr (.inr (.inl rfl)), .inr (.inr (.inl rfl)), .inr (.inr (.inl rfl)), trivial⟩,
          ⟨.inr (.inr (.inr (fun _ _ _ _ _ h => h))), .inr (.inr (.inr (fun _ _ _ _ _ h => h))), .inr (.inl rfl), .inl rfl, .inr (.inr (.inl rfl)), .inr (.inr (.inl rfl)), .inr (.inr (.inl rfl)), trivial⟩,
          ⟨.inr (.inr (.inr (fun _ _ _ _ _ h => h))), .inr (.inr (.inr (fun _ _ _ _ _ h => h))), .inr (.inr (.inr (fun _ _ _ _ h h0 => by cases h; exact h0))), .inr (.inr (.inr (fun _ _ _ _ h h0 => by cases h; exact h0))), .inl rfl, .inr (.inr (.inl rfl)), .inr (.inr (.inl rfl)), trivial⟩,
          ⟨.inr (.inr (.inr (fun _ _ _ _ _ h => h))), .inr (.inr (.inr (fun _ _ _ _ _ h => h))), .inr (.inr (.inr (fun _ _ _ _ h h0 => by cases h; exact h0))), .inr (.inr (.inr (fun _ _ _ _ h h0 => by cases h; exact h0))), .inr (.inr (.inr (fun _ _ _ _ _ h => h))), .inl rfl, .inr (.inr (.inl rfl)), trivial⟩,
          ⟨.inr (.inr (.inr (fun _ _ _ _ _ h => h))), .inr (.inr (.inr (fun _ _ _ _ _ h => h))), .inr (.inl rfl), .inr (.inl rfl), .inr (.inr (.inr (fun _ _ _ _ _ h => h))), .inr (.inr (.inr (fun _ _ _ _ _ h => h))), .inl rfl, trivial⟩, trivial⟩
      · refine ⟨?_, ?_, ?_, ?_, ?_, ?_, ?_, trivial⟩
        · -- 0: Op.load 40 (Operand.tmp 6)
          refine step_plain [] (fun _ => rfl) rfl ?_
          intro w1 vals hC1 hi0 hf E hE
          have hJ1 : (fun u => Blk u g 24 #[.int .i64 k1, .string t3.1, .string t4.1, .int .i64 k2, .slice A1 k c1, .string ⟨#[]⟩] ∧ OwnX u N 9 1 (.slice A1 k c1) k (strsV L)) w1 := hi0 true rfl
          try dsimp only at hJ1
          clear hi0
          clear hf
          obtain ⟨sx, hx⟩ := hC1.clo
          have c0 := hx.ht.cell 0
          have fz0 := hx.ht.free 0
          simp only [puts, act_put, act_put_none, List.setIfInBounds_toArray, List.set_cons_zero, List.set_cons_succ] at hE ⊢
          go_wp2
          exact .mk (hE _ _ rfl hC1 rfl)
        · -- 1: Op.load 42 (Operand.tmp 7)
          refine step_plain [] (fun _ => rfl) rfl ?_
          intro w1 vals hC1 hi0 hf E hE
          have hI1 : (fun u => Clo u N gr gs gt gn S) w1 := hi0 false rfl
          try dsimp only at hI1
          have hJ1 : (fun u => Blk u g 24 #[.int .i64 k1, .string t3.1, .string t4.1, .int .i64 k2, .slice A1 k c1, .string ⟨#[]⟩] ∧ OwnX u N 9 1 (.slice A1 k c1) k (strsV L)) w1 := hi0 true rfl
          try dsimp only at hJ1
          clear hi0
          clear hf
          obtain ⟨sx, hx⟩ := hC1.clo
          have c0 := hx.hn.cell 0
          have fz0 := hx.hn.free 0
          simp only [puts, act_put, act_put_none, List.setIfInBounds_toArray, List.set_cons_zero, List.set_cons_succ] at hE ⊢
          go_wp2
          exact .mk (hE _ _ rfl hC1 rfl)
        · -- 2: Op.call { callee := Callee.value (Operand.tmp 38), args := #[Operand.const (Value.int IntKind.i64 1)], argType
          refine step_plain [(1, some 38)] (fun _ => rfl) rfl ?_
          intro w1 vals hC1 hi0 hf E hE
          have hI1 : (fun u => Clo u N gr gs gt gn S) w1 := hi0 false rfl
          try dsimp only at hI1
          have hJ1 : (fun u => Blk u g 24 #[.int .i64 k1, .string t3.1, .string t4.1, .int .i64 k2, .slice A1 k c1, .string ⟨#[]⟩] ∧ OwnX u N 9 1 (.slice A1 k c1) k (strsV L)) w1 := hi0 true rfl
          try dsimp only at hJ1
          clear hi0
          have f1 : vals 1 = .func (.func 21) #[] #[.pointer (some ⟨gt, 0, none⟩)] := hf 1 rfl
          try dsimp only at f1
          clear hf
          simp only [puts, act_put, act_put_none, List.setIfInBounds_toArray, List.set_cons_zero, List.set_cons_succ, f1] at hE ⊢
          clear f1
          go_wp2_with fail
          refine calls_then (number_any N gr gs gt 1 _ _ hI1.inp (by omega) hI1.ht) ?_
          rintro e w2 ⟨rfl, hi2, hw2⟩
          rw [HNN.out]
          rw [← HS7.out] at hi2
          go_wp2_with fail
          exact .mk (hE _ _ ⟨rfl, hI1.next hw2 hi2⟩ (hC1.next hI1 hw2 hi2) hw2)
        · -- 3: Op.call { callee := Callee.value (Operand.tmp 37), args := #[Operand.tmp 39], argTypes := #[3] }
          refine step_plain [(0, some 37), (2, some 39), (2, some 39)] (fun _ => rfl) rfl ?_
          intro w1 vals hC1 hi0 hf E hE
          have hJ1 : (fun u => Blk u g 24 #[.int .i64 k1, .string t3.1, .string t4.1, .int .i64 k2, .slice A1 k c1, .string ⟨#[]⟩] ∧ OwnX u N 9 1 (.slice A1 k c1) k (strsV L)) w1 := hi0 true rfl
          try dsimp only at hJ1
          clear hi0
          have f0 : vals 0 = .func (.func 20) #[] #[.pointer (some ⟨gr, 0, none⟩), .pointer (some ⟨gs, 0, none⟩)] := hf 0 rfl
          have f2 : (fun z u => z 2 = .int .i64 n ∧ Clo u N gr gs gt gn s7) vals w1 := hf 2 rfl
          try dsimp only at f0 f2
          clear hf
          obtain ⟨hx2, hc2⟩ := f2
          simp only [puts, act_put, act_put_none, List.setIfInBounds_toArray, List.set_cons_zero, List.set_cons_succ, f0, hx2] at hE ⊢
          clear f0
          clear hx2
          go_wp2_with fail
          refine calls_then (take_any N gr gs n _ _ hc2.inp (by omega)) ?_
          rintro e w2 ⟨A2, c2, rfl, hcc, hr2, hi2, hw2⟩
          rw [← HTK.out]
          rw [← HTK.out] at hr2 hi2
          go_wp2_with fail
          exact .mk (hE _ _ ⟨hc2.next hw2 hi2, A2, c2, rfl, hr2⟩ (hC1.next hc2 hw2 hi2) hw2)
        · -- 4: Op.convert 26 9 (Operand.tmp 40)
          refine step_plain [(3, some 40)] (fun _ => rfl) rfl ?_
          intro w1 vals hC1 hi0 hf E hE
          have hJ1 : (fun u => Blk u g 24 #[.int .i64 k1, .string t3.1, .string t4.1, .int .i64 k2, .slice A1 k c1, .string ⟨#[]⟩] ∧ OwnX u N 9 1 (.slice A1 k c1) k (strsV L)) w1 := hi0 true rfl
          try dsimp only at hJ1
          clear hi0
          have f3 : (fun z u => Clo u N gr gs gt gn tk.2 ∧ ∃ A c, z 3 = .slice A tk.1.length c ∧ Rd u N A (bytesV tk.1)) vals w1 := hf 3 rfl
          try dsimp only at f3
          clear hf
          obtain ⟨-, A2, c2, hx3, hr3⟩ := f3
          simp only [puts, act_put, act_put_none, List.setIfInBounds_toArray, List.set_cons_zero, List.set_cons_succ, hx3] at hE ⊢
          clear hx3
          refine wpList_str_of hr3 Try.underlying26 Try.underlying5 Try.underlying9 rfl rfl rfl ?_
          go_wp2_with fail
          exact .mk (hE _ _ rfl hC1 rfl)
        · -- 5: Op.fieldAddr 24 (Operand.tmp 9) 5
          refine step_plain [(0, some 37), (1, some 38), (2, some 39), (3, some 40), (4, some 41)] (fun _ => rfl) rfl ?_
          intro w1 vals hC1 hi0 hf E hE
          have hJ1 : (fun u => Blk u g 24 #[.int .i64 k1, .string t3.1, .string t4.1, .int .i64 k2, .slice A1 k c1, .string ⟨#[]⟩] ∧ OwnX u N 9 1 (.slice A1 k c1) k (strsV L)) w1 := hi0 true rfl
          try dsimp only at hJ1
          clear hi0
          have f0 : vals 0 = .func (.func 20) #[] #[.pointer (some ⟨gr, 0, none⟩), .pointer (some ⟨gs, 0, none⟩)] := hf 0 rfl
          have f1 : vals 1 = .func (.func 21) #[] #[.pointer (some ⟨gt, 0, none⟩)] := hf 1 rfl
          have f3 : (fun z u => Clo u N gr gs gt gn tk.2 ∧ ∃ A c, z 3 = .slice A tk.1.length c ∧ Rd u N A (bytesV tk.1)) vals w1 := hf 3 rfl
          have f4 : vals 4 = .string ⟨tk.1.toArray⟩ := hf 4 rfl
          try dsimp only at f0 f1 f3 f4
          clear hf
          simp only [puts, act_put, act_put_none, List.setIfInBounds_toArray, List.set_cons_zero, List.set_cons_succ, f0, f1, f4] at hE ⊢
          clear f0 f1 f4
          go_wp2
          exact .mk (hE _ _ rfl hC1 rfl)
        · -- 6: Op.store 9 (Operand.tmp 42) (Operand.tmp 41)
          refine step_plain [(5, some 42), (4, some 41), (3, some 40), (0, some 37), (1, some 38), (2, some 39), (3, some 40), (4, some 41)] (fun _ => rfl) rfl ?_
          intro w1 vals hC1 hi0 hf E hE
          have hJ1 : (fun u => Blk u g 24 #[.int .i64 k1, .string t3.1, .string t4.1, .int .i64 k2, .slice A1 k c1, .string ⟨#[]⟩] ∧ OwnX u N 9 1 (.slice A1 k c1) k (strsV L)) w1 := hi0 true rfl
          try dsimp only at hJ1
          clear hi0
          have f0 : vals 0 = .func (.func 20) #[] #[.pointer (some ⟨gr, 0, none⟩), .pointer (some ⟨gs, 0, none⟩)] := hf 0 rfl
          have f1 : vals 1 = .func (.func 21) #[] #[.pointer (some ⟨gt, 0, none⟩)] := hf 1 rfl
          have f3 : (fun z u => Clo u N gr gs gt gn tk.2 ∧ ∃ A c, z 3 = .slice A tk.1.length c ∧ Rd u N A (bytesV tk.1)) vals w1 := hf 3 rfl
          have f4 : vals 4 = .string ⟨tk.1.toArray⟩ := hf 4 rfl
          have f5 : vals 5 = .pointer (some ⟨g, 5, none⟩) := hf 5 rfl
          try dsimp only at f0 f1 f3 f4 f5
          clear hf
          obtain ⟨hc3, -⟩ := f3
          simp only [puts, act_put, act_put_none, List.setIfInBounds_toArray, List.set_cons_zero, List.set_cons_succ, f0, f1, f4, f5] at hE ⊢
          clear f0 f1 f4 f5
          refine wpList_put_cell hJ1.1 rfl rfl rfl rfl (by kernel_rfl) (by simp) rfl ?_
          intro w2 hb2 hw2
          go_wp2_with fail
          exact .mk (hE undef _ ⟨hb2, hw2.own hJ1.2 (own_ne_blk hJ1.2 hJ1.1 (by decide)), hc3.put hw2 hap⟩ (hC1.put hw2 hap) trivial)
      intro w1 vals hC1 hf
      have f0 : vals 0 = .func (.func 20) #[] #[.pointer (some ⟨gr, 0, none⟩), .pointer (some ⟨gs, 0, none⟩)] := hf 0 (by decide) rfl
      have f1 : vals 1 = .func (.func 21) #[] #[.pointer (some ⟨gt, 0, none⟩)] := hf 1 (by decide) rfl
      have f4 : vals 4 = .string ⟨tk.1.toArray⟩ := hf 4 (by decide) rfl
      have f5 : vals 5 = .pointer (some ⟨g, 5, none⟩) := hf 5 (by decide) rfl
      have f6 : (fun z u => Blk u g 24 #[.int .i64 k1, .string t3.1, .string t4.1, .int .i64 k2, .slice A1 k c1, .string ⟨tk.1.toArray⟩] ∧ OwnX u N 9 1 (.slice A1 k c1) k (strsV L) ∧ Clo u N gr gs gt gn tk.2) vals w1 := hf 6 (by decide) rfl
      try dsimp only at f0 f1 f4 f5 f6
      clear hf
      simp only [puts, act_put, act_put_none, List.setIfInBounds_toArray, List.set_cons_zero, List.set_cons_succ, f0, f1, f4, f5]
      clear f0 f1 f4 f5
      generalize vals 2 = x2 at *
      generalize vals 3 = x3 at *
      obtain ⟨hbm, hown, hclo⟩ := f6
      clear HI0 HC0 HJ0
      have hsaid : saidS b = ⟨⟨k1, t3.1, t4.1, k2, L, ⟨tk.1.toArray⟩⟩, tk.2⟩ := by
        simp only [saidS]
        rw [← HS1.out, ← HK1.out, ← HS2.out, ← HK2.out, ← HT3.out, ← HT4.out, HM.out, ← HS5.out, Int.toNat_natCast, ← HL.out, ← HS.out, HNN.out, ← HS7.out, Int.toNat_natCast, ← HTK.out]
      have hok := said_ok b
      have hLk : L.length = k := by rw [HL.out]; exact fieldsS_length _ _
      rw [hsaid] at hok
      obtain ⟨A9, c9, hrow9, hc9, hrd9⟩ := hclo.inp.row
      have hfl9 := hclo.inp.flag
      have cf := hfl9.cell 0
      have cr := hrow9.cell 0
      have HBELOW := Lib.hid hC1.below
      have HBOX := Lib.hid hC1.box
      have HSAID := Lib.hid hsaid
      have HOK := Lib.hid hok
      have HLK := Lib.hid hLk
      have HOWN := Lib.hid hown
      have HBM := Lib.hid hbm
      have HKC := Lib.hid hkc
      have HSIZE := Lib.hid hC1.size
      have HLO := Lib.hid hap.lo
      have hu := Try.underlying24
      clear hsaid hok hLk hclo hC1 hown hbm hrow9 hfl9 hrd9 hap hkc
      cases hsh : tk.2.short with
      | true =>
        have HSH := Lib.hid hsh
        rw [hsh] at cf
        clear hsh
        go_wp2_with (refine wpList_put_box (x := .tmp 2) HBOX.out rfl rfl rfl rfl msg_size rfl (by simp [Value.oneCell']) ?_; intro w5 hb5 hw5)
        refine bodyPost_ret (results_box_tmp (P := Try.prog) rfl rfl hb5 hu rfl msg_size) rfl ?_
        have e1 : unpS b = (zeroM, 3) := by unfold unpS; rw [HSAID.out]; simp [HSH.out]
        rw [UnpPost, e1]
        refine ⟨?_, none, 0, rfl, Nat.zero_le _, OwnX.nil _ _ _ _⟩
        rw [HN.out]
        have := HSIZE.out
        exact hw5.below HBELOW.out (Nat.le_refl _) (by omega)
      | false =>
        have HSH := Lib.hid hsh
        rw [hsh] at cf
        clear hsh
        obtain ⟨r, hr⟩ : ∃ r, r = tk.2.rest.length := ⟨_, rfl⟩
        rw [← hr] at cr
        have HR := Lib.hid hr
        clear hr
        obtain ⟨O, hO⟩ : ∃ O, O = Obj.cells #[.int .i64 k1, .string t3.1, .string t4.1, .int .i64 k2, .slice A1 k c1, .string ⟨tk.1.toArray⟩] 24 := ⟨_, rfl⟩
        have hmay : ∀ (W : World), Below w1.heap.size w1 W → Calls Try.prog 17 #[.agg #[.int .i64 k1, .string t3.1, .string t4.1, .int .i64 k2, .slice A1 k c1, .string ⟨tk.1.toArray⟩]] W
            fun e w' => e = .returned (.bool (mayB ⟨k1, t3.1, t4.1, k2, L, ⟨tk.1.toArray⟩⟩)) ∧ w' = W.alloc O := by
          intro W h
          have hw := may_any ⟨k1, t3.1, t4.1, k2, L, ⟨tk.1.toArray⟩⟩ A1 c1 W.heap.size W (by
            refine Rd.mono ?_ h.size
            refine Rd.below ?_ h
            have := HOWN.out
            exact Rd.of_own this (Nat.le_refl _)) (Nat.le_refl _) (by rw [HLK.out]; exact HKC.out) HOK.out
          dsimp only [msgCells] at hw
          rw [HLK.out] at hw
          rw [hO]
          exact hw
        clear hO
        have HMAY := Lib.hid hmay
        clear hmay
        by_cases h0 : r = 0
        · subst h0
          go_wp2_with (refine wpList_open (o := ⟨some 51, _, _, _, _, _⟩) rfl (wpList_get_box HBM.out rfl rfl rfl hu rfl msg_size ?_))
          refine calls_then (HMAY.out _ (Below.refl _ _)) ?_
          rintro e w2 ⟨rfl, rfl⟩
          have hbox2 := HBOX.out.alloc O
          have hbm2 := HBM.out.alloc O
          have hown2 := HOWN.out.alloc O
          have hB2 := HBELOW.out.alloc (by have := HSIZE.out; omega) O
          have hs2 : N + 5 ≤ (w1.alloc O).heap.size := by have := HSIZE.out; simp; omega
          generalize (w1.alloc O) = w2 at *
          have hrest : tk.2.rest = [] := List.eq_nil_of_length_eq_zero HR.out.symm
          have HREST := Lib.hid hrest
          obtain ⟨MB, hMB⟩ : ∃ x, x = mayB ⟨k1, t3.1, t4.1, k2, L, ⟨tk.1.toArray⟩⟩ := ⟨_, rfl⟩
          rw [← hMB]
          have HBX := Lib.hid hbox2
          have HBM2 := Lib.hid hbm2
          have HOWN2 := Lib.hid hown2
          have HB2 := Lib.hid hB2
          clear hrest hbox2 hbm2 hown2 hB2 cf cr
          cases MB with
          | true =>
            have HMB := Lib.hid hMB
            clear hMB
            go_wp2_with (first
              | (refine wpList_get_box (x := .tmp 9) HBM2.out rfl rfl rfl hu rfl msg_size ?_)
              | (refine wpList_put_box (x := .tmp 2) HBX.out rfl rfl rfl rfl msg_size rfl (by simp [Value.oneCell']) ?_; intro w5 hb5 hw5))
            refine bodyPost_ret (results_box_tmp (P := Try.prog) rfl rfl hb5 hu rfl msg_size) rfl ?_
            have e1 : unpS b = (⟨k1, t3.1, t4.1, k2, L, ⟨tk.1.toArray⟩⟩, 0) := by unfold unpS; rw [HSAID.out]; simp [HSH.out, HREST.out, ← HMB.out]
            rw [UnpPost, e1, HN.out]
            refine ⟨hw5.below HB2.out (Nat.le_refl _) (by omega), A1, c1, ?_, ?_, ?_⟩
            · dsimp only [msgCells]; rw [HLK.out]; rfl
            · dsimp only; rw [HLK.out]; exact HKC.out
            · dsimp only; rw [HLK.out]; exact hw5.own HOWN2.out (own_ne_blk HOWN2.out HBX.out (by decide))
          | false =>
            have HMB := Lib.hid hMB
            clear hMB
            go_wp2_with (refine wpList_put_box (x := .tmp 2) HBX.out rfl rfl rfl rfl msg_size rfl (by simp [Value.oneCell']) ?_; intro w5 hb5 hw5)
            refine bodyPost_ret (results_box_tmp (P := Try.prog) rfl rfl hb5 hu rfl msg_size) rfl ?_
            have e1 : unpS b = (zeroM, 2) := by unfold unpS; rw [HSAID.out]; simp [HSH.out, HREST.out, ← HMB.out]
            rw [UnpPost, e1]
            refine ⟨?_, none, 0, rfl, Nat.zero_le _, OwnX.nil _ _ _ _⟩
            rw [HN.out]
            exact hw5.below HB2.out (Nat.le_refl _) (by omega)
        · have hgt : (0 : Int) < (r : Int) := by omega
          go_wp2_with (refine wpList_put_box (x := .tmp 2) HBOX.out rfl rfl rfl rfl msg_size rfl (by simp [Value.oneCell']) ?_; intro w5 hb5 hw5)
          refine bodyPost_ret (results_box_tmp (P := Try.prog) rfl rfl hb5 hu rfl msg_size) rfl ?_
          have e1 : unpS b = (zeroM, 2) := by
            have hne : ¬ tk.2.rest = [] := by intro h; apply h0; rw [HR.out, h]; rfl
            unfold unpS; rw [HSAID.out]; simp [HSH.out, hne]
          rw [UnpPost, e1]
          refine ⟨?_, none, 0, rfl, Nat.zero_le _, OwnX.nil _ _ _ _⟩
          rw [HN.out]
          have := HSIZE.out
          exact hw5.below HBELOW.out (Nat.le_refl _) (by omega)
end Go.Proofs.Ytlngjalclagojaa
