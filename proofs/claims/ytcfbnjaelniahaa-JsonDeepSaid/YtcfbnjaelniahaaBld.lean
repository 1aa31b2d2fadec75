/-
  Walks: strings.Builder, as it lies in a block of some type.
-/
import Derived.Test.YtcfbnjaelniahaaBox
import Derived.Test.YtcfbnjaelniahaaProg
import Derived.Lib.Builder
import Derived.Lib.UnsafeStr
import Derived.Laws.Externs
import Derived.Shelf.RegionOpenPlain
namespace Go.Proofs.Ytcfbnjaelniahaa
set_option linter.unusedSimpArgs false
set_option linter.unusedVariables false
open Go.RowKit

/-- a type whose blocks hold a builder -/
structure BT (T : TypeId) : Prop where
  lies : liesAt Try.prog Try.prog.depth T (2 / Try.prog.cellsOf T) 0 44 1 = true
  ne : T ≠ 5
theorem bldT_size : (Try.prog.info? 44).map (·.size) = some 2 := by kernel_rfl
def SelfOk (p : Nat) (v : Value) : Prop := v = .pointer none ∨ v = .pointer (some ⟨p, 0, none⟩)
theorem Blk.shape {w : World} {g : Nat} {t : TypeId} {cs : Array Value} (h : Blk w g t cs) : w.shape? g = some (t, cs.size) := by
  unfold Blk at h
  simp [World.shape?, h]
theorem Wrote.refl (g : Nat) (w : World) : Wrote g w w := ⟨World.grownBy.refl _ _, rfl⟩
set_option maxHeartbeats 1000000 in
set_option maxRecDepth 100000 in
theorem bld_check {T : TypeId} (HT : BT T) (p : Nat) (self sl : Value) (w : World) (hb : Blk w p T #[self, sl]) (hs : SelfOk p self) :
    Calls Try.prog 43 #[.pointer (some ⟨p, 0, none⟩)] w fun e w' => e = .returned (.tuple #[]) ∧ Blk w' p T #[.pointer (some ⟨p, 0, none⟩), sl] ∧ Wrote p w w' := by
  obtain ⟨j, hj, hjs⟩ := Option.map_eq_some_iff.1 bldT_size
  have t41 := Try.underlying41
  have c0 : w.cell? ⟨p, 0, none⟩ = some self := hb.cell 0
  have hsh := hb.shape
  have HB := Lib.hid hb
  rcases hs with rfl | rfl
  · clear hb
    go_enter Try.func43, Try.ntmps43
    go_wp2_with fail
    rw [Lib.run_to_unsafe w ⟨p, 0, none⟩ t41 Try.underlying86 hj (by rw [hjs]; decide) hsh (by simp)]
    simp only [Result.andThen]
    rw [Oper.upon_value]
    go_wp2
    rw [run_callFunc_extern Try.func55 (by kernel_rfl) (by kernel_rfl) (by kernel_rfl) (e := Extern.AbiNoEscape.same) (by kernel_rfl)]
    rw [Lib.run_noEscape]
    simp only [Result.andThen]
    rw [Oper.upon_value]
    go_wp2_with fail
    rw [Lib.run_from_unsafe w ⟨p, 0, none⟩ Try.underlying86 t41 hj hsh HT.lies]
    simp only [Result.andThen]
    rw [Oper.upon_value]
    go_wp2_with (refine wpList_put_cell (x := .tmp 13) (i := 0) HB.out rfl rfl rfl rfl (by kernel_rfl) (by simp) rfl ?_; intro w1 hb1 hw1)
    go_end0
    exact ⟨rfl, hb1, hw1⟩
  · clear hb
    go_enter Try.func43, Try.ntmps43
    go_wp2
    rw [Lib.run_neq_ptr_same w _ t41 hj]
    go_wp2
    go_end0
    exact ⟨rfl, HB.out, Wrote.refl _ _⟩
/-- a builder at p that holds these bytes -/
def IsB (w : World) (B : Nat) (T : TypeId) (p : Nat) (l : List UInt8) : Prop :=
  B ≤ p ∧ ∃ self A c, SelfOk p self ∧ Blk w p T #[self, .slice A l.length c] ∧ OwnX w B 5 1 (.slice A l.length c) l.length (bytesV l)
theorem IsB.lt {w : World} {B : Nat} {T : TypeId} {p : Nat} {l : List UInt8} (h : IsB w B T p l) : B ≤ p ∧ p < w.heap.size := by
  obtain ⟨h1, _, _, _, _, h2, _⟩ := h
  exact ⟨h1, h2.lt⟩
theorem IsB.below {w w' : World} {B : Nat} {T : TypeId} {p : Nat} {l : List UInt8} (h : IsB w B T p l) (hb : Below w.heap.size w w') : IsB w' B T p l := by
  obtain ⟨h1, self, A, c, h2, h3, h4⟩ := h
  exact ⟨h1, self, A, c, h2, h3.below hb h3.lt, h4.below hb (Nat.le_refl _)⟩
theorem IsB.new (w : World) (T : TypeId) {B : Nat} (hB : B ≤ w.heap.size) : IsB (w.alloc (.cells #[.pointer none, .slice none 0 0] T)) B T w.heap.size [] :=
  ⟨hB, _, none, 0, .inl rfl, Blk.new _ _ _, OwnX.nil _ _ _ _⟩
theorem sl_u8 : SlT Try.prog 42 5 1 1 := SlT.mk1 (z := .int .u8 0) Try.underlying42 (by kernel_rfl) rfl (by decide)
/-- every block stands but for p and the rows of bytes; what lies below B stands -/
structure BK (B p : Nat) (w w' : World) : Prop where
  below : Below B w w'
  size : w.heap.size ≤ w'.heap.size
  keep : ∀ (k : Nat) (cs : Array Value) (t : TypeId) (fz : Nat × Nat), k ≠ p → t ≠ 5 → w.heap[k]? = some (Obj.cells cs t fz) → w'.heap[k]? = some (Obj.cells cs t fz)
section
variable {B p : Nat} {w w1 w2 w' : World}
theorem BK.refl (B p : Nat) (w : World) : BK B p w w := ⟨Below.refl _ _, Nat.le_refl _, fun _ _ _ _ _ _ h => h⟩
theorem BK.trans (h : BK B p w w1) (h' : BK B p w1 w2) : BK B p w w2 := ⟨h.below.trans h'.below, Nat.le_trans h.size h'.size, fun k cs t fz h1 h2 h3 => h'.keep k cs t fz h1 h2 (h.keep k cs t fz h1 h2 h3)⟩
theorem BK.drew (h : BK B p w w1) : BK B p w w1.drew := ⟨h.below.drew, h.size, h.keep⟩
theorem BK.wrote (h : Wrote p w w1) (hB : B ≤ p) (hs : B ≤ w.heap.size) : BK B p w w1 := ⟨h.below (Below.refl _ _) hB hs, by rw [h.size]; exact Nat.le_refl _, fun k cs t fz h1 _ h3 => (h.grown.block k (Array.getElem?_eq_some_iff.1 h3).1 (by simpa using h1)).trans h3⟩
theorem BK.own {e s n : Nat} {v : Value} {xs : List Value} (ho : OwnX w B 5 s v n xs) (hg : w.grownBy w1 v.ownBlock) (hs : B ≤ w.heap.size) : BK B p w w1 :=
  ⟨(Below.refl B w).grown hg hs (fun k hk => (ho.lt k hk).1), hg.size, fun k cs t fz _ h2 h3 => (keepBut_of_grown ho hg).2 k cs t fz h2 h3⟩
theorem BK.fresh {g : Nat} (hg : w.grownBy w1 (some g)) (hs : w.heap.size ≤ g) (hB : B ≤ w.heap.size) : BK B p w w1 :=
  ⟨(Below.refl B w).grown hg hB (fun k hk => by injection hk with hk; omega), hg.size, fun k cs t fz _ _ h3 => by
    have hlt := (Array.getElem?_eq_some_iff.1 h3).1
    exact (hg.block k hlt (by intro e; injection e with e; omega)).trans h3⟩
theorem BK.all (h : Below w.heap.size w w1) (hB : B ≤ w.heap.size) : BK B p w w1 := ⟨h.mono hB, h.size, fun k cs t fz _ _ h3 => (h.block k (Array.getElem?_eq_some_iff.1 h3).1).trans h3⟩
theorem BK.blk {g : Nat} {t : TypeId} {cs : Array Value} (h : BK B p w w1) (hb : Blk w g t cs) (hg : g ≠ p) (ht : t ≠ 5) : Blk w1 g t cs := h.keep g cs t (0, 0) hg ht hb
end
/-- behind a writer -/
theorem isB_put {T : TypeId} {B p n m c2 : Nat} {A2 : Option Addr} {s v : Value} {xs : List Value} {l' : List UInt8} {w w1 w2 w3 : World} (hB : B ≤ p) (hp : p < w.heap.size) (hs : SelfOk p s) (hw1 : Wrote p w w1) (ho1 : OwnX w1 B 5 1 v m xs) (hg2 : w1.grownBy w2 v.ownBlock) (HT : BT T)
    (hb2 : Blk w2 p T #[s, v]) (ho2 : OwnX w2 B 5 1 (.slice A2 n c2) n (bytesV l')) (hn : n = l'.length) (hb3 : Blk w3 p T (#[s, v].setIfInBounds 1 (.slice A2 n c2))) (hw3 : Wrote p w2 w3) : IsB w3 B T p l' ∧ BK B p w w3 := by
  subst hn
  refine ⟨⟨hB, s, A2, c2, hs, hb3, hw3.own ho2 (own_ne_blk ho2 hb2 HT.ne)⟩, ?_⟩
  have h1 : BK B p w w1 := .wrote hw1 hB (by omega)
  have h2 : BK B p w1 w2 := .own (e := 0) ho1 hg2 (by have := hw1.size; omega)
  have h3 : BK B p w2 w3 := .wrote hw3 hB (by have := h2.size; have := h1.size; omega)
  exact (h1.trans h2).trans h3
set_option maxHeartbeats 1000000 in
set_option maxRecDepth 100000 in
theorem bld_byte {T : TypeId} (HT : BT T) (B p : Nat) (l : List UInt8) (x : UInt8) (w : World) (hb : IsB w B T p l) (hl : l.length + 1 ≤ 140737488355328) :
    Calls Try.prog 44 #[.pointer (some ⟨p, 0, none⟩), byteV x] w fun e w' => e = .returned .nilIface ∧ IsB w' B T p (l ++ [x]) ∧ BK B p w w' := by
  obtain ⟨hB, self, A, c, hs, hblk, hown⟩ := hb
  have C := Lib.hid (bld_check HT p self _ w hblk hs)
  have HO := Lib.hid hown
  have HK := Lib.hid hblk
  have hl' : (l.length : Int) ≤ 140737488355327 := by omega
  clear hblk hown
  unfold byteV
  go_enter Try.func44, Try.ntmps44
  go_wp2_with fail
  refine calls_then C.out ?_
  rintro e w1 ⟨rfl, hb1, hw1⟩
  have hne : (Value.slice A l.length c).ownBlock ≠ some p := own_ne_blk HO.out HK.out HT.ne
  have ho1 := hw1.own HO.out hne
  have c1 : w1.cell? ⟨p, 1, none⟩ = some (.slice A l.length c) := hb1.cell 1
  have HW := Lib.hid hw1
  have HB1 := Lib.hid hb1
  have HO1 := Lib.hid ho1
  have hBw : B ≤ w1.heap.size := by have := HK.out.lt; have := hw1.size; omega
  clear hw1 hb1 ho1
  go_wp2_with (first
    | (refine wpList_append_one sl_u8 rfl rfl HO1.out rfl rfl rfl (by rfl) (by unfold maxLen; omega) (by omega) hBw ?_; intro A2 c2 w2 ho2 hg2 hn2; have hb2 := Lib.hid (HB1.out.grown hg2 (by intro h; exact hne h.symm)))
    | (refine wpList_put_cell (x := .tmp 16) (i := 1) hb2.out rfl rfl rfl rfl (by kernel_rfl) (by simp) rfl ?_; intro w3 hb3 hw3))
  go_ret
  exact ⟨rfl, isB_put hB HK.out.lt (.inr rfl) HW.out HO1.out hg2 HT hb2.out (by rw [bytesV_append]; exact ho2) (by simp) hb3 hw3⟩
set_option maxHeartbeats 1000000 in
set_option maxRecDepth 100000 in
theorem bld_str {T : TypeId} (HT : BT T) (B p : Nat) (l : List UInt8) (s : ByteArray) (w : World) (hb : IsB w B T p l) (hl : l.length + s.size ≤ 140737488355328) :
    Calls Try.prog 31 #[.pointer (some ⟨p, 0, none⟩), .string s] w fun e w' => e = .returned (.tuple #[.int .i64 s.size, .nilIface]) ∧ IsB w' B T p (l ++ s.data.toList) ∧ BK B p w w' := by
  obtain ⟨hB, self, A, c, hs, hblk, hown⟩ := hb
  have C := Lib.hid (bld_check HT p self _ w hblk hs)
  have HO := Lib.hid hown
  have HK := Lib.hid hblk
  have hl' : (l.length : Int) + (s.size : Int) ≤ 140737488355328 := by omega
  have zero_u8' : ∃ i, Try.prog.info? 5 = some i ∧ i.zero = some (.int .u8 0) := by
    obtain ⟨i, h1, h2, _⟩ := info_parts (show (Try.prog.info? 5).map (fun i => (i.zero, i.size, i.bytes)) = some (some (.int .u8 0), 1, 1) by kernel_rfl)
    exact ⟨i, h1, h2⟩
  have HZ := Lib.hid zero_u8'
  clear hblk hown zero_u8'
  go_enter Try.func31, Try.ntmps31
  go_wp2_with fail
  refine calls_then C.out ?_
  rintro e w1 ⟨rfl, hb1, hw1⟩
  have hne : (Value.slice A l.length c).ownBlock ≠ some p := own_ne_blk HO.out HK.out HT.ne
  have ho1 := hw1.own HO.out hne
  have c1 : w1.cell? ⟨p, 1, none⟩ = some (.slice A l.length c) := hb1.cell 1
  have HW := Lib.hid hw1
  have HB1 := Lib.hid hb1
  have HO1 := Lib.hid ho1
  have hBw : B ≤ w1.heap.size := by have := HK.out.lt; have := hw1.size; omega
  clear hw1 hb1 ho1
  go_wp2_with (first
    | (refine wpList_append_str sl_u8 HZ.out Try.underlying9 rfl rfl HO1.out rfl rfl (by omega) hBw ?_; intro A2 c2 w2 ho2 hg2 hn2; have hb2 := Lib.hid (HB1.out.grown hg2 (by intro h; exact hne h.symm)))
    | (refine wpList_put_cell (x := .tmp 16) (i := 1) hb2.out rfl rfl rfl rfl (by kernel_rfl) (by simp) rfl ?_; intro w3 hb3 hw3))
  go_ret2
  exact ⟨rfl, isB_put hB HK.out.lt (.inr rfl) HW.out HO1.out hg2 HT hb2.out (by rw [bytesV_append]; exact ho2) (by rw [List.length_append]; rfl) hb3 hw3⟩
set_option maxHeartbeats 1000000 in
set_option maxRecDepth 100000 in
theorem bld_write {T : TypeId} (HT : BT T) (B p B2 m cx : Nat) (Ad : Option Addr) (l s : List UInt8) (w : World) (hb : IsB w B T p l) (hr : Rd w B2 Ad (bytesV s)) (hpr : ∀ ad, Ad = some ad → ad.block ≠ p) (hm : s.length = m) (hl : l.length + m ≤ 140737488355328) :
    Calls Try.prog 45 #[.pointer (some ⟨p, 0, none⟩), .slice Ad m cx] w fun e w' => e = .returned (.tuple #[.int .i64 m, .nilIface]) ∧ IsB w' B T p (l ++ s) ∧ BK B p w w' := by
  obtain ⟨hB, self, A, c, hs, hblk, hown⟩ := hb
  have C := Lib.hid (bld_check HT p self _ w hblk hs)
  have HO := Lib.hid hown
  have HK := Lib.hid hblk
  have HR := Lib.hid hr
  have hl' : (l.length : Int) + (m : Int) ≤ 140737488355328 := by omega
  clear hblk hown hr
  go_enter Try.func45, Try.ntmps45
  go_wp2_with fail
  refine calls_then C.out ?_
  rintro e w1 ⟨rfl, hb1, hw1⟩
  have hne : (Value.slice A l.length c).ownBlock ≠ some p := own_ne_blk HO.out HK.out HT.ne
  have ho1 := hw1.own HO.out hne
  have c1 : w1.cell? ⟨p, 1, none⟩ = some (.slice A l.length c) := hb1.cell 1
  have HW := Lib.hid hw1
  have HB1 := Lib.hid hb1
  have HO1 := Lib.hid ho1
  have hBw : B ≤ w1.heap.size := by have := HK.out.lt; have := hw1.size; omega
  have HR1 := Lib.hid (show Rd w1 w1.heap.size Ad (bytesV s) from fun i u hu => by
    obtain ⟨ad, h1, _, h3⟩ := HR.out i u hu
    have hlt := World.block_lt_of_cell? w _ h3
    rw [block_of_add] at hlt
    refine ⟨ad, h1, by have := hw1.size; omega, ?_⟩
    rw [← h3]
    exact World.cell?_of_block (w := w) (w' := w1) (by rw [block_of_add]; exact hw1.grown.block _ hlt (by simpa using hpr ad h1)))
  have H1 := Lib.hid (show ∀ u ∈ bytesV s, u.oneCell' = true from fun u hu => by
    simp [bytesV, byteV] at hu
    obtain ⟨x, _, rfl⟩ := hu
    rfl)
  clear hw1 hb1 ho1
  go_wp2_with (first
    | (refine wpList_append_rd (cx := cx) (m := m) sl_u8 rfl rfl HO1.out rfl rfl (by rw [bytesV_length]; omega) HR1.out H1.out (by unfold maxLen; omega) (by omega) hBw ?_; intro A2 c2 w2 ho2 hg2 hn2; have hb2 := Lib.hid (HB1.out.grown hg2 (by intro h; exact hne h.symm)))
    | (refine wpList_put_cell (x := .tmp 16) (i := 1) hb2.out rfl rfl rfl rfl (by kernel_rfl) (by simp) rfl ?_; intro w3 hb3 hw3))
  go_ret2
  exact ⟨rfl, isB_put hB HK.out.lt (.inr rfl) HW.out HO1.out hg2 HT hb2.out (by rw [bytesV_append]; exact ho2) (by simp; omega) hb3 hw3⟩
theorem bld_len {T : TypeId} (B p : Nat) (l : List UInt8) (w : World) (hb : IsB w B T p l) :
    Calls Try.prog 16 #[.pointer (some ⟨p, 0, none⟩)] w fun e w' => e = .returned (.int .i64 l.length) ∧ w' = w := by
  obtain ⟨hB, self, A, c, hs, hblk, hown⟩ := hb
  have c1 : w.cell? ⟨p, 1, none⟩ = some (.slice A l.length c) := hblk.cell 1
  clear hblk hown
  go_enter Try.func16, Try.ntmps16
  go_wp2_with fail
  go_ret
  exact ⟨rfl, rfl⟩
set_option maxHeartbeats 1000000 in
set_option maxRecDepth 100000 in
theorem bld_string {T : TypeId} (B p : Nat) (l : List UInt8) (w : World) (hb : IsB w B T p l) (h0 : l ≠ []) :
    Calls Try.prog 17 #[.pointer (some ⟨p, 0, none⟩)] w fun e w' => e = .returned (.string ⟨l.toArray⟩) ∧ Below B w w' := by
  obtain ⟨hB, self, A, c, hs, hblk, hown⟩ := hb
  have hl0 : l.length ≠ 0 := by simpa using h0
  obtain ⟨g, cur, fz, rfl, hbg, hg, hnc, hcm, hcs, htake⟩ : ∃ g cur fz, A = some ⟨g, 0, none⟩ ∧ B ≤ g ∧ w.heap[g]? = some (.cells cur 5 fz) ∧ l.length ≤ c ∧ c ≤ maxLen ∧ cur.size = c * 1 ∧ cur.toList.take (l.length * 1) = bytesV l := by
    rcases hown.2 with ⟨_, hz⟩ | ⟨g, cap, cur, fz, hv, h1, h2, h3, h4, h5, h6, _⟩
    · exact absurd hz hl0
    · injection hv with e1 e2 e3
      subst e3
      exact ⟨g, cur, fz, e1, h1, h2, h3, h4, h5, h6⟩
  have c1 : w.drew.cell? ⟨p, 1, none⟩ = some (.slice (some ⟨g, 0, none⟩) l.length c) := hblk.cell 1
  have hSD : (Builtin.unsafeSliceData_ #[42] 69 #[.slice (some ⟨g, 0, none⟩) l.length c]).run Try.prog w.drew = .ok (.pointer (some ⟨g, 0, none⟩)) w.drew :=
    Lib.run_unsafeSliceData_row _ _ _ _ _ _ (by omega)
  have hUS : (Builtin.unsafeString_ #[69, 3] 9 #[.pointer (some ⟨g, 0, none⟩), .int .i64 l.length]).run Try.prog w.drew = .ok (.string ⟨l.toArray⟩) (w.drew.freeze ⟨g, 0, none⟩ l.length) := by
    refine Lib.run_unsafeString_row w.drew 69 3 9 5 Try.underlying69 (by kernel_rfl) g cur.size (by have hg' : w.drew.heap[g]? = some (.cells cur 5 fz) := hg; simp [World.shape?, hg']) l h0 (by omega) (by unfold maxLen at hcm; omega) ?_
    intro j x hx
    exact hown.cells (g := g) rfl j (.int .u8 x.toNat) (by simp [bytesV, byteV, hx])
  have hbel : Below B w (w.drew.freeze ⟨g, 0, none⟩ l.length) := Lib.below_freeze (Below.drew (Below.refl B w)) (p := ⟨g, 0, none⟩) hbg _
  have mixed : Try.prog.follows .mixedOrders = true := by kernel_rfl
  clear hg hown hblk
  go_enter Try.func17, Try.ntmps17
  go_wp2
  go_region_o
  all_goals (go_wp2; go_ret; exact ⟨rfl, hbel⟩)
end Go.Proofs.Ytcfbnjaelniahaa
