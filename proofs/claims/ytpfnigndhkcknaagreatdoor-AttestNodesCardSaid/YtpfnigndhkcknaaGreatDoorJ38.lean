/-
  Joined texts: Sl2.
-/
import Derived.Test.YtpfnigndhkcknaaGreatDoorJ37
/-
  Laws: a slice of a slice, by an equation; fields of a key's row; a row without one of its elements.
-/
namespace Go.Proofs.YtpfnigndhkcknaaGreatDoor
set_option linter.unusedSimpArgs false
set_option linter.unusedVariables false
open Go.RowKit
section
variable {P : Program}
theorem wpList_slice_k {w : World} {ops : Array Oper} {rest : List Oper} {o : Oper} {a : Act} {Q : Exit → Act → World → Prop} {t : TypeId} {x : Operand} {lo hi mx : Option Operand} {r : Value}
    (hgd : o.guard = none) (ho : o.op = .slice t x lo hi mx) (hr : (Instr.sliceAt t (a.eval x) (lo.map a.eval) (hi.map a.eval) (mx.map a.eval)).run P w = .ok r w) (h : wpList P ops Q rest (a.put o.dst r) w) : wpList P ops Q (o :: rest) a w := by
  refine wpList_plain hgd fun K hK => ?_
  unfold Oper.wp execOp
  simp only [ho, Sem.run_bind, Sem.run_pure, Result.andThen_ok, hr]
  exact hK _ _ h
def cutM (m : Nat) (A : Option Addr) (c k : Nat) : Option Addr := if c = k then A else A.map (·.add (k * m))
theorem add_zero_r (a : Addr) : a.add 0 = a := by unfold Addr.add; simp
theorem add_add_r (a : Addr) (i j : Nat) : (a.add i).add j = a.add (i + j) := by
  unfold Addr.add
  by_cases h1 : i = 0 <;> by_cases h2 : j = 0 <;> simp [h1, h2, Nat.add_assoc]
theorem slice_h_r {t : TypeId} {m : Nat} (hu : P.underlying t = some (.slice (P.elem t))) (hs : ∀ w, (sizeOf (P.elem t)).run P w = .ok m w) (A : Option Addr) (L c k : Nat) (hk : k ≤ c) (w : World) : (Instr.sliceAt t (.slice A L c) none (some (.int .i64 (k : Int))) none).run P w = .ok (.slice A k c) w := by
  have h := run_slice_h (P := P) w t A L c hu .i64 (k : Int) (by omega) (by omega)
  rw [run_sliceAt_slice w _ _ _ _ _ hu, h, hs]
  simp only [Result.andThen_ok, sliced, Int.toNat_natCast, Nat.zero_mul, Nat.sub_zero]
  by_cases h0 : c = 0
  · rw [if_pos h0]
  · rw [if_neg h0]
    cases A with
    | none => rfl
    | some a => rw [show Option.map (fun x : Addr => x.add 0) (some a) = some (a.add 0) from rfl, add_zero_r]
theorem slice_l_r {t : TypeId} {m : Nat} (hu : P.underlying t = some (.slice (P.elem t))) (hs : ∀ w, (sizeOf (P.elem t)).run P w = .ok m w) (A : Option Addr) (L c k : Nat) (hk : k ≤ L) (w : World) : (Instr.sliceAt t (.slice A L c) (some (.int .i64 (k : Int))) none none).run P w = .ok (.slice (cutM m A c k) (L - k) (c - k)) w := by
  have h := run_slice_l (P := P) w t A L c hu .i64 (k : Int) (by omega) (by omega)
  rw [run_sliceAt_slice w _ _ _ _ _ hu, h, hs]
  simp only [Result.andThen_ok, sliced, Int.toNat_natCast, cutM]
end
section
variable {α : Type} {f : α → Array Value} {m : Nat} {w : World} {B : Nat} {A : Option Addr} {c : Nat} {l : List α}
theorem rd_take_r (hf : ∀ x, (f x).size = m) (h : Rd w B A (rowsV f l)) (k : Nat) : Rd w B A (rowsV f (l.take k)) := fun j v hv => by
  rw [rowsV_take hf l k] at hv
  rw [List.getElem?_take] at hv
  split at hv
  · exact h j v hv
  · simp at hv
theorem rd_drop_r (hf : ∀ x, (f x).size = m) (h : Rd w B A (rowsV f l)) (hc : l.length ≤ c) {k : Nat} (hk : k ≤ l.length) : Rd w B (cutM m A c k) (rowsV f (l.drop k)) := fun j v hv => by
  have hkl : k ≠ c := fun he => by
    have : l.drop k = [] := List.drop_of_length_le (by omega)
    rw [this] at hv
    simp [rowsV] at hv
  rw [rowsV_drop hf l k, List.getElem?_drop] at hv
  obtain ⟨ad, h1, h2, h3⟩ := h _ v hv
  refine ⟨ad.add (k * m), ?_, by rw [block_of_add]; exact h2, by rw [add_add_r]; exact h3⟩
  rw [cutM, if_neg (fun he => hkl he.symm), h1]
  rfl
end
theorem und_keys : Tryz.prog.underlying 30 = some (.slice (Tryz.prog.elem 30)) := by kernel_rfl
theorem size_keys (w : World) : (sizeOf (Tryz.prog.elem 30)).run Tryz.prog w = .ok 4 w := by kernel_rfl
theorem und_ents : Tryz.prog.underlying 26 = some (.slice (Tryz.prog.elem 26)) := by kernel_rfl
theorem size_ents (w : World) : (sizeOf (Tryz.prog.elem 26)).run Tryz.prog w = .ok 5 w := by kernel_rfl
def Zok (n : Nat) (z : Int) : Prop := z = -1 ∨ ∃ j : Nat, j < n ∧ z = (j : Int)
theorem Zok.nat {n : Nat} {z : Int} (h : Zok n z) (h0 : ¬ z < 0) : ∃ j : Nat, j < n ∧ z = (j : Int) := by
  rcases h with h | h
  · omega
  · exact h
structure KW (u : World) (base g K : Nat) (d : LedD) (lk s : Sl SkeyD) : Prop where
  lw : LW u base g K { d with keys := s }
  hA : s.A = lk.A
  hc : s.c = lk.c
  hn : s.l.length = lk.l.length
section
variable {u u' : World} {base g K : Nat} {d : LedD} {lk s : Sl SkeyD}
theorem KW.below (h : KW u base g K d lk s) (hb : Below u.heap.size u u') : KW u' base g K d lk s := ⟨h.lw.below hb, h.hA, h.hc, h.hn⟩
theorem KW.cell (h : KW u base g K d lk s) : u.cell? ⟨g, 4, none⟩ = some (.slice lk.A lk.l.length lk.c) := by
  have := h.lw.box.cell 4
  rw [← h.hA, ← h.hc, ← h.hn]
  exact this
theorem KW.put (h : KW u base g K d lk s) {i : Nat} (hi : i < lk.l.length) {j : Nat} (hj : j < 4) (v : Value) (f : SkeyD → SkeyD) (hf : ∀ x, skeyCells (f x) = (skeyCells x).setIfInBounds j v) :
    ∃ ad cur, lk.A = some ad ∧ base ≤ (ad.add (i * 4)).block ∧ Blk u (ad.add (i * 4)).block 42 cur ∧ (ad.add (i * 4)).off + j < cur.size ∧
      ∀ u', Blk u' (ad.add (i * 4)).block 42 (cur.setIfInBounds ((ad.add (i * 4)).off + j) v) → Wrote (ad.add (i * 4)).block u u' → ∃ s', KW u' base g K d lk s' := by
  have hi' : i < s.l.length := by rw [h.hn]; exact hi
  obtain ⟨ad, cur, hA, hbase, hblt, hblk, hoff, hput⟩ := ownR_ad_r (f := skeyCells) (m := 4) (fun _ => rfl) h.lw.ll.keys.own hi' hj
  refine ⟨ad, cur, by rw [← h.hA]; exact hA, hbase, hblk, hoff, fun u' hb hw => ⟨⟨s.A, s.c, s.l.set i (f s.l[i])⟩, ⟨?_, h.lw.hg, ?_⟩, h.hA, h.hc, by show (s.l.set i _).length = _; rw [List.length_set]; exact h.hn⟩⟩
  · have h1 := h.lw.box.keep (KeepBut.of_wrote hw hblk) (by decide)
    unfold ledCells at h1 ⊢
    have e : (⟨s.A, s.c, s.l.set i (f s.l[i])⟩ : Sl SkeyD).v = s.v := by
      show Value.slice s.A (s.l.set i _).length s.c = _
      rw [List.length_set]
      rfl
    dsimp only at h1 ⊢
    rw [e]
    exact h1
  · refine LL.keepK (d := { d with keys := s }) h.lw.ll (KeepBut.of_wrote hw hblk) ⟨?_, ?_⟩
    · have h2 := hput v (f s.l[i]) u' (hf _) hb
      show OwnR u' base _ 4 s.A s.c (s.l.set i _).length _
      rw [List.length_set]
      exact h2
    · show (s.l.set i _).length ≤ K
      rw [List.length_set]
      exact h.lw.ll.keys.len
end
theorem LW.key_add {u u' v : World} {base g K : Nat} {d : LedD} {k : SkeyD} {A' : Option Addr} {c' : Nat} (h : LW u base g K d) (ho : OwnR u' base 42 4 A' c' (d.keys.l.length + 1) (rowsV skeyCells d.keys.l ++ (skeyCells k).toList))
    (hg : u.grownBy u' (Value.slice d.keys.A d.keys.l.length d.keys.c).ownBlock) (hw : Wrote g u' v) (hb : Blk v g 33 ((ledCells d).setIfInBounds 4 (.slice A' (d.keys.l.length + 1) c'))) : LW v base g (K + 1) { d with keys := ⟨A', c', d.keys.l ++ [k]⟩ } := by
  have hk := keepBut_grown h.ll.keys.own hg
  have hl : LL u' base (K + 1) { d with keys := ⟨A', c', d.keys.l ++ [k]⟩ } := (h.ll.more (Nat.le_succ K)).keepK hk ⟨by
    rw [rowsV_append, rowsV_one, List.length_append]
    exact ho, by have := h.ll.keys.len; show (d.keys.l ++ [k]).length ≤ K + 1; rw [List.length_append, List.length_singleton]; omega⟩
  refine LW.put (h.box.keep hk (by decide)) h.hg hl hw ?_
  unfold ledCells
  have e : (⟨A', c', d.keys.l ++ [k]⟩ : Sl SkeyD).v = .slice A' (d.keys.l.length + 1) c' := by
    show Value.slice A' (d.keys.l ++ [k]).length c' = _
    rw [List.length_append]
    rfl
  rw [e]
  exact hb
theorem LW.keys_put {u u' v : World} {base g K : Nat} {d : LedD} {s : Sl SkeyD} (h : LW u base g K d) (hk : KeepBut 42 u u') (hs : s.Own u' base 42 4 skeyCells K) (hw : Wrote g u' v) (hb : Blk v g 33 ((ledCells d).setIfInBounds 4 s.v)) : LW v base g K { d with keys := s } :=
  LW.put (h.box.keep hk (by decide)) h.hg (h.ll.keepK hk hs) hw hb
end Go.Proofs.YtpfnigndhkcknaaGreatDoor
