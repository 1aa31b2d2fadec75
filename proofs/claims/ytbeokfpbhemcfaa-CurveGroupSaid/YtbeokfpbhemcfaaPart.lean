/-
  A struct or an array that is a part of a block: loaded whole; a cell stored.
-/
import Derived.Test.YtbeokfpbhemcfaaBox
import Derived.Laws.CopyRow
import Derived.Laws.Unary
import Derived.Laws.Bits64
import Derived.Laws.BitsLemmas
namespace Go.Proofs.Ytbeokfpbhemcfaa
set_option linter.unusedSimpArgs false
set_option linter.unusedVariables false
open Go.RowKit
theorem blk_setCell_at {w : World} {g i : Nat} {t : TypeId} {cs : Array Value} (h : Blk w g t cs) (u : Value) : Blk (w.setCell ⟨g, i, none⟩ u) g t (cs.setIfInBounds i u) := by
  unfold Blk at *
  simp only [World.setCell, Array.getElem?_modify, if_pos, h]
  rfl
theorem wrote_setCell_at (w : World) (g i : Nat) (u : Value) : Wrote g w (w.setCell ⟨g, i, none⟩ u) :=
  ⟨⟨rfl, rfl, rfl, by simp [World.setCell], fun k _ hk => Below.heap_setCell _ _ _ _ (by simpa using hk)⟩, by simp [World.setCell]⟩
theorem wrote_trans {g : Nat} {w w1 w2 : World} (h : Wrote g w w1) (h2 : Wrote g w1 w2) : Wrote g w w2 :=
  ⟨⟨h2.grown.os.trans h.grown.os, h2.grown.tape.trans h.grown.tape, h2.grown.output.trans h.grown.output, by rw [h2.size, h.size]; exact Nat.le_refl _, fun k hk hne => (h2.grown.block k (by rw [h.size]; exact hk) hne).trans (h.grown.block k hk hne)⟩, h2.size.trans h.size⟩
theorem rd_drop {w : World} {B : Nat} {ad : Addr} {xs : List Value} (h : Rd w B (some ad) xs) (n : Nat) : Rd w B (some (ad.add n)) (xs.drop n) := fun i u hu => by
  rw [List.getElem?_drop] at hu
  obtain ⟨ad', e, hb, hc⟩ := h _ u hu
  injection e with e
  subst e
  refine ⟨_, rfl, by rw [block_of_add]; exact hb, ?_⟩
  rw [show (ad.add n).add i = ad.add (n + i) from ?_]
  · exact hc
  · unfold Addr.add
    by_cases h1 : n = 0 <;> by_cases h2 : i = 0 <;> simp [h1, h2, Nat.add_assoc]
theorem rd_take {w : World} {B : Nat} {A : Option Addr} {xs : List Value} (h : Rd w B A xs) (n : Nat) : Rd w B A (xs.take n) := fun i u hu => by
  rw [List.getElem?_take] at hu
  split at hu
  · exact h i u hu
  · simp at hu
theorem blk_src {w : World} {g : Nat} {t : TypeId} {cs : Array Value} (h : Blk w g t cs) (n : Nat) : ∀ j v, (cs.toList.take n)[j]? = some v → w.cell? ((⟨g, 0, none⟩ : Addr).add j) = some v := fun j v hv => by
  have hadd : (⟨g, 0, none⟩ : Addr).add j = ⟨g, j, none⟩ := by unfold Addr.add; split <;> simp_all
  rw [hadd, h.cell]
  rw [List.getElem?_take] at hv
  split at hv
  · simpa using hv
  · cases hv
section
variable {P : Program}
theorem run_loadVar_part {w : World} {g o n : Nat} {t ty : TypeId} {cs r : Array Value} {d : TypeDesc} (hg : Blk w g t cs) (ho : o + n ≤ cs.size) (hr : ((cs.toList.drop o).take n).toArray = r)
    (hu : P.underlying ty = some d) (hd : (match d with | .struct _ | .array _ _ => true | _ => false) = true) (hi : (P.info? ty).map (·.size) = some n) :
    (loadVar ty ⟨g, o, none⟩).run P w = .ok (.agg r) w := by
  subst hr
  have hlen : ((cs.toList.drop o).take n).length = n := by simp; omega
  have hl : (loadCells ⟨g, o, none⟩ ((cs.toList.drop o).take n).length).run P w = .ok ((cs.toList.drop o).take n).toArray w :=
    run_loadCells_list (P := P) w ⟨g, o, none⟩ ((cs.toList.drop o).take n) (fun j v hv => by
      have hadd : (⟨g, o, none⟩ : Addr).add j = ⟨g, o + j, none⟩ := by unfold Addr.add; split <;> simp_all
      rw [hadd, hg.cell]
      rw [List.getElem?_take] at hv
      split at hv
      · rw [List.getElem?_drop] at hv
        simpa using hv
      · cases hv)
  rw [hlen] at hl
  cases hq : P.info? ty with
  | none => simp [hq] at hi
  | some i =>
    have hs : i.size = n := by simpa [hq] using hi
    have hagg : (isAgg ty).run P w = .ok true w := by
      unfold isAgg
      rw [Sem.run_bind, run_underlying hu w]
      cases d <;> simp_all
    simp [loadVar, Sem.run_bind, hagg, sizeOf, typeInfo, hq, hs, hl]
theorem wpList_get_part {w : World} {ops : Array Oper} {rest : List Oper} {o : Oper} {a : Act} {Q : Exit → Act → World → Prop} {ty : TypeId} {x : Operand} {g k n : Nat} {cs r : Array Value} {t : TypeId} {d : TypeDesc}
    (hg : Blk w g t cs) (hk : k + n ≤ cs.size) (hr : ((cs.toList.drop k).take n).toArray = r) (hgd : o.guard = none) (ho : o.op = .load ty x) (hx : a.eval x = .pointer (some ⟨g, k, none⟩))
    (hu : P.underlying ty = some d) (hd : (match d with | .struct _ | .array _ _ => true | _ => false) = true) (hi : (P.info? ty).map (·.size) = some n)
    (h : wpList P ops Q rest (a.put o.dst (.agg r)) w) : wpList P ops Q (o :: rest) a w := by
  refine wpList_plain hgd fun K hK => ?_
  have hrun := run_loadVar_part (P := P) hg hk hr hu hd hi
  unfold Oper.wp execOp
  simp only [ho, hx, Instr.loadAt, Instr.sureAddr, Sem.run_bind, Sem.run_pure, Result.andThen_ok, hrun]
  exact hK _ _ h
/-- 'copy' into a block that is known whole. -/
theorem wpList_copy_blk {w : World} {ops : Array Oper} {rest : List Oper} {o : Oper} {a : Act} {Q : Exit → Act → World → Prop} {d s : Operand} {dT sT elem t : TypeId} {g off dLen dCap sLen sCap : Nat} {ad : Addr} {cur new : Array Value} (cs : List Value)
    (hg : Blk w g t cur) (hgd : o.guard = none) (ho : o.op = .call { callee := .builtin .copy, args := #[d, s], argTypes := #[dT, sT] }) (hu : P.underlying dT = some (.slice elem)) (hsz : (P.info? elem).map (·.size) = some 1)
    (hd : a.eval d = .slice (some ⟨g, off, none⟩) dLen dCap) (hs : a.eval s = .slice (some ad) sLen sCap) (hn : cs.length = Nat.min sLen dLen)
    (hsrc : ∀ j v, cs[j]? = some v → w.cell? (ad.add j) = some v) (hfit : off + cs.length ≤ cur.size) (h1 : ∀ v ∈ cs, v.oneCell' = true)
    (hnew : (cur.toList.take off ++ cs ++ cur.toList.drop (off + cs.length)).toArray = new)
    (h : ∀ w', Blk w' g t new → Wrote g w w' → wpList P ops Q rest (a.put o.dst (goInt cs.length)) w') : wpList P ops Q (o :: rest) a w := by
  refine wpList_plain hgd fun K hK => ?_
  have hr := run_copy_row (P := P) w dT sT o.type elem g off dLen dCap ad sLen sCap cur t cs hu hsz hg hn hsrc hfit h1
  rw [hnew] at hr
  unfold Oper.wp execOp
  simp only [ho, resolve, invoke, builtin, Sem.run_bind, Sem.run_pure, Result.andThen_ok, List.map_toArray, List.map_cons, List.map_nil, hs, hd, hr]
  exact hK _ _ (h _ (setRow_heap w g cur _ t (0, 0) hg) (wrote_setRow w g _))
/-- '^x' of a word. -/
theorem run_not32 {w : World} (e : Nat) (he : e < 4294967296) : (Op.unary .xor (.int .u32 (e : Int))).run P w = .ok (.int .u32 ((4294967295 - e : Nat) : Int)) w := by
  have h1 : BitVec.ofInt 32 (4294967295 : Int) = BitVec.allOnes 32 := by decide
  have h : bits .xor .u32 (4294967295 : Int) (e : Int) = ((4294967295 - e : Nat) : Int) := by
    show IntKind.u32.wrap ((BitVec.ofInt 32 (4294967295 : Int) ^^^ BitVec.ofInt 32 (e : Int)).toNat : Int) = _
    rw [h1, BitVec.allOnes_xor, BitVec.toNat_not, BitVec.ofInt_natCast, BitVec.toNat_ofNat, Nat.mod_eq_of_lt he, IntKind.wrap_u32]
    omega
  have hm : IntKind.u32.max = 4294967295 := by decide
  rw [unary_xor]
  simp only [IntKind.signed, hm, Bool.false_eq_true, if_false]
  rw [← h]
  rfl
theorem run_not64 {w : World} (e : Nat) (he : e < 18446744073709551616) : (Op.unary .xor (.int .u64 (e : Int))).run P w = .ok (.int .u64 ((18446744073709551615 - e : Nat) : Int)) w := by
  have h1 : BitVec.ofInt 64 (18446744073709551615 : Int) = BitVec.allOnes 64 := by decide
  have h : bits .xor .u64 (18446744073709551615 : Int) (e : Int) = ((18446744073709551615 - e : Nat) : Int) := by
    show IntKind.u64.wrap ((BitVec.ofInt 64 (18446744073709551615 : Int) ^^^ BitVec.ofInt 64 (e : Int)).toNat : Int) = _
    rw [h1, BitVec.allOnes_xor, BitVec.toNat_not, BitVec.ofInt_natCast, BitVec.toNat_ofNat, Nat.mod_eq_of_lt he, IntKind.wrap_u64]
    omega
  have hm : IntKind.u64.max = 18446744073709551615 := by decide
  rw [unary_xor]
  simp only [IntKind.signed, hm, Bool.false_eq_true, if_false]
  rw [← h]
  rfl
theorem wpList_unary {w : World} {ops : Array Oper} {rest : List Oper} {o : Oper} {a : Act} {Q : Exit → Act → World → Prop} {u : UnOp} {ty : TypeId} {x : Operand} {v r : Value}
    (hr : (Op.unary u v).run P w = .ok r w) (hgd : o.guard = none) (ho : o.op = .unOp u ty x) (hx : a.eval x = v) (h : wpList P ops Q rest (a.put o.dst r) w) : wpList P ops Q (o :: rest) a w := by
  refine wpList_plain hgd fun K hK => ?_
  unfold Oper.wp execOp
  simp only [ho, hx, Sem.run_bind, Sem.run_pure, Result.andThen_ok, hr]
  exact hK _ _ h
/-- 'a[i]' of an array by value, elements of one cell. -/
theorem run_index_array {w : World} {t e : TypeId} {n : Nat} {cs : Array Value} {k : Nat} {v : Value} (h : P.underlying t = some (.array n e)) (hk : k < n) (hv : cs[k]? = some v) (hs : (P.info? e).map (·.size) = some 1)
    (hag : (match P.underlying e with | some (.struct _) | some (.array _ _) => true | _ => false) = false) (hu : ∃ d, P.underlying e = some d) : (Instr.index t (.agg cs) (.int .i64 (k : Int))).run P w = .ok v w := by
  obtain ⟨d, hd⟩ := hu
  have h0 : (0 : Int) ≤ (k : Int) ∧ (k : Int) < (n : Int) := by omega
  cases hq : P.info? e with
  | none => simp [hq] at hs
  | some j =>
    have hj : j.size = 1 := by simpa [hq] using hs
    have hagg : (isAgg e).run P w = .ok false w := by
      unfold isAgg
      rw [Sem.run_bind, run_underlying hd w]
      rw [hd] at hag
      cases d <;> simp_all
    simp [Instr.index, run_underlying h, asIntOf, h0, sizeOf, typeInfo, hq, hj, part, hagg, hv, go_sem]
    intro hle
    omega
end
end Go.Proofs.Ytbeokfpbhemcfaa
