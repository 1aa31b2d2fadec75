/-
  Whether two elements have the same limbs; the field's Odd.
-/
import Derived.Test.YtbeokfpbhemcfaaFi
import Derived.Stop.BytesEq
namespace Go.Proofs.Ytbeokfpbhemcfaa
set_option linter.unusedSimpArgs false
set_option linter.unusedVariables false
open Go.RowKit

theorem all_range_nat : ∀ (xs ys : List Nat), xs.length = ys.length → ((List.range xs.length).all fun i => xs.getD i 0 == ys.getD i 0) = (xs == ys)
  | [], [], _ => rfl
  | x :: xs, y :: ys, h => by
    have ih := all_range_nat xs ys (by simpa using h)
    rw [List.length_cons, List.range_succ_eq_map, List.all_cons, List.all_map]
    simp only [List.getD_cons_zero, Function.comp_def, List.getD_cons_succ, ih]
    simp [List.cons_beq_cons]
  | [], _ :: _, h => by simp at h
  | _ :: _, [], h => by simp at h
section
variable {P : Program} (w : World)
def wcell (x : Nat) : Value := .int .u64 (x : Int)
theorem run_equalIn_words (d : Nat) (t e : TypeId) (n : Nat) (ht : P.underlying t = some (.array n e)) (he : P.underlying e = some (.int .u64)) (hsz : ∀ w, (sizeOf e).run P w = .ok 1 w)
    (xs ys : List Nat) (hx : xs.length = n) (hy : ys.length = n) :
    (Op.equalIn (d + 2) t (.agg (xs.map wcell).toArray) (.agg (ys.map wcell).toArray)).run P w = .ok (xs == ys) w := by
  rw [← all_range_nat xs ys (hx.trans hy.symm), hx, List.range_eq_range', Op.equalIn]
  simp only [Sem.run_bind, run_underlying ht, Result.andThen_ok, hsz, Std.Legacy.Range.forIn_eq_forIn_range', Std.Legacy.Range.size, Nat.sub_zero, Nat.add_sub_cancel, Nat.div_one]
  have hl : ∀ i ∈ List.range' 0 n 1, i < n := fun i hi => by simpa using (List.mem_range'_1.1 hi).2
  generalize List.range' 0 n 1 = l at hl ⊢
  induction l with
  | nil => simp
  | cons i l ih =>
    have hi : i < n := hl i (by simp)
    have px : (part e (xs.map wcell).toArray (i * 1)).run P w = .ok (wcell (xs.getD i 0)) w := by
      simp [part, isAgg, run_underlying he, List.getD, List.getElem?_eq_getElem (show i < xs.length by omega)]
    have py : (part e (ys.map wcell).toArray (i * 1)).run P w = .ok (wcell (ys.getD i 0)) w := by
      simp [part, isAgg, run_underlying he, List.getD, List.getElem?_eq_getElem (show i < ys.length by omega)]
    have pe : (Op.equalIn (d + 1) e (wcell (xs.getD i 0)) (wcell (ys.getD i 0))).run P w = .ok (xs.getD i 0 == ys.getD i 0) w := by
      rw [wcell, wcell, run_equalIn_int w d e .u64 .u64 _ _ he]
      congr 1
      rw [Bool.eq_iff_iff]
      simp
      omega
    simp only [List.forIn_cons, Sem.run_bind, px, py, pe, Result.andThen_ok, List.all_cons]
    cases hb : (xs.getD i 0 == ys.getD i 0)
    · simp
    · simp only [Bool.not_true, Bool.false_eq_true, if_false, Sem.run_pure, Result.andThen_ok, Bool.true_and]
      exact ih fun j hj => hl j (by simp [hj])
end
theorem eql_elem (x y : E5) (w : World) : (binOp .eql 26 (.agg (eV x)) (.agg (eV y))).run Try.prog w = .ok (.bool (limbs x == limbs y)) w := by
  have hp : ∀ z : E5, ∀ u : World, (part 24 (eV z) 0).run Try.prog u = .ok (.agg (eV z)) u := fun z u => by kernel_rfl
  have hf : Try.prog.fieldsOf 26 = #[{ name := "l", type := 24, offset := 0, embedded := false, tag := "", pkgPath := "brevet/field", byteOffset := 0 }] := by kernel_rfl
  have he : (Op.equalIn (9997 + 2) 24 (.agg (eV x)) (.agg (eV y))).run Try.prog w = .ok (limbs x == limbs y) w :=
    run_equalIn_words w 9997 24 23 5 Try.underlying24 Try.underlying23 (fun u => by kernel_rfl) (limbs x) (limbs y) rfl rfl
  rw [run_eql_struct, run_equalIn_struct w 9999 _ _ _ (by kernel_rfl) (by kernel_rfl), hf]
  simp only [Op.eqFields, Sem.run_bind, hp, Result.andThen_ok, he]
  rw [if_pos (by decide)]
  simp only [Sem.run_bind, hp, Result.andThen_ok, he]
  cases (limbs x == limbs y) <;> rfl
end Go.Proofs.Ytbeokfpbhemcfaa
