/-
  A law of my own: 'append(b, make([]byte, n)...)'.
-/
import Derived.Test.YtfpbcihpjcocmaaDoorOwn
namespace Go.Proofs.YtfpbcihpjcocmaaDoor
set_option linter.unusedSimpArgs false
set_option linter.unusedVariables false
open Go.RowKit
theorem zeroCells_u8 (m : Nat) : (Builtin.zeroCells (Value.cells (.int .u8 0)) m).toList = List.replicate m (.int .u8 0) := by
  apply List.ext_getElem
  · simp [Builtin.zeroCells, Value.cells]
  · intro i h1 h2
    simp [Builtin.zeroCells, Value.cells]
    rw [Nat.mod_one]
    rfl
section
variable {P : Program}
theorem run_append_zeros {w : World} {t u ty e : TypeId} (T : SlT P t e 1 1) (hz0 : ∃ i, P.info? e = some i ∧ i.zero = some (.int .u8 0)) (hu : P.underlying u = some (.int .i64))
    {base n m : Nat} {v : Value} {xs : List Value} (hown : OwnX w base e 1 v n xs) (hn : 0 < n) (hm : 0 < m) (hbytes : n + m ≤ 140737488355328) (hbase : base ≤ w.heap.size) :
    ∃ A c w', (Builtin.append_ #[t, u] ty #[v, .int .i64 (m : Int)]).run P w = .ok (.slice A (n + m) c) w' ∧ App w base e 1 v (n + m) (xs ++ List.replicate m (.int .u8 0)) (.slice A (n + m) c) w' := by
  obtain ⟨i, z, hi, hz, hsz, hby, hzs⟩ := T.info
  obtain ⟨i', hi', hz'⟩ := hz0
  have : i = i' := by rw [hi] at hi'; exact Option.some.inj hi'
  subst this
  have hl : (List.replicate m (Value.int .u8 0)).length = m * 1 := by simp
  have hwr : IntKind.i64.wrap (m : Int) = (m : Int) := by rw [IntKind.wrap_i64]; omega
  have hneg : ¬ ((m : Int) < 0) := by omega
  have hbig : ¬ (281474976710656 < (m : Int)) := by omega
  have hm0 : ¬ m = 0 := by omega
  have hmax : max (m : Int) 0 = (m : Int) := by omega
  rcases hown.2 with ⟨rfl, rfl⟩ | ⟨g, cap, cur, fz, rfl, hbg, hg, hnc, hcm, hcs, htake, hfz⟩
  · omega
  · by_cases hroom : n + m ≤ cap
    · obtain rfl : fz = (0, 0) := by
        rcases hfz with h | h
        · exact h
        · omega
      have hadd : (⟨g, 0, none⟩ : Addr).add n = ⟨g, n, none⟩ := by unfold Addr.add; split <;> simp_all
      have hst := run_storeCells_at P g n e (List.replicate m (.int .u8 0)) 0 cur w hg (by simp; omega) (by intro u hu; rw [List.mem_replicate] at hu; rw [hu.2]; rfl)
      simp only [Nat.add_zero, List.length_replicate] at hst
      have hr : (Builtin.append_ #[t, u] ty #[.slice (some ⟨g, 0, none⟩) n cap, .int .i64 (m : Int)]).run P w = .ok (.slice (some ⟨g, 0, none⟩) (n + m) cap) (w.setRow g (cur.toList.take n ++ List.replicate m (Value.int .u8 0) ++ cur.toList.drop (n + m)).toArray) := by
        simp [Builtin.append_, run_underlying T.und, run_underlying hu, sizeOf, typeInfo, zeroValue, hi, hz', hsz, hby, asInt, asIntOf, hwr, hneg, hbig, hm0, hmax, hadd, Builtin.lenOf, hroom, Addr.add_lit, zeroCells_u8, hst]
      refine ⟨_, _, _, hr, .of ⟨by rw [List.length_append, hl, hown.1, Nat.add_mul], .inr ⟨g, cap, _, rfl, hbg, setRow_heap w g cur _ e _ hg, hroom, hcm, ?_, ?_⟩⟩, ⟨rfl, rfl, rfl, by simp, fun k _ hk => setRow_other w g k _ (fun e => hk (by simp [Value.ownBlock, e]))⟩, .inl rfl⟩
      · simp only [List.size_toArray, List.length_append, List.length_take, List.length_drop, Array.length_toList, List.length_replicate]
        omega
      · have ht' : cur.toList.take n = xs := by simpa using htake
        have hxl : xs.length = n := by simpa using hown.1
        rw [ht', show (n + m) * 1 = (xs ++ List.replicate m (Value.int .u8 0)).length by rw [List.length_append, List.length_replicate]; omega]
        exact List.take_left
    · have holds := hown.cells (g := g) rfl
      have h63' : ¬ (9223372036854775807 < ((n : Int) + (m : Int))) := by omega
      have h48' : ¬ (281474976710656 < Builtin.nextslicecap (n + m) cap) := by have := growslice_fits (bytes := 1) (need := n + m) (old := cap) (by omega) (by omega); omega
      have hfo := run_firstCells_some (P := P) w.drew 1 n ⟨g, 0, none⟩ n cap xs hown.1 (by simpa using holds)
      have hr : (Builtin.append_ #[t, u] ty #[.slice (some ⟨g, 0, none⟩) n cap, .int .i64 (m : Int)]).run P w = .ok (.slice (some ⟨w.heap.size, 0, none⟩) (n + m) (grownCap w (n + m) cap e))
          (w.drew.alloc (.cells (xs.toArray ++ (List.replicate m (Value.int .u8 0)).toArray ++ Builtin.zeroCells (Value.cells (.int .u8 0)) (grownCap w (n + m) cap e - (n + m))) e)) := by
        have hzc : Builtin.zeroCells (Value.cells (.int .u8 0)) m = (List.replicate m (Value.int .u8 0)).toArray := by apply Array.ext'; rw [zeroCells_u8]
        simp [Builtin.append_, run_underlying T.und, run_underlying hu, sizeOf, typeInfo, zeroValue, hi, hz', hsz, hby, asInt, asIntOf, hwr, hneg, hbig, hm0, hmax, hroom, h63', h48', Question.forced, hfo, newRow, grownCap, hzc]
      exact ⟨_, _, _, hr, .of (own_grown hown.1 hl rfl (by unfold maxLen; omega) hbase), grown_draw_alloc _ _ _, .inr fun k hk => by simp [Value.ownBlock] at hk; omega⟩
theorem wpList_append_zeros {w : World} {ops : Array Oper} {rest : List Oper} {o : Oper} {a : Act} {Q : Exit → Act → World → Prop} {sl x : Operand} {t u e : TypeId} (T : SlT P t e 1 1)
    (hz : ∃ i, P.info? e = some i ∧ i.zero = some (.int .u8 0)) (hu : P.underlying u = some (.int .i64))
    (hgd : o.guard = none) (ho : o.op = .call { callee := .builtin .append, args := #[sl, x], argTypes := #[t, u] })
    {base n m : Nat} {v : Value} {xs : List Value} (hown : OwnX w base e 1 v n xs) (hs : a.eval sl = v) (hx : a.eval x = .int .i64 (m : Int))
    (hn : 0 < n) (hm : 0 < m) (hbytes : n + m ≤ 140737488355328) (hbase : base ≤ w.heap.size)
    (h : ∀ A c w', OwnX w' base e 1 (.slice A (n + m) c) (n + m) (xs ++ List.replicate m (.int .u8 0)) → w.grownBy w' v.ownBlock → Next w v (.slice A (n + m) c) → wpList P ops Q rest (a.put o.dst (.slice A (n + m) c)) w') :
    wpList P ops Q (o :: rest) a w := by
  obtain ⟨A, c, w', hr, h2, h3, h4⟩ := run_append_zeros (ty := o.type) T hz hu hown hn hm hbytes hbase
  refine wpList_of_append (R := fun v' w1 => v' = .slice A (n + m) c ∧ w1 = w') hgd ho hs hx ⟨_, _, hr, rfl, rfl⟩ ?_
  rintro v' w1 ⟨rfl, rfl⟩
  exact h _ _ _ h2 h3 h4
end
end Go.Proofs.YtfpbcihpjcocmaaDoor
