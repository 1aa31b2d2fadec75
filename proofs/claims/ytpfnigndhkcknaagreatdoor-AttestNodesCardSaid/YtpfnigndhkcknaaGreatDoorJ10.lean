/-
  Joined texts: So3 Guard Det.
-/
import Derived.Laws.StructEq
import Derived.Great.Walk
import Derived.Test.YtpfnigndhkcknaaGreatDoorJ9
import Derived.Test.YtpfnigndhkcknaaGreatDoorJ5
import Derived.Test.YtpfnigndhkcknaaGreatDoorJ2
import Derived.Test.YtpfnigndhkcknaaGreatDoorJ3
/-
  Walk: the reference's SameOp, of an operation with a node and itself.
-/
namespace Go.Proofs.YtpfnigndhkcknaaGreatDoor
set_option linter.unusedSimpArgs false
set_option linter.unusedVariables false
open Go.RowKit
def opN (kind n : Int) (name : ByteArray) (k : NodeD) : Array Value := #[.int .i64 kind, .int .i64 n, .string name, .int .i64 0, .string ⟨#[]⟩, .string ⟨#[]⟩, .int .i64 0, .slice none 0 0, .string ⟨#[]⟩, .string ⟨#[]⟩, .int .i64 0, .bool false, .string k.name, .string k.key, .int .i64 k.exp, .int .i64 k.seq, .string k.doc, .string ⟨#[]⟩, .string ⟨#[]⟩, .int .i64 0, .int .i64 0, .string ⟨#[]⟩, .int .i64 0, .slice none 0 0]
theorem opN_one (kind n : Int) (name : ByteArray) (k : NodeD) : (opN kind n name k).all (·.oneCell') = true := by simp [opN, Value.oneCell']
theorem eql_node (k : NodeD) (w : World) : (binOp .eql 40 (.agg (nodeCells k)) (.agg (nodeCells k))).run Tryz.prog w = .ok (.bool true) w := by
  have p0 : ∀ u : World, (part 9 (nodeCells k) 0).run Tryz.prog u = .ok (.string k.name) u := fun u => by kernel_rfl
  have p1 : ∀ u : World, (part 9 (nodeCells k) 1).run Tryz.prog u = .ok (.string k.key) u := fun u => by kernel_rfl
  have p2 : ∀ u : World, (part 3 (nodeCells k) 2).run Tryz.prog u = .ok (.int .i64 k.exp) u := fun u => by kernel_rfl
  have p3 : ∀ u : World, (part 3 (nodeCells k) 3).run Tryz.prog u = .ok (.int .i64 k.seq) u := fun u => by kernel_rfl
  have p4 : ∀ u : World, (part 9 (nodeCells k) 4).run Tryz.prog u = .ok (.string k.doc) u := fun u => by kernel_rfl
  have hs := Tryz.underlying9
  have hi := Tryz.underlying3
  have hf : Tryz.prog.fieldsOf 40 = #[{ name := "Name", type := 9, offset := 0, embedded := false, tag := "", pkgPath := "", byteOffset := 0 }, { name := "Key", type := 9, offset := 1, embedded := false, tag := "", pkgPath := "", byteOffset := 16 }, { name := "Expires", type := 3, offset := 2, embedded := false, tag := "", pkgPath := "", byteOffset := 32 }, { name := "Seq", type := 3, offset := 3, embedded := false, tag := "", pkgPath := "", byteOffset := 40 }, { name := "Doc", type := 9, offset := 4, embedded := false, tag := "", pkgPath := "", byteOffset := 48 }] := by kernel_rfl
  rw [run_eql_struct, run_equalIn_struct w 9999 _ _ _ (by kernel_rfl) (by kernel_rfl), hf]
  have s1 : ∀ (d : Nat) (s : ByteArray), (Op.equalIn (d + 1) 9 (.string s) (.string s)).run Tryz.prog w = .ok true w := fun d s => by rw [run_equalIn_string w d _ s s hs]; simp
  have s2 : ∀ (d : Nat) (n : Int), (Op.equalIn (d + 1) 3 (.int .i64 n) (.int .i64 n)).run Tryz.prog w = .ok true w := fun d n => by rw [run_equalIn_int w d _ _ _ n n hi]; simp
  have e1 := fun s => s1 9998 s
  have e2 := fun n => s2 9998 n
  simp only [Nat.reduceAdd] at e1 e2
  simp [Op.eqFields, Sem.run_bind, p0, p1, p2, p3, p4, Result.andThen, e1, e2]
theorem led_zeroN (g : Nat) : Tryz.prog.built 33 [(0, .slice (some ⟨g, 0, none⟩) 1 1)] = some (ledV g) := by kernel_rfl
theorem wpList_build_ledN {ops : Array Oper} {rest : List Oper} {o : Oper} {a : Act} {w : World} {Q : Exit → Act → World → Prop} {cells : Array Value} (hg : o.guard = none) (parts : Array (Nat × Operand)) (ho : o.op = .build 33 parts)
    (hf : Tryz.prog.built 33 (parts.map fun (i, x) => (i, a.eval x)).toList = some cells) (h : wpList Tryz.prog ops Q rest (a.put o.dst (.agg cells)) w) : wpList Tryz.prog ops Q (o :: rest) a w := by
  refine wpList_build hg _ parts ho (by rw [hf]; rfl) ?_
  rw [hf]
  exact h
theorem opCells_bunN (kind n : Int) (name : ByteArray) (k : NodeD) : (((opN kind n name k).toList.drop 21).take 3).toArray = zBun := rfl
theorem bun_sizeN : (Tryz.prog.info? 45).map (·.size) = some 3 := by kernel_rfl
theorem zEnt_foldN : Array.foldl (fun (cs : Array Value) x => cs.setIfInBounds x.snd x.fst) #[Value.int IntKind.i64 0, Value.string { data := #[] }, Value.string { data := #[] }, Value.int IntKind.i64 0, Value.slice none 0 0] zEnt.zipIdx 0 zEnt.size = zEnt := by kernel_rfl
theorem ent_litN : Tryz.prog.builtSlice 36 1 [(0, .agg zEnt)] = some zEnt := by kernel_rfl
theorem opCells_entN (kind n : Int) (name : ByteArray) (k : NodeD) : (((opN kind n name k).toList.drop 3).take 5).toArray = zEnt := rfl
set_option maxRecDepth 100000 in
set_option maxHeartbeats 400000 in
theorem sameOpN_any (kind n : Int) (name : ByteArray) (k : NodeD) (w : World) : Calls Tryz.prog 8 #[.agg (opN kind n name k), .agg (opN kind n name k)] w (fun e w' => e = .returned (.bool true) ∧ Below w.heap.size w w') := by
  have hue := Tryz.underlying47
  have hubun := Tryz.underlying45
  have huent := Tryz.underlying36
  have husl := Tryz.underlying26
  obtain ⟨W0, hW0⟩ : ∃ W0, W0 = (w.alloc (.cells (opN kind n name k) 47)).alloc (.cells (opN kind n name k) 47) := ⟨_, rfl⟩
  have hb0 : Below w.heap.size w W0 := by rw [hW0]; exact ((Below.refl _ w).alloc (Nat.le_refl _) _).alloc (by simp) _
  have hk1 : Blk W0 w.heap.size 47 (opN kind n name k) := by rw [hW0]; exact (Blk.new _ _ _).alloc _
  have hk2 : Blk W0 (w.heap.size + 1) 47 (opN kind n name k) := by
    have := Blk.new (w.alloc (.cells (opN kind n name k) 47)) 47 (opN kind n name k)
    rw [hW0]; simpa using this
  have HK1 := Lib.hid hk1
  have HK2 := Lib.hid hk2
  have HW0 := Lib.hid hW0
  have HB0 := Lib.hid hb0
  clear hb0 hk1 hk2 hW0
  obtain ⟨oc, hoc⟩ : ∃ o, o = opN kind n name k := ⟨_, rfl⟩
  rw [← hoc] at HK1 HK2 HW0 ⊢
  have HOC := Lib.hid hoc
  clear hoc
  go_enter Tryz.func8, Tryz.ntmps8
  go_upto_region 1 with (fail)
  rw [← HW0.out]
  have hk1 := HK1.out
  have hk2 := HK2.out
  rw [HOC.out] at hk1 hk2
  have hg1 := Blk.new W0 36 zEnt
  have hg2 := Blk.new (W0.alloc (.cells zEnt 36)) 36 zEnt
  go_wp2_with (first
    | (refine wpList_get_part (r := zEnt) (k := 3) (n := 5) hk1 (by simp [opN]) (opCells_entN _ _ _ _) rfl rfl rfl huent rfl ent_size ?_)
    | (refine wpList_get_part (r := zEnt) (k := 3) (n := 5) (hk2.alloc _) (by simp [opN]) (opCells_entN _ _ _ _) rfl rfl rfl huent rfl ent_size ?_)
    | (refine Great.wpList_buildSliceTo rfl _ _ 1 _ rfl _ rfl _ rfl husl zEnt ent_litN ?_)
    | (refine wpList_build_ledN rfl _ rfl (led_zeroN _) ?_))
  obtain ⟨W1, hW1⟩ : ∃ W1, W1 = (W0.alloc (.cells zEnt 36)).alloc (.cells zEnt 36) := ⟨_, rfl⟩
  have hb1 : Below W0.heap.size W0 W1 := by rw [hW1]; exact ((Below.refl _ W0).alloc (Nat.le_refl _) _).alloc (by simp) _
  have hg1' : Blk W1 W0.heap.size 36 zEnt := by rw [hW1]; exact hg1.alloc _
  have hg2' : Blk W1 (W0.heap.size + 1) 36 zEnt := by rw [hW1]; simpa using hg2
  rw [zEnt_foldN]
  rw [← hW1]
  refine calls_then (lsame_one _ _ _ hg1' hg2') ?_
  rintro e w2 ⟨rfl, hb2⟩
  have hB2 := hb1.trans (hb2.mono hb1.size)
  have HF2 := Lib.hid (HB0.out.trans (hB2.mono HB0.out.size))
  replace hk1 := hk1.below hB2 HK1.out.lt
  replace hk2 := hk2.below hB2 HK2.out.lt
  clear hg1 hg2 hg1' hg2' hb1 hb2 hB2 hW1
  go_wp2_with (first
    | (refine wpList_get_part (r := zBun) (k := 21) (n := 3) hk1 (by simp [opN]) (opCells_bunN _ _ _ _) rfl rfl rfl hubun rfl bun_sizeN ?_)
    | (refine wpList_get_part (r := zBun) (k := 21) (n := 3) hk2 (by simp [opN]) (opCells_bunN _ _ _ _) rfl rfl rfl hubun rfl bun_sizeN ?_))
  refine calls_then (bsame_nil _) ?_
  rintro e w3 ⟨rfl, hb3⟩
  have HF3 := Lib.hid (HF2.out.trans (hb3.mono HF2.out.size))
  replace hk1 := hk1.below hb3 hk1.lt
  replace hk2 := hk2.below hb3 hk2.lt
  clear hb3
  have a0 : w3.cell? ⟨w.heap.size, 0, none⟩ = some (.int .i64 kind) := hk1.cell 0
  have a1 : w3.cell? ⟨w.heap.size, 1, none⟩ = some (.int .i64 n) := hk1.cell 1
  have a2 : w3.cell? ⟨w.heap.size, 2, none⟩ = some (.string name) := hk1.cell 2
  have a8 : w3.cell? ⟨w.heap.size, 8, none⟩ = some (.string ⟨#[]⟩) := hk1.cell 8
  have a9 : w3.cell? ⟨w.heap.size, 9, none⟩ = some (.string ⟨#[]⟩) := hk1.cell 9
  have a10 : w3.cell? ⟨w.heap.size, 10, none⟩ = some (.int .i64 0) := hk1.cell 10
  have a11 : w3.cell? ⟨w.heap.size, 11, none⟩ = some (.bool false) := hk1.cell 11
  have a12 : w3.cell? ⟨w.heap.size, 12, none⟩ = some (.string k.name) := hk1.cell 12
  have a13 : w3.cell? ⟨w.heap.size, 13, none⟩ = some (.string k.key) := hk1.cell 13
  have a14 : w3.cell? ⟨w.heap.size, 14, none⟩ = some (.int .i64 k.exp) := hk1.cell 14
  have a15 : w3.cell? ⟨w.heap.size, 15, none⟩ = some (.int .i64 k.seq) := hk1.cell 15
  have a16 : w3.cell? ⟨w.heap.size, 16, none⟩ = some (.string k.doc) := hk1.cell 16
  have a17 : w3.cell? ⟨w.heap.size, 17, none⟩ = some (.string ⟨#[]⟩) := hk1.cell 17
  have a18 : w3.cell? ⟨w.heap.size, 18, none⟩ = some (.string ⟨#[]⟩) := hk1.cell 18
  have a19 : w3.cell? ⟨w.heap.size, 19, none⟩ = some (.int .i64 0) := hk1.cell 19
  have a20 : w3.cell? ⟨w.heap.size, 20, none⟩ = some (.int .i64 0) := hk1.cell 20
  have b0 : w3.cell? ⟨w.heap.size + 1, 0, none⟩ = some (.int .i64 kind) := hk2.cell 0
  have b1 : w3.cell? ⟨w.heap.size + 1, 1, none⟩ = some (.int .i64 n) := hk2.cell 1
  have b2 : w3.cell? ⟨w.heap.size + 1, 2, none⟩ = some (.string name) := hk2.cell 2
  have b8 : w3.cell? ⟨w.heap.size + 1, 8, none⟩ = some (.string ⟨#[]⟩) := hk2.cell 8
  have b9 : w3.cell? ⟨w.heap.size + 1, 9, none⟩ = some (.string ⟨#[]⟩) := hk2.cell 9
  have b10 : w3.cell? ⟨w.heap.size + 1, 10, none⟩ = some (.int .i64 0) := hk2.cell 10
  have b11 : w3.cell? ⟨w.heap.size + 1, 11, none⟩ = some (.bool false) := hk2.cell 11
  have b12 : w3.cell? ⟨w.heap.size + 1, 12, none⟩ = some (.string k.name) := hk2.cell 12
  have b13 : w3.cell? ⟨w.heap.size + 1, 13, none⟩ = some (.string k.key) := hk2.cell 13
  have b14 : w3.cell? ⟨w.heap.size + 1, 14, none⟩ = some (.int .i64 k.exp) := hk2.cell 14
  have b15 : w3.cell? ⟨w.heap.size + 1, 15, none⟩ = some (.int .i64 k.seq) := hk2.cell 15
  have b16 : w3.cell? ⟨w.heap.size + 1, 16, none⟩ = some (.string k.doc) := hk2.cell 16
  have b17 : w3.cell? ⟨w.heap.size + 1, 17, none⟩ = some (.string ⟨#[]⟩) := hk2.cell 17
  have b18 : w3.cell? ⟨w.heap.size + 1, 18, none⟩ = some (.string ⟨#[]⟩) := hk2.cell 18
  have b19 : w3.cell? ⟨w.heap.size + 1, 19, none⟩ = some (.int .i64 0) := hk2.cell 19
  have b20 : w3.cell? ⟨w.heap.size + 1, 20, none⟩ = some (.int .i64 0) := hk2.cell 20
  have heqk : ∀ u : World, (binOp .eql 42 (.agg #[.string ⟨#[]⟩, .string ⟨#[]⟩, .int .i64 0, .int .i64 0]) (.agg #[.string ⟨#[]⟩, .string ⟨#[]⟩, .int .i64 0, .int .i64 0])).run Tryz.prog u = .ok (.bool true) u := fun u => by kernel_rfl
  have heqj : ∀ u : World, (binOp .eql 38 (.agg #[.string ⟨#[]⟩, .string ⟨#[]⟩, .int .i64 0, .bool false]) (.agg #[.string ⟨#[]⟩, .string ⟨#[]⟩, .int .i64 0, .bool false])).run Tryz.prog u = .ok (.bool true) u := fun u => by kernel_rfl
  have heqn : ∀ u : World, (binOp .eql 40 (.agg #[.string k.name, .string k.key, .int .i64 k.exp, .int .i64 k.seq, .string k.doc]) (.agg #[.string k.name, .string k.key, .int .i64 k.exp, .int .i64 k.seq, .string k.doc])).run Tryz.prog u = .ok (.bool true) u := fun u => by exact eql_node k u
  go_wp2_with fail
  go_ret
  exact ⟨rfl, HF3.out⟩
end Go.Proofs.YtpfnigndhkcknaaGreatDoor
/-
  A guarded operation whose guard holds.
-/
namespace Go.Proofs.YtpfnigndhkcknaaGreatDoor
set_option linter.unusedSimpArgs false
set_option linter.unusedVariables false
open Go.RowKit
section
variable {P : Program}
theorem wpList_open {w : World} {ops : Array Oper} {rest : List Oper} {o : Oper} {a : Act} {Q : Exit → Act → World → Prop}
    (hw : Region.wanted o (yielded ops a.tmps) = true) (h : wpList P ops Q ({ o with guard := none } :: rest) a w) : wpList P ops Q (o :: rest) a w := by
  have hw' : ∀ (O : Array Oper) (t : Array Value), Region.wanted { o with guard := none } (yielded O t) = true := fun O t => by simp [Region.wanted]
  simp only [wpList, hw, hw', if_true] at h ⊢
  have ha : ∀ a w, Oper.asks P { o with guard := none } a w = Oper.asks P o a w := fun a w => rfl
  rw [ha] at h
  exact h
end
end Go.Proofs.YtpfnigndhkcknaaGreatDoor
/-
  Regions that draw their order and whose operations give one value each, whatever the order: one step for each operation, in the order of the text; the last one may write.
-/
namespace Go.Proofs.YtpfnigndhkcknaaGreatDoor
set_option linter.unusedSimpArgs false
set_option linter.unusedVariables false
section
variable {P : Program}
theorem putAll_congr (ops : Array Oper) (v1 v2 : Nat → Value) : ∀ (l : List Nat) (a : Act), (∀ j ∈ l, v1 j = v2 j) → putAll ops v1 l a = putAll ops v2 l a
  | [], _, _ => rfl
  | j :: r, a, h => by
    rw [putAll, putAll, h j (List.mem_cons_self ..)]
    exact putAll_congr ops v1 v2 r _ fun k hk => h k (List.mem_cons_of_mem _ hk)
def DetStep (P : Program) (ops : Array Oper) (C D : World → Prop) (Φ : (Nat → Value) → Prop) (i : Nat) (a0 : Act) (o : Oper) (v : Value) : Prop :=
  ∀ vals, Φ vals → ∀ w, C w → ∀ E : Act → World → Prop, (∀ w', D w' → E ((putAll ops vals (waitsOf ops i) a0).put o.dst v) w') → wpList P ops (EndOf E) [o] (putAll ops vals (waitsOf ops i) a0) w
def DetL (P : Program) (ops : Array Oper) (C D : World → Prop) (a0 : Act) (K : ((Nat → Value) → Prop) → Prop) : Nat → List Oper → ((Nat → Value) → Prop) → Prop
  | _, [], Φ => K Φ
  | i, [o], Φ => ∃ v, DetStep P ops C D Φ i a0 o v ∧ K fun vals => Φ vals ∧ vals i = v
  | i, o :: r :: rest, Φ => ∃ v, DetStep P ops C C Φ i a0 o v ∧ DetL P ops C D a0 K (i + 1) (r :: rest) fun vals => Φ vals ∧ vals i = v
theorem detL_all {ops : Array Oper} {C D : World → Prop} {a0 : Act} {K : ((Nat → Value) → Prop) → Prop} : ∀ (rest : List Oper) (i : Nat) (Φ : (Nat → Value) → Prop),
    (∀ v1 v2 : Nat → Value, (∀ j, j < i → v1 j = v2 j) → Φ v1 → Φ v2) → (∃ vals, Φ vals) → DetL P ops C D a0 K i rest Φ →
    ∃ (vs : Nat → Value) (Ψ : (Nat → Value) → Prop), K Ψ ∧ Φ vs ∧ (∀ vals, (∀ j, j < i + rest.length → vals j = vs j) → Ψ vals) ∧
      ∀ j o, rest[j]? = some o → ∀ vals w, C w → (∀ k, k < i + j → vals k = vs k) → ∀ E : Act → World → Prop, (∀ w', (if j + 1 = rest.length then D w' else C w') → E ((putAll ops vals (waitsOf ops (i + j)) a0).put o.dst (vs (i + j))) w') → wpList P ops (EndOf E) [o] (putAll ops vals (waitsOf ops (i + j)) a0) w
  | [], i, Φ, hΦ, ⟨v0, h0⟩, h => ⟨v0, Φ, h, h0, fun vals hv => hΦ _ _ (fun j hj => (hv j (by simpa using hj)).symm) h0, fun j o ho => by simp at ho⟩
  | [o], i, Φ, hΦ, ⟨v0, h0⟩, ⟨v, h1, h2⟩ => by
    refine ⟨upd v0 i v, _, h2, hΦ v0 _ (fun j hj => by simp [upd, Nat.ne_of_lt hj]) h0, fun vals hv => ⟨hΦ v0 _ (fun j hj => ?_) h0, ?_⟩, fun j o' ho w => ?_⟩
    · have := hv j (by simp; omega)
      rw [this]; simp [upd, Nat.ne_of_lt hj]
    · have := hv i (by simp)
      rw [this]; simp [upd]
    · cases j with
      | zero =>
        simp at ho
        subst ho
        intro w' hc hv
        have hΦv : Φ w := hΦ v0 _ (fun j hj => by rw [hv j (by omega)]; simp [upd, Nat.ne_of_lt hj]) h0
        intro E hE
        refine h1 w hΦv w' hc E fun w'' hd => ?_
        have := hE w'' (by simpa using hd)
        simpa [upd] using this
      | succ j => simp at ho
  | o :: r :: rest, i, Φ, hΦ, ⟨v0, h0⟩, ⟨v, h1, h2⟩ => by
    obtain ⟨vs, Ψ, k1, k2, k3, k4⟩ := detL_all (r :: rest) (i + 1) (fun vals => Φ vals ∧ vals i = v)
      (fun v1 v2 hv hp => ⟨hΦ v1 v2 (fun j hj => hv j (by omega)) hp.1, by rw [← hv i (by omega)]; exact hp.2⟩)
      ⟨upd v0 i v, hΦ v0 _ (fun j hj => by simp [upd, Nat.ne_of_lt hj]) h0, by simp [upd]⟩ h2
    refine ⟨vs, Ψ, k1, k2.1, fun vals hv => k3 vals fun j hj => hv j (by simp only [List.length_cons] at hj ⊢; omega), fun j o' ho vals w hc hv => ?_⟩
    cases j with
    | zero =>
      simp at ho
      subst ho
      have hΦv : Φ vals := hΦ vs _ (fun j hj => (hv j (by omega)).symm) k2.1
      intro E hE
      refine h1 vals hΦv w hc E fun w'' hd => ?_
      have : ¬ 0 + 1 = (o :: r :: rest).length := by simp
      have h4 := hE w'' (by rw [if_neg this]; exact hd)
      rw [Nat.add_zero, k2.2] at h4
      exact h4
    | succ j =>
      have h3 := k4 j o' (by simpa using ho) vals w hc (fun k hk => hv k (by omega))
      intro E hE
      rw [show i + (j + 1) = i + 1 + j by omega] at hE ⊢
      refine h3 E fun w'' hd => hE w'' ?_
      have e : (j + 1 + 1 = (o :: r :: rest).length) = (j + 1 = (r :: rest).length) := by simp
      simp only [e]
      exact hd
theorem wp_region_det {id : Nat} {l : List Oper} {a0 : Act} {w0 : World} {Q : Exit → Act → World → Prop} (C D : World → Prop) (ps : List (Nat × Option Tmp))
    (hm : P.follows .mixedOrders = true) (hok : regionOk l.toArray = true) (hpos : 0 < l.length)
    (hlast : ((List.range (l.length - 1)).all fun i => (deepWaits l.toArray 5 (l.length - 1)).contains i) = true)
    (hps : ∀ vals, putAll l.toArray vals (List.range l.toArray.size) a0 = puts vals ps a0) (hC : C w0.drew)
    (h : DetL P l.toArray C D a0 (fun Φ => ∀ vals, Φ vals → ∀ w, D w → Q .normal (puts vals ps a0) w) 0 l (fun _ => True)) :
    (Code.region id l.toArray true).wp P Q a0 w0 := by
  obtain ⟨vs, Ψ, k1, _, k3, k4⟩ := detL_all (P := P) l 0 (fun _ => True) (fun _ _ _ h => h) ⟨fun _ => undef, trivial⟩ h
  have hafter : ∀ i, i < l.length → i ≠ l.length - 1 → (deepWaits l.toArray 5 (l.length - 1)).contains i = true := fun i hi hne =>
    (List.all_eq_true.1 hlast) i (List.mem_range.2 (by omega))
  refine wp_region_rel (fun _ => True) (fun _ => C) (fun _ i => i == l.length - 1) (fun i vals w => vals i = vs i ∧ (i = l.length - 1 → D w)) (fun i w w' => if i = l.length - 1 then True else (C w → C w')) (fun _ _ => false) hm hok trivial (fun _ => hC) ?_ ?_ ?_ ?_
  · intro _ i hi w w' hS hc
    have hne : ¬ i = l.length - 1 := by simpa using hi
    rw [if_neg hne] at hS
    exact hS hc
  · intro i k hi hik _ hdk vals v w w' _ hF
    refine ⟨by simp [upd, Ne.symm hik, hF.1], fun hk => ?_⟩
    subst hk
    have := hafter i (by simpa using hi) hik
    rw [this] at hdk
    cases hdk
  · intro i o ho w vals _ hini hav
    have hil : i < l.length := by have := (Array.getElem?_eq_some_iff.1 ho).1; simpa using this
    have hok1 := okAt hok ho
    have hcw : C w := hini false (by
      unfold availIni
      rw [List.all_eq_true]
      intro k hk
      have hk' : k < l.length := by simpa using hk
      by_cases hki : k = i
      · simp [hki]
      · by_cases hkl : k = l.length - 1
        · have := hafter i hil (by omega)
          subst hkl
          simp only [this, Bool.or_true]
        · simp [hkl])
    have hvals : ∀ j ∈ waitsOf l.toArray i, vals j = vs j := fun j hj => by
      have h1 : availAt l.toArray (fun _ _ => false) j i = true := by
        unfold availAt
        simp [hj]
      exact (hav j h1).1
    have hcon : putAll l.toArray vals (waitsOf l.toArray i) a0 = putAll l.toArray vs (waitsOf l.toArray i) a0 := putAll_congr _ _ _ _ _ hvals
    have h3 := k4 i o (by simpa using ho) vs w hcw (fun _ _ => rfl)
    rw [Nat.zero_add] at h3
    rw [hcon]
    refine h3 (fun a' w' => ∃ v, a' = (putAll l.toArray vs (waitsOf l.toArray i) a0).put o.dst v ∧ (upd vals i v i = vs i ∧ (i = l.length - 1 → D w')) ∧ True ∧ (if i = l.length - 1 then True else (C w → C w'))) fun w' hd => ?_
    refine ⟨vs i, rfl, ⟨by simp [upd], fun hi => ?_⟩, trivial, ?_⟩
    · rw [if_pos (by omega)] at hd; exact hd
    · by_cases hi : i = l.length - 1
      · rw [if_pos hi]; trivial
      · rw [if_neg hi]
        intro _
        rw [if_neg (by omega)] at hd; exact hd
  · intro w vals _ hF
    rw [hps]
    have hal : ∀ j, aliveAt l.toArray (fun _ _ => false) j = true := fun j => by simp [aliveAt]
    have hD : D w := (hF (l.length - 1) (by simp; omega) (hal _)).2 rfl
    exact k1 vals (k3 vals fun j hj => (hF j (by simpa using hj) (hal _)).1) w hD
def tailP (P : Program) (ops : Array Oper) (a0 : Act) (Kf : (Nat → Value) → World → Prop) : Nat → List Oper → (Nat → Value) → World → Prop
  | _, [], vals, w => Kf vals w
  | i, o :: r, vals, w => ∀ E : Act → World → Prop, (∀ v w', tailP P ops a0 Kf (i + 1) r (upd vals i v) w' → E ((putAll ops vals (waitsOf ops i) a0).put o.dst v) w') → wpList P ops (EndOf E) [o] (putAll ops vals (waitsOf ops i) a0) w
def mergeV (d : Nat) (vs vals : Nat → Value) : Nat → Value := fun j => if j < d then vs j else vals j
theorem mergeV_upd {d i : Nat} (vs vals : Nat → Value) (v : Value) (h : d ≤ i) : mergeV d vs (upd vals i v) = upd (mergeV d vs vals) i v := by
  funext j
  unfold mergeV upd
  by_cases h1 : j = i
  · subst h1
    have : ¬ j < d := by omega
    simp [this]
  · simp [h1]
section
variable {ops : Array Oper} {C D : World → Prop} {a0 : Act} {K : ((Nat → Value) → Prop) → Prop} {i : Nat} {Φ : (Nat → Value) → Prop} {o : Oper}
theorem detStep_plain {v : Value} (ps : List (Nat × Option Tmp)) (hps : ∀ vals, putAll ops vals (waitsOf ops i) a0 = puts vals ps a0) (hg : o.guard = none)
    (h : ∀ vals, Φ vals → ∀ w, C w → ∀ E : Act → World → Prop, (∀ w', D w' → E ((puts vals ps a0).put o.dst v) w') → wpList P #[] (EndOf E) [o] (puts vals ps a0) w) : DetStep P ops C D Φ i a0 o v := by
  intro vals hp w hc E hE
  rw [hps] at hE ⊢
  have h1 := h vals hp w hc E hE
  have hw : ∀ (O : Array Oper) (t : Array Value), Region.wanted o (yielded O t) = true := fun O t => by simp [Region.wanted, hg]
  simp only [wpList, hw, if_true] at h1 ⊢
  exact h1
theorem detStep_yes {v : Value} (ps : List (Nat × Option Tmp)) (hps : ∀ vals, putAll ops vals (waitsOf ops i) a0 = puts vals ps a0) (g : Nat) (t : Tmp) (want : Bool) (hg : o.guard = some (g, want)) (hd : dstAt ops g = some t)
    (hy : ∀ vals, Φ vals → (puts vals ps a0).tmps[t]? = some (.bool want))
    (h : ∀ vals, Φ vals → ∀ w, C w → ∀ E : Act → World → Prop, (∀ w', D w' → E ((puts vals ps a0).put o.dst v) w') → wpList P #[] (EndOf E) [{ o with guard := none }] (puts vals ps a0) w) : DetStep P ops C D Φ i a0 o v := by
  intro vals hp w hc E hE
  rw [hps] at hE ⊢
  have h1 := h vals hp w hc E hE
  have hd' : (ops[g]?).bind (·.dst) = some t := hd
  have hw : Region.wanted o (yielded ops (puts vals ps a0).tmps) = true := by simp [Region.wanted, hg, yielded, hd', hy vals hp]
  have hw' : ∀ (O : Array Oper) (t : Array Value), Region.wanted { o with guard := none } (yielded O t) = true := fun O t => by simp [Region.wanted]
  simp only [wpList, hw, hw', if_true] at h1 ⊢
  have ha : ∀ a w, Oper.asks P { o with guard := none } a w = Oper.asks P o a w := fun a w => rfl
  rw [ha] at h1
  exact h1
theorem detStep_no (ps : List (Nat × Option Tmp)) (hps : ∀ vals, putAll ops vals (waitsOf ops i) a0 = puts vals ps a0) (g : Nat) (t : Tmp) (want : Bool) (hg : o.guard = some (g, want)) (hd : dstAt ops g = some t)
    (hy : ∀ vals, Φ vals → (puts vals ps a0).tmps[t]? = some (.bool !want)) (hCD : ∀ w, C w → D w) : DetStep P ops C D Φ i a0 o undef := by
  intro vals hp w hc E hE
  rw [hps] at hE ⊢
  have hd' : (ops[g]?).bind (·.dst) = some t := hd
  have hw : ¬ Region.wanted o (yielded ops (puts vals ps a0).tmps) = true := by
    simp [Region.wanted, hg, yielded, hd', hy vals hp]
  simp only [wpList, if_neg hw]
  exact ⟨rfl, hE w (hCD w hc)⟩
theorem tail_step {Kf : (Nat → Value) → World → Prop} {r : List Oper} {vals : Nat → Value} {w : World} (ps : List (Nat × Option Tmp)) (hps : ∀ vals, putAll ops vals (waitsOf ops i) a0 = puts vals ps a0) (hg : o.guard = none)
    (h : ∀ E : Act → World → Prop, (∀ v w', tailP P ops a0 Kf (i + 1) r (upd vals i v) w' → E ((puts vals ps a0).put o.dst v) w') → wpList P #[] (EndOf E) [o] (puts vals ps a0) w) : tailP P ops a0 Kf i (o :: r) vals w := by
  intro E hE
  rw [hps] at hE ⊢
  have h1 := h E hE
  have hw : ∀ (O : Array Oper) (t : Array Value), Region.wanted o (yielded O t) = true := fun O t => by simp [Region.wanted, hg]
  simp only [wpList, hw, if_true] at h1 ⊢
  exact h1
theorem tail_end {Kf : (Nat → Value) → World → Prop} {vals : Nat → Value} {w : World} (h : Kf vals w) : tailP P ops a0 Kf i [] vals w := h
theorem upd_self (vals : Nat → Value) (i : Nat) (v : Value) : upd vals i v i = v := if_pos rfl
theorem upd_ne {vals : Nat → Value} {i j : Nat} {v : Value} (h : j ≠ i) : upd vals i v j = vals j := if_neg h
theorem DetL.next {v : Value} {r : Oper} {rest : List Oper} (hs : DetStep P ops C C Φ i a0 o v) (h : DetL P ops C D a0 K (i + 1) (r :: rest) fun vals => Φ vals ∧ vals i = v) : DetL P ops C D a0 K i (o :: r :: rest) Φ := ⟨v, hs, h⟩
theorem DetL.last {v : Value} (hs : DetStep P ops C D Φ i a0 o v) (h : K fun vals => Φ vals ∧ vals i = v) : DetL P ops C D a0 K i [o] Φ := ⟨v, hs, h⟩
end
end
end Go.Proofs.YtpfnigndhkcknaaGreatDoor
