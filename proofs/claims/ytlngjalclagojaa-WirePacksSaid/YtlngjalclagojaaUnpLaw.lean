/-
  Plain: what is packed is unpacked as it, and the other way about.
-/
import Derived.Test.YtlngjalclagojaaUnpk
import Derived.Test.YtlngjalclagojaaPack
namespace Go.Proofs.Ytlngjalclagojaa
open Go.RowKit

theorem foldl_from (x : Nat) (c : List UInt8) : c.foldl (fun n c => n * 256 + c.toNat) x = x * 256 ^ c.length + natOf c := by
  induction c generalizing x with
  | nil => simp [natOf]
  | cons z c ih =>
    have e : natOf (z :: c) = c.foldl (fun n c => n * 256 + c.toNat) z.toNat := by simp [natOf]
    rw [List.foldl_cons, ih, e, ih, List.length_cons, Nat.pow_succ, Nat.add_mul, Nat.mul_assoc, Nat.mul_comm 256, Nat.add_assoc]
theorem natOf_append (a c : List UInt8) : natOf (a ++ c) = natOf a * 256 ^ c.length + natOf c := by
  rw [natOf, List.foldl_append, foldl_from]; rfl
theorem natOf_lt (l : List UInt8) : natOf l < 256 ^ l.length := by
  induction l with
  | nil => simp [natOf]
  | cons z l ih =>
    have e := natOf_append [z] l
    have hz := z.toNat_lt
    have e1 : natOf [z] = z.toNat := by simp [natOf]
    rw [show z :: l = [z] ++ l from rfl, e, e1, List.length_append, List.length_singleton, Nat.pow_add, Nat.pow_one]
    have : z.toNat * 256 ^ l.length ≤ 255 * 256 ^ l.length := Nat.mul_le_mul_right _ (by omega)
    omega
theorem pow_256 (k : Nat) : (2 : Nat) ^ (8 * k) = 256 ^ k := by rw [Nat.pow_mul]
theorem ofInt_byte (n : Nat) : UInt8.ofInt (n : Int) = UInt8.ofNat n := by
  apply UInt8.toNat_inj.1
  simp [UInt8.ofInt]
  omega
theorem byte_at (l : List UInt8) (m : Nat) (h : m < l.length) : UInt8.ofInt ((natOf l : Int) / 2 ^ (8 * (l.length - 1 - m))) = l[m] := by
  have h2 : (l.drop (m + 1)).length = l.length - 1 - m := by simp; omega
  have h3 := natOf_lt (l.drop (m + 1))
  have h1 : natOf l / 256 ^ (l.length - 1 - m) = natOf (l.take (m + 1)) := by
    have e : natOf l = natOf (l.take (m + 1)) * 256 ^ (l.drop (m + 1)).length + natOf (l.drop (m + 1)) := by rw [← natOf_append, List.take_append_drop]
    rw [e, ← h2, Nat.mul_comm, Nat.mul_add_div (Nat.pow_pos (by omega)), Nat.div_eq_of_lt h3, Nat.add_zero]
  have h4 : ((natOf l : Int) / 2 ^ (8 * (l.length - 1 - m))) = ((natOf l / 256 ^ (l.length - 1 - m) : Nat) : Int) := by
    rw [← pow_256, Int.natCast_ediv, Int.natCast_pow]
    rfl
  rw [h4, h1, ofInt_byte, List.take_succ_eq_append_getElem h, natOf_snoc]
  generalize l[m] = z
  have hz := z.toNat_lt
  apply UInt8.toNat_inj.1
  simp
theorem beB_take (l : List UInt8) : ∀ m, m ≤ l.length → beB (natOf l) l.length m = l.take m
  | 0, _ => rfl
  | m + 1, h => by rw [beB, beB_take l m (by omega), byte_at l m h, List.take_succ_eq_append_getElem h]
/-- A number's bytes are the number's. -/
theorem beB_natOf (l : List UInt8) : beB (natOf l) l.length l.length = l := by rw [beB_take l _ (Nat.le_refl _), List.take_length]
theorem natOf_beB (n w : Nat) : ∀ m, m ≤ w → n < 256 ^ w → natOf (beB n w m) = n / 256 ^ (w - m)
  | 0, _, hn => by rw [beB, Nat.sub_zero, Nat.div_eq_of_lt hn]; rfl
  | m + 1, hm, hn => by
    rw [beB, natOf_snoc, natOf_beB n w m (by omega) hn]
    have h4 : ((n : Int) / 2 ^ (8 * (w - 1 - m))) = ((n / 256 ^ (w - 1 - m) : Nat) : Int) := by
      rw [← pow_256, Int.natCast_ediv, Int.natCast_pow]
      rfl
    rw [h4, ofInt_byte, show w - m = (w - 1 - m) + 1 by omega, show w - (m + 1) = w - 1 - m by omega, Nat.pow_succ, ← Nat.div_div_eq_div_mul]
    simp
    omega
/-- The number of a number's bytes is the number. -/
theorem natOf_be (n w : Nat) (hn : n < 256 ^ w) : natOf (beB n w w) = n := by rw [natOf_beB n w w (Nat.le_refl _) hn]; simp

/-! Reading what was written. -/
theorem takeS_append (l r : List UInt8) (f : Bool) : takeS l.length ⟨l ++ r, f⟩ = (l, ⟨r, f⟩) := by
  rw [takeS_all (by simp)]; simp
theorem numS_be (n w : Nat) (r : List UInt8) (f : Bool) (hn : n < 256 ^ w) (h63 : n < 9223372036854775808) : numS w ⟨beB n w w ++ r, f⟩ = ((n : Int), ⟨r, f⟩) := by
  have h := takeS_append (beB n w w) r f
  rw [beB_length] at h
  rw [numS, h]
  show (wrap64 (natOf (beB n w w) : Int), (⟨r, f⟩ : Rs)) = _
  rw [natOf_be n w hn]
  simp only [wrap64, Prod.mk.injEq, and_true]
  omega
theorem bytes_back (s : ByteArray) : (⟨s.data.toList.toArray⟩ : ByteArray) = s := by simp
theorem textS_frame (s : ByteArray) (r : List UInt8) (f : Bool) (h : s.size ≤ 65535) : textS ⟨frameB s ++ r, f⟩ = (s, ⟨r, f⟩) := by
  have h1 := numS_be s.size 2 (s.data.toList ++ r) f (by omega) (by omega)
  have h2 := takeS_append s.data.toList r f
  rw [show s.data.toList.length = s.size from by rw [Array.length_toList]; rfl] at h2
  rw [frameB, List.append_assoc, textS, h1]
  simp only [Int.toNat_natCast, h2, bytes_back]
theorem fieldsS_frames (l : List ByteArray) (r : List UInt8) (f : Bool) (h : ∀ s ∈ l, s.size ≤ 65535) : ∀ k, k ≤ l.length → fieldsS k ⟨l.flatMap frameB ++ r, f⟩ = (l.take k, ⟨(l.drop k).flatMap frameB ++ r, f⟩)
  | 0, _ => rfl
  | k + 1, hk => by
    have h1 : l.drop k = l[k] :: l.drop (k + 1) := List.drop_eq_getElem_cons (by omega)
    rw [fieldsS, fieldsS_frames l r f h k (by omega)]
    simp only []
    rw [h1, List.flatMap_cons, List.append_assoc, textS_frame l[k] _ _ (h _ (List.getElem_mem (by omega)))]
    rw [List.take_succ_eq_append_getElem (by omega)]
theorem said_all (b : List UInt8) : ∃ a1 a2 a3 a4 a5 a6 a7 a8, a1 = numS 1 ⟨b, false⟩ ∧ a2 = numS 8 a1.2 ∧ a3 = textS a2.2 ∧ a4 = textS a3.2 ∧ a5 = numS 1 a4.2 ∧ a6 = fieldsS a5.1.toNat a5.2 ∧ a7 = numS 1 a6.2 ∧ a8 = takeS a7.1.toNat a7.2 ∧
    saidS b = ⟨⟨a1.1, a3.1, a4.1, a2.1, a6.1, ⟨a8.1.toArray⟩⟩, a8.2⟩ :=
  ⟨_, _, _, _, _, _, _, _, rfl, rfl, rfl, rfl, rfl, rfl, rfl, rfl, rfl⟩
theorem saidS_pack {m : MsgD} (hm : mayB m = true) : saidS (packB m) = ⟨m, ⟨[], false⟩⟩ := by
  obtain ⟨f1, f2, f3, f4, f5, f6, f7, f8, f9⟩ := may_facts hm
  obtain ⟨kind, src, dst, seq, fields, sig⟩ := m
  dsimp only at f1 f2 f3 f4 f5 f6 f7 f8 f9
  obtain ⟨k, rfl⟩ := Int.eq_ofNat_of_zero_le f1
  obtain ⟨q, rfl⟩ := Int.eq_ofNat_of_zero_le f3
  have h1 := fun r => numS_be k 1 r false (by omega) (by omega)
  have h2 := fun r => numS_be q 8 r false (by omega) (by omega)
  have h3 := fun r => textS_frame src r false (by omega)
  have h4 := fun r => textS_frame dst r false (by omega)
  have h5 := fun r => numS_be fields.length 1 r false (by omega) (by omega)
  have h6 := fun r => fieldsS_frames fields r false (fun s hs => by have := f8 s hs; omega) fields.length (Nat.le_refl _)
  have h7 := fun r => numS_be sig.size 1 r false (by omega) (by omega)
  have h8 := takeS_append sig.data.toList [] false
  rw [show sig.data.toList.length = sig.size from by rw [Array.length_toList]; rfl, List.append_nil] at h8
  simp only [List.take_length, List.drop_length, List.flatMap_nil, List.nil_append] at h6
  obtain ⟨a1, a2, a3, a4, a5, a6, a7, a8, e1, e2, e3, e4, e5, e6, e7, e8, e⟩ := said_all (packB ⟨(k : Int), src, dst, (q : Int), fields, sig⟩)
  rw [e]
  simp only [packB, bodyB, List.append_assoc] at e1
  rw [h1] at e1
  subst e1
  rw [h2] at e2
  subst e2
  rw [h3] at e3
  subst e3
  rw [h4] at e4
  subst e4
  rw [h5] at e5
  subst e5
  rw [Int.toNat_natCast, h6] at e6
  subst e6
  rw [h7] at e7
  subst e7
  rw [Int.toNat_natCast, h8] at e8
  subst e8
  simp only [bytes_back]
theorem unpS_pack {m : MsgD} (hm : mayB m = true) : unpS (packB m) = (m, 0) := by
  unfold unpS
  rw [saidS_pack hm]
  simp [hm]

/-! What was read, written. -/
theorem takeS_back {n : Nat} {s : Rs} (h : (takeS n s).2.short = false) : s.short = false ∧ s.rest = (takeS n s).1 ++ (takeS n s).2.rest ∧ (takeS n s).1.length = n := by
  by_cases hlt : s.rest.length < n
  · rw [takeS_short hlt] at h; simp at h
  · rw [takeS_all (by omega)] at h ⊢
    refine ⟨h, (List.take_append_drop n s.rest).symm, ?_⟩
    simp; omega
theorem numS_back {n : Nat} {s : Rs} (h : (numS n s).2.short = false) : s.short = false ∧ ∃ l, l.length = n ∧ s.rest = l ++ (numS n s).2.rest ∧ (numS n s).1 = wrap64 (natOf l : Int) := by
  obtain ⟨h1, h2, h3⟩ := takeS_back h
  exact ⟨h1, _, h3, h2, rfl⟩
theorem natOf_one (l : List UInt8) (h : l.length ≤ 2) : wrap64 (natOf l : Int) = (natOf l : Int) := by
  have := natOf_two l h
  unfold wrap64; omega
theorem text_parts (s : Rs) : ∃ a t, a = numS 2 s ∧ t = takeS a.1.toNat a.2 ∧ textS s = (⟨t.1.toArray⟩, t.2) := ⟨_, _, rfl, rfl, rfl⟩
theorem textS_back {s : Rs} (h : (textS s).2.short = false) : s.short = false ∧ s.rest = frameB (textS s).1 ++ (textS s).2.rest := by
  obtain ⟨a, t, ha, ht, e⟩ := text_parts s
  rw [e] at h ⊢
  clear e
  simp only [] at h ⊢
  rw [ht] at h
  obtain ⟨h1, h2, h3⟩ := takeS_back h
  rw [ha] at h1
  obtain ⟨h4, l, h5, h6, h7⟩ := numS_back h1
  rw [← ht] at h2 h3
  rw [← ha] at h6 h7
  clear h h1 ht ha
  refine ⟨h4, ?_⟩
  have h8 : (⟨t.1.toArray⟩ : ByteArray).size = natOf l := by
    show (List.toArray t.1).size = _
    rw [List.size_toArray, h3, h7, natOf_one l (by omega), Int.toNat_natCast]
  have h9 := beB_natOf l
  rw [h5] at h9
  rw [frameB, h8, h9, List.append_assoc, h6, h2]
theorem fields_parts (n : Nat) (s : Rs) : ∃ a t, a = fieldsS n s ∧ t = textS a.2 ∧ fieldsS (n + 1) s = (a.1 ++ [t.1], t.2) := ⟨_, _, rfl, rfl, rfl⟩
theorem fieldsS_back : ∀ {n : Nat} {s : Rs}, (fieldsS n s).2.short = false → s.short = false ∧ s.rest = (fieldsS n s).1.flatMap frameB ++ (fieldsS n s).2.rest
  | 0, s, h => ⟨h, rfl⟩
  | n + 1, s, h => by
    obtain ⟨a, t, ha, ht, e⟩ := fields_parts n s
    rw [e] at h ⊢
    clear e
    simp only [] at h ⊢
    rw [ht] at h
    obtain ⟨h1, h2⟩ := textS_back h
    rw [ha] at h1
    obtain ⟨h3, h4⟩ := fieldsS_back h1
    rw [← ht] at h2
    rw [← ha] at h4
    clear h h1 ht ha
    refine ⟨h3, ?_⟩
    rw [h4, h2, List.flatMap_append, List.append_assoc]
    simp
theorem be_small (l : List UInt8) (n : Nat) (h : l.length = n) (h2 : n ≤ 2) : beB (wrap64 (natOf l : Int)) n n = l := by
  subst h
  rw [natOf_one l h2, beB_natOf]
theorem be_eight (l : List UInt8) (h : l.length = 8) (h0 : 0 ≤ wrap64 (natOf l : Int)) : beB (wrap64 (natOf l : Int)) 8 8 = l := by
  have h1 := natOf_lt l
  rw [h] at h1
  have h2 := beB_natOf l
  rw [h] at h2
  rw [show wrap64 (natOf l : Int) = (natOf l : Int) from ?_, h2]
  unfold wrap64 at h0 ⊢
  omega
theorem pack_said {b : List UInt8} (hs : (saidS b).left.short = false) (hr : (saidS b).left.rest = []) (hm : mayB (saidS b).msg = true) : packB (saidS b).msg = b := by
  have f3 := (may_facts hm).2.2.1
  obtain ⟨a1, a2, a3, a4, a5, a6, a7, a8, e1, e2, e3, e4, e5, e6, e7, e8, e⟩ := said_all b
  rw [e] at hs hr f3 ⊢
  clear e hm
  replace e1 := e1.symm
  replace e2 := e2.symm
  replace e3 := e3.symm
  replace e4 := e4.symm
  replace e5 := e5.symm
  replace e6 := e6.symm
  replace e7 := e7.symm
  replace e8 := e8.symm
  dsimp only at hs hr f3 ⊢
  obtain ⟨g7, r8, l8⟩ := takeS_back (s := a7.2) (by rw [e8]; exact hs)
  rw [e8] at r8 l8
  obtain ⟨g6, l7, n7, r7, v7⟩ := numS_back (s := a6.2) (by rw [e7]; exact g7)
  rw [e7] at r7 v7
  obtain ⟨g5, r6⟩ := fieldsS_back (s := a5.2) (by rw [e6]; exact g6)
  rw [e6] at r6
  obtain ⟨g4, l5, n5, r5, v5⟩ := numS_back (s := a4.2) (by rw [e5]; exact g5)
  rw [e5] at r5 v5
  obtain ⟨g3, r4⟩ := textS_back (s := a3.2) (by rw [e4]; exact g4)
  rw [e4] at r4
  obtain ⟨g2, r3⟩ := textS_back (s := a2.2) (by rw [e3]; exact g3)
  rw [e3] at r3
  obtain ⟨g1, l2, n2, r2, v2⟩ := numS_back (s := a1.2) (by rw [e2]; exact g2)
  rw [e2] at r2 v2
  obtain ⟨g0, l1, n1, r1, v1⟩ := numS_back (s := (⟨b, false⟩ : Rs)) (by rw [e1]; exact g1)
  rw [e1] at r1 v1
  have k6 : (a6.1.length : Int) = a5.1 := by
    rw [← e6, fieldsS_length, v5, natOf_one l5 (by omega), Int.toNat_natCast]
  have k8 : (((⟨a8.1.toArray⟩ : ByteArray).size : Nat) : Int) = a7.1 := by
    show ((List.toArray a8.1).size : Int) = _
    rw [List.size_toArray, l8, v7, natOf_one l7 (by omega), Int.toNat_natCast]
  simp only [packB, bodyB, k6, k8, v1, v5, v7, be_small l1 1 n1 (by omega), be_small l5 1 n5 (by omega), be_small l7 1 n7 (by omega)]
  rw [v2, be_eight l2 n2 (by rw [← v2]; exact f3)]
  have r1' : b = l1 ++ a1.2.rest := r1
  rw [r1', r2, r3, r4, r5, r6, r7, r8, hr]
  simp
theorem unpS_back {b : List UInt8} {m : MsgD} (h : unpS b = (m, 0)) : mayB m = true ∧ packB m = b := by
  unfold unpS at h
  split at h
  · simp at h
  · split at h
    · rename_i h1 h2
      simp only [Prod.mk.injEq, and_true] at h
      subst h
      exact ⟨h2.2, pack_said (by simpa using h1) h2.1 h2.2⟩
    · simp at h
end Go.Proofs.Ytlngjalclagojaa
