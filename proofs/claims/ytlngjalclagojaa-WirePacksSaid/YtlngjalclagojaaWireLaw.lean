/-
  Plain: a message's bytes tell it.
-/
import Derived.Test.YtlngjalclagojaaText
import Derived.Test.YtlngjalclagojaaRefA
namespace Go.Proofs.Ytlngjalclagojaa

theorem ofInt_inj {x y : Int} (hx : 0 ≤ x) (hy : 0 ≤ y) (h : UInt8.ofInt x = UInt8.ofInt y) : x % 256 = y % 256 := by
  have h1 := congrArg byteV h
  rw [byteV_ofInt x hx, byteV_ofInt y hy] at h1
  injection h1

theorem be1_inj {a b : Int} (ha : 0 ≤ a) (ha' : a ≤ 255) (hb : 0 ≤ b) (hb' : b ≤ 255) (h : beB a 1 1 = beB b 1 1) : a = b := by
  simp [beB] at h
  have := ofInt_inj ha hb h
  omega
theorem be2_inj {a b : Int} (ha : 0 ≤ a) (ha' : a ≤ 65535) (hb : 0 ≤ b) (hb' : b ≤ 65535) (h : beB a 2 2 = beB b 2 2) : a = b := by
  simp [beB] at h
  have h1 := ofInt_inj (by omega) (by omega) h.1
  have h2 := ofInt_inj ha hb h.2
  omega
theorem be8_inj {a b : Int} (ha : 0 ≤ a) (ha' : a ≤ 1099511627776) (hb : 0 ≤ b) (hb' : b ≤ 1099511627776) (h : beB a 8 8 = beB b 8 8) : a = b := by
  simp [beB] at h
  obtain ⟨h0, h1, h2, h3, h4, h5, h6, h7⟩ := h
  have g2 := ofInt_inj (by omega) (by omega) h2
  have g3 := ofInt_inj (by omega) (by omega) h3
  have g4 := ofInt_inj (by omega) (by omega) h4
  have g5 := ofInt_inj (by omega) (by omega) h5
  have g6 := ofInt_inj (by omega) (by omega) h6
  have g7 := ofInt_inj ha hb h7
  clear h0 h1 h2 h3 h4 h5 h6 h7
  omega
theorem append_inj_len {α : Type} {a b x y : List α} (hl : a.length = b.length) (h : a ++ x = b ++ y) : a = b ∧ x = y := List.append_inj h hl
theorem frame_inj {a b : ByteArray} {x y : List UInt8} (ha : a.size ≤ 1000) (hb : b.size ≤ 1000) (h : frameB a ++ x = frameB b ++ y) : a = b ∧ x = y := by
  unfold frameB at h
  rw [List.append_assoc, List.append_assoc] at h
  obtain ⟨h1, h2⟩ := append_inj_len (by rw [beB_length, beB_length]) h
  have hs : (a.size : Int) = b.size := be2_inj (by omega) (by omega) (by omega) (by omega) h1
  obtain ⟨h3, h4⟩ := append_inj_len (by rw [Array.length_toList, Array.length_toList]; show a.size = b.size; omega) h2
  exact ⟨ByteArray.ext (Array.toList_inj.1 h3), h4⟩
theorem frames_inj : ∀ {l r : List ByteArray}, (∀ s ∈ l, s.size ≤ 1000) → (∀ s ∈ r, s.size ≤ 1000) → l.length = r.length → l.flatMap frameB = r.flatMap frameB → l = r
  | [], [], _, _, _, _ => rfl
  | [], b :: r, _, _, h, _ => by simp at h
  | a :: l, [], _, _, h, _ => by simp at h
  | a :: l, b :: r, hl, hr, h, he => by
    rw [List.flatMap_cons, List.flatMap_cons] at he
    obtain ⟨h1, h2⟩ := frame_inj (hl a (List.mem_cons_self ..)) (hr b (List.mem_cons_self ..)) he
    rw [h1, frames_inj (fun s hs => hl s (List.mem_cons_of_mem _ hs)) (fun s hs => hr s (List.mem_cons_of_mem _ hs)) (by simpa using h) h2]
theorem body_inj {m n : MsgD} (hm : mayB m = true) (hn : mayB n = true) (h : bodyB m = bodyB n) : m.kind = n.kind ∧ m.seq = n.seq ∧ m.src = n.src ∧ m.dst = n.dst ∧ m.fields = n.fields := by
  obtain ⟨f1, f2, f3, f4, f5, f6, f7, f8, f9⟩ := may_facts hm
  obtain ⟨g1, g2, g3, g4, g5, g6, g7, g8, g9⟩ := may_facts hn
  simp only [bodyB, List.append_assoc] at h
  obtain ⟨h1, h⟩ := append_inj_len (by rw [beB_length, beB_length]) h
  obtain ⟨h2, h⟩ := append_inj_len (by rw [beB_length, beB_length]) h
  obtain ⟨h3, h⟩ := frame_inj f6 g6 h
  obtain ⟨h4, h⟩ := frame_inj f7 g7 h
  obtain ⟨h5, h⟩ := append_inj_len (by rw [beB_length, beB_length]) h
  have hl : (m.fields.length : Int) = n.fields.length := be1_inj (by omega) (by omega) (by omega) (by omega) h5
  exact ⟨be1_inj f1 f2 g1 g2 h1, be8_inj f3 f4 g3 g4 h2, h3, h4, frames_inj f8 g8 (by omega) h⟩
def noSig (m : MsgD) : MsgD := { m with sig := ⟨#[]⟩ }
theorem apart_law {m n : MsgD} (hm : mayB m = true) (hn : mayB n = true) : decide (textB m = textB n) = sameM (noSig m) (noSig n) := by
  rw [Bool.eq_iff_iff, decide_eq_true_iff]
  simp only [sameM, noSig, sameB, Bool.and_eq_true]
  constructor
  · intro h
    obtain ⟨h1, h2, h3, h4, h5⟩ := body_inj hm hn (List.append_cancel_left h)
    exact ⟨⟨⟨⟨⟨decide_eq_true h5, decide_eq_true h1⟩, decide_eq_true h3⟩, decide_eq_true h4⟩, decide_eq_true h2⟩, by simp⟩
  · rintro ⟨⟨⟨⟨⟨h5, h1⟩, h3⟩, h4⟩, h2⟩, _⟩
    have h5 := of_decide_eq_true h5
    have h1 := of_decide_eq_true h1
    have h3 := of_decide_eq_true h3
    have h4 := of_decide_eq_true h4
    have h2 := of_decide_eq_true h2
    simp only [textB, bodyB, h1, h2, h3, h4, h5]
end Go.Proofs.Ytlngjalclagojaa
