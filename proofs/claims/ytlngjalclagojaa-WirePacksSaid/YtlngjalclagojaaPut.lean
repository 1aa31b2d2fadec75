/-
  Walks: wire.put.
-/
import Derived.Test.YtlngjalclagojaaProg
import Derived.Test.YtlngjalclagojaaBase
import Derived.Test.YtlngjalclagojaaLaws
namespace Go.Proofs.Ytlngjalclagojaa
open Go.RowKit

theorem sl_bytes : SlT Try.prog 26 5 1 1 := SlT.mk1 (z := .int .u8 0) Try.underlying26 (by kernel_rfl) rfl (by decide)

/-- the bytes of a number: 'm' of them from the highest of 'width' on -/
def beB (n : Int) (width : Nat) : Nat → List UInt8
  | 0 => []
  | m + 1 => beB n width m ++ [UInt8.ofInt (n / 2 ^ (8 * (width - 1 - m)))]

theorem beB_length (n : Int) (width : Nat) : ∀ m, (beB n width m).length = m
  | 0 => rfl
  | m + 1 => by simp [beB, beB_length n width m]

set_option maxHeartbeats 400000 in
theorem put_any (B : Nat) (v : Value) (l : List UInt8) (width : Nat) (n : Int) (g : Nat) (w : World) (hB : B ≤ w.heap.size) (hown : OwnX w B 5 1 v l.length (bytesV l))
    (hg : w.heap[g]? = some (.cells #[.int .i64 n] 3 (0, 0))) (hn0 : 0 ≤ n) (hn1 : n ≤ 9223372036854775807) (hw : width ≤ 8) (hl : l.length ≤ 1000000) :
    Calls Try.prog 25 #[v, .int .i64 width, .slice (some ⟨g, 0, none⟩) 1 1] w fun e w' => ∃ v', e = .returned v' ∧
      OwnX w' B 5 1 v' (l.length + width) (bytesV (l ++ beB n width width)) ∧ w.grownBy w' v.ownBlock ∧ Next w v v' := by
  have hcell := cell_of_one hg
  go_enter Try.func25, Try.ntmps25
  go_wp2_with fail
  refine wp_loop_rounds 2 ?_
  rw [rounds_succ]
  go_wp2_with fail
  go_loopw [0, 9] (fun v1 i wr => ∃ (k : Nat), k ≤ width ∧ i = .int .i64 ((width : Int) - 1 - k) ∧ OwnX wr B 5 1 v1 (l.length + k) (bytesV (l ++ beB n width k)) ∧ w.grownBy wr v.ownBlock ∧ Next w v v1)
    (fun _ i _ => (intOf i + 1).toNat)
  case atStart => exact ⟨0, Nat.zero_le _, by go_num, by simpa [beB] using hown, World.grownBy.refl _ _, Next.refl _ _⟩
  case round =>
    obtain ⟨k, hk, rfl, hown1, hgr, hat⟩ := hrel
    by_cases hlt : k < width
    · go_wp2_with (at_builtin; go_loud (refine wpList_append_one sl_bytes rfl rfl hown1 rfl rfl rfl rfl (by unfold maxLen; omega) (by omega) (by have := hgr.size; omega) ?_); intro A c w2 hown2 hgr2 hn2)

      refine ⟨⟨k + 1, hlt, by go_num, ?_, grown_next hgr hat hgr2, hat.trans hn2 hgr.size⟩, by simp [intOf]; omega⟩
      have e1 : bytesV (l ++ beB n width (k + 1)) = bytesV (l ++ beB n width k) ++ [Value.int IntKind.u8 (n / 2 ^ (8 * (width - 1 - k)) % 256)] := by
        rw [beB, ← List.append_assoc, bytesV_append _ [_]]
        congr 1
        simp only [bytesV, List.map_cons, List.map_nil]
        rw [byteV_ofInt _ (Int.ediv_nonneg hn0 (by exact_mod_cast Nat.zero_le _))]
      rw [e1]
      exact hown2
    · obtain rfl : k = width := by omega
      go_wp2_with fail
      rw [rounds_succ]
      go_wp2_with fail
      go_ret
      exact ⟨_, rfl, hown1, hgr, hat⟩
/-- put's contracts at the widths that occur, in the walk's own spelling. -/
def PutPost (B : Nat) (v : Value) (l : List UInt8) (w : World) (e : Ending) (w' : World) : Prop :=
  ∃ A c, e = .returned (.slice A l.length c) ∧ OwnX w' B 5 1 (.slice A l.length c) l.length (bytesV l) ∧ w.grownBy w' v.ownBlock ∧ Next w v (.slice A l.length c)
theorem PutPost.mk_ {B : Nat} {v v' : Value} {n : Nat} {l : List UInt8} {w w' : World} (hown : OwnX w' B 5 1 v' n (bytesV l)) (hg : w.grownBy w' v.ownBlock) (hn : Next w v v') : PutPost B v l w (.returned v') w' := by
  have hnl : n = l.length := by have := hown.1; rw [bytesV_length] at this; omega
  subst hnl
  rcases hown.2 with ⟨rfl, h0⟩ | ⟨g, cap, cur, fz, rfl, _⟩
  · rw [PutPost, h0]; rw [h0] at hown; exact ⟨none, 0, rfl, hown, hg, hn⟩
  · exact ⟨_, _, rfl, hown, hg, hn⟩
theorem put1 {B : Nat} {v : Value} {l L : List UInt8} {n : Int} {g : Nat} {w : World} (hB : B ≤ w.heap.size) (hown : OwnX w B 5 1 v l.length (bytesV l))
    (hg : w.heap[g]? = some (.cells #[.int .i64 n] 3 (0, 0))) (hn0 : 0 ≤ n) (hn1 : n ≤ 9223372036854775807) (hl : l.length ≤ 1000000) (hL : L = l ++ beB n 1 1) :
    Calls Try.prog 25 #[v, .int .i64 1, .slice (some ⟨g, 0, none⟩) 1 1] w (PutPost B v L w) :=
  (put_any B v l 1 n g w hB hown hg hn0 hn1 (by omega) hl).mono fun e w' ⟨v', he, h1, h2, h3⟩ => by subst he; subst hL; exact .mk_ h1 h2 h3
theorem put2 {B : Nat} {v : Value} {l L : List UInt8} {n : Int} {g : Nat} {w : World} (hB : B ≤ w.heap.size) (hown : OwnX w B 5 1 v l.length (bytesV l))
    (hg : w.heap[g]? = some (.cells #[.int .i64 n] 3 (0, 0))) (hn0 : 0 ≤ n) (hn1 : n ≤ 9223372036854775807) (hl : l.length ≤ 1000000) (hL : L = l ++ beB n 2 2) :
    Calls Try.prog 25 #[v, .int .i64 2, .slice (some ⟨g, 0, none⟩) 1 1] w (PutPost B v L w) :=
  (put_any B v l 2 n g w hB hown hg hn0 hn1 (by omega) hl).mono fun e w' ⟨v', he, h1, h2, h3⟩ => by subst he; subst hL; exact .mk_ h1 h2 h3
theorem put8 {B : Nat} {v : Value} {l L : List UInt8} {n : Int} {g : Nat} {w : World} (hB : B ≤ w.heap.size) (hown : OwnX w B 5 1 v l.length (bytesV l))
    (hg : w.heap[g]? = some (.cells #[.int .i64 n] 3 (0, 0))) (hn0 : 0 ≤ n) (hn1 : n ≤ 9223372036854775807) (hl : l.length ≤ 1000000) (hL : L = l ++ beB n 8 8) :
    Calls Try.prog 25 #[v, .int .i64 8, .slice (some ⟨g, 0, none⟩) 1 1] w (PutPost B v L w) :=
  (put_any B v l 8 n g w hB hown hg hn0 hn1 (by omega) hl).mono fun e w' ⟨v', he, h1, h2, h3⟩ => by subst he; subst hL; exact .mk_ h1 h2 h3

/-- a row of bytes that goes on from v's -/
def Row (B : Nat) (W : World) (v : Value) (l : List UInt8) (x : Value) (w : World) : Prop :=
  ∃ A c, x = .slice A l.length c ∧ OwnX w B 5 1 (.slice A l.length c) l.length (bytesV l) ∧ Next W v (.slice A l.length c)
theorem Row.alloc1 {B : Nat} {W w w' : World} {v x : Value} {l : List UInt8} (h : Row B W v l x w) (ha : Alloc1 w w') : Row B W v l x w' := by
  obtain ⟨A, c, hx, ho, hn⟩ := h; exact ⟨A, c, hx, own_alloc1 ha ho, hn⟩

end Go.Proofs.Ytlngjalclagojaa
