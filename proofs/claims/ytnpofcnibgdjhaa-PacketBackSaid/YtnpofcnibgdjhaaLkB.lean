/- Links in the heap. -/
import Derived.Test.YtnpofcnibgdjhaaLkA
namespace Go.Proofs.Ytnpofcnibgdjhaa
open Go.RowKit

theorem SliceAt.kept {w W : World} {v : Value} {n s : Nat} {C : Nat → List Value} (h : SliceAt w v n s C) (hs : w.heap.size ≤ W.heap.size) (hk : ∀ b, blkOf v = some b → W.heap[b]? = w.heap[b]?) : SliceAt W v n s C := by
  obtain ⟨ad, cap, h1, h2, h3, h4⟩ := h
  refine ⟨ad, cap, h1, h2, h3, ?_⟩
  rcases h4 with h4 | ⟨b, off, h5, h6, h7⟩
  · exact .inl h4
  · refine .inr ⟨b, off, h5, by omega, fun k hk2 j u hu => ?_⟩
    rw [← h7 k hk2 j u hu]
    exact World.cell?_of_block (hk b (by subst h1; subst h5; rfl))
/-- Bytes somewhere, in a block that S tells of. -/
def TextIn (S : Nat → Prop) (w : World) (v : Value) (bs : List Nat) : Prop := SliceAt w v bs.length 1 (bC bs) ∧ ∀ b, blkOf v = some b → S b
theorem TextIn.kept {S T : Nat → Prop} {w W : World} {v : Value} {bs : List Nat} (h : TextIn S w v bs) (hs : w.heap.size ≤ W.heap.size) (hk : ∀ b, S b → W.heap[b]? = w.heap[b]?) (hT : ∀ b, S b → T b) : TextIn T W v bs :=
  ⟨h.1.kept hs fun b hb => hk b (h.2 b hb), fun b hb => hT b (h.2 b hb)⟩
/-- A link at p: its texts, and the slice of them, lie in blocks that S tells of. -/
def LinkAt (S : Nat → Prop) (w : World) (p : Nat) (l : Lk) : Prop := ∃ (v : Value) (us : Nat → Value), look w p = some (.cells #[.int .u64 (l.nx : Int), v, .int .u64 (l.ex : Int)] 51 (0, 0)) ∧ SliceAt w v l.q.length 1 (fun k => [us k]) ∧ (∀ b, blkOf v = some b → S b) ∧ (∀ k, k < l.q.length → TextIn S w (us k) (l.q.getD k [])) ∧ ∀ b, S b → b < w.heap.size ∧ b ≠ p
/-- What S' tells of, S tells of, or it is new. -/
def Grew (w : World) (S S' : Nat → Prop) : Prop := ∀ b, S' b → S b ∨ w.heap.size ≤ b
theorem Grew.refl (w : World) (S : Nat → Prop) : Grew w S S := fun _ h => .inl h
theorem LinkAt.kept {S : Nat → Prop} {w W : World} {p : Nat} {l : Lk} (h : LinkAt S w p l) (hs : w.heap.size ≤ W.heap.size) (hk : ∀ b, b = p ∨ S b → W.heap[b]? = w.heap[b]?) : LinkAt S W p l := by
  obtain ⟨v, us, h1, h2, h3, h4, h5⟩ := h
  refine ⟨v, us, ?_, h2.kept hs fun b hb => hk b (.inr (h3 b hb)), h3, fun k hk2 => (h4 k hk2).kept hs (fun b hb => hk b (.inr hb)) (fun _ x => x), fun b hb => ⟨Nat.lt_of_lt_of_le (h5 b hb).1 hs, (h5 b hb).2⟩⟩
  show W.heap[p]? = _
  rw [hk p (.inl rfl)]
  exact h1
theorem LinkAt.below {S : Nat → Prop} {w W : World} {p : Nat} {l : Lk} (h : LinkAt S w p l) (hb : Below w.heap.size w W) : LinkAt S W p l := by
  have hp : p < w.heap.size := by obtain ⟨v, us, h1, _⟩ := h; exact look_lt h1
  have h5 : ∀ b, S b → b < w.heap.size ∧ b ≠ p := by obtain ⟨v, us, _, _, _, _, h5⟩ := h; exact h5
  refine h.kept hb.size fun b hx => hb.block b ?_
  rcases hx with rfl | hx
  · exact hp
  · exact (h5 b hx).1
theorem LinkAt.lt {S : Nat → Prop} {w : World} {p : Nat} {l : Lk} (h : LinkAt S w p l) : p < w.heap.size := by obtain ⟨v, us, h1, _⟩ := h; exact look_lt h1
theorem LinkAt.blocks {S : Nat → Prop} {w : World} {p : Nat} {l : Lk} (h : LinkAt S w p l) : ∀ b, S b → b < w.heap.size ∧ b ≠ p := by obtain ⟨v, us, _, _, _, _, h5⟩ := h; exact h5
/-- A new text at the end. -/
theorem getD_snoc {α : Type} (l : List α) (x d : α) (k : Nat) : (l ++ [x]).getD k d = if k < l.length then l.getD k d else if k = l.length then x else d := by
  rw [List.getD_eq_getElem?_getD, List.getD_eq_getElem?_getD]
  by_cases h : k < l.length
  · rw [if_pos h, List.getElem?_append_left h]
  · rw [if_neg h, List.getElem?_append_right (by omega)]
    by_cases h2 : k = l.length
    · rw [if_pos h2, h2]; simp
    · rw [if_neg h2]
      obtain ⟨m, hm⟩ : ∃ m, k - l.length = m + 1 := ⟨k - l.length - 1, by omega⟩
      rw [hm]; simp
theorem getD_drop {α : Type} (l : List α) (d : α) (n k : Nat) : (l.drop n).getD k d = l.getD (n + k) d := by
  rw [List.getD_eq_getElem?_getD, List.getD_eq_getElem?_getD, List.getElem?_drop]
end Go.Proofs.Ytnpofcnibgdjhaa
