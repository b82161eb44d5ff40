/- Slices whose elements take s cells each: where they lie, how they grow, how they read. -/
import Derived.Test.YtnpofcnibgdjhaaApp
namespace Go.Proofs.Ytnpofcnibgdjhaa
open Go.RowKit

theorem hidP {p : Prop} (h : p) : Hid p := h
/-- The walk stops here: 'refine hidP ?_' goes on. -/
theorem stop_here {p : Prop} (h : Hid p) : p := h.out
theorem cells_new (w : World) (cs : Array Value) (t : TypeId) : ∀ j u, cs.toList[j]? = some u → (w.alloc (.cells cs t)).cell? ((⟨w.heap.size, 0, none⟩ : Addr).add j) = some u := by
  intro j u hu
  rw [Addr.add_lit, look_cell (look_alloc_at _ _ _ rfl), Nat.zero_add, ← hu, Array.getElem?_toList]
theorem own_below {w W : World} {base s n : Nat} {e : TypeId} {v : Value} {xs : List Value} (h : w.ownsRow base e s v n xs) (hb : Below w.heap.size w W) : W.ownsRow base e s v n xs :=
  h.kept (row := none) ⟨hb.os, hb.tape, hb.output, hb.size, fun g hg _ => hb.block g hg⟩ (by cases v.ownBlock <;> simp)
theorem own_setCell {w : World} {base s n g i : Nat} {u : Value} {e : TypeId} {v : Value} {xs : List Value} (h : w.ownsRow base e s v n xs) (hg : g < base) : (w.setCell ⟨g, i, none⟩ u).ownsRow base e s v n xs := by
  refine h.kept (row := some g) ⟨rfl, rfl, rfl, by simp, fun k hk hne => ?_⟩ ?_
  · exact look_set_other (a := ⟨g, i, none⟩) (fun e => hne (by rw [e])) u
  · cases ho : v.ownBlock with
    | none => exact .inl rfl
    | some k =>
      right
      intro e
      have := (h.lt k ho).1
      cases e
      omega
theorem grown_look {w w' : World} {row : Option Nat} (hg : w.grownBy w' row) {k : Nat} (hk : k < w.heap.size) (hr : ∀ g, row = some g → k ≠ g) : look w' k = look w k :=
  hg.block k hk (fun e => hr k e.symm rfl)
/-- The cells of the first n elements. -/
def rowsL (C : Nat → List Value) (n : Nat) : List Value := (List.range n).flatMap C
theorem rowsL_succ (C : Nat → List Value) (n : Nat) : rowsL C n ++ C n = rowsL C (n + 1) := by
  unfold rowsL
  rw [List.range_succ, List.flatMap_append]
  simp
theorem rowsL_len {C : Nat → List Value} {s : Nat} (h : ∀ k, (C k).length = s) : ∀ n, (rowsL C n).length = n * s
  | 0 => by simp [rowsL]
  | n + 1 => by rw [← rowsL_succ, List.length_append, rowsL_len h n, h, Nat.add_mul, Nat.one_mul]
theorem rowsL_get {C : Nat → List Value} {s : Nat} (h : ∀ k, (C k).length = s) : ∀ {n k j : Nat}, k < n → j < s → (rowsL C n)[k * s + j]? = (C k)[j]?
  | 0, k, j, hk, _ => absurd hk (by omega)
  | n + 1, k, j, hk, hj => by
    rw [← rowsL_succ]
    by_cases e : k = n
    · subst e
      rw [List.getElem?_append_right (by rw [rowsL_len h]; omega), rowsL_len h]
      congr 1
      omega
    · have h1 : k * s + j < n * s := by
        have h2 : (k + 1) * s ≤ n * s := Nat.mul_le_mul_right s (by omega)
        rw [Nat.add_mul, Nat.one_mul] at h2
        omega
      rw [List.getElem?_append_left (by rw [rowsL_len h]; exact h1)]
      exact rowsL_get h (by omega) hj
theorem rowsL_ones {C : Nat → List Value} (h : ∀ k, ∀ u ∈ C k, u.oneCell' = true) (n : Nat) : ∀ u ∈ rowsL C n, u.oneCell' = true := by
  intro u hu
  obtain ⟨k, _, hk⟩ := List.mem_flatMap.1 hu
  exact h k u hk
theorem rowsL_same {C D : Nat → List Value} {n : Nat} (h : ∀ k, k < n → C k = D k) : rowsL C n = rowsL D n := by
  induction n with
  | zero => rfl
  | succ n ih => rw [← rowsL_succ, ← rowsL_succ, ih (fun k hk => h k (by omega)), h n (by omega)]
/-- First n of C, then those of D. -/
def thenC {α : Type} (C : Nat → α) (n : Nat) (D : Nat → α) : Nat → α := fun k => if k < n then C k else D (k - n)
theorem rowsL_then (C : Nat → List Value) (n : Nat) (D : Nat → List Value) : ∀ m, rowsL C n ++ rowsL D m = rowsL (thenC C n D) (n + m)
  | 0 => by
    simp only [rowsL, List.range_zero, List.flatMap_nil, List.append_nil, Nat.add_zero]
    exact rowsL_same (n := n) (fun k hk => by unfold thenC; rw [if_pos hk])
  | m + 1 => by
    rw [← rowsL_succ D m, ← List.append_assoc, rowsL_then C n D m, ← Nat.add_assoc, ← rowsL_succ]
    congr 1
    unfold thenC
    rw [if_neg (by omega)]
    congr 1
    omega

/-- A slice of n elements, of s cells each: nil, or somewhere. -/
def SliceAt (w : World) (v : Value) (n s : Nat) (C : Nat → List Value) : Prop :=
  ∃ ad cap, v = .slice ad n cap ∧ (ad = none → n = 0 ∧ cap = 0) ∧ (n ≤ cap ∧ n ≤ 9223372036854775807) ∧ (n = 0 ∨ ∃ b off, ad = some ⟨b, off, none⟩ ∧ b < w.heap.size ∧ ∀ k, k < n → w.rangeAt b (off + k * s) (C k))
theorem SliceAt.below {w W : World} {v : Value} {n s : Nat} {C : Nat → List Value} (h : SliceAt w v n s C) (hb : Below w.heap.size w W) : SliceAt W v n s C := by
  obtain ⟨ad, cap, h1, h2, h3, h4⟩ := h
  refine ⟨ad, cap, h1, h2, h3, ?_⟩
  rcases h4 with h4 | ⟨b, off, h5, h6, h7⟩
  · exact .inl h4
  · exact .inr ⟨b, off, h5, Nat.lt_of_lt_of_le h6 hb.size, fun k hk j u hu => by rw [hb.cell h6]; exact h7 k hk j u hu⟩
theorem SliceAt.same {w : World} {v : Value} {n s : Nat} {C D : Nat → List Value} (h : SliceAt w v n s C) (e : ∀ k, k < n → C k = D k) : SliceAt w v n s D := by
  obtain ⟨ad, cap, h1, h2, h3, h4⟩ := h
  refine ⟨ad, cap, h1, h2, h3, ?_⟩
  rcases h4 with h4 | ⟨b, off, h5, h6, h7⟩
  · exact .inl h4
  · exact .inr ⟨b, off, h5, h6, fun k hk => by rw [← e k hk]; exact h7 k hk⟩
theorem SliceAt.nil (w : World) (s : Nat) (C : Nat → List Value) : SliceAt w (.slice none 0 0) 0 s C := ⟨none, 0, rfl, fun _ => ⟨rfl, rfl⟩, ⟨by omega, by omega⟩, .inl rfl⟩
/-- What the call owns lies somewhere. -/
theorem SliceAt.own {w : World} {base n s : Nat} {e : TypeId} {v : Value} {C : Nat → List Value} (hC : ∀ k, (C k).length = s) (h : w.ownsRow base e s v n (rowsL C n)) : SliceAt w v n s C := by
  rcases h.2 with ⟨rfl, rfl⟩ | ⟨g, cap, cur, rfl, hb, hg, hn, hc, hs, ht⟩
  · exact SliceAt.nil _ _ _
  · refine ⟨_, cap, rfl, fun e => (by cases e), ⟨hn, by unfold maxLen at hc; omega⟩, .inr ⟨g, 0, rfl, (h.lt g rfl).2, fun k hk j u hu => ?_⟩⟩
    have hj : j < s := by
      have := (List.getElem?_eq_some_iff.1 hu).1
      rwa [hC] at this
    have := h.cells (g := g) rfl (k * s + j) u (by rw [rowsL_get hC hk hj]; exact hu)
    rw [Addr.add_lit] at this
    rw [← this]
    congr 2
    omega
/-- What 'append' wants of a slice whose elements it takes. -/
theorem SliceAt.news {w : World} {v : Value} {n s : Nat} {C : Nat → List Value} (hs : 0 < s) (hC : ∀ k, (C k).length = s) (h : SliceAt w v n s C) : (v = .slice none 0 0 ∧ n = 0) ∨ ∃ ad c, v = .slice (some ad) n c ∧ ∀ j u, (rowsL C n)[j]? = some u → w.cell? (ad.add j) = some u := by
  obtain ⟨ad, cap, rfl, h2, h3, h4⟩ := h
  cases ad with
  | none =>
    obtain ⟨rfl, rfl⟩ := h2 rfl
    exact .inl ⟨rfl, rfl⟩
  | some a =>
    refine .inr ⟨a, cap, rfl, fun j u hu => ?_⟩
    have hj : j < n * s := by
      have := (List.getElem?_eq_some_iff.1 hu).1
      rwa [rowsL_len hC] at this
    rcases h4 with rfl | ⟨b, off, h5, h6, h7⟩
    · omega
    · obtain rfl := Option.some.inj h5
      have hk : j / s < n := Nat.div_lt_of_lt_mul (by rw [Nat.mul_comm]; exact hj)
      have hr : j % s < s := Nat.mod_lt _ hs
      have e : j / s * s + j % s = j := by rw [Nat.mul_comm]; exact Nat.div_add_mod j s
      rw [← e, rowsL_get hC hk hr] at hu
      have := h7 _ hk _ u hu
      rw [Addr.add_lit, ← this]
      congr 2
      omega
/-- The word 'a slice of these elements'. -/
def isSl (n s : Nat) (C : Nat → List Value) (v : Value) (w : World) : Prop := SliceAt w v n s C
theorem stab_isSl (n s : Nat) (C : Nat → List Value) : ∀ v w w', isSl n s C v w → Below w.heap.size w w' → isSl n s C v w' := fun _ _ _ h hb => SliceAt.below h hb
/-- A literal of two rows. -/
theorem SliceAt.row {w : World} {b n s : Nat} {t : TypeId} {C : Nat → List Value} {cs : Array Value} (hn : n ≤ 9223372036854775807) (hC : ∀ k, (C k).length = s) (h : look w b = some (.cells cs t (0, 0))) (hc : cs.toList = rowsL C n) : SliceAt w (.slice (some ⟨b, 0, none⟩) n n) n s C := by
  refine ⟨_, n, rfl, fun e => (by cases e), ⟨Nat.le_refl _, hn⟩, .inr ⟨b, 0, rfl, look_lt h, fun k hk j u hu => ?_⟩⟩
  have hj : j < s := by
    have := (List.getElem?_eq_some_iff.1 hu).1
    rwa [hC] at this
  have h1 := rowsL_get hC hk hj
  rw [← hc, Array.getElem?_toList] at h1
  rw [look_cell h, ← hu, ← h1]
  congr 1
  omega
end Go.Proofs.Ytnpofcnibgdjhaa
