/- The reader of bytes: a vector. -/
import Derived.Test.YtnpofcnibgdjhaaWirJ
namespace Go.Proofs.Ytnpofcnibgdjhaa
open Go.RowKit
variable {X : Nat → Prop}

/-- k numbers more of a vector, the next one at i. -/
def decVs (f : Nat → Nat) (i : Nat) : Nat → List Nat → Rd (Nat → Nat)
  | 0, bs => .ok f bs
  | k + 1, bs => match decS 4294967295 bs with
    | .ok x rest => decVs (upd f i x) (i + 1) k rest
    | .fault e => .fault e
/-- A vector. -/
def decV (bs : List Nat) : Rd (Nat → Nat) := match decS 12 bs with
  | .ok n rest => (match decVs (fun _ => 0) 0 n rest with
    | .ok f r => if n = 0 ∨ 0 < f (n - 1) then .ok f r else .fault 3
    | .fault e => .fault e)
  | .fault e => .fault e
theorem decVs_zero (f : Nat → Nat) (i : Nat) (bs : List Nat) : decVs f i 0 bs = .ok f bs := rfl
theorem decVs_ok {f : Nat → Nat} {i k : Nat} {bs : List Nat} {x : Nat} {rest : List Nat} (h : decS 4294967295 bs = .ok x rest) : decVs f i (k + 1) bs = decVs (upd f i x) (i + 1) k rest := by
  rw [show decVs f i (k + 1) bs = (match decS 4294967295 bs with
    | .ok x rest => decVs (upd f i x) (i + 1) k rest
    | .fault e => .fault e) from rfl, h]
theorem decVs_fault {f : Nat → Nat} {i k : Nat} {bs : List Nat} {e : Int} (h : decS 4294967295 bs = .fault e) : decVs f i (k + 1) bs = .fault e := by
  unfold decVs
  rw [h]
theorem decS_rest {most : Nat} {bs : List Nat} {n : Nat} {rest : List Nat} (h : decS most bs = .ok n rest) : ∀ x ∈ rest, x ∈ bs := by
  obtain ⟨_, _, pre, rfl, _⟩ := decS_ok h
  intro x hx
  exact List.mem_append_right _ hx

/-- What a reader has stays, when cells are written that are no bytes and not its own. -/
theorem rd_aside {w : World} {p b i : Nat} {bs : List Nat} {cs : Array Value} {t : TypeId} {u : Value} (h : RdAt X w p bs) (hl : look w b = some (.cells cs t (0, 0))) (hne : p ≠ b) (hcs : ∀ (j : Nat) (x : Int), cs[j]? ≠ some (.int .u8 x)) : RdAt X (w.setCell ⟨b, i, none⟩ u) p bs := by
  obtain ⟨v, hp, ⟨ad, cap, e, h2, h3, h4⟩, hX⟩ := h
  refine ⟨v, by rw [look_set_other (a := ⟨b, i, none⟩) hne]; exact hp, ⟨ad, cap, e, h2, h3, ?_⟩, hX⟩
  rcases h4 with h4 | ⟨b2, off, e2, hb, hR⟩
  · exact .inl h4
  · by_cases hn : bs.length = 0
    · exact .inl hn
    · have hbp : b2 ≠ b := by
        rintro rfl
        have h0 := hR 0 (by omega) 0 _ rfl
        rw [look_cell hl] at h0
        exact hcs _ _ h0
      refine .inr ⟨b2, off, e2, by simpa using hb, fun k hk j y hy => ?_⟩
      rw [← hR k hk j y hy]
      exact World.cell?_of_block (heap_setCell_other w ⟨b, i, none⟩ b2 u hbp)
theorem rd_aside_row {w : World} {p b : Nat} {bs : List Nat} {cs cs' : Array Value} {t : TypeId} (h : RdAt X w p bs) (hl : look w b = some (.cells cs t (0, 0))) (hne : p ≠ b) (hcs : ∀ (j : Nat) (x : Int), cs[j]? ≠ some (.int .u8 x)) : RdAt X (w.setRow b cs') p bs := by
  obtain ⟨v, hp, ⟨ad, cap, e, h2, h3, h4⟩, hX⟩ := h
  refine ⟨v, by rw [look_setRow, if_neg hne]; exact hp, ⟨ad, cap, e, h2, h3, ?_⟩, hX⟩
  rcases h4 with h4 | ⟨b2, off, e2, hb, hR⟩
  · exact .inl h4
  · by_cases hn : bs.length = 0
    · exact .inl hn
    · have hbp : b2 ≠ b := by
        rintro rfl
        have h0 := hR 0 (by omega) 0 _ rfl
        rw [look_cell hl] at h0
        exact hcs _ _ h0
      refine .inr ⟨b2, off, e2, by simpa [World.setRow] using hb, fun k hk j y hy => ?_⟩
      rw [← hR k hk j y hy]
      exact World.cell?_of_block (by have := look_setRow w b b2 cs'; rw [if_neg hbp] at this; exact this)
theorem grown_row_new {w w2 : World} {row : Option Nat} (h : w.grownBy w2 row) {b : Nat} (hb : w.heap.size ≤ b) (cs : Array Value) : w.grownBy (w2.setRow b cs) row :=
  ⟨h.os, h.tape, h.output, by simpa [World.setRow] using h.size, fun k hk hne => by
    have := look_setRow w2 b k cs
    rw [if_neg (by omega)] at this
    exact this.trans (h.block k hk hne)⟩
theorem VA_not_byte (f : Nat → Nat) (j : Nat) (x : Int) : (VA f)[j]? ≠ some (.int .u8 x) := by
  intro h
  by_cases hj : j < 12
  · rw [VA_get f j hj] at h
    cases h
  · rw [Array.getElem?_eq_none (by rw [VA_size]; omega)] at h
    cases h
theorem grown_set_new {w w2 : World} {row : Option Nat} (h : w.grownBy w2 row) {b : Nat} (hb : w.heap.size ≤ b) (i : Nat) (u : Value) : w.grownBy (w2.setCell ⟨b, i, none⟩ u) row :=
  ⟨h.os, h.tape, h.output, by simpa using h.size, fun k hk hne => (heap_setCell_other w2 ⟨b, i, none⟩ k u (by show k ≠ b; omega)).trans (h.block k hk hne)⟩

end Go.Proofs.Ytnpofcnibgdjhaa
