/- How slices among a statement's arguments read: element by element. -/
import Derived.Test.YtnpofcnibgdjhaaOpen
namespace Go.Proofs.Ytnpofcnibgdjhaa
open Go.ChangeShapes Go.WideShapes Go.ChangeAt Go.RowKit

section
variable {H : Type} {enc : TypeId × Value → H} {W : World} {sp : Nat → Bool} {base : Nat} {held : Bool}

set_option maxRecDepth 100000 in
/-- A slice is empty, or lies in a block; each element's cells can be read, and read as the type asks. -/
theorem trod_slice_any {t e : TypeId} {size : Nat} (hu : Try.prog.underlying t = some (.slice e)) (hcs : Try.prog.cellsOf e = size) (hpos : 0 < size) {v : Value} {d : DataW H} {p : List MemPlace} {b0 : Nat} (hval : Value.okWide Try.prog W .any b0 t v) (h : DataW.Trod enc Try.prog W base sp held t v d p) :
    (∃ ad cap, v = .slice ad 0 cap) ∨ ∃ (b off n cap : Nat), v = .slice (some ⟨b, off, none⟩) n cap ∧ 0 < n ∧ n ≤ 9223372036854775807 ∧ b < W.heap.size ∧
      ∀ k, k < n → ∃ (cs : List Value) (fuel : Nat) (x : DataW H × List MemPlace), cs.length = size ∧ DataW.trod enc Try.prog W base sp held fuel e cs = some x ∧ ∀ j u, cs[j]? = some u → W.cell? ⟨b, off + k * size + j, none⟩ = some u := by
  obtain ⟨ad, len, cap, rfl⟩ := okWide_slice hu hval
  obtain ⟨fuel, hf⟩ := h
  rcases DataW.trod_slice hu hf with ⟨hcs1, _⟩ | ⟨a, len', cap', elems, rest, m, _, hcs1, _, _, hl, hm, hel, hall, _⟩
  · simp [Value.cells] at hcs1
    obtain ⟨_, rfl, _⟩ := hcs1
    exact .inl ⟨_, _, rfl⟩
  · simp [Value.cells] at hcs1
    obtain ⟨rfl, rfl, rfl⟩ := hcs1
    by_cases h0 : len = 0
    · subst h0
      exact .inl ⟨_, _, rfl⟩
    · right
      rw [hcs] at hall
      have hone : ∀ k, k < len → ∃ (cs : List Value) (x : DataW H × List MemPlace), cs.length = size ∧ DataW.trod enc Try.prog W base sp held m e cs = some x ∧ ∀ j u, cs[j]? = some u → W.cell? ((a.add (k * size)).add j) = some u := by
        intro k hk
        have h1 := hall k hk
        rw [List.getElem?_eq_getElem (by omega)] at h1
        obtain ⟨cs, hc, ht⟩ := Option.bind_eq_some_iff.1 h1
        unfold World.cells? at hc
        split at hc
        · have hlen : cs.length = size := by
            have := mapM_some_length hc
            simpa using this
          refine ⟨cs, _, hlen, ht, fun j u hu => ?_⟩
          have hj : j < size := by
            have := (List.getElem?_eq_some_iff.1 hu).1
            omega
          have h2 := mapM_some_get hc j j (by simp [hj])
          rw [h2, hu]
        · cases hc
      obtain ⟨cs0, x0, hl0, _, hf0⟩ := hone 0 (by omega)
      have hc0 := hf0 0 _ (List.getElem?_eq_getElem (by omega))
      have e0 : (a.add (0 * size)).add 0 = a := by simp [Addr.add]
      rw [e0] at hc0
      have hsp : a.spot = none := by
        unfold World.cell? at hc0
        cases hh : W.heap[a.block]? with
        | none => rw [hh] at hc0; cases hc0
        | some o =>
          rw [hh] at hc0
          cases o <;> first
            | (simp only at hc0; cases hs : a.spot with
               | none => rfl
               | some q => rw [hs] at hc0; simp at hc0)
            | (simp at hc0)
      obtain ⟨ab, ao, asp⟩ := a
      simp only at hsp
      subst hsp
      refine ⟨ab, ao, len, cap, rfl, by omega, by unfold maxLen at hm; omega, World.block_lt_of_cell? W _ hc0, fun k hk => ?_⟩
      obtain ⟨cs, x, hl, ht, hc⟩ := hone k hk
      refine ⟨cs, _, x, hl, ht, fun j u hu => ?_⟩
      have := hc j u hu
      rwa [Addr.add_mid, Addr.add_mid] at this

set_option maxRecDepth 100000 in
/-- A slice: nil or somewhere, its length and capacity; each element's cells can be read, and read as the type asks. -/
theorem trod_slice_gen {t e : TypeId} {size : Nat} (hu : Try.prog.underlying t = some (.slice e)) (hcs : Try.prog.cellsOf e = size) (hpos : 0 < size) {v : Value} {d : DataW H} {p : List MemPlace} {b0 : Nat} (hval : Value.okWide Try.prog W .any b0 t v) (h : DataW.Trod enc Try.prog W base sp held t v d p) :
    ∃ (ad : Option Addr) (n cap : Nat), v = .slice ad n cap ∧ (ad = none → n = 0 ∧ cap = 0) ∧ (n ≤ cap ∧ n ≤ 9223372036854775807) ∧ (n = 0 ∨ ∃ b off, ad = some ⟨b, off, none⟩ ∧ b < W.heap.size ∧
      ∀ k, k < n → ∃ (cs : List Value) (fuel : Nat) (x : DataW H × List MemPlace), cs.length = size ∧ DataW.trod enc Try.prog W base sp held fuel e cs = some x ∧ ∀ j u, cs[j]? = some u → W.cell? ⟨b, off + k * size + j, none⟩ = some u) := by
  have h9 := trod_slice_any hu hcs hpos hval h
  obtain ⟨ad, len, cap, rfl⟩ := okWide_slice hu hval
  obtain ⟨fuel, hf⟩ := h
  have hlc : (ad = none → len = 0 ∧ cap = 0) ∧ len ≤ cap ∧ len ≤ 9223372036854775807 := by
    rcases DataW.trod_slice hu hf with ⟨hcs1, _⟩ | ⟨a, len', cap', elems, rest, m, _, hcs1, _, _, hl, hm, _⟩
    · simp [Value.cells] at hcs1
      obtain ⟨_, rfl, rfl⟩ := hcs1
      exact ⟨fun _ => ⟨rfl, rfl⟩, by omega, by omega⟩
    · simp [Value.cells] at hcs1
      obtain ⟨rfl, rfl, rfl⟩ := hcs1
      exact ⟨(fun h => by cases h), hl, by unfold maxLen at hm; omega⟩
  refine ⟨ad, len, cap, rfl, hlc.1, hlc.2, ?_⟩
  rcases h9 with ⟨ad', cap', e⟩ | ⟨b, off, n, cap', e, h0, hm, hb, hall⟩
  · cases e
    exact .inl rfl
  · cases e
    exact .inr ⟨b, off, rfl, hb, hall⟩
end
end Go.Proofs.Ytnpofcnibgdjhaa
