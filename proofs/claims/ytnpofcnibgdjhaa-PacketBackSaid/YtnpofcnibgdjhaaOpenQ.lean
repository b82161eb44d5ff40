/- How bytes among a statement's arguments read. -/
import Derived.Test.YtnpofcnibgdjhaaOpenS
import Derived.Test.YtnpofcnibgdjhaaWirE
namespace Go.Proofs.Ytnpofcnibgdjhaa
open Go.ChangeShapes Go.WideShapes Go.ChangeAt Go.RowKit

section
variable {H : Type} {enc : TypeId × Value → H} {W : World} {sp : Nat → Bool} {base : Nat} {held : Bool}
theorem pu64_cells : Try.prog.cellsOf 29 = 1 := by kernel_rfl
theorem pu8_cells : Try.prog.cellsOf 5 = 1 := by kernel_rfl
theorem pb_cells : Try.prog.cellsOf 30 = 1 := by kernel_rfl
theorem at_one {cs : List Value} {o : Nat} {v : Value} (h : (cs.drop o).take 1 = [v]) : cs[o]? = some v := by
  have h3 : ((cs.drop o).take 1)[0]? = some v := by rw [h]; rfl
  rw [List.getElem?_take, if_pos (by omega), List.getElem?_drop] at h3
  simpa using h3


set_option maxRecDepth 100000 in
/-- A slice of bytes among cells. -/
theorem cells_bytes {fuel : Nat} {cs : List Value} {x : DataW H × List MemPlace} (hf : DataW.trod enc Try.prog W base sp held fuel 30 cs = some x) :
    ∃ (ad : Option Addr) (cap : Nat) (bs : List Nat), cs = [.slice ad bs.length cap] ∧ SliceAt W (.slice ad bs.length cap) bs.length 1 (bC bs) ∧ ∀ y ∈ bs, y < 256 := by
  rcases DataW.trod_slice Try.underlying30 hf with ⟨hcs1, _⟩ | ⟨a, len, cap, elems, rest, m, _, hcs1, _, _, hl, hm, hel, hall, _⟩
  · refine ⟨none, 0, [], hcs1, ⟨none, 0, rfl, fun _ => ⟨rfl, rfl⟩, by simp, .inl rfl⟩, fun y hy => by cases hy⟩
  · by_cases h0 : len = 0
    · subst h0
      exact ⟨some a, cap, [], hcs1, ⟨some a, cap, rfl, fun e => (by cases e), ⟨by simp, by simp⟩, .inl rfl⟩, fun y hy => by cases hy⟩
    · rw [pu8_cells] at hall
      have hone : ∀ k, k < len → ∃ c : Nat, W.cell? (a.add (k * 1)) = some (.int .u8 (c : Int)) ∧ c < 256 := by
        intro k hk
        have h1 := hall k hk
        rw [List.getElem?_eq_getElem (by omega)] at h1
        obtain ⟨ds, hc, ht⟩ := Option.bind_eq_some_iff.1 h1
        unfold World.cells? at hc
        split at hc
        · obtain ⟨c, rfl, _, w0⟩ := DataW.trod_int Try.underlying5 ht
          have b0 := Go.bounds_u8 w0
          obtain ⟨c', rfl⟩ := Int.eq_ofNat_of_zero_le b0.1
          have h2 := mapM_some_get hc 0 0 (by simp)
          have e0 : (a.add (k * 1)).add 0 = a.add (k * 1) := by simp [Addr.add]
          rw [e0] at h2
          exact ⟨c', h2, by omega⟩
        · cases hc
      obtain ⟨c0, hc0, _⟩ := hone 0 (by omega)
      have e0 : a.add (0 * 1) = a := by simp [Addr.add]
      rw [e0] at hc0
      have hsp : a.spot = none := by
        unfold World.cell? at hc0
        cases hh : W.heap[a.block]? with
        | none => rw [hh] at hc0; cases hc0
        | some o =>
          rw [hh] at hc0
          cases o <;> first
            | (simp only at hc0; cases hs : a.spot with
               | none => rfl
               | some q => rw [hs] at hc0; simp at hc0)
            | (simp at hc0)
      obtain ⟨ab, ao, asp⟩ := a
      simp only at hsp
      subst hsp
      obtain ⟨g, hg⟩ : ∃ g : Nat → Nat, ∀ k, k < len → W.cell? ⟨ab, ao + k * 1, none⟩ = some (.int .u8 (g k : Int)) ∧ g k < 256 := by
        have hone' : ∀ k, k < len → ∃ c : Nat, W.cell? ⟨ab, ao + k * 1, none⟩ = some (.int .u8 (c : Int)) ∧ c < 256 := fun k hk => by
          obtain ⟨c, h⟩ := hone k hk
          exact ⟨c, by rw [← Addr.add_mid]; exact h.1, h.2⟩
        refine ⟨fun k => if hk : k < len then (hone' k hk).choose else 0, fun k hk => ?_⟩
        have := (hone' k hk).choose_spec
        simp only [dif_pos hk]
        exact this
      have hlen : ((List.range len).map g).length = len := by simp
      have hget : ∀ k, k < len → ((List.range len).map g).getD k 0 = g k := by
        intro k hk
        rw [List.getD_eq_getElem?_getD, List.getElem?_map, List.getElem?_range hk]
        rfl
      refine ⟨some ⟨ab, ao, none⟩, cap, (List.range len).map g, by rw [hlen]; exact hcs1, ?_, ?_⟩
      · rw [hlen]
        refine ⟨_, cap, rfl, fun e => (by cases e), ⟨hl, by unfold maxLen at hm; omega⟩, .inr ⟨ab, ao, rfl, World.block_lt_of_cell? W _ hc0, fun k hk j u hu => ?_⟩⟩
        unfold bC at hu
        rw [hget k hk] at hu
        cases j with
        | zero =>
          have hu2 : Value.int .u8 ((g k : Nat) : Int) = u := Option.some.inj hu
          rw [← hu2]
          exact (hg k hk).1
        | succ j => simp at hu
      · intro y hy
        obtain ⟨k, hk, rfl⟩ := List.mem_map.1 hy
        exact (hg k (by simpa using hk)).2


set_option maxRecDepth 100000 in
theorem trod_bytes {v : Value} {d : DataW H} {p : List MemPlace} {b0 : Nat} (hval : Value.okWide Try.prog W .any b0 30 v) (h : DataW.Trod enc Try.prog W base sp held 30 v d p) :
    ∃ bs : List Nat, SliceAt W v bs.length 1 (bC bs) ∧ (∀ x ∈ bs, x < 256) ∧ bs.length ≤ 9223372036854775807 := by
  obtain ⟨ad, n, cap, rfl, h1, h2, h3⟩ := trod_slice_gen Try.underlying30 pu8_cells (by decide) hval h
  rcases h3 with rfl | ⟨b, off, rfl, hb, hall⟩
  · exact ⟨[], ⟨ad, cap, rfl, h1, h2, .inl rfl⟩, (fun x hx => by cases hx), by simp⟩
  · have hone : ∀ k, k < n → ∃ c : Nat, W.cell? ⟨b, off + k * 1 + 0, none⟩ = some (.int .u8 (c : Int)) ∧ c < 256 := by
      intro k hk
      obtain ⟨cs, fuel, x, hl, ht, hc⟩ := hall k hk
      obtain ⟨c, rfl, _, w0⟩ := DataW.trod_int Try.underlying5 ht
      have b0 := Go.bounds_u8 w0
      obtain ⟨c', rfl⟩ := Int.eq_ofNat_of_zero_le b0.1
      exact ⟨c', hc 0 _ rfl, by omega⟩
    obtain ⟨g, hg⟩ : ∃ g : Nat → Nat, ∀ k, k < n → W.cell? ⟨b, off + k * 1 + 0, none⟩ = some (.int .u8 (g k : Int)) ∧ g k < 256 := by
      refine ⟨fun k => if hk : k < n then (hone k hk).choose else 0, fun k hk => ?_⟩
      have := (hone k hk).choose_spec
      simp only [dif_pos hk]
      exact this
    have hlen : ((List.range n).map g).length = n := by simp
    have hget : ∀ k, k < n → ((List.range n).map g).getD k 0 = g k := by
      intro k hk
      rw [List.getD_eq_getElem?_getD, List.getElem?_map, List.getElem?_range hk]
      rfl
    refine ⟨(List.range n).map g, ?_, ?_, ?_⟩
    · rw [hlen]
      refine ⟨_, cap, rfl, h1, h2, .inr ⟨b, off, rfl, hb, fun k hk j u hu => ?_⟩⟩
      unfold bC at hu
      rw [hget k hk] at hu
      cases j with
      | zero =>
        have hu2 : Value.int .u8 ((g k : Nat) : Int) = u := Option.some.inj hu
        rw [← hu2]
        exact (hg k hk).1
      | succ j => simp at hu
    · intro x hx
      obtain ⟨k, hk, rfl⟩ := List.mem_map.1 hx
      exact (hg k (by simpa using hk)).2
    · rw [hlen]; omega
end
end Go.Proofs.Ytnpofcnibgdjhaa
