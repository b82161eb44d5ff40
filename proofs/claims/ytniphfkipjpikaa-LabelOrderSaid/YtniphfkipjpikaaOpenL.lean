/- How labels and bytes among a statement's arguments read. -/
import Derived.Test.YtniphfkipjpikaaOpenS
import Derived.Test.YtniphfkipjpikaaLbH
namespace Go.Proofs.Ytniphfkipjpikaa
open Go.ChangeShapes Go.WideShapes Go.ChangeAt Go.RowKit

section
variable {H : Type} {enc : TypeId × Value → H} {W : World} {sp : Nat → Bool} {base : Nat} {held : Bool}
theorem lab_cells : Try.prog.cellsOf 87 = 17 := by kernel_rfl
theorem lu64_cells : Try.prog.cellsOf 23 = 1 := by kernel_rfl
theorem lu8_cells : Try.prog.cellsOf 5 = 1 := by kernel_rfl
theorem at_cell {cs : List Value} {o : Nat} {v : Value} (h : (cs.drop o).take 1 = [v]) : cs[o]? = some v := by
  have h3 : ((cs.drop o).take 1)[0]? = some v := by rw [h]; rfl
  rw [List.getElem?_take, if_pos (by omega), List.getElem?_drop] at h3
  simpa using h3

set_option maxRecDepth 100000 in
theorem cells_lab {fuel : Nat} {cs : List Value} {x : DataW H × List MemPlace} (hf : DataW.trod enc Try.prog W base sp held fuel 87 cs = some x) :
    ∃ l : Lb, cs = (LA l).toList ∧ Typed l ∧ vok l.deps := by
  obtain ⟨xs, n, _, _, hl, hlen, hall⟩ := DataW.trod_struct Try.underlying87 hf
  rw [lab_cells] at hl
  match xs, hlen with
  | [y0, y1, y2, y3, y4, y5], _ =>
    have h0 : DataW.trod enc Try.prog W base sp held n 23 ((cs.drop 0).take (Try.prog.cellsOf 23)) = some y0 := hall 0 _ rfl
    have h1 : DataW.trod enc Try.prog W base sp held n 3 ((cs.drop 1).take (Try.prog.cellsOf 3)) = some y1 := hall 1 _ rfl
    have h2 : DataW.trod enc Try.prog W base sp held n 63 ((cs.drop 2).take (Try.prog.cellsOf 63)) = some y2 := hall 2 _ rfl
    have h3 : DataW.trod enc Try.prog W base sp held n 3 ((cs.drop 3).take (Try.prog.cellsOf 3)) = some y3 := hall 3 _ rfl
    have h4 : DataW.trod enc Try.prog W base sp held n 3 ((cs.drop 4).take (Try.prog.cellsOf 3)) = some y4 := hall 4 _ rfl
    have h5 : DataW.trod enc Try.prog W base sp held n 65 ((cs.drop 5).take (Try.prog.cellsOf 65)) = some y5 := hall 5 _ rfl
    rw [lu64_cells] at h0
    rw [i64_cells] at h1 h3 h4
    rw [u32_cells] at h2
    rw [vec_cells] at h5
    obtain ⟨v0, e0, _, w0⟩ := DataW.trod_int Try.underlying23 h0
    obtain ⟨v1, e1, _, w1⟩ := DataW.trod_int Try.underlying3 h1
    obtain ⟨v2, e2, _, w2⟩ := DataW.trod_int Try.underlying63 h2
    obtain ⟨v3, e3, _, w3⟩ := DataW.trod_int Try.underlying3 h3
    obtain ⟨v4, e4, _, w4⟩ := DataW.trod_int Try.underlying3 h4
    obtain ⟨f, e5, w5⟩ := cells_vec h5
    have b0 := Go.bounds_u64 w0
    have b1 := Go.bounds_i64 w1
    have b2 := Go.bounds_u32 w2
    have b3 := Go.bounds_i64 w3
    have b4 := Go.bounds_i64 w4
    have c0 := at_cell e0
    have c1 := at_cell e1
    have c2 := at_cell e2
    have c3 := at_cell e3
    have c4 := at_cell e4
    obtain ⟨t, rfl⟩ := Int.eq_ofNat_of_zero_le b0.1
    obtain ⟨k, rfl⟩ := Int.eq_ofNat_of_zero_le b2.1
    have hvf : VA (fun i => if i < 12 then f i else 0) = VA f := VA_ext fun i hi => by simp [hi]
    refine ⟨⟨t, v1, k, v3, v4, fun i => if i < 12 then f i else 0⟩, ?_, ⟨by show t < _; omega, b1, by show k < _; omega, b3, b4, fun i => ?_⟩, fun i => ?_, fun i hi => ?_⟩
    · apply List.ext_getElem?
      intro i
      rw [show ∀ l, (LA l).toList[i]? = (LA l)[i]? from fun l => Array.getElem?_toList]
      by_cases hi : i < 5
      · rcases (show i = 0 ∨ i = 1 ∨ i = 2 ∨ i = 3 ∨ i = 4 by omega) with rfl | rfl | rfl | rfl | rfl
        · rw [LA_get0]; exact c0
        · rw [LA_get1]; exact c1
        · rw [LA_get2]; exact c2
        · rw [LA_get3]; exact c3
        · rw [LA_get4]; exact c4
      · by_cases hi2 : i < 17
        · obtain ⟨j, rfl⟩ : ∃ j, i = 5 + j := ⟨i - 5, by omega⟩
          have hj : j < 12 := by omega
          have h6 : ((cs.drop 5).take 12)[j]? = (VA f).toList[j]? := by rw [e5]
          rw [List.getElem?_take, if_pos hj, List.getElem?_drop, show (VA f).toList[j]? = (VA f)[j]? from Array.getElem?_toList, VA_get f j hj] at h6
          rw [h6, LA_deps _ j hj]
          simp [hj]
        · rw [List.getElem?_eq_none (by omega), Array.getElem?_eq_none (by rw [LA_size]; omega)]
    · show (if i < 12 then f i else 0) < _
      split
      · have := w5 i; omega
      · omega
    · show (if i < 12 then f i else 0) ≤ _
      split
      · exact w5 i
      · omega
    · show (if i < 12 then f i else 0) = 0
      rw [if_neg (by omega)]
theorem trod_lab {v : Value} {d : DataW H} {p : List MemPlace} (h : DataW.Trod enc Try.prog W base sp held 87 v d p) :
    ∃ l : Lb, v = .agg (LA l) ∧ Typed l ∧ vok l.deps := by
  obtain ⟨fuel, hf⟩ := h
  obtain ⟨l, hc, hm⟩ := cells_lab hf
  refine ⟨l, ?_, hm⟩
  have := agg_of_cells hc (by rw [Array.length_toList, LA_size]; omega)
  simpa using this
set_option maxRecDepth 100000 in
theorem trod_bytes {v : Value} {d : DataW H} {p : List MemPlace} {b0 : Nat} (hval : Value.okWide Try.prog W .any b0 55 v) (h : DataW.Trod enc Try.prog W base sp held 55 v d p) :
    ∃ bs : List Nat, SliceAt W v bs.length 1 (bC bs) ∧ (∀ x ∈ bs, x < 256) ∧ bs.length ≤ 9223372036854775807 := by
  obtain ⟨ad, n, cap, rfl, h1, h2, h3⟩ := trod_slice_gen Try.underlying55 lu8_cells (by decide) hval h
  rcases h3 with rfl | ⟨b, off, rfl, hb, hall⟩
  · exact ⟨[], ⟨ad, cap, rfl, h1, h2, .inl rfl⟩, (fun x hx => by cases hx), by simp⟩
  · have hone : ∀ k, k < n → ∃ c : Nat, W.cell? ⟨b, off + k * 1 + 0, none⟩ = some (.int .u8 (c : Int)) ∧ c < 256 := by
      intro k hk
      obtain ⟨cs, fuel, x, hl, ht, hc⟩ := hall k hk
      obtain ⟨c, rfl, _, w0⟩ := DataW.trod_int Try.underlying5 ht
      have b0 := Go.bounds_u8 w0
      obtain ⟨c', rfl⟩ := Int.eq_ofNat_of_zero_le b0.1
      exact ⟨c', hc 0 _ rfl, by omega⟩
    obtain ⟨g, hg⟩ : ∃ g : Nat → Nat, ∀ k, k < n → W.cell? ⟨b, off + k * 1 + 0, none⟩ = some (.int .u8 (g k : Int)) ∧ g k < 256 := by
      refine ⟨fun k => if hk : k < n then (hone k hk).choose else 0, fun k hk => ?_⟩
      have := (hone k hk).choose_spec
      simp only [dif_pos hk]
      exact this
    have hlen : ((List.range n).map g).length = n := by simp
    have hget : ∀ k, k < n → ((List.range n).map g).getD k 0 = g k := by
      intro k hk
      rw [List.getD_eq_getElem?_getD, List.getElem?_map, List.getElem?_range hk]
      rfl
    refine ⟨(List.range n).map g, ?_, ?_, ?_⟩
    · rw [hlen]
      refine ⟨_, cap, rfl, h1, h2, .inr ⟨b, off, rfl, hb, fun k hk j u hu => ?_⟩⟩
      unfold bC at hu
      rw [hget k hk] at hu
      cases j with
      | zero =>
        have hu2 : Value.int .u8 ((g k : Nat) : Int) = u := Option.some.inj hu
        rw [← hu2]
        exact (hg k hk).1
      | succ j => simp at hu
    · intro x hx
      obtain ⟨k, hk, rfl⟩ := List.mem_map.1 hx
      exact (hg k (by simpa using hk)).2
    · rw [hlen]; omega
end
end Go.Proofs.Ytniphfkipjpikaa
