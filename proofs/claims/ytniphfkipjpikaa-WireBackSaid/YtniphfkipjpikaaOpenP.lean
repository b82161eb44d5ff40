/- How parts among a statement's arguments read. -/
import Derived.Test.YtniphfkipjpikaaOpenS
import Derived.Test.YtniphfkipjpikaaWirT
namespace Go.Proofs.Ytniphfkipjpikaa
open Go.ChangeShapes Go.WideShapes Go.ChangeAt Go.RowKit

section
variable {H : Type} {enc : TypeId × Value → H} {W : World} {sp : Nat → Bool} {base : Nat} {held : Bool}
theorem part_cells : Try.prog.cellsOf 67 = 17 := by kernel_rfl
theorem pu64_cells : Try.prog.cellsOf 23 = 1 := by kernel_rfl
theorem pu8_cells : Try.prog.cellsOf 5 = 1 := by kernel_rfl
theorem pb_cells : Try.prog.cellsOf 55 = 1 := by kernel_rfl
theorem at_one {cs : List Value} {o : Nat} {v : Value} (h : (cs.drop o).take 1 = [v]) : cs[o]? = some v := by
  have h3 : ((cs.drop o).take 1)[0]? = some v := by rw [h]; rfl
  rw [List.getElem?_take, if_pos (by omega), List.getElem?_drop] at h3
  simpa using h3

set_option maxRecDepth 100000 in
/-- A slice of bytes among cells. -/
theorem cells_bytes {fuel : Nat} {cs : List Value} {x : DataW H × List MemPlace} (hf : DataW.trod enc Try.prog W base sp held fuel 55 cs = some x) :
    ∃ (ad : Option Addr) (cap : Nat) (bs : List Nat), cs = [.slice ad bs.length cap] ∧ SliceAt W (.slice ad bs.length cap) bs.length 1 (bC bs) ∧ ∀ y ∈ bs, y < 256 := by
  rcases DataW.trod_slice Try.underlying55 hf with ⟨hcs1, _⟩ | ⟨a, len, cap, elems, rest, m, _, hcs1, _, _, hl, hm, hel, hall, _⟩
  · refine ⟨none, 0, [], hcs1, ⟨none, 0, rfl, fun _ => ⟨rfl, rfl⟩, by simp, .inl rfl⟩, fun y hy => by cases hy⟩
  · by_cases h0 : len = 0
    · subst h0
      exact ⟨some a, cap, [], hcs1, ⟨some a, cap, rfl, fun e => (by cases e), ⟨by simp, by simp⟩, .inl rfl⟩, fun y hy => by cases hy⟩
    · rw [pu8_cells] at hall
      have hone : ∀ k, k < len → ∃ c : Nat, W.cell? (a.add (k * 1)) = some (.int .u8 (c : Int)) ∧ c < 256 := by
        intro k hk
        have h1 := hall k hk
        rw [List.getElem?_eq_getElem (by omega)] at h1
        obtain ⟨ds, hc, ht⟩ := Option.bind_eq_some_iff.1 h1
        unfold World.cells? at hc
        split at hc
        · obtain ⟨c, rfl, _, w0⟩ := DataW.trod_int Try.underlying5 ht
          have b0 := Go.bounds_u8 w0
          obtain ⟨c', rfl⟩ := Int.eq_ofNat_of_zero_le b0.1
          have h2 := mapM_some_get hc 0 0 (by simp)
          have e0 : (a.add (k * 1)).add 0 = a.add (k * 1) := by simp [Addr.add]
          rw [e0] at h2
          exact ⟨c', h2, by omega⟩
        · cases hc
      obtain ⟨c0, hc0, _⟩ := hone 0 (by omega)
      have e0 : a.add (0 * 1) = a := by simp [Addr.add]
      rw [e0] at hc0
      have hsp : a.spot = none := by
        unfold World.cell? at hc0
        cases hh : W.heap[a.block]? with
        | none => rw [hh] at hc0; cases hc0
        | some o =>
          rw [hh] at hc0
          cases o <;> first
            | (simp only at hc0; cases hs : a.spot with
               | none => rfl
               | some q => rw [hs] at hc0; simp at hc0)
            | (simp at hc0)
      obtain ⟨ab, ao, asp⟩ := a
      simp only at hsp
      subst hsp
      obtain ⟨g, hg⟩ : ∃ g : Nat → Nat, ∀ k, k < len → W.cell? ⟨ab, ao + k * 1, none⟩ = some (.int .u8 (g k : Int)) ∧ g k < 256 := by
        have hone' : ∀ k, k < len → ∃ c : Nat, W.cell? ⟨ab, ao + k * 1, none⟩ = some (.int .u8 (c : Int)) ∧ c < 256 := fun k hk => by
          obtain ⟨c, h⟩ := hone k hk
          exact ⟨c, by rw [← Addr.add_mid]; exact h.1, h.2⟩
        refine ⟨fun k => if hk : k < len then (hone' k hk).choose else 0, fun k hk => ?_⟩
        have := (hone' k hk).choose_spec
        simp only [dif_pos hk]
        exact this
      have hlen : ((List.range len).map g).length = len := by simp
      have hget : ∀ k, k < len → ((List.range len).map g).getD k 0 = g k := by
        intro k hk
        rw [List.getD_eq_getElem?_getD, List.getElem?_map, List.getElem?_range hk]
        rfl
      refine ⟨some ⟨ab, ao, none⟩, cap, (List.range len).map g, by rw [hlen]; exact hcs1, ?_, ?_⟩
      · rw [hlen]
        refine ⟨_, cap, rfl, fun e => (by cases e), ⟨hl, by unfold maxLen at hm; omega⟩, .inr ⟨ab, ao, rfl, World.block_lt_of_cell? W _ hc0, fun k hk j u hu => ?_⟩⟩
        unfold bC at hu
        rw [hget k hk] at hu
        cases j with
        | zero =>
          have hu2 : Value.int .u8 ((g k : Nat) : Int) = u := Option.some.inj hu
          rw [← hu2]
          exact (hg k hk).1
        | succ j => simp at hu
      · intro y hy
        obtain ⟨k, hk, rfl⟩ := List.mem_map.1 hy
        exact (hg k (by simpa using hk)).2

set_option maxRecDepth 100000 in
theorem cells_part {fuel : Nat} {cs : List Value} {x : DataW H × List MemPlace} (hf : DataW.trod enc Try.prog W base sp held fuel 67 cs = some x) :
    ∃ p : Pt, cs = (PTA p).toList ∧ PtOk W p ∧ (∀ y ∈ p.bs, y < 256) ∧ (-9223372036854775808 ≤ p.most ∧ p.most ≤ 9223372036854775807) := by
  obtain ⟨xs, n, _, _, hl, hlen, hall⟩ := DataW.trod_struct Try.underlying67 hf
  rw [part_cells] at hl
  match xs, hlen with
  | [y0, y1, y2, y3, y4, y5], _ =>
    have h0 : DataW.trod enc Try.prog W base sp held n 3 ((cs.drop 0).take (Try.prog.cellsOf 3)) = some y0 := hall 0 _ rfl
    have h1 : DataW.trod enc Try.prog W base sp held n 3 ((cs.drop 1).take (Try.prog.cellsOf 3)) = some y1 := hall 1 _ rfl
    have h2 : DataW.trod enc Try.prog W base sp held n 3 ((cs.drop 2).take (Try.prog.cellsOf 3)) = some y2 := hall 2 _ rfl
    have h3 : DataW.trod enc Try.prog W base sp held n 23 ((cs.drop 3).take (Try.prog.cellsOf 23)) = some y3 := hall 3 _ rfl
    have h4 : DataW.trod enc Try.prog W base sp held n 55 ((cs.drop 4).take (Try.prog.cellsOf 55)) = some y4 := hall 4 _ rfl
    have h5 : DataW.trod enc Try.prog W base sp held n 65 ((cs.drop 5).take (Try.prog.cellsOf 65)) = some y5 := hall 5 _ rfl
    rw [i64_cells] at h0 h1 h2
    rw [pu64_cells] at h3
    rw [pb_cells] at h4
    rw [vec_cells] at h5
    obtain ⟨v0, e0, _, w0⟩ := DataW.trod_int Try.underlying3 h0
    obtain ⟨v1, e1, _, w1⟩ := DataW.trod_int Try.underlying3 h1
    obtain ⟨v2, e2, _, w2⟩ := DataW.trod_int Try.underlying3 h2
    obtain ⟨v3, e3, _, w3⟩ := DataW.trod_int Try.underlying23 h3
    obtain ⟨ad, cap, bs, e4, hsl, hby⟩ := cells_bytes h4
    obtain ⟨f, e5, w5⟩ := cells_vec h5
    have b1 := Go.bounds_i64 w1
    have b2 := Go.bounds_i64 w2
    have b3 := Go.bounds_u64 w3
    have c0 := at_one e0
    have c1 := at_one e1
    have c2 := at_one e2
    have c3 := at_one e3
    have c4 := at_one e4
    obtain ⟨k, rfl⟩ := Int.eq_ofNat_of_zero_le b3.1
    refine ⟨⟨v0, v1, v2, k, ad, cap, bs, f⟩, ?_, ⟨b1, by show k < _; omega, fun i => by have := w5 i; show f i < _; omega, hsl⟩, hby, b2⟩
    apply List.ext_getElem?
    intro i
    rw [show ∀ l, (PTA l).toList[i]? = (PTA l)[i]? from fun l => Array.getElem?_toList]
    by_cases hi : i < 5
    · rcases (show i = 0 ∨ i = 1 ∨ i = 2 ∨ i = 3 ∨ i = 4 by omega) with rfl | rfl | rfl | rfl | rfl
      · rw [PTA_get0]; exact c0
      · rw [PTA_get1]; exact c1
      · rw [PTA_get2]; exact c2
      · rw [PTA_get3]; exact c3
      · rw [PTA_get4]; exact c4
    · by_cases hi2 : i < 17
      · obtain ⟨j, rfl⟩ : ∃ j, i = 5 + j := ⟨i - 5, by omega⟩
        have hj : j < 12 := by omega
        have h6 : ((cs.drop 5).take 12)[j]? = (VA f).toList[j]? := by rw [e5]
        rw [List.getElem?_take, if_pos hj, List.getElem?_drop, show (VA f).toList[j]? = (VA f)[j]? from Array.getElem?_toList, VA_get f j hj] at h6
        rw [h6, PTA_v _ j hj]
      · rw [List.getElem?_eq_none (by omega), Array.getElem?_eq_none (by rw [PTA_size]; omega)]
/-- The cells of the k-th part. -/
def ptC (L : Nat → Pt) (k : Nat) : List Value := (PTA (L k)).toList
def pt0 : Pt := ⟨0, 0, 0, 0, none, 0, [], fun _ => 0⟩
set_option maxRecDepth 100000 in
theorem trod_parts {v : Value} {d : DataW H} {p : List MemPlace} {b0 : Nat} (hval : Value.okWide Try.prog W .any b0 61 v) (h : DataW.Trod enc Try.prog W base sp held 61 v d p) :
    ∃ (n : Nat) (L : Nat → Pt), SliceAt W v n 17 (ptC L) ∧ (∀ k, k < n → PtOk W (L k) ∧ (∀ y ∈ (L k).bs, y < 256) ∧ (-9223372036854775808 ≤ (L k).most ∧ (L k).most ≤ 9223372036854775807)) := by
  obtain ⟨ad, n, cap, rfl, h1, h2, h3⟩ := trod_slice_gen Try.underlying61 part_cells (by decide) hval h
  rcases h3 with rfl | ⟨b, off, rfl, hb, hall⟩
  · exact ⟨0, fun _ => pt0, ⟨ad, cap, rfl, h1, h2, .inl rfl⟩, fun k hk => by omega⟩
  · have hone : ∀ k, k < n → ∃ m : Pt, (∀ j u, (PTA m).toList[j]? = some u → W.cell? ⟨b, off + k * 17 + j, none⟩ = some u) ∧ PtOk W m ∧ (∀ y ∈ m.bs, y < 256) ∧ (-9223372036854775808 ≤ m.most ∧ m.most ≤ 9223372036854775807) := by
      intro k hk
      obtain ⟨cs, fuel, x, hl, ht, hc⟩ := hall k hk
      obtain ⟨m, rfl, hm⟩ := cells_part ht
      exact ⟨m, hc, hm⟩
    obtain ⟨L, hL⟩ : ∃ L : Nat → Pt, ∀ k, k < n → (∀ j u, (PTA (L k)).toList[j]? = some u → W.cell? ⟨b, off + k * 17 + j, none⟩ = some u) ∧ PtOk W (L k) ∧ (∀ y ∈ (L k).bs, y < 256) ∧ (-9223372036854775808 ≤ (L k).most ∧ (L k).most ≤ 9223372036854775807) := by
      refine ⟨fun k => if hk : k < n then (hone k hk).choose else pt0, fun k hk => ?_⟩
      have := (hone k hk).choose_spec
      simp only [dif_pos hk]
      exact this
    exact ⟨n, L, ⟨_, cap, rfl, h1, h2, .inr ⟨b, off, rfl, hb, fun k hk j u hu => (hL k hk).1 j u hu⟩⟩, fun k hk => (hL k hk).2⟩
end
end Go.Proofs.Ytniphfkipjpikaa
