/- How the arguments of the clock's statements read. -/
import Derived.Test.YtniphfkipjpikaaFrame
import Derived.Test.YtniphfkipjpikaaVecP
namespace Go.Proofs.Ytniphfkipjpikaa
open Go.ChangeShapes Go.WideShapes Go.ChangeAt Go.RowKit

theorem agg_of_cells {v : Value} {cs : List Value} (h : v.cells.toList = cs) (hl : cs.length ≠ 1) : v = .agg cs.toArray := by
  cases v <;> first
    | (simp only [Value.cells] at h; subst h; rfl)
    | (exfalso; subst h; exact hl rfl)

section
variable {H : Type} {enc : TypeId × Value → H} {W : World} {sp : Nat → Bool} {base : Nat} {held : Bool}

theorem cells_vec {fuel : Nat} {cs : List Value} {x : DataW H × List MemPlace} (hf : DataW.trod enc Try.prog W base sp held fuel 65 cs = some x) :
    ∃ f : Nat → Nat, cs = (VA f).toList ∧ ∀ i, f i ≤ 4294967295 := by
  obtain ⟨xs, m, _, _, hlen, hxl, hall⟩ := DataW.trod_array Try.underlying65 hf
  rw [vec_cells] at hlen
  have hcell : ∀ i, i < 12 → ∃ n : Nat, cs[i]? = some (.int .u32 (n : Int)) ∧ n ≤ 4294967295 := by
    intro i hi
    have h1 := hall i hi
    rw [u32_cells, Nat.mul_one] at h1
    obtain ⟨y, hy⟩ : ∃ y, xs[i]? = some y := ⟨xs[i], List.getElem?_eq_getElem (by omega)⟩
    rw [hy] at h1
    obtain ⟨n, hn, _, hw⟩ := DataW.trod_int Try.underlying63 h1
    have h2 : cs[i]? = some (.int .u32 n) := by
      have h3 : ((cs.drop i).take 1)[0]? = some (.int .u32 n) := by rw [hn]; rfl
      rw [List.getElem?_take, if_pos (by omega), List.getElem?_drop] at h3
      simpa using h3
    simp only [Lit.wf, Bool.and_eq_true, decide_eq_true_eq] at hw
    have h4 : (0 : Int) ≤ n ∧ n ≤ 4294967295 := by
      have h5 : (Lit.int .u32 n).wf = true := by simpa [Lit.wf] using hw
      have := Go.bounds_u32 h5
      omega
    refine ⟨n.toNat, ?_, by omega⟩
    rw [h2]
    congr 2
    omega
  refine ⟨fun i => match cs[i]? with | some (.int .u32 n) => if i < 12 then n.toNat else 0 | _ => 0, ?_, ?_⟩
  · apply List.ext_getElem?
    intro i
    by_cases hi : i < 12
    · obtain ⟨n, hn, _⟩ := hcell i hi
      have h1 : (VA fun i => match cs[i]? with | some (.int .u32 n) => if i < 12 then n.toNat else 0 | _ => 0).toList[i]? = some (.int .u32 (n : Int)) := by
        rw [Array.getElem?_toList, VA_get _ _ hi]
        simp [hn, hi]
      rw [h1, hn]
    · rw [List.getElem?_eq_none (by omega), List.getElem?_eq_none (by rw [Array.length_toList, VA_size]; omega)]
  · intro i
    by_cases hi : i < 12
    · obtain ⟨n, hn, hle⟩ := hcell i hi
      simp only [hn, hi, if_true]
      omega
    · have : cs[i]? = none := List.getElem?_eq_none (by omega)
      simp [this]

theorem trod_vec {v : Value} {d : DataW H} {p : List MemPlace} (h : DataW.Trod enc Try.prog W base sp held 65 v d p) :
    ∃ f : Nat → Nat, v = .agg (VA f) ∧ ∀ i, f i ≤ 4294967295 := by
  obtain ⟨fuel, hf⟩ := h
  obtain ⟨f, hc, hle⟩ := cells_vec hf
  refine ⟨f, ?_, hle⟩
  have := agg_of_cells hc (by rw [Array.length_toList, VA_size]; omega)
  simpa using this

set_option maxRecDepth 100000 in
theorem trod_int {t : TypeId} {k : IntKind} {b : Nat} (ht : Try.prog.underlying t = some (.int k)) {v : Value} {d : DataW H} {p : List MemPlace} (hval : Value.okWide Try.prog W .any b t v) (h : DataW.Trod enc Try.prog W base sp held t v d p) :
    ∃ n : Int, v = .int k n ∧ (Lit.int k n).wf = true := by
  obtain ⟨n, h1, _, _, h2⟩ := open_int ht hval h
  exact ⟨n, h1, h2⟩

theorem dot_cells : Try.prog.cellsOf 99 = 2 := by kernel_rfl
theorem i64_cells : Try.prog.cellsOf 3 = 1 := by kernel_rfl

theorem trod_dot {v : Value} {d : DataW H} {p : List MemPlace} (h : DataW.Trod enc Try.prog W base sp held 99 v d p) :
    ∃ (n : Int) (k : Nat), v = .agg #[.int .i64 n, .int .u32 (k : Int)] ∧ (-9223372036854775808 ≤ n ∧ n ≤ 9223372036854775807) ∧ k ≤ 4294967295 := by
  obtain ⟨fuel, hf⟩ := h
  obtain ⟨y0, y1, m, _, hlen, h0, h1⟩ := trod_struct2 Try.underlying99 hf
  rw [dot_cells] at hlen
  match hcs : v.cells.toList, hlen with
  | [a, b], _ =>
    rw [hcs] at h0 h1
    simp only [i64_cells, u32_cells, List.drop_zero, List.take_succ_cons, List.take_zero, List.drop_succ_cons] at h0 h1
    obtain ⟨n, hn, _, w0⟩ := DataW.trod_int Try.underlying3 h0
    obtain ⟨k, hk, _, w1⟩ := DataW.trod_int Try.underlying63 h1
    simp only [List.cons.injEq, and_true] at hn hk
    subst hn; subst hk
    have b0 := Go.bounds_i64 w0
    have b1 := Go.bounds_u32 w1
    obtain ⟨k', rfl⟩ : ∃ k' : Nat, k = k' := ⟨k.toNat, by omega⟩
    exact ⟨n, k', agg_of_cells hcs (by simp), b0, by omega⟩

set_option maxRecDepth 100000 in
theorem trod_vecs {v : Value} {d : DataW H} {p : List MemPlace} {b0 : Nat} (hval : Value.okWide Try.prog W .any b0 143 v) (h : DataW.Trod enc Try.prog W base sp held 143 v d p) :
    (∃ ad cap, v = .slice ad 0 cap) ∨ ∃ (b off n cap : Nat) (L : Nat → Nat → Nat), v = .slice (some ⟨b, off, none⟩) n cap ∧ 0 < n ∧ n ≤ 9223372036854775807 ∧ b < W.heap.size ∧ ∀ k, k < n → W.rangeAt b (off + k * 12) (VA (L k)).toList := by
  obtain ⟨ad, len, cap, rfl⟩ := okWide_slice Try.underlying143 hval
  obtain ⟨fuel, hf⟩ := h
  rcases DataW.trod_slice Try.underlying143 hf with ⟨hcs, _⟩ | ⟨a, len', cap', elems, rest, m, _, hcs, _, _, hl, hm, hel, hall, _⟩
  · simp [Value.cells] at hcs
    obtain ⟨_, rfl, _⟩ := hcs
    exact .inl ⟨_, _, rfl⟩
  · simp [Value.cells] at hcs
    obtain ⟨rfl, rfl, rfl⟩ := hcs
    by_cases h0 : len = 0
    · subst h0
      exact .inl ⟨_, _, rfl⟩
    · right
      rw [vec_cells] at hall
      have hone : ∀ k, k < len → ∃ f : Nat → Nat, ∀ j, j < 12 → W.cell? ((a.add (k * 12)).add j) = some (.int .u32 (f j : Int)) := by
        intro k hk
        have h1 := hall k hk
        rw [List.getElem?_eq_getElem (by omega)] at h1
        obtain ⟨cs, hc, ht⟩ := Option.bind_eq_some_iff.1 h1
        obtain ⟨f, hcf, _⟩ := cells_vec ht
        refine ⟨f, fun j hj => ?_⟩
        unfold World.cells? at hc
        split at hc
        · have h2 := mapM_some_get hc j j (by simp [hj])
          rw [h2, hcf, Array.getElem?_toList, VA_get _ _ hj]
        · cases hc
      obtain ⟨f0, hf0⟩ := hone 0 (by omega)
      have hc0 := hf0 0 (by omega)
      have e0 : (a.add (0 * 12)).add 0 = a := by simp [Addr.add]
      rw [e0] at hc0
      have hsp : a.spot = none := by
        unfold World.cell? at hc0
        cases hh : W.heap[a.block]? with
        | none => rw [hh] at hc0; cases hc0
        | some o =>
          rw [hh] at hc0
          cases o <;> first
            | (simp only at hc0; cases hs : a.spot with
               | none => rfl
               | some q => rw [hs] at hc0; simp at hc0)
            | (simp at hc0)
      obtain ⟨ab, ao, asp⟩ := a
      simp only at hsp
      subst hsp
      have hone' : ∀ k, k < len → ∃ f : Nat → Nat, ∀ j, j < 12 → W.cell? ⟨ab, ao + k * 12 + j, none⟩ = some (.int .u32 (f j : Int)) := by
        intro k hk
        obtain ⟨f, h⟩ := hone k hk
        exact ⟨f, fun j hj => by have := h j hj; rwa [Addr.add_mid, Addr.add_mid] at this⟩
      refine ⟨ab, ao, len, cap, fun k => if hk : k < len then (hone' k hk).choose else fun _ => 0, rfl, by omega, by unfold maxLen at hm; omega, World.block_lt_of_cell? W _ hc0, ?_⟩
      intro k hk j v hv
      have hj : j < 12 := by
        have := (List.getElem?_eq_some_iff.1 hv).1
        simpa [VA_size] using this
      have h1 := (hone' k hk).choose_spec j hj
      rw [h1]
      rw [Array.getElem?_toList, VA_get _ _ hj] at hv
      simp only [dif_pos hk] at hv
      exact hv
end
theorem laidOut : laidOutB Try.prog = true := by kernel_rfl
theorem own : ownKnob Try.prog.godebug = none := by kernel_rfl
end Go.Proofs.Ytniphfkipjpikaa
