/- How marks, quantities and totals among a statement's arguments read. -/
import Derived.Test.YtniphfkipjpikaaOpenS
import Derived.Test.YtniphfkipjpikaaMkS
namespace Go.Proofs.Ytniphfkipjpikaa
open Go.ChangeShapes Go.WideShapes Go.ChangeAt Go.RowKit

section
variable {H : Type} {enc : TypeId × Value → H} {W : World} {sp : Nat → Bool} {base : Nat} {held : Bool}
theorem rk_cells : Try.prog.cellsOf 25 = 3 := by kernel_rfl
theorem rt_cells : Try.prog.cellsOf 45 = 4 := by kernel_rfl
theorem su_cells : Try.prog.cellsOf 23 = 1 := by kernel_rfl
theorem sb_cells : Try.prog.cellsOf 4 = 1 := by kernel_rfl

set_option maxRecDepth 100000 in
theorem cells_rk {fuel : Nat} {cs : List Value} {x : DataW H × List MemPlace} (hf : DataW.trod enc Try.prog W base sp held fuel 25 cs = some x) :
    ∃ m : Mk, cs = [.int .i64 m.flag, .bool m.has, .int .u64 (m.price : Int)] ∧ m.fine := by
  obtain ⟨xs, n, _, _, hl, hlen, hall⟩ := DataW.trod_struct Try.underlying25 hf
  rw [rk_cells] at hl
  match cs, hl, xs, hlen with
  | [a, b, c], _, [y0, y1, y2], _ =>
    have h0 : DataW.trod enc Try.prog W base sp held n 3 (([a, b, c].drop 0).take (Try.prog.cellsOf 3)) = some y0 := hall 0 _ rfl
    have h1 : DataW.trod enc Try.prog W base sp held n 4 (([a, b, c].drop 1).take (Try.prog.cellsOf 4)) = some y1 := hall 1 _ rfl
    have h2 : DataW.trod enc Try.prog W base sp held n 23 (([a, b, c].drop 2).take (Try.prog.cellsOf 23)) = some y2 := hall 2 _ rfl
    simp only [i64_cells, su_cells, sb_cells, List.drop_zero, List.take_succ_cons, List.take_zero, List.drop_succ_cons] at h0 h1 h2
    obtain ⟨F, e0, _, w0⟩ := DataW.trod_int Try.underlying3 h0
    obtain ⟨h, e1, _⟩ := DataW.trod_bool Try.underlying4 h1
    obtain ⟨p, e2, _, w2⟩ := DataW.trod_int Try.underlying23 h2
    simp only [List.cons.injEq, and_true] at e0 e1 e2
    subst e0; subst e1; subst e2
    have b0 := Go.bounds_i64 w0
    have b2 := Go.bounds_u64 w2
    obtain ⟨q, rfl⟩ := Int.eq_ofNat_of_zero_le b2.1
    exact ⟨⟨F, h, q⟩, rfl, b0, by show q < _; omega⟩
theorem trod_rk {v : Value} {d : DataW H} {p : List MemPlace} (h : DataW.Trod enc Try.prog W base sp held 25 v d p) :
    ∃ m : Mk, v = .agg #[.int .i64 m.flag, .bool m.has, .int .u64 (m.price : Int)] ∧ m.fine := by
  obtain ⟨fuel, hf⟩ := h
  obtain ⟨m, hc, hm⟩ := cells_rk hf
  exact ⟨m, agg_of_cells hc (by simp), hm⟩
set_option maxRecDepth 100000 in
theorem trod_rks {v : Value} {d : DataW H} {p : List MemPlace} {b0 : Nat} (hval : Value.okWide Try.prog W .any b0 22 v) (h : DataW.Trod enc Try.prog W base sp held 22 v d p) :
    ∃ (n : Nat) (L : Nat → Mk), SliceAt W v n 3 (rC L) ∧ (∀ k, k < n → (L k).price < 18446744073709551616) := by
  obtain ⟨ad, n, cap, rfl, h1, h2, h3⟩ := trod_slice_gen Try.underlying22 rk_cells (by decide) hval h
  rcases h3 with rfl | ⟨b, off, rfl, hb, hall⟩
  · exact ⟨0, fun _ => mk0, ⟨ad, cap, rfl, h1, h2, .inl rfl⟩, fun k hk => by omega⟩
  · have hone : ∀ k, k < n → ∃ m : Mk, (∀ j u, [Value.int .i64 m.flag, .bool m.has, .int .u64 (m.price : Int)][j]? = some u → W.cell? ⟨b, off + k * 3 + j, none⟩ = some u) ∧ m.fine := by
      intro k hk
      obtain ⟨cs, fuel, x, hl, ht, hc⟩ := hall k hk
      obtain ⟨m, rfl, hm⟩ := cells_rk ht
      exact ⟨m, hc, hm⟩
    refine ⟨n, fun k => if hk : k < n then (hone k hk).choose else mk0, ⟨_, cap, rfl, h1, h2, .inr ⟨b, off, rfl, hb, fun k hk j u hu => ?_⟩⟩, fun k hk => ?_⟩
    · unfold rC at hu
      simp only [dif_pos hk] at hu
      exact (hone k hk).choose_spec.1 j u hu
    · simp only [dif_pos hk]
      exact (hone k hk).choose_spec.2.2
set_option maxRecDepth 100000 in
theorem trod_qs {v : Value} {d : DataW H} {p : List MemPlace} {b0 : Nat} (hval : Value.okWide Try.prog W .any b0 43 v) (h : DataW.Trod enc Try.prog W base sp held 43 v d p) :
    ∃ (n : Nat) (q : Nat → Int), SliceAt W v n 1 (qC q) ∧ ∀ k, k < n → -9223372036854775808 ≤ q k ∧ q k ≤ 9223372036854775807 := by
  obtain ⟨ad, n, cap, rfl, h1, h2, h3⟩ := trod_slice_gen Try.underlying43 i64_cells (by decide) hval h
  rcases h3 with rfl | ⟨b, off, rfl, hb, hall⟩
  · exact ⟨0, fun _ => 0, ⟨ad, cap, rfl, h1, h2, .inl rfl⟩, fun k hk => by omega⟩
  · have hone : ∀ k, k < n → ∃ m : Int, W.cell? ⟨b, off + k * 1, none⟩ = some (.int .i64 m) ∧ -9223372036854775808 ≤ m ∧ m ≤ 9223372036854775807 := by
      intro k hk
      obtain ⟨cs, fuel, x, hl, ht, hc⟩ := hall k hk
      obtain ⟨m, rfl, _, hw⟩ := DataW.trod_int Try.underlying3 ht
      exact ⟨m, hc 0 _ rfl, Go.bounds_i64 hw⟩
    refine ⟨n, fun k => if hk : k < n then (hone k hk).choose else 0, ⟨_, cap, rfl, h1, h2, .inr ⟨b, off, rfl, hb, fun k hk j u hu => ?_⟩⟩, fun k hk => ?_⟩
    · match j, hu with
      | 0, hu =>
        simp only [qC, dif_pos hk, List.getElem?_cons_zero, Option.some.injEq] at hu
        subst hu
        exact (hone k hk).choose_spec.1
    · simp only [dif_pos hk]
      exact (hone k hk).choose_spec.2
set_option maxRecDepth 100000 in
theorem trod_rt {v : Value} {d : DataW H} {p : List MemPlace} (h : DataW.Trod enc Try.prog W base sp held 45 v d p) :
    ∃ (a b c : Int) (s : Nat), v = .agg #[.int .i64 a, .int .i64 b, .int .i64 c, .int .u64 (s : Int)] ∧ s < 18446744073709551616 := by
  obtain ⟨fuel, hf⟩ := h
  obtain ⟨xs, n, _, _, hl, hlen, hall⟩ := DataW.trod_struct Try.underlying45 hf
  rw [rt_cells] at hl
  match hcs : v.cells.toList, hl, xs, hlen with
  | [a, b, c, e], _, [y0, y1, y2, y3], _ =>
    rw [hcs] at hall
    have h0 : DataW.trod enc Try.prog W base sp held n 3 (([a, b, c, e].drop 0).take (Try.prog.cellsOf 3)) = some y0 := hall 0 _ rfl
    have h1 : DataW.trod enc Try.prog W base sp held n 3 (([a, b, c, e].drop 1).take (Try.prog.cellsOf 3)) = some y1 := hall 1 _ rfl
    have h2 : DataW.trod enc Try.prog W base sp held n 3 (([a, b, c, e].drop 2).take (Try.prog.cellsOf 3)) = some y2 := hall 2 _ rfl
    have h3 : DataW.trod enc Try.prog W base sp held n 23 (([a, b, c, e].drop 3).take (Try.prog.cellsOf 23)) = some y3 := hall 3 _ rfl
    simp only [i64_cells, su_cells, List.drop_zero, List.take_succ_cons, List.take_zero, List.drop_succ_cons] at h0 h1 h2 h3
    obtain ⟨A, e0, _, _⟩ := DataW.trod_int Try.underlying3 h0
    obtain ⟨B, e1, _, _⟩ := DataW.trod_int Try.underlying3 h1
    obtain ⟨C, e2, _, _⟩ := DataW.trod_int Try.underlying3 h2
    obtain ⟨S, e3, _, w3⟩ := DataW.trod_int Try.underlying23 h3
    simp only [List.cons.injEq, and_true] at e0 e1 e2 e3
    subst e0; subst e1; subst e2; subst e3
    have b3 := Go.bounds_u64 w3
    obtain ⟨q, rfl⟩ := Int.eq_ofNat_of_zero_le b3.1
    exact ⟨A, B, C, q, agg_of_cells hcs (by simp), by omega⟩
end
end Go.Proofs.Ytniphfkipjpikaa
