/- How the ops of links among a statement's arguments read. -/
import Derived.Test.YtnpofcnibgdjhaaOpenQ
import Derived.Test.YtnpofcnibgdjhaaLkM
namespace Go.Proofs.Ytnpofcnibgdjhaa
open Go.ChangeShapes Go.WideShapes Go.ChangeAt Go.RowKit

section
variable {H : Type} {enc : TypeId × Value → H} {W : World} {sp : Nat → Bool} {base : Nat} {held : Bool}
theorem lop_cells : Try.prog.cellsOf 32 = 3 := by kernel_rfl

set_option maxRecDepth 100000 in
theorem cells_lop {fuel : Nat} {cs : List Value} {x : DataW H × List MemPlace} (hf : DataW.trod enc Try.prog W base sp held fuel 32 cs = some x) :
    ∃ o : LOp, cs = (opA o).toList ∧ LOpOk W o := by
  obtain ⟨xs, n, _, _, hl, hlen, hall⟩ := DataW.trod_struct Try.underlying32 hf
  rw [lop_cells] at hl
  match xs, hlen with
  | [y0, y1, y2], _ =>
    have h0 : DataW.trod enc Try.prog W base sp held n 3 ((cs.drop 0).take (Try.prog.cellsOf 3)) = some y0 := hall 0 _ rfl
    have h1 : DataW.trod enc Try.prog W base sp held n 29 ((cs.drop 1).take (Try.prog.cellsOf 29)) = some y1 := hall 1 _ rfl
    have h2 : DataW.trod enc Try.prog W base sp held n 30 ((cs.drop 2).take (Try.prog.cellsOf 30)) = some y2 := hall 2 _ rfl
    rw [i64_cells] at h0
    rw [pu64_cells] at h1
    rw [pb_cells] at h2
    obtain ⟨v0, e0, _, w0⟩ := DataW.trod_int Try.underlying3 h0
    obtain ⟨v1, e1, _, w1⟩ := DataW.trod_int Try.underlying29 h1
    obtain ⟨ad, cap, bs, e2, hsl, hby⟩ := cells_bytes h2
    have b1 := Go.bounds_u64 w1
    have c0 := at_one e0
    have c1 := at_one e1
    have c2 := at_one e2
    obtain ⟨k, rfl⟩ := Int.eq_ofNat_of_zero_le b1.1
    refine ⟨⟨v0, k, ad, cap, bs⟩, ?_, ⟨hsl, hby, by show k < _; omega⟩⟩
    match cs, hl with
    | [a, b, c], _ =>
      simp at c0 c1 c2
      subst c0 c1 c2
      rfl
def lop0 : LOp := ⟨0, 0, none, 0, []⟩
set_option maxRecDepth 100000 in
theorem trod_lops {v : Value} {d : DataW H} {p : List MemPlace} {b0 : Nat} (hval : Value.okWide Try.prog W .any b0 22 v) (h : DataW.Trod enc Try.prog W base sp held 22 v d p) :
    ∃ (n : Nat) (L : Nat → LOp), SliceAt W v n 3 (opC L) ∧ (∀ k, k < n → LOpOk W (L k)) := by
  obtain ⟨ad, n, cap, rfl, h1, h2, h3⟩ := trod_slice_gen Try.underlying22 lop_cells (by decide) hval h
  rcases h3 with rfl | ⟨b, off, rfl, hb, hall⟩
  · exact ⟨0, fun _ => lop0, ⟨ad, cap, rfl, h1, h2, .inl rfl⟩, fun k hk => by omega⟩
  · have hone : ∀ k, k < n → ∃ m : LOp, (∀ j u, (opA m).toList[j]? = some u → W.cell? ⟨b, off + k * 3 + j, none⟩ = some u) ∧ LOpOk W m := by
      intro k hk
      obtain ⟨cs, fuel, x, hl, ht, hc⟩ := hall k hk
      obtain ⟨m, rfl, hm⟩ := cells_lop ht
      exact ⟨m, hc, hm⟩
    obtain ⟨L, hL⟩ : ∃ L : Nat → LOp, ∀ k, k < n → (∀ j u, (opA (L k)).toList[j]? = some u → W.cell? ⟨b, off + k * 3 + j, none⟩ = some u) ∧ LOpOk W (L k) := by
      refine ⟨fun k => if hk : k < n then (hone k hk).choose else lop0, fun k hk => ?_⟩
      have := (hone k hk).choose_spec
      simp only [dif_pos hk]
      exact this
    exact ⟨n, L, ⟨_, cap, rfl, h1, h2, .inr ⟨b, off, rfl, hb, fun k hk j u hu => (hL k hk).1 j u hu⟩⟩, fun k hk => (hL k hk).2⟩
end
end Go.Proofs.Ytnpofcnibgdjhaa
