/- How a packet among a statement's arguments reads. -/
import Derived.Test.YtnpofcnibgdjhaaOpenQ
import Derived.Test.YtnpofcnibgdjhaaPkH
namespace Go.Proofs.Ytnpofcnibgdjhaa
open Go.ChangeShapes Go.WideShapes Go.ChangeAt Go.RowKit

section
variable {H : Type} {enc : TypeId × Value → H} {W : World} {sp : Nat → Bool} {base : Nat} {held : Bool}
theorem packet_cells : Try.prog.cellsOf 69 = 5 := by kernel_rfl
theorem pbool_cells : Try.prog.cellsOf 4 = 1 := by kernel_rfl

set_option maxRecDepth 100000 in
theorem cells_pk {fuel : Nat} {cs : List Value} {x : DataW H × List MemPlace} (hf : DataW.trod enc Try.prog W base sp held fuel 69 cs = some x) :
    ∃ (k : Pk) (ad : Option Addr) (cap : Nat), cs = (pkA k ad cap).toList ∧ DatAt W k ad cap ∧ (∀ x ∈ k.bs, x < 256) ∧ k.seq < 18446744073709551616 := by
  obtain ⟨xs, n, _, _, hl, hlen, hall⟩ := DataW.trod_struct Try.underlying69 hf
  rw [packet_cells] at hl
  match xs, hlen with
  | [y0, y1, y2, y3, y4], _ =>
    have h0 : DataW.trod enc Try.prog W base sp held n 4 ((cs.drop 0).take (Try.prog.cellsOf 4)) = some y0 := hall 0 _ rfl
    have h1 : DataW.trod enc Try.prog W base sp held n 3 ((cs.drop 1).take (Try.prog.cellsOf 3)) = some y1 := hall 1 _ rfl
    have h2 : DataW.trod enc Try.prog W base sp held n 3 ((cs.drop 2).take (Try.prog.cellsOf 3)) = some y2 := hall 2 _ rfl
    have h3 : DataW.trod enc Try.prog W base sp held n 29 ((cs.drop 3).take (Try.prog.cellsOf 29)) = some y3 := hall 3 _ rfl
    have h4 : DataW.trod enc Try.prog W base sp held n 30 ((cs.drop 4).take (Try.prog.cellsOf 30)) = some y4 := hall 4 _ rfl
    rw [pbool_cells] at h0
    rw [i64_cells] at h1 h2
    rw [pu64_cells] at h3
    rw [pb_cells] at h4
    obtain ⟨v0, e0, _⟩ := DataW.trod_bool Try.underlying4 h0
    obtain ⟨v1, e1, _, w1⟩ := DataW.trod_int Try.underlying3 h1
    obtain ⟨v2, e2, _, w2⟩ := DataW.trod_int Try.underlying3 h2
    obtain ⟨v3, e3, _, w3⟩ := DataW.trod_int Try.underlying29 h3
    obtain ⟨ad, cap, bs, e4, hsl, hby⟩ := cells_bytes h4
    have b3 := Go.bounds_u64 w3
    have c0 := at_one e0
    have c1 := at_one e1
    have c2 := at_one e2
    have c3 := at_one e3
    have c4 := at_one e4
    obtain ⟨k, rfl⟩ := Int.eq_ofNat_of_zero_le b3.1
    refine ⟨⟨v0, v1, v2, k, bs⟩, ad, cap, ?_, hsl, hby, by show k < _; omega⟩
    match cs, hl with
    | [a, b, c, d, e], _ =>
      simp at c0 c1 c2 c3 c4
      subst c0 c1 c2 c3 c4
      rfl
theorem trod_pk {v : Value} {d : DataW H} {p : List MemPlace} (h : DataW.Trod enc Try.prog W base sp held 69 v d p) :
    ∃ (k : Pk) (ad : Option Addr) (cap : Nat), v = .agg (pkA k ad cap) ∧ DatAt W k ad cap ∧ (∀ x ∈ k.bs, x < 256) ∧ k.seq < 18446744073709551616 := by
  obtain ⟨fuel, hf⟩ := h
  obtain ⟨k, ad, cap, hc, h1, h2, h3⟩ := cells_pk hf
  exact ⟨k, ad, cap, agg_of_cells hc (by simp [pkA]), h1, h2, h3⟩
end
end Go.Proofs.Ytnpofcnibgdjhaa
