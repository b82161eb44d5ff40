/- MarkLattice: for every input the law comes back with true, and the input reads as it did. -/
import Derived.Test.YtniphfkipjpikaaRows
import Derived.Test.YtniphfkipjpikaaOpenM
import Derived.Test.YtniphfkipjpikaaMkM
namespace Go.Proofs.Ytniphfkipjpikaa
open Go.ChangeShapes Go.WideShapes Go.ChangeAt Go.RowKit

set_option maxRecDepth 100000 in
theorem markLattice_walk {H : Type} {enc : TypeId × Value → H} {W : World} {v : Value} {d : DataW H} {p : List MemPlace} {b0 : Nat} (t c : Int) (hval : Value.okWide Try.prog W .any b0 22 v)
    (h : DataW.Trod enc Try.prog W 0 (fun _ => true) true 22 v d p) :
    Calls Try.prog 5 #[v, .int .i64 t, .int .i64 c] W fun e w' => e = .returned (.bool true) ∧ Below W.heap.size W w' := by
  obtain ⟨n, L, hS, hL⟩ := trod_rks hval h
  by_cases hn : n ≤ 100
  · exact mark_lattice v n L t c W hn hS hL
  · obtain ⟨ad, cap, rfl, _, hc, _⟩ := hS
    exact lattice_many ad n cap t c W (Nat.lt_of_not_le hn) hc.2

set_option maxRecDepth 100000 in
theorem markLattice_lifted (os : Os) (started : os.Started) (H : Type) (enc : TypeId × Value → H) :
    ReturnsInHanded {} Try.checked os 5 .any (Rows.markLatticeSpec.pre6 enc Try.prog Try.f5 [] false) (Rows.markLatticeSpec.post enc Try.prog Try.f5 false true false false) := by
  refine law_lift (C := Try.checked) (B := 4) (ts := [22, 3, 3]) own started (by kernel_rfl) Try.func5 laidOut (by rw [Try.params5]) (by kernel_rfl) Try.underlying4 (by kernel_rfl) rfl ?_
    (ChangeSpec.witness6 (enc := enc) (C := Try.checked) false ⟨#[], #[.slice none 0 0, .int .i64 0, .int .i64 0], []⟩ 8 (by kernel_rfl) (by kernel_rfl) (by kernel_rfl) (by kernel_rfl)) ?_
  · intro ds hds
    match ds, hds with
    | [_, _, _], _ => rfl
  intro W base args ds p hval hA hsz
  obtain ⟨v0, vs0, d0, ds0, p0, q0, hargs, rfl, rfl, h0, r0⟩ := trodAll_cons hA
  obtain ⟨v1, vs1, d1, ds1, p1, q1, rfl, rfl, rfl, h1, r1⟩ := trodAll_cons r0
  obtain ⟨v2, vs2, d2, ds2, p2, q2, rfl, rfl, rfl, h2, r2⟩ := trodAll_cons r1
  obtain ⟨rfl, rfl, rfl⟩ := trodAll_nil r2
  obtain rfl : args = #[v0, v1, v2] := by cases args; simp_all
  have kl := h0
  obtain ⟨t, rfl, wt⟩ := trod_int Try.underlying3 (hval 1 _ _ rfl rfl) h1
  have bt := Go.bounds_i64 wt
  obtain ⟨c, rfl, wc⟩ := trod_int Try.underlying3 (hval 2 _ _ rfl rfl) h2
  have bc := Go.bounds_i64 wc
  exact markLattice_walk t c (hval 0 _ _ rfl rfl) kl

theorem markLattice_holds : Rows.MarkLatticeSaid :=
  OpenClaim.holds_of_wide 5 Try.f5 rfl rfl rfl rfl rfl rfl rfl ⟨rfl, rfl, rfl, rfl, rfl⟩ rfl rfl rfl rfl rfl (by kernel_rfl) Try.func5 (by kernel_rfl)
    (of_decide_eq_true (by kernel_rfl)) (by unfold Func.isWrapper; first | (rw [if_pos (by decide +kernel)]; kernel_rfl) | (rw [if_neg (by decide +kernel)]; exact ⟨rfl, rfl⟩))
    (fun os started H enc _ => markLattice_lifted os started H enc)
#print axioms markLattice_holds
end Go.Proofs.Ytniphfkipjpikaa
