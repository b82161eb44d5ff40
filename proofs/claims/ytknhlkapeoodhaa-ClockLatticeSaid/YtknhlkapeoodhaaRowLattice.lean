/- ClockLattice: for every input the law comes back with true, and the input reads as it did. -/
import Derived.Test.YtknhlkapeoodhaaRows
import Derived.Test.YtknhlkapeoodhaaOpen
import Derived.Test.YtknhlkapeoodhaaLawLattice
namespace Go.Proofs.Ytknhlkapeoodhaa
open Go.ChangeShapes Go.WideShapes Go.ChangeAt Go.RowKit

set_option maxRecDepth 100000 in
theorem clockLattice_lifted (os : Os) (started : os.Started) (H : Type) (enc : TypeId × Value → H) :
    ReturnsInHanded {} Try.checked os 4 .any (Rows.clockLatticeSpec.pre6 enc Try.prog Try.f4 [] false) (Rows.clockLatticeSpec.post enc Try.prog Try.f4 false true false false) := by
  refine law_lift (C := Try.checked) (B := 4) (ts := [26, 26, 26]) own started (by kernel_rfl) Try.func4 laidOut (by rw [Try.params4]) (by kernel_rfl) Try.underlying4 (by kernel_rfl) rfl ?_
    (ChangeSpec.witness6 (enc := enc) (C := Try.checked) false ⟨#[], #[.agg (VA fun _ => 0), .agg (VA fun _ => 0), .agg (VA fun _ => 0)], []⟩ 8 (by kernel_rfl) (by kernel_rfl) (by kernel_rfl) (by kernel_rfl)) ?_
  · intro ds hds
    match ds, hds with
    | [_, _, _], _ => rfl
  intro W base args ds p hval hA hsz
  obtain ⟨v0, vs0, d0, ds0, p0, q0, hargs, rfl, rfl, h0, r0⟩ := trodAll_cons hA
  obtain ⟨v1, vs1, d1, ds1, p1, q1, rfl, rfl, rfl, h1, r1⟩ := trodAll_cons r0
  obtain ⟨v2, vs2, d2, ds2, p2, q2, rfl, rfl, rfl, h2, r2⟩ := trodAll_cons r1
  obtain ⟨rfl, rfl, rfl⟩ := trodAll_nil r2
  obtain rfl : args = #[v0, v1, v2] := by cases args; simp_all
  obtain ⟨f, rfl, bf⟩ := trod_vec h0
  obtain ⟨g, rfl, bg⟩ := trod_vec h1
  obtain ⟨h, rfl, bh⟩ := trod_vec h2
  exact lattice_walk f g h W

theorem clockLattice_holds : Rows.ClockLatticeSaid :=
  OpenClaim.holds_of_wide 4 Try.f4 rfl rfl rfl rfl rfl rfl rfl ⟨rfl, rfl, rfl, rfl, rfl⟩ rfl rfl rfl rfl rfl (by kernel_rfl) Try.func4 (by kernel_rfl)
    (of_decide_eq_true (by kernel_rfl)) (by unfold Func.isWrapper; first | (rw [if_pos (by decide +kernel)]; kernel_rfl) | (rw [if_neg (by decide +kernel)]; exact ⟨rfl, rfl⟩))
    (fun os started H enc _ => clockLattice_lifted os started H enc)
#print axioms clockLattice_holds
end Go.Proofs.Ytknhlkapeoodhaa
