/- LinkFull: for every input the law comes back with true, and the input reads as it did. -/
import Derived.Test.YtnpofcnibgdjhaaRows
import Derived.Test.YtnpofcnibgdjhaaOpen
import Derived.Test.YtnpofcnibgdjhaaLkK
namespace Go.Proofs.Ytnpofcnibgdjhaa
open Go.ChangeShapes Go.WideShapes Go.ChangeAt Go.RowKit

set_option maxRecDepth 100000 in
theorem linkFull_lifted (os : Os) (started : os.Started) (H : Type) (enc : TypeId × Value → H) :
    ReturnsInHanded {} Try.checked os 6 .any (Rows.linkFullSpec.pre6 enc Try.prog Try.f6 [] false) (Rows.linkFullSpec.post enc Try.prog Try.f6 false true false false) := by
  refine law_lift (C := Try.checked) (B := 4) (ts := [5]) own started (by kernel_rfl) Try.func6 laidOut (by rw [Try.params6]) (by kernel_rfl) Try.underlying4 (by kernel_rfl) rfl ?_
    (ChangeSpec.witness6 (enc := enc) (C := Try.checked) false ⟨#[], #[.int .u8 0], []⟩ 8 (by kernel_rfl) (by kernel_rfl) (by kernel_rfl) (by kernel_rfl)) ?_
  · intro ds hds
    match ds, hds with
    | [_], _ => rfl
  intro W base args ds p hval hA hsz
  obtain ⟨v0, vs0, d0, ds0, p0, q0, hargs, rfl, rfl, h0, r0⟩ := trodAll_cons hA
  obtain ⟨rfl, rfl, rfl⟩ := trodAll_nil r0
  obtain rfl : args = #[v0] := by cases args; simp_all
  obtain ⟨n, rfl, wn⟩ := trod_int Try.underlying5 (hval 0 _ _ rfl rfl) h0
  have bn := Go.bounds_u8 wn
  obtain ⟨k, rfl⟩ := Int.eq_ofNat_of_zero_le bn.1; exact linkFull_any k W (by omega)

theorem linkFull_holds : Rows.LinkFullSaid :=
  OpenClaim.holds_of_wide 6 Try.f6 rfl rfl rfl rfl rfl rfl rfl ⟨rfl, rfl, rfl, rfl, rfl⟩ rfl rfl rfl rfl rfl (by kernel_rfl) Try.func6 (by kernel_rfl)
    (of_decide_eq_true (by kernel_rfl)) (by unfold Func.isWrapper; first | (rw [if_pos (by decide +kernel)]; kernel_rfl) | (rw [if_neg (by decide +kernel)]; exact ⟨rfl, rfl⟩))
    (fun os started H enc _ => linkFull_lifted os started H enc)
#print axioms linkFull_holds
end Go.Proofs.Ytnpofcnibgdjhaa
