/- WireWrites: for every input the law comes back with true, and the input reads as it did. -/
import Derived.Test.YtniphfkipjpikaaRows
import Derived.Test.YtniphfkipjpikaaWirU
namespace Go.Proofs.Ytniphfkipjpikaa
open Go.ChangeShapes Go.WideShapes Go.ChangeAt Go.RowKit

set_option maxRecDepth 100000 in
theorem wireWrites_lifted (os : Os) (started : os.Started) (H : Type) (enc : TypeId × Value → H) :
    ReturnsInHanded {} Try.checked os 8 .any (Rows.wireWritesSpec.pre6 enc Try.prog Try.f8 [] false) (Rows.wireWritesSpec.post enc Try.prog Try.f8 false true false false) := by
  refine law_lift (C := Try.checked) (B := 4) (ts := [61]) own started (by kernel_rfl) Try.func8 laidOut (by rw [Try.params8]) (by kernel_rfl) Try.underlying4 (by kernel_rfl) rfl ?_
    (ChangeSpec.witness6 (enc := enc) (C := Try.checked) false ⟨#[], #[.slice none 0 0], []⟩ 8 (by kernel_rfl) (by kernel_rfl) (by kernel_rfl) (by kernel_rfl)) ?_
  · intro ds hds
    match ds, hds with
    | [_], _ => rfl
  intro W base args ds p hval hA hsz
  obtain ⟨v0, vs0, d0, ds0, p0, q0, hargs, rfl, rfl, h0, r0⟩ := trodAll_cons hA
  obtain ⟨rfl, rfl, rfl⟩ := trodAll_nil r0
  obtain rfl : args = #[v0] := by cases args; simp_all
  obtain ⟨xn, x, sx, ox⟩ := trod_parts (hval 0 _ _ rfl rfl) h0
  obtain ⟨ax, cx, rfl, zx⟩ := sx
  exact wireWrites_any xn cx ax x W ⟨ax, cx, rfl, zx⟩ (fun k hk => (ox k hk).1)

theorem wireWrites_holds : Rows.WireWritesSaid :=
  OpenClaim.holds_of_wide 8 Try.f8 rfl rfl rfl rfl rfl rfl rfl ⟨rfl, rfl, rfl, rfl, rfl⟩ rfl rfl rfl rfl rfl (by kernel_rfl) Try.func8 (by kernel_rfl)
    (of_decide_eq_true (by kernel_rfl)) (by unfold Func.isWrapper; first | (rw [if_pos (by decide +kernel)]; kernel_rfl) | (rw [if_neg (by decide +kernel)]; exact ⟨rfl, rfl⟩))
    (fun os started H enc _ => wireWrites_lifted os started H enc)
#print axioms wireWrites_holds
end Go.Proofs.Ytniphfkipjpikaa
