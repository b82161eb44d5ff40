/- LinkBack: for every input the law comes back with true, and the input reads as it did. -/
import Derived.Test.YtnpofcnibgdjhaaRows
import Derived.Test.YtnpofcnibgdjhaaOpenK
namespace Go.Proofs.Ytnpofcnibgdjhaa
open Go.ChangeShapes Go.WideShapes Go.ChangeAt Go.RowKit

set_option maxRecDepth 100000 in
theorem linkBack_lifted (os : Os) (started : os.Started) (H : Type) (enc : TypeId × Value → H) :
    ReturnsInHanded {} Try.checked os 5 .any (Rows.linkBackSpec.pre6 enc Try.prog Try.f5 [] false) (Rows.linkBackSpec.post enc Try.prog Try.f5 false true false false) := by
  refine law_lift (C := Try.checked) (B := 4) (ts := [22, 22]) own started (by kernel_rfl) Try.func5 laidOut (by rw [Try.params5]) (by kernel_rfl) Try.underlying4 (by kernel_rfl) rfl ?_
    (ChangeSpec.witness6 (enc := enc) (C := Try.checked) false ⟨#[], #[.slice none 0 0, .slice none 0 0], []⟩ 8 (by kernel_rfl) (by kernel_rfl) (by kernel_rfl) (by kernel_rfl)) ?_
  · intro ds hds
    match ds, hds with
    | [_, _], _ => rfl
  intro W base args ds p hval hA hsz
  obtain ⟨v0, vs0, d0, ds0, p0, q0, hargs, rfl, rfl, h0, r0⟩ := trodAll_cons hA
  obtain ⟨v1, vs1, d1, ds1, p1, q1, rfl, rfl, rfl, h1, r1⟩ := trodAll_cons r0
  obtain ⟨rfl, rfl, rfl⟩ := trodAll_nil r1
  obtain rfl : args = #[v0, v1] := by cases args; simp_all
  obtain ⟨xn, x, sx, ox⟩ := trod_lops (hval 0 _ _ rfl rfl) h0
  obtain ⟨yn, y, sy, oy⟩ := trod_lops (hval 1 _ _ rfl rfl) h1
  obtain ⟨ax, cx, rfl, zx⟩ := sx; obtain ⟨ay, cy, rfl, zy⟩ := sy; exact linkBack_any xn cx yn cy ax ay x y W ⟨ax, cx, rfl, zx⟩ ox ⟨ay, cy, rfl, zy⟩ oy

theorem linkBack_holds : Rows.LinkBackSaid :=
  OpenClaim.holds_of_wide 5 Try.f5 rfl rfl rfl rfl rfl rfl rfl ⟨rfl, rfl, rfl, rfl, rfl⟩ rfl rfl rfl rfl rfl (by kernel_rfl) Try.func5 (by kernel_rfl)
    (of_decide_eq_true (by kernel_rfl)) (by unfold Func.isWrapper; first | (rw [if_pos (by decide +kernel)]; kernel_rfl) | (rw [if_neg (by decide +kernel)]; exact ⟨rfl, rfl⟩))
    (fun os started H enc _ => linkBack_lifted os started H enc)
#print axioms linkBack_holds
end Go.Proofs.Ytnpofcnibgdjhaa
