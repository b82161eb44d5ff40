/- PacketBack: for every input the law comes back with true, and the input reads as it did. -/
import Derived.Test.YtnpofcnibgdjhaaRows
import Derived.Test.YtnpofcnibgdjhaaOpenR
namespace Go.Proofs.Ytnpofcnibgdjhaa
open Go.ChangeShapes Go.WideShapes Go.ChangeAt Go.RowKit

set_option maxRecDepth 100000 in
theorem packetBack_lifted (os : Os) (started : os.Started) (H : Type) (enc : TypeId × Value → H) :
    ReturnsInHanded {} Try.checked os 7 .any (Rows.packetBackSpec.pre6 enc Try.prog Try.f7 [] false) (Rows.packetBackSpec.post enc Try.prog Try.f7 false true false false) := by
  refine law_lift (C := Try.checked) (B := 4) (ts := [69, 30, 3]) own started (by kernel_rfl) Try.func7 laidOut (by rw [Try.params7]) (by kernel_rfl) Try.underlying4 (by kernel_rfl) rfl ?_
    (ChangeSpec.witness6 (enc := enc) (C := Try.checked) false ⟨#[], #[.agg #[.bool false, .int .i64 0, .int .i64 0, .int .u64 0, .slice none 0 0], .slice none 0 0, .int .i64 0], []⟩ 8 (by kernel_rfl) (by kernel_rfl) (by kernel_rfl) (by kernel_rfl)) ?_
  · intro ds hds
    match ds, hds with
    | [_, _, _], _ => rfl
  intro W base args ds p hval hA hsz
  obtain ⟨v0, vs0, d0, ds0, p0, q0, hargs, rfl, rfl, h0, r0⟩ := trodAll_cons hA
  obtain ⟨v1, vs1, d1, ds1, p1, q1, rfl, rfl, rfl, h1, r1⟩ := trodAll_cons r0
  obtain ⟨v2, vs2, d2, ds2, p2, q2, rfl, rfl, rfl, h2, r2⟩ := trodAll_cons r1
  obtain ⟨rfl, rfl, rfl⟩ := trodAll_nil r2
  obtain rfl : args = #[v0, v1, v2] := by cases args; simp_all
  obtain ⟨x, ax, cx, rfl, dx, yx, zx⟩ := trod_pk h0
  obtain ⟨b, sb, yb, nb⟩ := trod_bytes (hval 1 _ _ rfl rfl) h1
  obtain ⟨c, rfl, wc⟩ := trod_int Try.underlying3 (hval 2 _ _ rfl rfl) h2
  have bc := Go.bounds_i64 wc
  exact packetBack_any x ax cx _ b c W yx dx yb sb bc

theorem packetBack_holds : Rows.PacketBackSaid :=
  OpenClaim.holds_of_wide 7 Try.f7 rfl rfl rfl rfl rfl rfl rfl ⟨rfl, rfl, rfl, rfl, rfl⟩ rfl rfl rfl rfl rfl (by kernel_rfl) Try.func7 (by kernel_rfl)
    (of_decide_eq_true (by kernel_rfl)) (by unfold Func.isWrapper; first | (rw [if_pos (by decide +kernel)]; kernel_rfl) | (rw [if_neg (by decide +kernel)]; exact ⟨rfl, rfl⟩))
    (fun os started H enc _ => packetBack_lifted os started H enc)
#print axioms packetBack_holds
end Go.Proofs.Ytnpofcnibgdjhaa
