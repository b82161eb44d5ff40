/- WireShort: for every input the law comes back with true, and the input reads as it did. -/
import Derived.Test.YtniphfkipjpikaaRows
import Derived.Test.YtniphfkipjpikaaOpen
import Derived.Test.YtniphfkipjpikaaWirO
namespace Go.Proofs.Ytniphfkipjpikaa
open Go.ChangeShapes Go.WideShapes Go.ChangeAt Go.RowKit

theorem wireShort_walk (x y : Int) (hx : 0 ≤ x ∧ x ≤ 18446744073709551615) (hy : 0 ≤ y ∧ y ≤ 18446744073709551615) (W : World) :
    Calls Try.prog 7 #[.int .u64 x, .int .u64 y] W fun e w' => e = .returned (.bool true) ∧ Below W.heap.size W w' := by
  obtain ⟨a, rfl⟩ := Int.eq_ofNat_of_zero_le hx.1
  obtain ⟨b, rfl⟩ := Int.eq_ofNat_of_zero_le hy.1
  exact wireShort_any a b W (by omega) (by omega)

set_option maxRecDepth 100000 in
theorem wireShort_lifted (os : Os) (started : os.Started) (H : Type) (enc : TypeId × Value → H) :
    ReturnsInHanded {} Try.checked os 7 .any (Rows.wireShortSpec.pre6 enc Try.prog Try.f7 [] false) (Rows.wireShortSpec.post enc Try.prog Try.f7 false true false false) := by
  refine law_lift (C := Try.checked) (B := 4) (ts := [23, 23]) own started (by kernel_rfl) Try.func7 laidOut (by rw [Try.params7]) (by kernel_rfl) Try.underlying4 (by kernel_rfl) rfl ?_
    (ChangeSpec.witness6 (enc := enc) (C := Try.checked) false ⟨#[], #[.int .u64 0, .int .u64 0], []⟩ 8 (by kernel_rfl) (by kernel_rfl) (by kernel_rfl) (by kernel_rfl)) ?_
  · intro ds hds
    match ds, hds with
    | [_, _], _ => rfl
  intro W base args ds p hval hA hsz
  obtain ⟨v0, vs0, d0, ds0, p0, q0, hargs, rfl, rfl, h0, r0⟩ := trodAll_cons hA
  obtain ⟨v1, vs1, d1, ds1, p1, q1, rfl, rfl, rfl, h1, r1⟩ := trodAll_cons r0
  obtain ⟨rfl, rfl, rfl⟩ := trodAll_nil r1
  obtain rfl : args = #[v0, v1] := by cases args; simp_all
  obtain ⟨x, rfl, wx⟩ := trod_int Try.underlying23 (hval 0 _ _ rfl rfl) h0
  have bx := Go.bounds_u64 wx
  obtain ⟨p, rfl, wp⟩ := trod_int Try.underlying23 (hval 1 _ _ rfl rfl) h1
  have bp := Go.bounds_u64 wp
  exact wireShort_walk x p bx bp W

theorem wireShort_holds : Rows.WireShortSaid :=
  OpenClaim.holds_of_wide 7 Try.f7 rfl rfl rfl rfl rfl rfl rfl ⟨rfl, rfl, rfl, rfl, rfl⟩ rfl rfl rfl rfl rfl (by kernel_rfl) Try.func7 (by kernel_rfl)
    (of_decide_eq_true (by kernel_rfl)) (by unfold Func.isWrapper; first | (rw [if_pos (by decide +kernel)]; kernel_rfl) | (rw [if_neg (by decide +kernel)]; exact ⟨rfl, rfl⟩))
    (fun os started H enc _ => wireShort_lifted os started H enc)
#print axioms wireShort_holds
end Go.Proofs.Ytniphfkipjpikaa
