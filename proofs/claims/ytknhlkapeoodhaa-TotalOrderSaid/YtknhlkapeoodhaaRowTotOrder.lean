/- TotalOrder: for every input the law comes back with true, and the input reads as it did. -/
import Derived.Test.YtknhlkapeoodhaaRows
import Derived.Test.YtknhlkapeoodhaaOpen
import Derived.Test.YtknhlkapeoodhaaLawTotB
namespace Go.Proofs.Ytknhlkapeoodhaa
open Go.ChangeShapes Go.WideShapes Go.ChangeAt Go.RowKit

theorem totalOrder_ints (x y z : Int) (hx : 0 ≤ x ∧ x ≤ 18446744073709551615) (hy : 0 ≤ y ∧ y ≤ 18446744073709551615) (hz : 0 ≤ z ∧ z ≤ 18446744073709551615) (w : World) :
    Calls Try.prog 10 #[.int .u64 x, .int .u64 y, .int .u64 z] w fun e w' => e = .returned (.bool true) ∧ Below w.heap.size w w' := by
  obtain ⟨a, rfl⟩ := Int.eq_ofNat_of_zero_le hx.1
  obtain ⟨b, rfl⟩ := Int.eq_ofNat_of_zero_le hy.1
  obtain ⟨c, rfl⟩ := Int.eq_ofNat_of_zero_le hz.1
  exact order_total a b c (by omega) (by omega) (by omega) w

set_option maxRecDepth 100000 in
theorem totalOrder_lifted (os : Os) (started : os.Started) (H : Type) (enc : TypeId × Value → H) :
    ReturnsInHanded {} Try.checked os 10 .any (Rows.totalOrderSpec.pre6 enc Try.prog Try.f10 [] false) (Rows.totalOrderSpec.post enc Try.prog Try.f10 false true false false) := by
  refine law_lift (C := Try.checked) (B := 4) (ts := [40, 40, 40]) own started (by kernel_rfl) Try.func10 laidOut (by rw [Try.params10]) (by kernel_rfl) Try.underlying4 (by kernel_rfl) rfl ?_
    (ChangeSpec.witness6 (enc := enc) (C := Try.checked) false ⟨#[], #[.int .u64 0, .int .u64 0, .int .u64 0], []⟩ 8 (by kernel_rfl) (by kernel_rfl) (by kernel_rfl) (by kernel_rfl)) ?_
  · intro ds hds
    match ds, hds with
    | [_, _, _], _ => rfl
  intro W base args ds p hval hA hsz
  obtain ⟨v0, vs0, d0, ds0, p0, q0, hargs, rfl, rfl, h0, r0⟩ := trodAll_cons hA
  obtain ⟨v1, vs1, d1, ds1, p1, q1, rfl, rfl, rfl, h1, r1⟩ := trodAll_cons r0
  obtain ⟨v2, vs2, d2, ds2, p2, q2, rfl, rfl, rfl, h2, r2⟩ := trodAll_cons r1
  obtain ⟨rfl, rfl, rfl⟩ := trodAll_nil r2
  obtain rfl : args = #[v0, v1, v2] := by cases args; simp_all
  obtain ⟨x, rfl, wx⟩ := trod_int Try.underlying40 (hval 0 _ _ rfl rfl) h0
  have bx := Go.bounds_u64 wx
  obtain ⟨p, rfl, wp⟩ := trod_int Try.underlying40 (hval 1 _ _ rfl rfl) h1
  have bp := Go.bounds_u64 wp
  obtain ⟨q, rfl, wq⟩ := trod_int Try.underlying40 (hval 2 _ _ rfl rfl) h2
  have bq := Go.bounds_u64 wq
  exact totalOrder_ints x p q bx bp bq W

theorem totalOrder_holds : Rows.TotalOrderSaid :=
  OpenClaim.holds_of_wide 10 Try.f10 rfl rfl rfl rfl rfl rfl rfl ⟨rfl, rfl, rfl, rfl, rfl⟩ rfl rfl rfl rfl rfl (by kernel_rfl) Try.func10 (by kernel_rfl)
    (of_decide_eq_true (by kernel_rfl)) (by unfold Func.isWrapper; first | (rw [if_pos (by decide +kernel)]; kernel_rfl) | (rw [if_neg (by decide +kernel)]; exact ⟨rfl, rfl⟩))
    (fun os started H enc _ => totalOrder_lifted os started H enc)
#print axioms totalOrder_holds
end Go.Proofs.Ytknhlkapeoodhaa
