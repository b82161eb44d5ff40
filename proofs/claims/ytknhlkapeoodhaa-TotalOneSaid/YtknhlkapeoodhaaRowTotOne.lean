/- TotalOne: for every input the law comes back with true, and the input reads as it did. -/
import Derived.Test.YtknhlkapeoodhaaRows
import Derived.Test.YtknhlkapeoodhaaOpenU
namespace Go.Proofs.Ytknhlkapeoodhaa
open Go.ChangeShapes Go.WideShapes Go.ChangeAt Go.RowKit

theorem totalOne_walk {H : Type} {enc : TypeId × Value → H} {W : World} {v : Value} {d : DataW H} {p : List MemPlace} {b0 : Nat} (x : Int) (hx : 0 ≤ x ∧ x ≤ 18446744073709551615) (hval : Value.okWide Try.prog W .any b0 61 v)
    (h : DataW.Trod enc Try.prog W 0 (fun _ => true) true 61 v d p) :
    Calls Try.prog 12 #[.int .u64 x, v] W fun e w' => e = .returned (.bool true) ∧ Below W.heap.size W w' := by
  obtain ⟨a, rfl⟩ := Int.eq_ofNat_of_zero_le hx.1
  obtain ⟨ad, n, cap, L, rfl, hm, hU⟩ := trod_u64s hval h
  by_cases hn : n ≤ 100
  · exact one_few a (by omega) ad n cap L W hn hU
  · exact one_many a ad n cap W (by omega) hm

set_option maxRecDepth 100000 in
theorem totalOne_lifted (os : Os) (started : os.Started) (H : Type) (enc : TypeId × Value → H) :
    ReturnsInHanded {} Try.checked os 12 .any (Rows.totalOneSpec.pre6 enc Try.prog Try.f12 [] false) (Rows.totalOneSpec.post enc Try.prog Try.f12 false true false false) := by
  refine law_lift (C := Try.checked) (B := 4) (ts := [40, 61]) own started (by kernel_rfl) Try.func12 laidOut (by rw [Try.params12]) (by kernel_rfl) Try.underlying4 (by kernel_rfl) rfl ?_
    (ChangeSpec.witness6 (enc := enc) (C := Try.checked) false ⟨#[], #[.int .u64 0, .slice none 0 0], []⟩ 8 (by kernel_rfl) (by kernel_rfl) (by kernel_rfl) (by kernel_rfl)) ?_
  · intro ds hds
    match ds, hds with
    | [_, _], _ => rfl
  intro W base args ds p hval hA hsz
  obtain ⟨v0, vs0, d0, ds0, p0, q0, hargs, rfl, rfl, h0, r0⟩ := trodAll_cons hA
  obtain ⟨v1, vs1, d1, ds1, p1, q1, rfl, rfl, rfl, h1, r1⟩ := trodAll_cons r0
  obtain ⟨rfl, rfl, rfl⟩ := trodAll_nil r1
  obtain rfl : args = #[v0, v1] := by cases args; simp_all
  obtain ⟨x, rfl, wx⟩ := trod_int Try.underlying40 (hval 0 _ _ rfl rfl) h0
  have bx := Go.bounds_u64 wx
  have kl := h1
  exact totalOne_walk x bx (hval 1 _ _ rfl rfl) kl

theorem totalOne_holds : Rows.TotalOneSaid :=
  OpenClaim.holds_of_wide 12 Try.f12 rfl rfl rfl rfl rfl rfl rfl ⟨rfl, rfl, rfl, rfl, rfl⟩ rfl rfl rfl rfl rfl (by kernel_rfl) Try.func12 (by kernel_rfl)
    (of_decide_eq_true (by kernel_rfl)) (by unfold Func.isWrapper; first | (rw [if_pos (by decide +kernel)]; kernel_rfl) | (rw [if_neg (by decide +kernel)]; exact ⟨rfl, rfl⟩))
    (fun os started H enc _ => totalOne_lifted os started H enc)
#print axioms totalOne_holds
end Go.Proofs.Ytknhlkapeoodhaa
