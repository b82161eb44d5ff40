/- TotalSums: for every input the law comes back with true, and the input reads as it did. -/
import Derived.Test.YtknhlkapeoodhaaRows
import Derived.Test.YtknhlkapeoodhaaOpenU
namespace Go.Proofs.Ytknhlkapeoodhaa
open Go.ChangeShapes Go.WideShapes Go.ChangeAt Go.RowKit

theorem totalSums_walk {H : Type} {enc : TypeId × Value → H} {W : World} {v : Value} {d : DataW H} {p : List MemPlace} {b0 : Nat} (hval : Value.okWide Try.prog W .any b0 61 v)
    (h : DataW.Trod enc Try.prog W 0 (fun _ => true) true 61 v d p) :
    Calls Try.prog 9 #[v] W fun e w' => e = .returned (.bool true) ∧ Below W.heap.size W w' := by
  obtain ⟨ad, n, cap, L, rfl, hm, hU⟩ := trod_u64s hval h
  by_cases hn : n ≤ 300
  · exact sums_few ad n cap L W hn hU
  · exact sums_many ad n cap W (by omega) hm

set_option maxRecDepth 100000 in
theorem totalSums_lifted (os : Os) (started : os.Started) (H : Type) (enc : TypeId × Value → H) :
    ReturnsInHanded {} Try.checked os 9 .any (Rows.totalSumsSpec.pre6 enc Try.prog Try.f9 [] false) (Rows.totalSumsSpec.post enc Try.prog Try.f9 false true false false) := by
  refine law_lift (C := Try.checked) (B := 4) (ts := [61]) own started (by kernel_rfl) Try.func9 laidOut (by rw [Try.params9]) (by kernel_rfl) Try.underlying4 (by kernel_rfl) rfl ?_
    (ChangeSpec.witness6 (enc := enc) (C := Try.checked) false ⟨#[], #[.slice none 0 0], []⟩ 8 (by kernel_rfl) (by kernel_rfl) (by kernel_rfl) (by kernel_rfl)) ?_
  · intro ds hds
    match ds, hds with
    | [_], _ => rfl
  intro W base args ds p hval hA hsz
  obtain ⟨v0, vs0, d0, ds0, p0, q0, hargs, rfl, rfl, h0, r0⟩ := trodAll_cons hA
  obtain ⟨rfl, rfl, rfl⟩ := trodAll_nil r0
  obtain rfl : args = #[v0] := by cases args; simp_all
  have kl := h0
  exact totalSums_walk (hval 0 _ _ rfl rfl) kl

theorem totalSums_holds : Rows.TotalSumsSaid :=
  OpenClaim.holds_of_wide 9 Try.f9 rfl rfl rfl rfl rfl rfl rfl ⟨rfl, rfl, rfl, rfl, rfl⟩ rfl rfl rfl rfl rfl (by kernel_rfl) Try.func9 (by kernel_rfl)
    (of_decide_eq_true (by kernel_rfl)) (by unfold Func.isWrapper; first | (rw [if_pos (by decide +kernel)]; kernel_rfl) | (rw [if_neg (by decide +kernel)]; exact ⟨rfl, rfl⟩))
    (fun os started H enc _ => totalSums_lifted os started H enc)
#print axioms totalSums_holds
end Go.Proofs.Ytknhlkapeoodhaa
