/- ClockChain: for every input the law comes back with true, and the input reads as it did. -/
import Derived.Test.YtknhlkapeoodhaaRows
import Derived.Test.YtknhlkapeoodhaaOpen
import Derived.Test.YtknhlkapeoodhaaLawChain
namespace Go.Proofs.Ytknhlkapeoodhaa
open Go.ChangeShapes Go.WideShapes Go.ChangeAt Go.RowKit

theorem chain_walk (f : Nat → Nat) (hf : ∀ i, f i ≤ 4294967295) (n k : Int) (hk : 0 ≤ k ∧ k ≤ 255) (w : World) :
    Calls Try.prog 6 #[.agg (VA f), .int .i64 n, .int .u8 k] w fun e w' => e = .returned (.bool true) ∧ Below w.heap.size w w' := by
  obtain ⟨k', rfl⟩ : ∃ k' : Nat, k = k' := ⟨k.toNat, by omega⟩
  by_cases hn : 1 ≤ n ∧ n ≤ 12
  · obtain ⟨m, rfl⟩ : ∃ m : Nat, n = m + 1 := ⟨(n - 1).toNat, by omega⟩
    exact chain_yes f hf m (by omega) k' (by omega) w
  · exact chain_no f n k' hn (by omega) w

set_option maxRecDepth 100000 in
theorem clockChain_lifted (os : Os) (started : os.Started) (H : Type) (enc : TypeId × Value → H) :
    ReturnsInHanded {} Try.checked os 6 .any (Rows.clockChainSpec.pre6 enc Try.prog Try.f6 [] false) (Rows.clockChainSpec.post enc Try.prog Try.f6 false true false false) := by
  refine law_lift (C := Try.checked) (B := 4) (ts := [26, 3, 5]) own started (by kernel_rfl) Try.func6 laidOut (by rw [Try.params6]) (by kernel_rfl) Try.underlying4 (by kernel_rfl) rfl ?_
    (ChangeSpec.witness6 (enc := enc) (C := Try.checked) false ⟨#[], #[.agg (VA fun _ => 0), .int .i64 0, .int .u8 0], []⟩ 8 (by kernel_rfl) (by kernel_rfl) (by kernel_rfl) (by kernel_rfl)) ?_
  · intro ds hds
    match ds, hds with
    | [_, _, _], _ => rfl
  intro W base args ds p hval hA hsz
  obtain ⟨v0, vs0, d0, ds0, p0, q0, hargs, rfl, rfl, h0, r0⟩ := trodAll_cons hA
  obtain ⟨v1, vs1, d1, ds1, p1, q1, rfl, rfl, rfl, h1, r1⟩ := trodAll_cons r0
  obtain ⟨v2, vs2, d2, ds2, p2, q2, rfl, rfl, rfl, h2, r2⟩ := trodAll_cons r1
  obtain ⟨rfl, rfl, rfl⟩ := trodAll_nil r2
  obtain rfl : args = #[v0, v1, v2] := by cases args; simp_all
  obtain ⟨f, rfl, bf⟩ := trod_vec h0
  obtain ⟨n, rfl, wn⟩ := trod_int Try.underlying3 (hval 1 _ _ rfl rfl) h1
  have bn := Go.bounds_i64 wn
  obtain ⟨k, rfl, wk⟩ := trod_int Try.underlying5 (hval 2 _ _ rfl rfl) h2
  have bk := Go.bounds_u8 wk
  exact chain_walk f bf n k bk W

theorem clockChain_holds : Rows.ClockChainSaid :=
  OpenClaim.holds_of_wide 6 Try.f6 rfl rfl rfl rfl rfl rfl rfl ⟨rfl, rfl, rfl, rfl, rfl⟩ rfl rfl rfl rfl rfl (by kernel_rfl) Try.func6 (by kernel_rfl)
    (of_decide_eq_true (by kernel_rfl)) (by unfold Func.isWrapper; first | (rw [if_pos (by decide +kernel)]; kernel_rfl) | (rw [if_neg (by decide +kernel)]; exact ⟨rfl, rfl⟩))
    (fun os started H enc _ => clockChain_lifted os started H enc)
#print axioms clockChain_holds
end Go.Proofs.Ytknhlkapeoodhaa
