/- MarkJoins: for every input the law comes back with true, and the input reads as it did. -/
import Derived.Test.YtniphfkipjpikaaRows
import Derived.Test.YtniphfkipjpikaaOpenM
import Derived.Test.YtniphfkipjpikaaMkG
namespace Go.Proofs.Ytniphfkipjpikaa
open Go.ChangeShapes Go.WideShapes Go.ChangeAt Go.RowKit

set_option maxRecDepth 100000 in
theorem markJoins_walk {H : Type} {enc : TypeId × Value → H} {W : World} {v : Value} {d : DataW H} {p : List MemPlace} {b0 : Nat} (a b : Mk) (n f : Int) (ha : a.fine) (hb : b.fine) (hf : 0 ≤ f ∧ f ≤ 18446744073709551615) (hval : Value.okWide Try.prog W .any b0 22 v)
    (h : DataW.Trod enc Try.prog W 0 (fun _ => true) true 22 v d p) :
    Calls Try.prog 3 #[v, .agg #[.int .i64 a.flag, .bool a.has, .int .u64 (a.price : Int)], .agg #[.int .i64 b.flag, .bool b.has, .int .u64 (b.price : Int)], .int .i64 n, .int .u64 f] W fun e w' => e = .returned (.bool true) ∧ Below W.heap.size W w' := by
  obtain ⟨g, rfl⟩ := Int.eq_ofNat_of_zero_le hf.1
  obtain ⟨m, L, hS, hL⟩ := trod_rks hval h
  by_cases hm : m ≤ 100
  · exact mark_joins v m L a.flag a.has a.price b.flag b.has b.price n g W hm hS hL ha.2 hb.2 (by omega)
  · obtain ⟨ad, cap, rfl, _, hc, _⟩ := hS
    exact mark_many ad m cap a.flag a.has a.price b.flag b.has b.price n g W (by omega) (by omega)

set_option maxRecDepth 100000 in
theorem markJoins_lifted (os : Os) (started : os.Started) (H : Type) (enc : TypeId × Value → H) :
    ReturnsInHanded {} Try.checked os 3 .any (Rows.markJoinsSpec.pre6 enc Try.prog Try.f3 [] false) (Rows.markJoinsSpec.post enc Try.prog Try.f3 false true false false) := by
  refine law_lift (C := Try.checked) (B := 4) (ts := [22, 25, 25, 3, 23]) own started (by kernel_rfl) Try.func3 laidOut (by rw [Try.params3]) (by kernel_rfl) Try.underlying4 (by kernel_rfl) rfl ?_
    (ChangeSpec.witness6 (enc := enc) (C := Try.checked) false ⟨#[], #[.slice none 0 0, .agg #[.int .i64 0, .bool false, .int .u64 0], .agg #[.int .i64 0, .bool false, .int .u64 0], .int .i64 0, .int .u64 0], []⟩ 8 (by kernel_rfl) (by kernel_rfl) (by kernel_rfl) (by kernel_rfl)) ?_
  · intro ds hds
    match ds, hds with
    | [_, _, _, _, _], _ => rfl
  intro W base args ds p hval hA hsz
  obtain ⟨v0, vs0, d0, ds0, p0, q0, hargs, rfl, rfl, h0, r0⟩ := trodAll_cons hA
  obtain ⟨v1, vs1, d1, ds1, p1, q1, rfl, rfl, rfl, h1, r1⟩ := trodAll_cons r0
  obtain ⟨v2, vs2, d2, ds2, p2, q2, rfl, rfl, rfl, h2, r2⟩ := trodAll_cons r1
  obtain ⟨v3, vs3, d3, ds3, p3, q3, rfl, rfl, rfl, h3, r3⟩ := trodAll_cons r2
  obtain ⟨v4, vs4, d4, ds4, p4, q4, rfl, rfl, rfl, h4, r4⟩ := trodAll_cons r3
  obtain ⟨rfl, rfl, rfl⟩ := trodAll_nil r4
  obtain rfl : args = #[v0, v1, v2, v3, v4] := by cases args; simp_all
  have kl := h0
  obtain ⟨a, rfl, fa⟩ := trod_rk h1
  obtain ⟨b, rfl, fb⟩ := trod_rk h2
  obtain ⟨n, rfl, wn⟩ := trod_int Try.underlying3 (hval 3 _ _ rfl rfl) h3
  have bn := Go.bounds_i64 wn
  obtain ⟨f, rfl, wf⟩ := trod_int Try.underlying23 (hval 4 _ _ rfl rfl) h4
  have bf := Go.bounds_u64 wf
  exact markJoins_walk a b n f fa fb bf (hval 0 _ _ rfl rfl) kl

theorem markJoins_holds : Rows.MarkJoinsSaid :=
  OpenClaim.holds_of_wide 3 Try.f3 rfl rfl rfl rfl rfl rfl rfl ⟨rfl, rfl, rfl, rfl, rfl⟩ rfl rfl rfl rfl rfl (by kernel_rfl) Try.func3 (by kernel_rfl)
    (of_decide_eq_true (by kernel_rfl)) (by unfold Func.isWrapper; first | (rw [if_pos (by decide +kernel)]; kernel_rfl) | (rw [if_neg (by decide +kernel)]; exact ⟨rfl, rfl⟩))
    (fun os started H enc _ => markJoins_lifted os started H enc)
#print axioms markJoins_holds
end Go.Proofs.Ytniphfkipjpikaa
