/- MarkParts: for every input the law comes back with true, and the input reads as it did. -/
import Derived.Test.YtniphfkipjpikaaRows
import Derived.Test.YtniphfkipjpikaaOpenM
import Derived.Test.YtniphfkipjpikaaMkW
namespace Go.Proofs.Ytniphfkipjpikaa
open Go.ChangeShapes Go.WideShapes Go.ChangeAt Go.RowKit

set_option maxRecDepth 100000 in
theorem markParts_walk {H : Type} {enc : TypeId × Value → H} {W : World} {v1 v2 v3 v4 : Value} {d1 d2 d3 d4 : DataW H} {p1 p2 p3 p4 : List MemPlace} {b1 b2 b3 b4 : Nat}
    (hv1 : Value.okWide Try.prog W .any b1 43 v1) (hv2 : Value.okWide Try.prog W .any b2 43 v2) (hv3 : Value.okWide Try.prog W .any b3 22 v3) (hv4 : Value.okWide Try.prog W .any b4 22 v4)
    (h1 : DataW.Trod enc Try.prog W 0 (fun _ => true) true 43 v1 d1 p1) (h2 : DataW.Trod enc Try.prog W 0 (fun _ => true) true 43 v2 d2 p2)
    (h3 : DataW.Trod enc Try.prog W 0 (fun _ => true) true 22 v3 d3 p3) (h4 : DataW.Trod enc Try.prog W 0 (fun _ => true) true 22 v4 d4 p4) :
    Calls Try.prog 6 #[v1, v2, v3, v4] W fun e w' => e = .returned (.bool true) ∧ Below W.heap.size W w' := by
  obtain ⟨n1, q1, hS1, _⟩ := trod_qs hv1 h1
  obtain ⟨n2, q2, hS2, _⟩ := trod_qs hv2 h2
  obtain ⟨n3, L1, hS3, hL1⟩ := trod_rks hv3 h3
  obtain ⟨n4, L2, hS4, hL2⟩ := trod_rks hv4 h4
  by_cases hc : n3 ≤ 60 ∧ n4 ≤ 60 ∧ n1 = n3 ∧ n2 = n4
  · obtain ⟨c1, c2, rfl, rfl⟩ := hc
    exact mark_parts v1 v2 v3 v4 n1 n2 q1 q2 L1 L2 W c1 c2 hS1 hS2 hS3 hS4 hL1 hL2
  · obtain ⟨a1, e1, rfl, _, x1, _⟩ := hS1
    obtain ⟨a2, e2, rfl, _, x2, _⟩ := hS2
    obtain ⟨a3, e3, rfl, _, x3, _⟩ := hS3
    obtain ⟨a4, e4, rfl, _, x4, _⟩ := hS4
    exact parts_bad a1 n1 e1 a2 n2 e2 a3 n3 e3 a4 n4 e4 W x1.2 x2.2 x3.2 x4.2 hc

set_option maxRecDepth 100000 in
theorem markParts_lifted (os : Os) (started : os.Started) (H : Type) (enc : TypeId × Value → H) :
    ReturnsInHanded {} Try.checked os 6 .any (Rows.markPartsSpec.pre6 enc Try.prog Try.f6 [] false) (Rows.markPartsSpec.post enc Try.prog Try.f6 false true false false) := by
  refine law_lift (C := Try.checked) (B := 4) (ts := [43, 43, 22, 22]) own started (by kernel_rfl) Try.func6 laidOut (by rw [Try.params6]) (by kernel_rfl) Try.underlying4 (by kernel_rfl) rfl ?_
    (ChangeSpec.witness6 (enc := enc) (C := Try.checked) false ⟨#[], #[.slice none 0 0, .slice none 0 0, .slice none 0 0, .slice none 0 0], []⟩ 8 (by kernel_rfl) (by kernel_rfl) (by kernel_rfl) (by kernel_rfl)) ?_
  · intro ds hds
    match ds, hds with
    | [_, _, _, _], _ => rfl
  intro W base args ds p hval hA hsz
  obtain ⟨v0, vs0, d0, ds0, p0, q0, hargs, rfl, rfl, h0, r0⟩ := trodAll_cons hA
  obtain ⟨v1, vs1, d1, ds1, p1, q1, rfl, rfl, rfl, h1, r1⟩ := trodAll_cons r0
  obtain ⟨v2, vs2, d2, ds2, p2, q2, rfl, rfl, rfl, h2, r2⟩ := trodAll_cons r1
  obtain ⟨v3, vs3, d3, ds3, p3, q3, rfl, rfl, rfl, h3, r3⟩ := trodAll_cons r2
  obtain ⟨rfl, rfl, rfl⟩ := trodAll_nil r3
  obtain rfl : args = #[v0, v1, v2, v3] := by cases args; simp_all
  have ka := h0
  have kb := h1
  have kl := h2
  have km := h3
  exact markParts_walk (hval 0 _ _ rfl rfl) (hval 1 _ _ rfl rfl) (hval 2 _ _ rfl rfl) (hval 3 _ _ rfl rfl) ka kb kl km

theorem markParts_holds : Rows.MarkPartsSaid :=
  OpenClaim.holds_of_wide 6 Try.f6 rfl rfl rfl rfl rfl rfl rfl ⟨rfl, rfl, rfl, rfl, rfl⟩ rfl rfl rfl rfl rfl (by kernel_rfl) Try.func6 (by kernel_rfl)
    (of_decide_eq_true (by kernel_rfl)) (by unfold Func.isWrapper; first | (rw [if_pos (by decide +kernel)]; kernel_rfl) | (rw [if_neg (by decide +kernel)]; exact ⟨rfl, rfl⟩))
    (fun os started H enc _ => markParts_lifted os started H enc)
#print axioms markParts_holds
end Go.Proofs.Ytniphfkipjpikaa
