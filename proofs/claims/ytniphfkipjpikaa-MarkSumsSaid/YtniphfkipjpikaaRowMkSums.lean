/- MarkSums: for every input the law comes back with true, and the input reads as it did. -/
import Derived.Test.YtniphfkipjpikaaRows
import Derived.Test.YtniphfkipjpikaaOpenM
import Derived.Test.YtniphfkipjpikaaMkH
namespace Go.Proofs.Ytniphfkipjpikaa
open Go.ChangeShapes Go.WideShapes Go.ChangeAt Go.RowKit

set_option maxRecDepth 100000 in
theorem markSums_walk {H : Type} {enc : TypeId × Value → H} {W : World} {v u : Value} {d d' : DataW H} {p p' : List MemPlace} {b0 b1 : Nat} (x1 x2 x3 : Int) (x4 : Nat) (y1 y2 y3 : Int) (y4 : Nat) (hx : x4 < 18446744073709551616) (hy : y4 < 18446744073709551616) (hval : Value.okWide Try.prog W .any b0 43 v) (hval' : Value.okWide Try.prog W .any b1 22 u)
    (h : DataW.Trod enc Try.prog W 0 (fun _ => true) true 43 v d p) (h' : DataW.Trod enc Try.prog W 0 (fun _ => true) true 22 u d' p') :
    Calls Try.prog 4 #[v, u, .agg #[.int .i64 x1, .int .i64 x2, .int .i64 x3, .int .u64 (x4 : Int)], .agg #[.int .i64 y1, .int .i64 y2, .int .i64 y3, .int .u64 (y4 : Int)]] W fun e w' => e = .returned (.bool true) ∧ Below W.heap.size W w' := by
  obtain ⟨nq, q, hSq, _⟩ := trod_qs hval h
  obtain ⟨nm, L, hSm, hL⟩ := trod_rks hval' h'
  by_cases hc : nq ≤ 200 ∧ nm ≤ 200
  · exact mark_sums v u nq nm q L x1 x2 x3 x4 y1 y2 y3 y4 W hc.1 hc.2 hSq hSm hL hx hy
  · have h12 : 200 < nq ∨ 200 < nm := (Nat.lt_or_ge 200 nq).imp id (fun h1 => Nat.lt_of_not_le (fun h2 => hc ⟨h1, h2⟩))
    obtain ⟨aq, cq, rfl, _, hq, _⟩ := hSq
    obtain ⟨am, cm, rfl, _, hm, _⟩ := hSm
    exact sums_m_many aq nq cq am nm cm x1 x2 x3 x4 y1 y2 y3 y4 W hq.2 hm.2 h12

set_option maxRecDepth 100000 in
theorem markSums_lifted (os : Os) (started : os.Started) (H : Type) (enc : TypeId × Value → H) :
    ReturnsInHanded {} Try.checked os 4 .any (Rows.markSumsSpec.pre6 enc Try.prog Try.f4 [] false) (Rows.markSumsSpec.post enc Try.prog Try.f4 false true false false) := by
  refine law_lift (C := Try.checked) (B := 4) (ts := [43, 22, 45, 45]) own started (by kernel_rfl) Try.func4 laidOut (by rw [Try.params4]) (by kernel_rfl) Try.underlying4 (by kernel_rfl) rfl ?_
    (ChangeSpec.witness6 (enc := enc) (C := Try.checked) false ⟨#[], #[.slice none 0 0, .slice none 0 0, .agg #[.int .i64 0, .int .i64 0, .int .i64 0, .int .u64 0], .agg #[.int .i64 0, .int .i64 0, .int .i64 0, .int .u64 0]], []⟩ 8 (by kernel_rfl) (by kernel_rfl) (by kernel_rfl) (by kernel_rfl)) ?_
  · intro ds hds
    match ds, hds with
    | [_, _, _, _], _ => rfl
  intro W base args ds p hval hA hsz
  obtain ⟨v0, vs0, d0, ds0, p0, q0, hargs, rfl, rfl, h0, r0⟩ := trodAll_cons hA
  obtain ⟨v1, vs1, d1, ds1, p1, q1, rfl, rfl, rfl, h1, r1⟩ := trodAll_cons r0
  obtain ⟨v2, vs2, d2, ds2, p2, q2, rfl, rfl, rfl, h2, r2⟩ := trodAll_cons r1
  obtain ⟨v3, vs3, d3, ds3, p3, q3, rfl, rfl, rfl, h3, r3⟩ := trodAll_cons r2
  obtain ⟨rfl, rfl, rfl⟩ := trodAll_nil r3
  obtain rfl : args = #[v0, v1, v2, v3] := by cases args; simp_all
  have kq := h0
  have kl := h1
  obtain ⟨x1, x2, x3, x4, rfl, bx⟩ := trod_rt h2
  obtain ⟨z1, z2, z3, z4, rfl, bz⟩ := trod_rt h3
  exact markSums_walk x1 x2 x3 x4 z1 z2 z3 z4 bx bz (hval 0 _ _ rfl rfl) (hval 1 _ _ rfl rfl) kq kl

theorem markSums_holds : Rows.MarkSumsSaid :=
  OpenClaim.holds_of_wide 4 Try.f4 rfl rfl rfl rfl rfl rfl rfl ⟨rfl, rfl, rfl, rfl, rfl⟩ rfl rfl rfl rfl rfl (by kernel_rfl) Try.func4 (by kernel_rfl)
    (of_decide_eq_true (by kernel_rfl)) (by unfold Func.isWrapper; first | (rw [if_pos (by decide +kernel)]; kernel_rfl) | (rw [if_neg (by decide +kernel)]; exact ⟨rfl, rfl⟩))
    (fun os started H enc _ => markSums_lifted os started H enc)
#print axioms markSums_holds
end Go.Proofs.Ytniphfkipjpikaa
