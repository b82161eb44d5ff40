/- What the closures of truglaw03.alive read. -/
import Derived.Test.YtnpofcnibgdjhaaWirL
import Derived.Test.YtnpofcnibgdjhaaRegC
namespace Go.Proofs.Ytnpofcnibgdjhaa
open Go.RowKit
variable {X : Nat → Prop}

theorem wmixed : Try.prog.follows .mixedOrders = true := by kernel_rfl
/-- What is left of alive's bytes, when some of the calls have come up. -/
def stage (L : Nat → Bool) : List Nat := if L 8 = true then [] else if L 5 = true then [2, 0, 5] else if L 3 = true then [1, 97, 2, 0, 5] else if L 1 = true then [1, 1, 97, 2, 0, 5] else [130, 44, 1, 1, 97, 2, 0, 5]
theorem stage_set (L : Nat → Bool) (i : Nat) (h : i ≠ 1 ∧ i ≠ 3 ∧ i ≠ 5 ∧ i ≠ 8) : stage (setL L i) = stage L := by
  unfold stage setL
  rw [if_neg (Ne.symm h.2.2.2), if_neg (Ne.symm h.2.2.1), if_neg (Ne.symm h.2.1), if_neg (Ne.symm h.1)]
def aliveV : Nat → Nat := upd (upd (fun _ => 0) 0 0) 1 5
theorem dec_a1 : decN true 0 [130, 44, 1, 1, 97, 2, 0, 5] = .ok 300 [1, 1, 97, 2, 0, 5] := by rfl
theorem dec_a2 : decI [1, 1, 97, 2, 0, 5] = .ok (-1) [1, 97, 2, 0, 5] := by rfl
theorem dec_a3 : decT 9 [1, 97, 2, 0, 5] = .ok [97] [2, 0, 5] := by rfl
theorem dec_a4 : decV [2, 0, 5] = .ok aliveV [] := by rfl
theorem own_grown {B : Nat} {ts : List Nat} {v : Value} {p : Nat} {u u' : World} (h : ownB B ts v u) (hg : u.grownBy u' (some p)) (hp : p < B) : ownB B ts v u' := by
  refine h.kept (row := some p) hg ?_
  cases ho : v.ownBlock with
  | none => exact .inl rfl
  | some k =>
    right
    intro e
    cases e
    have := (h.lt p ho).1
    omega

end Go.Proofs.Ytnpofcnibgdjhaa
