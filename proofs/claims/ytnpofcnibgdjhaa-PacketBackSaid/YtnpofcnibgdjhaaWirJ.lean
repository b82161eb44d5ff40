/- The writer of bytes: a vector. -/
import Derived.Test.YtnpofcnibgdjhaaWirI
import Derived.Test.YtnpofcnibgdjhaaVecP
namespace Go.Proofs.Ytnpofcnibgdjhaa
open Go.RowKit

/-- How many of the first n, but for the last noughts. -/
def trimN (f : Nat → Nat) : Nat → Nat
  | 0 => 0
  | n + 1 => if f n = 0 then trimN f n else n + 1
theorem trimN_le (f : Nat → Nat) : ∀ n, trimN f n ≤ n
  | 0 => Nat.le_refl _
  | n + 1 => by
    unfold trimN
    split
    · have := trimN_le f n; omega
    · exact Nat.le_refl _
theorem trimN_succ (f : Nat → Nat) (n : Nat) : trimN f (n + 1) = if f n = 0 then trimN f n else n + 1 := rfl
theorem trimN_fix (f : Nat → Nat) (m : Nat) (h : ¬ (0 < m ∧ f (m - 1) = 0)) : trimN f m = m := by
  cases m with
  | zero => rfl
  | succ k =>
    rw [trimN_succ, if_neg]
    exact fun e => h ⟨by omega, e⟩
/-- The bytes of the first n of a vector's numbers. -/
def vbs (f : Nat → Nat) (n : Nat) : List Nat := (List.range n).flatMap fun i => numB (f i)
theorem vbs_succ (f : Nat → Nat) (n : Nat) : vbs f (n + 1) = vbs f n ++ numB (f n) := by
  unfold vbs
  rw [List.range_succ, List.flatMap_append]
  simp
theorem vbs_len (f : Nat → Nat) : ∀ n, (vbs f n).length ≤ 10 * n
  | 0 => by simp [vbs]
  | n + 1 => by
    have h1 := vbs_len f n
    have h2 := (numB_len (f n)).2
    rw [vbs_succ, List.length_append]
    omega
/-- A vector's bytes. -/
def vecB (f : Nat → Nat) : List Nat := numB (trimN f 12) ++ vbs f (trimN f 12)

end Go.Proofs.Ytnpofcnibgdjhaa
