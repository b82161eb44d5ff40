/- Vectors as functions: the cells of a [12]uint32, what is read at an index, what a store makes of it. No condition. -/
import Derived.WalkKit
import Derived.Deep.MidRow
namespace Go.Proofs.Ytnpofcnibgdjhaa
open Go.RowKit

/-- The cells of a vector. -/
def VA (f : Nat → Nat) : Array Value := ((List.range 12).map fun i => Value.int .u32 (f i : Int)).toArray

theorem VA_size (f : Nat → Nat) : (VA f).size = 12 := by simp [VA]

theorem VA_get (f : Nat → Nat) (i : Nat) (h : i < 12) : (VA f)[i]? = some (.int .u32 (f i : Int)) := by
  simp [VA, h]

/-- A vector with another number at one place. -/
def upd (f : Nat → Nat) (i x : Nat) : Nat → Nat := fun j => if j = i then x else f j

theorem upd_same (f : Nat → Nat) (i x : Nat) : upd f i x i = x := by simp [upd]
theorem upd_other (f : Nat → Nat) (i x j : Nat) (h : j ≠ i) : upd f i x j = f j := by simp [upd, h]

theorem VA_ext {f g : Nat → Nat} (h : ∀ i, i < 12 → f i = g i) : VA f = VA g := by
  unfold VA
  congr 1
  apply List.map_congr_left
  intro a ha
  rw [h a (by simpa using ha)]

theorem VA_set (f : Nat → Nat) (i x : Nat) : (VA f).setIfInBounds i (.int .u32 (x : Int)) = VA (upd f i x) := by
  apply Array.ext_getElem?
  intro j
  rw [Array.getElem?_setIfInBounds, VA_size]
  by_cases hj : j < 12
  · rw [VA_get _ _ hj]
    by_cases hi : i = j
    · subst hi; simp only [hj, if_true]; rw [VA_get _ _ hj, upd_same]
    · rw [if_neg hi, VA_get _ _ hj, upd_other _ _ _ _ (Ne.symm hi)]
  · have h1 : (VA f)[j]? = none := by rw [Array.getElem?_eq_none_iff, VA_size]; omega
    have h2 : (VA (upd f i x))[j]? = none := by rw [Array.getElem?_eq_none_iff, VA_size]; omega
    rw [h2]
    split
    · rename_i hi; subst hi; simp [hj]
    · exact h1

theorem VA_zero : VA (fun _ => 0) = #[.int .u32 0, .int .u32 0, .int .u32 0, .int .u32 0, .int .u32 0, .int .u32 0, .int .u32 0, .int .u32 0, .int .u32 0, .int .u32 0, .int .u32 0, .int .u32 0] := by
  rfl

theorem VA_inj {f g : Nat → Nat} (h : VA f = VA g) (i : Nat) (hi : i < 12) : f i = g i := by
  have h1 := VA_get f i hi
  have h2 := VA_get g i hi
  rw [h, h2] at h1
  have := Option.some.inj h1
  simp only [Value.int.injEq, true_and] at this
  omega

theorem VA_oneCell (f : Nat → Nat) : (VA f).all (·.oneCell') = true := by
  rw [Array.all_eq_true_iff_forall_mem]
  intro v hv
  rw [VA, List.mem_toArray] at hv
  obtain ⟨i, _, rfl⟩ := List.mem_map.1 hv
  rfl

#print axioms VA_set
end Go.Proofs.Ytnpofcnibgdjhaa
