/- What the machine does with vectors: zero, load, index, ==. Over the seat's program. No condition. -/
import Derived.Test.YtnpofcnibgdjhaaRows
import Derived.Test.YtnpofcnibgdjhaaVec
import Derived.Test.YtnpofcnibgdjhaaRow
namespace Go.Proofs.Ytnpofcnibgdjhaa
open Go.RowKit

theorem u32_cells : Try.prog.cellsOf 139 = 1 := by kernel_rfl

attribute [go_sem] VA_size VA_get VA_set
@[go_sem] theorem VA_getElem (f : Nat → Nat) (i : Nat) (h : i < (VA f).size) : (VA f)[i]'h = .int .u32 (f i : Int) := by
  have h1 := VA_get f i (by rw [VA_size] at h; exact h)
  rw [Array.getElem?_eq_getElem h] at h1
  exact Option.some.inj h1
@[go_sem] theorem VA_set_lit (f : Nat → Nat) (i n : Nat) : (VA f).setIfInBounds i (.int .u32 (no_index (OfNat.ofNat n))) = VA (upd f i n) := VA_set f i n
@[go_sem] theorem VA_oneCell' (f : Nat → Nat) : (VA f).all (·.oneCell') 0 12 = true := by
  have := VA_oneCell f
  rw [VA_size] at this
  exact this
@[go_sem] theorem VA_zero' : #[Value.int .u32 0, .int .u32 0, .int .u32 0, .int .u32 0, .int .u32 0, .int .u32 0, .int .u32 0, .int .u32 0, .int .u32 0, .int .u32 0, .int .u32 0, .int .u32 0] = VA (fun _ => 0) := VA_zero.symm
/-- Two vectors are the same. -/
def veq (f g : Nat → Nat) : Bool := (List.range 12).all fun i => decide (f i = g i)

theorem veq_iff (f g : Nat → Nat) : veq f g = true ↔ ∀ i, i < 12 → f i = g i := by
  unfold veq
  rw [List.all_eq_true]
  constructor
  · intro h i hi
    simpa using h i (by simpa using hi)
  · intro h i hi
    simpa using h i (by simpa using hi)

theorem veq_false (f g : Nat → Nat) (i : Nat) (hi : i < 12) (h : f i ≠ g i) : veq f g = false := by
  cases e : veq f g
  · rfl
  · exact absurd ((veq_iff f g).1 e i hi) h

theorem run_part_u32 (cs : Array Value) (i : Nat) (v : Value) (h : cs[i]? = some v) (w : World) : (part 139 cs i).run Try.prog w = .ok v w := by
  have h1 : (isAgg 139).run Try.prog w = .ok false w := by kernel_rfl
  simp [part, Sem.run_bind, h1, h]

theorem run_eql_list (d : Nat) (f g : Nat → Nat) (w : World) : ∀ l : List Nat, (∀ i, i ∈ l → i < 12) →
    (forIn l ((none : Option Bool), ()) fun i __s => do
              let __do_lift ← part 139 (VA f) (i * 1)
              let __do_lift_1 ← part 139 (VA g) (i * 1)
              let __do_lift ← Op.equalIn (d + 1) 139 __do_lift __do_lift_1
              if (!__do_lift) = true then pure (ForInStep.done (some false, ())) else pure (ForInStep.yield (none, ()))).run Try.prog w
      = .ok (if l.all (fun i => decide (f i = g i)) then ((none : Option Bool), ()) else (some false, ())) w
  | [], _ => by simp
  | i :: l, h => by
    have hp : ∀ (f : Nat → Nat), (part 139 (VA f) i).run Try.prog w = .ok (.int .u32 (f i : Int)) w := fun f => run_part_u32 _ _ _ (VA_get f i (h i (by simp))) w
    have he : ∀ (a b : Int), (Op.equalIn (d + 1) 139 (.int .u32 a) (.int .u32 b)).run Try.prog w = .ok (a == b) w := fun a b => run_equalIn_int w d _ _ _ a b Try.underlying139
    rw [List.forIn_cons]
    simp only [Sem.run_bind, Nat.mul_one, hp, he, Result.andThen_ok]
    by_cases e : f i = g i
    · have e1 : ((f i : Int) == (g i : Int)) = true := by simp [e]
      simp only [e1, Bool.not_true, Bool.false_eq_true, if_false, Sem.run_pure, Result.andThen_ok]
      have := run_eql_list d f g w l (fun j hj => h j (by simp [hj]))
      simp only [Nat.mul_one] at this
      rw [this]
      simp [e]
    · have e1 : ((f i : Int) == (g i : Int)) = false := by simp; omega
      simp only [e1, Bool.not_false, if_true, Sem.run_pure, Result.andThen_ok]
      simp [e]

end Go.Proofs.Ytnpofcnibgdjhaa
