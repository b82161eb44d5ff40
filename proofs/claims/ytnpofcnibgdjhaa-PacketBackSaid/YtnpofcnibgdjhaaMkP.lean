/- What sellers say of a sku: the plain facts of marks and of their joins. No program in sight. -/
import Derived.Test.YtnpofcnibgdjhaaTotR
namespace Go.Proofs.Ytnpofcnibgdjhaa
open Go.RowKit Flt

/-- A mark; its price by the bits. -/
structure Mk where
  flag : Int
  has : Bool
  price : Nat

def Mk.fine (m : Mk) : Prop := (-9223372036854775808 ≤ m.flag ∧ m.flag ≤ 9223372036854775807) ∧ m.price < 18446744073709551616
def mk0 : Mk := ⟨0, false, 0⟩
theorem mk0_fine : mk0.fine := by unfold mk0 Mk.fine; decide
/-- Its cells, in the program and in the document. -/
def Mk.mcells (m : Mk) : Array Value := #[.int .i64 m.flag, .bool m.has, .float .f64 m.price]
def Mk.rcells (m : Mk) : Array Value := #[.int .i64 m.flag, .bool m.has, .int .u64 (m.price : Int)]

/-- It may be. -/
def rightM (F : Int) (H : Bool) (p : Nat) : Bool := decide (0 ≤ F) && decide (F ≤ 3) && (H || decide (p = 0))
def Mk.right (m : Mk) : Bool := rightM m.flag m.has m.price
/-- The join's price. -/
def priceJ (H : Bool) (p : Nat) (G : Bool) (q : Nat) : Nat := if H = true then (if G = true then joinF p q else p) else if G = true then q else 0
def Mk.join (a b : Mk) : Mk := ⟨max a.flag b.flag, a.has || b.has, priceJ a.has a.price b.has b.price⟩
def sameM (F : Int) (H : Bool) (p : Nat) (G : Int) (I : Bool) (q : Nat) : Bool := decide (F = G) && decide (H = I) && decide (p = q)
def Mk.same (a b : Mk) : Bool := sameM a.flag a.has a.price b.flag b.has b.price
theorem Mk.same_iff (a b : Mk) : a.same b = true ↔ a = b := by
  obtain ⟨F, H, p⟩ := a
  obtain ⟨G, I, q⟩ := b
  simp [Mk.same, sameM, and_assoc]
/-- The join of the first k that may be. -/
def foldM (L : Nat → Mk) : Nat → Mk
  | 0 => mk0
  | k + 1 => if (L k).right = true then (foldM L k).join (L k) else foldM L k

theorem right_iff (m : Mk) : m.right = true ↔ (0 ≤ m.flag ∧ m.flag ≤ 3) ∧ (m.has = true ∨ m.price = 0) := by
  simp [Mk.right, rightM]
theorem priceJ_lt {H G : Bool} {p q : Nat} (hp : p < 18446744073709551616) (hq : q < 18446744073709551616) : priceJ H p G q < 18446744073709551616 := by
  unfold priceJ
  split
  · split
    · exact joinF_lt hp hq
    · exact hp
  · split
    · exact hq
    · omega
/-- A mark that may be, whose price is told. -/
def Mk.good (m : Mk) : Prop := m.right = true ∧ m.price < 18446744073709551616
theorem mk0_good : mk0.good := ⟨by decide, by decide⟩
theorem join_good {a b : Mk} (ha : a.good) (hb : b.good) : (a.join b).good := by
  obtain ⟨ha, pa⟩ := ha
  obtain ⟨hb, pb⟩ := hb
  rw [right_iff] at ha hb
  refine ⟨(right_iff _).2 ⟨?_, ?_⟩, priceJ_lt pa pb⟩
  · simp only [Mk.join]; omega
  · cases h1 : a.has <;> cases h2 : b.has <;> simp [Mk.join, priceJ, h1, h2]
theorem fold_good {L : Nat → Mk} : ∀ {k : Nat}, (∀ i, i < k → (L i).price < 18446744073709551616) → (foldM L k).good
  | 0, _ => mk0_good
  | k + 1, h => by
    unfold foldM
    have ih := fold_good (k := k) (fun i hi => h i (by omega))
    by_cases hr : (L k).right = true
    · rw [if_pos hr]; exact join_good ih ⟨hr, h k (by omega)⟩
    · rw [if_neg hr]; exact ih
theorem good_fine {m : Mk} (h : m.good) : m.fine := by
  have := (right_iff m).1 h.1
  exact ⟨by omega, h.2⟩
theorem fold_same_m {L M : Nat → Mk} : ∀ (k : Nat), (∀ i, i < k → L i = M i) → foldM L k = foldM M k
  | 0, _ => rfl
  | k + 1, h => by
    unfold foldM
    rw [fold_same_m k (fun i hi => h i (by omega)), h k (by omega)]
theorem join_mk0_left {a : Mk} (ha : a.right = true) : mk0.join a = a := by
  have h := (right_iff a).1 ha
  obtain ⟨F, H, p⟩ := a
  simp only [Mk.join, mk0, Mk.mk.injEq, priceJ] at *
  refine ⟨by omega, by simp, ?_⟩
  cases H
  · simp at h; simp [h.2]
  · simp
def pairM (a b : Mk) : Nat → Mk := fun k => if k = 0 then a else b
theorem fold_two {a b : Mk} (ha : a.right = true) (hb : b.right = true) : foldM (pairM a b) 2 = a.join b := by
  simp only [foldM, pairM]
  rw [if_pos (by simpa using hb), if_pos (by simpa using ha)]
  simp only [if_pos, Nat.succ_ne_zero, if_false]
  rw [join_mk0_left ha]
end Go.Proofs.Ytnpofcnibgdjhaa
