/- Floats of 64 bits: how the order, the NaNs and the sum hang on the bits. Plain facts: no program in sight. -/
import Derived.WalkLawsBesides
namespace Go.Proofs.Ytnpofcnibgdjhaa.Flt
open Ieee

def rung (b : Nat) : Nat := b % 9223372036854775808
def isNeg (b : Nat) : Bool := b / 9223372036854775808 % 2 == 1
def sgn (s : Bool) (n : Nat) : Int := if s then -(n : Int) else n
def val (b : Nat) : Int := sgn (isNeg b) (rung b)
/-- The bits are a NaN's. -/
def isN (b : Nat) : Bool := decide (9218868437227405312 < rung b)
def ex (r : Nat) : Nat := r / 4503599627370496 - 1
def mt (r : Nat) : Nat := if r < 4503599627370496 then r else 4503599627370496 + r % 4503599627370496
def mg (r : Nat) : Nat := mt r * 2 ^ ex r

theorem sw_eq : double.signWeight = 9223372036854775808 := by decide +kernel
theorem bin_eq : double.binade = 4503599627370496 := by decide +kernel
theorem inf_eq : double.infRung = 9218868437227405312 := by decide +kernel
theorem lp_eq : double.leastPlace = -1074 := by decide +kernel

theorem read_number {b : Nat} (h : rung b < 9218868437227405312) : double.read b = .number (isNeg b) (mt (rung b)) (-1074 + (ex (rung b) : Int)) := by
  unfold Format.read
  simp only [sw_eq, bin_eq, inf_eq, lp_eq]
  change (if rung b < 4503599627370496 then _ else if rung b < 9218868437227405312 then _ else _) = _
  by_cases h1 : rung b < 4503599627370496
  · rw [if_pos h1]
    have : rung b / 4503599627370496 = 0 := Nat.div_eq_of_lt h1
    simp only [mt, if_pos h1, ex, this]
    rfl
  · rw [if_neg h1, if_pos h]
    simp only [mt, if_neg h1, ex]
    rfl
theorem read_inf {b : Nat} (h : rung b = 9218868437227405312) : double.read b = .infinity (isNeg b) := by
  unfold Format.read
  simp only [sw_eq, bin_eq, inf_eq, lp_eq]
  change (if rung b < 4503599627370496 then _ else if rung b < 9218868437227405312 then _ else if rung b = 9218868437227405312 then _ else _) = _
  rw [if_neg (by omega), if_neg (by omega), if_pos h]
  rfl
theorem read_nan {b : Nat} (h : 9218868437227405312 < rung b) : double.read b = .nan (isNeg b) (rung b - 9218868437227405312) := by
  unfold Format.read
  simp only [sw_eq, bin_eq, inf_eq, lp_eq]
  change (if rung b < 4503599627370496 then _ else if rung b < 9218868437227405312 then _ else if rung b = 9218868437227405312 then _ else _) = _
  rw [if_neg (by omega), if_neg (by omega), if_neg (by omega)]
  rfl

theorem mg_step (r : Nat) : mg r < mg (r + 1) := by
  unfold mg mt ex
  by_cases h1 : r + 1 < 4503599627370496
  · have a : r / 4503599627370496 = 0 := by omega
    have b : (r + 1) / 4503599627370496 = 0 := by omega
    rw [if_pos (by omega), if_pos h1, a, b]
    simp
  · by_cases h2 : r < 4503599627370496
    · have e : r + 1 = 4503599627370496 := by omega
      have a : r / 4503599627370496 = 0 := by omega
      rw [if_pos h2, if_neg h1, a, e]
      simp
      omega
    · rw [if_neg h2, if_neg h1]
      by_cases h3 : r % 4503599627370496 + 1 < 4503599627370496
      · have a : (r + 1) / 4503599627370496 = r / 4503599627370496 := by omega
        have b : (r + 1) % 4503599627370496 = r % 4503599627370496 + 1 := by omega
        rw [a, b]
        exact Nat.mul_lt_mul_of_pos_right (by omega) (Nat.two_pow_pos _)
      · have a : (r + 1) / 4503599627370496 - 1 = (r / 4503599627370496 - 1) + 1 := by omega
        have b : (r + 1) % 4503599627370496 = 0 := by omega
        rw [a, b, Nat.pow_succ]
        have p := Nat.two_pow_pos (r / 4503599627370496 - 1)
        generalize 2 ^ (r / 4503599627370496 - 1) = k at *
        have : (4503599627370496 + 0) * (k * 2) = 9007199254740992 * k := by omega
        rw [this]
        exact Nat.mul_lt_mul_of_pos_right (by omega) p
theorem mg_add (r k : Nat) : mg r < mg (r + k + 1) := by
  induction k with
  | zero => exact mg_step r
  | succ n ih => exact Nat.lt_trans ih (mg_step _)
theorem mg_lt {r q : Nat} (h : r < q) : mg r < mg q := by
  have := mg_add r (q - r - 1)
  rwa [show r + (q - r - 1) + 1 = q by omega] at this
theorem mg_lt_iff (r q : Nat) : mg r < mg q ↔ r < q := by
  constructor
  · intro h
    by_cases h1 : r < q
    · exact h1
    · by_cases h2 : q < r
      · have := mg_lt h2; omega
      · have : r = q := by omega
        subst this; omega
  · exact mg_lt

theorem cmp_alike (s t : Bool) (A B r q : Nat) (h1 : A < B ↔ r < q) (h2 : B < A ↔ q < r) (h3 : A = 0 ↔ r = 0) (h4 : B = 0 ↔ q = 0) : compare (sgn s A) (sgn t B) = compare (sgn s r) (sgn t q) := by
  have e1 : sgn s A < sgn t B ↔ sgn s r < sgn t q := by cases s <;> cases t <;> simp [sgn] <;> omega
  have e2 : sgn s A = sgn t B ↔ sgn s r = sgn t q := by cases s <;> cases t <;> simp [sgn] <;> omega
  change compareOfLessAndEq _ _ = compareOfLessAndEq _ _
  unfold compareOfLessAndEq
  simp only [e1, e2]

theorem cmp_lt {a b : Int} (h : a < b) : compare a b = .lt := by
  change compareOfLessAndEq a b = _
  unfold compareOfLessAndEq
  rw [if_pos h]
theorem cmp_gt {a b : Int} (h : b < a) : compare a b = .gt := by
  change compareOfLessAndEq a b = _
  unfold compareOfLessAndEq
  rw [if_neg (by omega), if_neg (by omega)]
theorem cmp_eq (a : Int) : compare a a = .eq := by
  change compareOfLessAndEq a a = _
  unfold compareOfLessAndEq
  rw [if_neg (by omega), if_pos rfl]
theorem sgn_within (s : Bool) {r n : Nat} (h : r < n) : -(n : Int) < sgn s r ∧ sgn s r < n := by
  cases s <;> simp [sgn] <;> omega

theorem signed_eq (s : Bool) (m k : Nat) : signed s m k = sgn s (m * 2 ^ k) := by
  unfold signed sgn
  rw [Nat.shiftLeft_eq]

theorem scale (r k : Nat) (h : k ≤ ex r) : mt r * 2 ^ (ex r - k) * 2 ^ k = mg r := by
  rw [Nat.mul_assoc, ← Nat.pow_add, Nat.sub_add_cancel h]
  rfl

theorem order_numbers {x y : Nat} (hx : rung x < 9218868437227405312) (hy : rung y < 9218868437227405312) : double.order x y = some (compare (val x) (val y)) := by
  unfold Format.order
  rw [read_number hx, read_number hy]
  simp only [Datum.order, signed_eq, val]
  congr 1
  generalize rung x = r at *
  generalize rung y = q at *
  have b1 : (-1074 + (ex r : Int) - min (-1074 + (ex r : Int)) (-1074 + (ex q : Int))).toNat = ex r - min (ex r) (ex q) := by omega
  have b2 : (-1074 + (ex q : Int) - min (-1074 + (ex r : Int)) (-1074 + (ex q : Int))).toNat = ex q - min (ex r) (ex q) := by omega
  rw [b1, b2]
  have c1 := scale r (min (ex r) (ex q)) (Nat.min_le_left _ _)
  have c2 := scale q (min (ex r) (ex q)) (Nat.min_le_right _ _)
  have hk := Nat.two_pow_pos (min (ex r) (ex q))
  generalize 2 ^ min (ex r) (ex q) = K at *
  generalize mt r * 2 ^ (ex r - min (ex r) (ex q)) = A at *
  generalize mt q * 2 ^ (ex q - min (ex r) (ex q)) = B at *
  have z : mg 0 = 0 := by decide
  have m1 : ∀ a b : Nat, a < b ↔ a * K < b * K := fun a b => (Nat.mul_lt_mul_right hk).symm
  refine cmp_alike _ _ _ _ _ _ ?_ ?_ ?_ ?_
  · rw [m1, c1, c2, mg_lt_iff]
  · rw [m1, c1, c2, mg_lt_iff]
  · have := m1 0 A
    have h := mg_lt_iff 0 r
    rw [Nat.zero_mul, c1] at this
    rw [z] at h
    omega
  · have := m1 0 B
    have h := mg_lt_iff 0 q
    rw [Nat.zero_mul, c2] at this
    rw [z] at h
    omega

theorem isN_false {b : Nat} (h : isN b = false) : rung b ≤ 9218868437227405312 := by simpa [isN] using h
theorem isN_true {b : Nat} (h : isN b = true) : 9218868437227405312 < rung b := by simpa [isN] using h

/-- THE ORDER OF TWO THAT ARE NO NaN IS THAT OF THEIR SIGNED RUNGS. -/
theorem order_eq {x y : Nat} (hx : isN x = false) (hy : isN y = false) : double.order x y = some (compare (val x) (val y)) := by
  have hx := isN_false hx
  have hy := isN_false hy
  by_cases h1 : rung x < 9218868437227405312
  · by_cases h2 : rung y < 9218868437227405312
    · exact order_numbers h1 h2
    · have h2 : rung y = 9218868437227405312 := by omega
      unfold Format.order
      rw [read_number h1, read_inf h2]
      simp only [Datum.order, val, h2]
      congr 1
      have hb := sgn_within (isNeg x) h1
      cases isNeg y
      · exact (cmp_lt hb.2).symm
      · exact (cmp_gt hb.1).symm
  · have h1 : rung x = 9218868437227405312 := by omega
    by_cases h2 : rung y < 9218868437227405312
    · unfold Format.order
      rw [read_number h2, read_inf h1]
      simp only [Datum.order, val, h1]
      congr 1
      have hb := sgn_within (isNeg y) h2
      cases isNeg x
      · exact (cmp_gt hb.2).symm
      · exact (cmp_lt hb.1).symm
    · have h2 : rung y = 9218868437227405312 := by omega
      unfold Format.order
      rw [read_inf h1, read_inf h2]
      simp only [Datum.order, val, h1, h2]
      cases isNeg x <;> cases isNeg y <;> decide

theorem order_nan {x y : Nat} (h : isN x = true ∨ isN y = true) : double.order x y = none := by
  unfold Format.order
  rcases h with h | h
  · rw [read_nan (isN_true h)]; rfl
  · rw [read_nan (isN_true h)]
    cases double.read x <;> rfl

end Go.Proofs.Ytnpofcnibgdjhaa.Flt
