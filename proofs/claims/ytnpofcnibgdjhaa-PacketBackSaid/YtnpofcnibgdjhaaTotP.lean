/- The plain facts under the floats' keys: bit operations against the top bit, the key, its inverse, the kind. No program in sight. -/
import Derived.Test.YtnpofcnibgdjhaaFlt
import Derived.Laws.Bits64b
import Derived.Laws.BitsAllLaws
namespace Go.Proofs.Ytnpofcnibgdjhaa.Flt
open Go

theorem u64_back (a : Nat) (h : a < 18446744073709551616) : (BitVec.ofInt 64 (a : Int)).toNat = a := by
  rw [BitVec.ofInt_natCast, BitVec.toNat_ofNat]; exact Nat.mod_eq_of_lt (by omega)

theorem nat_and_top (b : Nat) (h : b < 18446744073709551616) : b &&& 9223372036854775808 = if b < 9223372036854775808 then 0 else 9223372036854775808 := by
  have e : (9223372036854775808 : Nat) = 2 ^ 63 := by decide
  refine Nat.eq_of_testBit_eq fun i => ?_
  rw [Nat.testBit_and, e, Nat.testBit_two_pow]
  by_cases hi : 63 = i
  · subst hi
    by_cases hb : b < 2 ^ 63
    · rw [if_pos hb, Nat.testBit_lt_two_pow hb]
      simp
    · rw [if_neg hb, Nat.testBit_two_pow_self, Nat.testBit_eq_decide_div_mod_eq]
      simp
      omega
  · have ht : Nat.testBit (2 ^ 63) i = false := by rw [Nat.testBit_two_pow]; simp [hi]
    rw [Bool.and_comm]
    split
    · simp [hi]
    · rw [ht]; simp [hi]

theorem and_top (b : Nat) (h : b < 18446744073709551616) : bits .and .u64 (b : Int) 9223372036854775808 = if b < 9223372036854775808 then 0 else 9223372036854775808 := by
  have := bits_and_u64_nat b 9223372036854775808 h (by omega)
  change bits .and .u64 (b : Int) 9223372036854775808 = _ at this
  rw [this, nat_and_top b h]
  split <;> rfl

theorem or_top (b : Nat) (h : b < 9223372036854775808) : bits .or .u64 (b : Int) 9223372036854775808 = ((b + 9223372036854775808 : Nat) : Int) := by
  have := bits_or_u64_nat b 9223372036854775808 (by omega) (by omega)
  change bits .or .u64 (b : Int) 9223372036854775808 = _ at this
  rw [this]
  congr 1
  have e := Nat.two_pow_add_eq_or_of_lt (i := 63) (b := b) (by omega) 1
  have e' : 9223372036854775808 + b = 9223372036854775808 ||| b := e
  rw [Nat.or_comm, ← e', Nat.add_comm]

theorem xor_all (b : Nat) (h : b < 18446744073709551616) : bits .xor .u64 18446744073709551615 (b : Int) = ((18446744073709551615 - b : Nat) : Int) := by
  show IntKind.u64.wrap ((BitVec.ofInt 64 18446744073709551615 ^^^ BitVec.ofInt 64 (b : Int)).toNat : Int) = _
  have h1 : BitVec.ofInt 64 18446744073709551615 = BitVec.allOnes 64 := by decide
  rw [h1, BitVec.allOnes_xor, BitVec.toNat_not, u64_back b h, IntKind.wrap_u64]
  omega

theorem andNot_top (b : Nat) (h : b < 18446744073709551616) : bits .andNot .u64 (b : Int) 9223372036854775808 = ((b % 9223372036854775808 : Nat) : Int) := by
  show IntKind.u64.wrap ((BitVec.ofInt 64 (b : Int) &&& ~~~ BitVec.ofInt 64 9223372036854775808).toNat : Int) = _
  have h1 : ~~~ BitVec.ofInt 64 9223372036854775808 = BitVec.ofNat 64 (2 ^ 63 - 1) := by decide
  rw [h1, BitVec.toNat_and, u64_back b h, BitVec.toNat_ofNat, IntKind.wrap_u64, Nat.mod_eq_of_lt (a := 2 ^ 63 - 1) (by decide), Nat.and_two_pow_sub_one_eq_mod]
  omega

def keyF (b : Nat) : Nat := if b < 9223372036854775808 then b + 9223372036854775808 else 18446744073709551615 - b
def ofF (k : Nat) : Nat := if k < 9223372036854775808 then 18446744073709551615 - k else k - 9223372036854775808
def kindF (b : Nat) : Nat := if 9218868437227405312 < rung b then 0 else if rung b = 9218868437227405312 then 1 else if rung b = 0 then 2 else 3

theorem keyF_lt {b : Nat} (h : b < 18446744073709551616) : keyF b < 18446744073709551616 := by unfold keyF; split <;> omega
theorem ofF_lt {b : Nat} (h : b < 18446744073709551616) : ofF b < 18446744073709551616 := by unfold ofF; split <;> omega
theorem of_key {b : Nat} (h : b < 18446744073709551616) : ofF (keyF b) = b := by unfold ofF keyF; split <;> split <;> omega
theorem key_of {b : Nat} (h : b < 18446744073709551616) : keyF (ofF b) = b := by unfold ofF keyF; split <;> split <;> omega
theorem key_inj {a b : Nat} (ha : a < 18446744073709551616) (hb : b < 18446744073709551616) : keyF a = keyF b ↔ a = b := by
  constructor
  · intro h; rw [← of_key ha, h, of_key hb]
  · intro h; rw [h]
/-- the greater of both by their keys. -/
def joinF (a b : Nat) : Nat := if keyF b < keyF a then a else b
theorem join_of {a b : Nat} (ha : a < 18446744073709551616) (hb : b < 18446744073709551616) : ofF (max (keyF a) (keyF b)) = joinF a b := by
  unfold joinF
  split
  · rw [Nat.max_eq_left (by omega), of_key ha]
  · rw [Nat.max_eq_right (by omega), of_key hb]
theorem joinF_lt {a b : Nat} (ha : a < 18446744073709551616) (hb : b < 18446744073709551616) : joinF a b < 18446744073709551616 := by unfold joinF; split <;> assumption
theorem key_join (a b : Nat) : keyF (joinF a b) = max (keyF a) (keyF b) := by unfold joinF; split <;> omega
theorem joinF_comm {a b : Nat} (ha : a < 18446744073709551616) (hb : b < 18446744073709551616) : joinF a b = joinF b a :=
  (key_inj (joinF_lt ha hb) (joinF_lt hb ha)).1 (by rw [key_join, key_join]; omega)
theorem joinF_assoc {a b c : Nat} (ha : a < 18446744073709551616) (hb : b < 18446744073709551616) (hc : c < 18446744073709551616) : joinF (joinF a b) c = joinF a (joinF b c) :=
  (key_inj (joinF_lt (joinF_lt ha hb) hc) (joinF_lt ha (joinF_lt hb hc))).1 (by simp only [key_join]; omega)

theorem rung_lt (b : Nat) : rung b < 9223372036854775808 := Nat.mod_lt _ (by omega)
theorem order_self (b : Nat) : (Ieee.double.order b b != some .eq) = isN b := by
  cases h : isN b
  · rw [order_eq h h, cmp_eq]; rfl
  · rw [order_nan (.inl h)]; rfl
theorem isN_rung (b : Nat) : isN (rung b) = isN b := by
  have := rung_lt b
  unfold isN
  rw [show rung (rung b) = rung b from Nat.mod_eq_of_lt this]
theorem val_rung (b : Nat) : val (rung b) = rung b := by
  have := rung_lt b
  have h1 : isNeg (rung b) = false := by unfold isNeg; rw [Nat.div_eq_of_lt this]; rfl
  unfold val
  rw [h1, show rung (rung b) = rung b from Nat.mod_eq_of_lt this]
  rfl
theorem abs_gtr (b : Nat) : (Ieee.double.order (rung b) 9218868437227405311 == some .gt) = decide (rung b = 9218868437227405312) := by
  cases h : isN b
  · rw [order_eq (by rw [isN_rung]; exact h) (by decide), val_rung]
    have hb := isN_false h
    have hv : val 9218868437227405311 = 9218868437227405311 := by decide
    rw [hv]
    by_cases he : rung b = 9218868437227405312
    · rw [he]; decide
    · have : (rung b : Int) ≤ 9218868437227405311 := by omega
      by_cases hl : (rung b : Int) = 9218868437227405311
      · rw [hl, cmp_eq]; simp [he]
      · rw [cmp_lt (by omega)]; simp [he]
  · have := isN_true h
    rw [order_nan (.inl (by rw [isN_rung]; exact h))]
    have he : ¬ rung b = 9218868437227405312 := by omega
    simp [he]
theorem eql_zero {b : Nat} (h : isN b = false) : (Ieee.double.order b 0 == some .eq) = decide (rung b = 0) := by
  rw [order_eq h (by decide), show val 0 = 0 from by decide]
  have e : val b = if isNeg b then -(rung b : Int) else rung b := rfl
  rw [e]
  by_cases he : rung b = 0
  · rw [he]; cases isNeg b <;> decide
  · cases isNeg b
    · rw [if_neg (by decide), cmp_gt (by omega)]; simp [he]
    · rw [if_pos rfl, cmp_lt (by omega)]; simp [he]

/-- The order of two that are neither NaN nor nought is that of the keys. -/
theorem lss_key {a b : Nat} (ha : a < 18446744073709551616) (hb : b < 18446744073709551616) (h1 : kindF a % 2 = 1) (h2 : kindF b % 2 = 1) :
    (Ieee.double.order a b == some .lt) = decide (keyF a < keyF b) := by
  have split1 : ∀ c, kindF c % 2 = 1 → rung c ≤ 9218868437227405312 ∧ 0 < rung c := by
    intro c hc
    unfold kindF at hc
    by_cases x : 9218868437227405312 < rung c
    · rw [if_pos x] at hc; omega
    · by_cases y : rung c = 9218868437227405312
      · omega
      · by_cases z : rung c = 0
        · rw [if_neg x, if_neg y, if_pos z] at hc; omega
        · omega
  obtain ⟨a1, a2⟩ := split1 a h1
  obtain ⟨b1, b2⟩ := split1 b h2
  have na : isN a = false := by simp [isN]; omega
  have nb : isN b = false := by simp [isN]; omega
  rw [order_eq na nb]
  have v : ∀ c, c < 18446744073709551616 → val c = if c < 9223372036854775808 then (c : Int) else 9223372036854775808 - (c : Int) := by
    intro c hc
    unfold val isNeg rung sgn
    by_cases x : c < 9223372036854775808
    · rw [if_pos x, Nat.div_eq_of_lt x, Nat.mod_eq_of_lt x]; rfl
    · have : c / 9223372036854775808 = 1 := by omega
      rw [if_neg x, this]
      change -((c % 9223372036854775808 : Nat) : Int) = _
      omega
  have e : val a < val b ↔ keyF a < keyF b := by
    rw [v a ha, v b hb]
    unfold keyF
    unfold rung at a2 b2
    split <;> split <;> omega
  by_cases x : val a < val b
  · rw [cmp_lt x]; simp [e.1 x]
  · have : ¬ keyF a < keyF b := fun y => x (e.2 y)
    by_cases y : val a = val b
    · rw [y, cmp_eq]; simp [this]
    · rw [cmp_gt (by omega)]; simp [this]
end Go.Proofs.Ytnpofcnibgdjhaa.Flt
