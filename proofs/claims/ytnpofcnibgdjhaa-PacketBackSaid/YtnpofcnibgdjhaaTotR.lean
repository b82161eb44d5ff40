/- What comes of a sum with nought (for TotalOne): 0 + x is x, but +0 of -0. Plain. -/
import Derived.Test.YtnpofcnibgdjhaaTotQ
namespace Go.Proofs.Ytnpofcnibgdjhaa.Flt
open Ieee

theorem cut_exact (s : Bool) (m e : Nat) (h : 0 < m) : Toward.even.cut s (m * 2 ^ e) e = m := by
  have hl : e ≤ (m * 2 ^ e).log2 + 2 := by
    have h1 : 2 ^ e ≤ m * 2 ^ e := Nat.le_mul_of_pos_left _ h
    have h2 := (Nat.le_log2 (by have := Nat.two_pow_pos e; omega)).2 h1
    omega
  unfold Toward.cut
  rw [Nat.min_eq_left hl, Nat.shiftLeft_eq, Nat.one_mul]
  have hp := Nat.two_pow_pos e
  have h1 : m * 2 ^ e / 2 ^ e = m := Nat.mul_div_cancel _ hp
  have h2 : m * 2 ^ e % 2 ^ e = 0 := Nat.mul_mod_left _ _
  simp only [h1, h2]
  generalize 2 ^ e = g at *
  have : ¬ g < 2 * 0 := by omega
  have h3 : (g == 2 * 0) = false := by simp; omega
  simp [h3]

theorem log2_mg {r : Nat} (h : 4503599627370496 ≤ r) : (mg r).log2 = 52 + ex r := by
  have hm : mg r = (4503599627370496 + r % 4503599627370496) * 2 ^ ex r := by unfold mg mt; rw [if_neg (by omega)]
  have hp := Nat.two_pow_pos (ex r)
  have hne : mg r ≠ 0 := by
    rw [hm]
    exact Nat.ne_of_gt (Nat.mul_pos (by omega) hp)
  refine (Nat.log2_eq_iff hne).2 ⟨?_, ?_⟩
  · rw [hm, Nat.pow_add]
    exact Nat.mul_le_mul_right _ (by omega)
  · rw [hm, show 52 + ex r + 1 = 53 + ex r by omega, Nat.pow_add]
    exact Nat.mul_lt_mul_of_pos_right (by omega) hp

theorem near_low (s : Bool) (r : Nat) (h0 : 0 < r) (h : r < 4503599627370496) : double.nearest s r (-1074) = double.word s r := by
  unfold Format.nearest
  rw [if_neg (by omega)]
  dsimp only
  rw [lp_eq, bin_eq, inf_eq, show double.fractionBits = 52 from rfl]
  congr 1
  have hl : r.log2 < 52 := (Nat.log2_lt (by omega)).2 (by omega)
  have hmax : max (-1074 + (r.log2 : Int) - ((52 : Nat) : Int)) (-1074) = -1074 := by omega
  rw [hmax]
  have hc := cut_exact s r 0 h0
  rw [Nat.pow_zero, Nat.mul_one] at hc
  simp only [Int.sub_self, Int.toNat_zero, Nat.shiftLeft_zero, hc, Nat.zero_mul, Nat.zero_add]
  omega
theorem near_high (s : Bool) (M e m : Nat) (hm : 0 < m) (hM : M = m * 2 ^ e) (hl : M.log2 = 52 + e) (hk : e * 4503599627370496 + m ≤ 9218868437227405312) : double.nearest s M (-1074) = double.word s (e * 4503599627370496 + m) := by
  have hp := Nat.two_pow_pos e
  have hpos : 0 < M := by rw [hM]; exact Nat.mul_pos hm hp
  have hc := cut_exact s m e hm
  rw [← hM] at hc
  clear hM hp
  unfold Format.nearest
  rw [if_neg (by omega)]
  dsimp only
  rw [lp_eq, bin_eq, inf_eq, show double.fractionBits = 52 from rfl]
  have hmax : max (-1074 + (M.log2 : Int) - ((52 : Nat) : Int)) (-1074) = -1074 + (e : Int) := by rw [hl]; omega
  rw [hmax]
  have e1 : (-1074 - (-1074 + (e : Int))).toNat = 0 := by omega
  have e2 : (-1074 + (e : Int) - -1074).toNat = e := by omega
  rw [e1, e2, Nat.shiftLeft_zero, hc, Nat.min_eq_left hk]
theorem rung_split (r : Nat) (h : 4503599627370496 ≤ r) : ex r * 4503599627370496 + mt r = r := by
  unfold ex mt
  rw [if_neg (by omega)]
  omega
theorem mt_pos (r : Nat) (h : 4503599627370496 ≤ r) : 0 < mt r := by
  unfold mt
  rw [if_neg (by omega)]
  omega
theorem mg_low (r : Nat) (h : r < 4503599627370496) : mg r = r := by
  unfold mg mt ex
  rw [if_pos h, Nat.div_eq_of_lt h]
  exact Nat.mul_one r
/-- The word nearest to a rung's own magnitude is that rung's. -/
theorem nearest_mg (s : Bool) (r : Nat) (h0 : 0 < r) (h : r < 9218868437227405312) : double.nearest s (mg r) (-1074) = double.word s r := by
  by_cases h1 : r < 4503599627370496
  · rw [mg_low r h1]; exact near_low s r h0 h1
  · have hs := rung_split r (by omega)
    have hn := near_high s (mg r) (ex r) (mt r) (mt_pos r (by omega)) rfl (log2_mg (by omega)) (by omega)
    rw [hn, hs]
theorem mg_zero : mg 0 = 0 := by decide
theorem mg_pos {r : Nat} (h : 0 < r) : 0 < mg r := by have := mg_lt h; rw [mg_zero] at this; exact this
theorem word_self {b : Nat} (h : b < 18446744073709551616) : double.word (isNeg b) (rung b) = b := by
  unfold Format.word rung isNeg
  rw [sw_eq]
  by_cases hb : b < 9223372036854775808
  · rw [Nat.div_eq_of_lt hb, Nat.mod_eq_of_lt hb]; rfl
  · have h1 : b / 9223372036854775808 = 1 := by omega
    have h2 : b % 9223372036854775808 = b - 9223372036854775808 := by omega
    rw [h1, h2]
    change 9223372036854775808 + (b - 9223372036854775808) = b
    omega
theorem rung_zero_iff {b : Nat} (h : b < 18446744073709551616) : rung b = 0 ↔ b = 0 ∨ b = 9223372036854775808 := by
  unfold rung; omega
theorem read_zero : double.read 0 = .number false 0 (-1074) := by decide +kernel
theorem sgn_abs (s : Bool) (n : Nat) : (sgn s n).natAbs = n := by cases s <;> simp [sgn]
theorem sgn_zero (s : Bool) (n : Nat) : sgn s n = 0 ↔ n = 0 := by cases s <;> simp [sgn]
theorem sgn_neg (s : Bool) (n : Nat) (h : 0 < n) : decide (sgn s n < 0) = s := by cases s <;> simp [sgn] <;> omega

/-- The number that a finite word with a plain magnitude stands for, written again. -/
theorem write_back (t : Bool) {b : Nat} (h : b < 18446744073709551616) (hr : rung b < 9218868437227405312) (h0 : rung b = 0 → t = false) :
    double.write (.number (if sgn (isNeg b) (mg (rung b)) = 0 then t else decide (sgn (isNeg b) (mg (rung b)) < 0)) (sgn (isNeg b) (mg (rung b))).natAbs (-1074)) = if rung b = 0 then 0 else b := by
  by_cases hz : rung b = 0
  · rw [if_pos hz, hz, mg_zero, h0 hz]
    have : sgn (isNeg b) 0 = 0 := (sgn_zero _ _).2 rfl
    rw [this]
    decide +kernel
  · have hp : 0 < mg (rung b) := mg_pos (by omega)
    have hne : ¬ sgn (isNeg b) (mg (rung b)) = 0 := by rw [sgn_zero]; omega
    rw [if_neg hz, if_neg hne, sgn_neg _ _ hp, sgn_abs]
    change double.nearest _ _ _ = b
    rw [nearest_mg _ _ (by omega) hr, word_self h]

theorem zero_add {b : Nat} (h : b < 18446744073709551616) (hn : isN b = false) : double.add 0 b = some (if rung b = 0 then 0 else b) := by
  have hr := isN_false hn
  unfold Format.add
  by_cases hi : rung b = 9218868437227405312
  · rw [read_zero, read_inf hi, if_neg (by omega)]
    have : double.word (isNeg b) double.infRung = b := by rw [inf_eq, ← hi]; exact word_self h
    exact congrArg some this
  · have hr' : rung b < 9218868437227405312 := by omega
    rw [read_zero, read_number hr']
    simp only [Datum.sum, signed_eq, Option.map_some, Option.some.injEq]
    have b0 : min (-1074 : Int) (-1074 + (ex (rung b) : Int)) = -1074 := by omega
    rw [b0]
    have b1 : (-1074 + (ex (rung b) : Int) - -1074).toNat = ex (rung b) := by omega
    have b2 : sgn false (0 * 2 ^ (-1074 - (-1074 : Int)).toNat) = 0 := by decide
    rw [b1, b2, Int.zero_add]
    exact write_back _ h hr' (fun _ => rfl)
theorem add_zero {b : Nat} (h : b < 18446744073709551616) (hn : isN b = false) (hz : b ≠ 9223372036854775808) : double.add b 0 = some b := by
  have hr := isN_false hn
  unfold Format.add
  by_cases hi : rung b = 9218868437227405312
  · rw [read_zero, read_inf hi]
    have : double.word (isNeg b) double.infRung = b := by rw [inf_eq, ← hi]; exact word_self h
    exact congrArg some this
  · have hr' : rung b < 9218868437227405312 := by omega
    rw [read_zero, read_number hr']
    simp only [Datum.sum, signed_eq, Option.map_some, Option.some.injEq]
    have b0 : min (-1074 + (ex (rung b) : Int)) (-1074 : Int) = -1074 := by omega
    rw [b0]
    have b1 : (-1074 + (ex (rung b) : Int) - -1074).toNat = ex (rung b) := by omega
    have b2 : sgn false (0 * 2 ^ (-1074 - (-1074 : Int)).toNat) = 0 := by decide
    rw [b1, b2, Int.add_zero]
    refine (write_back _ h hr' (fun _ => Bool.and_false _)).trans ?_
    by_cases h0 : rung b = 0
    · rw [if_pos h0]
      rcases (rung_zero_iff h).1 h0 with rfl | rfl
      · rfl
      · exact absurd rfl hz
    · rw [if_neg h0]

/-- What is not nought stays so when it is written, if its last digit's place is not below the least. -/
theorem nearest_pos (s : Bool) (M : Nat) (p : Int) (hM : 0 < M) (hp : -1074 ≤ p) : 0 < rung (double.nearest s M p) := by
  unfold Format.nearest
  rw [if_neg (by omega)]
  dsimp only
  rw [lp_eq, bin_eq, inf_eq, show double.fractionBits = 52 from rfl]
  generalize hq : max (p + (M.log2 : Int) - ((52 : Nat) : Int)) (-1074) = q
  have key : 0 < (q - -1074).toNat * 4503599627370496 + Toward.even.cut s (M <<< (p - q).toNat) (q - p).toNat := by
    by_cases h1 : q = -1074
    · subst h1
      have e : (-1074 - p).toNat = 0 := by omega
      rw [e]
      have hm : 0 < M <<< (p - -1074).toNat := by rw [Nat.shiftLeft_eq]; exact Nat.mul_pos hM (Nat.two_pow_pos _)
      have hc := cut_exact s _ 0 hm
      rw [Nat.pow_zero, Nat.mul_one] at hc
      rw [hc]
      omega
    · have : 0 < (q - -1074).toNat := by omega
      omega
  generalize (q - -1074).toNat * 4503599627370496 + Toward.even.cut s (M <<< (p - q).toNat) (q - p).toNat = k at *
  rw [(word_rung s (min k 9218868437227405312) (Nat.min_le_right _ _)).1]
  omega
theorem isNeg_read_mt {b : Nat} (h : b < 18446744073709551616) (hz : b ≠ 9223372036854775808) (hm : mt (rung b) = 0) : isNeg b = false := by
  have h0 : rung b = 0 := by
    unfold mt at hm
    split at hm <;> omega
  rcases (rung_zero_iff h).1 h0 with rfl | rfl
  · rfl
  · exact absurd rfl hz
theorem inf_word_ne (t : Bool) : double.word t double.infRung ≠ 9223372036854775808 := by cases t <;> decide +kernel
/-- A sum is -0 only of two that are. -/
theorem add_not_minus {x y r : Nat} (hx : x < 18446744073709551616) (hz : x ≠ 9223372036854775808) (h : double.add x y = some r) : r ≠ 9223372036854775808 := by
  obtain ⟨hr, hr', hnx, hny⟩ := add_fine h
  have rx := isN_false hnx
  have ry := isN_false hny
  unfold Format.add at h
  by_cases h1 : rung x = 9218868437227405312
  · rw [read_inf h1] at h
    by_cases h2 : rung y = 9218868437227405312
    · rw [read_inf h2] at h
      simp only [Datum.sum] at h
      split at h
      · cases h; exact inf_word_ne _
      · cases h
    · rw [read_number (by omega)] at h
      simp only [Datum.sum] at h
      cases h; exact inf_word_ne _
  · rw [read_number (by omega)] at h
    by_cases h2 : rung y = 9218868437227405312
    · rw [read_inf h2] at h
      simp only [Datum.sum] at h
      cases h; exact inf_word_ne _
    · rw [read_number (by omega)] at h
      have hs := isNeg_read_mt hx hz
      simp only [Datum.sum, signed_eq, Option.map_some, Option.some.injEq] at h
      have hb : -1074 ≤ min (-1074 + (ex (rung x) : Int)) (-1074 + (ex (rung y) : Int)) := by omega
      generalize min (-1074 + (ex (rung x) : Int)) (-1074 + (ex (rung y) : Int)) = base at *
      generalize (-1074 + (ex (rung x) : Int) - base).toNat = i at *
      generalize (-1074 + (ex (rung y) : Int) - base).toNat = j at *
      generalize mt (rung x) = m at *
      generalize mt (rung y) = n at *
      generalize isNeg y = t at *
      generalize isNeg x = u at *
      have p1 := Nat.two_pow_pos i
      have p2 := Nat.two_pow_pos j
      by_cases ht : sgn u (m * 2 ^ i) + sgn t (n * 2 ^ j) = 0
      · have hut : (u && t) = false := by
          cases u with
          | false => rfl
          | true =>
            cases t with
            | false => rfl
            | true =>
              exfalso
              have hm : 0 < m := by
                rcases Nat.eq_zero_or_pos m with h0 | h0
                · exact absurd (hs h0) (by decide)
                · exact h0
              have h3 := Nat.mul_pos hm p1
              simp only [sgn, if_true] at ht
              omega
        rw [ht, if_pos rfl, hut] at h
        rw [← h]
        change double.nearest false 0 base ≠ _
        unfold Format.nearest
        rw [if_pos rfl]
        decide +kernel
      · rw [if_neg ht] at h
        have hp := nearest_pos (decide (sgn u (m * 2 ^ i) + sgn t (n * 2 ^ j) < 0)) (sgn u (m * 2 ^ i) + sgn t (n * 2 ^ j)).natAbs base (by omega) hb
        change double.nearest _ _ _ = r at h
        rw [h] at hp
        intro e
        rw [e] at hp
        exact absurd hp (by decide +kernel)
end Go.Proofs.Ytnpofcnibgdjhaa.Flt
namespace Go.Proofs.Ytnpofcnibgdjhaa
open Flt
theorem fold_not_minus {L : Nat → Nat} : ∀ {k r : Nat}, foldF L k = some r → r ≠ 9223372036854775808 ∧ r < 18446744073709551616 ∧ isN r = false
  | 0, r, h => by
    cases h
    exact ⟨by decide, by decide, by decide⟩
  | k + 1, r, h => by
    cases hf : foldF L k with
    | none => simp only [foldF, hf] at h; cases h
    | some s =>
      simp only [foldF, hf] at h
      have hs := fold_not_minus hf
      have hd := add_fine h
      exact ⟨add_not_minus hs.2.1 hs.1 h, hd.2.1, hd.1⟩
theorem fold_same {L M : Nat → Nat} : ∀ (k : Nat), (∀ i, i < k → L i = M i) → foldF L k = foldF M k
  | 0, _ => rfl
  | k + 1, h => by
    simp only [foldF]
    rw [fold_same k (fun i hi => h i (by omega)), h k (by omega)]
theorem sum_same {L M : Nat → Nat} {k : Nat} (h : ∀ i, i < k → L i = M i) : sumF L k = sumF M k := by unfold sumF; rw [fold_same k h]
/-- A sum with +0 behind it is the same. -/
theorem sum_with_zero {L : Nat → Nat} {k : Nat} (h : L k = 0) : sumF L (k + 1) = sumF L k := by
  unfold sumF
  congr 1
  simp only [foldF, h]
  cases hf : foldF L k with
  | none => rfl
  | some s =>
    have := fold_not_minus hf
    exact add_zero this.2.1 this.2.2 this.1
/-- The sum of one number. -/
theorem sum_one {L : Nat → Nat} (h : L 0 < 18446744073709551616) : sumF L 1 = if kindF (L 0) = 0 then 9221120237041090561 else if kindF (L 0) = 2 then 0 else L 0 := by
  unfold sumF
  simp only [foldF]
  generalize L 0 = b at *
  by_cases hn : isN b = true
  · have h0 := (kind_nan b).2 hn
    rw [if_pos h0]
    have : Ieee.double.add 0 b = none := by
      cases ha : Ieee.double.add 0 b with
      | none => rfl
      | some q => have := (add_fine ha).2.2.2; rw [hn] at this; cases this
    rw [this]; rfl
  · have hn' : isN b = false := by cases h : isN b <;> simp_all
    have h0 : ¬ kindF b = 0 := fun e => hn ((kind_nan b).1 e)
    rw [if_neg h0, zero_add h hn']
    have hr := isN_false hn'
    have h2 : kindF b = 2 ↔ rung b = 0 := by
      unfold kindF
      rw [if_neg (by omega)]
      split
      · omega
      · split <;> omega
    by_cases hz : rung b = 0
    · rw [if_pos hz, if_pos (h2.2 hz)]; rfl
    · rw [if_neg hz, if_neg (fun e => hz (h2.1 e))]; rfl
end Go.Proofs.Ytnpofcnibgdjhaa
