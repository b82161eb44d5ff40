/- Numbers' bytes: of two numbers the lesser one has no more bytes, and, of as many, the lesser bytes. No condition. -/
import Derived.Test.YtnpofcnibgdjhaaWirN
namespace Go.Proofs.Ytnpofcnibgdjhaa
open Go.RowKit

theorem conts_byte : ∀ (f m : Nat), ∀ x ∈ conts f m, x < 256
  | 0, _, x, hx => by simp [conts] at hx
  | f + 1, m, x, hx => by
    unfold conts at hx
    split at hx
    · cases hx
    · rcases List.mem_cons.1 hx with rfl | h
      · have := Nat.mod_lt m (show 128 > 0 by decide); omega
      · exact conts_byte f _ x h
theorem numB_byte (n : Nat) : ∀ x ∈ numB n, x < 256 := by
  intro x hx
  unfold numB at hx
  rw [List.mem_reverse] at hx
  rcases List.mem_cons.1 hx with rfl | h
  · have := Nat.mod_lt n (show 128 > 0 by decide); omega
  · exact conts_byte _ _ x h
theorem lexN_same : ∀ (p x y : List Nat), lexN (p ++ x) (p ++ y) = lexN x y
  | [], _, _ => rfl
  | a :: p, x, y => by
    show (decide (a < a) || (decide (a = a) && lexN (p ++ x) (p ++ y))) = lexN x y
    rw [lexN_same p x y]
    simp
theorem lexN_head {a b : Nat} (h : a < b) (x y : List Nat) : lexN (a :: x) (b :: y) = true := by
  unfold lexN
  simp [h]
theorem conts_lex : ∀ (f n m : Nat), n ≤ m → m < 128 ^ f → (conts f n).length ≤ (conts f m).length ∧ ((conts f n).length = (conts f m).length → n < m → ∀ x y, lexN ((conts f n).reverse ++ x) ((conts f m).reverse ++ y) = true)
  | 0, n, m, h, hm => by
    rw [Nat.pow_zero] at hm
    exact ⟨by simp [conts], fun _ hlt => by omega⟩
  | f + 1, n, m, h, hm => by
    by_cases hn : n = 0
    · subst hn
      rw [conts_zero]
      refine ⟨by simp, fun he hlt => ?_⟩
      rw [conts, if_neg (by omega)] at he
      simp at he
    · have hm2 : m / 128 < 128 ^ f := by
        rw [Nat.pow_succ] at hm
        exact Nat.div_lt_of_lt_mul (by rw [Nat.mul_comm]; exact hm)
      obtain ⟨h1, h2⟩ := conts_lex f (n / 128) (m / 128) (Nat.div_le_div_right h) hm2
      have en : conts (f + 1) n = (n % 128 + 128) :: conts f (n / 128) := by rw [conts, if_neg hn]
      have em : conts (f + 1) m = (m % 128 + 128) :: conts f (m / 128) := by rw [conts, if_neg (by omega)]
      rw [en, em]
      refine ⟨by simpa using h1, fun he hlt x y => ?_⟩
      simp only [List.length_cons, Nat.add_right_cancel_iff] at he
      rw [List.reverse_cons, List.reverse_cons, List.append_assoc, List.append_assoc]
      by_cases hq : n / 128 < m / 128
      · exact h2 he hq _ _
      · have hqe : n / 128 = m / 128 := by
          have := Nat.div_le_div_right (c := 128) h
          omega
        rw [hqe, lexN_same]
        exact lexN_head (by omega) _ _
theorem numB_order {n m : Nat} (hm : m < 18446744073709551616) (h : n < m) : (numB n).length ≤ (numB m).length ∧ ((numB n).length = (numB m).length → lexN (numB n) (numB m) = true) := by
  obtain ⟨h1, h2⟩ := conts_lex 9 (n / 128) (m / 128) (Nat.div_le_div_right (Nat.le_of_lt h)) (by
    rw [show (128 : Nat) ^ 9 = 9223372036854775808 by decide]
    omega)
  unfold numB
  refine ⟨by simpa using h1, fun he => ?_⟩
  simp only [List.length_reverse, List.length_cons, Nat.add_right_cancel_iff] at he
  rw [List.reverse_cons, List.reverse_cons]
  by_cases hq : n / 128 < m / 128
  · exact h2 he hq _ _
  · have hqe : n / 128 = m / 128 := by
      have := Nat.div_le_div_right (c := 128) (Nat.le_of_lt h)
      omega
    rw [hqe, lexN_same]
    exact lexN_head (by omega) _ _
theorem own_form {w : World} {B : Nat} {v : Value} {bs : List Nat} (h : w.ownsRow B 5 1 v bs.length (bcells bs)) : ∃ a c, v = .slice a bs.length c := by
  rcases h.2 with ⟨rfl, h0⟩ | ⟨g, cp, cur, rfl, _⟩
  · exact ⟨none, 0, by rw [h0]⟩
  · exact ⟨_, cp, rfl⟩

end Go.Proofs.Ytnpofcnibgdjhaa
