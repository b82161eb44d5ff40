/- Numbers' bytes: of two numbers the lesser one has no more bytes, and, of as many, the lesser bytes. No condition. -/
import Derived.Test.YtniphfkipjpikaaWirN
namespace Go.Proofs.Ytniphfkipjpikaa
open Go.RowKit

theorem conts_byte : ∀ (f m : Nat), ∀ x ∈ conts f m, x < 256
  | 0, _, x, hx => by simp [conts] at hx
  | f + 1, m, x, hx => by
    unfold conts at hx
    split at hx
    · cases hx
    · rcases List.mem_cons.1 hx with rfl | h
      · have := Nat.mod_lt m (show 128 > 0 by decide); omega
      · exact conts_byte f _ x h
theorem numB_byte (n : Nat) : ∀ x ∈ numB n, x < 256 := by
  intro x hx
  unfold numB at hx
  rw [List.mem_reverse] at hx
  rcases List.mem_cons.1 hx with rfl | h
  · have := Nat.mod_lt n (show 128 > 0 by decide); omega
  · exact conts_byte _ _ x h
theorem lexN_same : ∀ (p x y : List Nat), lexN (p ++ x) (p ++ y) = lexN x y
  | [], _, _ => rfl
  | a :: p, x, y => by
    show (decide (a < a) || (decide (a = a) && lexN (p ++ x) (p ++ y))) = lexN x y
    rw [lexN_same p x y]
    simp
theorem lexN_head {a b : Nat} (h : a < b) (x y : List Nat) : lexN (a :: x) (b :: y) = true := by
  unfold lexN
  simp [h]
theorem conts_lex : ∀ (f n m : Nat), n ≤ m → m < 128 ^ f → (conts f n).length ≤ (conts f m).length ∧ ((conts f n).length = (conts f m).length → n < m → ∀ x y, lexN ((conts f n).reverse ++ x) ((conts f m).reverse ++ y) = true)
  | 0, n, m, h, hm => by
    rw [Nat.pow_zero] at hm
    exact ⟨by simp [conts], fun _ hlt => by omega⟩
  | f + 1, n, m, h, hm => by
    by_cases hn : n = 0
    · subst hn
      rw [conts_zero]
      refine ⟨by simp, fun he hlt => ?_⟩
      rw [conts, if_neg (by omega)] at he
      simp at he
    · have hm2 : m / 128 < 128 ^ f := by
        rw [Nat.pow_succ] at hm
        exact Nat.div_lt_of_lt_mul (by rw [Nat.mul_comm]; exact hm)
      obtain ⟨h1, h2⟩ := conts_lex f (n / 128) (m / 128) (Nat.div_le_div_right h) hm2
      have en : conts (f + 1) n = (n % 128 + 128) :: conts f (n / 128) := by rw [conts, if_neg hn]
      have em : conts (f + 1) m = (m % 128 + 128) :: conts f (m / 128) := by rw [conts, if_neg (by omega)]
      rw [en, em]
      refine ⟨by simpa using h1, fun he hlt x y => ?_⟩
      simp only [List.length_cons, Nat.add_right_cancel_iff] at he
      rw [List.reverse_cons, List.reverse_cons, List.append_assoc, List.append_assoc]
      by_cases hq : n / 128 < m / 128
      · exact h2 he hq _ _
      · have hqe : n / 128 = m / 128 := by
          have := Nat.div_le_div_right (c := 128) h
          omega
        rw [hqe, lexN_same]
        exact lexN_head (by omega) _ _
theorem numB_order {n m : Nat} (hm : m < 18446744073709551616) (h : n < m) : (numB n).length ≤ (numB m).length ∧ ((numB n).length = (numB m).length → lexN (numB n) (numB m) = true) := by
  obtain ⟨h1, h2⟩ := conts_lex 9 (n / 128) (m / 128) (Nat.div_le_div_right (Nat.le_of_lt h)) (by
    rw [show (128 : Nat) ^ 9 = 9223372036854775808 by decide]
    omega)
  unfold numB
  refine ⟨by simpa using h1, fun he => ?_⟩
  simp only [List.length_reverse, List.length_cons, Nat.add_right_cancel_iff] at he
  rw [List.reverse_cons, List.reverse_cons]
  by_cases hq : n / 128 < m / 128
  · exact h2 he hq _ _
  · have hqe : n / 128 = m / 128 := by
      have := Nat.div_le_div_right (c := 128) (Nat.le_of_lt h)
      omega
    rw [hqe, lexN_same]
    exact lexN_head (by omega) _ _
theorem own_form {w : World} {B : Nat} {v : Value} {bs : List Nat} (h : w.ownsRow B 5 1 v bs.length (bcells bs)) : ∃ a c, v = .slice a bs.length c := by
  rcases h.2 with ⟨rfl, h0⟩ | ⟨g, cp, cur, rfl, _⟩
  · exact ⟨none, 0, by rw [h0]⟩
  · exact ⟨_, cp, rfl⟩

set_option maxRecDepth 100000 in
set_option maxHeartbeats 3200000 in
theorem wireShort_any (n m : Nat) (w : World) (hn : n < 18446744073709551616) (hm : m < 18446744073709551616) :
    Calls Try.prog 7 #[.int .u64 (n : Int), .int .u64 (m : Int)] w fun e w' => e = .returned (.bool true) ∧ Below w.heap.size w w' := by
  go_enter Try.func7, Try.ntmps7
  go_wp2_with fail
  refine (new_any _).mono ?_
  rintro _ _ ⟨rfl, rfl⟩
  have hb0 := belA (bel0 w) (.cells #[.slice none 0 0] 111)
  go_wp2_with fail
  refine (num_any w.heap.size none [] n _ hn (by decide) (wr_new w)).mono ?_
  rintro _ w1 ⟨rfl, g1, hv1, hn1, hk1⟩
  have hb1 : Below w.heap.size w w1 := hb0.trans (hk1.below (by simp) (Nat.le_refl _) (fun k e => by cases e))
  go_wp2_with fail
  refine (bytes_any w.heap.size g1 _ _ (by have := (numB_len n).2; simp; omega) hv1).mono ?_
  rintro _ w2 ⟨va, rfl, ha, hb2⟩
  rw [List.nil_append] at ha
  have hb2' : Below w.heap.size w w2 := hb1.trans (hb2.mono hb1.size)
  obtain ⟨aa, ca, rfl⟩ := own_form ha
  have hsa := own_slice ha
  clear hb0 hb1 hk1 hn1 hv1 ha hb2
  go_wp2_with fail
  refine (new_any _).mono ?_
  rintro _ _ ⟨rfl, rfl⟩
  have hb3 := belA (bel0 w2) (.cells #[.slice none 0 0] 111)
  go_wp2_with fail
  refine (num_any w2.heap.size none [] m _ hm (by decide) (wr_new w2)).mono ?_
  rintro _ w4 ⟨rfl, g4, hv4, hn4, hk4⟩
  have hb4 : Below w2.heap.size w2 w4 := hb3.trans (hk4.below (by simp) (Nat.le_refl _) (fun k e => by cases e))
  go_wp2_with fail
  refine (bytes_any w2.heap.size g4 _ _ (by have := (numB_len m).2; simp; omega) hv4).mono ?_
  rintro _ w5 ⟨vb, rfl, hb, hb5⟩
  rw [List.nil_append] at hb
  obtain ⟨ab, cb, rfl⟩ := own_form hb
  have hsb := own_slice hb
  have hb5' : Below w2.heap.size w2 w5 := hb4.trans (hb5.mono hb4.size)
  have hB5 : Below w.heap.size w w5 := hb2'.trans (hb5'.mono hb2'.size)
  replace hsa := hsa.below hb5'
  clear hb2' hb3 hb4 hk4 hn4 hv4 hb hb5 hb5'
  have hla := numB_len n
  have hlb := numB_len m
  by_cases hge : m ≤ n
  · go_wp2_with fail
    refine (alive03 _).mono ?_
    rintro _ w6 ⟨rfl, hb6⟩
    have hB6 : Below w.heap.size w w6 := hB5.trans (hb6.mono hB5.size)
    by_cases hgt : m < n
    · go_wp2
      go_ret
      exact ⟨rfl, hB6⟩
    · obtain rfl : n = m := by omega
      have h1 := conv_str (hsa.below hb6)
      have h2 := conv_str (hsb.below hb6)
      go_wp2
      go_ret
      exact ⟨rfl, hB6⟩
  · obtain ⟨ho1, ho2⟩ := numB_order hm (show n < m by omega)
    go_wp2_with fail
    refine (alive03 _).mono ?_
    rintro _ w6 ⟨rfl, hb6⟩
    have hB6 : Below w.heap.size w w6 := hB5.trans (hb6.mono hB5.size)
    have h1 := conv_str (hsa.below hb6)
    have h2 := conv_str (hsb.below hb6)
    by_cases hlt : (numB n).length < (numB m).length
    · go_wp2
      go_ret
      exact ⟨rfl, hB6⟩
    · have he := ho2 (by omega)
      have hs := str_lt (numB_byte n) (numB_byte m)
      rw [he] at hs
      go_wp2
      go_ret
      exact ⟨rfl, hB6⟩
end Go.Proofs.Ytniphfkipjpikaa
