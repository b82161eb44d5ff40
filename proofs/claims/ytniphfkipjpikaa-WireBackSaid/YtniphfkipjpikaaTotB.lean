/- Contracts: the reference's kind; the sums. -/
import Derived.Test.YtniphfkipjpikaaTotA
import Derived.Test.YtniphfkipjpikaaTotQ
namespace Go.Proofs.Ytniphfkipjpikaa
open Go.RowKit Flt

theorem parts_any (b : Nat) (hb : b < 18446744073709551616) (w : World) :
    Calls Try.prog 104 #[.float .f64 b] w fun e w' => e = .returned (.tuple #[.int .u64 (rung b / 4503599627370496 : Nat), .int .u64 (rung b % 4503599627370496 : Nat)]) ∧ w = w' := by
  have h1 : Int.tmod (b : Int) 9223372036854775808 = ((rung b : Nat) : Int) := by
    rw [Int.tmod_eq_emod_of_nonneg (by omega)]; unfold rung; omega
  have h2 : Int.tdiv ((rung b : Nat) : Int) 4503599627370496 = ((rung b / 4503599627370496 : Nat) : Int) := by
    rw [Int.tdiv_eq_ediv_of_nonneg (by omega)]; omega
  have h3 : Int.tmod ((rung b : Nat) : Int) 4503599627370496 = ((rung b % 4503599627370496 : Nat) : Int) := by
    rw [Int.tmod_eq_emod_of_nonneg (by omega)]; omega
  have hr := rung_lt b
  generalize rung b = r at *
  have hq : r / 4503599627370496 < 18446744073709551616 := by omega
  have hm : r % 4503599627370496 < 18446744073709551616 := by omega
  generalize r / 4503599627370496 = q at *
  generalize r % 4503599627370496 = m at *
  have w1 : IntKind.u64.wrap (r : Int) = (r : Int) := by rw [IntKind.wrap_u64]; omega
  have w2 : IntKind.u64.wrap (q : Int) = (q : Int) := by rw [IntKind.wrap_u64]; omega
  have w3 : IntKind.u64.wrap (m : Int) = (m : Int) := by rw [IntKind.wrap_u64]; omega
  go_enter Try.func104, Try.ntmps104
  go_wp2
  go_ret2
  exact ⟨rfl, rfl⟩

def kindP (q m : Nat) : Nat := if q = 2047 then (if 0 < m then 0 else 1) else if q = 0 then (if m = 0 then 2 else 3) else 3
theorem kindP_eq (b : Nat) : kindP (rung b / 4503599627370496) (rung b % 4503599627370496) = kindF b := by
  have := rung_lt b
  unfold kindP kindF
  generalize rung b = r at *
  by_cases h1 : r / 4503599627370496 = 2047
  · rw [if_pos h1]
    by_cases h2 : 0 < r % 4503599627370496
    · rw [if_pos h2, if_pos (by omega)]
    · rw [if_neg h2, if_neg (by omega), if_pos (by omega)]
  · rw [if_neg h1]
    by_cases h2 : r / 4503599627370496 = 0
    · rw [if_pos h2]
      by_cases h3 : r % 4503599627370496 = 0
      · rw [if_pos h3, if_neg (by omega), if_neg (by omega), if_pos (by omega)]
      · rw [if_neg h3, if_neg (by omega), if_neg (by omega), if_neg (by omega)]
    · rw [if_neg h2, if_neg (by omega), if_neg (by omega), if_neg (by omega)]

theorem ref_kind (b : Nat) (hb : b < 18446744073709551616) (w : World) :
    Calls Try.prog 99 #[.float .f64 b] w fun e w' => e = .returned (.int .i64 (kindF b : Nat)) ∧ w = w' := by
  have hc := parts_any b hb w
  rw [← kindP_eq b]
  generalize rung b / 4503599627370496 = q at *
  generalize rung b % 4503599627370496 = m at *
  unfold kindP
  by_cases h1 : q = 2047
  · by_cases h2 : 0 < m
    · subst h1
      rw [if_pos rfl, if_pos h2]
      go_enter Try.func99, Try.ntmps99
      go_wp2_with fail
      refine hc.mono ?_
      rintro _ _ ⟨rfl, rfl⟩
      go_wp2
      go_ret
      exact ⟨rfl, rfl⟩
    · obtain rfl : m = 0 := by omega
      subst h1
      rw [if_pos rfl, if_neg h2]
      go_enter Try.func99, Try.ntmps99
      go_wp2_with fail
      refine hc.mono ?_
      rintro _ _ ⟨rfl, rfl⟩
      go_wp2
      go_ret
      exact ⟨rfl, rfl⟩
  · have i1 : ¬ (q : Int) = 2047 := by omega
    rw [if_neg h1]
    by_cases h2 : q = 0
    · subst h2
      rw [if_pos rfl]
      by_cases h3 : m = 0
      · subst h3
        rw [if_pos rfl]
        go_enter Try.func99, Try.ntmps99
        go_wp2_with fail
        refine hc.mono ?_
        rintro _ _ ⟨rfl, rfl⟩
        go_wp2
        go_ret
        exact ⟨rfl, rfl⟩
      · have i3 : ¬ (m : Int) = 0 := by omega
        rw [if_neg h3]
        go_enter Try.func99, Try.ntmps99
        go_wp2_with fail
        refine hc.mono ?_
        rintro _ _ ⟨rfl, rfl⟩
        go_wp2
        go_ret
        exact ⟨rfl, rfl⟩
    · have i2 : ¬ (q : Int) = 0 := by omega
      rw [if_neg h2]
      go_enter Try.func99, Try.ntmps99
      go_wp2_with fail
      refine hc.mono ?_
      rintro _ _ ⟨rfl, rfl⟩
      go_wp2
      go_ret
      exact ⟨rfl, rfl⟩

/-- n floats lie in block b from off on. -/
def Floats (w : World) (b off n : Nat) (L : Nat → Nat) : Prop := b < w.heap.size ∧ ∀ k, k < n → w.cell? ⟨b, off + k, none⟩ = some (.float .f64 (L k)) ∧ L k < 18446744073709551616
theorem Floats.below {w W : World} {b off n : Nat} {L : Nat → Nat} (h : Floats w b off n L) (hb : Below w.heap.size w W) : Floats W b off n L :=
  ⟨Nat.lt_of_lt_of_le h.1 hb.size, fun k hk => ⟨by rw [hb.cell h.1]; exact (h.2 k hk).1, (h.2 k hk).2⟩⟩

set_option maxHeartbeats 800000 in
theorem ref_sum (b off n cap : Nat) (L : Nat → Nat) (w : World) (hn : n ≤ 9223372036854775807) (hL : Floats w b off n L) :
    Calls Try.prog 66 #[.slice (some ⟨b, off, none⟩) n cap] w fun e w' => e = .returned (.float .f64 (sumF L n)) ∧ Below w.heap.size w w' := by
  go_enter Try.func66, Try.ntmps66
  go_wp2
  go_loopw [3, 4] (fun s i wr => ∃ k x : Nat, k ≤ n ∧ i = .int .i64 k ∧ s = .float .f64 x ∧ Below w.heap.size w wr ∧ Acc L k x) (fun _ i _ => n - (intOf i).toNat)
  case atStart =>
    exact ⟨0, 0, Nat.zero_le _, rfl, rfl, Below.refl _ _, acc_zero L⟩
  case round =>
    obtain ⟨k, x, hk, rfl, rfl, hB, hA⟩ := hrel
    by_cases hlt : k < n
    · have hc := ((hL.below hB).2 k hlt).1
      go_wp2
      go_roundw
      case rel =>
        exact ⟨k + 1, _, by omega, by go_num, rfl, below_addW hB _ _, acc_step hA _⟩
      case measure => simp [intOf]; omega
    · obtain rfl : k = n := by omega
      have hK := kind_nan x
      go_wp2_with fail
      refine (ref_kind x hA.1 _).mono ?_
      rintro _ _ ⟨rfl, rfl⟩
      obtain ⟨h0, hA⟩ := hA
      cases hf : foldF L k with
      | none =>
        have hS : sumF L k = 9221120237041090561 := by simp [sumF, hf]
        rw [hf] at hA
        have h1 : kindF x = 0 := hK.2 hA
        clear hf
        rw [h1]
        go_wp2
        go_ret
        exact ⟨by rw [hS]; rfl, hB⟩
      | some r =>
        have hS : sumF L k = r := by simp [sumF, hf]
        rw [hf] at hA
        obtain ⟨rfl, hA⟩ := hA
        have h1 : ¬ ((kindF x : Nat) : Int) = 0 := by
          intro e
          have := hK.1 (by omega)
          rw [this] at hA; cases hA
        clear hf
        go_wp2
        go_ret
        exact ⟨by rw [hS]; rfl, hB⟩


theorem sum1_any (b : Nat) (hb : b < 18446744073709551616) (w : World) :
    Calls Try.prog 98 #[.float .f64 b] w fun e w' => e = .returned (.bool (isN b)) ∧ w = w' := by
  have hk := kind_nan b
  go_enter Try.func98, Try.ntmps98
  go_wp2_with fail
  refine (total_kind b hb _).mono ?_
  rintro _ _ ⟨rfl, rfl⟩
  go_wp2
  go_ret
  refine ⟨?_, rfl⟩
  cases h : isN b
  · have : ¬ ((kindF b : Nat) : Int) = 0 := by
      intro e
      have := hk.1 (by omega)
      rw [this] at h; cases h
    have : ¬ kindF b = 0 := by omega
    simp [this]
  · have : kindF b = 0 := hk.2 h
    simp [this]

/-- Where no number is a NaN, none is found. -/
theorem indexFunc_none (b off n cap : Nat) (L : Nat → Nat) (w : World) (hn : n ≤ 9223372036854775807) (hL : Floats w b off n L) (hN : ∀ i, i < n → isN (L i) = false) :
    Calls Try.prog 103 #[.slice (some ⟨b, off, none⟩) n cap, .func (.func 98) #[] #[]] w fun e w' => e = .returned (.int .i64 (-1)) ∧ w = w' := by
  go_enter Try.func103, Try.ntmps103
  go_wp2
  go_loopw [8] (fun i wr => ∃ k : Nat, k ≤ n ∧ i = .int .i64 k ∧ w = wr) (fun i _ => n - (intOf i).toNat)
  case atStart => exact ⟨0, Nat.zero_le _, rfl, rfl⟩
  case round =>
    obtain ⟨k, hk, rfl, rfl⟩ := hrel
    by_cases hlt : k < n
    · have hc := (hL.2 k hlt).1
      have hb := (hL.2 k hlt).2
      have hn1 := hN k hlt
      go_wp2_with fail
      refine (sum1_any (L k) hb _).mono ?_
      rintro _ _ ⟨rfl, rfl⟩
      rw [hn1]
      go_wp2
      go_roundw
      case rel => exact ⟨k + 1, by omega, by go_num, by first | rfl | trivial⟩
      case measure => simp [intOf]; omega
    · obtain rfl : k = n := by omega
      go_wp2
      go_ret
      exact ⟨rfl, rfl⟩

theorem containsFunc_none (b off n cap : Nat) (L : Nat → Nat) (w : World) (hn : n ≤ 9223372036854775807) (hL : Floats w b off n L) (hN : ∀ i, i < n → isN (L i) = false) :
    Calls Try.prog 97 #[.slice (some ⟨b, off, none⟩) n cap, .func (.func 98) #[] #[]] w fun e w' => e = .returned (.bool false) ∧ w = w' := by
  go_enter Try.func97, Try.ntmps97
  go_wp2_with fail
  refine (indexFunc_none b off n cap L _ hn hL hN).mono ?_
  rintro _ _ ⟨rfl, rfl⟩
  go_wp2
  go_ret
  exact ⟨rfl, rfl⟩

set_option maxHeartbeats 800000 in
theorem total_sum (b off n cap : Nat) (L : Nat → Nat) (w : World) (hn : n ≤ 9223372036854775807) (hL : Floats w b off n L) :
    Calls Try.prog 65 #[.slice (some ⟨b, off, none⟩) n cap] w fun e w' => e = .returned (.float .f64 (sumF L n)) ∧ Below w.heap.size w w' := by
  go_enter Try.func65, Try.ntmps65
  go_wp2
  go_loopw [3, 8] (fun s i wr => ∃ k x : Nat, k ≤ n ∧ i = .int .i64 k ∧ s = .float .f64 x ∧ Below w.heap.size w wr ∧ Acc L k x) (fun _ i _ => n - (intOf i).toNat)
  case atStart =>
    exact ⟨0, 0, Nat.zero_le _, rfl, rfl, Below.refl _ _, acc_zero L⟩
  case round =>
    obtain ⟨k, x, hk, rfl, rfl, hB, hA⟩ := hrel
    by_cases hlt : k < n
    · have hc := ((hL.below hB).2 k hlt).1
      go_wp2
      go_roundw
      case rel =>
        exact ⟨k + 1, _, by omega, by go_num, rfl, below_addW hB _ _, acc_step hA _⟩
      case measure => simp [intOf]; omega
    · obtain rfl : k = n := by omega
      have hK := kind_nan x
      have hL' := hL.below hB
      go_wp2_with fail
      refine (total_kind x hA.1 _).mono ?_
      rintro _ _ ⟨rfl, rfl⟩
      obtain ⟨h0, hA⟩ := hA
      cases hf : foldF L k with
      | none =>
        have hS : sumF L k = 9221120237041090561 := by simp [sumF, hf]
        rw [hf] at hA
        have h1 : kindF x = 0 := hK.2 hA
        clear hf
        rw [h1]
        go_wp2
        go_ret
        exact ⟨by rw [hS]; rfl, hB⟩
      | some r =>
        have hS : sumF L k = r := by simp [sumF, hf]
        have hN : ∀ i, i < k → isN (L i) = false := fold_number hf
        rw [hf] at hA
        obtain ⟨rfl, hA⟩ := hA
        have h1 : ¬ ((kindF x : Nat) : Int) = 0 := by
          intro e
          have := hK.1 (by omega)
          rw [this] at hA; cases hA
        clear hf
        go_wp2_with fail
        refine (containsFunc_none b off k cap L _ hn hL' hN).mono ?_
        rintro _ _ ⟨rfl, rfl⟩
        go_wp2
        go_ret
        exact ⟨by rw [hS]; rfl, hB⟩
end Go.Proofs.Ytniphfkipjpikaa
