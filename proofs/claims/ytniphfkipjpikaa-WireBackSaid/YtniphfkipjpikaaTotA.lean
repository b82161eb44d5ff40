/- Contracts of the package total's small functions and of the reference's. -/
import Derived.Test.YtniphfkipjpikaaTotP
import Derived.Test.YtniphfkipjpikaaVecP
import Derived.Test.YtniphfkipjpikaaReg
import Derived.StillTactics
import Derived.LoopTactic
import Derived.Laws.CopyOwn
import Derived.Laws.Externs
namespace Go.Proofs.Ytniphfkipjpikaa
open Go.RowKit Flt

@[go_sem] theorem bits_call (b : Nat) (w : World) : (callFunc 62 #[.float .f64 b]).run Try.prog w = .ok (.value (.int .u64 (b : Int))) w := by
  rw [run_callFunc_extern Try.func62 (by kernel_rfl) (by kernel_rfl) (by kernel_rfl) (e := Extern.MathFloatBits.float64bits) (by kernel_rfl)]
  rfl
@[go_sem] theorem frombits_call (n : Int) (w : World) : (callFunc 24 #[.int .u64 n]).run Try.prog w = .ok (.value (.float .f64 n.toNat)) w := by
  rw [run_callFunc_extern Try.func24 (by kernel_rfl) (by kernel_rfl) (by kernel_rfl) (e := Extern.MathFloatBits.float64frombits) (by kernel_rfl)]
  rfl

theorem total_key (b : Nat) (hb : b < 18446744073709551616) (w : World) :
    Calls Try.prog 82 #[.float .f64 b] w fun e w' => e = .returned (.int .u64 (keyF b : Nat)) ∧ w = w' := by
  have h1 := and_top b hb
  unfold keyF
  by_cases h : b < 9223372036854775808
  · have h2 := or_top b h
    rw [if_pos h] at h1 ⊢
    go_enter Try.func82, Try.ntmps82
    go_wp2
    go_ret
    exact ⟨rfl, rfl⟩
  · have h2 : bits .xor .u64 IntKind.u64.max (b : Int) = _ := xor_all b hb
    rw [if_neg h] at h1 ⊢
    generalize 18446744073709551615 - b = q at *
    go_enter Try.func82, Try.ntmps82
    go_wp2
    go_ret
    exact ⟨rfl, rfl⟩

theorem ref_key (b : Nat) (hb : b < 18446744073709551616) (w : World) :
    Calls Try.prog 94 #[.float .f64 b] w fun e w' => e = .returned (.int .u64 (keyF b : Nat)) ∧ w = w' := by
  unfold keyF
  by_cases h : b < 9223372036854775808
  · have hi : (b : Int) < 9223372036854775808 := by omega
    have h2 : IntKind.u64.wrap ((b : Int) + 9223372036854775808) = ((b + 9223372036854775808 : Nat) : Int) := by rw [IntKind.wrap_u64]; omega
    rw [if_pos h]
    go_enter Try.func94, Try.ntmps94
    go_wp2
    go_ret
    exact ⟨by first | rfl | (simp [h2]; done) | exact congrArg _ (congrArg _ h2), rfl⟩
  · have hi : ¬ (b : Int) < 9223372036854775808 := by omega
    rw [if_neg h]
    obtain ⟨q, hq⟩ : ∃ q, 18446744073709551615 - b = q := ⟨_, rfl⟩
    obtain ⟨m, hm⟩ : ∃ m, b - 9223372036854775808 = m := ⟨_, rfl⟩
    have h2 : IntKind.u64.wrap ((b : Int) - 9223372036854775808) = (m : Int) := by rw [IntKind.wrap_u64]; omega
    have h3 : IntKind.u64.wrap (9223372036854775807 - (m : Int)) = (q : Int) := by rw [IntKind.wrap_u64]; omega
    rw [hq]
    clear hq hm
    go_enter Try.func94, Try.ntmps94
    go_wp2
    go_ret
    exact ⟨by first | rfl | (simp [h2, h3]; done), rfl⟩

theorem total_of (k : Nat) (hk : k < 18446744073709551616) (w : World) :
    Calls Try.prog 83 #[.int .u64 (k : Int)] w fun e w' => e = .returned (.float .f64 (ofF k)) ∧ w = w' := by
  have h1 := and_top k hk
  unfold ofF
  by_cases h : k < 9223372036854775808
  · rw [if_pos h] at h1 ⊢
    obtain ⟨q, hq⟩ : ∃ q, 18446744073709551615 - k = q := ⟨_, rfl⟩
    have h2 : bits .xor .u64 IntKind.u64.max (k : Int) = (q : Int) := by rw [← hq]; exact xor_all k hk
    rw [hq]
    clear hq
    go_enter Try.func83, Try.ntmps83
    go_wp2
    go_ret
    exact ⟨rfl, rfl⟩
  · rw [if_neg h] at h1 ⊢
    obtain ⟨q, hq⟩ : ∃ q, k - 9223372036854775808 = q := ⟨_, rfl⟩
    have h2 : bits .andNot .u64 (k : Int) 9223372036854775808 = (q : Int) := by rw [andNot_top k hk]; omega
    rw [hq]
    clear hq
    go_enter Try.func83, Try.ntmps83
    go_wp2
    go_ret
    exact ⟨rfl, rfl⟩

theorem total_same (a b : Nat) (ha : a < 18446744073709551616) (hb : b < 18446744073709551616) (w : World) :
    Calls Try.prog 64 #[.float .f64 a, .float .f64 b] w fun e w' => e = .returned (.bool (decide (a = b))) ∧ w = w' := by
  have hk := key_inj ha hb
  go_enter Try.func64, Try.ntmps64
  go_wp2_with fail
  refine (total_key a ha _).mono ?_
  rintro _ _ ⟨rfl, rfl⟩
  go_wp2_with fail
  refine (total_key b hb _).mono ?_
  rintro _ _ ⟨rfl, rfl⟩
  go_wp2
  go_ret
  refine ⟨?_, rfl⟩
  by_cases h : a = b
  · subst h; simp
  · have : ¬ keyF a = keyF b := fun e => h (hk.1 e)
    have : ¬ ((keyF a : Nat) : Int) = keyF b := by omega
    simp [h, this]

@[go_sem] theorem Flt.max_cast (a b : Nat) : (if (a : Int) < (b : Int) then (b : Int) else (a : Int)) = ((max a b : Nat) : Int) := by
  split <;> omega
@[go_sem] theorem Flt.max_cast' (a b : Nat) : (if a < b then (b : Int) else (a : Int)) = ((max a b : Nat) : Int) := by
  split <;> omega

theorem total_join (a b : Nat) (ha : a < 18446744073709551616) (hb : b < 18446744073709551616) (w : World) :
    Calls Try.prog 95 #[.float .f64 a, .float .f64 b] w fun e w' => e = .returned (.float .f64 (joinF a b)) ∧ w = w' := by
  have hm : max (keyF a) (keyF b) < 18446744073709551616 := by have := keyF_lt ha; have := keyF_lt hb; omega
  rw [← join_of ha hb]
  go_enter Try.func95, Try.ntmps95
  go_wp2_with fail
  refine (total_key a ha _).mono ?_
  rintro _ _ ⟨rfl, rfl⟩
  go_wp2_with fail
  refine (total_key b hb _).mono ?_
  rintro _ _ ⟨rfl, rfl⟩
  go_wp2_with fail
  refine (total_of _ hm _).mono ?_
  rintro _ _ ⟨rfl, rfl⟩
  go_wp2
  go_ret
  exact ⟨rfl, rfl⟩

theorem isNaN_any (b : Nat) (w : World) :
    Calls Try.prog 101 #[.float .f64 b] w fun e w' => e = .returned (.bool (isN b)) ∧ w = w' := by
  have h : (FloatKind.f64.format.order b b != some .eq) = isN b := order_self b
  go_enter Try.func101, Try.ntmps101
  go_wp2
  go_ret
  exact ⟨by first | rfl | (simp [h]; done), rfl⟩

theorem abs_any (b : Nat) (hb : b < 18446744073709551616) (w : World) :
    Calls Try.prog 105 #[.float .f64 b] w fun e w' => e = .returned (.float .f64 (rung b)) ∧ w = w' := by
  have h : bits .andNot .u64 (b : Int) 9223372036854775808 = ((rung b : Nat) : Int) := andNot_top b hb
  go_enter Try.func105, Try.ntmps105
  go_wp2
  go_ret
  exact ⟨by first | rfl | (simp; done), rfl⟩

theorem isInf_any (b : Nat) (hb : b < 18446744073709551616) (w : World) :
    Calls Try.prog 102 #[.float .f64 b, .int .i64 0] w fun e w' => e = .returned (.bool (decide (rung b = 9218868437227405312))) ∧ w = w' := by
  have h : (FloatKind.f64.format.order (rung b) 9218868437227405311 == some .gt) = _ := abs_gtr b
  go_enter Try.func102, Try.ntmps102
  go_wp2_with fail
  refine (abs_any b hb _).mono ?_
  rintro _ _ ⟨rfl, rfl⟩
  go_wp2
  go_ret
  exact ⟨by first | rfl | (simp [h]; done), rfl⟩

theorem total_kind (b : Nat) (hb : b < 18446744073709551616) (w : World) :
    Calls Try.prog 96 #[.float .f64 b] w fun e w' => e = .returned (.int .i64 (kindF b : Nat)) ∧ w = w' := by
  unfold kindF
  by_cases h1 : 9218868437227405312 < rung b
  · have n : isN b = true := by unfold isN; exact decide_eq_true h1
    rw [if_pos h1]
    clear h1
    go_enter Try.func96, Try.ntmps96
    go_wp2_with fail
    refine (isNaN_any b _).mono ?_
    rintro _ _ ⟨rfl, rfl⟩
    rw [n]
    go_wp2
    go_ret
    exact ⟨rfl, rfl⟩
  · have n : isN b = false := by unfold isN; exact decide_eq_false h1
    rw [if_neg h1]
    by_cases h2 : rung b = 9218868437227405312
    · have e2 : decide (rung b = 9218868437227405312) = true := decide_eq_true h2
      rw [if_pos h2]
      clear h1 h2
      go_enter Try.func96, Try.ntmps96
      go_wp2_with fail
      refine (isNaN_any b _).mono ?_
      rintro _ _ ⟨rfl, rfl⟩
      rw [n]
      go_wp2_with fail
      refine (isInf_any b hb _).mono ?_
      rintro _ _ ⟨rfl, rfl⟩
      rw [e2]
      go_wp2
      go_ret
      exact ⟨rfl, rfl⟩
    · have e2 : decide (rung b = 9218868437227405312) = false := decide_eq_false h2
      have e3 : (FloatKind.f64.format.order b 0 == some .eq) = _ := eql_zero n
      rw [if_neg h2]
      by_cases h3 : rung b = 0
      · rw [decide_eq_true h3] at e3
        rw [if_pos h3]
        clear h1 h2 h3
        go_enter Try.func96, Try.ntmps96
        go_wp2_with fail
        refine (isNaN_any b _).mono ?_
        rintro _ _ ⟨rfl, rfl⟩
        rw [n]
        go_wp2_with fail
        refine (isInf_any b hb _).mono ?_
        rintro _ _ ⟨rfl, rfl⟩
        rw [e2]
        go_wp2
        go_ret
        exact ⟨rfl, rfl⟩
      · rw [decide_eq_false h3] at e3
        rw [if_neg h3]
        clear h1 h2 h3
        go_enter Try.func96, Try.ntmps96
        go_wp2_with fail
        refine (isNaN_any b _).mono ?_
        rintro _ _ ⟨rfl, rfl⟩
        rw [n]
        go_wp2_with fail
        refine (isInf_any b hb _).mono ?_
        rintro _ _ ⟨rfl, rfl⟩
        rw [e2]
        go_wp2
        go_ret
        exact ⟨rfl, rfl⟩
