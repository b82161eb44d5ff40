/- The law's own test that the package is alive. -/
import Derived.Test.YtknhlkapeoodhaaTotB
namespace Go.Proofs.Ytknhlkapeoodhaa
open Go.RowKit Flt

@[go_sem] theorem Flt.unary_neg_float (k : FloatKind) (b : Nat) : Op.unary .neg (.float k b) = pure (.float k (Op.negFloat k b)) := rfl
def two (a b : Nat) : Nat → Nat := fun k => if k = 0 then a else b
theorem floats_two {w : World} {n : Nat} {t : TypeId} {a b : Nat} (ha : a < 18446744073709551616) (hb : b < 18446744073709551616) (h : look w n = some (.cells #[.float .f64 a, .float .f64 b] t (0, 0))) : Floats w n 0 2 (two a b) := by
  refine ⟨look_lt h, fun k hk => ?_⟩
  have : k = 0 ∨ k = 1 := by omega
  rcases this with rfl | rfl
  · exact ⟨by rw [look_cell h]; rfl, ha⟩
  · exact ⟨by rw [look_cell h]; rfl, hb⟩

set_option maxHeartbeats 1600000 in
theorem alive02 (w : World) :
    Calls Try.prog 37 #[] w fun e w' => e = .returned (.bool true) ∧ Below w.heap.size w w' := by
  have n1 : Op.negFloat .f64 9218868437227405312 = 18442240474082181120 := by decide +kernel
  have n2 : Op.negFloat .f64 9221120237041090561 = 18444492273895866369 := by decide +kernel
  have d1 : decide (keyF 9223372036854775808 < keyF 0) = true := by decide +kernel
  have d2 : decide (keyF 0 < keyF 9223372036854775808) = false := by decide +kernel
  have d3 : decide (keyF 9218868437227405312 < keyF 9221120237041090561) = true := by decide +kernel
  have d4 : decide (keyF 18442240474082181120 < keyF 13830554455654793216) = true := by decide +kernel
  have d5 : decide (keyF 18444492273895866369 < keyF 18442240474082181120) = true := by decide +kernel
  have d6 : joinF 9221120237041090561 4607182418800017408 = 9221120237041090561 := by decide +kernel
  have d7 : kindF 9223372036854775808 = 2 := by decide +kernel
  have d8 : sumF (two 4607182418800017408 4611686018427387904) 2 = 4613937818241073152 := by decide +kernel
  have d9 : (FloatKind.f64.format.order 4613937818241073152 4613937818241073152 == some .eq) = true := by decide +kernel
  have d10 : sumF (two 9218868437227405312 18442240474082181120) 2 = 9221120237041090561 := by decide +kernel
  have d11 : kindF 9221120237041090561 = 0 := by decide +kernel
  have d12 : kindF 4607182418800017408 = 3 := by decide +kernel
  have d13 : kindF 9218868437227405312 = 1 := by decide +kernel
  go_enter Try.func37, Try.ntmps37
  go_wp2_with fail
  refine (total_less _ _ (by decide) (by decide) _).mono ?_
  rintro _ _ ⟨rfl, rfl⟩
  rw [d1]
  go_wp2_with fail
  refine (total_less _ _ (by decide) (by decide) _).mono ?_
  rintro _ _ ⟨rfl, rfl⟩
  rw [d2]
  go_wp2_with fail
  refine (total_less _ _ (by decide) (by decide) _).mono ?_
  rintro _ _ ⟨rfl, rfl⟩
  rw [d3]
  go_wp2_with fail
  refine (total_less _ _ (by decide) (by decide) _).mono ?_
  rintro _ _ ⟨rfl, rfl⟩
  rw [d4]
  go_wp2_with fail
  refine (total_less _ _ (by decide) (by decide) _).mono ?_
  rintro _ _ ⟨rfl, rfl⟩
  rw [d5]
  go_wp2_with fail
  refine (total_join _ _ (by decide) (by decide) _).mono ?_
  rintro _ _ ⟨rfl, rfl⟩
  rw [d6]
  go_wp2_with fail
  refine (total_same _ _ (by decide) (by decide) _).mono ?_
  rintro _ _ ⟨rfl, rfl⟩
  rw [decide_eq_true rfl]
  go_wp2_with fail
  refine (total_kind _ (by decide) _).mono ?_
  rintro _ _ ⟨rfl, rfl⟩
  rw [d7]
  go_wp2_with fail
  refine (total_sum _ 0 2 2 (two 4607182418800017408 4611686018427387904) _ (by decide) (floats_two (by decide) (by decide) (look_alloc_at _ _ _ rfl))).mono ?_
  rintro _ w1 ⟨rfl, hB1⟩
  rw [d8]
  have hb1 := belT (belA (bel0 w) _) hB1
  clear hB1
  go_wp2_with fail
  refine (total_sum _ 0 2 2 (two 9218868437227405312 18442240474082181120) _ (by decide) (floats_two (by decide) (by decide) (look_alloc_at _ _ _ rfl))).mono ?_
  rintro _ w2 ⟨rfl, hB2⟩
  rw [d10]
  have hb2 := belT (belA hb1 _) hB2
  clear hB2 hb1
  go_wp2_with fail
  refine (total_kind _ (by decide) _).mono ?_
  rintro _ _ ⟨rfl, rfl⟩
  rw [d11]
  go_wp2_with fail
  refine (total_kind _ (by decide) _).mono ?_
  rintro _ _ ⟨rfl, rfl⟩
  rw [d12]
  go_wp2_with fail
  refine (total_kind _ (by decide) _).mono ?_
  rintro _ _ ⟨rfl, rfl⟩
  rw [d13]
  go_wp2
  go_ret
  exact ⟨rfl, hb2⟩
end Go.Proofs.Ytknhlkapeoodhaa
