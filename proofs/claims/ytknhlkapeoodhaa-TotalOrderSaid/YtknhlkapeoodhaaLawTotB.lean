/- TotalOrder: the walk of the law. (Printed by tools/ordgen.py.) -/
import Derived.Test.YtknhlkapeoodhaaTotC
namespace Go.Proofs.Ytknhlkapeoodhaa
open Go.RowKit Flt

set_option maxHeartbeats 1600000 in
theorem order_101_0 (a b c : Nat) (ha : a < 18446744073709551616) (hb : b < 18446744073709551616) (hc : c < 18446744073709551616) (w : World)
    (hab : decide (keyF a < keyF b) = true) (hba : decide (keyF b < keyF a) = false) (heq : decide (a = b) = false) (hbc : decide (keyF b < keyF c) = true) (hac : decide (keyF a < keyF c) = true) (ma : Int.tmod (kindF a : Int) 2 = 0) :
    Calls Try.prog 10 #[.int .u64 (a : Int), .int .u64 (b : Int), .int .u64 (c : Int)] w fun e w' => e = .returned (.bool true) ∧ Below w.heap.size w w' := by
  have eaa : decide (keyF a < keyF a) = false := decide_eq_false (by omega)
  have eoa : ofF (keyF a) = a := of_key ha
  have hka := keyF_lt ha
  go_enter Try.func10, Try.ntmps10
  go_wp2_with fail
  refine (total_less a b ha hb _).mono ?_
  rintro _ _ ⟨rfl, rfl⟩
  rw [hab]
  go_wp2_with fail
  refine (total_less b a hb ha _).mono ?_
  rintro _ _ ⟨rfl, rfl⟩
  rw [hba]
  go_wp2_with fail
  refine (total_less a b ha hb _).mono ?_
  rintro _ _ ⟨rfl, rfl⟩
  rw [hab]
  go_wp2_with fail
  refine (total_same a b ha hb _).mono ?_
  rintro _ _ ⟨rfl, rfl⟩
  rw [heq]
  go_wp2_with fail
  refine (total_less a a ha ha _).mono ?_
  rintro _ _ ⟨rfl, rfl⟩
  rw [eaa]
  go_wp2_with fail
  refine (total_less a b ha hb _).mono ?_
  rintro _ _ ⟨rfl, rfl⟩
  rw [hab]
  go_wp2_with fail
  refine (total_less b c hb hc _).mono ?_
  rintro _ _ ⟨rfl, rfl⟩
  rw [hbc]
  go_wp2_with fail
  refine (total_less a c ha hc _).mono ?_
  rintro _ _ ⟨rfl, rfl⟩
  rw [hac]
  go_wp2_with fail
  refine (total_key a ha _).mono ?_
  rintro _ _ ⟨rfl, rfl⟩
  go_wp2_with fail
  refine (total_of (keyF a) hka _).mono ?_
  rintro _ _ ⟨rfl, rfl⟩
  rw [eoa]
  go_wp2_with fail
  refine (bits_any a a _).mono ?_
  rintro _ _ ⟨rfl, rfl⟩
  rw [decide_eq_true rfl]
  go_wp2_with fail
  refine (total_kind a ha _).mono ?_
  rintro _ _ ⟨rfl, rfl⟩
  go_wp2_with fail
  refine (alive02 _).mono ?_
  rintro _ w1 ⟨rfl, hB⟩
  go_wp2
  go_ret
  exact ⟨rfl, hB⟩

set_option maxHeartbeats 1600000 in
theorem order_101_10 (a b c : Nat) (ha : a < 18446744073709551616) (hb : b < 18446744073709551616) (hc : c < 18446744073709551616) (w : World)
    (hab : decide (keyF a < keyF b) = true) (hba : decide (keyF b < keyF a) = false) (heq : decide (a = b) = false) (hbc : decide (keyF b < keyF c) = true) (hac : decide (keyF a < keyF c) = true) (ma : Int.tmod (kindF a : Int) 2 = 1) (mb : Int.tmod (kindF b : Int) 2 = 0) :
    Calls Try.prog 10 #[.int .u64 (a : Int), .int .u64 (b : Int), .int .u64 (c : Int)] w fun e w' => e = .returned (.bool true) ∧ Below w.heap.size w w' := by
  have eaa : decide (keyF a < keyF a) = false := decide_eq_false (by omega)
  have eoa : ofF (keyF a) = a := of_key ha
  have hka := keyF_lt ha
  go_enter Try.func10, Try.ntmps10
  go_wp2_with fail
  refine (total_less a b ha hb _).mono ?_
  rintro _ _ ⟨rfl, rfl⟩
  rw [hab]
  go_wp2_with fail
  refine (total_less b a hb ha _).mono ?_
  rintro _ _ ⟨rfl, rfl⟩
  rw [hba]
  go_wp2_with fail
  refine (total_less a b ha hb _).mono ?_
  rintro _ _ ⟨rfl, rfl⟩
  rw [hab]
  go_wp2_with fail
  refine (total_same a b ha hb _).mono ?_
  rintro _ _ ⟨rfl, rfl⟩
  rw [heq]
  go_wp2_with fail
  refine (total_less a a ha ha _).mono ?_
  rintro _ _ ⟨rfl, rfl⟩
  rw [eaa]
  go_wp2_with fail
  refine (total_less a b ha hb _).mono ?_
  rintro _ _ ⟨rfl, rfl⟩
  rw [hab]
  go_wp2_with fail
  refine (total_less b c hb hc _).mono ?_
  rintro _ _ ⟨rfl, rfl⟩
  rw [hbc]
  go_wp2_with fail
  refine (total_less a c ha hc _).mono ?_
  rintro _ _ ⟨rfl, rfl⟩
  rw [hac]
  go_wp2_with fail
  refine (total_key a ha _).mono ?_
  rintro _ _ ⟨rfl, rfl⟩
  go_wp2_with fail
  refine (total_of (keyF a) hka _).mono ?_
  rintro _ _ ⟨rfl, rfl⟩
  rw [eoa]
  go_wp2_with fail
  refine (bits_any a a _).mono ?_
  rintro _ _ ⟨rfl, rfl⟩
  rw [decide_eq_true rfl]
  go_wp2_with fail
  refine (total_kind a ha _).mono ?_
  rintro _ _ ⟨rfl, rfl⟩
  go_wp2_with fail
  refine (total_kind b hb _).mono ?_
  rintro _ _ ⟨rfl, rfl⟩
  go_wp2_with fail
  refine (alive02 _).mono ?_
  rintro _ w1 ⟨rfl, hB⟩
  go_wp2
  go_ret
  exact ⟨rfl, hB⟩

set_option maxHeartbeats 1600000 in
theorem order_101_11 (a b c : Nat) (ha : a < 18446744073709551616) (hb : b < 18446744073709551616) (hc : c < 18446744073709551616) (w : World)
    (hab : decide (keyF a < keyF b) = true) (hba : decide (keyF b < keyF a) = false) (heq : decide (a = b) = false) (hbc : decide (keyF b < keyF c) = true) (hac : decide (keyF a < keyF c) = true) (ma : Int.tmod (kindF a : Int) 2 = 1) (mb : Int.tmod (kindF b : Int) 2 = 1) (hord : (FloatKind.f64.format.order a b == some .lt) = true) :
    Calls Try.prog 10 #[.int .u64 (a : Int), .int .u64 (b : Int), .int .u64 (c : Int)] w fun e w' => e = .returned (.bool true) ∧ Below w.heap.size w w' := by
  have eaa : decide (keyF a < keyF a) = false := decide_eq_false (by omega)
  have eoa : ofF (keyF a) = a := of_key ha
  have hka := keyF_lt ha
  go_enter Try.func10, Try.ntmps10
  go_wp2_with fail
  refine (total_less a b ha hb _).mono ?_
  rintro _ _ ⟨rfl, rfl⟩
  rw [hab]
  go_wp2_with fail
  refine (total_less b a hb ha _).mono ?_
  rintro _ _ ⟨rfl, rfl⟩
  rw [hba]
  go_wp2_with fail
  refine (total_less a b ha hb _).mono ?_
  rintro _ _ ⟨rfl, rfl⟩
  rw [hab]
  go_wp2_with fail
  refine (total_same a b ha hb _).mono ?_
  rintro _ _ ⟨rfl, rfl⟩
  rw [heq]
  go_wp2_with fail
  refine (total_less a a ha ha _).mono ?_
  rintro _ _ ⟨rfl, rfl⟩
  rw [eaa]
  go_wp2_with fail
  refine (total_less a b ha hb _).mono ?_
  rintro _ _ ⟨rfl, rfl⟩
  rw [hab]
  go_wp2_with fail
  refine (total_less b c hb hc _).mono ?_
  rintro _ _ ⟨rfl, rfl⟩
  rw [hbc]
  go_wp2_with fail
  refine (total_less a c ha hc _).mono ?_
  rintro _ _ ⟨rfl, rfl⟩
  rw [hac]
  go_wp2_with fail
  refine (total_key a ha _).mono ?_
  rintro _ _ ⟨rfl, rfl⟩
  go_wp2_with fail
  refine (total_of (keyF a) hka _).mono ?_
  rintro _ _ ⟨rfl, rfl⟩
  rw [eoa]
  go_wp2_with fail
  refine (bits_any a a _).mono ?_
  rintro _ _ ⟨rfl, rfl⟩
  rw [decide_eq_true rfl]
  go_wp2_with fail
  refine (total_kind a ha _).mono ?_
  rintro _ _ ⟨rfl, rfl⟩
  go_wp2_with fail
  refine (total_kind b hb _).mono ?_
  rintro _ _ ⟨rfl, rfl⟩
  go_wp2_with fail
  refine (alive02 _).mono ?_
  rintro _ w1 ⟨rfl, hB⟩
  go_wp2_with fail
  refine (total_less a b ha hb _).mono ?_
  rintro _ _ ⟨rfl, rfl⟩
  rw [hab]
  go_wp2
  go_ret
  exact ⟨rfl, hB⟩

set_option maxHeartbeats 1600000 in
theorem order_100_0 (a b c : Nat) (ha : a < 18446744073709551616) (hb : b < 18446744073709551616) (hc : c < 18446744073709551616) (w : World)
    (hab : decide (keyF a < keyF b) = true) (hba : decide (keyF b < keyF a) = false) (heq : decide (a = b) = false) (hbc : decide (keyF b < keyF c) = false) (ma : Int.tmod (kindF a : Int) 2 = 0) :
    Calls Try.prog 10 #[.int .u64 (a : Int), .int .u64 (b : Int), .int .u64 (c : Int)] w fun e w' => e = .returned (.bool true) ∧ Below w.heap.size w w' := by
  have eaa : decide (keyF a < keyF a) = false := decide_eq_false (by omega)
  have eoa : ofF (keyF a) = a := of_key ha
  have hka := keyF_lt ha
  go_enter Try.func10, Try.ntmps10
  go_wp2_with fail
  refine (total_less a b ha hb _).mono ?_
  rintro _ _ ⟨rfl, rfl⟩
  rw [hab]
  go_wp2_with fail
  refine (total_less b a hb ha _).mono ?_
  rintro _ _ ⟨rfl, rfl⟩
  rw [hba]
  go_wp2_with fail
  refine (total_less a b ha hb _).mono ?_
  rintro _ _ ⟨rfl, rfl⟩
  rw [hab]
  go_wp2_with fail
  refine (total_same a b ha hb _).mono ?_
  rintro _ _ ⟨rfl, rfl⟩
  rw [heq]
  go_wp2_with fail
  refine (total_less a a ha ha _).mono ?_
  rintro _ _ ⟨rfl, rfl⟩
  rw [eaa]
  go_wp2_with fail
  refine (total_less a b ha hb _).mono ?_
  rintro _ _ ⟨rfl, rfl⟩
  rw [hab]
  go_wp2_with fail
  refine (total_less b c hb hc _).mono ?_
  rintro _ _ ⟨rfl, rfl⟩
  rw [hbc]
  go_wp2_with fail
  refine (total_key a ha _).mono ?_
  rintro _ _ ⟨rfl, rfl⟩
  go_wp2_with fail
  refine (total_of (keyF a) hka _).mono ?_
  rintro _ _ ⟨rfl, rfl⟩
  rw [eoa]
  go_wp2_with fail
  refine (bits_any a a _).mono ?_
  rintro _ _ ⟨rfl, rfl⟩
  rw [decide_eq_true rfl]
  go_wp2_with fail
  refine (total_kind a ha _).mono ?_
  rintro _ _ ⟨rfl, rfl⟩
  go_wp2_with fail
  refine (alive02 _).mono ?_
  rintro _ w1 ⟨rfl, hB⟩
  go_wp2
  go_ret
  exact ⟨rfl, hB⟩

set_option maxHeartbeats 1600000 in
theorem order_100_10 (a b c : Nat) (ha : a < 18446744073709551616) (hb : b < 18446744073709551616) (hc : c < 18446744073709551616) (w : World)
    (hab : decide (keyF a < keyF b) = true) (hba : decide (keyF b < keyF a) = false) (heq : decide (a = b) = false) (hbc : decide (keyF b < keyF c) = false) (ma : Int.tmod (kindF a : Int) 2 = 1) (mb : Int.tmod (kindF b : Int) 2 = 0) :
    Calls Try.prog 10 #[.int .u64 (a : Int), .int .u64 (b : Int), .int .u64 (c : Int)] w fun e w' => e = .returned (.bool true) ∧ Below w.heap.size w w' := by
  have eaa : decide (keyF a < keyF a) = false := decide_eq_false (by omega)
  have eoa : ofF (keyF a) = a := of_key ha
  have hka := keyF_lt ha
  go_enter Try.func10, Try.ntmps10
  go_wp2_with fail
  refine (total_less a b ha hb _).mono ?_
  rintro _ _ ⟨rfl, rfl⟩
  rw [hab]
  go_wp2_with fail
  refine (total_less b a hb ha _).mono ?_
  rintro _ _ ⟨rfl, rfl⟩
  rw [hba]
  go_wp2_with fail
  refine (total_less a b ha hb _).mono ?_
  rintro _ _ ⟨rfl, rfl⟩
  rw [hab]
  go_wp2_with fail
  refine (total_same a b ha hb _).mono ?_
  rintro _ _ ⟨rfl, rfl⟩
  rw [heq]
  go_wp2_with fail
  refine (total_less a a ha ha _).mono ?_
  rintro _ _ ⟨rfl, rfl⟩
  rw [eaa]
  go_wp2_with fail
  refine (total_less a b ha hb _).mono ?_
  rintro _ _ ⟨rfl, rfl⟩
  rw [hab]
  go_wp2_with fail
  refine (total_less b c hb hc _).mono ?_
  rintro _ _ ⟨rfl, rfl⟩
  rw [hbc]
  go_wp2_with fail
  refine (total_key a ha _).mono ?_
  rintro _ _ ⟨rfl, rfl⟩
  go_wp2_with fail
  refine (total_of (keyF a) hka _).mono ?_
  rintro _ _ ⟨rfl, rfl⟩
  rw [eoa]
  go_wp2_with fail
  refine (bits_any a a _).mono ?_
  rintro _ _ ⟨rfl, rfl⟩
  rw [decide_eq_true rfl]
  go_wp2_with fail
  refine (total_kind a ha _).mono ?_
  rintro _ _ ⟨rfl, rfl⟩
  go_wp2_with fail
  refine (total_kind b hb _).mono ?_
  rintro _ _ ⟨rfl, rfl⟩
  go_wp2_with fail
  refine (alive02 _).mono ?_
  rintro _ w1 ⟨rfl, hB⟩
  go_wp2
  go_ret
  exact ⟨rfl, hB⟩

set_option maxHeartbeats 1600000 in
theorem order_100_11 (a b c : Nat) (ha : a < 18446744073709551616) (hb : b < 18446744073709551616) (hc : c < 18446744073709551616) (w : World)
    (hab : decide (keyF a < keyF b) = true) (hba : decide (keyF b < keyF a) = false) (heq : decide (a = b) = false) (hbc : decide (keyF b < keyF c) = false) (ma : Int.tmod (kindF a : Int) 2 = 1) (mb : Int.tmod (kindF b : Int) 2 = 1) (hord : (FloatKind.f64.format.order a b == some .lt) = true) :
    Calls Try.prog 10 #[.int .u64 (a : Int), .int .u64 (b : Int), .int .u64 (c : Int)] w fun e w' => e = .returned (.bool true) ∧ Below w.heap.size w w' := by
  have eaa : decide (keyF a < keyF a) = false := decide_eq_false (by omega)
  have eoa : ofF (keyF a) = a := of_key ha
  have hka := keyF_lt ha
  go_enter Try.func10, Try.ntmps10
  go_wp2_with fail
  refine (total_less a b ha hb _).mono ?_
  rintro _ _ ⟨rfl, rfl⟩
  rw [hab]
  go_wp2_with fail
  refine (total_less b a hb ha _).mono ?_
  rintro _ _ ⟨rfl, rfl⟩
  rw [hba]
  go_wp2_with fail
  refine (total_less a b ha hb _).mono ?_
  rintro _ _ ⟨rfl, rfl⟩
  rw [hab]
  go_wp2_with fail
  refine (total_same a b ha hb _).mono ?_
  rintro _ _ ⟨rfl, rfl⟩
  rw [heq]
  go_wp2_with fail
  refine (total_less a a ha ha _).mono ?_
  rintro _ _ ⟨rfl, rfl⟩
  rw [eaa]
  go_wp2_with fail
  refine (total_less a b ha hb _).mono ?_
  rintro _ _ ⟨rfl, rfl⟩
  rw [hab]
  go_wp2_with fail
  refine (total_less b c hb hc _).mono ?_
  rintro _ _ ⟨rfl, rfl⟩
  rw [hbc]
  go_wp2_with fail
  refine (total_key a ha _).mono ?_
  rintro _ _ ⟨rfl, rfl⟩
  go_wp2_with fail
  refine (total_of (keyF a) hka _).mono ?_
  rintro _ _ ⟨rfl, rfl⟩
  rw [eoa]
  go_wp2_with fail
  refine (bits_any a a _).mono ?_
  rintro _ _ ⟨rfl, rfl⟩
  rw [decide_eq_true rfl]
  go_wp2_with fail
  refine (total_kind a ha _).mono ?_
  rintro _ _ ⟨rfl, rfl⟩
  go_wp2_with fail
  refine (total_kind b hb _).mono ?_
  rintro _ _ ⟨rfl, rfl⟩
  go_wp2_with fail
  refine (alive02 _).mono ?_
  rintro _ w1 ⟨rfl, hB⟩
  go_wp2_with fail
  refine (total_less a b ha hb _).mono ?_
  rintro _ _ ⟨rfl, rfl⟩
  rw [hab]
  go_wp2
  go_ret
  exact ⟨rfl, hB⟩

set_option maxHeartbeats 1600000 in
theorem order_01_0 (a b c : Nat) (ha : a < 18446744073709551616) (hb : b < 18446744073709551616) (w : World)
    (hab : decide (keyF a < keyF b) = false) (hba : decide (keyF b < keyF a) = true) (heq : decide (a = b) = false) (ma : Int.tmod (kindF a : Int) 2 = 0) :
    Calls Try.prog 10 #[.int .u64 (a : Int), .int .u64 (b : Int), .int .u64 (c : Int)] w fun e w' => e = .returned (.bool true) ∧ Below w.heap.size w w' := by
  have eaa : decide (keyF a < keyF a) = false := decide_eq_false (by omega)
  have eoa : ofF (keyF a) = a := of_key ha
  have hka := keyF_lt ha
  go_enter Try.func10, Try.ntmps10
  go_wp2_with fail
  refine (total_less a b ha hb _).mono ?_
  rintro _ _ ⟨rfl, rfl⟩
  rw [hab]
  go_wp2_with fail
  refine (total_less a b ha hb _).mono ?_
  rintro _ _ ⟨rfl, rfl⟩
  rw [hab]
  go_wp2_with fail
  refine (total_less b a hb ha _).mono ?_
  rintro _ _ ⟨rfl, rfl⟩
  rw [hba]
  go_wp2_with fail
  refine (total_same a b ha hb _).mono ?_
  rintro _ _ ⟨rfl, rfl⟩
  rw [heq]
  go_wp2_with fail
  refine (total_less a a ha ha _).mono ?_
  rintro _ _ ⟨rfl, rfl⟩
  rw [eaa]
  go_wp2_with fail
  refine (total_less a b ha hb _).mono ?_
  rintro _ _ ⟨rfl, rfl⟩
  rw [hab]
  go_wp2_with fail
  refine (total_key a ha _).mono ?_
  rintro _ _ ⟨rfl, rfl⟩
  go_wp2_with fail
  refine (total_of (keyF a) hka _).mono ?_
  rintro _ _ ⟨rfl, rfl⟩
  rw [eoa]
  go_wp2_with fail
  refine (bits_any a a _).mono ?_
  rintro _ _ ⟨rfl, rfl⟩
  rw [decide_eq_true rfl]
  go_wp2_with fail
  refine (total_kind a ha _).mono ?_
  rintro _ _ ⟨rfl, rfl⟩
  go_wp2_with fail
  refine (alive02 _).mono ?_
  rintro _ w1 ⟨rfl, hB⟩
  go_wp2
  go_ret
  exact ⟨rfl, hB⟩

set_option maxHeartbeats 1600000 in
theorem order_01_10 (a b c : Nat) (ha : a < 18446744073709551616) (hb : b < 18446744073709551616) (w : World)
    (hab : decide (keyF a < keyF b) = false) (hba : decide (keyF b < keyF a) = true) (heq : decide (a = b) = false) (ma : Int.tmod (kindF a : Int) 2 = 1) (mb : Int.tmod (kindF b : Int) 2 = 0) :
    Calls Try.prog 10 #[.int .u64 (a : Int), .int .u64 (b : Int), .int .u64 (c : Int)] w fun e w' => e = .returned (.bool true) ∧ Below w.heap.size w w' := by
  have eaa : decide (keyF a < keyF a) = false := decide_eq_false (by omega)
  have eoa : ofF (keyF a) = a := of_key ha
  have hka := keyF_lt ha
  go_enter Try.func10, Try.ntmps10
  go_wp2_with fail
  refine (total_less a b ha hb _).mono ?_
  rintro _ _ ⟨rfl, rfl⟩
  rw [hab]
  go_wp2_with fail
  refine (total_less a b ha hb _).mono ?_
  rintro _ _ ⟨rfl, rfl⟩
  rw [hab]
  go_wp2_with fail
  refine (total_less b a hb ha _).mono ?_
  rintro _ _ ⟨rfl, rfl⟩
  rw [hba]
  go_wp2_with fail
  refine (total_same a b ha hb _).mono ?_
  rintro _ _ ⟨rfl, rfl⟩
  rw [heq]
  go_wp2_with fail
  refine (total_less a a ha ha _).mono ?_
  rintro _ _ ⟨rfl, rfl⟩
  rw [eaa]
  go_wp2_with fail
  refine (total_less a b ha hb _).mono ?_
  rintro _ _ ⟨rfl, rfl⟩
  rw [hab]
  go_wp2_with fail
  refine (total_key a ha _).mono ?_
  rintro _ _ ⟨rfl, rfl⟩
  go_wp2_with fail
  refine (total_of (keyF a) hka _).mono ?_
  rintro _ _ ⟨rfl, rfl⟩
  rw [eoa]
  go_wp2_with fail
  refine (bits_any a a _).mono ?_
  rintro _ _ ⟨rfl, rfl⟩
  rw [decide_eq_true rfl]
  go_wp2_with fail
  refine (total_kind a ha _).mono ?_
  rintro _ _ ⟨rfl, rfl⟩
  go_wp2_with fail
  refine (total_kind b hb _).mono ?_
  rintro _ _ ⟨rfl, rfl⟩
  go_wp2_with fail
  refine (alive02 _).mono ?_
  rintro _ w1 ⟨rfl, hB⟩
  go_wp2
  go_ret
  exact ⟨rfl, hB⟩

set_option maxHeartbeats 1600000 in
theorem order_01_11 (a b c : Nat) (ha : a < 18446744073709551616) (hb : b < 18446744073709551616) (w : World)
    (hab : decide (keyF a < keyF b) = false) (hba : decide (keyF b < keyF a) = true) (heq : decide (a = b) = false) (ma : Int.tmod (kindF a : Int) 2 = 1) (mb : Int.tmod (kindF b : Int) 2 = 1) (hord : (FloatKind.f64.format.order a b == some .lt) = false) :
    Calls Try.prog 10 #[.int .u64 (a : Int), .int .u64 (b : Int), .int .u64 (c : Int)] w fun e w' => e = .returned (.bool true) ∧ Below w.heap.size w w' := by
  have eaa : decide (keyF a < keyF a) = false := decide_eq_false (by omega)
  have eoa : ofF (keyF a) = a := of_key ha
  have hka := keyF_lt ha
  go_enter Try.func10, Try.ntmps10
  go_wp2_with fail
  refine (total_less a b ha hb _).mono ?_
  rintro _ _ ⟨rfl, rfl⟩
  rw [hab]
  go_wp2_with fail
  refine (total_less a b ha hb _).mono ?_
  rintro _ _ ⟨rfl, rfl⟩
  rw [hab]
  go_wp2_with fail
  refine (total_less b a hb ha _).mono ?_
  rintro _ _ ⟨rfl, rfl⟩
  rw [hba]
  go_wp2_with fail
  refine (total_same a b ha hb _).mono ?_
  rintro _ _ ⟨rfl, rfl⟩
  rw [heq]
  go_wp2_with fail
  refine (total_less a a ha ha _).mono ?_
  rintro _ _ ⟨rfl, rfl⟩
  rw [eaa]
  go_wp2_with fail
  refine (total_less a b ha hb _).mono ?_
  rintro _ _ ⟨rfl, rfl⟩
  rw [hab]
  go_wp2_with fail
  refine (total_key a ha _).mono ?_
  rintro _ _ ⟨rfl, rfl⟩
  go_wp2_with fail
  refine (total_of (keyF a) hka _).mono ?_
  rintro _ _ ⟨rfl, rfl⟩
  rw [eoa]
  go_wp2_with fail
  refine (bits_any a a _).mono ?_
  rintro _ _ ⟨rfl, rfl⟩
  rw [decide_eq_true rfl]
  go_wp2_with fail
  refine (total_kind a ha _).mono ?_
  rintro _ _ ⟨rfl, rfl⟩
  go_wp2_with fail
  refine (total_kind b hb _).mono ?_
  rintro _ _ ⟨rfl, rfl⟩
  go_wp2_with fail
  refine (alive02 _).mono ?_
  rintro _ w1 ⟨rfl, hB⟩
  go_wp2_with fail
  refine (total_less a b ha hb _).mono ?_
  rintro _ _ ⟨rfl, rfl⟩
  rw [hab]
  go_wp2
  go_ret
  exact ⟨rfl, hB⟩

set_option maxHeartbeats 1600000 in
theorem order_00_0 (a b c : Nat) (ha : a < 18446744073709551616) (hb : b < 18446744073709551616) (w : World)
    (hab : decide (keyF a < keyF b) = false) (hba : decide (keyF b < keyF a) = false) (heq : decide (a = b) = true) (ma : Int.tmod (kindF a : Int) 2 = 0) :
    Calls Try.prog 10 #[.int .u64 (a : Int), .int .u64 (b : Int), .int .u64 (c : Int)] w fun e w' => e = .returned (.bool true) ∧ Below w.heap.size w w' := by
  have eaa : decide (keyF a < keyF a) = false := decide_eq_false (by omega)
  have eoa : ofF (keyF a) = a := of_key ha
  have hka := keyF_lt ha
  go_enter Try.func10, Try.ntmps10
  go_wp2_with fail
  refine (total_less a b ha hb _).mono ?_
  rintro _ _ ⟨rfl, rfl⟩
  rw [hab]
  go_wp2_with fail
  refine (total_less a b ha hb _).mono ?_
  rintro _ _ ⟨rfl, rfl⟩
  rw [hab]
  go_wp2_with fail
  refine (total_less b a hb ha _).mono ?_
  rintro _ _ ⟨rfl, rfl⟩
  rw [hba]
  go_wp2_with fail
  refine (total_same a b ha hb _).mono ?_
  rintro _ _ ⟨rfl, rfl⟩
  rw [heq]
  go_wp2_with fail
  refine (total_less a a ha ha _).mono ?_
  rintro _ _ ⟨rfl, rfl⟩
  rw [eaa]
  go_wp2_with fail
  refine (total_less a b ha hb _).mono ?_
  rintro _ _ ⟨rfl, rfl⟩
  rw [hab]
  go_wp2_with fail
  refine (total_key a ha _).mono ?_
  rintro _ _ ⟨rfl, rfl⟩
  go_wp2_with fail
  refine (total_of (keyF a) hka _).mono ?_
  rintro _ _ ⟨rfl, rfl⟩
  rw [eoa]
  go_wp2_with fail
  refine (bits_any a a _).mono ?_
  rintro _ _ ⟨rfl, rfl⟩
  rw [decide_eq_true rfl]
  go_wp2_with fail
  refine (total_kind a ha _).mono ?_
  rintro _ _ ⟨rfl, rfl⟩
  go_wp2_with fail
  refine (alive02 _).mono ?_
  rintro _ w1 ⟨rfl, hB⟩
  go_wp2
  go_ret
  exact ⟨rfl, hB⟩

set_option maxHeartbeats 1600000 in
theorem order_00_10 (a b c : Nat) (ha : a < 18446744073709551616) (hb : b < 18446744073709551616) (w : World)
    (hab : decide (keyF a < keyF b) = false) (hba : decide (keyF b < keyF a) = false) (heq : decide (a = b) = true) (ma : Int.tmod (kindF a : Int) 2 = 1) (mb : Int.tmod (kindF b : Int) 2 = 0) :
    Calls Try.prog 10 #[.int .u64 (a : Int), .int .u64 (b : Int), .int .u64 (c : Int)] w fun e w' => e = .returned (.bool true) ∧ Below w.heap.size w w' := by
  have eaa : decide (keyF a < keyF a) = false := decide_eq_false (by omega)
  have eoa : ofF (keyF a) = a := of_key ha
  have hka := keyF_lt ha
  go_enter Try.func10, Try.ntmps10
  go_wp2_with fail
  refine (total_less a b ha hb _).mono ?_
  rintro _ _ ⟨rfl, rfl⟩
  rw [hab]
  go_wp2_with fail
  refine (total_less a b ha hb _).mono ?_
  rintro _ _ ⟨rfl, rfl⟩
  rw [hab]
  go_wp2_with fail
  refine (total_less b a hb ha _).mono ?_
  rintro _ _ ⟨rfl, rfl⟩
  rw [hba]
  go_wp2_with fail
  refine (total_same a b ha hb _).mono ?_
  rintro _ _ ⟨rfl, rfl⟩
  rw [heq]
  go_wp2_with fail
  refine (total_less a a ha ha _).mono ?_
  rintro _ _ ⟨rfl, rfl⟩
  rw [eaa]
  go_wp2_with fail
  refine (total_less a b ha hb _).mono ?_
  rintro _ _ ⟨rfl, rfl⟩
  rw [hab]
  go_wp2_with fail
  refine (total_key a ha _).mono ?_
  rintro _ _ ⟨rfl, rfl⟩
  go_wp2_with fail
  refine (total_of (keyF a) hka _).mono ?_
  rintro _ _ ⟨rfl, rfl⟩
  rw [eoa]
  go_wp2_with fail
  refine (bits_any a a _).mono ?_
  rintro _ _ ⟨rfl, rfl⟩
  rw [decide_eq_true rfl]
  go_wp2_with fail
  refine (total_kind a ha _).mono ?_
  rintro _ _ ⟨rfl, rfl⟩
  go_wp2_with fail
  refine (total_kind b hb _).mono ?_
  rintro _ _ ⟨rfl, rfl⟩
  go_wp2_with fail
  refine (alive02 _).mono ?_
  rintro _ w1 ⟨rfl, hB⟩
  go_wp2
  go_ret
  exact ⟨rfl, hB⟩

set_option maxHeartbeats 1600000 in
theorem order_00_11 (a b c : Nat) (ha : a < 18446744073709551616) (hb : b < 18446744073709551616) (w : World)
    (hab : decide (keyF a < keyF b) = false) (hba : decide (keyF b < keyF a) = false) (heq : decide (a = b) = true) (ma : Int.tmod (kindF a : Int) 2 = 1) (mb : Int.tmod (kindF b : Int) 2 = 1) (hord : (FloatKind.f64.format.order a b == some .lt) = false) :
    Calls Try.prog 10 #[.int .u64 (a : Int), .int .u64 (b : Int), .int .u64 (c : Int)] w fun e w' => e = .returned (.bool true) ∧ Below w.heap.size w w' := by
  have eaa : decide (keyF a < keyF a) = false := decide_eq_false (by omega)
  have eoa : ofF (keyF a) = a := of_key ha
  have hka := keyF_lt ha
  go_enter Try.func10, Try.ntmps10
  go_wp2_with fail
  refine (total_less a b ha hb _).mono ?_
  rintro _ _ ⟨rfl, rfl⟩
  rw [hab]
  go_wp2_with fail
  refine (total_less a b ha hb _).mono ?_
  rintro _ _ ⟨rfl, rfl⟩
  rw [hab]
  go_wp2_with fail
  refine (total_less b a hb ha _).mono ?_
  rintro _ _ ⟨rfl, rfl⟩
  rw [hba]
  go_wp2_with fail
  refine (total_same a b ha hb _).mono ?_
  rintro _ _ ⟨rfl, rfl⟩
  rw [heq]
  go_wp2_with fail
  refine (total_less a a ha ha _).mono ?_
  rintro _ _ ⟨rfl, rfl⟩
  rw [eaa]
  go_wp2_with fail
  refine (total_less a b ha hb _).mono ?_
  rintro _ _ ⟨rfl, rfl⟩
  rw [hab]
  go_wp2_with fail
  refine (total_key a ha _).mono ?_
  rintro _ _ ⟨rfl, rfl⟩
  go_wp2_with fail
  refine (total_of (keyF a) hka _).mono ?_
  rintro _ _ ⟨rfl, rfl⟩
  rw [eoa]
  go_wp2_with fail
  refine (bits_any a a _).mono ?_
  rintro _ _ ⟨rfl, rfl⟩
  rw [decide_eq_true rfl]
  go_wp2_with fail
  refine (total_kind a ha _).mono ?_
  rintro _ _ ⟨rfl, rfl⟩
  go_wp2_with fail
  refine (total_kind b hb _).mono ?_
  rintro _ _ ⟨rfl, rfl⟩
  go_wp2_with fail
  refine (alive02 _).mono ?_
  rintro _ w1 ⟨rfl, hB⟩
  go_wp2_with fail
  refine (total_less a b ha hb _).mono ?_
  rintro _ _ ⟨rfl, rfl⟩
  rw [hab]
  go_wp2
  go_ret
  exact ⟨rfl, hB⟩

theorem order_total (a b c : Nat) (ha : a < 18446744073709551616) (hb : b < 18446744073709551616) (hc : c < 18446744073709551616) (w : World) :
    Calls Try.prog 10 #[.int .u64 (a : Int), .int .u64 (b : Int), .int .u64 (c : Int)] w fun e w' => e = .returned (.bool true) ∧ Below w.heap.size w w' := by
  have hinj := key_inj ha hb
  have hord : kindF a % 2 = 1 → kindF b % 2 = 1 → (FloatKind.f64.format.order a b == some .lt) = decide (keyF a < keyF b) := lss_key ha hb
  have ma : Int.tmod (kindF a : Int) 2 = ((kindF a % 2 : Nat) : Int) := by rw [Int.tmod_eq_emod_of_nonneg (by omega)]; omega
  have mb : Int.tmod (kindF b : Int) 2 = ((kindF b % 2 : Nat) : Int) := by rw [Int.tmod_eq_emod_of_nonneg (by omega)]; omega
  have pa : kindF a % 2 = 0 ∨ kindF a % 2 = 1 := by omega
  have pb : kindF b % 2 = 0 ∨ kindF b % 2 = 1 := by omega
  by_cases hab : keyF a < keyF b
  · have h1 : decide (keyF a < keyF b) = true := decide_eq_true hab
    have h2 : decide (keyF b < keyF a) = false := decide_eq_false (by omega)
    have h3 : decide (a = b) = false := decide_eq_false (fun e => by rw [e] at hab; omega)
    rw [h1] at hord
    by_cases hbc : keyF b < keyF c
    · have h4 : decide (keyF b < keyF c) = true := decide_eq_true hbc
      have h5 : decide (keyF a < keyF c) = true := decide_eq_true (by omega)
      rcases pa with p | p
      · exact order_101_0 a b c ha hb hc w h1 h2 h3 h4 h5 (by rw [ma, p]; rfl)
      · rcases pb with q | q
        · exact order_101_10 a b c ha hb hc w h1 h2 h3 h4 h5 (by rw [ma, p]; rfl) (by rw [mb, q]; rfl)
        · exact order_101_11 a b c ha hb hc w h1 h2 h3 h4 h5 (by rw [ma, p]; rfl) (by rw [mb, q]; rfl) (hord p q)
    · have h4 : decide (keyF b < keyF c) = false := decide_eq_false hbc
      rcases pa with p | p
      · exact order_100_0 a b c ha hb hc w h1 h2 h3 h4 (by rw [ma, p]; rfl)
      · rcases pb with q | q
        · exact order_100_10 a b c ha hb hc w h1 h2 h3 h4 (by rw [ma, p]; rfl) (by rw [mb, q]; rfl)
        · exact order_100_11 a b c ha hb hc w h1 h2 h3 h4 (by rw [ma, p]; rfl) (by rw [mb, q]; rfl) (hord p q)
  · have h1 : decide (keyF a < keyF b) = false := decide_eq_false hab
    rw [h1] at hord
    by_cases hba : keyF b < keyF a
    · have h2 : decide (keyF b < keyF a) = true := decide_eq_true hba
      have h3 : decide (a = b) = false := decide_eq_false (fun e => by rw [e] at hba; omega)
      rcases pa with p | p
      · exact order_01_0 a b c ha hb w h1 h2 h3 (by rw [ma, p]; rfl)
      · rcases pb with q | q
        · exact order_01_10 a b c ha hb w h1 h2 h3 (by rw [ma, p]; rfl) (by rw [mb, q]; rfl)
        · exact order_01_11 a b c ha hb w h1 h2 h3 (by rw [ma, p]; rfl) (by rw [mb, q]; rfl) (hord p q)
    · have h2 : decide (keyF b < keyF a) = false := decide_eq_false hba
      have h3 : decide (a = b) = true := decide_eq_true (hinj.1 (by omega))
      rcases pa with p | p
      · exact order_00_0 a b c ha hb w h1 h2 h3 (by rw [ma, p]; rfl)
      · rcases pb with q | q
        · exact order_00_10 a b c ha hb w h1 h2 h3 (by rw [ma, p]; rfl) (by rw [mb, q]; rfl)
        · exact order_00_11 a b c ha hb w h1 h2 h3 (by rw [ma, p]; rfl) (by rw [mb, q]; rfl) (hord p q)
end Go.Proofs.Ytknhlkapeoodhaa
