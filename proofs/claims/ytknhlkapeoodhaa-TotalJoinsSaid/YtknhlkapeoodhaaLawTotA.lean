/- TotalTells, TotalJoins: the walks of the laws. -/
import Derived.Test.YtknhlkapeoodhaaTotC
namespace Go.Proofs.Ytknhlkapeoodhaa
open Go.RowKit Flt

set_option maxHeartbeats 1600000 in
theorem tells_total (a b c : Nat) (ha : a < 18446744073709551616) (hb : b < 18446744073709551616) (hc : c < 18446744073709551616) (w : World) :
    Calls Try.prog 8 #[.int .u64 (a : Int), .int .u64 (b : Int), .int .u64 (c : Int)] w fun e w' => e = .returned (.bool true) ∧ Below w.heap.size w w' := by
  obtain ⟨B1, h1⟩ : ∃ B, decide (keyF a < keyF b) = B := ⟨_, rfl⟩
  have i1 : decide ((keyF a : Int) < (keyF b : Int)) = B1 := by rw [← h1]; exact decide_eq_decide.2 (by omega)
  obtain ⟨B2, h2⟩ : ∃ B, decide (a = b) = B := ⟨_, rfl⟩
  have i2 : ((a : Int) == (b : Int)) = B2 := by rw [← h2]; exact decide_eq_decide.2 (by omega)
  go_enter Try.func8, Try.ntmps8
  go_wp2_with fail
  refine (ref_key a ha _).mono ?_
  rintro _ _ ⟨rfl, rfl⟩
  go_wp2_with fail
  refine (ref_key b hb _).mono ?_
  rintro _ _ ⟨rfl, rfl⟩
  go_wp2_with fail
  refine (alive02 _).mono ?_
  rintro _ w1 ⟨rfl, hB⟩
  go_wp2_with fail
  refine (total_key a ha _).mono ?_
  rintro _ _ ⟨rfl, rfl⟩
  go_wp2_with fail
  refine (ref_key a ha _).mono ?_
  rintro _ _ ⟨rfl, rfl⟩
  go_wp2_with fail
  refine (total_of c hc _).mono ?_
  rintro _ _ ⟨rfl, rfl⟩
  go_wp2_with fail
  refine (ref_of c hc _).mono ?_
  rintro _ _ ⟨rfl, rfl⟩
  go_wp2_with fail
  refine (bits_any _ _ _).mono ?_
  rintro _ _ ⟨rfl, rfl⟩
  rw [decide_eq_true rfl]
  go_wp2_with fail
  refine (total_less a b ha hb _).mono ?_
  rintro _ _ ⟨rfl, rfl⟩
  rw [h1]
  go_wp2_with fail
  refine (total_same a b ha hb _).mono ?_
  rintro _ _ ⟨rfl, rfl⟩
  rw [h2]
  go_wp2_with fail
  refine (total_join a b ha hb _).mono ?_
  rintro _ _ ⟨rfl, rfl⟩
  go_wp2_with fail
  refine (ref_join a b ha hb _).mono ?_
  rintro _ _ ⟨rfl, rfl⟩
  go_wp2_with fail
  refine (bits_any _ _ _).mono ?_
  rintro _ _ ⟨rfl, rfl⟩
  rw [decide_eq_true rfl]
  go_wp2_with fail
  refine (total_kind a ha _).mono ?_
  rintro _ _ ⟨rfl, rfl⟩
  go_wp2_with fail
  refine (ref_kind a ha _).mono ?_
  rintro _ _ ⟨rfl, rfl⟩
  go_wp2
  go_ret
  exact ⟨rfl, hB⟩

set_option maxHeartbeats 1600000 in
theorem joins_total (a b c : Nat) (ha : a < 18446744073709551616) (hb : b < 18446744073709551616) (hc : c < 18446744073709551616) (w : World) :
    Calls Try.prog 11 #[.int .u64 (a : Int), .int .u64 (b : Int), .int .u64 (c : Int)] w fun e w' => e = .returned (.bool true) ∧ Below w.heap.size w w' := by
  have hj := joinF_lt ha hb
  have hk := key_join a b
  have e1 : decide (keyF (joinF a b) < keyF a) = false := decide_eq_false (by omega)
  have e2 : decide (keyF (joinF a b) < keyF b) = false := decide_eq_false (by omega)
  have e3 : joinF b a = joinF a b := joinF_comm hb ha
  have e4 : joinF a a = a := by unfold joinF; split <;> rfl
  have e5 : joinF (joinF a b) c = joinF a (joinF b c) := joinF_assoc ha hb hc
  have e6 : ¬ joinF a b = a → joinF a b = b := by unfold joinF; split <;> simp
  have hbc := joinF_lt hb hc
  clear hk
  by_cases h : joinF a b = a
  · have d1 : decide (joinF a b = a) = true := decide_eq_true h
    clear h e6
    go_enter Try.func11, Try.ntmps11
    go_wp2_with fail
    refine (total_join a b ha hb _).mono ?_
    rintro _ _ ⟨rfl, rfl⟩
    go_wp2_with fail
    refine (total_less _ a hj ha _).mono ?_
    rintro _ _ ⟨rfl, rfl⟩
    rw [e1]
    go_wp2_with fail
    refine (total_less _ b hj hb _).mono ?_
    rintro _ _ ⟨rfl, rfl⟩
    rw [e2]
    go_wp2_with fail
    refine (bits_any _ a _).mono ?_
    rintro _ _ ⟨rfl, rfl⟩
    rw [d1]
    go_wp2_with fail
    refine (total_join b a hb ha _).mono ?_
    rintro _ _ ⟨rfl, rfl⟩
    rw [e3]
    go_wp2_with fail
    refine (bits_any _ _ _).mono ?_
    rintro _ _ ⟨rfl, rfl⟩
    rw [decide_eq_true rfl]
    go_wp2_with fail
    refine (total_join a a ha ha _).mono ?_
    rintro _ _ ⟨rfl, rfl⟩
    rw [e4]
    go_wp2_with fail
    refine (bits_any _ _ _).mono ?_
    rintro _ _ ⟨rfl, rfl⟩
    rw [decide_eq_true rfl]
    go_wp2_with fail
    refine (alive02 _).mono ?_
    rintro _ w1 ⟨rfl, hB⟩
    go_wp2_with fail
    refine (total_join a b ha hb _).mono ?_
    rintro _ _ ⟨rfl, rfl⟩
    go_wp2_with fail
    refine (total_join _ c hj hc _).mono ?_
    rintro _ _ ⟨rfl, rfl⟩
    rw [e5]
    go_wp2_with fail
    refine (total_join b c hb hc _).mono ?_
    rintro _ _ ⟨rfl, rfl⟩
    go_wp2_with fail
    refine (total_join a _ ha hbc _).mono ?_
    rintro _ _ ⟨rfl, rfl⟩
    go_wp2_with fail
    refine (bits_any _ _ _).mono ?_
    rintro _ _ ⟨rfl, rfl⟩
    rw [decide_eq_true rfl]
    go_wp2
    go_ret
    exact ⟨rfl, hB⟩
  · have d1 : decide (joinF a b = a) = false := decide_eq_false h
    have d2 : decide (joinF a b = b) = true := decide_eq_true (e6 h)
    clear h e6
    go_enter Try.func11, Try.ntmps11
    go_wp2_with fail
    refine (total_join a b ha hb _).mono ?_
    rintro _ _ ⟨rfl, rfl⟩
    go_wp2_with fail
    refine (total_less _ a hj ha _).mono ?_
    rintro _ _ ⟨rfl, rfl⟩
    rw [e1]
    go_wp2_with fail
    refine (total_less _ b hj hb _).mono ?_
    rintro _ _ ⟨rfl, rfl⟩
    rw [e2]
    go_wp2_with fail
    refine (bits_any _ a _).mono ?_
    rintro _ _ ⟨rfl, rfl⟩
    rw [d1]
    go_wp2_with fail
    refine (bits_any _ b _).mono ?_
    rintro _ _ ⟨rfl, rfl⟩
    rw [d2]
    go_wp2_with fail
    refine (total_join b a hb ha _).mono ?_
    rintro _ _ ⟨rfl, rfl⟩
    rw [e3]
    go_wp2_with fail
    refine (bits_any _ _ _).mono ?_
    rintro _ _ ⟨rfl, rfl⟩
    rw [decide_eq_true rfl]
    go_wp2_with fail
    refine (total_join a a ha ha _).mono ?_
    rintro _ _ ⟨rfl, rfl⟩
    rw [e4]
    go_wp2_with fail
    refine (bits_any _ _ _).mono ?_
    rintro _ _ ⟨rfl, rfl⟩
    rw [decide_eq_true rfl]
    go_wp2_with fail
    refine (alive02 _).mono ?_
    rintro _ w1 ⟨rfl, hB⟩
    go_wp2_with fail
    refine (total_join a b ha hb _).mono ?_
    rintro _ _ ⟨rfl, rfl⟩
    go_wp2_with fail
    refine (total_join _ c hj hc _).mono ?_
    rintro _ _ ⟨rfl, rfl⟩
    rw [e5]
    go_wp2_with fail
    refine (total_join b c hb hc _).mono ?_
    rintro _ _ ⟨rfl, rfl⟩
    go_wp2_with fail
    refine (total_join a _ ha hbc _).mono ?_
    rintro _ _ ⟨rfl, rfl⟩
    go_wp2_with fail
    refine (bits_any _ _ _).mono ?_
    rintro _ _ ⟨rfl, rfl⟩
    rw [decide_eq_true rfl]
    go_wp2
    go_ret
    exact ⟨rfl, hB⟩
end Go.Proofs.Ytknhlkapeoodhaa
