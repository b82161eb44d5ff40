/- Contracts of the clock's reference, the rest. -/
import Derived.Test.YtknhlkapeoodhaaClkR
namespace Go.Proofs.Ytknhlkapeoodhaa
open Go.RowKit

/-- As far as place m: is each number of g at most that of f? -/
def covTo (f g : Nat → Nat) (m : Nat) : Prop := ∀ i, i < m → g i ≤ f i

set_option maxRecDepth 100000 in
set_option maxHeartbeats 800000 in
theorem rcovers_any (f g : Nat → Nat) (w : World) :
    Calls Try.prog 31 #[.agg (VA f), .agg (VA g)] w fun e w' => e = .returned (.bool (covB f g)) ∧ Below w.heap.size w w' := by
  go_enter Try.func31, Try.ntmps31
  go_wp2
  go_loopw [5] (fun i wr => ∃ m : Nat, m ≤ 12 ∧ i = .int .i64 m ∧ Below w.heap.size w wr ∧ look wr w.heap.size = some (.cells (VA f) 26 (0, 0)) ∧ look wr (w.heap.size + 1) = some (.cells (VA g) 26 (0, 0)) ∧ covTo f g m) (fun i _ => 12 - (intOf i).toNat)
  case atStart =>
    exact ⟨0, Nat.zero_le _, rfl, belA (belA (bel0 _) _) _, by go_simp, by go_simp, fun i hi => by omega⟩
  case round =>
    obtain ⟨m, hm, rfl, hB0, h0, h1, hcov⟩ := hrel
    by_cases hml : m < 12
    · have hd : decide ((m : Int) < 12) = true := decide_eq_true (by omega)
      have c0 : World.cell? wr ⟨w.heap.size, m, none⟩ = some (.int .u32 (f m : Int)) := by rw [look_cell h0, VA_get _ _ hml]
      have c1 : World.cell? wr ⟨w.heap.size + 1, m, none⟩ = some (.int .u32 (g m : Int)) := by rw [look_cell h1, VA_get _ _ hml]
      by_cases hgt : f m < g m
      · have Hc : covB f g = false := by
          cases e : covB f g
          · rfl
          · have := (covB_iff f g).1 e m hml
            omega
        have HH := Lib.hid Hc
        clear Hc hcov
        go_wp2
        go_quiet (fail)
        go_wp2
        go_ret
        exact ⟨by rw [HH.out]; rfl, belQ hB0 _⟩
      · have HH : Hid (covTo f g (m + 1)) := by
          intro i hi
          by_cases e : i = m
          · subst e; omega
          · exact hcov i (by omega)
        clear hcov
        go_wp2
        go_quiet (fail)
        go_wp2
        go_roundw
        case measure => simp [intOf]; omega
        case rel => exact ⟨m + 1, by omega, by go_num, belQ hB0 _, by go_simp, by go_simp, HH.out⟩
    · obtain rfl : m = 12 := by omega
      have HH := Lib.hid ((covB_iff f g).2 hcov)
      clear hcov
      go_wp2
      go_ret
      exact ⟨by rw [HH.out]; rfl, hB0⟩

set_option maxRecDepth 100000 in
set_option maxHeartbeats 800000 in
theorem rget_any (f : Nat → Nat) (n : Int) (w : World) :
    Calls Try.prog 28 #[.agg (VA f), .int .i64 n] w fun e w' => e = .returned (.int .u32 (getN f n : Int)) ∧ Below w.heap.size w w' := by
  go_enter Try.func28, Try.ntmps28
  go_wp2
  go_loop [5] (fun i => ∃ m : Nat, m ≤ 12 ∧ i = .int .i64 m ∧ ∀ i : Nat, i < m → (i : Int) + 1 ≠ n) (fun i => 12 - (intOf i).toNat)
  case atStart => exact ⟨0, Nat.zero_le _, rfl, fun i hi => by omega⟩
  case round =>
    obtain ⟨m, hm, rfl, hno⟩ := hrel
    by_cases hml : m < 12
    · by_cases he : (m : Int) + 1 = n
      · have hb : (((m : Int) + 1) == n) = true := by simpa using he
        have HH : Hid (getN f n = f m) := by
          have : (n - 1).toNat = m := by omega
          show getN f n = f m
          rw [getN, if_pos (by omega), this]
        clear he hno
        go_wp2
        go_ret
        exact ⟨ret_int (by rw [HH.out]), belA (bel0 _) _⟩
      · have hb : (((m : Int) + 1) == n) = false := by simpa using he
        have HH : Hid (∀ i : Nat, i < m + 1 → (i : Int) + 1 ≠ n) := by
          intro i hi
          by_cases e : i = m
          · subst e; exact he
          · exact hno i (by omega)
        clear he hno
        go_wp2
        exact ⟨⟨m + 1, by omega, by go_num, HH.out⟩, by simp [intOf]; omega⟩
    · obtain rfl : m = 12 := by omega
      have HH : Hid (getN f n = 0) := by
        show getN f n = 0
        rw [getN, if_neg]
        intro h
        exact hno (n - 1).toNat (by omega) (by omega)
      clear hno
      go_wp2
      go_ret
      exact ⟨ret_int (by rw [HH.out]; rfl), belA (bel0 _) _⟩

set_option maxRecDepth 100000 in
set_option maxHeartbeats 800000 in
theorem rcount_any (f : Nat → Nat) (hf : ∀ i, f i ≤ 4294967295) (w : World) :
    Calls Try.prog 33 #[.agg (VA f)] w fun e w' => e = .returned (.int .u64 (cntN f 12 : Int)) ∧ Below w.heap.size w w' := by
  go_enter Try.func33, Try.ntmps33
  go_wp2
  go_loop [3, 4] (fun n i => ∃ m : Nat, m ≤ 12 ∧ i = .int .i64 m ∧ n = .int .u64 (cntN f m : Int)) (fun _ i => 12 - (intOf i).toNat)
  case atStart => exact ⟨0, Nat.zero_le _, rfl, rfl⟩
  case round =>
    obtain ⟨m, hm, rfl, rfl⟩ := hrel
    by_cases hml : m < 12
    · have hs : IntKind.u64.wrap ((cntN f m : Int) + (f m : Int)) = ((cntN f (m + 1) : Nat) : Int) := by
        have h1 := cntN_le f hf m
        have h2 := hf m
        rw [IntWalk.u64_in _ (by omega)]
        simp [cntN]
      have hw : IntKind.u64.wrap (f m : Int) = (f m : Int) := IntWalk.u64_in _ (by have := hf m; omega)
      clear hf
      go_wp2
      exact ⟨⟨m + 1, by omega, by go_num, rfl⟩, by simp [intOf]; omega⟩
    · obtain rfl : m = 12 := by omega
      go_wp2
      go_ret
      exact ⟨rfl, belA (bel0 _) _⟩

theorem rright_any (d : Int) (k : Nat) (w : World) :
    Calls Try.prog 27 #[.agg #[.int .i64 d, .int .u32 (k : Int)]] w fun e w' => e = .returned (.bool (rightB d k)) ∧ Below w.heap.size w w' := by
  by_cases h0 : 0 < d
  · by_cases h00 : d < 13
    · by_cases h1 : 0 < k
      · by_cases h2 : k ≤ 1048576
        all_goals
          go_enter Try.func27, Try.ntmps27
          go_wp2
          go_ret
          exact ⟨ret_bool (decide_eq_decide.2 (by omega)), belA (bel0 _) _⟩
      · go_enter Try.func27, Try.ntmps27
        go_wp2
        go_ret
        exact ⟨by rw [rightB_no (by omega)]; rfl, belA (bel0 _) _⟩
    · go_enter Try.func27, Try.ntmps27
      go_wp2
      go_ret
      exact ⟨by rw [rightB_no (by omega)]; rfl, belA (bel0 _) _⟩
  · go_enter Try.func27, Try.ntmps27
    go_wp2
    go_ret
    exact ⟨by rw [rightB_no (by omega)]; rfl, belA (bel0 _) _⟩

set_option maxRecDepth 100000 in
set_option maxHeartbeats 800000 in
theorem rorder_any (f g : Nat → Nat) (w : World) :
    Calls Try.prog 34 #[.agg (VA f), .agg (VA g)] w fun e w' => e = .returned (.int .i64 (ordN f g)) ∧ Below w.heap.size w w' := by
  have hboth : veq f g = (covB f g && covB g f) := by
    rw [Bool.eq_iff_iff, Bool.and_eq_true, veq_iff, covB_iff, covB_iff]
    constructor
    · intro h
      exact ⟨fun i hi => by have := h i hi; omega, fun i hi => by have := h i hi; omega⟩
    · intro h i hi
      have := h.1 i hi
      have := h.2 i hi
      omega
  have hv : ordN f g = if (covB f g && covB g f) = true then 0 else if covB f g = true then 1 else if covB g f = true then -1 else 2 := by rw [← hboth]; rfl
  clear hboth
  cases h2 : covB f g
  all_goals
    cases h3 : covB g f
    all_goals
      simp only [h2, h3, Bool.false_eq_true, if_false, if_true, Bool.and_true, Bool.and_false, Bool.true_and, Bool.false_and] at hv
      rw [hv]
      clear hv
      go_enter Try.func34, Try.ntmps34
      go_wp2_with fail
      refine (rcovers_any _ _ _).mono ?_
      rintro e w' ⟨rfl, hb⟩
      rw [h2]
      replace lx : look w' (w.heap.size) = some (.cells (VA f) 26 (0, 0)) := by rw [look_below hb (by first | omega | (simp only [World.size_alloc]; omega) | exact look_lt (by assumption) | (simp only [World.size_alloc, World.size_setCell]; omega) | (simp; omega))]; first | assumption | go_simp
      replace cx : ∀ i, i < 12 → World.cell? w' ⟨w.heap.size, i, none⟩ = some (.int .u32 (((f) i : Nat) : Int)) := fun i hi => by rw [look_cell lx, VA_get _ _ hi]
      replace fx := look_frozen lx
      replace sx := look_lt lx
      replace ly : look w' (w.heap.size + 1) = some (.cells (VA g) 26 (0, 0)) := by rw [look_below hb (by first | omega | (simp only [World.size_alloc]; omega) | exact look_lt (by assumption) | (simp only [World.size_alloc, World.size_setCell]; omega) | (simp; omega))]; first | assumption | go_simp
      replace cy : ∀ i, i < 12 → World.cell? w' ⟨w.heap.size + 1, i, none⟩ = some (.int .u32 (((g) i : Nat) : Int)) := fun i hi => by rw [look_cell ly, VA_get _ _ hi]
      replace fy := look_frozen ly
      replace sy := look_lt ly
      go_wp2_with fail
      refine (rcovers_any _ _ _).mono ?_
      rintro e w2 ⟨rfl, hb2⟩
      first | rw [h2] | rw [h3]
      replace lx : look w2 (w.heap.size) = some (.cells (VA f) 26 (0, 0)) := by rw [look_below hb2 (by first | omega | (simp only [World.size_alloc]; omega) | exact look_lt (by assumption) | (simp only [World.size_alloc, World.size_setCell]; omega) | (simp; omega))]; first | assumption | go_simp
      replace cx : ∀ i, i < 12 → World.cell? w2 ⟨w.heap.size, i, none⟩ = some (.int .u32 (((f) i : Nat) : Int)) := fun i hi => by rw [look_cell lx, VA_get _ _ hi]
      replace fx := look_frozen lx
      replace sx := look_lt lx
      replace ly : look w2 (w.heap.size + 1) = some (.cells (VA g) 26 (0, 0)) := by rw [look_below hb2 (by first | omega | (simp only [World.size_alloc]; omega) | exact look_lt (by assumption) | (simp only [World.size_alloc, World.size_setCell]; omega) | (simp; omega))]; first | assumption | go_simp
      replace cy : ∀ i, i < 12 → World.cell? w2 ⟨w.heap.size + 1, i, none⟩ = some (.int .u32 (((g) i : Nat) : Int)) := fun i hi => by rw [look_cell ly, VA_get _ _ hi]
      replace fy := look_frozen ly
      replace sy := look_lt ly
      first
        | (go_wp2_with fail; go_ret; exact ⟨rfl, belT (belT (belA (belA (bel0 _) _) _) hb) hb2⟩)
        | (go_wp2_with fail
           refine (rcovers_any _ _ _).mono ?_
           rintro e w3 ⟨rfl, hb3⟩
           first | rw [h2] | rw [h3]
           go_wp2
           go_ret
           exact ⟨rfl, belT (belT (belT (belA (belA (bel0 _) _) _) hb) hb2) hb3⟩)
end Go.Proofs.Ytknhlkapeoodhaa
