/- ClockDots: the walk of the law. -/
import Derived.Test.YtknhlkapeoodhaaClkL
namespace Go.Proofs.Ytknhlkapeoodhaa
open Go.RowKit

/-- As far as place m: is each number of g at most that of f? -/
def leB (f g : Nat → Nat) : Nat → Bool
  | 0 => true
  | m + 1 => leB f g m && decide (g m ≤ f m)
theorem leB_iff (f g : Nat → Nat) : ∀ m, leB f g m = true ↔ ∀ i, i < m → g i ≤ f i
  | 0 => by simp [leB]
  | m + 1 => by
    rw [leB, Bool.and_eq_true, leB_iff f g m, decide_eq_true_eq]
    constructor
    · intro h i hi
      by_cases e : i = m
      · subst e; exact h.2
      · exact h.1 i (by omega)
    · intro h
      exact ⟨fun i hi => h i (by omega), h m (by omega)⟩
theorem leB_all (f g : Nat → Nat) : leB f g 12 = covB f g := by
  rw [Bool.eq_iff_iff, leB_iff, covB_iff]

theorem hasB_dot (f : Nat → Nat) (m k : Nat) (hm : m < 12) (hk : 1 ≤ k) (hk2 : k ≤ 1048576) : hasB f ((m : Int) + 1) k = decide (k ≤ f m) := by
  have h1 : rightB ((m : Int) + 1) k = true := rightB_yes (by omega)
  have h2 : ((m : Int) + 1 - 1).toNat = m := by omega
  rw [hasB, h1, Bool.true_and, getN, if_pos (by omega), h2]

/-- What the law knows of a vector with its next dot. -/
theorem next_facts (f : Nat → Nat) (n : Int) (hn : 1 ≤ n ∧ n ≤ 12) (hg : ¬ 1048576 ≤ getN f n) :
    hasB f n (getN f n + 1) = false ∧ hasB (withN f n (getN f n + 1)) n (getN f n + 1) = true ∧ ordN (withN f n (getN f n + 1)) f = 1 ∧ cntN (withN f n (getN f n + 1)) 12 = cntN f 12 + 1 := by
  have hr : 1 ≤ n ∧ n ≤ 12 ∧ 1 ≤ getN f n + 1 ∧ getN f n + 1 ≤ 1048576 := by omega
  have h1 := rightB_yes hr
  obtain ⟨m, rfl⟩ : ∃ m : Nat, n = m + 1 := ⟨(n - 1).toNat, by omega⟩
  have hm : m < 12 := by omega
  have e : ((m : Int) + 1 - 1).toNat = m := by omega
  have hgm : getN f ((m : Int) + 1) = f m := by rw [getN, if_pos hn, e]
  rw [hgm] at hr hg h1 ⊢
  have hw : ∀ i, withN f ((m : Int) + 1) (f m + 1) i = if i = m then f m + 1 else f i := by
    intro i
    rw [withN_get hr]
    by_cases h : i = m
    · subst h
      rw [if_pos ⟨rfl, by omega⟩, if_pos rfl]
    · rw [if_neg (by omega), if_neg h]
  have hc : ∀ k, cntN (withN f ((m : Int) + 1) (f m + 1)) k = cntN f k + if m < k then 1 else 0 := by
    intro k
    induction k with
    | zero => simp [cntN]
    | succ k ih =>
      rw [cntN, cntN, ih, hw]
      by_cases h : k = m
      · subst h
        rw [if_neg (by omega), if_pos rfl, if_pos (by omega)]
        omega
      · rw [if_neg h]
        by_cases h2 : m < k
        · rw [if_pos h2, if_pos (by omega)]; omega
        · rw [if_neg h2, if_neg (by omega)]; omega
  refine ⟨?_, ?_, ?_, ?_⟩
  · rw [hasB, h1, Bool.true_and, hgm]
    exact decide_eq_false (by omega)
  · rw [hasB, h1, Bool.true_and]
    apply decide_eq_true
    rw [getN, if_pos hn, e, hw, if_pos rfl]
    omega
  · have v1 : veq (withN f ((m : Int) + 1) (f m + 1)) f = false := veq_false _ _ m hm (by rw [hw, if_pos rfl]; omega)
    have v2 : covB (withN f ((m : Int) + 1) (f m + 1)) f = true := (covB_iff _ _).2 (fun i hi => by rw [hw]; split <;> (try subst_vars) <;> omega)
    rw [ordN, v1, v2]
    rfl
  · rw [hc, if_pos hm]

theorem withN_le (f : Nat → Nat) (hf : ∀ i, f i ≤ 4294967295) (d : Int) (k : Nat) : ∀ i, withN f d k i ≤ 4294967295 := by
  intro i
  by_cases h : 1 ≤ d ∧ d ≤ 12 ∧ 1 ≤ k ∧ k ≤ 1048576
  · rw [withN_get h]
    split
    · omega
    · exact hf i
  · rw [withN, if_neg h]
    exact hf i

set_option maxRecDepth 100000 in
set_option maxHeartbeats 8000000 in
theorem dots_walk (f g : Nat → Nat) (hf : ∀ i, f i ≤ 4294967295) (n : Int) (w : World) :
    Calls Try.prog 5 #[.agg (VA f), .agg (VA g), .int .i64 n] w fun e w' => e = .returned (.bool true) ∧ Below w.heap.size w w' := by
  have HF := Lib.hid hf
  clear hf
  go_enter Try.func5, Try.ntmps5
  go_wp2_with fail
  go_loopw [7, 8] (fun a i wr => ∃ m : Nat, m ≤ 12 ∧ i = .int .i64 m ∧ a = .bool (leB f g m) ∧ Below w.heap.size w wr ∧ look wr w.heap.size = some (.cells (VA f) 26 (0, 0)) ∧ look wr (w.heap.size + 1) = some (.cells (VA g) 26 (0, 0)) ∧ Hid (∀ i, i < m → g i ≤ 1048576)) (fun _ i _ => 12 - (intOf i).toNat)
  case atStart => exact ⟨0, Nat.zero_le _, rfl, rfl, belA (belA (bel0 _) _) _, by go_simp, by go_simp, fun i hi => by omega⟩
  case round =>
    obtain ⟨m, hm, rfl, rfl, hB0, h0, h1, bnd⟩ := hrel
    by_cases hml : m < 12
    · have hd : decide ((m : Int) < 12) = true := decide_eq_true (by omega)
      have c0 : World.cell? wr ⟨w.heap.size, m, none⟩ = some (.int .u32 (f m : Int)) := by rw [look_cell h0, VA_get _ _ hml]
      have c1 : World.cell? wr ⟨w.heap.size + 1, m, none⟩ = some (.int .u32 (g m : Int)) := by rw [look_cell h1, VA_get _ _ hml]
      by_cases hbig : 1048576 < g m ∨ 1048576 < f m
      · -- too great a number: the fixed calls alone
        by_cases hg : 1048576 < g m
        all_goals
          go_wp2_with fail
          refine (alive04 _).mono ?_
          rintro e w1 ⟨rfl, hb1⟩
          go_wp2
          go_ret
          exact ⟨rfl, belT hB0 hb1⟩
      · have hg : g m ≤ 1048576 := by omega
        have hfm : f m ≤ 1048576 := by omega
        have bnd' : Hid (∀ i, i < m + 1 → g i ≤ 1048576) := by
          intro i hi
          by_cases e : i = m
          · subst e; exact hg
          · exact bnd.out i (by omega)
        clear hbig bnd
        have hle : leB f g (m + 1) = (leB f g m && decide (g m ≤ f m)) := rfl
        have HE := Lib.hid hle
        clear hle
        cases hl : leB f g m
        · have HL := Lib.hid hl
          clear hl
          go_wp2_with fail
          refine wp_region_words mixed 17 ([] :: [27] :: [28] :: [29, 28] :: [30, 28] :: [31, 28] :: [32, 28] :: [33] :: [33] :: [35, 33] :: [33] :: [37, 33] :: [38, 33] :: [36, 39, 33] :: [34, 40, 33] :: [33, 41, 28] :: [28, 42] :: []) (isV (.bool false) :: isV (.bool false) :: isV (undef) :: isV (undef) :: isV (undef) :: isV (undef) :: isV (undef) :: isV (undef) :: isV (undef) :: isV (undef) :: isV (undef) :: isV (undef) :: isV (undef) :: isV (undef) :: isV (undef) :: isV (undef) :: isV (.bool false) :: []) (by decide) (by kernel_rfl)
            ⟨stab_isV _, stab_isV _, stab_isV _, stab_isV _, stab_isV _, stab_isV _, stab_isV _, stab_isV _, stab_isV _, stab_isV _, stab_isV _, stab_isV _, stab_isV _, stab_isV _, stab_isV _, stab_isV _, stab_isV _, trivial⟩ ⟨?_, ?_, ?_, ?_, ?_, ?_, ?_, ?_, ?_, ?_, ?_, ?_, ?_, ?_, ?_, ?_, ?_, trivial⟩ ?_
          · intro vs wq hB hm
            clear hm
            simp only [fill]
            go_wp2
            exact ⟨_, rfl, rfl, Below.refl _ _⟩
          · intro vs wq hB hm
            have h27 : vs 27 = .bool false := meets_get hm 0 rfl rfl rfl rfl
            clear hm
            simp only [fill, h27]
            go_wp2
            exact ⟨_, rfl, rfl, Below.refl _ _⟩
          · intro vs wq hB hm
            have h28 : vs 28 = .bool false := meets_get hm 1 rfl rfl rfl rfl
            clear hm
            simp only [fill, h28]
            refine wpList_skip (by rfl) ?_
            exact ⟨_, rfl, rfl, Below.refl _ _⟩
          · intro vs wq hB hm
            have h29 : vs 29 = undef := meets_get hm 2 rfl rfl rfl rfl
            have h28 : vs 28 = .bool false := meets_get hm 1 rfl rfl rfl rfl
            clear hm
            simp only [fill, h29, h28]
            refine wpList_skip (by rfl) ?_
            exact ⟨_, rfl, rfl, Below.refl _ _⟩
          · intro vs wq hB hm
            have h30 : vs 30 = undef := meets_get hm 3 rfl rfl rfl rfl
            have h28 : vs 28 = .bool false := meets_get hm 1 rfl rfl rfl rfl
            clear hm
            simp only [fill, h30, h28]
            refine wpList_skip (by rfl) ?_
            exact ⟨_, rfl, rfl, Below.refl _ _⟩
          · intro vs wq hB hm
            have h31 : vs 31 = undef := meets_get hm 4 rfl rfl rfl rfl
            have h28 : vs 28 = .bool false := meets_get hm 1 rfl rfl rfl rfl
            clear hm
            simp only [fill, h31, h28]
            refine wpList_skip (by rfl) ?_
            exact ⟨_, rfl, rfl, Below.refl _ _⟩
          · intro vs wq hB hm
            have h32 : vs 32 = undef := meets_get hm 5 rfl rfl rfl rfl
            have h28 : vs 28 = .bool false := meets_get hm 1 rfl rfl rfl rfl
            clear hm
            simp only [fill, h32, h28]
            refine wpList_skip (by rfl) ?_
            exact ⟨_, rfl, rfl, Below.refl _ _⟩
          · intro vs wq hB hm
            have h33 : vs 33 = undef := meets_get hm 6 rfl rfl rfl rfl
            clear hm
            simp only [fill, h33]
            refine wpList_skip (by rfl) ?_
            exact ⟨_, rfl, rfl, Below.refl _ _⟩
          · intro vs wq hB hm
            have h33 : vs 33 = undef := meets_get hm 6 rfl rfl rfl rfl
            clear hm
            simp only [fill, h33]
            refine wpList_skip (by rfl) ?_
            exact ⟨_, rfl, rfl, Below.refl _ _⟩
          · intro vs wq hB hm
            have h35 : vs 35 = undef := meets_get hm 8 rfl rfl rfl rfl
            have h33 : vs 33 = undef := meets_get hm 6 rfl rfl rfl rfl
            clear hm
            simp only [fill, h35, h33]
            refine wpList_skip (by rfl) ?_
            exact ⟨_, rfl, rfl, Below.refl _ _⟩
          · intro vs wq hB hm
            have h33 : vs 33 = undef := meets_get hm 6 rfl rfl rfl rfl
            clear hm
            simp only [fill, h33]
            refine wpList_skip (by rfl) ?_
            exact ⟨_, rfl, rfl, Below.refl _ _⟩
          · intro vs wq hB hm
            have h37 : vs 37 = undef := meets_get hm 10 rfl rfl rfl rfl
            have h33 : vs 33 = undef := meets_get hm 6 rfl rfl rfl rfl
            clear hm
            simp only [fill, h37, h33]
            refine wpList_skip (by rfl) ?_
            exact ⟨_, rfl, rfl, Below.refl _ _⟩
          · intro vs wq hB hm
            have h38 : vs 38 = undef := meets_get hm 11 rfl rfl rfl rfl
            have h33 : vs 33 = undef := meets_get hm 6 rfl rfl rfl rfl
            clear hm
            simp only [fill, h38, h33]
            refine wpList_skip (by rfl) ?_
            exact ⟨_, rfl, rfl, Below.refl _ _⟩
          · intro vs wq hB hm
            have h36 : vs 36 = undef := meets_get hm 9 rfl rfl rfl rfl
            have h39 : vs 39 = undef := meets_get hm 12 rfl rfl rfl rfl
            have h33 : vs 33 = undef := meets_get hm 6 rfl rfl rfl rfl
            clear hm
            simp only [fill, h36, h39, h33]
            refine wpList_skip (by rfl) ?_
            exact ⟨_, rfl, rfl, Below.refl _ _⟩
          · intro vs wq hB hm
            have h34 : vs 34 = undef := meets_get hm 7 rfl rfl rfl rfl
            have h40 : vs 40 = undef := meets_get hm 13 rfl rfl rfl rfl
            have h33 : vs 33 = undef := meets_get hm 6 rfl rfl rfl rfl
            clear hm
            simp only [fill, h34, h40, h33]
            refine wpList_skip (by rfl) ?_
            exact ⟨_, rfl, rfl, Below.refl _ _⟩
          · intro vs wq hB hm
            have h33 : vs 33 = undef := meets_get hm 6 rfl rfl rfl rfl
            have h41 : vs 41 = undef := meets_get hm 14 rfl rfl rfl rfl
            have h28 : vs 28 = .bool false := meets_get hm 1 rfl rfl rfl rfl
            clear hm
            simp only [fill, h33, h41, h28]
            refine wpList_skip (by rfl) ?_
            exact ⟨_, rfl, rfl, Below.refl _ _⟩
          · intro vs wq hB hm
            have h28 : vs 28 = .bool false := meets_get hm 1 rfl rfl rfl rfl
            have h42 : vs 42 = undef := meets_get hm 15 rfl rfl rfl rfl
            clear hm
            simp only [fill, h28, h42]
            go_wp2
            exact ⟨_, rfl, rfl, Below.refl _ _⟩
          intro vs wq hB hm
          have h27 : vs 27 = .bool false := hm 0 _ _ _ rfl rfl rfl
          have h28 : vs 28 = .bool false := hm 1 _ _ _ rfl rfl rfl
          have h29 : vs 29 = undef := hm 2 _ _ _ rfl rfl rfl
          have h30 : vs 30 = undef := hm 3 _ _ _ rfl rfl rfl
          have h31 : vs 31 = undef := hm 4 _ _ _ rfl rfl rfl
          have h32 : vs 32 = undef := hm 5 _ _ _ rfl rfl rfl
          have h33 : vs 33 = undef := hm 6 _ _ _ rfl rfl rfl
          have h34 : vs 34 = undef := hm 7 _ _ _ rfl rfl rfl
          have h35 : vs 35 = undef := hm 8 _ _ _ rfl rfl rfl
          have h36 : vs 36 = undef := hm 9 _ _ _ rfl rfl rfl
          have h37 : vs 37 = undef := hm 10 _ _ _ rfl rfl rfl
          have h38 : vs 38 = undef := hm 11 _ _ _ rfl rfl rfl
          have h39 : vs 39 = undef := hm 12 _ _ _ rfl rfl rfl
          have h40 : vs 40 = undef := hm 13 _ _ _ rfl rfl rfl
          have h41 : vs 41 = undef := hm 14 _ _ _ rfl rfl rfl
          have h42 : vs 42 = undef := hm 15 _ _ _ rfl rfl rfl
          have h43 : vs 43 = .bool false := hm 16 _ _ _ rfl rfl rfl
          simp only [fill, List.filterMap, List.take, List.drop, List.setIfInBounds_toArray, List.set_cons_zero, List.set_cons_succ, h27, h28, h29, h30, h31, h32, h33, h34, h35, h36, h37, h38, h39, h40, h41, h42, h43]
          clear hm h27 h28 h29 h30 h31 h32 h33 h34 h35 h36 h37 h38 h39 h40 h41 h42 h43
          replace lx : look wq (w.heap.size) = some (.cells (VA f) 26 (0, 0)) := by rw [look_below hB (by first | omega | (simp only [World.size_alloc]; omega) | exact look_lt (by assumption) | (simp only [World.size_alloc, World.size_setCell]; omega) | (simp; omega))]; first | assumption | go_simp
          replace cx : ∀ i, i < 12 → World.cell? wq ⟨w.heap.size, i, none⟩ = some (.int .u32 (((f) i : Nat) : Int)) := fun i hi => by rw [look_cell lx, VA_get _ _ hi]
          replace fx := look_frozen lx
          replace sx := look_lt lx
          replace ly : look wq (w.heap.size + 1) = some (.cells (VA g) 26 (0, 0)) := by rw [look_below hB (by first | omega | (simp only [World.size_alloc]; omega) | exact look_lt (by assumption) | (simp only [World.size_alloc, World.size_setCell]; omega) | (simp; omega))]; first | assumption | go_simp
          replace cy : ∀ i, i < 12 → World.cell? wq ⟨w.heap.size + 1, i, none⟩ = some (.int .u32 (((g) i : Nat) : Int)) := fun i hi => by rw [look_cell ly, VA_get _ _ hi]
          replace fy := look_frozen ly
          replace sy := look_lt ly
          go_wp2
          go_roundw
          case measure => simp [intOf]; omega
          case rel => exact ⟨m + 1, by omega, by go_num, by rw [HE.out, HL.out]; rfl, belT hB0 hB, lx, ly, bnd'⟩
        · have HL := Lib.hid hl
          clear hl
          by_cases hz : g m = 0
          · have hzb : ((g m : Int) == 0) = true := by simp [hz]
            have HZ := Lib.hid hz
            clear hz
            go_wp2_with fail
            refine wp_region_words mixed 17 ([] :: [27] :: [28] :: [29, 28] :: [30, 28] :: [31, 28] :: [32, 28] :: [33] :: [33] :: [35, 33] :: [33] :: [37, 33] :: [38, 33] :: [36, 39, 33] :: [34, 40, 33] :: [33, 41, 28] :: [28, 42] :: []) (isV (.bool true) :: isV (.bool true) :: isV (.int .i64 (m : Int)) :: isV (.pointer (some ⟨w.heap.size + 1, m, none⟩)) :: isV (.int .u32 (g m : Int)) :: isV (.bool true) :: isV (.bool true) :: isV (undef) :: isV (undef) :: isV (undef) :: isV (undef) :: isV (undef) :: isV (undef) :: isV (undef) :: isV (undef) :: isV (.bool true) :: isV (.bool true) :: []) (by decide) (by kernel_rfl)
              ⟨stab_isV _, stab_isV _, stab_isV _, stab_isV _, stab_isV _, stab_isV _, stab_isV _, stab_isV _, stab_isV _, stab_isV _, stab_isV _, stab_isV _, stab_isV _, stab_isV _, stab_isV _, stab_isV _, stab_isV _, trivial⟩ ⟨?_, ?_, ?_, ?_, ?_, ?_, ?_, ?_, ?_, ?_, ?_, ?_, ?_, ?_, ?_, ?_, ?_, trivial⟩ ?_
            · intro vs wq hB hm
              clear hm
              simp only [fill]
              go_wp2
              exact ⟨_, rfl, rfl, Below.refl _ _⟩
            · intro vs wq hB hm
              have h27 : vs 27 = .bool true := meets_get hm 0 rfl rfl rfl rfl
              clear hm
              simp only [fill, h27]
              go_wp2
              exact ⟨_, rfl, rfl, Below.refl _ _⟩
            · intro vs wq hB hm
              have h28 : vs 28 = .bool true := meets_get hm 1 rfl rfl rfl rfl
              clear hm
              simp only [fill, h28]
              go_wp2
              exact ⟨_, rfl, rfl, Below.refl _ _⟩
            · intro vs wq hB hm
              have h29 : vs 29 = .int .i64 (m : Int) := meets_get hm 2 rfl rfl rfl rfl
              have h28 : vs 28 = .bool true := meets_get hm 1 rfl rfl rfl rfl
              clear hm
              simp only [fill, h29, h28]
              go_wp2
              exact ⟨_, rfl, rfl, Below.refl _ _⟩
            · intro vs wq hB hm
              have hl : look wq (w.heap.size + 1) = some (.cells (VA g) 26 (0, 0)) := by rw [look_below hB (by first | omega | (simp only [World.size_alloc]; omega) | exact look_lt (by assumption) | (simp only [World.size_alloc, World.size_setCell]; omega) | (simp; omega))]; first | assumption | go_simp
              have hc : World.cell? wq ⟨w.heap.size + 1, m, none⟩ = some (.int .u32 (g m : Int)) := by rw [look_cell hl]; first | rfl | exact VA_get _ _ (by omega)
              have h30 : vs 30 = .pointer (some ⟨w.heap.size + 1, m, none⟩) := meets_get hm 3 rfl rfl rfl rfl
              have h28 : vs 28 = .bool true := meets_get hm 1 rfl rfl rfl rfl
              clear hm
              simp only [fill, h30, h28]
              go_wp2
              exact ⟨_, rfl, rfl, Below.refl _ _⟩
            · intro vs wq hB hm
              have h31 : vs 31 = .int .u32 (g m : Int) := meets_get hm 4 rfl rfl rfl rfl
              have h28 : vs 28 = .bool true := meets_get hm 1 rfl rfl rfl rfl
              clear hm
              simp only [fill, h31, h28]
              go_wp2
              exact ⟨_, rfl, rfl, Below.refl _ _⟩
            · intro vs wq hB hm
              have h32 : vs 32 = .bool true := meets_get hm 5 rfl rfl rfl rfl
              have h28 : vs 28 = .bool true := meets_get hm 1 rfl rfl rfl rfl
              clear hm
              simp only [fill, h32, h28]
              go_wp2
              exact ⟨_, rfl, rfl, Below.refl _ _⟩
            · intro vs wq hB hm
              have h33 : vs 33 = .bool true := meets_get hm 6 rfl rfl rfl rfl
              clear hm
              simp only [fill, h33]
              refine wpList_skip (by rfl) ?_
              exact ⟨_, rfl, rfl, Below.refl _ _⟩
            · intro vs wq hB hm
              have h33 : vs 33 = .bool true := meets_get hm 6 rfl rfl rfl rfl
              clear hm
              simp only [fill, h33]
              refine wpList_skip (by rfl) ?_
              exact ⟨_, rfl, rfl, Below.refl _ _⟩
            · intro vs wq hB hm
              have h35 : vs 35 = undef := meets_get hm 8 rfl rfl rfl rfl
              have h33 : vs 33 = .bool true := meets_get hm 6 rfl rfl rfl rfl
              clear hm
              simp only [fill, h35, h33]
              refine wpList_skip (by rfl) ?_
              exact ⟨_, rfl, rfl, Below.refl _ _⟩
            · intro vs wq hB hm
              have h33 : vs 33 = .bool true := meets_get hm 6 rfl rfl rfl rfl
              clear hm
              simp only [fill, h33]
              refine wpList_skip (by rfl) ?_
              exact ⟨_, rfl, rfl, Below.refl _ _⟩
            · intro vs wq hB hm
              have h37 : vs 37 = undef := meets_get hm 10 rfl rfl rfl rfl
              have h33 : vs 33 = .bool true := meets_get hm 6 rfl rfl rfl rfl
              clear hm
              simp only [fill, h37, h33]
              refine wpList_skip (by rfl) ?_
              exact ⟨_, rfl, rfl, Below.refl _ _⟩
            · intro vs wq hB hm
              have h38 : vs 38 = undef := meets_get hm 11 rfl rfl rfl rfl
              have h33 : vs 33 = .bool true := meets_get hm 6 rfl rfl rfl rfl
              clear hm
              simp only [fill, h38, h33]
              refine wpList_skip (by rfl) ?_
              exact ⟨_, rfl, rfl, Below.refl _ _⟩
            · intro vs wq hB hm
              have h36 : vs 36 = undef := meets_get hm 9 rfl rfl rfl rfl
              have h39 : vs 39 = undef := meets_get hm 12 rfl rfl rfl rfl
              have h33 : vs 33 = .bool true := meets_get hm 6 rfl rfl rfl rfl
              clear hm
              simp only [fill, h36, h39, h33]
              refine wpList_skip (by rfl) ?_
              exact ⟨_, rfl, rfl, Below.refl _ _⟩
            · intro vs wq hB hm
              have h34 : vs 34 = undef := meets_get hm 7 rfl rfl rfl rfl
              have h40 : vs 40 = undef := meets_get hm 13 rfl rfl rfl rfl
              have h33 : vs 33 = .bool true := meets_get hm 6 rfl rfl rfl rfl
              clear hm
              simp only [fill, h34, h40, h33]
              refine wpList_skip (by rfl) ?_
              exact ⟨_, rfl, rfl, Below.refl _ _⟩
            · intro vs wq hB hm
              have h33 : vs 33 = .bool true := meets_get hm 6 rfl rfl rfl rfl
              have h41 : vs 41 = undef := meets_get hm 14 rfl rfl rfl rfl
              have h28 : vs 28 = .bool true := meets_get hm 1 rfl rfl rfl rfl
              clear hm
              simp only [fill, h33, h41, h28]
              go_wp2
              exact ⟨_, rfl, rfl, Below.refl _ _⟩
            · intro vs wq hB hm
              have h28 : vs 28 = .bool true := meets_get hm 1 rfl rfl rfl rfl
              have h42 : vs 42 = .bool true := meets_get hm 15 rfl rfl rfl rfl
              clear hm
              simp only [fill, h28, h42]
              go_wp2
              exact ⟨_, rfl, rfl, Below.refl _ _⟩
            intro vs wq hB hm
            have h27 : vs 27 = .bool true := hm 0 _ _ _ rfl rfl rfl
            have h28 : vs 28 = .bool true := hm 1 _ _ _ rfl rfl rfl
            have h29 : vs 29 = .int .i64 (m : Int) := hm 2 _ _ _ rfl rfl rfl
            have h30 : vs 30 = .pointer (some ⟨w.heap.size + 1, m, none⟩) := hm 3 _ _ _ rfl rfl rfl
            have h31 : vs 31 = .int .u32 (g m : Int) := hm 4 _ _ _ rfl rfl rfl
            have h32 : vs 32 = .bool true := hm 5 _ _ _ rfl rfl rfl
            have h33 : vs 33 = .bool true := hm 6 _ _ _ rfl rfl rfl
            have h34 : vs 34 = undef := hm 7 _ _ _ rfl rfl rfl
            have h35 : vs 35 = undef := hm 8 _ _ _ rfl rfl rfl
            have h36 : vs 36 = undef := hm 9 _ _ _ rfl rfl rfl
            have h37 : vs 37 = undef := hm 10 _ _ _ rfl rfl rfl
            have h38 : vs 38 = undef := hm 11 _ _ _ rfl rfl rfl
            have h39 : vs 39 = undef := hm 12 _ _ _ rfl rfl rfl
            have h40 : vs 40 = undef := hm 13 _ _ _ rfl rfl rfl
            have h41 : vs 41 = undef := hm 14 _ _ _ rfl rfl rfl
            have h42 : vs 42 = .bool true := hm 15 _ _ _ rfl rfl rfl
            have h43 : vs 43 = .bool true := hm 16 _ _ _ rfl rfl rfl
            simp only [fill, List.filterMap, List.take, List.drop, List.setIfInBounds_toArray, List.set_cons_zero, List.set_cons_succ, h27, h28, h29, h30, h31, h32, h33, h34, h35, h36, h37, h38, h39, h40, h41, h42, h43]
            clear hm h27 h28 h29 h30 h31 h32 h33 h34 h35 h36 h37 h38 h39 h40 h41 h42 h43
            replace lx : look wq (w.heap.size) = some (.cells (VA f) 26 (0, 0)) := by rw [look_below hB (by first | omega | (simp only [World.size_alloc]; omega) | exact look_lt (by assumption) | (simp only [World.size_alloc, World.size_setCell]; omega) | (simp; omega))]; first | assumption | go_simp
            replace cx : ∀ i, i < 12 → World.cell? wq ⟨w.heap.size, i, none⟩ = some (.int .u32 (((f) i : Nat) : Int)) := fun i hi => by rw [look_cell lx, VA_get _ _ hi]
            replace fx := look_frozen lx
            replace sx := look_lt lx
            replace ly : look wq (w.heap.size + 1) = some (.cells (VA g) 26 (0, 0)) := by rw [look_below hB (by first | omega | (simp only [World.size_alloc]; omega) | exact look_lt (by assumption) | (simp only [World.size_alloc, World.size_setCell]; omega) | (simp; omega))]; first | assumption | go_simp
            replace cy : ∀ i, i < 12 → World.cell? wq ⟨w.heap.size + 1, i, none⟩ = some (.int .u32 (((g) i : Nat) : Int)) := fun i hi => by rw [look_cell ly, VA_get _ _ hi]
            replace fy := look_frozen ly
            replace sy := look_lt ly
            go_wp2
            go_roundw
            case measure => simp [intOf]; omega
            case rel => exact ⟨m + 1, by omega, by go_num, by rw [HE.out, HL.out, HZ.out]; rfl, belT hB0 hB, lx, ly, bnd'⟩
          · have hzb : ((g m : Int) == 0) = false := by simp [hz]
            have hh := hasB_dot f m (g m) hml (by omega) hg
            by_cases hc : g m ≤ f m
            · have hh1 : hasB f ((m : Int) + 1) (g m) = true := by rw [hh]; exact decide_eq_true hc
              have HC := Lib.hid hc
              clear hz hh hc
              go_wp2_with fail
              refine wp_region_words mixed 17 ([] :: [27] :: [28] :: [29, 28] :: [30, 28] :: [31, 28] :: [32, 28] :: [33] :: [33] :: [35, 33] :: [33] :: [37, 33] :: [38, 33] :: [36, 39, 33] :: [34, 40, 33] :: [33, 41, 28] :: [28, 42] :: []) (isV (.bool true) :: isV (.bool true) :: isV (.int .i64 (m : Int)) :: isV (.pointer (some ⟨w.heap.size + 1, m, none⟩)) :: isV (.int .u32 (g m : Int)) :: isV (.bool false) :: isV (.bool false) :: isV (.agg (VA f)) :: isV (.int .i64 (m : Int)) :: isV (.int .i64 ((m : Int) + 1)) :: isV (.int .i64 (m : Int)) :: isV (.pointer (some ⟨w.heap.size + 1, m, none⟩)) :: isV (.int .u32 (g m : Int)) :: isV (.agg #[.int .i64 ((m : Int) + 1), .int .u32 (g m : Int)]) :: isV (.bool true) :: isV (.bool true) :: isV (.bool true) :: []) (by decide) (by kernel_rfl)
                ⟨stab_isV _, stab_isV _, stab_isV _, stab_isV _, stab_isV _, stab_isV _, stab_isV _, stab_isV _, stab_isV _, stab_isV _, stab_isV _, stab_isV _, stab_isV _, stab_isV _, stab_isV _, stab_isV _, stab_isV _, trivial⟩ ⟨?_, ?_, ?_, ?_, ?_, ?_, ?_, ?_, ?_, ?_, ?_, ?_, ?_, ?_, ?_, ?_, ?_, trivial⟩ ?_
              · intro vs wq hB hm
                clear hm
                simp only [fill]
                go_wp2
                exact ⟨_, rfl, rfl, Below.refl _ _⟩
              · intro vs wq hB hm
                have h27 : vs 27 = .bool true := meets_get hm 0 rfl rfl rfl rfl
                clear hm
                simp only [fill, h27]
                go_wp2
                exact ⟨_, rfl, rfl, Below.refl _ _⟩
              · intro vs wq hB hm
                have h28 : vs 28 = .bool true := meets_get hm 1 rfl rfl rfl rfl
                clear hm
                simp only [fill, h28]
                go_wp2
                exact ⟨_, rfl, rfl, Below.refl _ _⟩
              · intro vs wq hB hm
                have h29 : vs 29 = .int .i64 (m : Int) := meets_get hm 2 rfl rfl rfl rfl
                have h28 : vs 28 = .bool true := meets_get hm 1 rfl rfl rfl rfl
                clear hm
                simp only [fill, h29, h28]
                go_wp2
                exact ⟨_, rfl, rfl, Below.refl _ _⟩
              · intro vs wq hB hm
                have hl : look wq (w.heap.size + 1) = some (.cells (VA g) 26 (0, 0)) := by rw [look_below hB (by first | omega | (simp only [World.size_alloc]; omega) | exact look_lt (by assumption) | (simp only [World.size_alloc, World.size_setCell]; omega) | (simp; omega))]; first | assumption | go_simp
                have hc : World.cell? wq ⟨w.heap.size + 1, m, none⟩ = some (.int .u32 (g m : Int)) := by rw [look_cell hl]; first | rfl | exact VA_get _ _ (by omega)
                have h30 : vs 30 = .pointer (some ⟨w.heap.size + 1, m, none⟩) := meets_get hm 3 rfl rfl rfl rfl
                have h28 : vs 28 = .bool true := meets_get hm 1 rfl rfl rfl rfl
                clear hm
                simp only [fill, h30, h28]
                go_wp2
                exact ⟨_, rfl, rfl, Below.refl _ _⟩
              · intro vs wq hB hm
                have h31 : vs 31 = .int .u32 (g m : Int) := meets_get hm 4 rfl rfl rfl rfl
                have h28 : vs 28 = .bool true := meets_get hm 1 rfl rfl rfl rfl
                clear hm
                simp only [fill, h31, h28]
                go_wp2
                exact ⟨_, rfl, rfl, Below.refl _ _⟩
              · intro vs wq hB hm
                have h32 : vs 32 = .bool false := meets_get hm 5 rfl rfl rfl rfl
                have h28 : vs 28 = .bool true := meets_get hm 1 rfl rfl rfl rfl
                clear hm
                simp only [fill, h32, h28]
                go_wp2
                exact ⟨_, rfl, rfl, Below.refl _ _⟩
              · intro vs wq hB hm
                have hl : look wq (w.heap.size) = some (.cells (VA f) 26 (0, 0)) := by rw [look_below hB (by first | omega | (simp only [World.size_alloc]; omega) | exact look_lt (by assumption) | (simp only [World.size_alloc, World.size_setCell]; omega) | (simp; omega))]; first | assumption | go_simp
                have h33 : vs 33 = .bool false := meets_get hm 6 rfl rfl rfl rfl
                clear hm
                simp only [fill, h33]
                go_wp2
                exact ⟨_, rfl, rfl, Below.refl _ _⟩
              · intro vs wq hB hm
                have h33 : vs 33 = .bool false := meets_get hm 6 rfl rfl rfl rfl
                clear hm
                simp only [fill, h33]
                go_wp2
                exact ⟨_, rfl, rfl, Below.refl _ _⟩
              · intro vs wq hB hm
                have h35 : vs 35 = .int .i64 (m : Int) := meets_get hm 8 rfl rfl rfl rfl
                have h33 : vs 33 = .bool false := meets_get hm 6 rfl rfl rfl rfl
                clear hm
                simp only [fill, h35, h33]
                go_wp2
                exact ⟨_, rfl, rfl, Below.refl _ _⟩
              · intro vs wq hB hm
                have h33 : vs 33 = .bool false := meets_get hm 6 rfl rfl rfl rfl
                clear hm
                simp only [fill, h33]
                go_wp2
                exact ⟨_, rfl, rfl, Below.refl _ _⟩
              · intro vs wq hB hm
                have h37 : vs 37 = .int .i64 (m : Int) := meets_get hm 10 rfl rfl rfl rfl
                have h33 : vs 33 = .bool false := meets_get hm 6 rfl rfl rfl rfl
                clear hm
                simp only [fill, h37, h33]
                go_wp2
                exact ⟨_, rfl, rfl, Below.refl _ _⟩
              · intro vs wq hB hm
                have hl : look wq (w.heap.size + 1) = some (.cells (VA g) 26 (0, 0)) := by rw [look_below hB (by first | omega | (simp only [World.size_alloc]; omega) | exact look_lt (by assumption) | (simp only [World.size_alloc, World.size_setCell]; omega) | (simp; omega))]; first | assumption | go_simp
                have hc : World.cell? wq ⟨w.heap.size + 1, m, none⟩ = some (.int .u32 (g m : Int)) := by rw [look_cell hl]; first | rfl | exact VA_get _ _ (by omega)
                have h38 : vs 38 = .pointer (some ⟨w.heap.size + 1, m, none⟩) := meets_get hm 11 rfl rfl rfl rfl
                have h33 : vs 33 = .bool false := meets_get hm 6 rfl rfl rfl rfl
                clear hm
                simp only [fill, h38, h33]
                go_wp2
                exact ⟨_, rfl, rfl, Below.refl _ _⟩
              · intro vs wq hB hm
                have h36 : vs 36 = .int .i64 ((m : Int) + 1) := meets_get hm 9 rfl rfl rfl rfl
                have h39 : vs 39 = .int .u32 (g m : Int) := meets_get hm 12 rfl rfl rfl rfl
                have h33 : vs 33 = .bool false := meets_get hm 6 rfl rfl rfl rfl
                clear hm
                simp only [fill, h36, h39, h33]
                go_wp2
                exact ⟨_, rfl, rfl, Below.refl _ _⟩
              · intro vs wq hB hm
                have h34 : vs 34 = .agg (VA f) := meets_get hm 7 rfl rfl rfl rfl
                have h40 : vs 40 = .agg #[.int .i64 ((m : Int) + 1), .int .u32 (g m : Int)] := meets_get hm 13 rfl rfl rfl rfl
                have h33 : vs 33 = .bool false := meets_get hm 6 rfl rfl rfl rfl
                clear hm
                simp only [fill, h34, h40, h33]
                go_wp2_with fail
                refine ((hh1 ▸ has_any f ((m : Int) + 1) (g m) _)).mono ?_
                rintro e w1 ⟨rfl, hb1⟩
                go_wp2
                exact ⟨_, rfl, rfl, hb1⟩
              · intro vs wq hB hm
                have h33 : vs 33 = .bool false := meets_get hm 6 rfl rfl rfl rfl
                have h41 : vs 41 = .bool true := meets_get hm 14 rfl rfl rfl rfl
                have h28 : vs 28 = .bool true := meets_get hm 1 rfl rfl rfl rfl
                clear hm
                simp only [fill, h33, h41, h28]
                go_wp2
                exact ⟨_, rfl, rfl, Below.refl _ _⟩
              · intro vs wq hB hm
                have h28 : vs 28 = .bool true := meets_get hm 1 rfl rfl rfl rfl
                have h42 : vs 42 = .bool true := meets_get hm 15 rfl rfl rfl rfl
                clear hm
                simp only [fill, h28, h42]
                go_wp2
                exact ⟨_, rfl, rfl, Below.refl _ _⟩
              intro vs wq hB hm
              have h27 : vs 27 = .bool true := hm 0 _ _ _ rfl rfl rfl
              have h28 : vs 28 = .bool true := hm 1 _ _ _ rfl rfl rfl
              have h29 : vs 29 = .int .i64 (m : Int) := hm 2 _ _ _ rfl rfl rfl
              have h30 : vs 30 = .pointer (some ⟨w.heap.size + 1, m, none⟩) := hm 3 _ _ _ rfl rfl rfl
              have h31 : vs 31 = .int .u32 (g m : Int) := hm 4 _ _ _ rfl rfl rfl
              have h32 : vs 32 = .bool false := hm 5 _ _ _ rfl rfl rfl
              have h33 : vs 33 = .bool false := hm 6 _ _ _ rfl rfl rfl
              have h34 : vs 34 = .agg (VA f) := hm 7 _ _ _ rfl rfl rfl
              have h35 : vs 35 = .int .i64 (m : Int) := hm 8 _ _ _ rfl rfl rfl
              have h36 : vs 36 = .int .i64 ((m : Int) + 1) := hm 9 _ _ _ rfl rfl rfl
              have h37 : vs 37 = .int .i64 (m : Int) := hm 10 _ _ _ rfl rfl rfl
              have h38 : vs 38 = .pointer (some ⟨w.heap.size + 1, m, none⟩) := hm 11 _ _ _ rfl rfl rfl
              have h39 : vs 39 = .int .u32 (g m : Int) := hm 12 _ _ _ rfl rfl rfl
              have h40 : vs 40 = .agg #[.int .i64 ((m : Int) + 1), .int .u32 (g m : Int)] := hm 13 _ _ _ rfl rfl rfl
              have h41 : vs 41 = .bool true := hm 14 _ _ _ rfl rfl rfl
              have h42 : vs 42 = .bool true := hm 15 _ _ _ rfl rfl rfl
              have h43 : vs 43 = .bool true := hm 16 _ _ _ rfl rfl rfl
              simp only [fill, List.filterMap, List.take, List.drop, List.setIfInBounds_toArray, List.set_cons_zero, List.set_cons_succ, h27, h28, h29, h30, h31, h32, h33, h34, h35, h36, h37, h38, h39, h40, h41, h42, h43]
              clear hm h27 h28 h29 h30 h31 h32 h33 h34 h35 h36 h37 h38 h39 h40 h41 h42 h43
              replace lx : look wq (w.heap.size) = some (.cells (VA f) 26 (0, 0)) := by rw [look_below hB (by first | omega | (simp only [World.size_alloc]; omega) | exact look_lt (by assumption) | (simp only [World.size_alloc, World.size_setCell]; omega) | (simp; omega))]; first | assumption | go_simp
              replace cx : ∀ i, i < 12 → World.cell? wq ⟨w.heap.size, i, none⟩ = some (.int .u32 (((f) i : Nat) : Int)) := fun i hi => by rw [look_cell lx, VA_get _ _ hi]
              replace fx := look_frozen lx
              replace sx := look_lt lx
              replace ly : look wq (w.heap.size + 1) = some (.cells (VA g) 26 (0, 0)) := by rw [look_below hB (by first | omega | (simp only [World.size_alloc]; omega) | exact look_lt (by assumption) | (simp only [World.size_alloc, World.size_setCell]; omega) | (simp; omega))]; first | assumption | go_simp
              replace cy : ∀ i, i < 12 → World.cell? wq ⟨w.heap.size + 1, i, none⟩ = some (.int .u32 (((g) i : Nat) : Int)) := fun i hi => by rw [look_cell ly, VA_get _ _ hi]
              replace fy := look_frozen ly
              replace sy := look_lt ly
              go_wp2
              go_roundw
              case measure => simp [intOf]; omega
              case rel => exact ⟨m + 1, by omega, by go_num, by rw [HE.out, HL.out, decide_eq_true HC.out]; rfl, belT hB0 hB, lx, ly, bnd'⟩
            · have hh1 : hasB f ((m : Int) + 1) (g m) = false := by rw [hh]; exact decide_eq_false hc
              have HC := Lib.hid hc
              clear hz hh hc
              go_wp2_with fail
              refine wp_region_words mixed 17 ([] :: [27] :: [28] :: [29, 28] :: [30, 28] :: [31, 28] :: [32, 28] :: [33] :: [33] :: [35, 33] :: [33] :: [37, 33] :: [38, 33] :: [36, 39, 33] :: [34, 40, 33] :: [33, 41, 28] :: [28, 42] :: []) (isV (.bool true) :: isV (.bool true) :: isV (.int .i64 (m : Int)) :: isV (.pointer (some ⟨w.heap.size + 1, m, none⟩)) :: isV (.int .u32 (g m : Int)) :: isV (.bool false) :: isV (.bool false) :: isV (.agg (VA f)) :: isV (.int .i64 (m : Int)) :: isV (.int .i64 ((m : Int) + 1)) :: isV (.int .i64 (m : Int)) :: isV (.pointer (some ⟨w.heap.size + 1, m, none⟩)) :: isV (.int .u32 (g m : Int)) :: isV (.agg #[.int .i64 ((m : Int) + 1), .int .u32 (g m : Int)]) :: isV (.bool false) :: isV (.bool false) :: isV (.bool false) :: []) (by decide) (by kernel_rfl)
                ⟨stab_isV _, stab_isV _, stab_isV _, stab_isV _, stab_isV _, stab_isV _, stab_isV _, stab_isV _, stab_isV _, stab_isV _, stab_isV _, stab_isV _, stab_isV _, stab_isV _, stab_isV _, stab_isV _, stab_isV _, trivial⟩ ⟨?_, ?_, ?_, ?_, ?_, ?_, ?_, ?_, ?_, ?_, ?_, ?_, ?_, ?_, ?_, ?_, ?_, trivial⟩ ?_
              · intro vs wq hB hm
                clear hm
                simp only [fill]
                go_wp2
                exact ⟨_, rfl, rfl, Below.refl _ _⟩
              · intro vs wq hB hm
                have h27 : vs 27 = .bool true := meets_get hm 0 rfl rfl rfl rfl
                clear hm
                simp only [fill, h27]
                go_wp2
                exact ⟨_, rfl, rfl, Below.refl _ _⟩
              · intro vs wq hB hm
                have h28 : vs 28 = .bool true := meets_get hm 1 rfl rfl rfl rfl
                clear hm
                simp only [fill, h28]
                go_wp2
                exact ⟨_, rfl, rfl, Below.refl _ _⟩
              · intro vs wq hB hm
                have h29 : vs 29 = .int .i64 (m : Int) := meets_get hm 2 rfl rfl rfl rfl
                have h28 : vs 28 = .bool true := meets_get hm 1 rfl rfl rfl rfl
                clear hm
                simp only [fill, h29, h28]
                go_wp2
                exact ⟨_, rfl, rfl, Below.refl _ _⟩
              · intro vs wq hB hm
                have hl : look wq (w.heap.size + 1) = some (.cells (VA g) 26 (0, 0)) := by rw [look_below hB (by first | omega | (simp only [World.size_alloc]; omega) | exact look_lt (by assumption) | (simp only [World.size_alloc, World.size_setCell]; omega) | (simp; omega))]; first | assumption | go_simp
                have hc : World.cell? wq ⟨w.heap.size + 1, m, none⟩ = some (.int .u32 (g m : Int)) := by rw [look_cell hl]; first | rfl | exact VA_get _ _ (by omega)
                have h30 : vs 30 = .pointer (some ⟨w.heap.size + 1, m, none⟩) := meets_get hm 3 rfl rfl rfl rfl
                have h28 : vs 28 = .bool true := meets_get hm 1 rfl rfl rfl rfl
                clear hm
                simp only [fill, h30, h28]
                go_wp2
                exact ⟨_, rfl, rfl, Below.refl _ _⟩
              · intro vs wq hB hm
                have h31 : vs 31 = .int .u32 (g m : Int) := meets_get hm 4 rfl rfl rfl rfl
                have h28 : vs 28 = .bool true := meets_get hm 1 rfl rfl rfl rfl
                clear hm
                simp only [fill, h31, h28]
                go_wp2
                exact ⟨_, rfl, rfl, Below.refl _ _⟩
              · intro vs wq hB hm
                have h32 : vs 32 = .bool false := meets_get hm 5 rfl rfl rfl rfl
                have h28 : vs 28 = .bool true := meets_get hm 1 rfl rfl rfl rfl
                clear hm
                simp only [fill, h32, h28]
                go_wp2
                exact ⟨_, rfl, rfl, Below.refl _ _⟩
              · intro vs wq hB hm
                have hl : look wq (w.heap.size) = some (.cells (VA f) 26 (0, 0)) := by rw [look_below hB (by first | omega | (simp only [World.size_alloc]; omega) | exact look_lt (by assumption) | (simp only [World.size_alloc, World.size_setCell]; omega) | (simp; omega))]; first | assumption | go_simp
                have h33 : vs 33 = .bool false := meets_get hm 6 rfl rfl rfl rfl
                clear hm
                simp only [fill, h33]
                go_wp2
                exact ⟨_, rfl, rfl, Below.refl _ _⟩
              · intro vs wq hB hm
                have h33 : vs 33 = .bool false := meets_get hm 6 rfl rfl rfl rfl
                clear hm
                simp only [fill, h33]
                go_wp2
                exact ⟨_, rfl, rfl, Below.refl _ _⟩
              · intro vs wq hB hm
                have h35 : vs 35 = .int .i64 (m : Int) := meets_get hm 8 rfl rfl rfl rfl
                have h33 : vs 33 = .bool false := meets_get hm 6 rfl rfl rfl rfl
                clear hm
                simp only [fill, h35, h33]
                go_wp2
                exact ⟨_, rfl, rfl, Below.refl _ _⟩
              · intro vs wq hB hm
                have h33 : vs 33 = .bool false := meets_get hm 6 rfl rfl rfl rfl
                clear hm
                simp only [fill, h33]
                go_wp2
                exact ⟨_, rfl, rfl, Below.refl _ _⟩
              · intro vs wq hB hm
                have h37 : vs 37 = .int .i64 (m : Int) := meets_get hm 10 rfl rfl rfl rfl
                have h33 : vs 33 = .bool false := meets_get hm 6 rfl rfl rfl rfl
                clear hm
                simp only [fill, h37, h33]
                go_wp2
                exact ⟨_, rfl, rfl, Below.refl _ _⟩
              · intro vs wq hB hm
                have hl : look wq (w.heap.size + 1) = some (.cells (VA g) 26 (0, 0)) := by rw [look_below hB (by first | omega | (simp only [World.size_alloc]; omega) | exact look_lt (by assumption) | (simp only [World.size_alloc, World.size_setCell]; omega) | (simp; omega))]; first | assumption | go_simp
                have hc : World.cell? wq ⟨w.heap.size + 1, m, none⟩ = some (.int .u32 (g m : Int)) := by rw [look_cell hl]; first | rfl | exact VA_get _ _ (by omega)
                have h38 : vs 38 = .pointer (some ⟨w.heap.size + 1, m, none⟩) := meets_get hm 11 rfl rfl rfl rfl
                have h33 : vs 33 = .bool false := meets_get hm 6 rfl rfl rfl rfl
                clear hm
                simp only [fill, h38, h33]
                go_wp2
                exact ⟨_, rfl, rfl, Below.refl _ _⟩
              · intro vs wq hB hm
                have h36 : vs 36 = .int .i64 ((m : Int) + 1) := meets_get hm 9 rfl rfl rfl rfl
                have h39 : vs 39 = .int .u32 (g m : Int) := meets_get hm 12 rfl rfl rfl rfl
                have h33 : vs 33 = .bool false := meets_get hm 6 rfl rfl rfl rfl
                clear hm
                simp only [fill, h36, h39, h33]
                go_wp2
                exact ⟨_, rfl, rfl, Below.refl _ _⟩
              · intro vs wq hB hm
                have h34 : vs 34 = .agg (VA f) := meets_get hm 7 rfl rfl rfl rfl
                have h40 : vs 40 = .agg #[.int .i64 ((m : Int) + 1), .int .u32 (g m : Int)] := meets_get hm 13 rfl rfl rfl rfl
                have h33 : vs 33 = .bool false := meets_get hm 6 rfl rfl rfl rfl
                clear hm
                simp only [fill, h34, h40, h33]
                go_wp2_with fail
                refine ((hh1 ▸ has_any f ((m : Int) + 1) (g m) _)).mono ?_
                rintro e w1 ⟨rfl, hb1⟩
                go_wp2
                exact ⟨_, rfl, rfl, hb1⟩
              · intro vs wq hB hm
                have h33 : vs 33 = .bool false := meets_get hm 6 rfl rfl rfl rfl
                have h41 : vs 41 = .bool false := meets_get hm 14 rfl rfl rfl rfl
                have h28 : vs 28 = .bool true := meets_get hm 1 rfl rfl rfl rfl
                clear hm
                simp only [fill, h33, h41, h28]
                go_wp2
                exact ⟨_, rfl, rfl, Below.refl _ _⟩
              · intro vs wq hB hm
                have h28 : vs 28 = .bool true := meets_get hm 1 rfl rfl rfl rfl
                have h42 : vs 42 = .bool false := meets_get hm 15 rfl rfl rfl rfl
                clear hm
                simp only [fill, h28, h42]
                go_wp2
                exact ⟨_, rfl, rfl, Below.refl _ _⟩
              intro vs wq hB hm
              have h27 : vs 27 = .bool true := hm 0 _ _ _ rfl rfl rfl
              have h28 : vs 28 = .bool true := hm 1 _ _ _ rfl rfl rfl
              have h29 : vs 29 = .int .i64 (m : Int) := hm 2 _ _ _ rfl rfl rfl
              have h30 : vs 30 = .pointer (some ⟨w.heap.size + 1, m, none⟩) := hm 3 _ _ _ rfl rfl rfl
              have h31 : vs 31 = .int .u32 (g m : Int) := hm 4 _ _ _ rfl rfl rfl
              have h32 : vs 32 = .bool false := hm 5 _ _ _ rfl rfl rfl
              have h33 : vs 33 = .bool false := hm 6 _ _ _ rfl rfl rfl
              have h34 : vs 34 = .agg (VA f) := hm 7 _ _ _ rfl rfl rfl
              have h35 : vs 35 = .int .i64 (m : Int) := hm 8 _ _ _ rfl rfl rfl
              have h36 : vs 36 = .int .i64 ((m : Int) + 1) := hm 9 _ _ _ rfl rfl rfl
              have h37 : vs 37 = .int .i64 (m : Int) := hm 10 _ _ _ rfl rfl rfl
              have h38 : vs 38 = .pointer (some ⟨w.heap.size + 1, m, none⟩) := hm 11 _ _ _ rfl rfl rfl
              have h39 : vs 39 = .int .u32 (g m : Int) := hm 12 _ _ _ rfl rfl rfl
              have h40 : vs 40 = .agg #[.int .i64 ((m : Int) + 1), .int .u32 (g m : Int)] := hm 13 _ _ _ rfl rfl rfl
              have h41 : vs 41 = .bool false := hm 14 _ _ _ rfl rfl rfl
              have h42 : vs 42 = .bool false := hm 15 _ _ _ rfl rfl rfl
              have h43 : vs 43 = .bool false := hm 16 _ _ _ rfl rfl rfl
              simp only [fill, List.filterMap, List.take, List.drop, List.setIfInBounds_toArray, List.set_cons_zero, List.set_cons_succ, h27, h28, h29, h30, h31, h32, h33, h34, h35, h36, h37, h38, h39, h40, h41, h42, h43]
              clear hm h27 h28 h29 h30 h31 h32 h33 h34 h35 h36 h37 h38 h39 h40 h41 h42 h43
              replace lx : look wq (w.heap.size) = some (.cells (VA f) 26 (0, 0)) := by rw [look_below hB (by first | omega | (simp only [World.size_alloc]; omega) | exact look_lt (by assumption) | (simp only [World.size_alloc, World.size_setCell]; omega) | (simp; omega))]; first | assumption | go_simp
              replace cx : ∀ i, i < 12 → World.cell? wq ⟨w.heap.size, i, none⟩ = some (.int .u32 (((f) i : Nat) : Int)) := fun i hi => by rw [look_cell lx, VA_get _ _ hi]
              replace fx := look_frozen lx
              replace sx := look_lt lx
              replace ly : look wq (w.heap.size + 1) = some (.cells (VA g) 26 (0, 0)) := by rw [look_below hB (by first | omega | (simp only [World.size_alloc]; omega) | exact look_lt (by assumption) | (simp only [World.size_alloc, World.size_setCell]; omega) | (simp; omega))]; first | assumption | go_simp
              replace cy : ∀ i, i < 12 → World.cell? wq ⟨w.heap.size + 1, i, none⟩ = some (.int .u32 (((g) i : Nat) : Int)) := fun i hi => by rw [look_cell ly, VA_get _ _ hi]
              replace fy := look_frozen ly
              replace sy := look_lt ly
              go_wp2
              go_roundw
              case measure => simp [intOf]; omega
              case rel => exact ⟨m + 1, by omega, by go_num, by rw [HE.out, HL.out, decide_eq_false HC.out]; rfl, belT hB0 hB, lx, ly, bnd'⟩
    · obtain rfl : m = 12 := by omega
      have hall := leB_all f g
      rw [hall] at *
      have HA := Lib.hid hall
      clear hall hml hm bnd
      by_cases hn : 1 ≤ n ∧ n ≤ 12
      · by_cases hg : 1048576 ≤ getN f n
        · have HX : Hid (nextV f n = .tuple #[.agg #[.int .i64 0, .int .u32 0], .int .i64 5]) := by show nextV f n = _; rw [nextV, if_pos hn, if_pos hg]
          clear hg hn
          go_wp2_with fail
          refine (next_any f n _).mono ?_
          rintro e w1 ⟨rfl, hb1⟩
          rw [HX.out]
          replace lx : look w1 (w.heap.size) = some (.cells (VA f) 26 (0, 0)) := by rw [look_below hb1 (by first | omega | (simp only [World.size_alloc]; omega) | exact look_lt (by assumption) | (simp only [World.size_alloc, World.size_setCell]; omega) | (simp; omega))]; first | assumption | go_simp
          replace cx : ∀ i, i < 12 → World.cell? w1 ⟨w.heap.size, i, none⟩ = some (.int .u32 (((f) i : Nat) : Int)) := fun i hi => by rw [look_cell lx, VA_get _ _ hi]
          replace fx := look_frozen lx
          replace sx := look_lt lx
          replace ly : look w1 (w.heap.size + 1) = some (.cells (VA g) 26 (0, 0)) := by rw [look_below hb1 (by first | omega | (simp only [World.size_alloc]; omega) | exact look_lt (by assumption) | (simp only [World.size_alloc, World.size_setCell]; omega) | (simp; omega))]; first | assumption | go_simp
          replace cy : ∀ i, i < 12 → World.cell? w1 ⟨w.heap.size + 1, i, none⟩ = some (.int .u32 (((g) i : Nat) : Int)) := fun i hi => by rw [look_cell ly, VA_get _ _ hi]
          replace fy := look_frozen ly
          replace sy := look_lt ly
          go_wp2_with fail
          refine (alive04 _).mono ?_
          rintro e w2 ⟨rfl, hb2⟩
          replace lx : look w2 (w.heap.size) = some (.cells (VA f) 26 (0, 0)) := by rw [look_below hb2 (by first | omega | (simp only [World.size_alloc]; omega) | exact look_lt (by assumption) | (simp only [World.size_alloc, World.size_setCell]; omega) | (simp; omega))]; first | assumption | go_simp
          replace cx : ∀ i, i < 12 → World.cell? w2 ⟨w.heap.size, i, none⟩ = some (.int .u32 (((f) i : Nat) : Int)) := fun i hi => by rw [look_cell lx, VA_get _ _ hi]
          replace fx := look_frozen lx
          replace sx := look_lt lx
          replace ly : look w2 (w.heap.size + 1) = some (.cells (VA g) 26 (0, 0)) := by rw [look_below hb2 (by first | omega | (simp only [World.size_alloc]; omega) | exact look_lt (by assumption) | (simp only [World.size_alloc, World.size_setCell]; omega) | (simp; omega))]; first | assumption | go_simp
          replace cy : ∀ i, i < 12 → World.cell? w2 ⟨w.heap.size + 1, i, none⟩ = some (.int .u32 (((g) i : Nat) : Int)) := fun i hi => by rw [look_cell ly, VA_get _ _ hi]
          replace fy := look_frozen ly
          replace sy := look_lt ly
          go_wp2_with fail
          refine (covers_any f g _).mono ?_
          rintro e w3 ⟨rfl, hb3⟩
          go_wp2
          go_ret
          exact ⟨rfl, belT (belT (belA (belT hB0 hb1) _) hb2) hb3⟩
        · have HX : Hid (nextV f n = .tuple #[.agg #[.int .i64 n, .int .u32 ((getN f n + 1 : Nat) : Int)], .int .i64 0]) := by show nextV f n = _; rw [nextV, if_pos hn, if_neg hg]
          obtain ⟨q1, q2, q3, q4⟩ := next_facts f n hn hg
          have hle2 := withN_le f HF.out n (getN f n + 1)
          have hcn := cntN_le f HF.out 12
          have HL2 := Lib.hid hle2
          have hs : IntKind.u64.wrap ((cntN f 12 : Int) + 1) = ((cntN f 12 + 1 : Nat) : Int) := by rw [IntWalk.u64_in _ (by omega)]; simp
          clear hg hn hle2 hcn
          go_wp2_with fail
          refine (next_any f n _).mono ?_
          rintro e w1 ⟨rfl, hb1⟩
          rw [HX.out]
          replace lx : look w1 (w.heap.size) = some (.cells (VA f) 26 (0, 0)) := by rw [look_below hb1 (by first | omega | (simp only [World.size_alloc]; omega) | exact look_lt (by assumption) | (simp only [World.size_alloc, World.size_setCell]; omega) | (simp; omega))]; first | assumption | go_simp
          replace cx : ∀ i, i < 12 → World.cell? w1 ⟨w.heap.size, i, none⟩ = some (.int .u32 (((f) i : Nat) : Int)) := fun i hi => by rw [look_cell lx, VA_get _ _ hi]
          replace fx := look_frozen lx
          replace sx := look_lt lx
          replace ly : look w1 (w.heap.size + 1) = some (.cells (VA g) 26 (0, 0)) := by rw [look_below hb1 (by first | omega | (simp only [World.size_alloc]; omega) | exact look_lt (by assumption) | (simp only [World.size_alloc, World.size_setCell]; omega) | (simp; omega))]; first | assumption | go_simp
          replace cy : ∀ i, i < 12 → World.cell? w1 ⟨w.heap.size + 1, i, none⟩ = some (.int .u32 (((g) i : Nat) : Int)) := fun i hi => by rw [look_cell ly, VA_get _ _ hi]
          replace fy := look_frozen ly
          replace sy := look_lt ly
          go_wp2_with fail
          refine (with_any f n (getN f n + 1) _).mono ?_
          rintro e w2 ⟨rfl, hb2⟩
          replace lx : look w2 (w.heap.size) = some (.cells (VA f) 26 (0, 0)) := by rw [look_below hb2 (by first | omega | (simp only [World.size_alloc]; omega) | exact look_lt (by assumption) | (simp only [World.size_alloc, World.size_setCell]; omega) | (simp; omega))]; first | assumption | go_simp
          replace cx : ∀ i, i < 12 → World.cell? w2 ⟨w.heap.size, i, none⟩ = some (.int .u32 (((f) i : Nat) : Int)) := fun i hi => by rw [look_cell lx, VA_get _ _ hi]
          replace fx := look_frozen lx
          replace sx := look_lt lx
          replace ly : look w2 (w.heap.size + 1) = some (.cells (VA g) 26 (0, 0)) := by rw [look_below hb2 (by first | omega | (simp only [World.size_alloc]; omega) | exact look_lt (by assumption) | (simp only [World.size_alloc, World.size_setCell]; omega) | (simp; omega))]; first | assumption | go_simp
          replace cy : ∀ i, i < 12 → World.cell? w2 ⟨w.heap.size + 1, i, none⟩ = some (.int .u32 (((g) i : Nat) : Int)) := fun i hi => by rw [look_cell ly, VA_get _ _ hi]
          replace fy := look_frozen ly
          replace sy := look_lt ly
          replace ld : look w2 (w1.heap.size) = some (.cells (#[.int .i64 n, .int .u32 ((getN f n + 1 : Nat) : Int)]) 34 (0, 0)) := by rw [look_below hb2 (by first | omega | (simp only [World.size_alloc]; omega) | exact look_lt (by assumption) | (simp only [World.size_alloc, World.size_setCell]; omega) | (simp; omega))]; first | assumption | go_simp
          replace cd0 : World.cell? w2 ⟨w1.heap.size, 0, none⟩ = some (.int .i64 n) := by rw [look_cell ld]; rfl
          replace cd1 : World.cell? w2 ⟨w1.heap.size, 1, none⟩ = some (.int .u32 ((getN f n + 1 : Nat) : Int)) := by rw [look_cell ld]; rfl
          replace fd := look_frozen ld
          replace sd := look_lt ld
          go_wp2_with fail
          refine wp_region_words mixed 33 ([] :: [63] :: [64] :: [64] :: [64] :: [66, 67, 64] :: [65, 68, 64] :: [64, 69] :: [70] :: [71] :: [71] :: [72, 73, 71] :: [74, 71] :: [71, 75] :: [76] :: [77] :: [77] :: [78, 79, 77] :: [77, 80] :: [81] :: [82] :: [82] :: [83, 84, 82] :: [85, 82] :: [82, 86] :: [87] :: [88] :: [89, 88] :: [88] :: [91, 88] :: [92, 88] :: [90, 93, 88] :: [88, 94] :: []) (isV (.bool true) :: isV (.bool true) :: isV (.bool (covB f g)) :: isV (.agg (VA f)) :: isV (.agg (VA g)) :: isV (.bool (covB f g)) :: isV (.bool true) :: isV (.bool true) :: isV (.bool true) :: isV (.agg (VA f)) :: isV (.agg #[.int .i64 n, .int .u32 ((getN f n + 1 : Nat) : Int)]) :: isV (.bool false) :: isV (.bool true) :: isV (.bool true) :: isV (.bool true) :: isV (.agg (VA (withN f n (getN f n + 1)))) :: isV (.agg #[.int .i64 n, .int .u32 ((getN f n + 1 : Nat) : Int)]) :: isV (.bool true) :: isV (.bool true) :: isV (.bool true) :: isV (.agg (VA (withN f n (getN f n + 1)))) :: isV (.agg (VA f)) :: isV (.int .i64 1) :: isV (.bool true) :: isV (.bool true) :: isV (.bool true) :: isV (.agg (VA (withN f n (getN f n + 1)))) :: isV (.int .u64 ((cntN f 12 + 1 : Nat) : Int)) :: isV (.agg (VA f)) :: isV (.int .u64 (cntN f 12 : Int)) :: isV (.int .u64 ((cntN f 12 + 1 : Nat) : Int)) :: isV (.bool true) :: isV (.bool true) :: []) (by decide) (by kernel_rfl)
            ⟨stab_isV _, stab_isV _, stab_isV _, stab_isV _, stab_isV _, stab_isV _, stab_isV _, stab_isV _, stab_isV _, stab_isV _, stab_isV _, stab_isV _, stab_isV _, stab_isV _, stab_isV _, stab_isV _, stab_isV _, stab_isV _, stab_isV _, stab_isV _, stab_isV _, stab_isV _, stab_isV _, stab_isV _, stab_isV _, stab_isV _, stab_isV _, stab_isV _, stab_isV _, stab_isV _, stab_isV _, stab_isV _, stab_isV _, trivial⟩ ⟨?_, ?_, ?_, ?_, ?_, ?_, ?_, ?_, ?_, ?_, ?_, ?_, ?_, ?_, ?_, ?_, ?_, ?_, ?_, ?_, ?_, ?_, ?_, ?_, ?_, ?_, ?_, ?_, ?_, ?_, ?_, ?_, ?_, trivial⟩ ?_
          · intro vs wq hB hm
            clear hm
            simp only [fill]
            go_wp2_with fail
            refine (alive04 _).mono ?_
            rintro e w1 ⟨rfl, hb1⟩
            go_wp2
            exact ⟨_, rfl, rfl, hb1⟩
          · intro vs wq hB hm
            have h63 : vs 63 = .bool true := meets_get hm 0 rfl rfl rfl rfl
            clear hm
            simp only [fill, h63]
            go_wp2
            exact ⟨_, rfl, rfl, Below.refl _ _⟩
          · intro vs wq hB hm
            have h64 : vs 64 = .bool true := meets_get hm 1 rfl rfl rfl rfl
            clear hm
            simp only [fill, h64]
            go_wp2
            exact ⟨_, rfl, rfl, Below.refl _ _⟩
          · intro vs wq hB hm
            have hl : look wq (w.heap.size) = some (.cells (VA f) 26 (0, 0)) := by rw [look_below hB (by first | omega | (simp only [World.size_alloc]; omega) | exact look_lt (by assumption) | (simp only [World.size_alloc, World.size_setCell]; omega) | (simp; omega))]; first | assumption | go_simp
            have h64 : vs 64 = .bool true := meets_get hm 1 rfl rfl rfl rfl
            clear hm
            simp only [fill, h64]
            go_wp2
            exact ⟨_, rfl, rfl, Below.refl _ _⟩
          · intro vs wq hB hm
            have hl : look wq (w.heap.size + 1) = some (.cells (VA g) 26 (0, 0)) := by rw [look_below hB (by first | omega | (simp only [World.size_alloc]; omega) | exact look_lt (by assumption) | (simp only [World.size_alloc, World.size_setCell]; omega) | (simp; omega))]; first | assumption | go_simp
            have h64 : vs 64 = .bool true := meets_get hm 1 rfl rfl rfl rfl
            clear hm
            simp only [fill, h64]
            go_wp2
            exact ⟨_, rfl, rfl, Below.refl _ _⟩
          · intro vs wq hB hm
            have h66 : vs 66 = .agg (VA f) := meets_get hm 3 rfl rfl rfl rfl
            have h67 : vs 67 = .agg (VA g) := meets_get hm 4 rfl rfl rfl rfl
            have h64 : vs 64 = .bool true := meets_get hm 1 rfl rfl rfl rfl
            clear hm
            simp only [fill, h66, h67, h64]
            go_wp2_with fail
            refine (covers_any f g _).mono ?_
            rintro e w1 ⟨rfl, hb1⟩
            go_wp2
            exact ⟨_, rfl, rfl, hb1⟩
          · intro vs wq hB hm
            have h65 : vs 65 = .bool (covB f g) := meets_get hm 2 rfl rfl rfl rfl
            have h68 : vs 68 = .bool (covB f g) := meets_get hm 5 rfl rfl rfl rfl
            have h64 : vs 64 = .bool true := meets_get hm 1 rfl rfl rfl rfl
            clear hm
            simp only [fill, h65, h68, h64]
            go_wp2
            exact ⟨_, rfl, rfl, Below.refl _ _⟩
          · intro vs wq hB hm
            have h64 : vs 64 = .bool true := meets_get hm 1 rfl rfl rfl rfl
            have h69 : vs 69 = .bool true := meets_get hm 6 rfl rfl rfl rfl
            clear hm
            simp only [fill, h64, h69]
            go_wp2
            exact ⟨_, rfl, rfl, Below.refl _ _⟩
          · intro vs wq hB hm
            have h70 : vs 70 = .bool true := meets_get hm 7 rfl rfl rfl rfl
            clear hm
            simp only [fill, h70]
            go_wp2
            exact ⟨_, rfl, rfl, Below.refl _ _⟩
          · intro vs wq hB hm
            have hl : look wq (w.heap.size) = some (.cells (VA f) 26 (0, 0)) := by rw [look_below hB (by first | omega | (simp only [World.size_alloc]; omega) | exact look_lt (by assumption) | (simp only [World.size_alloc, World.size_setCell]; omega) | (simp; omega))]; first | assumption | go_simp
            have h71 : vs 71 = .bool true := meets_get hm 8 rfl rfl rfl rfl
            clear hm
            simp only [fill, h71]
            go_wp2
            exact ⟨_, rfl, rfl, Below.refl _ _⟩
          · intro vs wq hB hm
            have hl : look wq (w1.heap.size) = some (.cells (#[.int .i64 n, .int .u32 ((getN f n + 1 : Nat) : Int)]) 34 (0, 0)) := by rw [look_below hB (by first | omega | (simp only [World.size_alloc]; omega) | exact look_lt (by assumption) | (simp only [World.size_alloc, World.size_setCell]; omega) | (simp; omega))]; first | assumption | go_simp
            have hc0 : World.cell? wq ⟨w1.heap.size, 0, none⟩ = some (.int .i64 n) := by rw [look_cell hl]; rfl
            have hc1 : World.cell? wq ⟨w1.heap.size, 1, none⟩ = some (.int .u32 ((getN f n + 1 : Nat) : Int)) := by rw [look_cell hl]; rfl
            have h71 : vs 71 = .bool true := meets_get hm 8 rfl rfl rfl rfl
            clear hm
            simp only [fill, h71]
            go_wp2
            exact ⟨_, rfl, rfl, Below.refl _ _⟩
          · intro vs wq hB hm
            have h72 : vs 72 = .agg (VA f) := meets_get hm 9 rfl rfl rfl rfl
            have h73 : vs 73 = .agg #[.int .i64 n, .int .u32 ((getN f n + 1 : Nat) : Int)] := meets_get hm 10 rfl rfl rfl rfl
            have h71 : vs 71 = .bool true := meets_get hm 8 rfl rfl rfl rfl
            clear hm
            simp only [fill, h72, h73, h71]
            go_wp2_with fail
            refine ((q1 ▸ has_any f n (getN f n + 1) _)).mono ?_
            rintro e w1 ⟨rfl, hb1⟩
            go_wp2
            exact ⟨_, rfl, rfl, hb1⟩
          · intro vs wq hB hm
            have h74 : vs 74 = .bool false := meets_get hm 11 rfl rfl rfl rfl
            have h71 : vs 71 = .bool true := meets_get hm 8 rfl rfl rfl rfl
            clear hm
            simp only [fill, h74, h71]
            go_wp2
            exact ⟨_, rfl, rfl, Below.refl _ _⟩
          · intro vs wq hB hm
            have h71 : vs 71 = .bool true := meets_get hm 8 rfl rfl rfl rfl
            have h75 : vs 75 = .bool true := meets_get hm 12 rfl rfl rfl rfl
            clear hm
            simp only [fill, h71, h75]
            go_wp2
            exact ⟨_, rfl, rfl, Below.refl _ _⟩
          · intro vs wq hB hm
            have h76 : vs 76 = .bool true := meets_get hm 13 rfl rfl rfl rfl
            clear hm
            simp only [fill, h76]
            go_wp2
            exact ⟨_, rfl, rfl, Below.refl _ _⟩
          · intro vs wq hB hm
            have hl : look wq (w2.heap.size) = some (.cells (VA (withN f n (getN f n + 1))) 26 (0, 0)) := by rw [look_below hB (by first | omega | (simp only [World.size_alloc]; omega) | exact look_lt (by assumption) | (simp only [World.size_alloc, World.size_setCell]; omega) | (simp; omega))]; first | assumption | go_simp
            have h77 : vs 77 = .bool true := meets_get hm 14 rfl rfl rfl rfl
            clear hm
            simp only [fill, h77]
            go_wp2
            exact ⟨_, rfl, rfl, Below.refl _ _⟩
          · intro vs wq hB hm
            have hl : look wq (w1.heap.size) = some (.cells (#[.int .i64 n, .int .u32 ((getN f n + 1 : Nat) : Int)]) 34 (0, 0)) := by rw [look_below hB (by first | omega | (simp only [World.size_alloc]; omega) | exact look_lt (by assumption) | (simp only [World.size_alloc, World.size_setCell]; omega) | (simp; omega))]; first | assumption | go_simp
            have hc0 : World.cell? wq ⟨w1.heap.size, 0, none⟩ = some (.int .i64 n) := by rw [look_cell hl]; rfl
            have hc1 : World.cell? wq ⟨w1.heap.size, 1, none⟩ = some (.int .u32 ((getN f n + 1 : Nat) : Int)) := by rw [look_cell hl]; rfl
            have h77 : vs 77 = .bool true := meets_get hm 14 rfl rfl rfl rfl
            clear hm
            simp only [fill, h77]
            go_wp2
            exact ⟨_, rfl, rfl, Below.refl _ _⟩
          · intro vs wq hB hm
            have h78 : vs 78 = .agg (VA (withN f n (getN f n + 1))) := meets_get hm 15 rfl rfl rfl rfl
            have h79 : vs 79 = .agg #[.int .i64 n, .int .u32 ((getN f n + 1 : Nat) : Int)] := meets_get hm 16 rfl rfl rfl rfl
            have h77 : vs 77 = .bool true := meets_get hm 14 rfl rfl rfl rfl
            clear hm
            simp only [fill, h78, h79, h77]
            go_wp2_with fail
            refine ((q2 ▸ has_any (withN f n (getN f n + 1)) n (getN f n + 1) _)).mono ?_
            rintro e w1 ⟨rfl, hb1⟩
            go_wp2
            exact ⟨_, rfl, rfl, hb1⟩
          · intro vs wq hB hm
            have h77 : vs 77 = .bool true := meets_get hm 14 rfl rfl rfl rfl
            have h80 : vs 80 = .bool true := meets_get hm 17 rfl rfl rfl rfl
            clear hm
            simp only [fill, h77, h80]
            go_wp2
            exact ⟨_, rfl, rfl, Below.refl _ _⟩
          · intro vs wq hB hm
            have h81 : vs 81 = .bool true := meets_get hm 18 rfl rfl rfl rfl
            clear hm
            simp only [fill, h81]
            go_wp2
            exact ⟨_, rfl, rfl, Below.refl _ _⟩
          · intro vs wq hB hm
            have hl : look wq (w2.heap.size) = some (.cells (VA (withN f n (getN f n + 1))) 26 (0, 0)) := by rw [look_below hB (by first | omega | (simp only [World.size_alloc]; omega) | exact look_lt (by assumption) | (simp only [World.size_alloc, World.size_setCell]; omega) | (simp; omega))]; first | assumption | go_simp
            have h82 : vs 82 = .bool true := meets_get hm 19 rfl rfl rfl rfl
            clear hm
            simp only [fill, h82]
            go_wp2
            exact ⟨_, rfl, rfl, Below.refl _ _⟩
          · intro vs wq hB hm
            have hl : look wq (w.heap.size) = some (.cells (VA f) 26 (0, 0)) := by rw [look_below hB (by first | omega | (simp only [World.size_alloc]; omega) | exact look_lt (by assumption) | (simp only [World.size_alloc, World.size_setCell]; omega) | (simp; omega))]; first | assumption | go_simp
            have h82 : vs 82 = .bool true := meets_get hm 19 rfl rfl rfl rfl
            clear hm
            simp only [fill, h82]
            go_wp2
            exact ⟨_, rfl, rfl, Below.refl _ _⟩
          · intro vs wq hB hm
            have h83 : vs 83 = .agg (VA (withN f n (getN f n + 1))) := meets_get hm 20 rfl rfl rfl rfl
            have h84 : vs 84 = .agg (VA f) := meets_get hm 21 rfl rfl rfl rfl
            have h82 : vs 82 = .bool true := meets_get hm 19 rfl rfl rfl rfl
            clear hm
            simp only [fill, h83, h84, h82]
            go_wp2_with fail
            refine ((q3 ▸ order_any (withN f n (getN f n + 1)) f _)).mono ?_
            rintro e w1 ⟨rfl, hb1⟩
            go_wp2
            exact ⟨_, rfl, rfl, hb1⟩
          · intro vs wq hB hm
            have h85 : vs 85 = .int .i64 1 := meets_get hm 22 rfl rfl rfl rfl
            have h82 : vs 82 = .bool true := meets_get hm 19 rfl rfl rfl rfl
            clear hm
            simp only [fill, h85, h82]
            go_wp2
            exact ⟨_, rfl, rfl, Below.refl _ _⟩
          · intro vs wq hB hm
            have h82 : vs 82 = .bool true := meets_get hm 19 rfl rfl rfl rfl
            have h86 : vs 86 = .bool true := meets_get hm 23 rfl rfl rfl rfl
            clear hm
            simp only [fill, h82, h86]
            go_wp2
            exact ⟨_, rfl, rfl, Below.refl _ _⟩
          · intro vs wq hB hm
            have h87 : vs 87 = .bool true := meets_get hm 24 rfl rfl rfl rfl
            clear hm
            simp only [fill, h87]
            go_wp2
            exact ⟨_, rfl, rfl, Below.refl _ _⟩
          · intro vs wq hB hm
            have hl : look wq (w2.heap.size) = some (.cells (VA (withN f n (getN f n + 1))) 26 (0, 0)) := by rw [look_below hB (by first | omega | (simp only [World.size_alloc]; omega) | exact look_lt (by assumption) | (simp only [World.size_alloc, World.size_setCell]; omega) | (simp; omega))]; first | assumption | go_simp
            have h88 : vs 88 = .bool true := meets_get hm 25 rfl rfl rfl rfl
            clear hm
            simp only [fill, h88]
            go_wp2
            exact ⟨_, rfl, rfl, Below.refl _ _⟩
          · intro vs wq hB hm
            have h89 : vs 89 = .agg (VA (withN f n (getN f n + 1))) := meets_get hm 26 rfl rfl rfl rfl
            have h88 : vs 88 = .bool true := meets_get hm 25 rfl rfl rfl rfl
            clear hm
            simp only [fill, h89, h88]
            go_wp2_with fail
            refine ((q4 ▸ count_any (withN f n (getN f n + 1)) HL2.out _)).mono ?_
            rintro e w1 ⟨rfl, hb1⟩
            go_wp2
            exact ⟨_, rfl, rfl, hb1⟩
          · intro vs wq hB hm
            have hl : look wq (w.heap.size) = some (.cells (VA f) 26 (0, 0)) := by rw [look_below hB (by first | omega | (simp only [World.size_alloc]; omega) | exact look_lt (by assumption) | (simp only [World.size_alloc, World.size_setCell]; omega) | (simp; omega))]; first | assumption | go_simp
            have h88 : vs 88 = .bool true := meets_get hm 25 rfl rfl rfl rfl
            clear hm
            simp only [fill, h88]
            go_wp2
            exact ⟨_, rfl, rfl, Below.refl _ _⟩
          · intro vs wq hB hm
            have h91 : vs 91 = .agg (VA f) := meets_get hm 28 rfl rfl rfl rfl
            have h88 : vs 88 = .bool true := meets_get hm 25 rfl rfl rfl rfl
            clear hm
            simp only [fill, h91, h88]
            go_wp2_with fail
            refine (count_any f HF.out _).mono ?_
            rintro e w1 ⟨rfl, hb1⟩
            go_wp2
            exact ⟨_, rfl, rfl, hb1⟩
          · intro vs wq hB hm
            have h92 : vs 92 = .int .u64 (cntN f 12 : Int) := meets_get hm 29 rfl rfl rfl rfl
            have h88 : vs 88 = .bool true := meets_get hm 25 rfl rfl rfl rfl
            clear hm
            simp only [fill, h92, h88]
            go_wp2
            exact ⟨_, rfl, rfl, Below.refl _ _⟩
          · intro vs wq hB hm
            have h90 : vs 90 = .int .u64 ((cntN f 12 + 1 : Nat) : Int) := meets_get hm 27 rfl rfl rfl rfl
            have h93 : vs 93 = .int .u64 ((cntN f 12 + 1 : Nat) : Int) := meets_get hm 30 rfl rfl rfl rfl
            have h88 : vs 88 = .bool true := meets_get hm 25 rfl rfl rfl rfl
            clear hm
            simp only [fill, h90, h93, h88]
            go_wp2
            exact ⟨_, rfl, rfl, Below.refl _ _⟩
          · intro vs wq hB hm
            have h88 : vs 88 = .bool true := meets_get hm 25 rfl rfl rfl rfl
            have h94 : vs 94 = .bool true := meets_get hm 31 rfl rfl rfl rfl
            clear hm
            simp only [fill, h88, h94]
            go_wp2
            exact ⟨_, rfl, rfl, Below.refl _ _⟩
          intro vs wq hB hm
          have h63 : vs 63 = .bool true := hm 0 _ _ _ rfl rfl rfl
          have h64 : vs 64 = .bool true := hm 1 _ _ _ rfl rfl rfl
          have h65 : vs 65 = .bool (covB f g) := hm 2 _ _ _ rfl rfl rfl
          have h66 : vs 66 = .agg (VA f) := hm 3 _ _ _ rfl rfl rfl
          have h67 : vs 67 = .agg (VA g) := hm 4 _ _ _ rfl rfl rfl
          have h68 : vs 68 = .bool (covB f g) := hm 5 _ _ _ rfl rfl rfl
          have h69 : vs 69 = .bool true := hm 6 _ _ _ rfl rfl rfl
          have h70 : vs 70 = .bool true := hm 7 _ _ _ rfl rfl rfl
          have h71 : vs 71 = .bool true := hm 8 _ _ _ rfl rfl rfl
          have h72 : vs 72 = .agg (VA f) := hm 9 _ _ _ rfl rfl rfl
          have h73 : vs 73 = .agg #[.int .i64 n, .int .u32 ((getN f n + 1 : Nat) : Int)] := hm 10 _ _ _ rfl rfl rfl
          have h74 : vs 74 = .bool false := hm 11 _ _ _ rfl rfl rfl
          have h75 : vs 75 = .bool true := hm 12 _ _ _ rfl rfl rfl
          have h76 : vs 76 = .bool true := hm 13 _ _ _ rfl rfl rfl
          have h77 : vs 77 = .bool true := hm 14 _ _ _ rfl rfl rfl
          have h78 : vs 78 = .agg (VA (withN f n (getN f n + 1))) := hm 15 _ _ _ rfl rfl rfl
          have h79 : vs 79 = .agg #[.int .i64 n, .int .u32 ((getN f n + 1 : Nat) : Int)] := hm 16 _ _ _ rfl rfl rfl
          have h80 : vs 80 = .bool true := hm 17 _ _ _ rfl rfl rfl
          have h81 : vs 81 = .bool true := hm 18 _ _ _ rfl rfl rfl
          have h82 : vs 82 = .bool true := hm 19 _ _ _ rfl rfl rfl
          have h83 : vs 83 = .agg (VA (withN f n (getN f n + 1))) := hm 20 _ _ _ rfl rfl rfl
          have h84 : vs 84 = .agg (VA f) := hm 21 _ _ _ rfl rfl rfl
          have h85 : vs 85 = .int .i64 1 := hm 22 _ _ _ rfl rfl rfl
          have h86 : vs 86 = .bool true := hm 23 _ _ _ rfl rfl rfl
          have h87 : vs 87 = .bool true := hm 24 _ _ _ rfl rfl rfl
          have h88 : vs 88 = .bool true := hm 25 _ _ _ rfl rfl rfl
          have h89 : vs 89 = .agg (VA (withN f n (getN f n + 1))) := hm 26 _ _ _ rfl rfl rfl
          have h90 : vs 90 = .int .u64 ((cntN f 12 + 1 : Nat) : Int) := hm 27 _ _ _ rfl rfl rfl
          have h91 : vs 91 = .agg (VA f) := hm 28 _ _ _ rfl rfl rfl
          have h92 : vs 92 = .int .u64 (cntN f 12 : Int) := hm 29 _ _ _ rfl rfl rfl
          have h93 : vs 93 = .int .u64 ((cntN f 12 + 1 : Nat) : Int) := hm 30 _ _ _ rfl rfl rfl
          have h94 : vs 94 = .bool true := hm 31 _ _ _ rfl rfl rfl
          have h95 : vs 95 = .bool true := hm 32 _ _ _ rfl rfl rfl
          simp only [fill, List.filterMap, List.take, List.drop, List.setIfInBounds_toArray, List.set_cons_zero, List.set_cons_succ, h63, h64, h65, h66, h67, h68, h69, h70, h71, h72, h73, h74, h75, h76, h77, h78, h79, h80, h81, h82, h83, h84, h85, h86, h87, h88, h89, h90, h91, h92, h93, h94, h95]
          clear hm h63 h64 h65 h66 h67 h68 h69 h70 h71 h72 h73 h74 h75 h76 h77 h78 h79 h80 h81 h82 h83 h84 h85 h86 h87 h88 h89 h90 h91 h92 h93 h94 h95
          go_wp2
          go_ret
          exact ⟨rfl, belT (belA (belT (belA (belT hB0 hb1) _) hb2) _) hB⟩
      · have HX : Hid (nextV f n = .tuple #[.agg #[.int .i64 0, .int .u32 0], .int .i64 11]) := by show nextV f n = _; rw [nextV, if_neg hn]
        clear hn
        go_wp2_with fail
        refine (next_any f n _).mono ?_
        rintro e w1 ⟨rfl, hb1⟩
        rw [HX.out]
        replace lx : look w1 (w.heap.size) = some (.cells (VA f) 26 (0, 0)) := by rw [look_below hb1 (by first | omega | (simp only [World.size_alloc]; omega) | exact look_lt (by assumption) | (simp only [World.size_alloc, World.size_setCell]; omega) | (simp; omega))]; first | assumption | go_simp
        replace cx : ∀ i, i < 12 → World.cell? w1 ⟨w.heap.size, i, none⟩ = some (.int .u32 (((f) i : Nat) : Int)) := fun i hi => by rw [look_cell lx, VA_get _ _ hi]
        replace fx := look_frozen lx
        replace sx := look_lt lx
        replace ly : look w1 (w.heap.size + 1) = some (.cells (VA g) 26 (0, 0)) := by rw [look_below hb1 (by first | omega | (simp only [World.size_alloc]; omega) | exact look_lt (by assumption) | (simp only [World.size_alloc, World.size_setCell]; omega) | (simp; omega))]; first | assumption | go_simp
        replace cy : ∀ i, i < 12 → World.cell? w1 ⟨w.heap.size + 1, i, none⟩ = some (.int .u32 (((g) i : Nat) : Int)) := fun i hi => by rw [look_cell ly, VA_get _ _ hi]
        replace fy := look_frozen ly
        replace sy := look_lt ly
        go_wp2_with fail
        refine (alive04 _).mono ?_
        rintro e w2 ⟨rfl, hb2⟩
        replace lx : look w2 (w.heap.size) = some (.cells (VA f) 26 (0, 0)) := by rw [look_below hb2 (by first | omega | (simp only [World.size_alloc]; omega) | exact look_lt (by assumption) | (simp only [World.size_alloc, World.size_setCell]; omega) | (simp; omega))]; first | assumption | go_simp
        replace cx : ∀ i, i < 12 → World.cell? w2 ⟨w.heap.size, i, none⟩ = some (.int .u32 (((f) i : Nat) : Int)) := fun i hi => by rw [look_cell lx, VA_get _ _ hi]
        replace fx := look_frozen lx
        replace sx := look_lt lx
        replace ly : look w2 (w.heap.size + 1) = some (.cells (VA g) 26 (0, 0)) := by rw [look_below hb2 (by first | omega | (simp only [World.size_alloc]; omega) | exact look_lt (by assumption) | (simp only [World.size_alloc, World.size_setCell]; omega) | (simp; omega))]; first | assumption | go_simp
        replace cy : ∀ i, i < 12 → World.cell? w2 ⟨w.heap.size + 1, i, none⟩ = some (.int .u32 (((g) i : Nat) : Int)) := fun i hi => by rw [look_cell ly, VA_get _ _ hi]
        replace fy := look_frozen ly
        replace sy := look_lt ly
        go_wp2_with fail
        refine (covers_any f g _).mono ?_
        rintro e w3 ⟨rfl, hb3⟩
        go_wp2
        go_ret
        exact ⟨rfl, belT (belT (belA (belT hB0 hb1) _) hb2) hb3⟩
end Go.Proofs.Ytknhlkapeoodhaa
