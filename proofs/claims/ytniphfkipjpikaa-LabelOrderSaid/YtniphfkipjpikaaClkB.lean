/- Contracts of the clock package's other functions. -/
import Derived.Test.YtniphfkipjpikaaClkA
import Derived.Deep.QuietTactic
import Derived.BigQuiet
import Derived.Lib.Hide
namespace Go.Proofs.Ytniphfkipjpikaa
open Go.RowKit

def nodeB (n : Int) : Bool := decide (1 ≤ n ∧ n ≤ 12)
theorem nodeB_yes {n : Int} (h : 1 ≤ n ∧ n ≤ 12) : nodeB n = true := by simp [nodeB, h]
theorem nodeB_no {n : Int} (h : ¬ (1 ≤ n ∧ n ≤ 12)) : nodeB n = false := by unfold nodeB; exact decide_eq_false h

theorem isNode_any (n : Int) (w : World) :
    Calls Try.prog 100 #[.int .i64 n] w fun e w' => e = .returned (.bool (nodeB n)) ∧ w = w' := by
  by_cases h1 : 1 ≤ n
  · by_cases h2 : n ≤ 12
    all_goals
      go_enter Try.func100, Try.ntmps100
      go_wp2
      go_ret
      exact ⟨by simp [nodeB, h1, h2], rfl⟩
  · go_enter Try.func100, Try.ntmps100
    go_wp2
    go_ret
    refine ⟨?_, rfl⟩
    rw [nodeB_no (by omega)]; rfl

/-- May a dot be? -/
def rightB (d : Int) (k : Nat) : Bool := decide (1 ≤ d ∧ d ≤ 12 ∧ 1 ≤ k ∧ k ≤ 1048576)
theorem rightB_yes {d : Int} {k : Nat} (h : 1 ≤ d ∧ d ≤ 12 ∧ 1 ≤ k ∧ k ≤ 1048576) : rightB d k = true := by unfold rightB; exact decide_eq_true h
theorem rightB_no {d : Int} {k : Nat} (h : ¬ (1 ≤ d ∧ d ≤ 12 ∧ 1 ≤ k ∧ k ≤ 1048576)) : rightB d k = false := by unfold rightB; exact decide_eq_false h
theorem ret_bool {a b : Bool} (h : a = b) : Ending.returned (.bool a) = .returned (.bool b) := by rw [h]
theorem ret_int {k : IntKind} {a b : Int} (h : a = b) : Ending.returned (.int k a) = .returned (.int k b) := by rw [h]

theorem right_any (d : Int) (k : Nat) (w : World) :
    Calls Try.prog 89 #[.agg #[.int .i64 d, .int .u32 (k : Int)]] w fun e w' => e = .returned (.bool (rightB d k)) ∧ Below w.heap.size w w' := by
  by_cases hn : 1 ≤ d ∧ d ≤ 12
  · have e1 := nodeB_yes hn
    by_cases h1 : 1 ≤ k
    · by_cases h2 : k ≤ 1048576
      all_goals
        go_enter Try.func89, Try.ntmps89
        go_wp2_with fail
        refine (isNode_any _ _).mono ?_
        rintro e w' ⟨rfl, rfl⟩
        rw [e1]
        go_wp2
        go_ret
        exact ⟨ret_bool (decide_eq_decide.2 (by omega)), belA (bel0 _) _⟩
    · go_enter Try.func89, Try.ntmps89
      go_wp2_with fail
      refine (isNode_any _ _).mono ?_
      rintro e w' ⟨rfl, rfl⟩
      rw [e1]
      go_wp2
      go_ret
      exact ⟨by rw [rightB_no (by omega)]; rfl, belA (bel0 _) _⟩
  · have e1 := nodeB_no hn
    go_enter Try.func89, Try.ntmps89
    go_wp2_with fail
    refine (isNode_any _ _).mono ?_
    rintro e w' ⟨rfl, rfl⟩
    rw [e1]
    go_wp2
    go_ret
    exact ⟨by rw [rightB_no (by omega)]; rfl, belA (bel0 _) _⟩

/-- How many of a node. -/
def getN (f : Nat → Nat) (n : Int) : Nat := if 1 ≤ n ∧ n ≤ 12 then f (n - 1).toNat else 0

theorem get_any (f : Nat → Nat) (n : Int) (w : World) :
    Calls Try.prog 90 #[.agg (VA f), .int .i64 n] w fun e w' => e = .returned (.int .u32 (getN f n : Int)) ∧ Below w.heap.size w w' := by
  by_cases hn : 1 ≤ n ∧ n ≤ 12
  · have e1 := nodeB_yes hn
    obtain ⟨k, rfl⟩ : ∃ k : Nat, n = k + 1 := ⟨(n - 1).toNat, by omega⟩
    have hk : k < 12 := by omega
    go_enter Try.func90, Try.ntmps90
    go_wp2_with fail
    refine (isNode_any _ _).mono ?_
    rintro e w' ⟨rfl, rfl⟩
    rw [e1]
    go_wp2
    go_ret
    refine ⟨ret_int ?_, belA (bel0 _) _⟩
    have : ((k : Int) + 1 - 1).toNat = k := by omega
    rw [getN, if_pos (by omega), this]
  · have e1 := nodeB_no hn
    go_enter Try.func90, Try.ntmps90
    go_wp2_with fail
    refine (isNode_any _ _).mono ?_
    rintro e w' ⟨rfl, rfl⟩
    rw [e1]
    go_wp2
    go_ret
    refine ⟨ret_int ?_, belA (bel0 _) _⟩
    rw [getN, if_neg hn]; rfl

/-- A vector with a dot. -/
def withN (f : Nat → Nat) (d : Int) (k : Nat) : Nat → Nat := if 1 ≤ d ∧ d ≤ 12 ∧ 1 ≤ k ∧ k ≤ 1048576 then upd f (d - 1).toNat (max (f (d - 1).toNat) k) else f

set_option maxRecDepth 100000 in
set_option maxHeartbeats 400000 in
theorem with_any (f : Nat → Nat) (d : Int) (k : Nat) (w : World) :
    Calls Try.prog 93 #[.agg (VA f), .agg #[.int .i64 d, .int .u32 (k : Int)]] w fun e w' => e = .returned (.agg (VA (withN f d k))) ∧ Below w.heap.size w w' := by
  by_cases hr : 1 ≤ d ∧ d ≤ 12 ∧ 1 ≤ k ∧ k ≤ 1048576
  · have e1 := rightB_yes hr
    obtain ⟨i, rfl⟩ : ∃ i : Nat, d = i + 1 := ⟨(d - 1).toNat, by omega⟩
    have hi : i < 12 := by omega
    go_enter Try.func93, Try.ntmps93
    go_wp2_with fail
    refine (right_any _ _ _).mono ?_
    rintro e w' ⟨rfl, hb⟩
    rw [e1]
    replace lv : look w' (w.heap.size) = some (.cells (VA f) 65 (0, 0)) := by rw [look_below hb (by first | omega | (simp only [World.size_alloc]; omega) | exact look_lt (by assumption) | (simp only [World.size_alloc, World.size_setCell]; omega) | (simp; omega))]; first | assumption | go_simp
    replace cv : ∀ i, i < 12 → World.cell? w' ⟨w.heap.size, i, none⟩ = some (.int .u32 (((f) i : Nat) : Int)) := fun i hi => by rw [look_cell lv, VA_get _ _ hi]
    replace fv := look_frozen lv
    replace sv := look_lt lv
    replace ld : look w' (w.heap.size + 1) = some (.cells (#[.int .i64 (i + 1 : Int), .int .u32 (k : Int)]) 99 (0, 0)) := by rw [look_below hb (by first | omega | (simp only [World.size_alloc]; omega) | exact look_lt (by assumption) | (simp only [World.size_alloc, World.size_setCell]; omega) | (simp; omega))]; first | assumption | go_simp
    replace cd0 : World.cell? w' ⟨w.heap.size + 1, 0, none⟩ = some (.int .i64 (i + 1 : Int)) := by rw [look_cell ld]; rfl
    replace cd1 : World.cell? w' ⟨w.heap.size + 1, 1, none⟩ = some (.int .u32 (k : Int)) := by rw [look_cell ld]; rfl
    replace fd := look_frozen ld
    replace sd := look_lt ld
    replace lr : look w' (w.heap.size + 1 + 1) = some (.cells (VA fun _ => 0) 65 (0, 0)) := by rw [look_below hb (by first | omega | (simp only [World.size_alloc]; omega) | exact look_lt (by assumption) | (simp only [World.size_alloc, World.size_setCell]; omega) | (simp; omega))]; first | assumption | go_simp
    replace cr : ∀ i, i < 12 → World.cell? w' ⟨w.heap.size + 1 + 1, i, none⟩ = some (.int .u32 (((fun _ => 0) i : Nat) : Int)) := fun i hi => by rw [look_cell lr, VA_get _ _ hi]
    replace fr := look_frozen lr
    replace sr := look_lt lr
    go_wp2
    refine wp_region_words mixed 11 ([] :: [7] :: [8] :: [] :: [10] :: [11] :: [12] :: [13] :: [] :: [15] :: [14, 16] :: []) (isV (.pointer (some ⟨w.heap.size + 1, 0, none⟩)) :: isV (.int .i64 (i + 1 : Int)) :: isV (.int .i64 (i : Int)) :: isV (.pointer (some ⟨w.heap.size + 1, 0, none⟩)) :: isV (.int .i64 (i + 1 : Int)) :: isV (.int .i64 (i : Int)) :: isV (.pointer (some ⟨w.heap.size, i, none⟩)) :: isV (.int .u32 (f i : Int)) :: isV (.pointer (some ⟨w.heap.size + 1, 1, none⟩)) :: isV (.int .u32 (k : Int)) :: isV (.int .u32 ((max (f i) k : Nat) : Int)) :: []) (by decide) (by kernel_rfl)
      ⟨stab_isV _, stab_isV _, stab_isV _, stab_isV _, stab_isV _, stab_isV _, stab_isV _, stab_isV _, stab_isV _, stab_isV _, stab_isV _, trivial⟩ ⟨?_, ?_, ?_, ?_, ?_, ?_, ?_, ?_, ?_, ?_, ?_, trivial⟩ ?_
    · intro vs wq hB hm
      clear hm
      simp only [fill]
      go_wp2
      exact ⟨_, rfl, rfl, Below.refl _ _, trivial⟩
    · intro vs wq hB hm
      have hl : look wq (w.heap.size + 1) = some (.cells (#[.int .i64 (i + 1 : Int), .int .u32 (k : Int)]) 99 (0, 0)) := by rw [look_below hB (by first | omega | (simp only [World.size_alloc]; omega) | exact look_lt (by assumption) | (simp only [World.size_alloc, World.size_setCell]; omega) | (simp; omega))]; first | assumption | go_simp
      have hc : World.cell? wq ⟨w.heap.size + 1, 0, none⟩ = some (.int .i64 (i + 1 : Int)) := by rw [look_cell hl]; first | rfl | exact VA_get _ _ (by omega)
      have h7 : vs 7 = .pointer (some ⟨w.heap.size + 1, 0, none⟩) := meets_get hm 0 rfl rfl rfl rfl
      clear hm
      simp only [fill, h7]
      go_wp2
      exact ⟨_, rfl, rfl, Below.refl _ _, trivial⟩
    · intro vs wq hB hm
      have h8 : vs 8 = .int .i64 (i + 1 : Int) := meets_get hm 1 rfl rfl rfl rfl
      clear hm
      simp only [fill, h8]
      go_wp2
      exact ⟨_, rfl, rfl, Below.refl _ _, trivial⟩
    · intro vs wq hB hm
      clear hm
      simp only [fill]
      go_wp2
      exact ⟨_, rfl, rfl, Below.refl _ _, trivial⟩
    · intro vs wq hB hm
      have hl : look wq (w.heap.size + 1) = some (.cells (#[.int .i64 (i + 1 : Int), .int .u32 (k : Int)]) 99 (0, 0)) := by rw [look_below hB (by first | omega | (simp only [World.size_alloc]; omega) | exact look_lt (by assumption) | (simp only [World.size_alloc, World.size_setCell]; omega) | (simp; omega))]; first | assumption | go_simp
      have hc : World.cell? wq ⟨w.heap.size + 1, 0, none⟩ = some (.int .i64 (i + 1 : Int)) := by rw [look_cell hl]; first | rfl | exact VA_get _ _ (by omega)
      have h10 : vs 10 = .pointer (some ⟨w.heap.size + 1, 0, none⟩) := meets_get hm 3 rfl rfl rfl rfl
      clear hm
      simp only [fill, h10]
      go_wp2
      exact ⟨_, rfl, rfl, Below.refl _ _, trivial⟩
    · intro vs wq hB hm
      have h11 : vs 11 = .int .i64 (i + 1 : Int) := meets_get hm 4 rfl rfl rfl rfl
      clear hm
      simp only [fill, h11]
      go_wp2
      exact ⟨_, rfl, rfl, Below.refl _ _, trivial⟩
    · intro vs wq hB hm
      have h12 : vs 12 = .int .i64 (i : Int) := meets_get hm 5 rfl rfl rfl rfl
      clear hm
      simp only [fill, h12]
      go_wp2
      exact ⟨_, rfl, rfl, Below.refl _ _, trivial⟩
    · intro vs wq hB hm
      have hl : look wq (w.heap.size) = some (.cells (VA f) 65 (0, 0)) := by rw [look_below hB (by first | omega | (simp only [World.size_alloc]; omega) | exact look_lt (by assumption) | (simp only [World.size_alloc, World.size_setCell]; omega) | (simp; omega))]; first | assumption | go_simp
      have hc : World.cell? wq ⟨w.heap.size, i, none⟩ = some (.int .u32 (f i : Int)) := by rw [look_cell hl]; first | rfl | exact VA_get _ _ (by omega)
      have h13 : vs 13 = .pointer (some ⟨w.heap.size, i, none⟩) := meets_get hm 6 rfl rfl rfl rfl
      clear hm
      simp only [fill, h13]
      go_wp2
      exact ⟨_, rfl, rfl, Below.refl _ _, trivial⟩
    · intro vs wq hB hm
      clear hm
      simp only [fill]
      go_wp2
      exact ⟨_, rfl, rfl, Below.refl _ _, trivial⟩
    · intro vs wq hB hm
      have hl : look wq (w.heap.size + 1) = some (.cells (#[.int .i64 (i + 1 : Int), .int .u32 (k : Int)]) 99 (0, 0)) := by rw [look_below hB (by first | omega | (simp only [World.size_alloc]; omega) | exact look_lt (by assumption) | (simp only [World.size_alloc, World.size_setCell]; omega) | (simp; omega))]; first | assumption | go_simp
      have hc : World.cell? wq ⟨w.heap.size + 1, 1, none⟩ = some (.int .u32 (k : Int)) := by rw [look_cell hl]; first | rfl | exact VA_get _ _ (by omega)
      have h15 : vs 15 = .pointer (some ⟨w.heap.size + 1, 1, none⟩) := meets_get hm 8 rfl rfl rfl rfl
      clear hm
      simp only [fill, h15]
      go_wp2
      exact ⟨_, rfl, rfl, Below.refl _ _, trivial⟩
    · intro vs wq hB hm
      have h14 : vs 14 = .int .u32 (f i : Int) := meets_get hm 7 rfl rfl rfl rfl
      have h16 : vs 16 = .int .u32 (k : Int) := meets_get hm 9 rfl rfl rfl rfl
      clear hm
      simp only [fill, h14, h16]
      go_wp2
      exact ⟨_, rfl, rfl, Below.refl _ _, trivial⟩
    intro vs wq hB hm hne hlo
    have h7 : vs 7 = .pointer (some ⟨w.heap.size + 1, 0, none⟩) := hm 0 _ _ _ rfl rfl rfl
    have h8 : vs 8 = .int .i64 (i + 1 : Int) := hm 1 _ _ _ rfl rfl rfl
    have h9 : vs 9 = .int .i64 (i : Int) := hm 2 _ _ _ rfl rfl rfl
    have h10 : vs 10 = .pointer (some ⟨w.heap.size + 1, 0, none⟩) := hm 3 _ _ _ rfl rfl rfl
    have h11 : vs 11 = .int .i64 (i + 1 : Int) := hm 4 _ _ _ rfl rfl rfl
    have h12 : vs 12 = .int .i64 (i : Int) := hm 5 _ _ _ rfl rfl rfl
    have h13 : vs 13 = .pointer (some ⟨w.heap.size, i, none⟩) := hm 6 _ _ _ rfl rfl rfl
    have h14 : vs 14 = .int .u32 (f i : Int) := hm 7 _ _ _ rfl rfl rfl
    have h15 : vs 15 = .pointer (some ⟨w.heap.size + 1, 1, none⟩) := hm 8 _ _ _ rfl rfl rfl
    have h16 : vs 16 = .int .u32 (k : Int) := hm 9 _ _ _ rfl rfl rfl
    have h17 : vs 17 = .int .u32 ((max (f i) k : Nat) : Int) := hm 10 _ _ _ rfl rfl rfl
    clear hne hlo
    simp only [fill, List.filterMap, List.take, List.drop, List.setIfInBounds_toArray, List.set_cons_zero, List.set_cons_succ, h7, h8, h9, h10, h11, h12, h13, h14, h15, h16, h17]
    clear hm h7 h8 h9 h10 h11 h12 h13 h14 h15 h16 h17
    replace lv : look wq (w.heap.size) = some (.cells (VA f) 65 (0, 0)) := by rw [look_below hB (by first | omega | (simp only [World.size_alloc]; omega) | exact look_lt (by assumption) | (simp only [World.size_alloc, World.size_setCell]; omega) | (simp; omega))]; first | assumption | go_simp
    replace cv : ∀ i, i < 12 → World.cell? wq ⟨w.heap.size, i, none⟩ = some (.int .u32 (((f) i : Nat) : Int)) := fun i hi => by rw [look_cell lv, VA_get _ _ hi]
    replace fv := look_frozen lv
    replace sv := look_lt lv
    replace lr : look wq (w.heap.size + 1 + 1) = some (.cells (VA fun _ => 0) 65 (0, 0)) := by rw [look_below hB (by first | omega | (simp only [World.size_alloc]; omega) | exact look_lt (by assumption) | (simp only [World.size_alloc, World.size_setCell]; omega) | (simp; omega))]; first | assumption | go_simp
    replace cr : ∀ i, i < 12 → World.cell? wq ⟨w.heap.size + 1 + 1, i, none⟩ = some (.int .u32 (((fun _ => 0) i : Nat) : Int)) := fun i hi => by rw [look_cell lr, VA_get _ _ hi]
    replace fr := look_frozen lr
    replace sr := look_lt lr
    go_wp2
    have hw : VA (upd f i (max (f i) k)) = VA (withN f (i + 1) k) := by
      have : ((i : Int) + 1 - 1).toNat = i := by omega
      rw [withN, if_pos hr, this]
    exact ret_vec (g := w.heap.size + 1 + 1) (f := upd f i (max (f i) k)) (t := 65) (fr := (0, 0)) Try.results93 rfl (by go_simp) rfl
      ⟨by rw [hw], belR (belS (belT (belT (belA (belA (belA (bel0 _) _) _) _) hb) hB) (Nat.le_refl _) _) (by omega) _⟩
  · have e1 := rightB_no hr
    go_enter Try.func93, Try.ntmps93
    go_wp2_with fail
    refine (right_any _ _ _).mono ?_
    rintro e w' ⟨rfl, hb⟩
    rw [e1]
    replace lv : look w' (w.heap.size) = some (.cells (VA f) 65 (0, 0)) := by rw [look_below hb (by first | omega | (simp only [World.size_alloc]; omega) | exact look_lt (by assumption) | (simp only [World.size_alloc, World.size_setCell]; omega) | (simp; omega))]; first | assumption | go_simp
    replace cv : ∀ i, i < 12 → World.cell? w' ⟨w.heap.size, i, none⟩ = some (.int .u32 (((f) i : Nat) : Int)) := fun i hi => by rw [look_cell lv, VA_get _ _ hi]
    replace fv := look_frozen lv
    replace sv := look_lt lv
    replace lr : look w' (w.heap.size + 1 + 1) = some (.cells (VA fun _ => 0) 65 (0, 0)) := by rw [look_below hb (by first | omega | (simp only [World.size_alloc]; omega) | exact look_lt (by assumption) | (simp only [World.size_alloc, World.size_setCell]; omega) | (simp; omega))]; first | assumption | go_simp
    replace cr : ∀ i, i < 12 → World.cell? w' ⟨w.heap.size + 1 + 1, i, none⟩ = some (.int .u32 (((fun _ => 0) i : Nat) : Int)) := fun i hi => by rw [look_cell lr, VA_get _ _ hi]
    replace fr := look_frozen lr
    replace sr := look_lt lr
    go_wp2
    have hw : withN f d k = f := by rw [withN, if_neg hr]
    exact ret_vec (g := w.heap.size + 1 + 1) (f := f) (t := 65) (fr := (0, 0)) Try.results93 rfl (by go_simp) rfl
      ⟨by rw [hw], belR (belT (belA (belA (belA (bel0 _) _) _) _) hb) (by omega) _⟩

/-- Does a vector cover a dot? -/
def hasB (f : Nat → Nat) (d : Int) (k : Nat) : Bool := rightB d k && decide (k ≤ getN f d)

set_option maxRecDepth 100000 in
set_option maxHeartbeats 400000 in
theorem has_any (f : Nat → Nat) (d : Int) (k : Nat) (w : World) :
    Calls Try.prog 57 #[.agg (VA f), .agg #[.int .i64 d, .int .u32 (k : Int)]] w fun e w' => e = .returned (.bool (hasB f d k)) ∧ Below w.heap.size w w' := by
  by_cases hr : 1 ≤ d ∧ d ≤ 12 ∧ 1 ≤ k ∧ k ≤ 1048576
  · have e1 := rightB_yes hr
    go_enter Try.func57, Try.ntmps57
    go_wp2
    refine wp_region_words mixed 11 ([] :: [5] :: [6] :: [7] :: [7] :: [9, 7] :: [8, 10, 7] :: [7] :: [12, 7] :: [11, 13, 7] :: [7, 14] :: []) (isV (.agg #[.int .i64 d, .int .u32 (k : Int)]) :: isV (.bool true) :: isV (.bool true) :: isV (.agg (VA f)) :: isV (.pointer (some ⟨w.heap.size + 1, 0, none⟩)) :: isV (.int .i64 d) :: isV (.int .u32 (getN f d : Int)) :: isV (.pointer (some ⟨w.heap.size + 1, 1, none⟩)) :: isV (.int .u32 (k : Int)) :: isV (.bool (decide (k ≤ getN f d))) :: isV (.bool (decide (k ≤ getN f d))) :: []) (by decide) (by kernel_rfl)
      ⟨stab_isV _, stab_isV _, stab_isV _, stab_isV _, stab_isV _, stab_isV _, stab_isV _, stab_isV _, stab_isV _, stab_isV _, stab_isV _, trivial⟩ ⟨?_, ?_, ?_, ?_, ?_, ?_, ?_, ?_, ?_, ?_, ?_, trivial⟩ ?_
    · intro vs wq hB hm
      have hl : look wq (w.heap.size + 1) = some (.cells (#[.int .i64 d, .int .u32 (k : Int)]) 99 (0, 0)) := by rw [look_below hB (by first | omega | (simp only [World.size_alloc]; omega) | exact look_lt (by assumption) | (simp only [World.size_alloc, World.size_setCell]; omega) | (simp; omega))]; first | assumption | go_simp
      have hc0 : World.cell? wq ⟨w.heap.size + 1, 0, none⟩ = some (.int .i64 d) := by rw [look_cell hl]; rfl
      have hc1 : World.cell? wq ⟨w.heap.size + 1, 1, none⟩ = some (.int .u32 (k : Int)) := by rw [look_cell hl]; rfl
      clear hm
      simp only [fill]
      go_wp2
      exact ⟨_, rfl, rfl, Below.refl _ _, trivial⟩
    · intro vs wq hB hm
      have h5 : vs 5 = .agg #[.int .i64 d, .int .u32 (k : Int)] := meets_get hm 0 rfl rfl rfl rfl
      clear hm
      simp only [fill, h5]
      go_wp2_with fail
      refine (right_any d k _).mono ?_
      rintro e w1 ⟨rfl, hb1⟩
      go_wp2
      exact ⟨_, rfl, rfl, hb1, trivial⟩
    · intro vs wq hB hm
      have h6 : vs 6 = .bool true := meets_get hm 1 rfl rfl rfl rfl
      clear hm
      simp only [fill, h6]
      go_wp2
      exact ⟨_, rfl, rfl, Below.refl _ _, trivial⟩
    · intro vs wq hB hm
      have hl : look wq (w.heap.size) = some (.cells (VA f) 65 (0, 0)) := by rw [look_below hB (by first | omega | (simp only [World.size_alloc]; omega) | exact look_lt (by assumption) | (simp only [World.size_alloc, World.size_setCell]; omega) | (simp; omega))]; first | assumption | go_simp
      have h7 : vs 7 = .bool true := meets_get hm 2 rfl rfl rfl rfl
      clear hm
      simp only [fill, h7]
      go_wp2
      exact ⟨_, rfl, rfl, Below.refl _ _, trivial⟩
    · intro vs wq hB hm
      have h7 : vs 7 = .bool true := meets_get hm 2 rfl rfl rfl rfl
      clear hm
      simp only [fill, h7]
      go_wp2
      exact ⟨_, rfl, rfl, Below.refl _ _, trivial⟩
    · intro vs wq hB hm
      have hl : look wq (w.heap.size + 1) = some (.cells (#[.int .i64 d, .int .u32 (k : Int)]) 99 (0, 0)) := by rw [look_below hB (by first | omega | (simp only [World.size_alloc]; omega) | exact look_lt (by assumption) | (simp only [World.size_alloc, World.size_setCell]; omega) | (simp; omega))]; first | assumption | go_simp
      have hc : World.cell? wq ⟨w.heap.size + 1, 0, none⟩ = some (.int .i64 d) := by rw [look_cell hl]; first | rfl | exact VA_get _ _ (by omega)
      have h9 : vs 9 = .pointer (some ⟨w.heap.size + 1, 0, none⟩) := meets_get hm 4 rfl rfl rfl rfl
      have h7 : vs 7 = .bool true := meets_get hm 2 rfl rfl rfl rfl
      clear hm
      simp only [fill, h9, h7]
      go_wp2
      exact ⟨_, rfl, rfl, Below.refl _ _, trivial⟩
    · intro vs wq hB hm
      have h8 : vs 8 = .agg (VA f) := meets_get hm 3 rfl rfl rfl rfl
      have h10 : vs 10 = .int .i64 d := meets_get hm 5 rfl rfl rfl rfl
      have h7 : vs 7 = .bool true := meets_get hm 2 rfl rfl rfl rfl
      clear hm
      simp only [fill, h8, h10, h7]
      go_wp2_with fail
      refine (get_any f d _).mono ?_
      rintro e w1 ⟨rfl, hb1⟩
      go_wp2
      exact ⟨_, rfl, rfl, hb1, trivial⟩
    · intro vs wq hB hm
      have h7 : vs 7 = .bool true := meets_get hm 2 rfl rfl rfl rfl
      clear hm
      simp only [fill, h7]
      go_wp2
      exact ⟨_, rfl, rfl, Below.refl _ _, trivial⟩
    · intro vs wq hB hm
      have hl : look wq (w.heap.size + 1) = some (.cells (#[.int .i64 d, .int .u32 (k : Int)]) 99 (0, 0)) := by rw [look_below hB (by first | omega | (simp only [World.size_alloc]; omega) | exact look_lt (by assumption) | (simp only [World.size_alloc, World.size_setCell]; omega) | (simp; omega))]; first | assumption | go_simp
      have hc : World.cell? wq ⟨w.heap.size + 1, 1, none⟩ = some (.int .u32 (k : Int)) := by rw [look_cell hl]; first | rfl | exact VA_get _ _ (by omega)
      have h12 : vs 12 = .pointer (some ⟨w.heap.size + 1, 1, none⟩) := meets_get hm 7 rfl rfl rfl rfl
      have h7 : vs 7 = .bool true := meets_get hm 2 rfl rfl rfl rfl
      clear hm
      simp only [fill, h12, h7]
      go_wp2
      exact ⟨_, rfl, rfl, Below.refl _ _, trivial⟩
    · intro vs wq hB hm
      have h11 : vs 11 = .int .u32 (getN f d : Int) := meets_get hm 6 rfl rfl rfl rfl
      have h13 : vs 13 = .int .u32 (k : Int) := meets_get hm 8 rfl rfl rfl rfl
      have h7 : vs 7 = .bool true := meets_get hm 2 rfl rfl rfl rfl
      clear hm
      simp only [fill, h11, h13, h7]
      go_wp2
      exact ⟨_, rfl, rfl, Below.refl _ _, trivial⟩
    · intro vs wq hB hm
      have h7 : vs 7 = .bool true := meets_get hm 2 rfl rfl rfl rfl
      have h14 : vs 14 = .bool (decide (k ≤ getN f d)) := meets_get hm 9 rfl rfl rfl rfl
      clear hm
      simp only [fill, h7, h14]
      go_wp2
      exact ⟨_, rfl, rfl, Below.refl _ _, trivial⟩
    intro vs wq hB hm hne hlo
    have h5 : vs 5 = .agg #[.int .i64 d, .int .u32 (k : Int)] := hm 0 _ _ _ rfl rfl rfl
    have h6 : vs 6 = .bool true := hm 1 _ _ _ rfl rfl rfl
    have h7 : vs 7 = .bool true := hm 2 _ _ _ rfl rfl rfl
    have h8 : vs 8 = .agg (VA f) := hm 3 _ _ _ rfl rfl rfl
    have h9 : vs 9 = .pointer (some ⟨w.heap.size + 1, 0, none⟩) := hm 4 _ _ _ rfl rfl rfl
    have h10 : vs 10 = .int .i64 d := hm 5 _ _ _ rfl rfl rfl
    have h11 : vs 11 = .int .u32 (getN f d : Int) := hm 6 _ _ _ rfl rfl rfl
    have h12 : vs 12 = .pointer (some ⟨w.heap.size + 1, 1, none⟩) := hm 7 _ _ _ rfl rfl rfl
    have h13 : vs 13 = .int .u32 (k : Int) := hm 8 _ _ _ rfl rfl rfl
    have h14 : vs 14 = .bool (decide (k ≤ getN f d)) := hm 9 _ _ _ rfl rfl rfl
    have h15 : vs 15 = .bool (decide (k ≤ getN f d)) := hm 10 _ _ _ rfl rfl rfl
    clear hne hlo
    simp only [fill, List.filterMap, List.take, List.drop, List.setIfInBounds_toArray, List.set_cons_zero, List.set_cons_succ, h5, h6, h7, h8, h9, h10, h11, h12, h13, h14, h15]
    clear hm h5 h6 h7 h8 h9 h10 h11 h12 h13 h14 h15
    go_wp2
    go_ret
    exact ⟨ret_bool (by rw [hasB, e1, Bool.true_and]), belT (belA (belA (bel0 _) _) _) hB⟩
  · have e1 := rightB_no hr
    go_enter Try.func57, Try.ntmps57
    go_wp2
    refine wp_region_words mixed 11 ([] :: [5] :: [6] :: [7] :: [7] :: [9, 7] :: [8, 10, 7] :: [7] :: [12, 7] :: [11, 13, 7] :: [7, 14] :: []) (isV (.agg #[.int .i64 d, .int .u32 (k : Int)]) :: isV (.bool false) :: isV (.bool false) :: isV (undef) :: isV (undef) :: isV (undef) :: isV (undef) :: isV (undef) :: isV (undef) :: isV (undef) :: isV (.bool false) :: []) (by decide) (by kernel_rfl)
      ⟨stab_isV _, stab_isV _, stab_isV _, stab_isV _, stab_isV _, stab_isV _, stab_isV _, stab_isV _, stab_isV _, stab_isV _, stab_isV _, trivial⟩ ⟨?_, ?_, ?_, ?_, ?_, ?_, ?_, ?_, ?_, ?_, ?_, trivial⟩ ?_
    · intro vs wq hB hm
      have hl : look wq (w.heap.size + 1) = some (.cells (#[.int .i64 d, .int .u32 (k : Int)]) 99 (0, 0)) := by rw [look_below hB (by first | omega | (simp only [World.size_alloc]; omega) | exact look_lt (by assumption) | (simp only [World.size_alloc, World.size_setCell]; omega) | (simp; omega))]; first | assumption | go_simp
      have hc0 : World.cell? wq ⟨w.heap.size + 1, 0, none⟩ = some (.int .i64 d) := by rw [look_cell hl]; rfl
      have hc1 : World.cell? wq ⟨w.heap.size + 1, 1, none⟩ = some (.int .u32 (k : Int)) := by rw [look_cell hl]; rfl
      clear hm
      simp only [fill]
      go_wp2
      exact ⟨_, rfl, rfl, Below.refl _ _, trivial⟩
    · intro vs wq hB hm
      have h5 : vs 5 = .agg #[.int .i64 d, .int .u32 (k : Int)] := meets_get hm 0 rfl rfl rfl rfl
      clear hm
      simp only [fill, h5]
      go_wp2_with fail
      refine (right_any d k _).mono ?_
      rintro e w1 ⟨rfl, hb1⟩
      go_wp2
      exact ⟨_, rfl, rfl, hb1, trivial⟩
    · intro vs wq hB hm
      have h6 : vs 6 = .bool false := meets_get hm 1 rfl rfl rfl rfl
      clear hm
      simp only [fill, h6]
      go_wp2
      exact ⟨_, rfl, rfl, Below.refl _ _, trivial⟩
    · intro vs wq hB hm
      have h7 : vs 7 = .bool false := meets_get hm 2 rfl rfl rfl rfl
      clear hm
      simp only [fill, h7]
      refine wpList_skip (by rfl) ?_
      exact ⟨_, rfl, rfl, Below.refl _ _, trivial⟩
    · intro vs wq hB hm
      have h7 : vs 7 = .bool false := meets_get hm 2 rfl rfl rfl rfl
      clear hm
      simp only [fill, h7]
      refine wpList_skip (by rfl) ?_
      exact ⟨_, rfl, rfl, Below.refl _ _, trivial⟩
    · intro vs wq hB hm
      have h9 : vs 9 = undef := meets_get hm 4 rfl rfl rfl rfl
      have h7 : vs 7 = .bool false := meets_get hm 2 rfl rfl rfl rfl
      clear hm
      simp only [fill, h9, h7]
      refine wpList_skip (by rfl) ?_
      exact ⟨_, rfl, rfl, Below.refl _ _, trivial⟩
    · intro vs wq hB hm
      have h8 : vs 8 = undef := meets_get hm 3 rfl rfl rfl rfl
      have h10 : vs 10 = undef := meets_get hm 5 rfl rfl rfl rfl
      have h7 : vs 7 = .bool false := meets_get hm 2 rfl rfl rfl rfl
      clear hm
      simp only [fill, h8, h10, h7]
      refine wpList_skip (by rfl) ?_
      exact ⟨_, rfl, rfl, Below.refl _ _, trivial⟩
    · intro vs wq hB hm
      have h7 : vs 7 = .bool false := meets_get hm 2 rfl rfl rfl rfl
      clear hm
      simp only [fill, h7]
      refine wpList_skip (by rfl) ?_
      exact ⟨_, rfl, rfl, Below.refl _ _, trivial⟩
    · intro vs wq hB hm
      have h12 : vs 12 = undef := meets_get hm 7 rfl rfl rfl rfl
      have h7 : vs 7 = .bool false := meets_get hm 2 rfl rfl rfl rfl
      clear hm
      simp only [fill, h12, h7]
      refine wpList_skip (by rfl) ?_
      exact ⟨_, rfl, rfl, Below.refl _ _, trivial⟩
    · intro vs wq hB hm
      have h11 : vs 11 = undef := meets_get hm 6 rfl rfl rfl rfl
      have h13 : vs 13 = undef := meets_get hm 8 rfl rfl rfl rfl
      have h7 : vs 7 = .bool false := meets_get hm 2 rfl rfl rfl rfl
      clear hm
      simp only [fill, h11, h13, h7]
      refine wpList_skip (by rfl) ?_
      exact ⟨_, rfl, rfl, Below.refl _ _, trivial⟩
    · intro vs wq hB hm
      have h7 : vs 7 = .bool false := meets_get hm 2 rfl rfl rfl rfl
      have h14 : vs 14 = undef := meets_get hm 9 rfl rfl rfl rfl
      clear hm
      simp only [fill, h7, h14]
      go_wp2
      exact ⟨_, rfl, rfl, Below.refl _ _, trivial⟩
    intro vs wq hB hm hne hlo
    have h5 : vs 5 = .agg #[.int .i64 d, .int .u32 (k : Int)] := hm 0 _ _ _ rfl rfl rfl
    have h6 : vs 6 = .bool false := hm 1 _ _ _ rfl rfl rfl
    have h7 : vs 7 = .bool false := hm 2 _ _ _ rfl rfl rfl
    have h8 : vs 8 = undef := hm 3 _ _ _ rfl rfl rfl
    have h9 : vs 9 = undef := hm 4 _ _ _ rfl rfl rfl
    have h10 : vs 10 = undef := hm 5 _ _ _ rfl rfl rfl
    have h11 : vs 11 = undef := hm 6 _ _ _ rfl rfl rfl
    have h12 : vs 12 = undef := hm 7 _ _ _ rfl rfl rfl
    have h13 : vs 13 = undef := hm 8 _ _ _ rfl rfl rfl
    have h14 : vs 14 = undef := hm 9 _ _ _ rfl rfl rfl
    have h15 : vs 15 = .bool false := hm 10 _ _ _ rfl rfl rfl
    clear hne hlo
    simp only [fill, List.filterMap, List.take, List.drop, List.setIfInBounds_toArray, List.set_cons_zero, List.set_cons_succ, h5, h6, h7, h8, h9, h10, h11, h12, h13, h14, h15]
    clear hm h5 h6 h7 h8 h9 h10 h11 h12 h13 h14 h15
    go_wp2
    go_ret
    exact ⟨ret_bool (by rw [hasB, e1, Bool.false_and]), belT (belA (belA (bel0 _) _) _) hB⟩

/-- Is a node's count full? -/
def fullB (x : Nat) : Bool := decide (1048576 ≤ x)
@[go_sem] theorem fullB_nat (x : Nat) : decide (1048576 ≤ x) = fullB x := rfl
@[go_sem] theorem fullB_int (x : Nat) : decide ((1048576 : Int) ≤ (x : Int)) = fullB x := decide_eq_decide.2 (by omega)

/-- The next dot of a node, and the error's number. -/
def nextV (f : Nat → Nat) (n : Int) : Value :=
  if 1 ≤ n ∧ n ≤ 12 then (if 1048576 ≤ getN f n then .tuple #[.agg #[.int .i64 0, .int .u32 0], .int .i64 5] else .tuple #[.agg #[.int .i64 n, .int .u32 ((getN f n + 1 : Nat) : Int)], .int .i64 0])
  else .tuple #[.agg #[.int .i64 0, .int .u32 0], .int .i64 11]

end Go.Proofs.Ytniphfkipjpikaa
