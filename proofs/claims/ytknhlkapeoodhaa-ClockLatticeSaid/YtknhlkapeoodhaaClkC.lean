/- Contracts of the clock package: Meet, Count, Order; and of the law's As. -/
import Derived.Test.YtknhlkapeoodhaaClkB
namespace Go.Proofs.Ytknhlkapeoodhaa
open Go.RowKit

/-- Of two vectors at each place the lesser number. -/
def vmin (f g : Nat → Nat) : Nat → Nat := fun i => min (f i) (g i)
def vminTo (f g : Nat → Nat) (m : Nat) : Nat → Nat := fun i => if i < m then min (f i) (g i) else f i
theorem vminTo_zero (f g : Nat → Nat) : vminTo f g 0 = f := by funext i; simp [vminTo]
theorem vminTo_all (f g : Nat → Nat) : VA (vminTo f g 12) = VA (vmin f g) := VA_ext fun i hi => by simp [vminTo, vmin, hi]
theorem vminTo_at (f g : Nat → Nat) (m : Nat) : vminTo f g m m = f m := by simp [vminTo]
theorem vminTo_step (f g : Nat → Nat) (m : Nat) : upd (vminTo f g m) m (min (f m) (g m)) = vminTo f g (m + 1) := by
  funext i
  by_cases e : i = m
  · subst e; simp [upd, vminTo]
  · have : (i < m + 1) ↔ (i < m) := by omega
    simp [upd, vminTo, e, this]

set_option maxRecDepth 100000 in
set_option maxHeartbeats 400000 in
theorem meet_any (f g : Nat → Nat) (w : World) :
    Calls Try.prog 16 #[.agg (VA f), .agg (VA g)] w fun e w' => e = .returned (.agg (VA (vmin f g))) ∧ Below w.heap.size w w' := by
  go_enter Try.func16, Try.ntmps16
  go_wp2
  go_loopw [6] (fun i wr => ∃ m : Nat, m ≤ 12 ∧ i = .int .i64 m ∧ Below w.heap.size w wr ∧ look wr w.heap.size = some (.cells (VA (vminTo f g m)) 26 (0, 0)) ∧ look wr (w.heap.size + 1) = some (.cells (VA g) 26 (0, 0)) ∧ look wr (w.heap.size + 1 + 1) = some (.cells (VA fun _ => 0) 26 (0, 0))) (fun i _ => 12 - (intOf i).toNat)
  case atStart =>
    exact ⟨0, Nat.zero_le _, rfl, belA (belA (belA (bel0 _) _) _) _, by rw [vminTo_zero]; go_simp, by go_simp, by go_simp⟩
  case round =>
    obtain ⟨m, hm, rfl, hB0, h0, h1, h2⟩ := hrel
    by_cases hml : m < 12
    · have hd : decide ((m : Int) < 12) = true := decide_eq_true (by omega)
      have c0 : World.cell? wr ⟨w.heap.size, m, none⟩ = some (.int .u32 (f m : Int)) := by rw [look_cell h0, VA_get _ _ hml, vminTo_at]
      have c1 : World.cell? wr ⟨w.heap.size + 1, m, none⟩ = some (.int .u32 (g m : Int)) := by rw [look_cell h1, VA_get _ _ hml]
      have f0 := look_frozen h0 m
      go_wp2
      refine wp_region_words mixed 8 ([] :: [] :: [10] :: [11] :: [] :: [13] :: [14] :: [12, 15] :: []) (isV (.int .i64 (m : Int)) :: isV (.int .i64 (m : Int)) :: isV (.pointer (some ⟨w.heap.size, m, none⟩)) :: isV (.int .u32 (f m : Int)) :: isV (.int .i64 (m : Int)) :: isV (.pointer (some ⟨w.heap.size + 1, m, none⟩)) :: isV (.int .u32 (g m : Int)) :: isV (.int .u32 ((min (f m) (g m) : Nat) : Int)) :: []) (by decide) (by kernel_rfl)
        ⟨stab_isV _, stab_isV _, stab_isV _, stab_isV _, stab_isV _, stab_isV _, stab_isV _, stab_isV _, trivial⟩ ⟨?_, ?_, ?_, ?_, ?_, ?_, ?_, ?_, trivial⟩ ?_
      · intro vs wq hB hm
        clear hm
        simp only [fill]
        go_wp2
        exact ⟨_, rfl, rfl, Below.refl _ _, trivial⟩
      · intro vs wq hB hm
        clear hm
        simp only [fill]
        go_wp2
        exact ⟨_, rfl, rfl, Below.refl _ _, trivial⟩
      · intro vs wq hB hm
        have h10 : vs 10 = .int .i64 (m : Int) := meets_get hm 1 rfl rfl rfl rfl
        clear hm
        simp only [fill, h10]
        go_wp2
        exact ⟨_, rfl, rfl, Below.refl _ _, trivial⟩
      · intro vs wq hB hm
        have hl : look wq (w.heap.size) = some (.cells (VA (vminTo f g m)) 26 (0, 0)) := by rw [look_below hB (by first | omega | (simp only [World.size_alloc]; omega) | exact look_lt (by assumption) | (simp only [World.size_alloc, World.size_setCell]; omega) | (simp; omega))]; first | assumption | go_simp
        have hc : World.cell? wq ⟨w.heap.size, m, none⟩ = some (.int .u32 (f m : Int)) := by rw [look_cell hl]; rw [VA_get _ _ hml, vminTo_at]
        have h11 : vs 11 = .pointer (some ⟨w.heap.size, m, none⟩) := meets_get hm 2 rfl rfl rfl rfl
        clear hm
        simp only [fill, h11]
        go_wp2
        exact ⟨_, rfl, rfl, Below.refl _ _, trivial⟩
      · intro vs wq hB hm
        clear hm
        simp only [fill]
        go_wp2
        exact ⟨_, rfl, rfl, Below.refl _ _, trivial⟩
      · intro vs wq hB hm
        have h13 : vs 13 = .int .i64 (m : Int) := meets_get hm 4 rfl rfl rfl rfl
        clear hm
        simp only [fill, h13]
        go_wp2
        exact ⟨_, rfl, rfl, Below.refl _ _, trivial⟩
      · intro vs wq hB hm
        have hl : look wq (w.heap.size + 1) = some (.cells (VA g) 26 (0, 0)) := by rw [look_below hB (by first | omega | (simp only [World.size_alloc]; omega) | exact look_lt (by assumption) | (simp only [World.size_alloc, World.size_setCell]; omega) | (simp; omega))]; first | assumption | go_simp
        have hc : World.cell? wq ⟨w.heap.size + 1, m, none⟩ = some (.int .u32 (g m : Int)) := by rw [look_cell hl]; first | rfl | exact VA_get _ _ (by omega)
        have h14 : vs 14 = .pointer (some ⟨w.heap.size + 1, m, none⟩) := meets_get hm 5 rfl rfl rfl rfl
        clear hm
        simp only [fill, h14]
        go_wp2
        exact ⟨_, rfl, rfl, Below.refl _ _, trivial⟩
      · intro vs wq hB hm
        have h12 : vs 12 = .int .u32 (f m : Int) := meets_get hm 3 rfl rfl rfl rfl
        have h15 : vs 15 = .int .u32 (g m : Int) := meets_get hm 6 rfl rfl rfl rfl
        clear hm
        simp only [fill, h12, h15]
        go_wp2
        exact ⟨_, rfl, rfl, Below.refl _ _, trivial⟩
      intro vs wq hB hm hne hlo
      have h9 : vs 9 = .int .i64 (m : Int) := hm 0 _ _ _ rfl rfl rfl
      have h10 : vs 10 = .int .i64 (m : Int) := hm 1 _ _ _ rfl rfl rfl
      have h11 : vs 11 = .pointer (some ⟨w.heap.size, m, none⟩) := hm 2 _ _ _ rfl rfl rfl
      have h12 : vs 12 = .int .u32 (f m : Int) := hm 3 _ _ _ rfl rfl rfl
      have h13 : vs 13 = .int .i64 (m : Int) := hm 4 _ _ _ rfl rfl rfl
      have h14 : vs 14 = .pointer (some ⟨w.heap.size + 1, m, none⟩) := hm 5 _ _ _ rfl rfl rfl
      have h15 : vs 15 = .int .u32 (g m : Int) := hm 6 _ _ _ rfl rfl rfl
      have h16 : vs 16 = .int .u32 ((min (f m) (g m) : Nat) : Int) := hm 7 _ _ _ rfl rfl rfl
      clear hne hlo
      simp only [fill, List.filterMap, List.take, List.drop, List.setIfInBounds_toArray, List.set_cons_zero, List.set_cons_succ, h9, h10, h11, h12, h13, h14, h15, h16]
      clear hm h9 h10 h11 h12 h13 h14 h15 h16
      replace lx : look wq (w.heap.size) = some (.cells (VA (vminTo f g m)) 26 (0, 0)) := by rw [look_below hB (by first | omega | (simp only [World.size_alloc]; omega) | exact look_lt (by assumption) | (simp only [World.size_alloc, World.size_setCell]; omega) | (simp; omega))]; first | assumption | go_simp
      replace cx : ∀ i, i < 12 → World.cell? wq ⟨w.heap.size, i, none⟩ = some (.int .u32 ((((vminTo f g m)) i : Nat) : Int)) := fun i hi => by rw [look_cell lx, VA_get _ _ hi]
      replace fx := look_frozen lx
      replace sx := look_lt lx
      replace ly : look wq (w.heap.size + 1) = some (.cells (VA g) 26 (0, 0)) := by rw [look_below hB (by first | omega | (simp only [World.size_alloc]; omega) | exact look_lt (by assumption) | (simp only [World.size_alloc, World.size_setCell]; omega) | (simp; omega))]; first | assumption | go_simp
      replace cy : ∀ i, i < 12 → World.cell? wq ⟨w.heap.size + 1, i, none⟩ = some (.int .u32 (((g) i : Nat) : Int)) := fun i hi => by rw [look_cell ly, VA_get _ _ hi]
      replace fy := look_frozen ly
      replace sy := look_lt ly
      replace lz : look wq (w.heap.size + 1 + 1) = some (.cells (VA fun _ => 0) 26 (0, 0)) := by rw [look_below hB (by first | omega | (simp only [World.size_alloc]; omega) | exact look_lt (by assumption) | (simp only [World.size_alloc, World.size_setCell]; omega) | (simp; omega))]; first | assumption | go_simp
      replace cz : ∀ i, i < 12 → World.cell? wq ⟨w.heap.size + 1 + 1, i, none⟩ = some (.int .u32 (((fun _ => 0) i : Nat) : Int)) := fun i hi => by rw [look_cell lz, VA_get _ _ hi]
      replace fz := look_frozen lz
      replace sz := look_lt lz
      have c2 := cx m hml
      go_wp2
      go_roundw
      case rel =>
        refine ⟨m + 1, by omega, by go_num, belS (belT hB0 hB) (Nat.le_refl _) _, ?_, by go_simp, by go_simp⟩
        rw [look_setCell, if_pos rfl, lx]
        simp only [Option.map_some, setObj_cells]
        rw [VA_set, vminTo_step]
      case measure => simp [intOf]; omega
    · obtain rfl : m = 12 := by omega
      go_wp2
      exact ret_vec (g := w.heap.size + 1 + 1) (f := vminTo f g 12) (t := 26) (fr := (0, 0)) Try.results16 rfl (by go_simp) rfl
        ⟨by rw [vminTo_all], belR hB0 (by omega) _⟩

/-- The sum of the first m numbers. -/
def cntN (f : Nat → Nat) : Nat → Nat
  | 0 => 0
  | m + 1 => cntN f m + f m
theorem cntN_le (f : Nat → Nat) (hf : ∀ i, f i ≤ 4294967295) : ∀ m, cntN f m ≤ m * 4294967295
  | 0 => by simp [cntN]
  | m + 1 => by have := cntN_le f hf m; have := hf m; simp only [cntN]; omega

set_option maxRecDepth 100000 in
set_option maxHeartbeats 400000 in
theorem count_any (f : Nat → Nat) (hf : ∀ i, f i ≤ 4294967295) (w : World) :
    Calls Try.prog 22 #[.agg (VA f)] w fun e w' => e = .returned (.int .u64 (cntN f 12 : Int)) ∧ Below w.heap.size w w' := by
  go_enter Try.func22, Try.ntmps22
  go_wp2
  go_loop [3, 7] (fun n i => ∃ m : Nat, m ≤ 12 ∧ i = .int .i64 m ∧ n = .int .u64 (cntN f m : Int)) (fun _ i => 12 - (intOf i).toNat)
  case atStart => exact ⟨0, Nat.zero_le _, rfl, rfl⟩
  case round =>
    obtain ⟨m, hm, rfl, rfl⟩ := hrel
    by_cases hml : m < 12
    · have hs : IntKind.u64.wrap ((cntN f m : Int) + (f m : Int)) = ((cntN f (m + 1) : Nat) : Int) := by
        have h1 := cntN_le f hf m
        have h2 := hf m
        rw [IntWalk.u64_in _ (by omega)]
        simp [cntN]
      have hw : IntKind.u64.wrap (f m : Int) = (f m : Int) := IntWalk.u64_in _ (by have := hf m; omega)
      clear hf
      go_wp2
      exact ⟨⟨m + 1, by omega, by go_num, rfl⟩, by simp [intOf]; omega⟩
    · obtain rfl : m = 12 := by omega
      go_wp2
      go_ret
      exact ⟨rfl, belA (bel0 _) _⟩

theorem as_any (d : Int) (k : Nat) (w : World) :
    Calls Try.prog 24 #[.agg #[.int .i64 d, .int .u32 (k : Int)]] w fun e w' => e = .returned (.agg #[.int .i64 d, .int .u32 (k : Int)]) ∧ Below w.heap.size w w' := by
  go_enter Try.func24, Try.ntmps24
  go_wp2
  refine bodyPost_ret (v := .agg #[.int .i64 d, .int .u32 (k : Int)]) (by simp [results, Try.results24, go_sem]) rfl ⟨rfl, ?_⟩
  exact belA (belA (bel0 _) _) _

/-- How two vectors stand to each other. -/
def ordN (f g : Nat → Nat) : Int := if veq f g = true then 0 else if covB f g = true then 1 else if covB g f = true then -1 else 2

set_option maxRecDepth 100000 in
set_option maxHeartbeats 400000 in
theorem order_any (f g : Nat → Nat) (w : World) :
    Calls Try.prog 21 #[.agg (VA f), .agg (VA g)] w fun e w' => e = .returned (.int .i64 (ordN f g)) ∧ Below w.heap.size w w' := by
  have hv : ordN f g = if veq f g = true then 0 else if covB f g = true then 1 else if covB g f = true then -1 else 2 := rfl
  cases h1 : veq f g
  · cases h2 : covB f g
    · cases h3 : covB g f
      all_goals
        simp only [h1, h2, h3, Bool.false_eq_true, if_false, if_true] at hv
        rw [hv]
        clear hv
        go_enter Try.func21, Try.ntmps21
        go_wp2_with fail
        refine (covers_any _ _ _).mono ?_
        rintro e w' ⟨rfl, hb⟩
        rw [h2]
        replace lx : look w' (w.heap.size) = some (.cells (VA f) 26 (0, 0)) := by rw [look_below hb (by first | omega | (simp only [World.size_alloc]; omega) | exact look_lt (by assumption) | (simp only [World.size_alloc, World.size_setCell]; omega) | (simp; omega))]; first | assumption | go_simp
        replace cx : ∀ i, i < 12 → World.cell? w' ⟨w.heap.size, i, none⟩ = some (.int .u32 (((f) i : Nat) : Int)) := fun i hi => by rw [look_cell lx, VA_get _ _ hi]
        replace fx := look_frozen lx
        replace sx := look_lt lx
        replace ly : look w' (w.heap.size + 1) = some (.cells (VA g) 26 (0, 0)) := by rw [look_below hb (by first | omega | (simp only [World.size_alloc]; omega) | exact look_lt (by assumption) | (simp only [World.size_alloc, World.size_setCell]; omega) | (simp; omega))]; first | assumption | go_simp
        replace cy : ∀ i, i < 12 → World.cell? w' ⟨w.heap.size + 1, i, none⟩ = some (.int .u32 (((g) i : Nat) : Int)) := fun i hi => by rw [look_cell ly, VA_get _ _ hi]
        replace fy := look_frozen ly
        replace sy := look_lt ly
        go_wp2_with fail
        refine (covers_any _ _ _).mono ?_
        rintro e w2 ⟨rfl, hb2⟩
        rw [h3]
        go_wp2
        go_ret
        exact ⟨rfl, belT (belT (belA (belA (bel0 _) _) _) hb) hb2⟩
    · simp only [h1, h2, Bool.false_eq_true, if_false, if_true] at hv
      rw [hv]
      clear hv
      go_enter Try.func21, Try.ntmps21
      go_wp2_with fail
      refine (covers_any _ _ _).mono ?_
      rintro e w' ⟨rfl, hb⟩
      rw [h2]
      go_wp2
      go_ret
      exact ⟨rfl, belT (belA (belA (bel0 _) _) _) hb⟩
  · simp only [h1, if_true] at hv
    rw [hv]
    clear hv
    go_enter Try.func21, Try.ntmps21
    go_wp2
    go_ret
    exact ⟨rfl, belA (belA (bel0 _) _) _⟩
end Go.Proofs.Ytknhlkapeoodhaa
