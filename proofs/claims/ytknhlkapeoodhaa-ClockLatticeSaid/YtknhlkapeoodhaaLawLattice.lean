/- ClockLattice: the walk of the law. -/
import Derived.Test.YtknhlkapeoodhaaClkL
namespace Go.Proofs.Ytknhlkapeoodhaa
open Go.RowKit

theorem vmax_comm (f g : Nat → Nat) : vmax f g = vmax g f := by funext i; simp only [vmax]; omega
theorem vmin_comm (f g : Nat → Nat) : vmin f g = vmin g f := by funext i; simp only [vmin]; omega
theorem vmax_assoc (f g h : Nat → Nat) : vmax (vmax f g) h = vmax f (vmax g h) := by funext i; simp only [vmax]; omega
theorem vmax_min (f g : Nat → Nat) : vmax f (vmin f g) = f := by funext i; simp only [vmax, vmin]; omega
theorem vmin_max (f g : Nat → Nat) : vmin f (vmax f g) = f := by funext i; simp only [vmax, vmin]; omega
theorem veq_rfl (f : Nat → Nat) : veq f f = true := (veq_iff _ _).2 (fun _ _ => rfl)
theorem cov_max1 (f g : Nat → Nat) : covB (vmax f g) f = true := (covB_iff _ _).2 (fun i _ => by simp only [vmax]; omega)
theorem cov_max2 (f g : Nat → Nat) : covB (vmax f g) g = true := (covB_iff _ _).2 (fun i _ => by simp only [vmax]; omega)
theorem cov_min1 (f g : Nat → Nat) : covB f (vmin f g) = true := (covB_iff _ _).2 (fun i _ => by simp only [vmin]; omega)
theorem cov_min2 (f g : Nat → Nat) : covB g (vmin f g) = true := (covB_iff _ _).2 (fun i _ => by simp only [vmin]; omega)
theorem cov_least (f g h : Nat → Nat) (h1 : covB h f = true) (h2 : covB h g = true) : covB h (vmax f g) = true := by
  rw [covB_iff] at *
  intro i hi
  have := h1 i hi
  have := h2 i hi
  simp only [vmax]; omega
theorem cov_most (f g h : Nat → Nat) (h1 : covB f h = true) (h2 : covB g h = true) : covB (vmin f g) h = true := by
  rw [covB_iff] at *
  intro i hi
  have := h1 i hi
  have := h2 i hi
  simp only [vmin]; omega

set_option maxRecDepth 100000 in
set_option maxHeartbeats 16000000 in
theorem lattice_walk (f g h : Nat → Nat) (w : World) :
    Calls Try.prog 4 #[.agg (VA f), .agg (VA g), .agg (VA h)] w fun e w' => e = .returned (.bool true) ∧ Below w.heap.size w w' := by
  have v1 : veq (vmax f g) (vmax g f) = true := by rw [vmax_comm g f]; exact veq_rfl _
  have v2 : veq (vmin f g) (vmin g f) = true := by rw [vmin_comm g f]; exact veq_rfl _
  have v3 : veq (vmax (vmax f g) h) (vmax f (vmax g h)) = true := by rw [vmax_assoc]; exact veq_rfl _
  have v4 : veq (vmax f (vmin f g)) f = true := by rw [vmax_min]; exact veq_rfl _
  have v5 : veq (vmin f (vmax f g)) f = true := by rw [vmin_max]; exact veq_rfl _
  have H1 := Lib.hid (cov_max1 f g)
  have H2 := Lib.hid (cov_max2 f g)
  have H3 := Lib.hid (cov_min1 f g)
  have H4 := Lib.hid (cov_min2 f g)
  go_enter Try.func4, Try.ntmps4
  go_wp2_with fail
  refine wp_region_words mixed 9 ([] :: [] :: [9, 10] :: [11] :: [] :: [] :: [13, 14] :: [] :: [] :: []) (isV (.agg (VA f)) :: isV (.agg (VA g)) :: isRow 26 2 (VA f ++ VA g) :: isV (.agg (VA (vmax f g))) :: isV (.agg (VA f)) :: isV (.agg (VA g)) :: isV (.agg (VA (vmin f g))) :: isVar 26 (VA fun _ => 0) :: isVar 26 (VA fun _ => 0) :: []) (by decide) (by kernel_rfl)
    ⟨stab_isV _, stab_isV _, stab_isRow _ _ _, stab_isV _, stab_isV _, stab_isV _, stab_isV _, stab_isVar _ _, stab_isVar _ _, trivial⟩ ⟨?_, ?_, ?_, ?_, ?_, ?_, ?_, ?_, ?_, trivial⟩ ?_
  · intro vs wq hB hm
    have hl : look wq (w.heap.size) = some (.cells (VA f) 26 (0, 0)) := by rw [look_below hB (by first | omega | (simp only [World.size_alloc]; omega) | exact look_lt (by assumption) | (simp only [World.size_alloc, World.size_setCell]; omega) | (simp; omega))]; first | assumption | go_simp
    clear hm
    simp only [fill]
    go_wp2
    exact ⟨_, rfl, rfl, Below.refl _ _, trivial⟩
  · intro vs wq hB hm
    have hl : look wq (w.heap.size + 1) = some (.cells (VA g) 26 (0, 0)) := by rw [look_below hB (by first | omega | (simp only [World.size_alloc]; omega) | exact look_lt (by assumption) | (simp only [World.size_alloc, World.size_setCell]; omega) | (simp; omega))]; first | assumption | go_simp
    clear hm
    simp only [fill]
    go_wp2
    exact ⟨_, rfl, rfl, Below.refl _ _, trivial⟩
  · intro vs wq hB hm
    have h9 : vs 9 = .agg (VA f) := meets_get hm 0 rfl rfl rfl rfl
    have h10 : vs 10 = .agg (VA g) := meets_get hm 1 rfl rfl rfl rfl
    clear hm
    simp only [fill, h9, h10]
    go_wp2
    exact ⟨_, rfl, ⟨_, rfl, look_alloc_at _ _ _ rfl⟩, (Below.refl _ _).alloc (Nat.le_refl _) _, fun b hb => by cases hb; exact ⟨Nat.le_refl _, by simp⟩⟩
  · intro vs wq hB hm
    obtain ⟨b11, h11, l11⟩ := meets_get hm 2 rfl rfl rfl rfl
    clear hm
    simp only [fill, h11]
    go_wp2_with fail
    refine (join_two f g b11 _ l11).mono ?_
    rintro e w1 ⟨rfl, hb1⟩
    go_wp2
    exact ⟨_, rfl, rfl, hb1, trivial⟩
  · intro vs wq hB hm
    have hl : look wq (w.heap.size) = some (.cells (VA f) 26 (0, 0)) := by rw [look_below hB (by first | omega | (simp only [World.size_alloc]; omega) | exact look_lt (by assumption) | (simp only [World.size_alloc, World.size_setCell]; omega) | (simp; omega))]; first | assumption | go_simp
    clear hm
    simp only [fill]
    go_wp2
    exact ⟨_, rfl, rfl, Below.refl _ _, trivial⟩
  · intro vs wq hB hm
    have hl : look wq (w.heap.size + 1) = some (.cells (VA g) 26 (0, 0)) := by rw [look_below hB (by first | omega | (simp only [World.size_alloc]; omega) | exact look_lt (by assumption) | (simp only [World.size_alloc, World.size_setCell]; omega) | (simp; omega))]; first | assumption | go_simp
    clear hm
    simp only [fill]
    go_wp2
    exact ⟨_, rfl, rfl, Below.refl _ _, trivial⟩
  · intro vs wq hB hm
    have h13 : vs 13 = .agg (VA f) := meets_get hm 4 rfl rfl rfl rfl
    have h14 : vs 14 = .agg (VA g) := meets_get hm 5 rfl rfl rfl rfl
    clear hm
    simp only [fill, h13, h14]
    go_wp2_with fail
    refine (meet_any f g _).mono ?_
    rintro e w1 ⟨rfl, hb1⟩
    go_wp2
    exact ⟨_, rfl, rfl, hb1, trivial⟩
  · intro vs wq hB hm
    clear hm
    simp only [fill]
    go_wp2
    exact ⟨_, rfl, ⟨_, rfl, look_alloc_at _ _ _ rfl⟩, (Below.refl _ _).alloc (Nat.le_refl _) _, fun b hb => by cases hb; exact ⟨Nat.le_refl _, by simp⟩⟩
  · intro vs wq hB hm
    clear hm
    simp only [fill]
    go_wp2
    exact ⟨_, rfl, ⟨_, rfl, look_alloc_at _ _ _ rfl⟩, (Below.refl _ _).alloc (Nat.le_refl _) _, fun b hb => by cases hb; exact ⟨Nat.le_refl _, by simp⟩⟩
  intro vs wq hB hm hne hlo
  have h9 : vs 9 = .agg (VA f) := hm 0 _ _ _ rfl rfl rfl
  have h10 : vs 10 = .agg (VA g) := hm 1 _ _ _ rfl rfl rfl
  obtain ⟨b11, h11, l11⟩ := hm 2 _ _ _ rfl rfl rfl
  have h12 : vs 12 = .agg (VA (vmax f g)) := hm 3 _ _ _ rfl rfl rfl
  have h13 : vs 13 = .agg (VA f) := hm 4 _ _ _ rfl rfl rfl
  have h14 : vs 14 = .agg (VA g) := hm 5 _ _ _ rfl rfl rfl
  have h15 : vs 15 = .agg (VA (vmin f g)) := hm 6 _ _ _ rfl rfl rfl
  obtain ⟨b7, h7, l7⟩ := hm 7 _ _ _ rfl rfl rfl
  obtain ⟨b8, h8, l8⟩ := hm 8 _ _ _ rfl rfl rfl
  have lo11 : _ ≤ b11 ∧ b11 < wq.heap.size := hlo 2 _ _ rfl rfl rfl b11 (by rw [h11]; rfl)
  have lo7 : _ ≤ b7 ∧ b7 < wq.heap.size := hlo 7 _ _ rfl rfl rfl b7 (by rw [h7]; rfl)
  have ne11_7 : b11 ≠ b7 := fun h => hne 2 7 _ _ _ _ (by omega) rfl rfl rfl rfl rfl rfl b11 (by rw [h11]; rfl) (by rw [h7, h]; rfl)
  have lo8 : _ ≤ b8 ∧ b8 < wq.heap.size := hlo 8 _ _ rfl rfl rfl b8 (by rw [h8]; rfl)
  have ne11_8 : b11 ≠ b8 := fun h => hne 2 8 _ _ _ _ (by omega) rfl rfl rfl rfl rfl rfl b11 (by rw [h11]; rfl) (by rw [h8, h]; rfl)
  have ne7_8 : b7 ≠ b8 := fun h => hne 7 8 _ _ _ _ (by omega) rfl rfl rfl rfl rfl rfl b7 (by rw [h7]; rfl) (by rw [h8, h]; rfl)
  clear hne hlo
  simp only [fill, List.filterMap, List.take, List.drop, List.setIfInBounds_toArray, List.set_cons_zero, List.set_cons_succ, h9, h10, h11, h12, h13, h14, h15, h7, h8]
  clear hm h9 h10 h11 h12 h13 h14 h15 h7 h8
  simp only [World.size_alloc] at lo7 lo8
  obtain ⟨lo7, lo7'⟩ := lo7
  obtain ⟨lo8, lo8'⟩ := lo8
  have n37 : w.heap.size ≠ b7 := by omega
  have n38 : w.heap.size ≠ b8 := by omega
  have n47 : w.heap.size + 1 ≠ b7 := by omega
  have n48 : w.heap.size + 1 ≠ b8 := by omega
  have n57 : w.heap.size + 1 + 1 ≠ b7 := by omega
  have n58 : w.heap.size + 1 + 1 ≠ b8 := by omega
  have n78 : b8 ≠ b7 := fun e => ne7_8 e.symm
  have hB1 := belT (belA (belA (belA (bel0 w) _) _) _) hB
  have hw7 : w.heap.size ≤ b7 := by omega
  have hw8 : w.heap.size ≤ b8 := by omega
  replace lx3 : look wq (w.heap.size) = some (.cells (VA f) 26 (0, 0)) := by rw [look_below hB (by first | omega | (simp only [World.size_alloc]; omega) | exact look_lt (by assumption) | (simp only [World.size_alloc, World.size_setCell]; omega) | (simp; omega))]; first | assumption | go_simp
  replace cx3 : ∀ i, i < 12 → World.cell? wq ⟨w.heap.size, i, none⟩ = some (.int .u32 (((f) i : Nat) : Int)) := fun i hi => by rw [look_cell lx3, VA_get _ _ hi]
  replace fx3 := look_frozen lx3
  replace sx3 := look_lt lx3
  replace lx4 : look wq (w.heap.size + 1) = some (.cells (VA g) 26 (0, 0)) := by rw [look_below hB (by first | omega | (simp only [World.size_alloc]; omega) | exact look_lt (by assumption) | (simp only [World.size_alloc, World.size_setCell]; omega) | (simp; omega))]; first | assumption | go_simp
  replace cx4 : ∀ i, i < 12 → World.cell? wq ⟨w.heap.size + 1, i, none⟩ = some (.int .u32 (((g) i : Nat) : Int)) := fun i hi => by rw [look_cell lx4, VA_get _ _ hi]
  replace fx4 := look_frozen lx4
  replace sx4 := look_lt lx4
  replace lx5 : look wq (w.heap.size + 1 + 1) = some (.cells (VA h) 26 (0, 0)) := by rw [look_below hB (by first | omega | (simp only [World.size_alloc]; omega) | exact look_lt (by assumption) | (simp only [World.size_alloc, World.size_setCell]; omega) | (simp; omega))]; first | assumption | go_simp
  replace cx5 : ∀ i, i < 12 → World.cell? wq ⟨w.heap.size + 1 + 1, i, none⟩ = some (.int .u32 (((h) i : Nat) : Int)) := fun i hi => by rw [look_cell lx5, VA_get _ _ hi]
  replace fx5 := look_frozen lx5
  replace sx5 := look_lt lx5
  clear hB cx3 cx4 cx5 fx3 fx4 fx5
  go_wp2_with fail
  have k3 : look ((wq.setRow b7 (VA (vmax f g))).setRow b8 (VA (vmin f g))) w.heap.size = some (.cells (VA f) 26 (0, 0)) := by go_simp
  have k4 : look ((wq.setRow b7 (VA (vmax f g))).setRow b8 (VA (vmin f g))) (w.heap.size + 1) = some (.cells (VA g) 26 (0, 0)) := by go_simp
  have k5 : look ((wq.setRow b7 (VA (vmax f g))).setRow b8 (VA (vmin f g))) (w.heap.size + 1 + 1) = some (.cells (VA h) 26 (0, 0)) := by go_simp
  have k7 : look ((wq.setRow b7 (VA (vmax f g))).setRow b8 (VA (vmin f g))) b7 = some (.cells (VA (vmax f g)) 26 (0, 0)) := by go_simp
  have k8 : look ((wq.setRow b7 (VA (vmax f g))).setRow b8 (VA (vmin f g))) b8 = some (.cells (VA (vmin f g)) 26 (0, 0)) := by go_simp
  have hB2 : Below w.heap.size w ((wq.setRow b7 (VA (vmax f g))).setRow b8 (VA (vmin f g))) := belR (belR hB1 hw7 _) hw8 _
  clear lx3 lx4 lx5 sx3 sx4 sx5 n37 n38 n47 n48 n57 n58 n78 ne7_8 ne11_7 ne11_8 hB1 l7 l8 l11 lo7 lo7' lo8 lo8' lo11
  generalize (wq.setRow b7 (VA (vmax f g))).setRow b8 (VA (vmin f g)) = wr at *
  refine wp_region_words mixed 37 ([] :: [] :: [16, 17] :: [18] :: [19] :: [20] :: [20] :: [21, 22, 20] :: [23, 20] :: [20, 24] :: [25] :: [26] :: [26] :: [27, 28, 26] :: [29, 26] :: [26, 30] :: [31] :: [32] :: [32] :: [33, 34, 32] :: [35, 32] :: [32, 36] :: [37] :: [38] :: [38] :: [38] :: [40, 41, 38] :: [42, 38] :: [39, 43, 38] :: [38, 44] :: [45] :: [46] :: [46] :: [46] :: [48, 49, 46] :: [47, 50, 46] :: [46, 51] :: []) (isV (.agg (VA (vmax f g))) :: isV (.agg (VA f)) :: isV (.bool true) :: isV (.bool false) :: isV (.bool false) :: isV (.agg (VA (vmax f g))) :: isV (.agg (VA g)) :: isV (.bool true) :: isV (.bool false) :: isV (.bool false) :: isV (.bool false) :: isV (.agg (VA f)) :: isV (.agg (VA (vmin f g))) :: isV (.bool true) :: isV (.bool false) :: isV (.bool false) :: isV (.bool false) :: isV (.agg (VA g)) :: isV (.agg (VA (vmin f g))) :: isV (.bool true) :: isV (.bool false) :: isV (.bool false) :: isV (.bool false) :: isV (.agg (VA (vmax f g))) :: isV (.agg (VA g)) :: isV (.agg (VA f)) :: isRow 26 2 (VA g ++ VA f) :: isV (.agg (VA (vmax g f))) :: isV (.bool false) :: isV (.bool false) :: isV (.bool false) :: isV (.agg (VA (vmin f g))) :: isV (.agg (VA g)) :: isV (.agg (VA f)) :: isV (.agg (VA (vmin g f))) :: isV (.bool false) :: isV (.bool false) :: []) (by decide) (by kernel_rfl)
    ⟨stab_isV _, stab_isV _, stab_isV _, stab_isV _, stab_isV _, stab_isV _, stab_isV _, stab_isV _, stab_isV _, stab_isV _, stab_isV _, stab_isV _, stab_isV _, stab_isV _, stab_isV _, stab_isV _, stab_isV _, stab_isV _, stab_isV _, stab_isV _, stab_isV _, stab_isV _, stab_isV _, stab_isV _, stab_isV _, stab_isV _, stab_isRow _ _ _, stab_isV _, stab_isV _, stab_isV _, stab_isV _, stab_isV _, stab_isV _, stab_isV _, stab_isV _, stab_isV _, stab_isV _, trivial⟩ ⟨?_, ?_, ?_, ?_, ?_, ?_, ?_, ?_, ?_, ?_, ?_, ?_, ?_, ?_, ?_, ?_, ?_, ?_, ?_, ?_, ?_, ?_, ?_, ?_, ?_, ?_, ?_, ?_, ?_, ?_, ?_, ?_, ?_, ?_, ?_, ?_, ?_, trivial⟩ ?_
  · intro vs wq hB hm
    have hl : look wq (b7) = some (.cells (VA (vmax f g)) 26 (0, 0)) := by rw [look_below hB (by first | omega | (simp only [World.size_alloc]; omega) | exact look_lt (by assumption) | (simp only [World.size_alloc, World.size_setCell]; omega) | (simp; omega))]; first | assumption | go_simp
    clear hm
    simp only [fill]
    go_wp2
    exact ⟨_, rfl, rfl, Below.refl _ _, trivial⟩
  · intro vs wq hB hm
    have hl : look wq (w.heap.size) = some (.cells (VA f) 26 (0, 0)) := by rw [look_below hB (by first | omega | (simp only [World.size_alloc]; omega) | exact look_lt (by assumption) | (simp only [World.size_alloc, World.size_setCell]; omega) | (simp; omega))]; first | assumption | go_simp
    clear hm
    simp only [fill]
    go_wp2
    exact ⟨_, rfl, rfl, Below.refl _ _, trivial⟩
  · intro vs wq hB hm
    have h16 : vs 16 = .agg (VA (vmax f g)) := meets_get hm 0 rfl rfl rfl rfl
    have h17 : vs 17 = .agg (VA f) := meets_get hm 1 rfl rfl rfl rfl
    clear hm
    simp only [fill, h16, h17]
    go_wp2_with fail
    refine ((H1.out ▸ covers_any (vmax f g) f _)).mono ?_
    rintro e w1 ⟨rfl, hb1⟩
    go_wp2
    exact ⟨_, rfl, rfl, hb1, trivial⟩
  · intro vs wq hB hm
    have h18 : vs 18 = .bool true := meets_get hm 2 rfl rfl rfl rfl
    clear hm
    simp only [fill, h18]
    go_wp2
    exact ⟨_, rfl, rfl, Below.refl _ _, trivial⟩
  · intro vs wq hB hm
    have h19 : vs 19 = .bool false := meets_get hm 3 rfl rfl rfl rfl
    clear hm
    simp only [fill, h19]
    go_wp2
    exact ⟨_, rfl, rfl, Below.refl _ _, trivial⟩
  · intro vs wq hB hm
    have hl : look wq (b7) = some (.cells (VA (vmax f g)) 26 (0, 0)) := by rw [look_below hB (by first | omega | (simp only [World.size_alloc]; omega) | exact look_lt (by assumption) | (simp only [World.size_alloc, World.size_setCell]; omega) | (simp; omega))]; first | assumption | go_simp
    have h20 : vs 20 = .bool false := meets_get hm 4 rfl rfl rfl rfl
    clear hm
    simp only [fill, h20]
    go_wp2
    exact ⟨_, rfl, rfl, Below.refl _ _, trivial⟩
  · intro vs wq hB hm
    have hl : look wq (w.heap.size + 1) = some (.cells (VA g) 26 (0, 0)) := by rw [look_below hB (by first | omega | (simp only [World.size_alloc]; omega) | exact look_lt (by assumption) | (simp only [World.size_alloc, World.size_setCell]; omega) | (simp; omega))]; first | assumption | go_simp
    have h20 : vs 20 = .bool false := meets_get hm 4 rfl rfl rfl rfl
    clear hm
    simp only [fill, h20]
    go_wp2
    exact ⟨_, rfl, rfl, Below.refl _ _, trivial⟩
  · intro vs wq hB hm
    have h21 : vs 21 = .agg (VA (vmax f g)) := meets_get hm 5 rfl rfl rfl rfl
    have h22 : vs 22 = .agg (VA g) := meets_get hm 6 rfl rfl rfl rfl
    have h20 : vs 20 = .bool false := meets_get hm 4 rfl rfl rfl rfl
    clear hm
    simp only [fill, h21, h22, h20]
    go_wp2_with fail
    refine ((H2.out ▸ covers_any (vmax f g) g _)).mono ?_
    rintro e w1 ⟨rfl, hb1⟩
    go_wp2
    exact ⟨_, rfl, rfl, hb1, trivial⟩
  · intro vs wq hB hm
    have h23 : vs 23 = .bool true := meets_get hm 7 rfl rfl rfl rfl
    have h20 : vs 20 = .bool false := meets_get hm 4 rfl rfl rfl rfl
    clear hm
    simp only [fill, h23, h20]
    go_wp2
    exact ⟨_, rfl, rfl, Below.refl _ _, trivial⟩
  · intro vs wq hB hm
    have h20 : vs 20 = .bool false := meets_get hm 4 rfl rfl rfl rfl
    have h24 : vs 24 = .bool false := meets_get hm 8 rfl rfl rfl rfl
    clear hm
    simp only [fill, h20, h24]
    go_wp2
    exact ⟨_, rfl, rfl, Below.refl _ _, trivial⟩
  · intro vs wq hB hm
    have h25 : vs 25 = .bool false := meets_get hm 9 rfl rfl rfl rfl
    clear hm
    simp only [fill, h25]
    go_wp2
    exact ⟨_, rfl, rfl, Below.refl _ _, trivial⟩
  · intro vs wq hB hm
    have hl : look wq (w.heap.size) = some (.cells (VA f) 26 (0, 0)) := by rw [look_below hB (by first | omega | (simp only [World.size_alloc]; omega) | exact look_lt (by assumption) | (simp only [World.size_alloc, World.size_setCell]; omega) | (simp; omega))]; first | assumption | go_simp
    have h26 : vs 26 = .bool false := meets_get hm 10 rfl rfl rfl rfl
    clear hm
    simp only [fill, h26]
    go_wp2
    exact ⟨_, rfl, rfl, Below.refl _ _, trivial⟩
  · intro vs wq hB hm
    have hl : look wq (b8) = some (.cells (VA (vmin f g)) 26 (0, 0)) := by rw [look_below hB (by first | omega | (simp only [World.size_alloc]; omega) | exact look_lt (by assumption) | (simp only [World.size_alloc, World.size_setCell]; omega) | (simp; omega))]; first | assumption | go_simp
    have h26 : vs 26 = .bool false := meets_get hm 10 rfl rfl rfl rfl
    clear hm
    simp only [fill, h26]
    go_wp2
    exact ⟨_, rfl, rfl, Below.refl _ _, trivial⟩
  · intro vs wq hB hm
    have h27 : vs 27 = .agg (VA f) := meets_get hm 11 rfl rfl rfl rfl
    have h28 : vs 28 = .agg (VA (vmin f g)) := meets_get hm 12 rfl rfl rfl rfl
    have h26 : vs 26 = .bool false := meets_get hm 10 rfl rfl rfl rfl
    clear hm
    simp only [fill, h27, h28, h26]
    go_wp2_with fail
    refine ((H3.out ▸ covers_any f (vmin f g) _)).mono ?_
    rintro e w1 ⟨rfl, hb1⟩
    go_wp2
    exact ⟨_, rfl, rfl, hb1, trivial⟩
  · intro vs wq hB hm
    have h29 : vs 29 = .bool true := meets_get hm 13 rfl rfl rfl rfl
    have h26 : vs 26 = .bool false := meets_get hm 10 rfl rfl rfl rfl
    clear hm
    simp only [fill, h29, h26]
    go_wp2
    exact ⟨_, rfl, rfl, Below.refl _ _, trivial⟩
  · intro vs wq hB hm
    have h26 : vs 26 = .bool false := meets_get hm 10 rfl rfl rfl rfl
    have h30 : vs 30 = .bool false := meets_get hm 14 rfl rfl rfl rfl
    clear hm
    simp only [fill, h26, h30]
    go_wp2
    exact ⟨_, rfl, rfl, Below.refl _ _, trivial⟩
  · intro vs wq hB hm
    have h31 : vs 31 = .bool false := meets_get hm 15 rfl rfl rfl rfl
    clear hm
    simp only [fill, h31]
    go_wp2
    exact ⟨_, rfl, rfl, Below.refl _ _, trivial⟩
  · intro vs wq hB hm
    have hl : look wq (w.heap.size + 1) = some (.cells (VA g) 26 (0, 0)) := by rw [look_below hB (by first | omega | (simp only [World.size_alloc]; omega) | exact look_lt (by assumption) | (simp only [World.size_alloc, World.size_setCell]; omega) | (simp; omega))]; first | assumption | go_simp
    have h32 : vs 32 = .bool false := meets_get hm 16 rfl rfl rfl rfl
    clear hm
    simp only [fill, h32]
    go_wp2
    exact ⟨_, rfl, rfl, Below.refl _ _, trivial⟩
  · intro vs wq hB hm
    have hl : look wq (b8) = some (.cells (VA (vmin f g)) 26 (0, 0)) := by rw [look_below hB (by first | omega | (simp only [World.size_alloc]; omega) | exact look_lt (by assumption) | (simp only [World.size_alloc, World.size_setCell]; omega) | (simp; omega))]; first | assumption | go_simp
    have h32 : vs 32 = .bool false := meets_get hm 16 rfl rfl rfl rfl
    clear hm
    simp only [fill, h32]
    go_wp2
    exact ⟨_, rfl, rfl, Below.refl _ _, trivial⟩
  · intro vs wq hB hm
    have h33 : vs 33 = .agg (VA g) := meets_get hm 17 rfl rfl rfl rfl
    have h34 : vs 34 = .agg (VA (vmin f g)) := meets_get hm 18 rfl rfl rfl rfl
    have h32 : vs 32 = .bool false := meets_get hm 16 rfl rfl rfl rfl
    clear hm
    simp only [fill, h33, h34, h32]
    go_wp2_with fail
    refine ((H4.out ▸ covers_any g (vmin f g) _)).mono ?_
    rintro e w1 ⟨rfl, hb1⟩
    go_wp2
    exact ⟨_, rfl, rfl, hb1, trivial⟩
  · intro vs wq hB hm
    have h35 : vs 35 = .bool true := meets_get hm 19 rfl rfl rfl rfl
    have h32 : vs 32 = .bool false := meets_get hm 16 rfl rfl rfl rfl
    clear hm
    simp only [fill, h35, h32]
    go_wp2
    exact ⟨_, rfl, rfl, Below.refl _ _, trivial⟩
  · intro vs wq hB hm
    have h32 : vs 32 = .bool false := meets_get hm 16 rfl rfl rfl rfl
    have h36 : vs 36 = .bool false := meets_get hm 20 rfl rfl rfl rfl
    clear hm
    simp only [fill, h32, h36]
    go_wp2
    exact ⟨_, rfl, rfl, Below.refl _ _, trivial⟩
  · intro vs wq hB hm
    have h37 : vs 37 = .bool false := meets_get hm 21 rfl rfl rfl rfl
    clear hm
    simp only [fill, h37]
    go_wp2
    exact ⟨_, rfl, rfl, Below.refl _ _, trivial⟩
  · intro vs wq hB hm
    have hl : look wq (b7) = some (.cells (VA (vmax f g)) 26 (0, 0)) := by rw [look_below hB (by first | omega | (simp only [World.size_alloc]; omega) | exact look_lt (by assumption) | (simp only [World.size_alloc, World.size_setCell]; omega) | (simp; omega))]; first | assumption | go_simp
    have h38 : vs 38 = .bool false := meets_get hm 22 rfl rfl rfl rfl
    clear hm
    simp only [fill, h38]
    go_wp2
    exact ⟨_, rfl, rfl, Below.refl _ _, trivial⟩
  · intro vs wq hB hm
    have hl : look wq (w.heap.size + 1) = some (.cells (VA g) 26 (0, 0)) := by rw [look_below hB (by first | omega | (simp only [World.size_alloc]; omega) | exact look_lt (by assumption) | (simp only [World.size_alloc, World.size_setCell]; omega) | (simp; omega))]; first | assumption | go_simp
    have h38 : vs 38 = .bool false := meets_get hm 22 rfl rfl rfl rfl
    clear hm
    simp only [fill, h38]
    go_wp2
    exact ⟨_, rfl, rfl, Below.refl _ _, trivial⟩
  · intro vs wq hB hm
    have hl : look wq (w.heap.size) = some (.cells (VA f) 26 (0, 0)) := by rw [look_below hB (by first | omega | (simp only [World.size_alloc]; omega) | exact look_lt (by assumption) | (simp only [World.size_alloc, World.size_setCell]; omega) | (simp; omega))]; first | assumption | go_simp
    have h38 : vs 38 = .bool false := meets_get hm 22 rfl rfl rfl rfl
    clear hm
    simp only [fill, h38]
    go_wp2
    exact ⟨_, rfl, rfl, Below.refl _ _, trivial⟩
  · intro vs wq hB hm
    have h40 : vs 40 = .agg (VA g) := meets_get hm 24 rfl rfl rfl rfl
    have h41 : vs 41 = .agg (VA f) := meets_get hm 25 rfl rfl rfl rfl
    have h38 : vs 38 = .bool false := meets_get hm 22 rfl rfl rfl rfl
    clear hm
    simp only [fill, h40, h41, h38]
    go_wp2
    exact ⟨_, rfl, ⟨_, rfl, look_alloc_at _ _ _ rfl⟩, (Below.refl _ _).alloc (Nat.le_refl _) _, fun b hb => by cases hb; exact ⟨Nat.le_refl _, by simp⟩⟩
  · intro vs wq hB hm
    obtain ⟨b42, h42, l42⟩ := meets_get hm 26 rfl rfl rfl rfl
    have h38 : vs 38 = .bool false := meets_get hm 22 rfl rfl rfl rfl
    clear hm
    simp only [fill, h38, h42]
    go_wp2_with fail
    refine (join_two g f b42 _ l42).mono ?_
    rintro e w1 ⟨rfl, hb1⟩
    go_wp2
    exact ⟨_, rfl, rfl, hb1, trivial⟩
  · intro vs wq hB hm
    have h39 : vs 39 = .agg (VA (vmax f g)) := meets_get hm 23 rfl rfl rfl rfl
    have h43 : vs 43 = .agg (VA (vmax g f)) := meets_get hm 27 rfl rfl rfl rfl
    have h38 : vs 38 = .bool false := meets_get hm 22 rfl rfl rfl rfl
    clear hm
    simp only [fill, h39, h43, h38]
    go_wp2
    exact ⟨_, rfl, rfl, Below.refl _ _, trivial⟩
  · intro vs wq hB hm
    have h38 : vs 38 = .bool false := meets_get hm 22 rfl rfl rfl rfl
    have h44 : vs 44 = .bool false := meets_get hm 28 rfl rfl rfl rfl
    clear hm
    simp only [fill, h38, h44]
    go_wp2
    exact ⟨_, rfl, rfl, Below.refl _ _, trivial⟩
  · intro vs wq hB hm
    have h45 : vs 45 = .bool false := meets_get hm 29 rfl rfl rfl rfl
    clear hm
    simp only [fill, h45]
    go_wp2
    exact ⟨_, rfl, rfl, Below.refl _ _, trivial⟩
  · intro vs wq hB hm
    have hl : look wq (b8) = some (.cells (VA (vmin f g)) 26 (0, 0)) := by rw [look_below hB (by first | omega | (simp only [World.size_alloc]; omega) | exact look_lt (by assumption) | (simp only [World.size_alloc, World.size_setCell]; omega) | (simp; omega))]; first | assumption | go_simp
    have h46 : vs 46 = .bool false := meets_get hm 30 rfl rfl rfl rfl
    clear hm
    simp only [fill, h46]
    go_wp2
    exact ⟨_, rfl, rfl, Below.refl _ _, trivial⟩
  · intro vs wq hB hm
    have hl : look wq (w.heap.size + 1) = some (.cells (VA g) 26 (0, 0)) := by rw [look_below hB (by first | omega | (simp only [World.size_alloc]; omega) | exact look_lt (by assumption) | (simp only [World.size_alloc, World.size_setCell]; omega) | (simp; omega))]; first | assumption | go_simp
    have h46 : vs 46 = .bool false := meets_get hm 30 rfl rfl rfl rfl
    clear hm
    simp only [fill, h46]
    go_wp2
    exact ⟨_, rfl, rfl, Below.refl _ _, trivial⟩
  · intro vs wq hB hm
    have hl : look wq (w.heap.size) = some (.cells (VA f) 26 (0, 0)) := by rw [look_below hB (by first | omega | (simp only [World.size_alloc]; omega) | exact look_lt (by assumption) | (simp only [World.size_alloc, World.size_setCell]; omega) | (simp; omega))]; first | assumption | go_simp
    have h46 : vs 46 = .bool false := meets_get hm 30 rfl rfl rfl rfl
    clear hm
    simp only [fill, h46]
    go_wp2
    exact ⟨_, rfl, rfl, Below.refl _ _, trivial⟩
  · intro vs wq hB hm
    have h48 : vs 48 = .agg (VA g) := meets_get hm 32 rfl rfl rfl rfl
    have h49 : vs 49 = .agg (VA f) := meets_get hm 33 rfl rfl rfl rfl
    have h46 : vs 46 = .bool false := meets_get hm 30 rfl rfl rfl rfl
    clear hm
    simp only [fill, h48, h49, h46]
    go_wp2_with fail
    refine (meet_any g f _).mono ?_
    rintro e w1 ⟨rfl, hb1⟩
    go_wp2
    exact ⟨_, rfl, rfl, hb1, trivial⟩
  · intro vs wq hB hm
    have h47 : vs 47 = .agg (VA (vmin f g)) := meets_get hm 31 rfl rfl rfl rfl
    have h50 : vs 50 = .agg (VA (vmin g f)) := meets_get hm 34 rfl rfl rfl rfl
    have h46 : vs 46 = .bool false := meets_get hm 30 rfl rfl rfl rfl
    clear hm
    simp only [fill, h47, h50, h46]
    go_wp2
    exact ⟨_, rfl, rfl, Below.refl _ _, trivial⟩
  · intro vs wq hB hm
    have h46 : vs 46 = .bool false := meets_get hm 30 rfl rfl rfl rfl
    have h51 : vs 51 = .bool false := meets_get hm 35 rfl rfl rfl rfl
    clear hm
    simp only [fill, h46, h51]
    go_wp2
    exact ⟨_, rfl, rfl, Below.refl _ _, trivial⟩
  intro vs wq hB hm hne hlo
  have h16 : vs 16 = .agg (VA (vmax f g)) := hm 0 _ _ _ rfl rfl rfl
  have h17 : vs 17 = .agg (VA f) := hm 1 _ _ _ rfl rfl rfl
  have h18 : vs 18 = .bool true := hm 2 _ _ _ rfl rfl rfl
  have h19 : vs 19 = .bool false := hm 3 _ _ _ rfl rfl rfl
  have h20 : vs 20 = .bool false := hm 4 _ _ _ rfl rfl rfl
  have h21 : vs 21 = .agg (VA (vmax f g)) := hm 5 _ _ _ rfl rfl rfl
  have h22 : vs 22 = .agg (VA g) := hm 6 _ _ _ rfl rfl rfl
  have h23 : vs 23 = .bool true := hm 7 _ _ _ rfl rfl rfl
  have h24 : vs 24 = .bool false := hm 8 _ _ _ rfl rfl rfl
  have h25 : vs 25 = .bool false := hm 9 _ _ _ rfl rfl rfl
  have h26 : vs 26 = .bool false := hm 10 _ _ _ rfl rfl rfl
  have h27 : vs 27 = .agg (VA f) := hm 11 _ _ _ rfl rfl rfl
  have h28 : vs 28 = .agg (VA (vmin f g)) := hm 12 _ _ _ rfl rfl rfl
  have h29 : vs 29 = .bool true := hm 13 _ _ _ rfl rfl rfl
  have h30 : vs 30 = .bool false := hm 14 _ _ _ rfl rfl rfl
  have h31 : vs 31 = .bool false := hm 15 _ _ _ rfl rfl rfl
  have h32 : vs 32 = .bool false := hm 16 _ _ _ rfl rfl rfl
  have h33 : vs 33 = .agg (VA g) := hm 17 _ _ _ rfl rfl rfl
  have h34 : vs 34 = .agg (VA (vmin f g)) := hm 18 _ _ _ rfl rfl rfl
  have h35 : vs 35 = .bool true := hm 19 _ _ _ rfl rfl rfl
  have h36 : vs 36 = .bool false := hm 20 _ _ _ rfl rfl rfl
  have h37 : vs 37 = .bool false := hm 21 _ _ _ rfl rfl rfl
  have h38 : vs 38 = .bool false := hm 22 _ _ _ rfl rfl rfl
  have h39 : vs 39 = .agg (VA (vmax f g)) := hm 23 _ _ _ rfl rfl rfl
  have h40 : vs 40 = .agg (VA g) := hm 24 _ _ _ rfl rfl rfl
  have h41 : vs 41 = .agg (VA f) := hm 25 _ _ _ rfl rfl rfl
  obtain ⟨b42, h42, l42⟩ := hm 26 _ _ _ rfl rfl rfl
  have h43 : vs 43 = .agg (VA (vmax g f)) := hm 27 _ _ _ rfl rfl rfl
  have h44 : vs 44 = .bool false := hm 28 _ _ _ rfl rfl rfl
  have h45 : vs 45 = .bool false := hm 29 _ _ _ rfl rfl rfl
  have h46 : vs 46 = .bool false := hm 30 _ _ _ rfl rfl rfl
  have h47 : vs 47 = .agg (VA (vmin f g)) := hm 31 _ _ _ rfl rfl rfl
  have h48 : vs 48 = .agg (VA g) := hm 32 _ _ _ rfl rfl rfl
  have h49 : vs 49 = .agg (VA f) := hm 33 _ _ _ rfl rfl rfl
  have h50 : vs 50 = .agg (VA (vmin g f)) := hm 34 _ _ _ rfl rfl rfl
  have h51 : vs 51 = .bool false := hm 35 _ _ _ rfl rfl rfl
  have h52 : vs 52 = .bool false := hm 36 _ _ _ rfl rfl rfl
  have lo42 : _ ≤ b42 ∧ b42 < wq.heap.size := hlo 26 _ _ rfl rfl rfl b42 (by rw [h42]; rfl)
  clear hne hlo
  simp only [fill, List.filterMap, List.take, List.drop, List.setIfInBounds_toArray, List.set_cons_zero, List.set_cons_succ, h16, h17, h18, h19, h20, h21, h22, h23, h24, h25, h26, h27, h28, h29, h30, h31, h32, h33, h34, h35, h36, h37, h38, h39, h40, h41, h42, h43, h44, h45, h46, h47, h48, h49, h50, h51, h52]
  clear hm h16 h17 h18 h19 h20 h21 h22 h23 h24 h25 h26 h27 h28 h29 h30 h31 h32 h33 h34 h35 h36 h37 h38 h39 h40 h41 h42 h43 h44 h45 h46 h47 h48 h49 h50 h51 h52
  replace lx3 : look wq (w.heap.size) = some (.cells (VA f) 26 (0, 0)) := by rw [look_below hB (by first | omega | (simp only [World.size_alloc]; omega) | exact look_lt (by assumption) | (simp only [World.size_alloc, World.size_setCell]; omega) | (simp; omega))]; first | assumption | go_simp
  replace cx3 : ∀ i, i < 12 → World.cell? wq ⟨w.heap.size, i, none⟩ = some (.int .u32 (((f) i : Nat) : Int)) := fun i hi => by rw [look_cell lx3, VA_get _ _ hi]
  replace fx3 := look_frozen lx3
  replace sx3 := look_lt lx3
  replace lx4 : look wq (w.heap.size + 1) = some (.cells (VA g) 26 (0, 0)) := by rw [look_below hB (by first | omega | (simp only [World.size_alloc]; omega) | exact look_lt (by assumption) | (simp only [World.size_alloc, World.size_setCell]; omega) | (simp; omega))]; first | assumption | go_simp
  replace cx4 : ∀ i, i < 12 → World.cell? wq ⟨w.heap.size + 1, i, none⟩ = some (.int .u32 (((g) i : Nat) : Int)) := fun i hi => by rw [look_cell lx4, VA_get _ _ hi]
  replace fx4 := look_frozen lx4
  replace sx4 := look_lt lx4
  replace lx5 : look wq (w.heap.size + 1 + 1) = some (.cells (VA h) 26 (0, 0)) := by rw [look_below hB (by first | omega | (simp only [World.size_alloc]; omega) | exact look_lt (by assumption) | (simp only [World.size_alloc, World.size_setCell]; omega) | (simp; omega))]; first | assumption | go_simp
  replace cx5 : ∀ i, i < 12 → World.cell? wq ⟨w.heap.size + 1 + 1, i, none⟩ = some (.int .u32 (((h) i : Nat) : Int)) := fun i hi => by rw [look_cell lx5, VA_get _ _ hi]
  replace fx5 := look_frozen lx5
  replace sx5 := look_lt lx5
  replace lx7 : look wq (b7) = some (.cells (VA (vmax f g)) 26 (0, 0)) := by rw [look_below hB (by first | omega | (simp only [World.size_alloc]; omega) | exact look_lt (by assumption) | (simp only [World.size_alloc, World.size_setCell]; omega) | (simp; omega))]; first | assumption | go_simp
  replace cx7 : ∀ i, i < 12 → World.cell? wq ⟨b7, i, none⟩ = some (.int .u32 ((((vmax f g)) i : Nat) : Int)) := fun i hi => by rw [look_cell lx7, VA_get _ _ hi]
  replace fx7 := look_frozen lx7
  replace sx7 := look_lt lx7
  replace lx8 : look wq (b8) = some (.cells (VA (vmin f g)) 26 (0, 0)) := by rw [look_below hB (by first | omega | (simp only [World.size_alloc]; omega) | exact look_lt (by assumption) | (simp only [World.size_alloc, World.size_setCell]; omega) | (simp; omega))]; first | assumption | go_simp
  replace cx8 : ∀ i, i < 12 → World.cell? wq ⟨b8, i, none⟩ = some (.int .u32 ((((vmin f g)) i : Nat) : Int)) := fun i hi => by rw [look_cell lx8, VA_get _ _ hi]
  replace fx8 := look_frozen lx8
  replace sx8 := look_lt lx8
  have hB3 := belT hB2 hB
  clear k3 k4 k5 k7 k8 hB2 hB
  cases p1 : covB h f
  · have P1 := Lib.hid p1
    clear p1
    cases q1 : covB f h
    · have Q1 := Lib.hid q1
      clear q1
      go_wp2_with fail
      refine ((P1.out ▸ covers_any h f _)).mono ?_
      rintro e w1 ⟨rfl, hb1⟩
      replace lx3 : look w1 (w.heap.size) = some (.cells (VA f) 26 (0, 0)) := by rw [look_below hb1 (by omega)]; first | assumption | go_simp
      replace cx3 : ∀ i, i < 12 → World.cell? w1 ⟨w.heap.size, i, none⟩ = some (.int .u32 (((f) i : Nat) : Int)) := fun i hi => by rw [look_cell lx3, VA_get _ _ hi]
      replace fx3 := look_frozen lx3
      replace sx3 := look_lt lx3
      replace lx4 : look w1 (w.heap.size + 1) = some (.cells (VA g) 26 (0, 0)) := by rw [look_below hb1 (by omega)]; first | assumption | go_simp
      replace cx4 : ∀ i, i < 12 → World.cell? w1 ⟨w.heap.size + 1, i, none⟩ = some (.int .u32 (((g) i : Nat) : Int)) := fun i hi => by rw [look_cell lx4, VA_get _ _ hi]
      replace fx4 := look_frozen lx4
      replace sx4 := look_lt lx4
      replace lx5 : look w1 (w.heap.size + 1 + 1) = some (.cells (VA h) 26 (0, 0)) := by rw [look_below hb1 (by omega)]; first | assumption | go_simp
      replace cx5 : ∀ i, i < 12 → World.cell? w1 ⟨w.heap.size + 1 + 1, i, none⟩ = some (.int .u32 (((h) i : Nat) : Int)) := fun i hi => by rw [look_cell lx5, VA_get _ _ hi]
      replace fx5 := look_frozen lx5
      replace sx5 := look_lt lx5
      replace lx7 : look w1 (b7) = some (.cells (VA (vmax f g)) 26 (0, 0)) := by rw [look_below hb1 (by omega)]; first | assumption | go_simp
      replace cx7 : ∀ i, i < 12 → World.cell? w1 ⟨b7, i, none⟩ = some (.int .u32 ((((vmax f g)) i : Nat) : Int)) := fun i hi => by rw [look_cell lx7, VA_get _ _ hi]
      replace fx7 := look_frozen lx7
      replace sx7 := look_lt lx7
      replace lx8 : look w1 (b8) = some (.cells (VA (vmin f g)) 26 (0, 0)) := by rw [look_below hb1 (by omega)]; first | assumption | go_simp
      replace cx8 : ∀ i, i < 12 → World.cell? w1 ⟨b8, i, none⟩ = some (.int .u32 ((((vmin f g)) i : Nat) : Int)) := fun i hi => by rw [look_cell lx8, VA_get _ _ hi]
      replace fx8 := look_frozen lx8
      replace sx8 := look_lt lx8
      replace hB3 := belT hB3 hb1
      clear hb1
      go_wp2_with fail
      refine ((Q1.out ▸ covers_any f h _)).mono ?_
      rintro e w1 ⟨rfl, hb1⟩
      replace lx3 : look w1 (w.heap.size) = some (.cells (VA f) 26 (0, 0)) := by rw [look_below hb1 (by omega)]; first | assumption | go_simp
      replace cx3 : ∀ i, i < 12 → World.cell? w1 ⟨w.heap.size, i, none⟩ = some (.int .u32 (((f) i : Nat) : Int)) := fun i hi => by rw [look_cell lx3, VA_get _ _ hi]
      replace fx3 := look_frozen lx3
      replace sx3 := look_lt lx3
      replace lx4 : look w1 (w.heap.size + 1) = some (.cells (VA g) 26 (0, 0)) := by rw [look_below hb1 (by omega)]; first | assumption | go_simp
      replace cx4 : ∀ i, i < 12 → World.cell? w1 ⟨w.heap.size + 1, i, none⟩ = some (.int .u32 (((g) i : Nat) : Int)) := fun i hi => by rw [look_cell lx4, VA_get _ _ hi]
      replace fx4 := look_frozen lx4
      replace sx4 := look_lt lx4
      replace lx5 : look w1 (w.heap.size + 1 + 1) = some (.cells (VA h) 26 (0, 0)) := by rw [look_below hb1 (by omega)]; first | assumption | go_simp
      replace cx5 : ∀ i, i < 12 → World.cell? w1 ⟨w.heap.size + 1 + 1, i, none⟩ = some (.int .u32 (((h) i : Nat) : Int)) := fun i hi => by rw [look_cell lx5, VA_get _ _ hi]
      replace fx5 := look_frozen lx5
      replace sx5 := look_lt lx5
      replace lx7 : look w1 (b7) = some (.cells (VA (vmax f g)) 26 (0, 0)) := by rw [look_below hb1 (by omega)]; first | assumption | go_simp
      replace cx7 : ∀ i, i < 12 → World.cell? w1 ⟨b7, i, none⟩ = some (.int .u32 ((((vmax f g)) i : Nat) : Int)) := fun i hi => by rw [look_cell lx7, VA_get _ _ hi]
      replace fx7 := look_frozen lx7
      replace sx7 := look_lt lx7
      replace lx8 : look w1 (b8) = some (.cells (VA (vmin f g)) 26 (0, 0)) := by rw [look_below hb1 (by omega)]; first | assumption | go_simp
      replace cx8 : ∀ i, i < 12 → World.cell? w1 ⟨b8, i, none⟩ = some (.int .u32 ((((vmin f g)) i : Nat) : Int)) := fun i hi => by rw [look_cell lx8, VA_get _ _ hi]
      replace fx8 := look_frozen lx8
      replace sx8 := look_lt lx8
      replace hB3 := belT hB3 hb1
      clear hb1
      have hB4 := hB3
      clear hB3
      go_wp2_with fail
      refine wp_region_words mixed 30 ([] :: [83] :: [84] :: [84] :: [85, 86, 84] :: [87, 84] :: [84] :: [84] :: [84] :: [90, 91, 84] :: [92, 84] :: [89, 93, 84] :: [94, 84] :: [88, 95, 84] :: [84, 96] :: [97] :: [98] :: [98] :: [99, 100, 98] :: [101, 98] :: [98] :: [102, 103, 98] :: [98, 104] :: [105] :: [106] :: [106] :: [107, 108, 106] :: [106] :: [109, 110, 106] :: [106, 111] :: []) (isV (.bool true) :: isV (.bool true) :: isV (.agg (VA (vmax f g))) :: isV (.agg (VA h)) :: isRow 26 2 (VA (vmax f g) ++ VA h) :: isV (.agg (VA (vmax (vmax f g) h))) :: isV (.agg (VA f)) :: isV (.agg (VA g)) :: isV (.agg (VA h)) :: isRow 26 2 (VA g ++ VA h) :: isV (.agg (VA (vmax g h))) :: isRow 26 2 (VA f ++ VA (vmax g h)) :: isV (.agg (VA (vmax f (vmax g h)))) :: isV (.bool true) :: isV (.bool true) :: isV (.bool true) :: isV (.agg (VA f)) :: isV (.agg (VA (vmin f g))) :: isRow 26 2 (VA f ++ VA (vmin f g)) :: isV (.agg (VA (vmax f (vmin f g)))) :: isV (.agg (VA f)) :: isV (.bool true) :: isV (.bool true) :: isV (.bool true) :: isV (.agg (VA f)) :: isV (.agg (VA (vmax f g))) :: isV (.agg (VA (vmin f (vmax f g)))) :: isV (.agg (VA f)) :: isV (.bool true) :: isV (.bool true) :: []) (by decide) (by kernel_rfl)
        ⟨stab_isV _, stab_isV _, stab_isV _, stab_isV _, stab_isRow _ _ _, stab_isV _, stab_isV _, stab_isV _, stab_isV _, stab_isRow _ _ _, stab_isV _, stab_isRow _ _ _, stab_isV _, stab_isV _, stab_isV _, stab_isV _, stab_isV _, stab_isV _, stab_isRow _ _ _, stab_isV _, stab_isV _, stab_isV _, stab_isV _, stab_isV _, stab_isV _, stab_isV _, stab_isV _, stab_isV _, stab_isV _, stab_isV _, trivial⟩ ⟨?_, ?_, ?_, ?_, ?_, ?_, ?_, ?_, ?_, ?_, ?_, ?_, ?_, ?_, ?_, ?_, ?_, ?_, ?_, ?_, ?_, ?_, ?_, ?_, ?_, ?_, ?_, ?_, ?_, ?_, trivial⟩ ?_
      · intro vs wq hB hm
        clear hm
        simp only [fill]
        go_wp2_with fail
        refine (alive04 _).mono ?_
        rintro e w1 ⟨rfl, hb1⟩
        go_wp2
        exact ⟨_, rfl, rfl, hb1, trivial⟩
      · intro vs wq hB hm
        have h83 : vs 83 = .bool true := meets_get hm 0 rfl rfl rfl rfl
        clear hm
        simp only [fill, h83]
        go_wp2
        exact ⟨_, rfl, rfl, Below.refl _ _, trivial⟩
      · intro vs wq hB hm
        have hl : look wq (b7) = some (.cells (VA (vmax f g)) 26 (0, 0)) := by rw [look_below hB (by omega)]; first | assumption | go_simp
        have h84 : vs 84 = .bool true := meets_get hm 1 rfl rfl rfl rfl
        clear hm
        simp only [fill, h84]
        go_wp2
        exact ⟨_, rfl, rfl, Below.refl _ _, trivial⟩
      · intro vs wq hB hm
        have hl : look wq (w.heap.size + 1 + 1) = some (.cells (VA h) 26 (0, 0)) := by rw [look_below hB (by omega)]; first | assumption | go_simp
        have h84 : vs 84 = .bool true := meets_get hm 1 rfl rfl rfl rfl
        clear hm
        simp only [fill, h84]
        go_wp2
        exact ⟨_, rfl, rfl, Below.refl _ _, trivial⟩
      · intro vs wq hB hm
        have h85 : vs 85 = .agg (VA (vmax f g)) := meets_get hm 2 rfl rfl rfl rfl
        have h86 : vs 86 = .agg (VA h) := meets_get hm 3 rfl rfl rfl rfl
        have h84 : vs 84 = .bool true := meets_get hm 1 rfl rfl rfl rfl
        clear hm
        simp only [fill, h85, h86, h84]
        go_wp2
        exact ⟨_, rfl, ⟨_, rfl, look_alloc_at _ _ _ rfl⟩, (Below.refl _ _).alloc (Nat.le_refl _) _, fun b hb => by cases hb; exact ⟨Nat.le_refl _, by simp⟩⟩
      · intro vs wq hB hm
        obtain ⟨b87, h87, l87⟩ := meets_get hm 4 rfl rfl rfl rfl
        have h84 : vs 84 = .bool true := meets_get hm 1 rfl rfl rfl rfl
        clear hm
        simp only [fill, h84, h87]
        go_wp2_with fail
        refine (join_two (vmax f g) h b87 _ l87).mono ?_
        rintro e w1 ⟨rfl, hb1⟩
        go_wp2
        exact ⟨_, rfl, rfl, hb1, trivial⟩
      · intro vs wq hB hm
        have hl : look wq (w.heap.size) = some (.cells (VA f) 26 (0, 0)) := by rw [look_below hB (by omega)]; first | assumption | go_simp
        have h84 : vs 84 = .bool true := meets_get hm 1 rfl rfl rfl rfl
        clear hm
        simp only [fill, h84]
        go_wp2
        exact ⟨_, rfl, rfl, Below.refl _ _, trivial⟩
      · intro vs wq hB hm
        have hl : look wq (w.heap.size + 1) = some (.cells (VA g) 26 (0, 0)) := by rw [look_below hB (by omega)]; first | assumption | go_simp
        have h84 : vs 84 = .bool true := meets_get hm 1 rfl rfl rfl rfl
        clear hm
        simp only [fill, h84]
        go_wp2
        exact ⟨_, rfl, rfl, Below.refl _ _, trivial⟩
      · intro vs wq hB hm
        have hl : look wq (w.heap.size + 1 + 1) = some (.cells (VA h) 26 (0, 0)) := by rw [look_below hB (by omega)]; first | assumption | go_simp
        have h84 : vs 84 = .bool true := meets_get hm 1 rfl rfl rfl rfl
        clear hm
        simp only [fill, h84]
        go_wp2
        exact ⟨_, rfl, rfl, Below.refl _ _, trivial⟩
      · intro vs wq hB hm
        have h90 : vs 90 = .agg (VA g) := meets_get hm 7 rfl rfl rfl rfl
        have h91 : vs 91 = .agg (VA h) := meets_get hm 8 rfl rfl rfl rfl
        have h84 : vs 84 = .bool true := meets_get hm 1 rfl rfl rfl rfl
        clear hm
        simp only [fill, h90, h91, h84]
        go_wp2
        exact ⟨_, rfl, ⟨_, rfl, look_alloc_at _ _ _ rfl⟩, (Below.refl _ _).alloc (Nat.le_refl _) _, fun b hb => by cases hb; exact ⟨Nat.le_refl _, by simp⟩⟩
      · intro vs wq hB hm
        obtain ⟨b92, h92, l92⟩ := meets_get hm 9 rfl rfl rfl rfl
        have h84 : vs 84 = .bool true := meets_get hm 1 rfl rfl rfl rfl
        clear hm
        simp only [fill, h84, h92]
        go_wp2_with fail
        refine (join_two g h b92 _ l92).mono ?_
        rintro e w1 ⟨rfl, hb1⟩
        go_wp2
        exact ⟨_, rfl, rfl, hb1, trivial⟩
      · intro vs wq hB hm
        have h89 : vs 89 = .agg (VA f) := meets_get hm 6 rfl rfl rfl rfl
        have h93 : vs 93 = .agg (VA (vmax g h)) := meets_get hm 10 rfl rfl rfl rfl
        have h84 : vs 84 = .bool true := meets_get hm 1 rfl rfl rfl rfl
        clear hm
        simp only [fill, h89, h93, h84]
        go_wp2
        exact ⟨_, rfl, ⟨_, rfl, look_alloc_at _ _ _ rfl⟩, (Below.refl _ _).alloc (Nat.le_refl _) _, fun b hb => by cases hb; exact ⟨Nat.le_refl _, by simp⟩⟩
      · intro vs wq hB hm
        obtain ⟨b94, h94, l94⟩ := meets_get hm 11 rfl rfl rfl rfl
        have h84 : vs 84 = .bool true := meets_get hm 1 rfl rfl rfl rfl
        clear hm
        simp only [fill, h84, h94]
        go_wp2_with fail
        refine (join_two f (vmax g h) b94 _ l94).mono ?_
        rintro e w1 ⟨rfl, hb1⟩
        go_wp2
        exact ⟨_, rfl, rfl, hb1, trivial⟩
      · intro vs wq hB hm
        have h88 : vs 88 = .agg (VA (vmax (vmax f g) h)) := meets_get hm 5 rfl rfl rfl rfl
        have h95 : vs 95 = .agg (VA (vmax f (vmax g h))) := meets_get hm 12 rfl rfl rfl rfl
        have h84 : vs 84 = .bool true := meets_get hm 1 rfl rfl rfl rfl
        clear hm
        simp only [fill, h88, h95, h84]
        go_wp2
        exact ⟨_, rfl, rfl, Below.refl _ _, trivial⟩
      · intro vs wq hB hm
        have h84 : vs 84 = .bool true := meets_get hm 1 rfl rfl rfl rfl
        have h96 : vs 96 = .bool true := meets_get hm 13 rfl rfl rfl rfl
        clear hm
        simp only [fill, h84, h96]
        go_wp2
        exact ⟨_, rfl, rfl, Below.refl _ _, trivial⟩
      · intro vs wq hB hm
        have h97 : vs 97 = .bool true := meets_get hm 14 rfl rfl rfl rfl
        clear hm
        simp only [fill, h97]
        go_wp2
        exact ⟨_, rfl, rfl, Below.refl _ _, trivial⟩
      · intro vs wq hB hm
        have hl : look wq (w.heap.size) = some (.cells (VA f) 26 (0, 0)) := by rw [look_below hB (by omega)]; first | assumption | go_simp
        have h98 : vs 98 = .bool true := meets_get hm 15 rfl rfl rfl rfl
        clear hm
        simp only [fill, h98]
        go_wp2
        exact ⟨_, rfl, rfl, Below.refl _ _, trivial⟩
      · intro vs wq hB hm
        have hl : look wq (b8) = some (.cells (VA (vmin f g)) 26 (0, 0)) := by rw [look_below hB (by omega)]; first | assumption | go_simp
        have h98 : vs 98 = .bool true := meets_get hm 15 rfl rfl rfl rfl
        clear hm
        simp only [fill, h98]
        go_wp2
        exact ⟨_, rfl, rfl, Below.refl _ _, trivial⟩
      · intro vs wq hB hm
        have h99 : vs 99 = .agg (VA f) := meets_get hm 16 rfl rfl rfl rfl
        have h100 : vs 100 = .agg (VA (vmin f g)) := meets_get hm 17 rfl rfl rfl rfl
        have h98 : vs 98 = .bool true := meets_get hm 15 rfl rfl rfl rfl
        clear hm
        simp only [fill, h99, h100, h98]
        go_wp2
        exact ⟨_, rfl, ⟨_, rfl, look_alloc_at _ _ _ rfl⟩, (Below.refl _ _).alloc (Nat.le_refl _) _, fun b hb => by cases hb; exact ⟨Nat.le_refl _, by simp⟩⟩
      · intro vs wq hB hm
        obtain ⟨b101, h101, l101⟩ := meets_get hm 18 rfl rfl rfl rfl
        have h98 : vs 98 = .bool true := meets_get hm 15 rfl rfl rfl rfl
        clear hm
        simp only [fill, h98, h101]
        go_wp2_with fail
        refine (join_two f (vmin f g) b101 _ l101).mono ?_
        rintro e w1 ⟨rfl, hb1⟩
        go_wp2
        exact ⟨_, rfl, rfl, hb1, trivial⟩
      · intro vs wq hB hm
        have hl : look wq (w.heap.size) = some (.cells (VA f) 26 (0, 0)) := by rw [look_below hB (by omega)]; first | assumption | go_simp
        have h98 : vs 98 = .bool true := meets_get hm 15 rfl rfl rfl rfl
        clear hm
        simp only [fill, h98]
        go_wp2
        exact ⟨_, rfl, rfl, Below.refl _ _, trivial⟩
      · intro vs wq hB hm
        have h102 : vs 102 = .agg (VA (vmax f (vmin f g))) := meets_get hm 19 rfl rfl rfl rfl
        have h103 : vs 103 = .agg (VA f) := meets_get hm 20 rfl rfl rfl rfl
        have h98 : vs 98 = .bool true := meets_get hm 15 rfl rfl rfl rfl
        clear hm
        simp only [fill, h102, h103, h98]
        go_wp2
        exact ⟨_, rfl, rfl, Below.refl _ _, trivial⟩
      · intro vs wq hB hm
        have h98 : vs 98 = .bool true := meets_get hm 15 rfl rfl rfl rfl
        have h104 : vs 104 = .bool true := meets_get hm 21 rfl rfl rfl rfl
        clear hm
        simp only [fill, h98, h104]
        go_wp2
        exact ⟨_, rfl, rfl, Below.refl _ _, trivial⟩
      · intro vs wq hB hm
        have h105 : vs 105 = .bool true := meets_get hm 22 rfl rfl rfl rfl
        clear hm
        simp only [fill, h105]
        go_wp2
        exact ⟨_, rfl, rfl, Below.refl _ _, trivial⟩
      · intro vs wq hB hm
        have hl : look wq (w.heap.size) = some (.cells (VA f) 26 (0, 0)) := by rw [look_below hB (by omega)]; first | assumption | go_simp
        have h106 : vs 106 = .bool true := meets_get hm 23 rfl rfl rfl rfl
        clear hm
        simp only [fill, h106]
        go_wp2
        exact ⟨_, rfl, rfl, Below.refl _ _, trivial⟩
      · intro vs wq hB hm
        have hl : look wq (b7) = some (.cells (VA (vmax f g)) 26 (0, 0)) := by rw [look_below hB (by omega)]; first | assumption | go_simp
        have h106 : vs 106 = .bool true := meets_get hm 23 rfl rfl rfl rfl
        clear hm
        simp only [fill, h106]
        go_wp2
        exact ⟨_, rfl, rfl, Below.refl _ _, trivial⟩
      · intro vs wq hB hm
        have h107 : vs 107 = .agg (VA f) := meets_get hm 24 rfl rfl rfl rfl
        have h108 : vs 108 = .agg (VA (vmax f g)) := meets_get hm 25 rfl rfl rfl rfl
        have h106 : vs 106 = .bool true := meets_get hm 23 rfl rfl rfl rfl
        clear hm
        simp only [fill, h107, h108, h106]
        go_wp2_with fail
        refine (meet_any f (vmax f g) _).mono ?_
        rintro e w1 ⟨rfl, hb1⟩
        go_wp2
        exact ⟨_, rfl, rfl, hb1, trivial⟩
      · intro vs wq hB hm
        have hl : look wq (w.heap.size) = some (.cells (VA f) 26 (0, 0)) := by rw [look_below hB (by omega)]; first | assumption | go_simp
        have h106 : vs 106 = .bool true := meets_get hm 23 rfl rfl rfl rfl
        clear hm
        simp only [fill, h106]
        go_wp2
        exact ⟨_, rfl, rfl, Below.refl _ _, trivial⟩
      · intro vs wq hB hm
        have h109 : vs 109 = .agg (VA (vmin f (vmax f g))) := meets_get hm 26 rfl rfl rfl rfl
        have h110 : vs 110 = .agg (VA f) := meets_get hm 27 rfl rfl rfl rfl
        have h106 : vs 106 = .bool true := meets_get hm 23 rfl rfl rfl rfl
        clear hm
        simp only [fill, h109, h110, h106]
        go_wp2
        exact ⟨_, rfl, rfl, Below.refl _ _, trivial⟩
      · intro vs wq hB hm
        have h106 : vs 106 = .bool true := meets_get hm 23 rfl rfl rfl rfl
        have h111 : vs 111 = .bool true := meets_get hm 28 rfl rfl rfl rfl
        clear hm
        simp only [fill, h106, h111]
        go_wp2
        exact ⟨_, rfl, rfl, Below.refl _ _, trivial⟩
      intro vs wq hB hm hne hlo
      have h83 : vs 83 = .bool true := hm 0 _ _ _ rfl rfl rfl
      have h84 : vs 84 = .bool true := hm 1 _ _ _ rfl rfl rfl
      have h85 : vs 85 = .agg (VA (vmax f g)) := hm 2 _ _ _ rfl rfl rfl
      have h86 : vs 86 = .agg (VA h) := hm 3 _ _ _ rfl rfl rfl
      obtain ⟨b87, h87, l87⟩ := hm 4 _ _ _ rfl rfl rfl
      have h88 : vs 88 = .agg (VA (vmax (vmax f g) h)) := hm 5 _ _ _ rfl rfl rfl
      have h89 : vs 89 = .agg (VA f) := hm 6 _ _ _ rfl rfl rfl
      have h90 : vs 90 = .agg (VA g) := hm 7 _ _ _ rfl rfl rfl
      have h91 : vs 91 = .agg (VA h) := hm 8 _ _ _ rfl rfl rfl
      obtain ⟨b92, h92, l92⟩ := hm 9 _ _ _ rfl rfl rfl
      have h93 : vs 93 = .agg (VA (vmax g h)) := hm 10 _ _ _ rfl rfl rfl
      obtain ⟨b94, h94, l94⟩ := hm 11 _ _ _ rfl rfl rfl
      have h95 : vs 95 = .agg (VA (vmax f (vmax g h))) := hm 12 _ _ _ rfl rfl rfl
      have h96 : vs 96 = .bool true := hm 13 _ _ _ rfl rfl rfl
      have h97 : vs 97 = .bool true := hm 14 _ _ _ rfl rfl rfl
      have h98 : vs 98 = .bool true := hm 15 _ _ _ rfl rfl rfl
      have h99 : vs 99 = .agg (VA f) := hm 16 _ _ _ rfl rfl rfl
      have h100 : vs 100 = .agg (VA (vmin f g)) := hm 17 _ _ _ rfl rfl rfl
      obtain ⟨b101, h101, l101⟩ := hm 18 _ _ _ rfl rfl rfl
      have h102 : vs 102 = .agg (VA (vmax f (vmin f g))) := hm 19 _ _ _ rfl rfl rfl
      have h103 : vs 103 = .agg (VA f) := hm 20 _ _ _ rfl rfl rfl
      have h104 : vs 104 = .bool true := hm 21 _ _ _ rfl rfl rfl
      have h105 : vs 105 = .bool true := hm 22 _ _ _ rfl rfl rfl
      have h106 : vs 106 = .bool true := hm 23 _ _ _ rfl rfl rfl
      have h107 : vs 107 = .agg (VA f) := hm 24 _ _ _ rfl rfl rfl
      have h108 : vs 108 = .agg (VA (vmax f g)) := hm 25 _ _ _ rfl rfl rfl
      have h109 : vs 109 = .agg (VA (vmin f (vmax f g))) := hm 26 _ _ _ rfl rfl rfl
      have h110 : vs 110 = .agg (VA f) := hm 27 _ _ _ rfl rfl rfl
      have h111 : vs 111 = .bool true := hm 28 _ _ _ rfl rfl rfl
      have h112 : vs 112 = .bool true := hm 29 _ _ _ rfl rfl rfl
      have lo87 : _ ≤ b87 ∧ b87 < wq.heap.size := hlo 4 _ _ rfl rfl rfl b87 (by rw [h87]; rfl)
      have lo92 : _ ≤ b92 ∧ b92 < wq.heap.size := hlo 9 _ _ rfl rfl rfl b92 (by rw [h92]; rfl)
      have ne87_92 : b87 ≠ b92 := fun h => hne 4 9 _ _ _ _ (by omega) rfl rfl rfl rfl rfl rfl b87 (by rw [h87]; rfl) (by rw [h92, h]; rfl)
      have lo94 : _ ≤ b94 ∧ b94 < wq.heap.size := hlo 11 _ _ rfl rfl rfl b94 (by rw [h94]; rfl)
      have ne87_94 : b87 ≠ b94 := fun h => hne 4 11 _ _ _ _ (by omega) rfl rfl rfl rfl rfl rfl b87 (by rw [h87]; rfl) (by rw [h94, h]; rfl)
      have ne92_94 : b92 ≠ b94 := fun h => hne 9 11 _ _ _ _ (by omega) rfl rfl rfl rfl rfl rfl b92 (by rw [h92]; rfl) (by rw [h94, h]; rfl)
      have lo101 : _ ≤ b101 ∧ b101 < wq.heap.size := hlo 18 _ _ rfl rfl rfl b101 (by rw [h101]; rfl)
      have ne87_101 : b87 ≠ b101 := fun h => hne 4 18 _ _ _ _ (by omega) rfl rfl rfl rfl rfl rfl b87 (by rw [h87]; rfl) (by rw [h101, h]; rfl)
      have ne92_101 : b92 ≠ b101 := fun h => hne 9 18 _ _ _ _ (by omega) rfl rfl rfl rfl rfl rfl b92 (by rw [h92]; rfl) (by rw [h101, h]; rfl)
      have ne94_101 : b94 ≠ b101 := fun h => hne 11 18 _ _ _ _ (by omega) rfl rfl rfl rfl rfl rfl b94 (by rw [h94]; rfl) (by rw [h101, h]; rfl)
      clear hne hlo
      simp only [fill, List.filterMap, List.take, List.drop, List.setIfInBounds_toArray, List.set_cons_zero, List.set_cons_succ, h83, h84, h85, h86, h87, h88, h89, h90, h91, h92, h93, h94, h95, h96, h97, h98, h99, h100, h101, h102, h103, h104, h105, h106, h107, h108, h109, h110, h111, h112]
      clear hm h83 h84 h85 h86 h87 h88 h89 h90 h91 h92 h93 h94 h95 h96 h97 h98 h99 h100 h101 h102 h103 h104 h105 h106 h107 h108 h109 h110 h111 h112
      go_wp2
      go_ret
      exact ⟨rfl, belT hB4 hB⟩
    · cases q2 : covB g h
      · have Q1 := Lib.hid q1
        have Q2 := Lib.hid q2
        clear q1 q2
        go_wp2_with fail
        refine ((P1.out ▸ covers_any h f _)).mono ?_
        rintro e w1 ⟨rfl, hb1⟩
        replace lx3 : look w1 (w.heap.size) = some (.cells (VA f) 26 (0, 0)) := by rw [look_below hb1 (by omega)]; first | assumption | go_simp
        replace cx3 : ∀ i, i < 12 → World.cell? w1 ⟨w.heap.size, i, none⟩ = some (.int .u32 (((f) i : Nat) : Int)) := fun i hi => by rw [look_cell lx3, VA_get _ _ hi]
        replace fx3 := look_frozen lx3
        replace sx3 := look_lt lx3
        replace lx4 : look w1 (w.heap.size + 1) = some (.cells (VA g) 26 (0, 0)) := by rw [look_below hb1 (by omega)]; first | assumption | go_simp
        replace cx4 : ∀ i, i < 12 → World.cell? w1 ⟨w.heap.size + 1, i, none⟩ = some (.int .u32 (((g) i : Nat) : Int)) := fun i hi => by rw [look_cell lx4, VA_get _ _ hi]
        replace fx4 := look_frozen lx4
        replace sx4 := look_lt lx4
        replace lx5 : look w1 (w.heap.size + 1 + 1) = some (.cells (VA h) 26 (0, 0)) := by rw [look_below hb1 (by omega)]; first | assumption | go_simp
        replace cx5 : ∀ i, i < 12 → World.cell? w1 ⟨w.heap.size + 1 + 1, i, none⟩ = some (.int .u32 (((h) i : Nat) : Int)) := fun i hi => by rw [look_cell lx5, VA_get _ _ hi]
        replace fx5 := look_frozen lx5
        replace sx5 := look_lt lx5
        replace lx7 : look w1 (b7) = some (.cells (VA (vmax f g)) 26 (0, 0)) := by rw [look_below hb1 (by omega)]; first | assumption | go_simp
        replace cx7 : ∀ i, i < 12 → World.cell? w1 ⟨b7, i, none⟩ = some (.int .u32 ((((vmax f g)) i : Nat) : Int)) := fun i hi => by rw [look_cell lx7, VA_get _ _ hi]
        replace fx7 := look_frozen lx7
        replace sx7 := look_lt lx7
        replace lx8 : look w1 (b8) = some (.cells (VA (vmin f g)) 26 (0, 0)) := by rw [look_below hb1 (by omega)]; first | assumption | go_simp
        replace cx8 : ∀ i, i < 12 → World.cell? w1 ⟨b8, i, none⟩ = some (.int .u32 ((((vmin f g)) i : Nat) : Int)) := fun i hi => by rw [look_cell lx8, VA_get _ _ hi]
        replace fx8 := look_frozen lx8
        replace sx8 := look_lt lx8
        replace hB3 := belT hB3 hb1
        clear hb1
        go_wp2_with fail
        refine ((Q1.out ▸ covers_any f h _)).mono ?_
        rintro e w1 ⟨rfl, hb1⟩
        replace lx3 : look w1 (w.heap.size) = some (.cells (VA f) 26 (0, 0)) := by rw [look_below hb1 (by omega)]; first | assumption | go_simp
        replace cx3 : ∀ i, i < 12 → World.cell? w1 ⟨w.heap.size, i, none⟩ = some (.int .u32 (((f) i : Nat) : Int)) := fun i hi => by rw [look_cell lx3, VA_get _ _ hi]
        replace fx3 := look_frozen lx3
        replace sx3 := look_lt lx3
        replace lx4 : look w1 (w.heap.size + 1) = some (.cells (VA g) 26 (0, 0)) := by rw [look_below hb1 (by omega)]; first | assumption | go_simp
        replace cx4 : ∀ i, i < 12 → World.cell? w1 ⟨w.heap.size + 1, i, none⟩ = some (.int .u32 (((g) i : Nat) : Int)) := fun i hi => by rw [look_cell lx4, VA_get _ _ hi]
        replace fx4 := look_frozen lx4
        replace sx4 := look_lt lx4
        replace lx5 : look w1 (w.heap.size + 1 + 1) = some (.cells (VA h) 26 (0, 0)) := by rw [look_below hb1 (by omega)]; first | assumption | go_simp
        replace cx5 : ∀ i, i < 12 → World.cell? w1 ⟨w.heap.size + 1 + 1, i, none⟩ = some (.int .u32 (((h) i : Nat) : Int)) := fun i hi => by rw [look_cell lx5, VA_get _ _ hi]
        replace fx5 := look_frozen lx5
        replace sx5 := look_lt lx5
        replace lx7 : look w1 (b7) = some (.cells (VA (vmax f g)) 26 (0, 0)) := by rw [look_below hb1 (by omega)]; first | assumption | go_simp
        replace cx7 : ∀ i, i < 12 → World.cell? w1 ⟨b7, i, none⟩ = some (.int .u32 ((((vmax f g)) i : Nat) : Int)) := fun i hi => by rw [look_cell lx7, VA_get _ _ hi]
        replace fx7 := look_frozen lx7
        replace sx7 := look_lt lx7
        replace lx8 : look w1 (b8) = some (.cells (VA (vmin f g)) 26 (0, 0)) := by rw [look_below hb1 (by omega)]; first | assumption | go_simp
        replace cx8 : ∀ i, i < 12 → World.cell? w1 ⟨b8, i, none⟩ = some (.int .u32 ((((vmin f g)) i : Nat) : Int)) := fun i hi => by rw [look_cell lx8, VA_get _ _ hi]
        replace fx8 := look_frozen lx8
        replace sx8 := look_lt lx8
        replace hB3 := belT hB3 hb1
        clear hb1
        go_wp2_with fail
        refine ((Q2.out ▸ covers_any g h _)).mono ?_
        rintro e w1 ⟨rfl, hb1⟩
        replace lx3 : look w1 (w.heap.size) = some (.cells (VA f) 26 (0, 0)) := by rw [look_below hb1 (by omega)]; first | assumption | go_simp
        replace cx3 : ∀ i, i < 12 → World.cell? w1 ⟨w.heap.size, i, none⟩ = some (.int .u32 (((f) i : Nat) : Int)) := fun i hi => by rw [look_cell lx3, VA_get _ _ hi]
        replace fx3 := look_frozen lx3
        replace sx3 := look_lt lx3
        replace lx4 : look w1 (w.heap.size + 1) = some (.cells (VA g) 26 (0, 0)) := by rw [look_below hb1 (by omega)]; first | assumption | go_simp
        replace cx4 : ∀ i, i < 12 → World.cell? w1 ⟨w.heap.size + 1, i, none⟩ = some (.int .u32 (((g) i : Nat) : Int)) := fun i hi => by rw [look_cell lx4, VA_get _ _ hi]
        replace fx4 := look_frozen lx4
        replace sx4 := look_lt lx4
        replace lx5 : look w1 (w.heap.size + 1 + 1) = some (.cells (VA h) 26 (0, 0)) := by rw [look_below hb1 (by omega)]; first | assumption | go_simp
        replace cx5 : ∀ i, i < 12 → World.cell? w1 ⟨w.heap.size + 1 + 1, i, none⟩ = some (.int .u32 (((h) i : Nat) : Int)) := fun i hi => by rw [look_cell lx5, VA_get _ _ hi]
        replace fx5 := look_frozen lx5
        replace sx5 := look_lt lx5
        replace lx7 : look w1 (b7) = some (.cells (VA (vmax f g)) 26 (0, 0)) := by rw [look_below hb1 (by omega)]; first | assumption | go_simp
        replace cx7 : ∀ i, i < 12 → World.cell? w1 ⟨b7, i, none⟩ = some (.int .u32 ((((vmax f g)) i : Nat) : Int)) := fun i hi => by rw [look_cell lx7, VA_get _ _ hi]
        replace fx7 := look_frozen lx7
        replace sx7 := look_lt lx7
        replace lx8 : look w1 (b8) = some (.cells (VA (vmin f g)) 26 (0, 0)) := by rw [look_below hb1 (by omega)]; first | assumption | go_simp
        replace cx8 : ∀ i, i < 12 → World.cell? w1 ⟨b8, i, none⟩ = some (.int .u32 ((((vmin f g)) i : Nat) : Int)) := fun i hi => by rw [look_cell lx8, VA_get _ _ hi]
        replace fx8 := look_frozen lx8
        replace sx8 := look_lt lx8
        replace hB3 := belT hB3 hb1
        clear hb1
        have hB4 := hB3
        clear hB3
        go_wp2_with fail
        refine wp_region_words mixed 30 ([] :: [83] :: [84] :: [84] :: [85, 86, 84] :: [87, 84] :: [84] :: [84] :: [84] :: [90, 91, 84] :: [92, 84] :: [89, 93, 84] :: [94, 84] :: [88, 95, 84] :: [84, 96] :: [97] :: [98] :: [98] :: [99, 100, 98] :: [101, 98] :: [98] :: [102, 103, 98] :: [98, 104] :: [105] :: [106] :: [106] :: [107, 108, 106] :: [106] :: [109, 110, 106] :: [106, 111] :: []) (isV (.bool true) :: isV (.bool true) :: isV (.agg (VA (vmax f g))) :: isV (.agg (VA h)) :: isRow 26 2 (VA (vmax f g) ++ VA h) :: isV (.agg (VA (vmax (vmax f g) h))) :: isV (.agg (VA f)) :: isV (.agg (VA g)) :: isV (.agg (VA h)) :: isRow 26 2 (VA g ++ VA h) :: isV (.agg (VA (vmax g h))) :: isRow 26 2 (VA f ++ VA (vmax g h)) :: isV (.agg (VA (vmax f (vmax g h)))) :: isV (.bool true) :: isV (.bool true) :: isV (.bool true) :: isV (.agg (VA f)) :: isV (.agg (VA (vmin f g))) :: isRow 26 2 (VA f ++ VA (vmin f g)) :: isV (.agg (VA (vmax f (vmin f g)))) :: isV (.agg (VA f)) :: isV (.bool true) :: isV (.bool true) :: isV (.bool true) :: isV (.agg (VA f)) :: isV (.agg (VA (vmax f g))) :: isV (.agg (VA (vmin f (vmax f g)))) :: isV (.agg (VA f)) :: isV (.bool true) :: isV (.bool true) :: []) (by decide) (by kernel_rfl)
          ⟨stab_isV _, stab_isV _, stab_isV _, stab_isV _, stab_isRow _ _ _, stab_isV _, stab_isV _, stab_isV _, stab_isV _, stab_isRow _ _ _, stab_isV _, stab_isRow _ _ _, stab_isV _, stab_isV _, stab_isV _, stab_isV _, stab_isV _, stab_isV _, stab_isRow _ _ _, stab_isV _, stab_isV _, stab_isV _, stab_isV _, stab_isV _, stab_isV _, stab_isV _, stab_isV _, stab_isV _, stab_isV _, stab_isV _, trivial⟩ ⟨?_, ?_, ?_, ?_, ?_, ?_, ?_, ?_, ?_, ?_, ?_, ?_, ?_, ?_, ?_, ?_, ?_, ?_, ?_, ?_, ?_, ?_, ?_, ?_, ?_, ?_, ?_, ?_, ?_, ?_, trivial⟩ ?_
        · intro vs wq hB hm
          clear hm
          simp only [fill]
          go_wp2_with fail
          refine (alive04 _).mono ?_
          rintro e w1 ⟨rfl, hb1⟩
          go_wp2
          exact ⟨_, rfl, rfl, hb1, trivial⟩
        · intro vs wq hB hm
          have h83 : vs 83 = .bool true := meets_get hm 0 rfl rfl rfl rfl
          clear hm
          simp only [fill, h83]
          go_wp2
          exact ⟨_, rfl, rfl, Below.refl _ _, trivial⟩
        · intro vs wq hB hm
          have hl : look wq (b7) = some (.cells (VA (vmax f g)) 26 (0, 0)) := by rw [look_below hB (by omega)]; first | assumption | go_simp
          have h84 : vs 84 = .bool true := meets_get hm 1 rfl rfl rfl rfl
          clear hm
          simp only [fill, h84]
          go_wp2
          exact ⟨_, rfl, rfl, Below.refl _ _, trivial⟩
        · intro vs wq hB hm
          have hl : look wq (w.heap.size + 1 + 1) = some (.cells (VA h) 26 (0, 0)) := by rw [look_below hB (by omega)]; first | assumption | go_simp
          have h84 : vs 84 = .bool true := meets_get hm 1 rfl rfl rfl rfl
          clear hm
          simp only [fill, h84]
          go_wp2
          exact ⟨_, rfl, rfl, Below.refl _ _, trivial⟩
        · intro vs wq hB hm
          have h85 : vs 85 = .agg (VA (vmax f g)) := meets_get hm 2 rfl rfl rfl rfl
          have h86 : vs 86 = .agg (VA h) := meets_get hm 3 rfl rfl rfl rfl
          have h84 : vs 84 = .bool true := meets_get hm 1 rfl rfl rfl rfl
          clear hm
          simp only [fill, h85, h86, h84]
          go_wp2
          exact ⟨_, rfl, ⟨_, rfl, look_alloc_at _ _ _ rfl⟩, (Below.refl _ _).alloc (Nat.le_refl _) _, fun b hb => by cases hb; exact ⟨Nat.le_refl _, by simp⟩⟩
        · intro vs wq hB hm
          obtain ⟨b87, h87, l87⟩ := meets_get hm 4 rfl rfl rfl rfl
          have h84 : vs 84 = .bool true := meets_get hm 1 rfl rfl rfl rfl
          clear hm
          simp only [fill, h84, h87]
          go_wp2_with fail
          refine (join_two (vmax f g) h b87 _ l87).mono ?_
          rintro e w1 ⟨rfl, hb1⟩
          go_wp2
          exact ⟨_, rfl, rfl, hb1, trivial⟩
        · intro vs wq hB hm
          have hl : look wq (w.heap.size) = some (.cells (VA f) 26 (0, 0)) := by rw [look_below hB (by omega)]; first | assumption | go_simp
          have h84 : vs 84 = .bool true := meets_get hm 1 rfl rfl rfl rfl
          clear hm
          simp only [fill, h84]
          go_wp2
          exact ⟨_, rfl, rfl, Below.refl _ _, trivial⟩
        · intro vs wq hB hm
          have hl : look wq (w.heap.size + 1) = some (.cells (VA g) 26 (0, 0)) := by rw [look_below hB (by omega)]; first | assumption | go_simp
          have h84 : vs 84 = .bool true := meets_get hm 1 rfl rfl rfl rfl
          clear hm
          simp only [fill, h84]
          go_wp2
          exact ⟨_, rfl, rfl, Below.refl _ _, trivial⟩
        · intro vs wq hB hm
          have hl : look wq (w.heap.size + 1 + 1) = some (.cells (VA h) 26 (0, 0)) := by rw [look_below hB (by omega)]; first | assumption | go_simp
          have h84 : vs 84 = .bool true := meets_get hm 1 rfl rfl rfl rfl
          clear hm
          simp only [fill, h84]
          go_wp2
          exact ⟨_, rfl, rfl, Below.refl _ _, trivial⟩
        · intro vs wq hB hm
          have h90 : vs 90 = .agg (VA g) := meets_get hm 7 rfl rfl rfl rfl
          have h91 : vs 91 = .agg (VA h) := meets_get hm 8 rfl rfl rfl rfl
          have h84 : vs 84 = .bool true := meets_get hm 1 rfl rfl rfl rfl
          clear hm
          simp only [fill, h90, h91, h84]
          go_wp2
          exact ⟨_, rfl, ⟨_, rfl, look_alloc_at _ _ _ rfl⟩, (Below.refl _ _).alloc (Nat.le_refl _) _, fun b hb => by cases hb; exact ⟨Nat.le_refl _, by simp⟩⟩
        · intro vs wq hB hm
          obtain ⟨b92, h92, l92⟩ := meets_get hm 9 rfl rfl rfl rfl
          have h84 : vs 84 = .bool true := meets_get hm 1 rfl rfl rfl rfl
          clear hm
          simp only [fill, h84, h92]
          go_wp2_with fail
          refine (join_two g h b92 _ l92).mono ?_
          rintro e w1 ⟨rfl, hb1⟩
          go_wp2
          exact ⟨_, rfl, rfl, hb1, trivial⟩
        · intro vs wq hB hm
          have h89 : vs 89 = .agg (VA f) := meets_get hm 6 rfl rfl rfl rfl
          have h93 : vs 93 = .agg (VA (vmax g h)) := meets_get hm 10 rfl rfl rfl rfl
          have h84 : vs 84 = .bool true := meets_get hm 1 rfl rfl rfl rfl
          clear hm
          simp only [fill, h89, h93, h84]
          go_wp2
          exact ⟨_, rfl, ⟨_, rfl, look_alloc_at _ _ _ rfl⟩, (Below.refl _ _).alloc (Nat.le_refl _) _, fun b hb => by cases hb; exact ⟨Nat.le_refl _, by simp⟩⟩
        · intro vs wq hB hm
          obtain ⟨b94, h94, l94⟩ := meets_get hm 11 rfl rfl rfl rfl
          have h84 : vs 84 = .bool true := meets_get hm 1 rfl rfl rfl rfl
          clear hm
          simp only [fill, h84, h94]
          go_wp2_with fail
          refine (join_two f (vmax g h) b94 _ l94).mono ?_
          rintro e w1 ⟨rfl, hb1⟩
          go_wp2
          exact ⟨_, rfl, rfl, hb1, trivial⟩
        · intro vs wq hB hm
          have h88 : vs 88 = .agg (VA (vmax (vmax f g) h)) := meets_get hm 5 rfl rfl rfl rfl
          have h95 : vs 95 = .agg (VA (vmax f (vmax g h))) := meets_get hm 12 rfl rfl rfl rfl
          have h84 : vs 84 = .bool true := meets_get hm 1 rfl rfl rfl rfl
          clear hm
          simp only [fill, h88, h95, h84]
          go_wp2
          exact ⟨_, rfl, rfl, Below.refl _ _, trivial⟩
        · intro vs wq hB hm
          have h84 : vs 84 = .bool true := meets_get hm 1 rfl rfl rfl rfl
          have h96 : vs 96 = .bool true := meets_get hm 13 rfl rfl rfl rfl
          clear hm
          simp only [fill, h84, h96]
          go_wp2
          exact ⟨_, rfl, rfl, Below.refl _ _, trivial⟩
        · intro vs wq hB hm
          have h97 : vs 97 = .bool true := meets_get hm 14 rfl rfl rfl rfl
          clear hm
          simp only [fill, h97]
          go_wp2
          exact ⟨_, rfl, rfl, Below.refl _ _, trivial⟩
        · intro vs wq hB hm
          have hl : look wq (w.heap.size) = some (.cells (VA f) 26 (0, 0)) := by rw [look_below hB (by omega)]; first | assumption | go_simp
          have h98 : vs 98 = .bool true := meets_get hm 15 rfl rfl rfl rfl
          clear hm
          simp only [fill, h98]
          go_wp2
          exact ⟨_, rfl, rfl, Below.refl _ _, trivial⟩
        · intro vs wq hB hm
          have hl : look wq (b8) = some (.cells (VA (vmin f g)) 26 (0, 0)) := by rw [look_below hB (by omega)]; first | assumption | go_simp
          have h98 : vs 98 = .bool true := meets_get hm 15 rfl rfl rfl rfl
          clear hm
          simp only [fill, h98]
          go_wp2
          exact ⟨_, rfl, rfl, Below.refl _ _, trivial⟩
        · intro vs wq hB hm
          have h99 : vs 99 = .agg (VA f) := meets_get hm 16 rfl rfl rfl rfl
          have h100 : vs 100 = .agg (VA (vmin f g)) := meets_get hm 17 rfl rfl rfl rfl
          have h98 : vs 98 = .bool true := meets_get hm 15 rfl rfl rfl rfl
          clear hm
          simp only [fill, h99, h100, h98]
          go_wp2
          exact ⟨_, rfl, ⟨_, rfl, look_alloc_at _ _ _ rfl⟩, (Below.refl _ _).alloc (Nat.le_refl _) _, fun b hb => by cases hb; exact ⟨Nat.le_refl _, by simp⟩⟩
        · intro vs wq hB hm
          obtain ⟨b101, h101, l101⟩ := meets_get hm 18 rfl rfl rfl rfl
          have h98 : vs 98 = .bool true := meets_get hm 15 rfl rfl rfl rfl
          clear hm
          simp only [fill, h98, h101]
          go_wp2_with fail
          refine (join_two f (vmin f g) b101 _ l101).mono ?_
          rintro e w1 ⟨rfl, hb1⟩
          go_wp2
          exact ⟨_, rfl, rfl, hb1, trivial⟩
        · intro vs wq hB hm
          have hl : look wq (w.heap.size) = some (.cells (VA f) 26 (0, 0)) := by rw [look_below hB (by omega)]; first | assumption | go_simp
          have h98 : vs 98 = .bool true := meets_get hm 15 rfl rfl rfl rfl
          clear hm
          simp only [fill, h98]
          go_wp2
          exact ⟨_, rfl, rfl, Below.refl _ _, trivial⟩
        · intro vs wq hB hm
          have h102 : vs 102 = .agg (VA (vmax f (vmin f g))) := meets_get hm 19 rfl rfl rfl rfl
          have h103 : vs 103 = .agg (VA f) := meets_get hm 20 rfl rfl rfl rfl
          have h98 : vs 98 = .bool true := meets_get hm 15 rfl rfl rfl rfl
          clear hm
          simp only [fill, h102, h103, h98]
          go_wp2
          exact ⟨_, rfl, rfl, Below.refl _ _, trivial⟩
        · intro vs wq hB hm
          have h98 : vs 98 = .bool true := meets_get hm 15 rfl rfl rfl rfl
          have h104 : vs 104 = .bool true := meets_get hm 21 rfl rfl rfl rfl
          clear hm
          simp only [fill, h98, h104]
          go_wp2
          exact ⟨_, rfl, rfl, Below.refl _ _, trivial⟩
        · intro vs wq hB hm
          have h105 : vs 105 = .bool true := meets_get hm 22 rfl rfl rfl rfl
          clear hm
          simp only [fill, h105]
          go_wp2
          exact ⟨_, rfl, rfl, Below.refl _ _, trivial⟩
        · intro vs wq hB hm
          have hl : look wq (w.heap.size) = some (.cells (VA f) 26 (0, 0)) := by rw [look_below hB (by omega)]; first | assumption | go_simp
          have h106 : vs 106 = .bool true := meets_get hm 23 rfl rfl rfl rfl
          clear hm
          simp only [fill, h106]
          go_wp2
          exact ⟨_, rfl, rfl, Below.refl _ _, trivial⟩
        · intro vs wq hB hm
          have hl : look wq (b7) = some (.cells (VA (vmax f g)) 26 (0, 0)) := by rw [look_below hB (by omega)]; first | assumption | go_simp
          have h106 : vs 106 = .bool true := meets_get hm 23 rfl rfl rfl rfl
          clear hm
          simp only [fill, h106]
          go_wp2
          exact ⟨_, rfl, rfl, Below.refl _ _, trivial⟩
        · intro vs wq hB hm
          have h107 : vs 107 = .agg (VA f) := meets_get hm 24 rfl rfl rfl rfl
          have h108 : vs 108 = .agg (VA (vmax f g)) := meets_get hm 25 rfl rfl rfl rfl
          have h106 : vs 106 = .bool true := meets_get hm 23 rfl rfl rfl rfl
          clear hm
          simp only [fill, h107, h108, h106]
          go_wp2_with fail
          refine (meet_any f (vmax f g) _).mono ?_
          rintro e w1 ⟨rfl, hb1⟩
          go_wp2
          exact ⟨_, rfl, rfl, hb1, trivial⟩
        · intro vs wq hB hm
          have hl : look wq (w.heap.size) = some (.cells (VA f) 26 (0, 0)) := by rw [look_below hB (by omega)]; first | assumption | go_simp
          have h106 : vs 106 = .bool true := meets_get hm 23 rfl rfl rfl rfl
          clear hm
          simp only [fill, h106]
          go_wp2
          exact ⟨_, rfl, rfl, Below.refl _ _, trivial⟩
        · intro vs wq hB hm
          have h109 : vs 109 = .agg (VA (vmin f (vmax f g))) := meets_get hm 26 rfl rfl rfl rfl
          have h110 : vs 110 = .agg (VA f) := meets_get hm 27 rfl rfl rfl rfl
          have h106 : vs 106 = .bool true := meets_get hm 23 rfl rfl rfl rfl
          clear hm
          simp only [fill, h109, h110, h106]
          go_wp2
          exact ⟨_, rfl, rfl, Below.refl _ _, trivial⟩
        · intro vs wq hB hm
          have h106 : vs 106 = .bool true := meets_get hm 23 rfl rfl rfl rfl
          have h111 : vs 111 = .bool true := meets_get hm 28 rfl rfl rfl rfl
          clear hm
          simp only [fill, h106, h111]
          go_wp2
          exact ⟨_, rfl, rfl, Below.refl _ _, trivial⟩
        intro vs wq hB hm hne hlo
        have h83 : vs 83 = .bool true := hm 0 _ _ _ rfl rfl rfl
        have h84 : vs 84 = .bool true := hm 1 _ _ _ rfl rfl rfl
        have h85 : vs 85 = .agg (VA (vmax f g)) := hm 2 _ _ _ rfl rfl rfl
        have h86 : vs 86 = .agg (VA h) := hm 3 _ _ _ rfl rfl rfl
        obtain ⟨b87, h87, l87⟩ := hm 4 _ _ _ rfl rfl rfl
        have h88 : vs 88 = .agg (VA (vmax (vmax f g) h)) := hm 5 _ _ _ rfl rfl rfl
        have h89 : vs 89 = .agg (VA f) := hm 6 _ _ _ rfl rfl rfl
        have h90 : vs 90 = .agg (VA g) := hm 7 _ _ _ rfl rfl rfl
        have h91 : vs 91 = .agg (VA h) := hm 8 _ _ _ rfl rfl rfl
        obtain ⟨b92, h92, l92⟩ := hm 9 _ _ _ rfl rfl rfl
        have h93 : vs 93 = .agg (VA (vmax g h)) := hm 10 _ _ _ rfl rfl rfl
        obtain ⟨b94, h94, l94⟩ := hm 11 _ _ _ rfl rfl rfl
        have h95 : vs 95 = .agg (VA (vmax f (vmax g h))) := hm 12 _ _ _ rfl rfl rfl
        have h96 : vs 96 = .bool true := hm 13 _ _ _ rfl rfl rfl
        have h97 : vs 97 = .bool true := hm 14 _ _ _ rfl rfl rfl
        have h98 : vs 98 = .bool true := hm 15 _ _ _ rfl rfl rfl
        have h99 : vs 99 = .agg (VA f) := hm 16 _ _ _ rfl rfl rfl
        have h100 : vs 100 = .agg (VA (vmin f g)) := hm 17 _ _ _ rfl rfl rfl
        obtain ⟨b101, h101, l101⟩ := hm 18 _ _ _ rfl rfl rfl
        have h102 : vs 102 = .agg (VA (vmax f (vmin f g))) := hm 19 _ _ _ rfl rfl rfl
        have h103 : vs 103 = .agg (VA f) := hm 20 _ _ _ rfl rfl rfl
        have h104 : vs 104 = .bool true := hm 21 _ _ _ rfl rfl rfl
        have h105 : vs 105 = .bool true := hm 22 _ _ _ rfl rfl rfl
        have h106 : vs 106 = .bool true := hm 23 _ _ _ rfl rfl rfl
        have h107 : vs 107 = .agg (VA f) := hm 24 _ _ _ rfl rfl rfl
        have h108 : vs 108 = .agg (VA (vmax f g)) := hm 25 _ _ _ rfl rfl rfl
        have h109 : vs 109 = .agg (VA (vmin f (vmax f g))) := hm 26 _ _ _ rfl rfl rfl
        have h110 : vs 110 = .agg (VA f) := hm 27 _ _ _ rfl rfl rfl
        have h111 : vs 111 = .bool true := hm 28 _ _ _ rfl rfl rfl
        have h112 : vs 112 = .bool true := hm 29 _ _ _ rfl rfl rfl
        have lo87 : _ ≤ b87 ∧ b87 < wq.heap.size := hlo 4 _ _ rfl rfl rfl b87 (by rw [h87]; rfl)
        have lo92 : _ ≤ b92 ∧ b92 < wq.heap.size := hlo 9 _ _ rfl rfl rfl b92 (by rw [h92]; rfl)
        have ne87_92 : b87 ≠ b92 := fun h => hne 4 9 _ _ _ _ (by omega) rfl rfl rfl rfl rfl rfl b87 (by rw [h87]; rfl) (by rw [h92, h]; rfl)
        have lo94 : _ ≤ b94 ∧ b94 < wq.heap.size := hlo 11 _ _ rfl rfl rfl b94 (by rw [h94]; rfl)
        have ne87_94 : b87 ≠ b94 := fun h => hne 4 11 _ _ _ _ (by omega) rfl rfl rfl rfl rfl rfl b87 (by rw [h87]; rfl) (by rw [h94, h]; rfl)
        have ne92_94 : b92 ≠ b94 := fun h => hne 9 11 _ _ _ _ (by omega) rfl rfl rfl rfl rfl rfl b92 (by rw [h92]; rfl) (by rw [h94, h]; rfl)
        have lo101 : _ ≤ b101 ∧ b101 < wq.heap.size := hlo 18 _ _ rfl rfl rfl b101 (by rw [h101]; rfl)
        have ne87_101 : b87 ≠ b101 := fun h => hne 4 18 _ _ _ _ (by omega) rfl rfl rfl rfl rfl rfl b87 (by rw [h87]; rfl) (by rw [h101, h]; rfl)
        have ne92_101 : b92 ≠ b101 := fun h => hne 9 18 _ _ _ _ (by omega) rfl rfl rfl rfl rfl rfl b92 (by rw [h92]; rfl) (by rw [h101, h]; rfl)
        have ne94_101 : b94 ≠ b101 := fun h => hne 11 18 _ _ _ _ (by omega) rfl rfl rfl rfl rfl rfl b94 (by rw [h94]; rfl) (by rw [h101, h]; rfl)
        clear hne hlo
        simp only [fill, List.filterMap, List.take, List.drop, List.setIfInBounds_toArray, List.set_cons_zero, List.set_cons_succ, h83, h84, h85, h86, h87, h88, h89, h90, h91, h92, h93, h94, h95, h96, h97, h98, h99, h100, h101, h102, h103, h104, h105, h106, h107, h108, h109, h110, h111, h112]
        clear hm h83 h84 h85 h86 h87 h88 h89 h90 h91 h92 h93 h94 h95 h96 h97 h98 h99 h100 h101 h102 h103 h104 h105 h106 h107 h108 h109 h110 h111 h112
        go_wp2
        go_ret
        exact ⟨rfl, belT hB4 hB⟩
      · have Q3 := Lib.hid (cov_most f g h q1 q2)
        have Q1 := Lib.hid q1
        have Q2 := Lib.hid q2
        clear q1 q2
        go_wp2_with fail
        refine ((P1.out ▸ covers_any h f _)).mono ?_
        rintro e w1 ⟨rfl, hb1⟩
        replace lx3 : look w1 (w.heap.size) = some (.cells (VA f) 26 (0, 0)) := by rw [look_below hb1 (by omega)]; first | assumption | go_simp
        replace cx3 : ∀ i, i < 12 → World.cell? w1 ⟨w.heap.size, i, none⟩ = some (.int .u32 (((f) i : Nat) : Int)) := fun i hi => by rw [look_cell lx3, VA_get _ _ hi]
        replace fx3 := look_frozen lx3
        replace sx3 := look_lt lx3
        replace lx4 : look w1 (w.heap.size + 1) = some (.cells (VA g) 26 (0, 0)) := by rw [look_below hb1 (by omega)]; first | assumption | go_simp
        replace cx4 : ∀ i, i < 12 → World.cell? w1 ⟨w.heap.size + 1, i, none⟩ = some (.int .u32 (((g) i : Nat) : Int)) := fun i hi => by rw [look_cell lx4, VA_get _ _ hi]
        replace fx4 := look_frozen lx4
        replace sx4 := look_lt lx4
        replace lx5 : look w1 (w.heap.size + 1 + 1) = some (.cells (VA h) 26 (0, 0)) := by rw [look_below hb1 (by omega)]; first | assumption | go_simp
        replace cx5 : ∀ i, i < 12 → World.cell? w1 ⟨w.heap.size + 1 + 1, i, none⟩ = some (.int .u32 (((h) i : Nat) : Int)) := fun i hi => by rw [look_cell lx5, VA_get _ _ hi]
        replace fx5 := look_frozen lx5
        replace sx5 := look_lt lx5
        replace lx7 : look w1 (b7) = some (.cells (VA (vmax f g)) 26 (0, 0)) := by rw [look_below hb1 (by omega)]; first | assumption | go_simp
        replace cx7 : ∀ i, i < 12 → World.cell? w1 ⟨b7, i, none⟩ = some (.int .u32 ((((vmax f g)) i : Nat) : Int)) := fun i hi => by rw [look_cell lx7, VA_get _ _ hi]
        replace fx7 := look_frozen lx7
        replace sx7 := look_lt lx7
        replace lx8 : look w1 (b8) = some (.cells (VA (vmin f g)) 26 (0, 0)) := by rw [look_below hb1 (by omega)]; first | assumption | go_simp
        replace cx8 : ∀ i, i < 12 → World.cell? w1 ⟨b8, i, none⟩ = some (.int .u32 ((((vmin f g)) i : Nat) : Int)) := fun i hi => by rw [look_cell lx8, VA_get _ _ hi]
        replace fx8 := look_frozen lx8
        replace sx8 := look_lt lx8
        replace hB3 := belT hB3 hb1
        clear hb1
        go_wp2_with fail
        refine ((Q1.out ▸ covers_any f h _)).mono ?_
        rintro e w1 ⟨rfl, hb1⟩
        replace lx3 : look w1 (w.heap.size) = some (.cells (VA f) 26 (0, 0)) := by rw [look_below hb1 (by omega)]; first | assumption | go_simp
        replace cx3 : ∀ i, i < 12 → World.cell? w1 ⟨w.heap.size, i, none⟩ = some (.int .u32 (((f) i : Nat) : Int)) := fun i hi => by rw [look_cell lx3, VA_get _ _ hi]
        replace fx3 := look_frozen lx3
        replace sx3 := look_lt lx3
        replace lx4 : look w1 (w.heap.size + 1) = some (.cells (VA g) 26 (0, 0)) := by rw [look_below hb1 (by omega)]; first | assumption | go_simp
        replace cx4 : ∀ i, i < 12 → World.cell? w1 ⟨w.heap.size + 1, i, none⟩ = some (.int .u32 (((g) i : Nat) : Int)) := fun i hi => by rw [look_cell lx4, VA_get _ _ hi]
        replace fx4 := look_frozen lx4
        replace sx4 := look_lt lx4
        replace lx5 : look w1 (w.heap.size + 1 + 1) = some (.cells (VA h) 26 (0, 0)) := by rw [look_below hb1 (by omega)]; first | assumption | go_simp
        replace cx5 : ∀ i, i < 12 → World.cell? w1 ⟨w.heap.size + 1 + 1, i, none⟩ = some (.int .u32 (((h) i : Nat) : Int)) := fun i hi => by rw [look_cell lx5, VA_get _ _ hi]
        replace fx5 := look_frozen lx5
        replace sx5 := look_lt lx5
        replace lx7 : look w1 (b7) = some (.cells (VA (vmax f g)) 26 (0, 0)) := by rw [look_below hb1 (by omega)]; first | assumption | go_simp
        replace cx7 : ∀ i, i < 12 → World.cell? w1 ⟨b7, i, none⟩ = some (.int .u32 ((((vmax f g)) i : Nat) : Int)) := fun i hi => by rw [look_cell lx7, VA_get _ _ hi]
        replace fx7 := look_frozen lx7
        replace sx7 := look_lt lx7
        replace lx8 : look w1 (b8) = some (.cells (VA (vmin f g)) 26 (0, 0)) := by rw [look_below hb1 (by omega)]; first | assumption | go_simp
        replace cx8 : ∀ i, i < 12 → World.cell? w1 ⟨b8, i, none⟩ = some (.int .u32 ((((vmin f g)) i : Nat) : Int)) := fun i hi => by rw [look_cell lx8, VA_get _ _ hi]
        replace fx8 := look_frozen lx8
        replace sx8 := look_lt lx8
        replace hB3 := belT hB3 hb1
        clear hb1
        go_wp2_with fail
        refine ((Q2.out ▸ covers_any g h _)).mono ?_
        rintro e w1 ⟨rfl, hb1⟩
        replace lx3 : look w1 (w.heap.size) = some (.cells (VA f) 26 (0, 0)) := by rw [look_below hb1 (by omega)]; first | assumption | go_simp
        replace cx3 : ∀ i, i < 12 → World.cell? w1 ⟨w.heap.size, i, none⟩ = some (.int .u32 (((f) i : Nat) : Int)) := fun i hi => by rw [look_cell lx3, VA_get _ _ hi]
        replace fx3 := look_frozen lx3
        replace sx3 := look_lt lx3
        replace lx4 : look w1 (w.heap.size + 1) = some (.cells (VA g) 26 (0, 0)) := by rw [look_below hb1 (by omega)]; first | assumption | go_simp
        replace cx4 : ∀ i, i < 12 → World.cell? w1 ⟨w.heap.size + 1, i, none⟩ = some (.int .u32 (((g) i : Nat) : Int)) := fun i hi => by rw [look_cell lx4, VA_get _ _ hi]
        replace fx4 := look_frozen lx4
        replace sx4 := look_lt lx4
        replace lx5 : look w1 (w.heap.size + 1 + 1) = some (.cells (VA h) 26 (0, 0)) := by rw [look_below hb1 (by omega)]; first | assumption | go_simp
        replace cx5 : ∀ i, i < 12 → World.cell? w1 ⟨w.heap.size + 1 + 1, i, none⟩ = some (.int .u32 (((h) i : Nat) : Int)) := fun i hi => by rw [look_cell lx5, VA_get _ _ hi]
        replace fx5 := look_frozen lx5
        replace sx5 := look_lt lx5
        replace lx7 : look w1 (b7) = some (.cells (VA (vmax f g)) 26 (0, 0)) := by rw [look_below hb1 (by omega)]; first | assumption | go_simp
        replace cx7 : ∀ i, i < 12 → World.cell? w1 ⟨b7, i, none⟩ = some (.int .u32 ((((vmax f g)) i : Nat) : Int)) := fun i hi => by rw [look_cell lx7, VA_get _ _ hi]
        replace fx7 := look_frozen lx7
        replace sx7 := look_lt lx7
        replace lx8 : look w1 (b8) = some (.cells (VA (vmin f g)) 26 (0, 0)) := by rw [look_below hb1 (by omega)]; first | assumption | go_simp
        replace cx8 : ∀ i, i < 12 → World.cell? w1 ⟨b8, i, none⟩ = some (.int .u32 ((((vmin f g)) i : Nat) : Int)) := fun i hi => by rw [look_cell lx8, VA_get _ _ hi]
        replace fx8 := look_frozen lx8
        replace sx8 := look_lt lx8
        replace hB3 := belT hB3 hb1
        clear hb1
        go_wp2_with fail
        refine ((Q3.out ▸ covers_any (vmin f g) h _)).mono ?_
        rintro e w1 ⟨rfl, hb1⟩
        replace lx3 : look w1 (w.heap.size) = some (.cells (VA f) 26 (0, 0)) := by rw [look_below hb1 (by omega)]; first | assumption | go_simp
        replace cx3 : ∀ i, i < 12 → World.cell? w1 ⟨w.heap.size, i, none⟩ = some (.int .u32 (((f) i : Nat) : Int)) := fun i hi => by rw [look_cell lx3, VA_get _ _ hi]
        replace fx3 := look_frozen lx3
        replace sx3 := look_lt lx3
        replace lx4 : look w1 (w.heap.size + 1) = some (.cells (VA g) 26 (0, 0)) := by rw [look_below hb1 (by omega)]; first | assumption | go_simp
        replace cx4 : ∀ i, i < 12 → World.cell? w1 ⟨w.heap.size + 1, i, none⟩ = some (.int .u32 (((g) i : Nat) : Int)) := fun i hi => by rw [look_cell lx4, VA_get _ _ hi]
        replace fx4 := look_frozen lx4
        replace sx4 := look_lt lx4
        replace lx5 : look w1 (w.heap.size + 1 + 1) = some (.cells (VA h) 26 (0, 0)) := by rw [look_below hb1 (by omega)]; first | assumption | go_simp
        replace cx5 : ∀ i, i < 12 → World.cell? w1 ⟨w.heap.size + 1 + 1, i, none⟩ = some (.int .u32 (((h) i : Nat) : Int)) := fun i hi => by rw [look_cell lx5, VA_get _ _ hi]
        replace fx5 := look_frozen lx5
        replace sx5 := look_lt lx5
        replace lx7 : look w1 (b7) = some (.cells (VA (vmax f g)) 26 (0, 0)) := by rw [look_below hb1 (by omega)]; first | assumption | go_simp
        replace cx7 : ∀ i, i < 12 → World.cell? w1 ⟨b7, i, none⟩ = some (.int .u32 ((((vmax f g)) i : Nat) : Int)) := fun i hi => by rw [look_cell lx7, VA_get _ _ hi]
        replace fx7 := look_frozen lx7
        replace sx7 := look_lt lx7
        replace lx8 : look w1 (b8) = some (.cells (VA (vmin f g)) 26 (0, 0)) := by rw [look_below hb1 (by omega)]; first | assumption | go_simp
        replace cx8 : ∀ i, i < 12 → World.cell? w1 ⟨b8, i, none⟩ = some (.int .u32 ((((vmin f g)) i : Nat) : Int)) := fun i hi => by rw [look_cell lx8, VA_get _ _ hi]
        replace fx8 := look_frozen lx8
        replace sx8 := look_lt lx8
        replace hB3 := belT hB3 hb1
        clear hb1
        have hB4 := hB3
        clear hB3
        go_wp2_with fail
        refine wp_region_words mixed 30 ([] :: [83] :: [84] :: [84] :: [85, 86, 84] :: [87, 84] :: [84] :: [84] :: [84] :: [90, 91, 84] :: [92, 84] :: [89, 93, 84] :: [94, 84] :: [88, 95, 84] :: [84, 96] :: [97] :: [98] :: [98] :: [99, 100, 98] :: [101, 98] :: [98] :: [102, 103, 98] :: [98, 104] :: [105] :: [106] :: [106] :: [107, 108, 106] :: [106] :: [109, 110, 106] :: [106, 111] :: []) (isV (.bool true) :: isV (.bool true) :: isV (.agg (VA (vmax f g))) :: isV (.agg (VA h)) :: isRow 26 2 (VA (vmax f g) ++ VA h) :: isV (.agg (VA (vmax (vmax f g) h))) :: isV (.agg (VA f)) :: isV (.agg (VA g)) :: isV (.agg (VA h)) :: isRow 26 2 (VA g ++ VA h) :: isV (.agg (VA (vmax g h))) :: isRow 26 2 (VA f ++ VA (vmax g h)) :: isV (.agg (VA (vmax f (vmax g h)))) :: isV (.bool true) :: isV (.bool true) :: isV (.bool true) :: isV (.agg (VA f)) :: isV (.agg (VA (vmin f g))) :: isRow 26 2 (VA f ++ VA (vmin f g)) :: isV (.agg (VA (vmax f (vmin f g)))) :: isV (.agg (VA f)) :: isV (.bool true) :: isV (.bool true) :: isV (.bool true) :: isV (.agg (VA f)) :: isV (.agg (VA (vmax f g))) :: isV (.agg (VA (vmin f (vmax f g)))) :: isV (.agg (VA f)) :: isV (.bool true) :: isV (.bool true) :: []) (by decide) (by kernel_rfl)
          ⟨stab_isV _, stab_isV _, stab_isV _, stab_isV _, stab_isRow _ _ _, stab_isV _, stab_isV _, stab_isV _, stab_isV _, stab_isRow _ _ _, stab_isV _, stab_isRow _ _ _, stab_isV _, stab_isV _, stab_isV _, stab_isV _, stab_isV _, stab_isV _, stab_isRow _ _ _, stab_isV _, stab_isV _, stab_isV _, stab_isV _, stab_isV _, stab_isV _, stab_isV _, stab_isV _, stab_isV _, stab_isV _, stab_isV _, trivial⟩ ⟨?_, ?_, ?_, ?_, ?_, ?_, ?_, ?_, ?_, ?_, ?_, ?_, ?_, ?_, ?_, ?_, ?_, ?_, ?_, ?_, ?_, ?_, ?_, ?_, ?_, ?_, ?_, ?_, ?_, ?_, trivial⟩ ?_
        · intro vs wq hB hm
          clear hm
          simp only [fill]
          go_wp2_with fail
          refine (alive04 _).mono ?_
          rintro e w1 ⟨rfl, hb1⟩
          go_wp2
          exact ⟨_, rfl, rfl, hb1, trivial⟩
        · intro vs wq hB hm
          have h83 : vs 83 = .bool true := meets_get hm 0 rfl rfl rfl rfl
          clear hm
          simp only [fill, h83]
          go_wp2
          exact ⟨_, rfl, rfl, Below.refl _ _, trivial⟩
        · intro vs wq hB hm
          have hl : look wq (b7) = some (.cells (VA (vmax f g)) 26 (0, 0)) := by rw [look_below hB (by omega)]; first | assumption | go_simp
          have h84 : vs 84 = .bool true := meets_get hm 1 rfl rfl rfl rfl
          clear hm
          simp only [fill, h84]
          go_wp2
          exact ⟨_, rfl, rfl, Below.refl _ _, trivial⟩
        · intro vs wq hB hm
          have hl : look wq (w.heap.size + 1 + 1) = some (.cells (VA h) 26 (0, 0)) := by rw [look_below hB (by omega)]; first | assumption | go_simp
          have h84 : vs 84 = .bool true := meets_get hm 1 rfl rfl rfl rfl
          clear hm
          simp only [fill, h84]
          go_wp2
          exact ⟨_, rfl, rfl, Below.refl _ _, trivial⟩
        · intro vs wq hB hm
          have h85 : vs 85 = .agg (VA (vmax f g)) := meets_get hm 2 rfl rfl rfl rfl
          have h86 : vs 86 = .agg (VA h) := meets_get hm 3 rfl rfl rfl rfl
          have h84 : vs 84 = .bool true := meets_get hm 1 rfl rfl rfl rfl
          clear hm
          simp only [fill, h85, h86, h84]
          go_wp2
          exact ⟨_, rfl, ⟨_, rfl, look_alloc_at _ _ _ rfl⟩, (Below.refl _ _).alloc (Nat.le_refl _) _, fun b hb => by cases hb; exact ⟨Nat.le_refl _, by simp⟩⟩
        · intro vs wq hB hm
          obtain ⟨b87, h87, l87⟩ := meets_get hm 4 rfl rfl rfl rfl
          have h84 : vs 84 = .bool true := meets_get hm 1 rfl rfl rfl rfl
          clear hm
          simp only [fill, h84, h87]
          go_wp2_with fail
          refine (join_two (vmax f g) h b87 _ l87).mono ?_
          rintro e w1 ⟨rfl, hb1⟩
          go_wp2
          exact ⟨_, rfl, rfl, hb1, trivial⟩
        · intro vs wq hB hm
          have hl : look wq (w.heap.size) = some (.cells (VA f) 26 (0, 0)) := by rw [look_below hB (by omega)]; first | assumption | go_simp
          have h84 : vs 84 = .bool true := meets_get hm 1 rfl rfl rfl rfl
          clear hm
          simp only [fill, h84]
          go_wp2
          exact ⟨_, rfl, rfl, Below.refl _ _, trivial⟩
        · intro vs wq hB hm
          have hl : look wq (w.heap.size + 1) = some (.cells (VA g) 26 (0, 0)) := by rw [look_below hB (by omega)]; first | assumption | go_simp
          have h84 : vs 84 = .bool true := meets_get hm 1 rfl rfl rfl rfl
          clear hm
          simp only [fill, h84]
          go_wp2
          exact ⟨_, rfl, rfl, Below.refl _ _, trivial⟩
        · intro vs wq hB hm
          have hl : look wq (w.heap.size + 1 + 1) = some (.cells (VA h) 26 (0, 0)) := by rw [look_below hB (by omega)]; first | assumption | go_simp
          have h84 : vs 84 = .bool true := meets_get hm 1 rfl rfl rfl rfl
          clear hm
          simp only [fill, h84]
          go_wp2
          exact ⟨_, rfl, rfl, Below.refl _ _, trivial⟩
        · intro vs wq hB hm
          have h90 : vs 90 = .agg (VA g) := meets_get hm 7 rfl rfl rfl rfl
          have h91 : vs 91 = .agg (VA h) := meets_get hm 8 rfl rfl rfl rfl
          have h84 : vs 84 = .bool true := meets_get hm 1 rfl rfl rfl rfl
          clear hm
          simp only [fill, h90, h91, h84]
          go_wp2
          exact ⟨_, rfl, ⟨_, rfl, look_alloc_at _ _ _ rfl⟩, (Below.refl _ _).alloc (Nat.le_refl _) _, fun b hb => by cases hb; exact ⟨Nat.le_refl _, by simp⟩⟩
        · intro vs wq hB hm
          obtain ⟨b92, h92, l92⟩ := meets_get hm 9 rfl rfl rfl rfl
          have h84 : vs 84 = .bool true := meets_get hm 1 rfl rfl rfl rfl
          clear hm
          simp only [fill, h84, h92]
          go_wp2_with fail
          refine (join_two g h b92 _ l92).mono ?_
          rintro e w1 ⟨rfl, hb1⟩
          go_wp2
          exact ⟨_, rfl, rfl, hb1, trivial⟩
        · intro vs wq hB hm
          have h89 : vs 89 = .agg (VA f) := meets_get hm 6 rfl rfl rfl rfl
          have h93 : vs 93 = .agg (VA (vmax g h)) := meets_get hm 10 rfl rfl rfl rfl
          have h84 : vs 84 = .bool true := meets_get hm 1 rfl rfl rfl rfl
          clear hm
          simp only [fill, h89, h93, h84]
          go_wp2
          exact ⟨_, rfl, ⟨_, rfl, look_alloc_at _ _ _ rfl⟩, (Below.refl _ _).alloc (Nat.le_refl _) _, fun b hb => by cases hb; exact ⟨Nat.le_refl _, by simp⟩⟩
        · intro vs wq hB hm
          obtain ⟨b94, h94, l94⟩ := meets_get hm 11 rfl rfl rfl rfl
          have h84 : vs 84 = .bool true := meets_get hm 1 rfl rfl rfl rfl
          clear hm
          simp only [fill, h84, h94]
          go_wp2_with fail
          refine (join_two f (vmax g h) b94 _ l94).mono ?_
          rintro e w1 ⟨rfl, hb1⟩
          go_wp2
          exact ⟨_, rfl, rfl, hb1, trivial⟩
        · intro vs wq hB hm
          have h88 : vs 88 = .agg (VA (vmax (vmax f g) h)) := meets_get hm 5 rfl rfl rfl rfl
          have h95 : vs 95 = .agg (VA (vmax f (vmax g h))) := meets_get hm 12 rfl rfl rfl rfl
          have h84 : vs 84 = .bool true := meets_get hm 1 rfl rfl rfl rfl
          clear hm
          simp only [fill, h88, h95, h84]
          go_wp2
          exact ⟨_, rfl, rfl, Below.refl _ _, trivial⟩
        · intro vs wq hB hm
          have h84 : vs 84 = .bool true := meets_get hm 1 rfl rfl rfl rfl
          have h96 : vs 96 = .bool true := meets_get hm 13 rfl rfl rfl rfl
          clear hm
          simp only [fill, h84, h96]
          go_wp2
          exact ⟨_, rfl, rfl, Below.refl _ _, trivial⟩
        · intro vs wq hB hm
          have h97 : vs 97 = .bool true := meets_get hm 14 rfl rfl rfl rfl
          clear hm
          simp only [fill, h97]
          go_wp2
          exact ⟨_, rfl, rfl, Below.refl _ _, trivial⟩
        · intro vs wq hB hm
          have hl : look wq (w.heap.size) = some (.cells (VA f) 26 (0, 0)) := by rw [look_below hB (by omega)]; first | assumption | go_simp
          have h98 : vs 98 = .bool true := meets_get hm 15 rfl rfl rfl rfl
          clear hm
          simp only [fill, h98]
          go_wp2
          exact ⟨_, rfl, rfl, Below.refl _ _, trivial⟩
        · intro vs wq hB hm
          have hl : look wq (b8) = some (.cells (VA (vmin f g)) 26 (0, 0)) := by rw [look_below hB (by omega)]; first | assumption | go_simp
          have h98 : vs 98 = .bool true := meets_get hm 15 rfl rfl rfl rfl
          clear hm
          simp only [fill, h98]
          go_wp2
          exact ⟨_, rfl, rfl, Below.refl _ _, trivial⟩
        · intro vs wq hB hm
          have h99 : vs 99 = .agg (VA f) := meets_get hm 16 rfl rfl rfl rfl
          have h100 : vs 100 = .agg (VA (vmin f g)) := meets_get hm 17 rfl rfl rfl rfl
          have h98 : vs 98 = .bool true := meets_get hm 15 rfl rfl rfl rfl
          clear hm
          simp only [fill, h99, h100, h98]
          go_wp2
          exact ⟨_, rfl, ⟨_, rfl, look_alloc_at _ _ _ rfl⟩, (Below.refl _ _).alloc (Nat.le_refl _) _, fun b hb => by cases hb; exact ⟨Nat.le_refl _, by simp⟩⟩
        · intro vs wq hB hm
          obtain ⟨b101, h101, l101⟩ := meets_get hm 18 rfl rfl rfl rfl
          have h98 : vs 98 = .bool true := meets_get hm 15 rfl rfl rfl rfl
          clear hm
          simp only [fill, h98, h101]
          go_wp2_with fail
          refine (join_two f (vmin f g) b101 _ l101).mono ?_
          rintro e w1 ⟨rfl, hb1⟩
          go_wp2
          exact ⟨_, rfl, rfl, hb1, trivial⟩
        · intro vs wq hB hm
          have hl : look wq (w.heap.size) = some (.cells (VA f) 26 (0, 0)) := by rw [look_below hB (by omega)]; first | assumption | go_simp
          have h98 : vs 98 = .bool true := meets_get hm 15 rfl rfl rfl rfl
          clear hm
          simp only [fill, h98]
          go_wp2
          exact ⟨_, rfl, rfl, Below.refl _ _, trivial⟩
        · intro vs wq hB hm
          have h102 : vs 102 = .agg (VA (vmax f (vmin f g))) := meets_get hm 19 rfl rfl rfl rfl
          have h103 : vs 103 = .agg (VA f) := meets_get hm 20 rfl rfl rfl rfl
          have h98 : vs 98 = .bool true := meets_get hm 15 rfl rfl rfl rfl
          clear hm
          simp only [fill, h102, h103, h98]
          go_wp2
          exact ⟨_, rfl, rfl, Below.refl _ _, trivial⟩
        · intro vs wq hB hm
          have h98 : vs 98 = .bool true := meets_get hm 15 rfl rfl rfl rfl
          have h104 : vs 104 = .bool true := meets_get hm 21 rfl rfl rfl rfl
          clear hm
          simp only [fill, h98, h104]
          go_wp2
          exact ⟨_, rfl, rfl, Below.refl _ _, trivial⟩
        · intro vs wq hB hm
          have h105 : vs 105 = .bool true := meets_get hm 22 rfl rfl rfl rfl
          clear hm
          simp only [fill, h105]
          go_wp2
          exact ⟨_, rfl, rfl, Below.refl _ _, trivial⟩
        · intro vs wq hB hm
          have hl : look wq (w.heap.size) = some (.cells (VA f) 26 (0, 0)) := by rw [look_below hB (by omega)]; first | assumption | go_simp
          have h106 : vs 106 = .bool true := meets_get hm 23 rfl rfl rfl rfl
          clear hm
          simp only [fill, h106]
          go_wp2
          exact ⟨_, rfl, rfl, Below.refl _ _, trivial⟩
        · intro vs wq hB hm
          have hl : look wq (b7) = some (.cells (VA (vmax f g)) 26 (0, 0)) := by rw [look_below hB (by omega)]; first | assumption | go_simp
          have h106 : vs 106 = .bool true := meets_get hm 23 rfl rfl rfl rfl
          clear hm
          simp only [fill, h106]
          go_wp2
          exact ⟨_, rfl, rfl, Below.refl _ _, trivial⟩
        · intro vs wq hB hm
          have h107 : vs 107 = .agg (VA f) := meets_get hm 24 rfl rfl rfl rfl
          have h108 : vs 108 = .agg (VA (vmax f g)) := meets_get hm 25 rfl rfl rfl rfl
          have h106 : vs 106 = .bool true := meets_get hm 23 rfl rfl rfl rfl
          clear hm
          simp only [fill, h107, h108, h106]
          go_wp2_with fail
          refine (meet_any f (vmax f g) _).mono ?_
          rintro e w1 ⟨rfl, hb1⟩
          go_wp2
          exact ⟨_, rfl, rfl, hb1, trivial⟩
        · intro vs wq hB hm
          have hl : look wq (w.heap.size) = some (.cells (VA f) 26 (0, 0)) := by rw [look_below hB (by omega)]; first | assumption | go_simp
          have h106 : vs 106 = .bool true := meets_get hm 23 rfl rfl rfl rfl
          clear hm
          simp only [fill, h106]
          go_wp2
          exact ⟨_, rfl, rfl, Below.refl _ _, trivial⟩
        · intro vs wq hB hm
          have h109 : vs 109 = .agg (VA (vmin f (vmax f g))) := meets_get hm 26 rfl rfl rfl rfl
          have h110 : vs 110 = .agg (VA f) := meets_get hm 27 rfl rfl rfl rfl
          have h106 : vs 106 = .bool true := meets_get hm 23 rfl rfl rfl rfl
          clear hm
          simp only [fill, h109, h110, h106]
          go_wp2
          exact ⟨_, rfl, rfl, Below.refl _ _, trivial⟩
        · intro vs wq hB hm
          have h106 : vs 106 = .bool true := meets_get hm 23 rfl rfl rfl rfl
          have h111 : vs 111 = .bool true := meets_get hm 28 rfl rfl rfl rfl
          clear hm
          simp only [fill, h106, h111]
          go_wp2
          exact ⟨_, rfl, rfl, Below.refl _ _, trivial⟩
        intro vs wq hB hm hne hlo
        have h83 : vs 83 = .bool true := hm 0 _ _ _ rfl rfl rfl
        have h84 : vs 84 = .bool true := hm 1 _ _ _ rfl rfl rfl
        have h85 : vs 85 = .agg (VA (vmax f g)) := hm 2 _ _ _ rfl rfl rfl
        have h86 : vs 86 = .agg (VA h) := hm 3 _ _ _ rfl rfl rfl
        obtain ⟨b87, h87, l87⟩ := hm 4 _ _ _ rfl rfl rfl
        have h88 : vs 88 = .agg (VA (vmax (vmax f g) h)) := hm 5 _ _ _ rfl rfl rfl
        have h89 : vs 89 = .agg (VA f) := hm 6 _ _ _ rfl rfl rfl
        have h90 : vs 90 = .agg (VA g) := hm 7 _ _ _ rfl rfl rfl
        have h91 : vs 91 = .agg (VA h) := hm 8 _ _ _ rfl rfl rfl
        obtain ⟨b92, h92, l92⟩ := hm 9 _ _ _ rfl rfl rfl
        have h93 : vs 93 = .agg (VA (vmax g h)) := hm 10 _ _ _ rfl rfl rfl
        obtain ⟨b94, h94, l94⟩ := hm 11 _ _ _ rfl rfl rfl
        have h95 : vs 95 = .agg (VA (vmax f (vmax g h))) := hm 12 _ _ _ rfl rfl rfl
        have h96 : vs 96 = .bool true := hm 13 _ _ _ rfl rfl rfl
        have h97 : vs 97 = .bool true := hm 14 _ _ _ rfl rfl rfl
        have h98 : vs 98 = .bool true := hm 15 _ _ _ rfl rfl rfl
        have h99 : vs 99 = .agg (VA f) := hm 16 _ _ _ rfl rfl rfl
        have h100 : vs 100 = .agg (VA (vmin f g)) := hm 17 _ _ _ rfl rfl rfl
        obtain ⟨b101, h101, l101⟩ := hm 18 _ _ _ rfl rfl rfl
        have h102 : vs 102 = .agg (VA (vmax f (vmin f g))) := hm 19 _ _ _ rfl rfl rfl
        have h103 : vs 103 = .agg (VA f) := hm 20 _ _ _ rfl rfl rfl
        have h104 : vs 104 = .bool true := hm 21 _ _ _ rfl rfl rfl
        have h105 : vs 105 = .bool true := hm 22 _ _ _ rfl rfl rfl
        have h106 : vs 106 = .bool true := hm 23 _ _ _ rfl rfl rfl
        have h107 : vs 107 = .agg (VA f) := hm 24 _ _ _ rfl rfl rfl
        have h108 : vs 108 = .agg (VA (vmax f g)) := hm 25 _ _ _ rfl rfl rfl
        have h109 : vs 109 = .agg (VA (vmin f (vmax f g))) := hm 26 _ _ _ rfl rfl rfl
        have h110 : vs 110 = .agg (VA f) := hm 27 _ _ _ rfl rfl rfl
        have h111 : vs 111 = .bool true := hm 28 _ _ _ rfl rfl rfl
        have h112 : vs 112 = .bool true := hm 29 _ _ _ rfl rfl rfl
        have lo87 : _ ≤ b87 ∧ b87 < wq.heap.size := hlo 4 _ _ rfl rfl rfl b87 (by rw [h87]; rfl)
        have lo92 : _ ≤ b92 ∧ b92 < wq.heap.size := hlo 9 _ _ rfl rfl rfl b92 (by rw [h92]; rfl)
        have ne87_92 : b87 ≠ b92 := fun h => hne 4 9 _ _ _ _ (by omega) rfl rfl rfl rfl rfl rfl b87 (by rw [h87]; rfl) (by rw [h92, h]; rfl)
        have lo94 : _ ≤ b94 ∧ b94 < wq.heap.size := hlo 11 _ _ rfl rfl rfl b94 (by rw [h94]; rfl)
        have ne87_94 : b87 ≠ b94 := fun h => hne 4 11 _ _ _ _ (by omega) rfl rfl rfl rfl rfl rfl b87 (by rw [h87]; rfl) (by rw [h94, h]; rfl)
        have ne92_94 : b92 ≠ b94 := fun h => hne 9 11 _ _ _ _ (by omega) rfl rfl rfl rfl rfl rfl b92 (by rw [h92]; rfl) (by rw [h94, h]; rfl)
        have lo101 : _ ≤ b101 ∧ b101 < wq.heap.size := hlo 18 _ _ rfl rfl rfl b101 (by rw [h101]; rfl)
        have ne87_101 : b87 ≠ b101 := fun h => hne 4 18 _ _ _ _ (by omega) rfl rfl rfl rfl rfl rfl b87 (by rw [h87]; rfl) (by rw [h101, h]; rfl)
        have ne92_101 : b92 ≠ b101 := fun h => hne 9 18 _ _ _ _ (by omega) rfl rfl rfl rfl rfl rfl b92 (by rw [h92]; rfl) (by rw [h101, h]; rfl)
        have ne94_101 : b94 ≠ b101 := fun h => hne 11 18 _ _ _ _ (by omega) rfl rfl rfl rfl rfl rfl b94 (by rw [h94]; rfl) (by rw [h101, h]; rfl)
        clear hne hlo
        simp only [fill, List.filterMap, List.take, List.drop, List.setIfInBounds_toArray, List.set_cons_zero, List.set_cons_succ, h83, h84, h85, h86, h87, h88, h89, h90, h91, h92, h93, h94, h95, h96, h97, h98, h99, h100, h101, h102, h103, h104, h105, h106, h107, h108, h109, h110, h111, h112]
        clear hm h83 h84 h85 h86 h87 h88 h89 h90 h91 h92 h93 h94 h95 h96 h97 h98 h99 h100 h101 h102 h103 h104 h105 h106 h107 h108 h109 h110 h111 h112
        go_wp2
        go_ret
        exact ⟨rfl, belT hB4 hB⟩
  · cases p2 : covB h g
    · have P1 := Lib.hid p1
      have P2 := Lib.hid p2
      clear p1 p2
      cases q1 : covB f h
      · have Q1 := Lib.hid q1
        clear q1
        go_wp2_with fail
        refine ((P1.out ▸ covers_any h f _)).mono ?_
        rintro e w1 ⟨rfl, hb1⟩
        replace lx3 : look w1 (w.heap.size) = some (.cells (VA f) 26 (0, 0)) := by rw [look_below hb1 (by omega)]; first | assumption | go_simp
        replace cx3 : ∀ i, i < 12 → World.cell? w1 ⟨w.heap.size, i, none⟩ = some (.int .u32 (((f) i : Nat) : Int)) := fun i hi => by rw [look_cell lx3, VA_get _ _ hi]
        replace fx3 := look_frozen lx3
        replace sx3 := look_lt lx3
        replace lx4 : look w1 (w.heap.size + 1) = some (.cells (VA g) 26 (0, 0)) := by rw [look_below hb1 (by omega)]; first | assumption | go_simp
        replace cx4 : ∀ i, i < 12 → World.cell? w1 ⟨w.heap.size + 1, i, none⟩ = some (.int .u32 (((g) i : Nat) : Int)) := fun i hi => by rw [look_cell lx4, VA_get _ _ hi]
        replace fx4 := look_frozen lx4
        replace sx4 := look_lt lx4
        replace lx5 : look w1 (w.heap.size + 1 + 1) = some (.cells (VA h) 26 (0, 0)) := by rw [look_below hb1 (by omega)]; first | assumption | go_simp
        replace cx5 : ∀ i, i < 12 → World.cell? w1 ⟨w.heap.size + 1 + 1, i, none⟩ = some (.int .u32 (((h) i : Nat) : Int)) := fun i hi => by rw [look_cell lx5, VA_get _ _ hi]
        replace fx5 := look_frozen lx5
        replace sx5 := look_lt lx5
        replace lx7 : look w1 (b7) = some (.cells (VA (vmax f g)) 26 (0, 0)) := by rw [look_below hb1 (by omega)]; first | assumption | go_simp
        replace cx7 : ∀ i, i < 12 → World.cell? w1 ⟨b7, i, none⟩ = some (.int .u32 ((((vmax f g)) i : Nat) : Int)) := fun i hi => by rw [look_cell lx7, VA_get _ _ hi]
        replace fx7 := look_frozen lx7
        replace sx7 := look_lt lx7
        replace lx8 : look w1 (b8) = some (.cells (VA (vmin f g)) 26 (0, 0)) := by rw [look_below hb1 (by omega)]; first | assumption | go_simp
        replace cx8 : ∀ i, i < 12 → World.cell? w1 ⟨b8, i, none⟩ = some (.int .u32 ((((vmin f g)) i : Nat) : Int)) := fun i hi => by rw [look_cell lx8, VA_get _ _ hi]
        replace fx8 := look_frozen lx8
        replace sx8 := look_lt lx8
        replace hB3 := belT hB3 hb1
        clear hb1
        go_wp2_with fail
        refine ((P2.out ▸ covers_any h g _)).mono ?_
        rintro e w1 ⟨rfl, hb1⟩
        replace lx3 : look w1 (w.heap.size) = some (.cells (VA f) 26 (0, 0)) := by rw [look_below hb1 (by omega)]; first | assumption | go_simp
        replace cx3 : ∀ i, i < 12 → World.cell? w1 ⟨w.heap.size, i, none⟩ = some (.int .u32 (((f) i : Nat) : Int)) := fun i hi => by rw [look_cell lx3, VA_get _ _ hi]
        replace fx3 := look_frozen lx3
        replace sx3 := look_lt lx3
        replace lx4 : look w1 (w.heap.size + 1) = some (.cells (VA g) 26 (0, 0)) := by rw [look_below hb1 (by omega)]; first | assumption | go_simp
        replace cx4 : ∀ i, i < 12 → World.cell? w1 ⟨w.heap.size + 1, i, none⟩ = some (.int .u32 (((g) i : Nat) : Int)) := fun i hi => by rw [look_cell lx4, VA_get _ _ hi]
        replace fx4 := look_frozen lx4
        replace sx4 := look_lt lx4
        replace lx5 : look w1 (w.heap.size + 1 + 1) = some (.cells (VA h) 26 (0, 0)) := by rw [look_below hb1 (by omega)]; first | assumption | go_simp
        replace cx5 : ∀ i, i < 12 → World.cell? w1 ⟨w.heap.size + 1 + 1, i, none⟩ = some (.int .u32 (((h) i : Nat) : Int)) := fun i hi => by rw [look_cell lx5, VA_get _ _ hi]
        replace fx5 := look_frozen lx5
        replace sx5 := look_lt lx5
        replace lx7 : look w1 (b7) = some (.cells (VA (vmax f g)) 26 (0, 0)) := by rw [look_below hb1 (by omega)]; first | assumption | go_simp
        replace cx7 : ∀ i, i < 12 → World.cell? w1 ⟨b7, i, none⟩ = some (.int .u32 ((((vmax f g)) i : Nat) : Int)) := fun i hi => by rw [look_cell lx7, VA_get _ _ hi]
        replace fx7 := look_frozen lx7
        replace sx7 := look_lt lx7
        replace lx8 : look w1 (b8) = some (.cells (VA (vmin f g)) 26 (0, 0)) := by rw [look_below hb1 (by omega)]; first | assumption | go_simp
        replace cx8 : ∀ i, i < 12 → World.cell? w1 ⟨b8, i, none⟩ = some (.int .u32 ((((vmin f g)) i : Nat) : Int)) := fun i hi => by rw [look_cell lx8, VA_get _ _ hi]
        replace fx8 := look_frozen lx8
        replace sx8 := look_lt lx8
        replace hB3 := belT hB3 hb1
        clear hb1
        go_wp2_with fail
        refine ((Q1.out ▸ covers_any f h _)).mono ?_
        rintro e w1 ⟨rfl, hb1⟩
        replace lx3 : look w1 (w.heap.size) = some (.cells (VA f) 26 (0, 0)) := by rw [look_below hb1 (by omega)]; first | assumption | go_simp
        replace cx3 : ∀ i, i < 12 → World.cell? w1 ⟨w.heap.size, i, none⟩ = some (.int .u32 (((f) i : Nat) : Int)) := fun i hi => by rw [look_cell lx3, VA_get _ _ hi]
        replace fx3 := look_frozen lx3
        replace sx3 := look_lt lx3
        replace lx4 : look w1 (w.heap.size + 1) = some (.cells (VA g) 26 (0, 0)) := by rw [look_below hb1 (by omega)]; first | assumption | go_simp
        replace cx4 : ∀ i, i < 12 → World.cell? w1 ⟨w.heap.size + 1, i, none⟩ = some (.int .u32 (((g) i : Nat) : Int)) := fun i hi => by rw [look_cell lx4, VA_get _ _ hi]
        replace fx4 := look_frozen lx4
        replace sx4 := look_lt lx4
        replace lx5 : look w1 (w.heap.size + 1 + 1) = some (.cells (VA h) 26 (0, 0)) := by rw [look_below hb1 (by omega)]; first | assumption | go_simp
        replace cx5 : ∀ i, i < 12 → World.cell? w1 ⟨w.heap.size + 1 + 1, i, none⟩ = some (.int .u32 (((h) i : Nat) : Int)) := fun i hi => by rw [look_cell lx5, VA_get _ _ hi]
        replace fx5 := look_frozen lx5
        replace sx5 := look_lt lx5
        replace lx7 : look w1 (b7) = some (.cells (VA (vmax f g)) 26 (0, 0)) := by rw [look_below hb1 (by omega)]; first | assumption | go_simp
        replace cx7 : ∀ i, i < 12 → World.cell? w1 ⟨b7, i, none⟩ = some (.int .u32 ((((vmax f g)) i : Nat) : Int)) := fun i hi => by rw [look_cell lx7, VA_get _ _ hi]
        replace fx7 := look_frozen lx7
        replace sx7 := look_lt lx7
        replace lx8 : look w1 (b8) = some (.cells (VA (vmin f g)) 26 (0, 0)) := by rw [look_below hb1 (by omega)]; first | assumption | go_simp
        replace cx8 : ∀ i, i < 12 → World.cell? w1 ⟨b8, i, none⟩ = some (.int .u32 ((((vmin f g)) i : Nat) : Int)) := fun i hi => by rw [look_cell lx8, VA_get _ _ hi]
        replace fx8 := look_frozen lx8
        replace sx8 := look_lt lx8
        replace hB3 := belT hB3 hb1
        clear hb1
        have hB4 := hB3
        clear hB3
        go_wp2_with fail
        refine wp_region_words mixed 30 ([] :: [83] :: [84] :: [84] :: [85, 86, 84] :: [87, 84] :: [84] :: [84] :: [84] :: [90, 91, 84] :: [92, 84] :: [89, 93, 84] :: [94, 84] :: [88, 95, 84] :: [84, 96] :: [97] :: [98] :: [98] :: [99, 100, 98] :: [101, 98] :: [98] :: [102, 103, 98] :: [98, 104] :: [105] :: [106] :: [106] :: [107, 108, 106] :: [106] :: [109, 110, 106] :: [106, 111] :: []) (isV (.bool true) :: isV (.bool true) :: isV (.agg (VA (vmax f g))) :: isV (.agg (VA h)) :: isRow 26 2 (VA (vmax f g) ++ VA h) :: isV (.agg (VA (vmax (vmax f g) h))) :: isV (.agg (VA f)) :: isV (.agg (VA g)) :: isV (.agg (VA h)) :: isRow 26 2 (VA g ++ VA h) :: isV (.agg (VA (vmax g h))) :: isRow 26 2 (VA f ++ VA (vmax g h)) :: isV (.agg (VA (vmax f (vmax g h)))) :: isV (.bool true) :: isV (.bool true) :: isV (.bool true) :: isV (.agg (VA f)) :: isV (.agg (VA (vmin f g))) :: isRow 26 2 (VA f ++ VA (vmin f g)) :: isV (.agg (VA (vmax f (vmin f g)))) :: isV (.agg (VA f)) :: isV (.bool true) :: isV (.bool true) :: isV (.bool true) :: isV (.agg (VA f)) :: isV (.agg (VA (vmax f g))) :: isV (.agg (VA (vmin f (vmax f g)))) :: isV (.agg (VA f)) :: isV (.bool true) :: isV (.bool true) :: []) (by decide) (by kernel_rfl)
          ⟨stab_isV _, stab_isV _, stab_isV _, stab_isV _, stab_isRow _ _ _, stab_isV _, stab_isV _, stab_isV _, stab_isV _, stab_isRow _ _ _, stab_isV _, stab_isRow _ _ _, stab_isV _, stab_isV _, stab_isV _, stab_isV _, stab_isV _, stab_isV _, stab_isRow _ _ _, stab_isV _, stab_isV _, stab_isV _, stab_isV _, stab_isV _, stab_isV _, stab_isV _, stab_isV _, stab_isV _, stab_isV _, stab_isV _, trivial⟩ ⟨?_, ?_, ?_, ?_, ?_, ?_, ?_, ?_, ?_, ?_, ?_, ?_, ?_, ?_, ?_, ?_, ?_, ?_, ?_, ?_, ?_, ?_, ?_, ?_, ?_, ?_, ?_, ?_, ?_, ?_, trivial⟩ ?_
        · intro vs wq hB hm
          clear hm
          simp only [fill]
          go_wp2_with fail
          refine (alive04 _).mono ?_
          rintro e w1 ⟨rfl, hb1⟩
          go_wp2
          exact ⟨_, rfl, rfl, hb1, trivial⟩
        · intro vs wq hB hm
          have h83 : vs 83 = .bool true := meets_get hm 0 rfl rfl rfl rfl
          clear hm
          simp only [fill, h83]
          go_wp2
          exact ⟨_, rfl, rfl, Below.refl _ _, trivial⟩
        · intro vs wq hB hm
          have hl : look wq (b7) = some (.cells (VA (vmax f g)) 26 (0, 0)) := by rw [look_below hB (by omega)]; first | assumption | go_simp
          have h84 : vs 84 = .bool true := meets_get hm 1 rfl rfl rfl rfl
          clear hm
          simp only [fill, h84]
          go_wp2
          exact ⟨_, rfl, rfl, Below.refl _ _, trivial⟩
        · intro vs wq hB hm
          have hl : look wq (w.heap.size + 1 + 1) = some (.cells (VA h) 26 (0, 0)) := by rw [look_below hB (by omega)]; first | assumption | go_simp
          have h84 : vs 84 = .bool true := meets_get hm 1 rfl rfl rfl rfl
          clear hm
          simp only [fill, h84]
          go_wp2
          exact ⟨_, rfl, rfl, Below.refl _ _, trivial⟩
        · intro vs wq hB hm
          have h85 : vs 85 = .agg (VA (vmax f g)) := meets_get hm 2 rfl rfl rfl rfl
          have h86 : vs 86 = .agg (VA h) := meets_get hm 3 rfl rfl rfl rfl
          have h84 : vs 84 = .bool true := meets_get hm 1 rfl rfl rfl rfl
          clear hm
          simp only [fill, h85, h86, h84]
          go_wp2
          exact ⟨_, rfl, ⟨_, rfl, look_alloc_at _ _ _ rfl⟩, (Below.refl _ _).alloc (Nat.le_refl _) _, fun b hb => by cases hb; exact ⟨Nat.le_refl _, by simp⟩⟩
        · intro vs wq hB hm
          obtain ⟨b87, h87, l87⟩ := meets_get hm 4 rfl rfl rfl rfl
          have h84 : vs 84 = .bool true := meets_get hm 1 rfl rfl rfl rfl
          clear hm
          simp only [fill, h84, h87]
          go_wp2_with fail
          refine (join_two (vmax f g) h b87 _ l87).mono ?_
          rintro e w1 ⟨rfl, hb1⟩
          go_wp2
          exact ⟨_, rfl, rfl, hb1, trivial⟩
        · intro vs wq hB hm
          have hl : look wq (w.heap.size) = some (.cells (VA f) 26 (0, 0)) := by rw [look_below hB (by omega)]; first | assumption | go_simp
          have h84 : vs 84 = .bool true := meets_get hm 1 rfl rfl rfl rfl
          clear hm
          simp only [fill, h84]
          go_wp2
          exact ⟨_, rfl, rfl, Below.refl _ _, trivial⟩
        · intro vs wq hB hm
          have hl : look wq (w.heap.size + 1) = some (.cells (VA g) 26 (0, 0)) := by rw [look_below hB (by omega)]; first | assumption | go_simp
          have h84 : vs 84 = .bool true := meets_get hm 1 rfl rfl rfl rfl
          clear hm
          simp only [fill, h84]
          go_wp2
          exact ⟨_, rfl, rfl, Below.refl _ _, trivial⟩
        · intro vs wq hB hm
          have hl : look wq (w.heap.size + 1 + 1) = some (.cells (VA h) 26 (0, 0)) := by rw [look_below hB (by omega)]; first | assumption | go_simp
          have h84 : vs 84 = .bool true := meets_get hm 1 rfl rfl rfl rfl
          clear hm
          simp only [fill, h84]
          go_wp2
          exact ⟨_, rfl, rfl, Below.refl _ _, trivial⟩
        · intro vs wq hB hm
          have h90 : vs 90 = .agg (VA g) := meets_get hm 7 rfl rfl rfl rfl
          have h91 : vs 91 = .agg (VA h) := meets_get hm 8 rfl rfl rfl rfl
          have h84 : vs 84 = .bool true := meets_get hm 1 rfl rfl rfl rfl
          clear hm
          simp only [fill, h90, h91, h84]
          go_wp2
          exact ⟨_, rfl, ⟨_, rfl, look_alloc_at _ _ _ rfl⟩, (Below.refl _ _).alloc (Nat.le_refl _) _, fun b hb => by cases hb; exact ⟨Nat.le_refl _, by simp⟩⟩
        · intro vs wq hB hm
          obtain ⟨b92, h92, l92⟩ := meets_get hm 9 rfl rfl rfl rfl
          have h84 : vs 84 = .bool true := meets_get hm 1 rfl rfl rfl rfl
          clear hm
          simp only [fill, h84, h92]
          go_wp2_with fail
          refine (join_two g h b92 _ l92).mono ?_
          rintro e w1 ⟨rfl, hb1⟩
          go_wp2
          exact ⟨_, rfl, rfl, hb1, trivial⟩
        · intro vs wq hB hm
          have h89 : vs 89 = .agg (VA f) := meets_get hm 6 rfl rfl rfl rfl
          have h93 : vs 93 = .agg (VA (vmax g h)) := meets_get hm 10 rfl rfl rfl rfl
          have h84 : vs 84 = .bool true := meets_get hm 1 rfl rfl rfl rfl
          clear hm
          simp only [fill, h89, h93, h84]
          go_wp2
          exact ⟨_, rfl, ⟨_, rfl, look_alloc_at _ _ _ rfl⟩, (Below.refl _ _).alloc (Nat.le_refl _) _, fun b hb => by cases hb; exact ⟨Nat.le_refl _, by simp⟩⟩
        · intro vs wq hB hm
          obtain ⟨b94, h94, l94⟩ := meets_get hm 11 rfl rfl rfl rfl
          have h84 : vs 84 = .bool true := meets_get hm 1 rfl rfl rfl rfl
          clear hm
          simp only [fill, h84, h94]
          go_wp2_with fail
          refine (join_two f (vmax g h) b94 _ l94).mono ?_
          rintro e w1 ⟨rfl, hb1⟩
          go_wp2
          exact ⟨_, rfl, rfl, hb1, trivial⟩
        · intro vs wq hB hm
          have h88 : vs 88 = .agg (VA (vmax (vmax f g) h)) := meets_get hm 5 rfl rfl rfl rfl
          have h95 : vs 95 = .agg (VA (vmax f (vmax g h))) := meets_get hm 12 rfl rfl rfl rfl
          have h84 : vs 84 = .bool true := meets_get hm 1 rfl rfl rfl rfl
          clear hm
          simp only [fill, h88, h95, h84]
          go_wp2
          exact ⟨_, rfl, rfl, Below.refl _ _, trivial⟩
        · intro vs wq hB hm
          have h84 : vs 84 = .bool true := meets_get hm 1 rfl rfl rfl rfl
          have h96 : vs 96 = .bool true := meets_get hm 13 rfl rfl rfl rfl
          clear hm
          simp only [fill, h84, h96]
          go_wp2
          exact ⟨_, rfl, rfl, Below.refl _ _, trivial⟩
        · intro vs wq hB hm
          have h97 : vs 97 = .bool true := meets_get hm 14 rfl rfl rfl rfl
          clear hm
          simp only [fill, h97]
          go_wp2
          exact ⟨_, rfl, rfl, Below.refl _ _, trivial⟩
        · intro vs wq hB hm
          have hl : look wq (w.heap.size) = some (.cells (VA f) 26 (0, 0)) := by rw [look_below hB (by omega)]; first | assumption | go_simp
          have h98 : vs 98 = .bool true := meets_get hm 15 rfl rfl rfl rfl
          clear hm
          simp only [fill, h98]
          go_wp2
          exact ⟨_, rfl, rfl, Below.refl _ _, trivial⟩
        · intro vs wq hB hm
          have hl : look wq (b8) = some (.cells (VA (vmin f g)) 26 (0, 0)) := by rw [look_below hB (by omega)]; first | assumption | go_simp
          have h98 : vs 98 = .bool true := meets_get hm 15 rfl rfl rfl rfl
          clear hm
          simp only [fill, h98]
          go_wp2
          exact ⟨_, rfl, rfl, Below.refl _ _, trivial⟩
        · intro vs wq hB hm
          have h99 : vs 99 = .agg (VA f) := meets_get hm 16 rfl rfl rfl rfl
          have h100 : vs 100 = .agg (VA (vmin f g)) := meets_get hm 17 rfl rfl rfl rfl
          have h98 : vs 98 = .bool true := meets_get hm 15 rfl rfl rfl rfl
          clear hm
          simp only [fill, h99, h100, h98]
          go_wp2
          exact ⟨_, rfl, ⟨_, rfl, look_alloc_at _ _ _ rfl⟩, (Below.refl _ _).alloc (Nat.le_refl _) _, fun b hb => by cases hb; exact ⟨Nat.le_refl _, by simp⟩⟩
        · intro vs wq hB hm
          obtain ⟨b101, h101, l101⟩ := meets_get hm 18 rfl rfl rfl rfl
          have h98 : vs 98 = .bool true := meets_get hm 15 rfl rfl rfl rfl
          clear hm
          simp only [fill, h98, h101]
          go_wp2_with fail
          refine (join_two f (vmin f g) b101 _ l101).mono ?_
          rintro e w1 ⟨rfl, hb1⟩
          go_wp2
          exact ⟨_, rfl, rfl, hb1, trivial⟩
        · intro vs wq hB hm
          have hl : look wq (w.heap.size) = some (.cells (VA f) 26 (0, 0)) := by rw [look_below hB (by omega)]; first | assumption | go_simp
          have h98 : vs 98 = .bool true := meets_get hm 15 rfl rfl rfl rfl
          clear hm
          simp only [fill, h98]
          go_wp2
          exact ⟨_, rfl, rfl, Below.refl _ _, trivial⟩
        · intro vs wq hB hm
          have h102 : vs 102 = .agg (VA (vmax f (vmin f g))) := meets_get hm 19 rfl rfl rfl rfl
          have h103 : vs 103 = .agg (VA f) := meets_get hm 20 rfl rfl rfl rfl
          have h98 : vs 98 = .bool true := meets_get hm 15 rfl rfl rfl rfl
          clear hm
          simp only [fill, h102, h103, h98]
          go_wp2
          exact ⟨_, rfl, rfl, Below.refl _ _, trivial⟩
        · intro vs wq hB hm
          have h98 : vs 98 = .bool true := meets_get hm 15 rfl rfl rfl rfl
          have h104 : vs 104 = .bool true := meets_get hm 21 rfl rfl rfl rfl
          clear hm
          simp only [fill, h98, h104]
          go_wp2
          exact ⟨_, rfl, rfl, Below.refl _ _, trivial⟩
        · intro vs wq hB hm
          have h105 : vs 105 = .bool true := meets_get hm 22 rfl rfl rfl rfl
          clear hm
          simp only [fill, h105]
          go_wp2
          exact ⟨_, rfl, rfl, Below.refl _ _, trivial⟩
        · intro vs wq hB hm
          have hl : look wq (w.heap.size) = some (.cells (VA f) 26 (0, 0)) := by rw [look_below hB (by omega)]; first | assumption | go_simp
          have h106 : vs 106 = .bool true := meets_get hm 23 rfl rfl rfl rfl
          clear hm
          simp only [fill, h106]
          go_wp2
          exact ⟨_, rfl, rfl, Below.refl _ _, trivial⟩
        · intro vs wq hB hm
          have hl : look wq (b7) = some (.cells (VA (vmax f g)) 26 (0, 0)) := by rw [look_below hB (by omega)]; first | assumption | go_simp
          have h106 : vs 106 = .bool true := meets_get hm 23 rfl rfl rfl rfl
          clear hm
          simp only [fill, h106]
          go_wp2
          exact ⟨_, rfl, rfl, Below.refl _ _, trivial⟩
        · intro vs wq hB hm
          have h107 : vs 107 = .agg (VA f) := meets_get hm 24 rfl rfl rfl rfl
          have h108 : vs 108 = .agg (VA (vmax f g)) := meets_get hm 25 rfl rfl rfl rfl
          have h106 : vs 106 = .bool true := meets_get hm 23 rfl rfl rfl rfl
          clear hm
          simp only [fill, h107, h108, h106]
          go_wp2_with fail
          refine (meet_any f (vmax f g) _).mono ?_
          rintro e w1 ⟨rfl, hb1⟩
          go_wp2
          exact ⟨_, rfl, rfl, hb1, trivial⟩
        · intro vs wq hB hm
          have hl : look wq (w.heap.size) = some (.cells (VA f) 26 (0, 0)) := by rw [look_below hB (by omega)]; first | assumption | go_simp
          have h106 : vs 106 = .bool true := meets_get hm 23 rfl rfl rfl rfl
          clear hm
          simp only [fill, h106]
          go_wp2
          exact ⟨_, rfl, rfl, Below.refl _ _, trivial⟩
        · intro vs wq hB hm
          have h109 : vs 109 = .agg (VA (vmin f (vmax f g))) := meets_get hm 26 rfl rfl rfl rfl
          have h110 : vs 110 = .agg (VA f) := meets_get hm 27 rfl rfl rfl rfl
          have h106 : vs 106 = .bool true := meets_get hm 23 rfl rfl rfl rfl
          clear hm
          simp only [fill, h109, h110, h106]
          go_wp2
          exact ⟨_, rfl, rfl, Below.refl _ _, trivial⟩
        · intro vs wq hB hm
          have h106 : vs 106 = .bool true := meets_get hm 23 rfl rfl rfl rfl
          have h111 : vs 111 = .bool true := meets_get hm 28 rfl rfl rfl rfl
          clear hm
          simp only [fill, h106, h111]
          go_wp2
          exact ⟨_, rfl, rfl, Below.refl _ _, trivial⟩
        intro vs wq hB hm hne hlo
        have h83 : vs 83 = .bool true := hm 0 _ _ _ rfl rfl rfl
        have h84 : vs 84 = .bool true := hm 1 _ _ _ rfl rfl rfl
        have h85 : vs 85 = .agg (VA (vmax f g)) := hm 2 _ _ _ rfl rfl rfl
        have h86 : vs 86 = .agg (VA h) := hm 3 _ _ _ rfl rfl rfl
        obtain ⟨b87, h87, l87⟩ := hm 4 _ _ _ rfl rfl rfl
        have h88 : vs 88 = .agg (VA (vmax (vmax f g) h)) := hm 5 _ _ _ rfl rfl rfl
        have h89 : vs 89 = .agg (VA f) := hm 6 _ _ _ rfl rfl rfl
        have h90 : vs 90 = .agg (VA g) := hm 7 _ _ _ rfl rfl rfl
        have h91 : vs 91 = .agg (VA h) := hm 8 _ _ _ rfl rfl rfl
        obtain ⟨b92, h92, l92⟩ := hm 9 _ _ _ rfl rfl rfl
        have h93 : vs 93 = .agg (VA (vmax g h)) := hm 10 _ _ _ rfl rfl rfl
        obtain ⟨b94, h94, l94⟩ := hm 11 _ _ _ rfl rfl rfl
        have h95 : vs 95 = .agg (VA (vmax f (vmax g h))) := hm 12 _ _ _ rfl rfl rfl
        have h96 : vs 96 = .bool true := hm 13 _ _ _ rfl rfl rfl
        have h97 : vs 97 = .bool true := hm 14 _ _ _ rfl rfl rfl
        have h98 : vs 98 = .bool true := hm 15 _ _ _ rfl rfl rfl
        have h99 : vs 99 = .agg (VA f) := hm 16 _ _ _ rfl rfl rfl
        have h100 : vs 100 = .agg (VA (vmin f g)) := hm 17 _ _ _ rfl rfl rfl
        obtain ⟨b101, h101, l101⟩ := hm 18 _ _ _ rfl rfl rfl
        have h102 : vs 102 = .agg (VA (vmax f (vmin f g))) := hm 19 _ _ _ rfl rfl rfl
        have h103 : vs 103 = .agg (VA f) := hm 20 _ _ _ rfl rfl rfl
        have h104 : vs 104 = .bool true := hm 21 _ _ _ rfl rfl rfl
        have h105 : vs 105 = .bool true := hm 22 _ _ _ rfl rfl rfl
        have h106 : vs 106 = .bool true := hm 23 _ _ _ rfl rfl rfl
        have h107 : vs 107 = .agg (VA f) := hm 24 _ _ _ rfl rfl rfl
        have h108 : vs 108 = .agg (VA (vmax f g)) := hm 25 _ _ _ rfl rfl rfl
        have h109 : vs 109 = .agg (VA (vmin f (vmax f g))) := hm 26 _ _ _ rfl rfl rfl
        have h110 : vs 110 = .agg (VA f) := hm 27 _ _ _ rfl rfl rfl
        have h111 : vs 111 = .bool true := hm 28 _ _ _ rfl rfl rfl
        have h112 : vs 112 = .bool true := hm 29 _ _ _ rfl rfl rfl
        have lo87 : _ ≤ b87 ∧ b87 < wq.heap.size := hlo 4 _ _ rfl rfl rfl b87 (by rw [h87]; rfl)
        have lo92 : _ ≤ b92 ∧ b92 < wq.heap.size := hlo 9 _ _ rfl rfl rfl b92 (by rw [h92]; rfl)
        have ne87_92 : b87 ≠ b92 := fun h => hne 4 9 _ _ _ _ (by omega) rfl rfl rfl rfl rfl rfl b87 (by rw [h87]; rfl) (by rw [h92, h]; rfl)
        have lo94 : _ ≤ b94 ∧ b94 < wq.heap.size := hlo 11 _ _ rfl rfl rfl b94 (by rw [h94]; rfl)
        have ne87_94 : b87 ≠ b94 := fun h => hne 4 11 _ _ _ _ (by omega) rfl rfl rfl rfl rfl rfl b87 (by rw [h87]; rfl) (by rw [h94, h]; rfl)
        have ne92_94 : b92 ≠ b94 := fun h => hne 9 11 _ _ _ _ (by omega) rfl rfl rfl rfl rfl rfl b92 (by rw [h92]; rfl) (by rw [h94, h]; rfl)
        have lo101 : _ ≤ b101 ∧ b101 < wq.heap.size := hlo 18 _ _ rfl rfl rfl b101 (by rw [h101]; rfl)
        have ne87_101 : b87 ≠ b101 := fun h => hne 4 18 _ _ _ _ (by omega) rfl rfl rfl rfl rfl rfl b87 (by rw [h87]; rfl) (by rw [h101, h]; rfl)
        have ne92_101 : b92 ≠ b101 := fun h => hne 9 18 _ _ _ _ (by omega) rfl rfl rfl rfl rfl rfl b92 (by rw [h92]; rfl) (by rw [h101, h]; rfl)
        have ne94_101 : b94 ≠ b101 := fun h => hne 11 18 _ _ _ _ (by omega) rfl rfl rfl rfl rfl rfl b94 (by rw [h94]; rfl) (by rw [h101, h]; rfl)
        clear hne hlo
        simp only [fill, List.filterMap, List.take, List.drop, List.setIfInBounds_toArray, List.set_cons_zero, List.set_cons_succ, h83, h84, h85, h86, h87, h88, h89, h90, h91, h92, h93, h94, h95, h96, h97, h98, h99, h100, h101, h102, h103, h104, h105, h106, h107, h108, h109, h110, h111, h112]
        clear hm h83 h84 h85 h86 h87 h88 h89 h90 h91 h92 h93 h94 h95 h96 h97 h98 h99 h100 h101 h102 h103 h104 h105 h106 h107 h108 h109 h110 h111 h112
        go_wp2
        go_ret
        exact ⟨rfl, belT hB4 hB⟩
      · cases q2 : covB g h
        · have Q1 := Lib.hid q1
          have Q2 := Lib.hid q2
          clear q1 q2
          go_wp2_with fail
          refine ((P1.out ▸ covers_any h f _)).mono ?_
          rintro e w1 ⟨rfl, hb1⟩
          replace lx3 : look w1 (w.heap.size) = some (.cells (VA f) 26 (0, 0)) := by rw [look_below hb1 (by omega)]; first | assumption | go_simp
          replace cx3 : ∀ i, i < 12 → World.cell? w1 ⟨w.heap.size, i, none⟩ = some (.int .u32 (((f) i : Nat) : Int)) := fun i hi => by rw [look_cell lx3, VA_get _ _ hi]
          replace fx3 := look_frozen lx3
          replace sx3 := look_lt lx3
          replace lx4 : look w1 (w.heap.size + 1) = some (.cells (VA g) 26 (0, 0)) := by rw [look_below hb1 (by omega)]; first | assumption | go_simp
          replace cx4 : ∀ i, i < 12 → World.cell? w1 ⟨w.heap.size + 1, i, none⟩ = some (.int .u32 (((g) i : Nat) : Int)) := fun i hi => by rw [look_cell lx4, VA_get _ _ hi]
          replace fx4 := look_frozen lx4
          replace sx4 := look_lt lx4
          replace lx5 : look w1 (w.heap.size + 1 + 1) = some (.cells (VA h) 26 (0, 0)) := by rw [look_below hb1 (by omega)]; first | assumption | go_simp
          replace cx5 : ∀ i, i < 12 → World.cell? w1 ⟨w.heap.size + 1 + 1, i, none⟩ = some (.int .u32 (((h) i : Nat) : Int)) := fun i hi => by rw [look_cell lx5, VA_get _ _ hi]
          replace fx5 := look_frozen lx5
          replace sx5 := look_lt lx5
          replace lx7 : look w1 (b7) = some (.cells (VA (vmax f g)) 26 (0, 0)) := by rw [look_below hb1 (by omega)]; first | assumption | go_simp
          replace cx7 : ∀ i, i < 12 → World.cell? w1 ⟨b7, i, none⟩ = some (.int .u32 ((((vmax f g)) i : Nat) : Int)) := fun i hi => by rw [look_cell lx7, VA_get _ _ hi]
          replace fx7 := look_frozen lx7
          replace sx7 := look_lt lx7
          replace lx8 : look w1 (b8) = some (.cells (VA (vmin f g)) 26 (0, 0)) := by rw [look_below hb1 (by omega)]; first | assumption | go_simp
          replace cx8 : ∀ i, i < 12 → World.cell? w1 ⟨b8, i, none⟩ = some (.int .u32 ((((vmin f g)) i : Nat) : Int)) := fun i hi => by rw [look_cell lx8, VA_get _ _ hi]
          replace fx8 := look_frozen lx8
          replace sx8 := look_lt lx8
          replace hB3 := belT hB3 hb1
          clear hb1
          go_wp2_with fail
          refine ((P2.out ▸ covers_any h g _)).mono ?_
          rintro e w1 ⟨rfl, hb1⟩
          replace lx3 : look w1 (w.heap.size) = some (.cells (VA f) 26 (0, 0)) := by rw [look_below hb1 (by omega)]; first | assumption | go_simp
          replace cx3 : ∀ i, i < 12 → World.cell? w1 ⟨w.heap.size, i, none⟩ = some (.int .u32 (((f) i : Nat) : Int)) := fun i hi => by rw [look_cell lx3, VA_get _ _ hi]
          replace fx3 := look_frozen lx3
          replace sx3 := look_lt lx3
          replace lx4 : look w1 (w.heap.size + 1) = some (.cells (VA g) 26 (0, 0)) := by rw [look_below hb1 (by omega)]; first | assumption | go_simp
          replace cx4 : ∀ i, i < 12 → World.cell? w1 ⟨w.heap.size + 1, i, none⟩ = some (.int .u32 (((g) i : Nat) : Int)) := fun i hi => by rw [look_cell lx4, VA_get _ _ hi]
          replace fx4 := look_frozen lx4
          replace sx4 := look_lt lx4
          replace lx5 : look w1 (w.heap.size + 1 + 1) = some (.cells (VA h) 26 (0, 0)) := by rw [look_below hb1 (by omega)]; first | assumption | go_simp
          replace cx5 : ∀ i, i < 12 → World.cell? w1 ⟨w.heap.size + 1 + 1, i, none⟩ = some (.int .u32 (((h) i : Nat) : Int)) := fun i hi => by rw [look_cell lx5, VA_get _ _ hi]
          replace fx5 := look_frozen lx5
          replace sx5 := look_lt lx5
          replace lx7 : look w1 (b7) = some (.cells (VA (vmax f g)) 26 (0, 0)) := by rw [look_below hb1 (by omega)]; first | assumption | go_simp
          replace cx7 : ∀ i, i < 12 → World.cell? w1 ⟨b7, i, none⟩ = some (.int .u32 ((((vmax f g)) i : Nat) : Int)) := fun i hi => by rw [look_cell lx7, VA_get _ _ hi]
          replace fx7 := look_frozen lx7
          replace sx7 := look_lt lx7
          replace lx8 : look w1 (b8) = some (.cells (VA (vmin f g)) 26 (0, 0)) := by rw [look_below hb1 (by omega)]; first | assumption | go_simp
          replace cx8 : ∀ i, i < 12 → World.cell? w1 ⟨b8, i, none⟩ = some (.int .u32 ((((vmin f g)) i : Nat) : Int)) := fun i hi => by rw [look_cell lx8, VA_get _ _ hi]
          replace fx8 := look_frozen lx8
          replace sx8 := look_lt lx8
          replace hB3 := belT hB3 hb1
          clear hb1
          go_wp2_with fail
          refine ((Q1.out ▸ covers_any f h _)).mono ?_
          rintro e w1 ⟨rfl, hb1⟩
          replace lx3 : look w1 (w.heap.size) = some (.cells (VA f) 26 (0, 0)) := by rw [look_below hb1 (by omega)]; first | assumption | go_simp
          replace cx3 : ∀ i, i < 12 → World.cell? w1 ⟨w.heap.size, i, none⟩ = some (.int .u32 (((f) i : Nat) : Int)) := fun i hi => by rw [look_cell lx3, VA_get _ _ hi]
          replace fx3 := look_frozen lx3
          replace sx3 := look_lt lx3
          replace lx4 : look w1 (w.heap.size + 1) = some (.cells (VA g) 26 (0, 0)) := by rw [look_below hb1 (by omega)]; first | assumption | go_simp
          replace cx4 : ∀ i, i < 12 → World.cell? w1 ⟨w.heap.size + 1, i, none⟩ = some (.int .u32 (((g) i : Nat) : Int)) := fun i hi => by rw [look_cell lx4, VA_get _ _ hi]
          replace fx4 := look_frozen lx4
          replace sx4 := look_lt lx4
          replace lx5 : look w1 (w.heap.size + 1 + 1) = some (.cells (VA h) 26 (0, 0)) := by rw [look_below hb1 (by omega)]; first | assumption | go_simp
          replace cx5 : ∀ i, i < 12 → World.cell? w1 ⟨w.heap.size + 1 + 1, i, none⟩ = some (.int .u32 (((h) i : Nat) : Int)) := fun i hi => by rw [look_cell lx5, VA_get _ _ hi]
          replace fx5 := look_frozen lx5
          replace sx5 := look_lt lx5
          replace lx7 : look w1 (b7) = some (.cells (VA (vmax f g)) 26 (0, 0)) := by rw [look_below hb1 (by omega)]; first | assumption | go_simp
          replace cx7 : ∀ i, i < 12 → World.cell? w1 ⟨b7, i, none⟩ = some (.int .u32 ((((vmax f g)) i : Nat) : Int)) := fun i hi => by rw [look_cell lx7, VA_get _ _ hi]
          replace fx7 := look_frozen lx7
          replace sx7 := look_lt lx7
          replace lx8 : look w1 (b8) = some (.cells (VA (vmin f g)) 26 (0, 0)) := by rw [look_below hb1 (by omega)]; first | assumption | go_simp
          replace cx8 : ∀ i, i < 12 → World.cell? w1 ⟨b8, i, none⟩ = some (.int .u32 ((((vmin f g)) i : Nat) : Int)) := fun i hi => by rw [look_cell lx8, VA_get _ _ hi]
          replace fx8 := look_frozen lx8
          replace sx8 := look_lt lx8
          replace hB3 := belT hB3 hb1
          clear hb1
          go_wp2_with fail
          refine ((Q2.out ▸ covers_any g h _)).mono ?_
          rintro e w1 ⟨rfl, hb1⟩
          replace lx3 : look w1 (w.heap.size) = some (.cells (VA f) 26 (0, 0)) := by rw [look_below hb1 (by omega)]; first | assumption | go_simp
          replace cx3 : ∀ i, i < 12 → World.cell? w1 ⟨w.heap.size, i, none⟩ = some (.int .u32 (((f) i : Nat) : Int)) := fun i hi => by rw [look_cell lx3, VA_get _ _ hi]
          replace fx3 := look_frozen lx3
          replace sx3 := look_lt lx3
          replace lx4 : look w1 (w.heap.size + 1) = some (.cells (VA g) 26 (0, 0)) := by rw [look_below hb1 (by omega)]; first | assumption | go_simp
          replace cx4 : ∀ i, i < 12 → World.cell? w1 ⟨w.heap.size + 1, i, none⟩ = some (.int .u32 (((g) i : Nat) : Int)) := fun i hi => by rw [look_cell lx4, VA_get _ _ hi]
          replace fx4 := look_frozen lx4
          replace sx4 := look_lt lx4
          replace lx5 : look w1 (w.heap.size + 1 + 1) = some (.cells (VA h) 26 (0, 0)) := by rw [look_below hb1 (by omega)]; first | assumption | go_simp
          replace cx5 : ∀ i, i < 12 → World.cell? w1 ⟨w.heap.size + 1 + 1, i, none⟩ = some (.int .u32 (((h) i : Nat) : Int)) := fun i hi => by rw [look_cell lx5, VA_get _ _ hi]
          replace fx5 := look_frozen lx5
          replace sx5 := look_lt lx5
          replace lx7 : look w1 (b7) = some (.cells (VA (vmax f g)) 26 (0, 0)) := by rw [look_below hb1 (by omega)]; first | assumption | go_simp
          replace cx7 : ∀ i, i < 12 → World.cell? w1 ⟨b7, i, none⟩ = some (.int .u32 ((((vmax f g)) i : Nat) : Int)) := fun i hi => by rw [look_cell lx7, VA_get _ _ hi]
          replace fx7 := look_frozen lx7
          replace sx7 := look_lt lx7
          replace lx8 : look w1 (b8) = some (.cells (VA (vmin f g)) 26 (0, 0)) := by rw [look_below hb1 (by omega)]; first | assumption | go_simp
          replace cx8 : ∀ i, i < 12 → World.cell? w1 ⟨b8, i, none⟩ = some (.int .u32 ((((vmin f g)) i : Nat) : Int)) := fun i hi => by rw [look_cell lx8, VA_get _ _ hi]
          replace fx8 := look_frozen lx8
          replace sx8 := look_lt lx8
          replace hB3 := belT hB3 hb1
          clear hb1
          have hB4 := hB3
          clear hB3
          go_wp2_with fail
          refine wp_region_words mixed 30 ([] :: [83] :: [84] :: [84] :: [85, 86, 84] :: [87, 84] :: [84] :: [84] :: [84] :: [90, 91, 84] :: [92, 84] :: [89, 93, 84] :: [94, 84] :: [88, 95, 84] :: [84, 96] :: [97] :: [98] :: [98] :: [99, 100, 98] :: [101, 98] :: [98] :: [102, 103, 98] :: [98, 104] :: [105] :: [106] :: [106] :: [107, 108, 106] :: [106] :: [109, 110, 106] :: [106, 111] :: []) (isV (.bool true) :: isV (.bool true) :: isV (.agg (VA (vmax f g))) :: isV (.agg (VA h)) :: isRow 26 2 (VA (vmax f g) ++ VA h) :: isV (.agg (VA (vmax (vmax f g) h))) :: isV (.agg (VA f)) :: isV (.agg (VA g)) :: isV (.agg (VA h)) :: isRow 26 2 (VA g ++ VA h) :: isV (.agg (VA (vmax g h))) :: isRow 26 2 (VA f ++ VA (vmax g h)) :: isV (.agg (VA (vmax f (vmax g h)))) :: isV (.bool true) :: isV (.bool true) :: isV (.bool true) :: isV (.agg (VA f)) :: isV (.agg (VA (vmin f g))) :: isRow 26 2 (VA f ++ VA (vmin f g)) :: isV (.agg (VA (vmax f (vmin f g)))) :: isV (.agg (VA f)) :: isV (.bool true) :: isV (.bool true) :: isV (.bool true) :: isV (.agg (VA f)) :: isV (.agg (VA (vmax f g))) :: isV (.agg (VA (vmin f (vmax f g)))) :: isV (.agg (VA f)) :: isV (.bool true) :: isV (.bool true) :: []) (by decide) (by kernel_rfl)
            ⟨stab_isV _, stab_isV _, stab_isV _, stab_isV _, stab_isRow _ _ _, stab_isV _, stab_isV _, stab_isV _, stab_isV _, stab_isRow _ _ _, stab_isV _, stab_isRow _ _ _, stab_isV _, stab_isV _, stab_isV _, stab_isV _, stab_isV _, stab_isV _, stab_isRow _ _ _, stab_isV _, stab_isV _, stab_isV _, stab_isV _, stab_isV _, stab_isV _, stab_isV _, stab_isV _, stab_isV _, stab_isV _, stab_isV _, trivial⟩ ⟨?_, ?_, ?_, ?_, ?_, ?_, ?_, ?_, ?_, ?_, ?_, ?_, ?_, ?_, ?_, ?_, ?_, ?_, ?_, ?_, ?_, ?_, ?_, ?_, ?_, ?_, ?_, ?_, ?_, ?_, trivial⟩ ?_
          · intro vs wq hB hm
            clear hm
            simp only [fill]
            go_wp2_with fail
            refine (alive04 _).mono ?_
            rintro e w1 ⟨rfl, hb1⟩
            go_wp2
            exact ⟨_, rfl, rfl, hb1, trivial⟩
          · intro vs wq hB hm
            have h83 : vs 83 = .bool true := meets_get hm 0 rfl rfl rfl rfl
            clear hm
            simp only [fill, h83]
            go_wp2
            exact ⟨_, rfl, rfl, Below.refl _ _, trivial⟩
          · intro vs wq hB hm
            have hl : look wq (b7) = some (.cells (VA (vmax f g)) 26 (0, 0)) := by rw [look_below hB (by omega)]; first | assumption | go_simp
            have h84 : vs 84 = .bool true := meets_get hm 1 rfl rfl rfl rfl
            clear hm
            simp only [fill, h84]
            go_wp2
            exact ⟨_, rfl, rfl, Below.refl _ _, trivial⟩
          · intro vs wq hB hm
            have hl : look wq (w.heap.size + 1 + 1) = some (.cells (VA h) 26 (0, 0)) := by rw [look_below hB (by omega)]; first | assumption | go_simp
            have h84 : vs 84 = .bool true := meets_get hm 1 rfl rfl rfl rfl
            clear hm
            simp only [fill, h84]
            go_wp2
            exact ⟨_, rfl, rfl, Below.refl _ _, trivial⟩
          · intro vs wq hB hm
            have h85 : vs 85 = .agg (VA (vmax f g)) := meets_get hm 2 rfl rfl rfl rfl
            have h86 : vs 86 = .agg (VA h) := meets_get hm 3 rfl rfl rfl rfl
            have h84 : vs 84 = .bool true := meets_get hm 1 rfl rfl rfl rfl
            clear hm
            simp only [fill, h85, h86, h84]
            go_wp2
            exact ⟨_, rfl, ⟨_, rfl, look_alloc_at _ _ _ rfl⟩, (Below.refl _ _).alloc (Nat.le_refl _) _, fun b hb => by cases hb; exact ⟨Nat.le_refl _, by simp⟩⟩
          · intro vs wq hB hm
            obtain ⟨b87, h87, l87⟩ := meets_get hm 4 rfl rfl rfl rfl
            have h84 : vs 84 = .bool true := meets_get hm 1 rfl rfl rfl rfl
            clear hm
            simp only [fill, h84, h87]
            go_wp2_with fail
            refine (join_two (vmax f g) h b87 _ l87).mono ?_
            rintro e w1 ⟨rfl, hb1⟩
            go_wp2
            exact ⟨_, rfl, rfl, hb1, trivial⟩
          · intro vs wq hB hm
            have hl : look wq (w.heap.size) = some (.cells (VA f) 26 (0, 0)) := by rw [look_below hB (by omega)]; first | assumption | go_simp
            have h84 : vs 84 = .bool true := meets_get hm 1 rfl rfl rfl rfl
            clear hm
            simp only [fill, h84]
            go_wp2
            exact ⟨_, rfl, rfl, Below.refl _ _, trivial⟩
          · intro vs wq hB hm
            have hl : look wq (w.heap.size + 1) = some (.cells (VA g) 26 (0, 0)) := by rw [look_below hB (by omega)]; first | assumption | go_simp
            have h84 : vs 84 = .bool true := meets_get hm 1 rfl rfl rfl rfl
            clear hm
            simp only [fill, h84]
            go_wp2
            exact ⟨_, rfl, rfl, Below.refl _ _, trivial⟩
          · intro vs wq hB hm
            have hl : look wq (w.heap.size + 1 + 1) = some (.cells (VA h) 26 (0, 0)) := by rw [look_below hB (by omega)]; first | assumption | go_simp
            have h84 : vs 84 = .bool true := meets_get hm 1 rfl rfl rfl rfl
            clear hm
            simp only [fill, h84]
            go_wp2
            exact ⟨_, rfl, rfl, Below.refl _ _, trivial⟩
          · intro vs wq hB hm
            have h90 : vs 90 = .agg (VA g) := meets_get hm 7 rfl rfl rfl rfl
            have h91 : vs 91 = .agg (VA h) := meets_get hm 8 rfl rfl rfl rfl
            have h84 : vs 84 = .bool true := meets_get hm 1 rfl rfl rfl rfl
            clear hm
            simp only [fill, h90, h91, h84]
            go_wp2
            exact ⟨_, rfl, ⟨_, rfl, look_alloc_at _ _ _ rfl⟩, (Below.refl _ _).alloc (Nat.le_refl _) _, fun b hb => by cases hb; exact ⟨Nat.le_refl _, by simp⟩⟩
          · intro vs wq hB hm
            obtain ⟨b92, h92, l92⟩ := meets_get hm 9 rfl rfl rfl rfl
            have h84 : vs 84 = .bool true := meets_get hm 1 rfl rfl rfl rfl
            clear hm
            simp only [fill, h84, h92]
            go_wp2_with fail
            refine (join_two g h b92 _ l92).mono ?_
            rintro e w1 ⟨rfl, hb1⟩
            go_wp2
            exact ⟨_, rfl, rfl, hb1, trivial⟩
          · intro vs wq hB hm
            have h89 : vs 89 = .agg (VA f) := meets_get hm 6 rfl rfl rfl rfl
            have h93 : vs 93 = .agg (VA (vmax g h)) := meets_get hm 10 rfl rfl rfl rfl
            have h84 : vs 84 = .bool true := meets_get hm 1 rfl rfl rfl rfl
            clear hm
            simp only [fill, h89, h93, h84]
            go_wp2
            exact ⟨_, rfl, ⟨_, rfl, look_alloc_at _ _ _ rfl⟩, (Below.refl _ _).alloc (Nat.le_refl _) _, fun b hb => by cases hb; exact ⟨Nat.le_refl _, by simp⟩⟩
          · intro vs wq hB hm
            obtain ⟨b94, h94, l94⟩ := meets_get hm 11 rfl rfl rfl rfl
            have h84 : vs 84 = .bool true := meets_get hm 1 rfl rfl rfl rfl
            clear hm
            simp only [fill, h84, h94]
            go_wp2_with fail
            refine (join_two f (vmax g h) b94 _ l94).mono ?_
            rintro e w1 ⟨rfl, hb1⟩
            go_wp2
            exact ⟨_, rfl, rfl, hb1, trivial⟩
          · intro vs wq hB hm
            have h88 : vs 88 = .agg (VA (vmax (vmax f g) h)) := meets_get hm 5 rfl rfl rfl rfl
            have h95 : vs 95 = .agg (VA (vmax f (vmax g h))) := meets_get hm 12 rfl rfl rfl rfl
            have h84 : vs 84 = .bool true := meets_get hm 1 rfl rfl rfl rfl
            clear hm
            simp only [fill, h88, h95, h84]
            go_wp2
            exact ⟨_, rfl, rfl, Below.refl _ _, trivial⟩
          · intro vs wq hB hm
            have h84 : vs 84 = .bool true := meets_get hm 1 rfl rfl rfl rfl
            have h96 : vs 96 = .bool true := meets_get hm 13 rfl rfl rfl rfl
            clear hm
            simp only [fill, h84, h96]
            go_wp2
            exact ⟨_, rfl, rfl, Below.refl _ _, trivial⟩
          · intro vs wq hB hm
            have h97 : vs 97 = .bool true := meets_get hm 14 rfl rfl rfl rfl
            clear hm
            simp only [fill, h97]
            go_wp2
            exact ⟨_, rfl, rfl, Below.refl _ _, trivial⟩
          · intro vs wq hB hm
            have hl : look wq (w.heap.size) = some (.cells (VA f) 26 (0, 0)) := by rw [look_below hB (by omega)]; first | assumption | go_simp
            have h98 : vs 98 = .bool true := meets_get hm 15 rfl rfl rfl rfl
            clear hm
            simp only [fill, h98]
            go_wp2
            exact ⟨_, rfl, rfl, Below.refl _ _, trivial⟩
          · intro vs wq hB hm
            have hl : look wq (b8) = some (.cells (VA (vmin f g)) 26 (0, 0)) := by rw [look_below hB (by omega)]; first | assumption | go_simp
            have h98 : vs 98 = .bool true := meets_get hm 15 rfl rfl rfl rfl
            clear hm
            simp only [fill, h98]
            go_wp2
            exact ⟨_, rfl, rfl, Below.refl _ _, trivial⟩
          · intro vs wq hB hm
            have h99 : vs 99 = .agg (VA f) := meets_get hm 16 rfl rfl rfl rfl
            have h100 : vs 100 = .agg (VA (vmin f g)) := meets_get hm 17 rfl rfl rfl rfl
            have h98 : vs 98 = .bool true := meets_get hm 15 rfl rfl rfl rfl
            clear hm
            simp only [fill, h99, h100, h98]
            go_wp2
            exact ⟨_, rfl, ⟨_, rfl, look_alloc_at _ _ _ rfl⟩, (Below.refl _ _).alloc (Nat.le_refl _) _, fun b hb => by cases hb; exact ⟨Nat.le_refl _, by simp⟩⟩
          · intro vs wq hB hm
            obtain ⟨b101, h101, l101⟩ := meets_get hm 18 rfl rfl rfl rfl
            have h98 : vs 98 = .bool true := meets_get hm 15 rfl rfl rfl rfl
            clear hm
            simp only [fill, h98, h101]
            go_wp2_with fail
            refine (join_two f (vmin f g) b101 _ l101).mono ?_
            rintro e w1 ⟨rfl, hb1⟩
            go_wp2
            exact ⟨_, rfl, rfl, hb1, trivial⟩
          · intro vs wq hB hm
            have hl : look wq (w.heap.size) = some (.cells (VA f) 26 (0, 0)) := by rw [look_below hB (by omega)]; first | assumption | go_simp
            have h98 : vs 98 = .bool true := meets_get hm 15 rfl rfl rfl rfl
            clear hm
            simp only [fill, h98]
            go_wp2
            exact ⟨_, rfl, rfl, Below.refl _ _, trivial⟩
          · intro vs wq hB hm
            have h102 : vs 102 = .agg (VA (vmax f (vmin f g))) := meets_get hm 19 rfl rfl rfl rfl
            have h103 : vs 103 = .agg (VA f) := meets_get hm 20 rfl rfl rfl rfl
            have h98 : vs 98 = .bool true := meets_get hm 15 rfl rfl rfl rfl
            clear hm
            simp only [fill, h102, h103, h98]
            go_wp2
            exact ⟨_, rfl, rfl, Below.refl _ _, trivial⟩
          · intro vs wq hB hm
            have h98 : vs 98 = .bool true := meets_get hm 15 rfl rfl rfl rfl
            have h104 : vs 104 = .bool true := meets_get hm 21 rfl rfl rfl rfl
            clear hm
            simp only [fill, h98, h104]
            go_wp2
            exact ⟨_, rfl, rfl, Below.refl _ _, trivial⟩
          · intro vs wq hB hm
            have h105 : vs 105 = .bool true := meets_get hm 22 rfl rfl rfl rfl
            clear hm
            simp only [fill, h105]
            go_wp2
            exact ⟨_, rfl, rfl, Below.refl _ _, trivial⟩
          · intro vs wq hB hm
            have hl : look wq (w.heap.size) = some (.cells (VA f) 26 (0, 0)) := by rw [look_below hB (by omega)]; first | assumption | go_simp
            have h106 : vs 106 = .bool true := meets_get hm 23 rfl rfl rfl rfl
            clear hm
            simp only [fill, h106]
            go_wp2
            exact ⟨_, rfl, rfl, Below.refl _ _, trivial⟩
          · intro vs wq hB hm
            have hl : look wq (b7) = some (.cells (VA (vmax f g)) 26 (0, 0)) := by rw [look_below hB (by omega)]; first | assumption | go_simp
            have h106 : vs 106 = .bool true := meets_get hm 23 rfl rfl rfl rfl
            clear hm
            simp only [fill, h106]
            go_wp2
            exact ⟨_, rfl, rfl, Below.refl _ _, trivial⟩
          · intro vs wq hB hm
            have h107 : vs 107 = .agg (VA f) := meets_get hm 24 rfl rfl rfl rfl
            have h108 : vs 108 = .agg (VA (vmax f g)) := meets_get hm 25 rfl rfl rfl rfl
            have h106 : vs 106 = .bool true := meets_get hm 23 rfl rfl rfl rfl
            clear hm
            simp only [fill, h107, h108, h106]
            go_wp2_with fail
            refine (meet_any f (vmax f g) _).mono ?_
            rintro e w1 ⟨rfl, hb1⟩
            go_wp2
            exact ⟨_, rfl, rfl, hb1, trivial⟩
          · intro vs wq hB hm
            have hl : look wq (w.heap.size) = some (.cells (VA f) 26 (0, 0)) := by rw [look_below hB (by omega)]; first | assumption | go_simp
            have h106 : vs 106 = .bool true := meets_get hm 23 rfl rfl rfl rfl
            clear hm
            simp only [fill, h106]
            go_wp2
            exact ⟨_, rfl, rfl, Below.refl _ _, trivial⟩
          · intro vs wq hB hm
            have h109 : vs 109 = .agg (VA (vmin f (vmax f g))) := meets_get hm 26 rfl rfl rfl rfl
            have h110 : vs 110 = .agg (VA f) := meets_get hm 27 rfl rfl rfl rfl
            have h106 : vs 106 = .bool true := meets_get hm 23 rfl rfl rfl rfl
            clear hm
            simp only [fill, h109, h110, h106]
            go_wp2
            exact ⟨_, rfl, rfl, Below.refl _ _, trivial⟩
          · intro vs wq hB hm
            have h106 : vs 106 = .bool true := meets_get hm 23 rfl rfl rfl rfl
            have h111 : vs 111 = .bool true := meets_get hm 28 rfl rfl rfl rfl
            clear hm
            simp only [fill, h106, h111]
            go_wp2
            exact ⟨_, rfl, rfl, Below.refl _ _, trivial⟩
          intro vs wq hB hm hne hlo
          have h83 : vs 83 = .bool true := hm 0 _ _ _ rfl rfl rfl
          have h84 : vs 84 = .bool true := hm 1 _ _ _ rfl rfl rfl
          have h85 : vs 85 = .agg (VA (vmax f g)) := hm 2 _ _ _ rfl rfl rfl
          have h86 : vs 86 = .agg (VA h) := hm 3 _ _ _ rfl rfl rfl
          obtain ⟨b87, h87, l87⟩ := hm 4 _ _ _ rfl rfl rfl
          have h88 : vs 88 = .agg (VA (vmax (vmax f g) h)) := hm 5 _ _ _ rfl rfl rfl
          have h89 : vs 89 = .agg (VA f) := hm 6 _ _ _ rfl rfl rfl
          have h90 : vs 90 = .agg (VA g) := hm 7 _ _ _ rfl rfl rfl
          have h91 : vs 91 = .agg (VA h) := hm 8 _ _ _ rfl rfl rfl
          obtain ⟨b92, h92, l92⟩ := hm 9 _ _ _ rfl rfl rfl
          have h93 : vs 93 = .agg (VA (vmax g h)) := hm 10 _ _ _ rfl rfl rfl
          obtain ⟨b94, h94, l94⟩ := hm 11 _ _ _ rfl rfl rfl
          have h95 : vs 95 = .agg (VA (vmax f (vmax g h))) := hm 12 _ _ _ rfl rfl rfl
          have h96 : vs 96 = .bool true := hm 13 _ _ _ rfl rfl rfl
          have h97 : vs 97 = .bool true := hm 14 _ _ _ rfl rfl rfl
          have h98 : vs 98 = .bool true := hm 15 _ _ _ rfl rfl rfl
          have h99 : vs 99 = .agg (VA f) := hm 16 _ _ _ rfl rfl rfl
          have h100 : vs 100 = .agg (VA (vmin f g)) := hm 17 _ _ _ rfl rfl rfl
          obtain ⟨b101, h101, l101⟩ := hm 18 _ _ _ rfl rfl rfl
          have h102 : vs 102 = .agg (VA (vmax f (vmin f g))) := hm 19 _ _ _ rfl rfl rfl
          have h103 : vs 103 = .agg (VA f) := hm 20 _ _ _ rfl rfl rfl
          have h104 : vs 104 = .bool true := hm 21 _ _ _ rfl rfl rfl
          have h105 : vs 105 = .bool true := hm 22 _ _ _ rfl rfl rfl
          have h106 : vs 106 = .bool true := hm 23 _ _ _ rfl rfl rfl
          have h107 : vs 107 = .agg (VA f) := hm 24 _ _ _ rfl rfl rfl
          have h108 : vs 108 = .agg (VA (vmax f g)) := hm 25 _ _ _ rfl rfl rfl
          have h109 : vs 109 = .agg (VA (vmin f (vmax f g))) := hm 26 _ _ _ rfl rfl rfl
          have h110 : vs 110 = .agg (VA f) := hm 27 _ _ _ rfl rfl rfl
          have h111 : vs 111 = .bool true := hm 28 _ _ _ rfl rfl rfl
          have h112 : vs 112 = .bool true := hm 29 _ _ _ rfl rfl rfl
          have lo87 : _ ≤ b87 ∧ b87 < wq.heap.size := hlo 4 _ _ rfl rfl rfl b87 (by rw [h87]; rfl)
          have lo92 : _ ≤ b92 ∧ b92 < wq.heap.size := hlo 9 _ _ rfl rfl rfl b92 (by rw [h92]; rfl)
          have ne87_92 : b87 ≠ b92 := fun h => hne 4 9 _ _ _ _ (by omega) rfl rfl rfl rfl rfl rfl b87 (by rw [h87]; rfl) (by rw [h92, h]; rfl)
          have lo94 : _ ≤ b94 ∧ b94 < wq.heap.size := hlo 11 _ _ rfl rfl rfl b94 (by rw [h94]; rfl)
          have ne87_94 : b87 ≠ b94 := fun h => hne 4 11 _ _ _ _ (by omega) rfl rfl rfl rfl rfl rfl b87 (by rw [h87]; rfl) (by rw [h94, h]; rfl)
          have ne92_94 : b92 ≠ b94 := fun h => hne 9 11 _ _ _ _ (by omega) rfl rfl rfl rfl rfl rfl b92 (by rw [h92]; rfl) (by rw [h94, h]; rfl)
          have lo101 : _ ≤ b101 ∧ b101 < wq.heap.size := hlo 18 _ _ rfl rfl rfl b101 (by rw [h101]; rfl)
          have ne87_101 : b87 ≠ b101 := fun h => hne 4 18 _ _ _ _ (by omega) rfl rfl rfl rfl rfl rfl b87 (by rw [h87]; rfl) (by rw [h101, h]; rfl)
          have ne92_101 : b92 ≠ b101 := fun h => hne 9 18 _ _ _ _ (by omega) rfl rfl rfl rfl rfl rfl b92 (by rw [h92]; rfl) (by rw [h101, h]; rfl)
          have ne94_101 : b94 ≠ b101 := fun h => hne 11 18 _ _ _ _ (by omega) rfl rfl rfl rfl rfl rfl b94 (by rw [h94]; rfl) (by rw [h101, h]; rfl)
          clear hne hlo
          simp only [fill, List.filterMap, List.take, List.drop, List.setIfInBounds_toArray, List.set_cons_zero, List.set_cons_succ, h83, h84, h85, h86, h87, h88, h89, h90, h91, h92, h93, h94, h95, h96, h97, h98, h99, h100, h101, h102, h103, h104, h105, h106, h107, h108, h109, h110, h111, h112]
          clear hm h83 h84 h85 h86 h87 h88 h89 h90 h91 h92 h93 h94 h95 h96 h97 h98 h99 h100 h101 h102 h103 h104 h105 h106 h107 h108 h109 h110 h111 h112
          go_wp2
          go_ret
          exact ⟨rfl, belT hB4 hB⟩
        · have Q3 := Lib.hid (cov_most f g h q1 q2)
          have Q1 := Lib.hid q1
          have Q2 := Lib.hid q2
          clear q1 q2
          go_wp2_with fail
          refine ((P1.out ▸ covers_any h f _)).mono ?_
          rintro e w1 ⟨rfl, hb1⟩
          replace lx3 : look w1 (w.heap.size) = some (.cells (VA f) 26 (0, 0)) := by rw [look_below hb1 (by omega)]; first | assumption | go_simp
          replace cx3 : ∀ i, i < 12 → World.cell? w1 ⟨w.heap.size, i, none⟩ = some (.int .u32 (((f) i : Nat) : Int)) := fun i hi => by rw [look_cell lx3, VA_get _ _ hi]
          replace fx3 := look_frozen lx3
          replace sx3 := look_lt lx3
          replace lx4 : look w1 (w.heap.size + 1) = some (.cells (VA g) 26 (0, 0)) := by rw [look_below hb1 (by omega)]; first | assumption | go_simp
          replace cx4 : ∀ i, i < 12 → World.cell? w1 ⟨w.heap.size + 1, i, none⟩ = some (.int .u32 (((g) i : Nat) : Int)) := fun i hi => by rw [look_cell lx4, VA_get _ _ hi]
          replace fx4 := look_frozen lx4
          replace sx4 := look_lt lx4
          replace lx5 : look w1 (w.heap.size + 1 + 1) = some (.cells (VA h) 26 (0, 0)) := by rw [look_below hb1 (by omega)]; first | assumption | go_simp
          replace cx5 : ∀ i, i < 12 → World.cell? w1 ⟨w.heap.size + 1 + 1, i, none⟩ = some (.int .u32 (((h) i : Nat) : Int)) := fun i hi => by rw [look_cell lx5, VA_get _ _ hi]
          replace fx5 := look_frozen lx5
          replace sx5 := look_lt lx5
          replace lx7 : look w1 (b7) = some (.cells (VA (vmax f g)) 26 (0, 0)) := by rw [look_below hb1 (by omega)]; first | assumption | go_simp
          replace cx7 : ∀ i, i < 12 → World.cell? w1 ⟨b7, i, none⟩ = some (.int .u32 ((((vmax f g)) i : Nat) : Int)) := fun i hi => by rw [look_cell lx7, VA_get _ _ hi]
          replace fx7 := look_frozen lx7
          replace sx7 := look_lt lx7
          replace lx8 : look w1 (b8) = some (.cells (VA (vmin f g)) 26 (0, 0)) := by rw [look_below hb1 (by omega)]; first | assumption | go_simp
          replace cx8 : ∀ i, i < 12 → World.cell? w1 ⟨b8, i, none⟩ = some (.int .u32 ((((vmin f g)) i : Nat) : Int)) := fun i hi => by rw [look_cell lx8, VA_get _ _ hi]
          replace fx8 := look_frozen lx8
          replace sx8 := look_lt lx8
          replace hB3 := belT hB3 hb1
          clear hb1
          go_wp2_with fail
          refine ((P2.out ▸ covers_any h g _)).mono ?_
          rintro e w1 ⟨rfl, hb1⟩
          replace lx3 : look w1 (w.heap.size) = some (.cells (VA f) 26 (0, 0)) := by rw [look_below hb1 (by omega)]; first | assumption | go_simp
          replace cx3 : ∀ i, i < 12 → World.cell? w1 ⟨w.heap.size, i, none⟩ = some (.int .u32 (((f) i : Nat) : Int)) := fun i hi => by rw [look_cell lx3, VA_get _ _ hi]
          replace fx3 := look_frozen lx3
          replace sx3 := look_lt lx3
          replace lx4 : look w1 (w.heap.size + 1) = some (.cells (VA g) 26 (0, 0)) := by rw [look_below hb1 (by omega)]; first | assumption | go_simp
          replace cx4 : ∀ i, i < 12 → World.cell? w1 ⟨w.heap.size + 1, i, none⟩ = some (.int .u32 (((g) i : Nat) : Int)) := fun i hi => by rw [look_cell lx4, VA_get _ _ hi]
          replace fx4 := look_frozen lx4
          replace sx4 := look_lt lx4
          replace lx5 : look w1 (w.heap.size + 1 + 1) = some (.cells (VA h) 26 (0, 0)) := by rw [look_below hb1 (by omega)]; first | assumption | go_simp
          replace cx5 : ∀ i, i < 12 → World.cell? w1 ⟨w.heap.size + 1 + 1, i, none⟩ = some (.int .u32 (((h) i : Nat) : Int)) := fun i hi => by rw [look_cell lx5, VA_get _ _ hi]
          replace fx5 := look_frozen lx5
          replace sx5 := look_lt lx5
          replace lx7 : look w1 (b7) = some (.cells (VA (vmax f g)) 26 (0, 0)) := by rw [look_below hb1 (by omega)]; first | assumption | go_simp
          replace cx7 : ∀ i, i < 12 → World.cell? w1 ⟨b7, i, none⟩ = some (.int .u32 ((((vmax f g)) i : Nat) : Int)) := fun i hi => by rw [look_cell lx7, VA_get _ _ hi]
          replace fx7 := look_frozen lx7
          replace sx7 := look_lt lx7
          replace lx8 : look w1 (b8) = some (.cells (VA (vmin f g)) 26 (0, 0)) := by rw [look_below hb1 (by omega)]; first | assumption | go_simp
          replace cx8 : ∀ i, i < 12 → World.cell? w1 ⟨b8, i, none⟩ = some (.int .u32 ((((vmin f g)) i : Nat) : Int)) := fun i hi => by rw [look_cell lx8, VA_get _ _ hi]
          replace fx8 := look_frozen lx8
          replace sx8 := look_lt lx8
          replace hB3 := belT hB3 hb1
          clear hb1
          go_wp2_with fail
          refine ((Q1.out ▸ covers_any f h _)).mono ?_
          rintro e w1 ⟨rfl, hb1⟩
          replace lx3 : look w1 (w.heap.size) = some (.cells (VA f) 26 (0, 0)) := by rw [look_below hb1 (by omega)]; first | assumption | go_simp
          replace cx3 : ∀ i, i < 12 → World.cell? w1 ⟨w.heap.size, i, none⟩ = some (.int .u32 (((f) i : Nat) : Int)) := fun i hi => by rw [look_cell lx3, VA_get _ _ hi]
          replace fx3 := look_frozen lx3
          replace sx3 := look_lt lx3
          replace lx4 : look w1 (w.heap.size + 1) = some (.cells (VA g) 26 (0, 0)) := by rw [look_below hb1 (by omega)]; first | assumption | go_simp
          replace cx4 : ∀ i, i < 12 → World.cell? w1 ⟨w.heap.size + 1, i, none⟩ = some (.int .u32 (((g) i : Nat) : Int)) := fun i hi => by rw [look_cell lx4, VA_get _ _ hi]
          replace fx4 := look_frozen lx4
          replace sx4 := look_lt lx4
          replace lx5 : look w1 (w.heap.size + 1 + 1) = some (.cells (VA h) 26 (0, 0)) := by rw [look_below hb1 (by omega)]; first | assumption | go_simp
          replace cx5 : ∀ i, i < 12 → World.cell? w1 ⟨w.heap.size + 1 + 1, i, none⟩ = some (.int .u32 (((h) i : Nat) : Int)) := fun i hi => by rw [look_cell lx5, VA_get _ _ hi]
          replace fx5 := look_frozen lx5
          replace sx5 := look_lt lx5
          replace lx7 : look w1 (b7) = some (.cells (VA (vmax f g)) 26 (0, 0)) := by rw [look_below hb1 (by omega)]; first | assumption | go_simp
          replace cx7 : ∀ i, i < 12 → World.cell? w1 ⟨b7, i, none⟩ = some (.int .u32 ((((vmax f g)) i : Nat) : Int)) := fun i hi => by rw [look_cell lx7, VA_get _ _ hi]
          replace fx7 := look_frozen lx7
          replace sx7 := look_lt lx7
          replace lx8 : look w1 (b8) = some (.cells (VA (vmin f g)) 26 (0, 0)) := by rw [look_below hb1 (by omega)]; first | assumption | go_simp
          replace cx8 : ∀ i, i < 12 → World.cell? w1 ⟨b8, i, none⟩ = some (.int .u32 ((((vmin f g)) i : Nat) : Int)) := fun i hi => by rw [look_cell lx8, VA_get _ _ hi]
          replace fx8 := look_frozen lx8
          replace sx8 := look_lt lx8
          replace hB3 := belT hB3 hb1
          clear hb1
          go_wp2_with fail
          refine ((Q2.out ▸ covers_any g h _)).mono ?_
          rintro e w1 ⟨rfl, hb1⟩
          replace lx3 : look w1 (w.heap.size) = some (.cells (VA f) 26 (0, 0)) := by rw [look_below hb1 (by omega)]; first | assumption | go_simp
          replace cx3 : ∀ i, i < 12 → World.cell? w1 ⟨w.heap.size, i, none⟩ = some (.int .u32 (((f) i : Nat) : Int)) := fun i hi => by rw [look_cell lx3, VA_get _ _ hi]
          replace fx3 := look_frozen lx3
          replace sx3 := look_lt lx3
          replace lx4 : look w1 (w.heap.size + 1) = some (.cells (VA g) 26 (0, 0)) := by rw [look_below hb1 (by omega)]; first | assumption | go_simp
          replace cx4 : ∀ i, i < 12 → World.cell? w1 ⟨w.heap.size + 1, i, none⟩ = some (.int .u32 (((g) i : Nat) : Int)) := fun i hi => by rw [look_cell lx4, VA_get _ _ hi]
          replace fx4 := look_frozen lx4
          replace sx4 := look_lt lx4
          replace lx5 : look w1 (w.heap.size + 1 + 1) = some (.cells (VA h) 26 (0, 0)) := by rw [look_below hb1 (by omega)]; first | assumption | go_simp
          replace cx5 : ∀ i, i < 12 → World.cell? w1 ⟨w.heap.size + 1 + 1, i, none⟩ = some (.int .u32 (((h) i : Nat) : Int)) := fun i hi => by rw [look_cell lx5, VA_get _ _ hi]
          replace fx5 := look_frozen lx5
          replace sx5 := look_lt lx5
          replace lx7 : look w1 (b7) = some (.cells (VA (vmax f g)) 26 (0, 0)) := by rw [look_below hb1 (by omega)]; first | assumption | go_simp
          replace cx7 : ∀ i, i < 12 → World.cell? w1 ⟨b7, i, none⟩ = some (.int .u32 ((((vmax f g)) i : Nat) : Int)) := fun i hi => by rw [look_cell lx7, VA_get _ _ hi]
          replace fx7 := look_frozen lx7
          replace sx7 := look_lt lx7
          replace lx8 : look w1 (b8) = some (.cells (VA (vmin f g)) 26 (0, 0)) := by rw [look_below hb1 (by omega)]; first | assumption | go_simp
          replace cx8 : ∀ i, i < 12 → World.cell? w1 ⟨b8, i, none⟩ = some (.int .u32 ((((vmin f g)) i : Nat) : Int)) := fun i hi => by rw [look_cell lx8, VA_get _ _ hi]
          replace fx8 := look_frozen lx8
          replace sx8 := look_lt lx8
          replace hB3 := belT hB3 hb1
          clear hb1
          go_wp2_with fail
          refine ((Q3.out ▸ covers_any (vmin f g) h _)).mono ?_
          rintro e w1 ⟨rfl, hb1⟩
          replace lx3 : look w1 (w.heap.size) = some (.cells (VA f) 26 (0, 0)) := by rw [look_below hb1 (by omega)]; first | assumption | go_simp
          replace cx3 : ∀ i, i < 12 → World.cell? w1 ⟨w.heap.size, i, none⟩ = some (.int .u32 (((f) i : Nat) : Int)) := fun i hi => by rw [look_cell lx3, VA_get _ _ hi]
          replace fx3 := look_frozen lx3
          replace sx3 := look_lt lx3
          replace lx4 : look w1 (w.heap.size + 1) = some (.cells (VA g) 26 (0, 0)) := by rw [look_below hb1 (by omega)]; first | assumption | go_simp
          replace cx4 : ∀ i, i < 12 → World.cell? w1 ⟨w.heap.size + 1, i, none⟩ = some (.int .u32 (((g) i : Nat) : Int)) := fun i hi => by rw [look_cell lx4, VA_get _ _ hi]
          replace fx4 := look_frozen lx4
          replace sx4 := look_lt lx4
          replace lx5 : look w1 (w.heap.size + 1 + 1) = some (.cells (VA h) 26 (0, 0)) := by rw [look_below hb1 (by omega)]; first | assumption | go_simp
          replace cx5 : ∀ i, i < 12 → World.cell? w1 ⟨w.heap.size + 1 + 1, i, none⟩ = some (.int .u32 (((h) i : Nat) : Int)) := fun i hi => by rw [look_cell lx5, VA_get _ _ hi]
          replace fx5 := look_frozen lx5
          replace sx5 := look_lt lx5
          replace lx7 : look w1 (b7) = some (.cells (VA (vmax f g)) 26 (0, 0)) := by rw [look_below hb1 (by omega)]; first | assumption | go_simp
          replace cx7 : ∀ i, i < 12 → World.cell? w1 ⟨b7, i, none⟩ = some (.int .u32 ((((vmax f g)) i : Nat) : Int)) := fun i hi => by rw [look_cell lx7, VA_get _ _ hi]
          replace fx7 := look_frozen lx7
          replace sx7 := look_lt lx7
          replace lx8 : look w1 (b8) = some (.cells (VA (vmin f g)) 26 (0, 0)) := by rw [look_below hb1 (by omega)]; first | assumption | go_simp
          replace cx8 : ∀ i, i < 12 → World.cell? w1 ⟨b8, i, none⟩ = some (.int .u32 ((((vmin f g)) i : Nat) : Int)) := fun i hi => by rw [look_cell lx8, VA_get _ _ hi]
          replace fx8 := look_frozen lx8
          replace sx8 := look_lt lx8
          replace hB3 := belT hB3 hb1
          clear hb1
          have hB4 := hB3
          clear hB3
          go_wp2_with fail
          refine wp_region_words mixed 30 ([] :: [83] :: [84] :: [84] :: [85, 86, 84] :: [87, 84] :: [84] :: [84] :: [84] :: [90, 91, 84] :: [92, 84] :: [89, 93, 84] :: [94, 84] :: [88, 95, 84] :: [84, 96] :: [97] :: [98] :: [98] :: [99, 100, 98] :: [101, 98] :: [98] :: [102, 103, 98] :: [98, 104] :: [105] :: [106] :: [106] :: [107, 108, 106] :: [106] :: [109, 110, 106] :: [106, 111] :: []) (isV (.bool true) :: isV (.bool true) :: isV (.agg (VA (vmax f g))) :: isV (.agg (VA h)) :: isRow 26 2 (VA (vmax f g) ++ VA h) :: isV (.agg (VA (vmax (vmax f g) h))) :: isV (.agg (VA f)) :: isV (.agg (VA g)) :: isV (.agg (VA h)) :: isRow 26 2 (VA g ++ VA h) :: isV (.agg (VA (vmax g h))) :: isRow 26 2 (VA f ++ VA (vmax g h)) :: isV (.agg (VA (vmax f (vmax g h)))) :: isV (.bool true) :: isV (.bool true) :: isV (.bool true) :: isV (.agg (VA f)) :: isV (.agg (VA (vmin f g))) :: isRow 26 2 (VA f ++ VA (vmin f g)) :: isV (.agg (VA (vmax f (vmin f g)))) :: isV (.agg (VA f)) :: isV (.bool true) :: isV (.bool true) :: isV (.bool true) :: isV (.agg (VA f)) :: isV (.agg (VA (vmax f g))) :: isV (.agg (VA (vmin f (vmax f g)))) :: isV (.agg (VA f)) :: isV (.bool true) :: isV (.bool true) :: []) (by decide) (by kernel_rfl)
            ⟨stab_isV _, stab_isV _, stab_isV _, stab_isV _, stab_isRow _ _ _, stab_isV _, stab_isV _, stab_isV _, stab_isV _, stab_isRow _ _ _, stab_isV _, stab_isRow _ _ _, stab_isV _, stab_isV _, stab_isV _, stab_isV _, stab_isV _, stab_isV _, stab_isRow _ _ _, stab_isV _, stab_isV _, stab_isV _, stab_isV _, stab_isV _, stab_isV _, stab_isV _, stab_isV _, stab_isV _, stab_isV _, stab_isV _, trivial⟩ ⟨?_, ?_, ?_, ?_, ?_, ?_, ?_, ?_, ?_, ?_, ?_, ?_, ?_, ?_, ?_, ?_, ?_, ?_, ?_, ?_, ?_, ?_, ?_, ?_, ?_, ?_, ?_, ?_, ?_, ?_, trivial⟩ ?_
          · intro vs wq hB hm
            clear hm
            simp only [fill]
            go_wp2_with fail
            refine (alive04 _).mono ?_
            rintro e w1 ⟨rfl, hb1⟩
            go_wp2
            exact ⟨_, rfl, rfl, hb1, trivial⟩
          · intro vs wq hB hm
            have h83 : vs 83 = .bool true := meets_get hm 0 rfl rfl rfl rfl
            clear hm
            simp only [fill, h83]
            go_wp2
            exact ⟨_, rfl, rfl, Below.refl _ _, trivial⟩
          · intro vs wq hB hm
            have hl : look wq (b7) = some (.cells (VA (vmax f g)) 26 (0, 0)) := by rw [look_below hB (by omega)]; first | assumption | go_simp
            have h84 : vs 84 = .bool true := meets_get hm 1 rfl rfl rfl rfl
            clear hm
            simp only [fill, h84]
            go_wp2
            exact ⟨_, rfl, rfl, Below.refl _ _, trivial⟩
          · intro vs wq hB hm
            have hl : look wq (w.heap.size + 1 + 1) = some (.cells (VA h) 26 (0, 0)) := by rw [look_below hB (by omega)]; first | assumption | go_simp
            have h84 : vs 84 = .bool true := meets_get hm 1 rfl rfl rfl rfl
            clear hm
            simp only [fill, h84]
            go_wp2
            exact ⟨_, rfl, rfl, Below.refl _ _, trivial⟩
          · intro vs wq hB hm
            have h85 : vs 85 = .agg (VA (vmax f g)) := meets_get hm 2 rfl rfl rfl rfl
            have h86 : vs 86 = .agg (VA h) := meets_get hm 3 rfl rfl rfl rfl
            have h84 : vs 84 = .bool true := meets_get hm 1 rfl rfl rfl rfl
            clear hm
            simp only [fill, h85, h86, h84]
            go_wp2
            exact ⟨_, rfl, ⟨_, rfl, look_alloc_at _ _ _ rfl⟩, (Below.refl _ _).alloc (Nat.le_refl _) _, fun b hb => by cases hb; exact ⟨Nat.le_refl _, by simp⟩⟩
          · intro vs wq hB hm
            obtain ⟨b87, h87, l87⟩ := meets_get hm 4 rfl rfl rfl rfl
            have h84 : vs 84 = .bool true := meets_get hm 1 rfl rfl rfl rfl
            clear hm
            simp only [fill, h84, h87]
            go_wp2_with fail
            refine (join_two (vmax f g) h b87 _ l87).mono ?_
            rintro e w1 ⟨rfl, hb1⟩
            go_wp2
            exact ⟨_, rfl, rfl, hb1, trivial⟩
          · intro vs wq hB hm
            have hl : look wq (w.heap.size) = some (.cells (VA f) 26 (0, 0)) := by rw [look_below hB (by omega)]; first | assumption | go_simp
            have h84 : vs 84 = .bool true := meets_get hm 1 rfl rfl rfl rfl
            clear hm
            simp only [fill, h84]
            go_wp2
            exact ⟨_, rfl, rfl, Below.refl _ _, trivial⟩
          · intro vs wq hB hm
            have hl : look wq (w.heap.size + 1) = some (.cells (VA g) 26 (0, 0)) := by rw [look_below hB (by omega)]; first | assumption | go_simp
            have h84 : vs 84 = .bool true := meets_get hm 1 rfl rfl rfl rfl
            clear hm
            simp only [fill, h84]
            go_wp2
            exact ⟨_, rfl, rfl, Below.refl _ _, trivial⟩
          · intro vs wq hB hm
            have hl : look wq (w.heap.size + 1 + 1) = some (.cells (VA h) 26 (0, 0)) := by rw [look_below hB (by omega)]; first | assumption | go_simp
            have h84 : vs 84 = .bool true := meets_get hm 1 rfl rfl rfl rfl
            clear hm
            simp only [fill, h84]
            go_wp2
            exact ⟨_, rfl, rfl, Below.refl _ _, trivial⟩
          · intro vs wq hB hm
            have h90 : vs 90 = .agg (VA g) := meets_get hm 7 rfl rfl rfl rfl
            have h91 : vs 91 = .agg (VA h) := meets_get hm 8 rfl rfl rfl rfl
            have h84 : vs 84 = .bool true := meets_get hm 1 rfl rfl rfl rfl
            clear hm
            simp only [fill, h90, h91, h84]
            go_wp2
            exact ⟨_, rfl, ⟨_, rfl, look_alloc_at _ _ _ rfl⟩, (Below.refl _ _).alloc (Nat.le_refl _) _, fun b hb => by cases hb; exact ⟨Nat.le_refl _, by simp⟩⟩
          · intro vs wq hB hm
            obtain ⟨b92, h92, l92⟩ := meets_get hm 9 rfl rfl rfl rfl
            have h84 : vs 84 = .bool true := meets_get hm 1 rfl rfl rfl rfl
            clear hm
            simp only [fill, h84, h92]
            go_wp2_with fail
            refine (join_two g h b92 _ l92).mono ?_
            rintro e w1 ⟨rfl, hb1⟩
            go_wp2
            exact ⟨_, rfl, rfl, hb1, trivial⟩
          · intro vs wq hB hm
            have h89 : vs 89 = .agg (VA f) := meets_get hm 6 rfl rfl rfl rfl
            have h93 : vs 93 = .agg (VA (vmax g h)) := meets_get hm 10 rfl rfl rfl rfl
            have h84 : vs 84 = .bool true := meets_get hm 1 rfl rfl rfl rfl
            clear hm
            simp only [fill, h89, h93, h84]
            go_wp2
            exact ⟨_, rfl, ⟨_, rfl, look_alloc_at _ _ _ rfl⟩, (Below.refl _ _).alloc (Nat.le_refl _) _, fun b hb => by cases hb; exact ⟨Nat.le_refl _, by simp⟩⟩
          · intro vs wq hB hm
            obtain ⟨b94, h94, l94⟩ := meets_get hm 11 rfl rfl rfl rfl
            have h84 : vs 84 = .bool true := meets_get hm 1 rfl rfl rfl rfl
            clear hm
            simp only [fill, h84, h94]
            go_wp2_with fail
            refine (join_two f (vmax g h) b94 _ l94).mono ?_
            rintro e w1 ⟨rfl, hb1⟩
            go_wp2
            exact ⟨_, rfl, rfl, hb1, trivial⟩
          · intro vs wq hB hm
            have h88 : vs 88 = .agg (VA (vmax (vmax f g) h)) := meets_get hm 5 rfl rfl rfl rfl
            have h95 : vs 95 = .agg (VA (vmax f (vmax g h))) := meets_get hm 12 rfl rfl rfl rfl
            have h84 : vs 84 = .bool true := meets_get hm 1 rfl rfl rfl rfl
            clear hm
            simp only [fill, h88, h95, h84]
            go_wp2
            exact ⟨_, rfl, rfl, Below.refl _ _, trivial⟩
          · intro vs wq hB hm
            have h84 : vs 84 = .bool true := meets_get hm 1 rfl rfl rfl rfl
            have h96 : vs 96 = .bool true := meets_get hm 13 rfl rfl rfl rfl
            clear hm
            simp only [fill, h84, h96]
            go_wp2
            exact ⟨_, rfl, rfl, Below.refl _ _, trivial⟩
          · intro vs wq hB hm
            have h97 : vs 97 = .bool true := meets_get hm 14 rfl rfl rfl rfl
            clear hm
            simp only [fill, h97]
            go_wp2
            exact ⟨_, rfl, rfl, Below.refl _ _, trivial⟩
          · intro vs wq hB hm
            have hl : look wq (w.heap.size) = some (.cells (VA f) 26 (0, 0)) := by rw [look_below hB (by omega)]; first | assumption | go_simp
            have h98 : vs 98 = .bool true := meets_get hm 15 rfl rfl rfl rfl
            clear hm
            simp only [fill, h98]
            go_wp2
            exact ⟨_, rfl, rfl, Below.refl _ _, trivial⟩
          · intro vs wq hB hm
            have hl : look wq (b8) = some (.cells (VA (vmin f g)) 26 (0, 0)) := by rw [look_below hB (by omega)]; first | assumption | go_simp
            have h98 : vs 98 = .bool true := meets_get hm 15 rfl rfl rfl rfl
            clear hm
            simp only [fill, h98]
            go_wp2
            exact ⟨_, rfl, rfl, Below.refl _ _, trivial⟩
          · intro vs wq hB hm
            have h99 : vs 99 = .agg (VA f) := meets_get hm 16 rfl rfl rfl rfl
            have h100 : vs 100 = .agg (VA (vmin f g)) := meets_get hm 17 rfl rfl rfl rfl
            have h98 : vs 98 = .bool true := meets_get hm 15 rfl rfl rfl rfl
            clear hm
            simp only [fill, h99, h100, h98]
            go_wp2
            exact ⟨_, rfl, ⟨_, rfl, look_alloc_at _ _ _ rfl⟩, (Below.refl _ _).alloc (Nat.le_refl _) _, fun b hb => by cases hb; exact ⟨Nat.le_refl _, by simp⟩⟩
          · intro vs wq hB hm
            obtain ⟨b101, h101, l101⟩ := meets_get hm 18 rfl rfl rfl rfl
            have h98 : vs 98 = .bool true := meets_get hm 15 rfl rfl rfl rfl
            clear hm
            simp only [fill, h98, h101]
            go_wp2_with fail
            refine (join_two f (vmin f g) b101 _ l101).mono ?_
            rintro e w1 ⟨rfl, hb1⟩
            go_wp2
            exact ⟨_, rfl, rfl, hb1, trivial⟩
          · intro vs wq hB hm
            have hl : look wq (w.heap.size) = some (.cells (VA f) 26 (0, 0)) := by rw [look_below hB (by omega)]; first | assumption | go_simp
            have h98 : vs 98 = .bool true := meets_get hm 15 rfl rfl rfl rfl
            clear hm
            simp only [fill, h98]
            go_wp2
            exact ⟨_, rfl, rfl, Below.refl _ _, trivial⟩
          · intro vs wq hB hm
            have h102 : vs 102 = .agg (VA (vmax f (vmin f g))) := meets_get hm 19 rfl rfl rfl rfl
            have h103 : vs 103 = .agg (VA f) := meets_get hm 20 rfl rfl rfl rfl
            have h98 : vs 98 = .bool true := meets_get hm 15 rfl rfl rfl rfl
            clear hm
            simp only [fill, h102, h103, h98]
            go_wp2
            exact ⟨_, rfl, rfl, Below.refl _ _, trivial⟩
          · intro vs wq hB hm
            have h98 : vs 98 = .bool true := meets_get hm 15 rfl rfl rfl rfl
            have h104 : vs 104 = .bool true := meets_get hm 21 rfl rfl rfl rfl
            clear hm
            simp only [fill, h98, h104]
            go_wp2
            exact ⟨_, rfl, rfl, Below.refl _ _, trivial⟩
          · intro vs wq hB hm
            have h105 : vs 105 = .bool true := meets_get hm 22 rfl rfl rfl rfl
            clear hm
            simp only [fill, h105]
            go_wp2
            exact ⟨_, rfl, rfl, Below.refl _ _, trivial⟩
          · intro vs wq hB hm
            have hl : look wq (w.heap.size) = some (.cells (VA f) 26 (0, 0)) := by rw [look_below hB (by omega)]; first | assumption | go_simp
            have h106 : vs 106 = .bool true := meets_get hm 23 rfl rfl rfl rfl
            clear hm
            simp only [fill, h106]
            go_wp2
            exact ⟨_, rfl, rfl, Below.refl _ _, trivial⟩
          · intro vs wq hB hm
            have hl : look wq (b7) = some (.cells (VA (vmax f g)) 26 (0, 0)) := by rw [look_below hB (by omega)]; first | assumption | go_simp
            have h106 : vs 106 = .bool true := meets_get hm 23 rfl rfl rfl rfl
            clear hm
            simp only [fill, h106]
            go_wp2
            exact ⟨_, rfl, rfl, Below.refl _ _, trivial⟩
          · intro vs wq hB hm
            have h107 : vs 107 = .agg (VA f) := meets_get hm 24 rfl rfl rfl rfl
            have h108 : vs 108 = .agg (VA (vmax f g)) := meets_get hm 25 rfl rfl rfl rfl
            have h106 : vs 106 = .bool true := meets_get hm 23 rfl rfl rfl rfl
            clear hm
            simp only [fill, h107, h108, h106]
            go_wp2_with fail
            refine (meet_any f (vmax f g) _).mono ?_
            rintro e w1 ⟨rfl, hb1⟩
            go_wp2
            exact ⟨_, rfl, rfl, hb1, trivial⟩
          · intro vs wq hB hm
            have hl : look wq (w.heap.size) = some (.cells (VA f) 26 (0, 0)) := by rw [look_below hB (by omega)]; first | assumption | go_simp
            have h106 : vs 106 = .bool true := meets_get hm 23 rfl rfl rfl rfl
            clear hm
            simp only [fill, h106]
            go_wp2
            exact ⟨_, rfl, rfl, Below.refl _ _, trivial⟩
          · intro vs wq hB hm
            have h109 : vs 109 = .agg (VA (vmin f (vmax f g))) := meets_get hm 26 rfl rfl rfl rfl
            have h110 : vs 110 = .agg (VA f) := meets_get hm 27 rfl rfl rfl rfl
            have h106 : vs 106 = .bool true := meets_get hm 23 rfl rfl rfl rfl
            clear hm
            simp only [fill, h109, h110, h106]
            go_wp2
            exact ⟨_, rfl, rfl, Below.refl _ _, trivial⟩
          · intro vs wq hB hm
            have h106 : vs 106 = .bool true := meets_get hm 23 rfl rfl rfl rfl
            have h111 : vs 111 = .bool true := meets_get hm 28 rfl rfl rfl rfl
            clear hm
            simp only [fill, h106, h111]
            go_wp2
            exact ⟨_, rfl, rfl, Below.refl _ _, trivial⟩
          intro vs wq hB hm hne hlo
          have h83 : vs 83 = .bool true := hm 0 _ _ _ rfl rfl rfl
          have h84 : vs 84 = .bool true := hm 1 _ _ _ rfl rfl rfl
          have h85 : vs 85 = .agg (VA (vmax f g)) := hm 2 _ _ _ rfl rfl rfl
          have h86 : vs 86 = .agg (VA h) := hm 3 _ _ _ rfl rfl rfl
          obtain ⟨b87, h87, l87⟩ := hm 4 _ _ _ rfl rfl rfl
          have h88 : vs 88 = .agg (VA (vmax (vmax f g) h)) := hm 5 _ _ _ rfl rfl rfl
          have h89 : vs 89 = .agg (VA f) := hm 6 _ _ _ rfl rfl rfl
          have h90 : vs 90 = .agg (VA g) := hm 7 _ _ _ rfl rfl rfl
          have h91 : vs 91 = .agg (VA h) := hm 8 _ _ _ rfl rfl rfl
          obtain ⟨b92, h92, l92⟩ := hm 9 _ _ _ rfl rfl rfl
          have h93 : vs 93 = .agg (VA (vmax g h)) := hm 10 _ _ _ rfl rfl rfl
          obtain ⟨b94, h94, l94⟩ := hm 11 _ _ _ rfl rfl rfl
          have h95 : vs 95 = .agg (VA (vmax f (vmax g h))) := hm 12 _ _ _ rfl rfl rfl
          have h96 : vs 96 = .bool true := hm 13 _ _ _ rfl rfl rfl
          have h97 : vs 97 = .bool true := hm 14 _ _ _ rfl rfl rfl
          have h98 : vs 98 = .bool true := hm 15 _ _ _ rfl rfl rfl
          have h99 : vs 99 = .agg (VA f) := hm 16 _ _ _ rfl rfl rfl
          have h100 : vs 100 = .agg (VA (vmin f g)) := hm 17 _ _ _ rfl rfl rfl
          obtain ⟨b101, h101, l101⟩ := hm 18 _ _ _ rfl rfl rfl
          have h102 : vs 102 = .agg (VA (vmax f (vmin f g))) := hm 19 _ _ _ rfl rfl rfl
          have h103 : vs 103 = .agg (VA f) := hm 20 _ _ _ rfl rfl rfl
          have h104 : vs 104 = .bool true := hm 21 _ _ _ rfl rfl rfl
          have h105 : vs 105 = .bool true := hm 22 _ _ _ rfl rfl rfl
          have h106 : vs 106 = .bool true := hm 23 _ _ _ rfl rfl rfl
          have h107 : vs 107 = .agg (VA f) := hm 24 _ _ _ rfl rfl rfl
          have h108 : vs 108 = .agg (VA (vmax f g)) := hm 25 _ _ _ rfl rfl rfl
          have h109 : vs 109 = .agg (VA (vmin f (vmax f g))) := hm 26 _ _ _ rfl rfl rfl
          have h110 : vs 110 = .agg (VA f) := hm 27 _ _ _ rfl rfl rfl
          have h111 : vs 111 = .bool true := hm 28 _ _ _ rfl rfl rfl
          have h112 : vs 112 = .bool true := hm 29 _ _ _ rfl rfl rfl
          have lo87 : _ ≤ b87 ∧ b87 < wq.heap.size := hlo 4 _ _ rfl rfl rfl b87 (by rw [h87]; rfl)
          have lo92 : _ ≤ b92 ∧ b92 < wq.heap.size := hlo 9 _ _ rfl rfl rfl b92 (by rw [h92]; rfl)
          have ne87_92 : b87 ≠ b92 := fun h => hne 4 9 _ _ _ _ (by omega) rfl rfl rfl rfl rfl rfl b87 (by rw [h87]; rfl) (by rw [h92, h]; rfl)
          have lo94 : _ ≤ b94 ∧ b94 < wq.heap.size := hlo 11 _ _ rfl rfl rfl b94 (by rw [h94]; rfl)
          have ne87_94 : b87 ≠ b94 := fun h => hne 4 11 _ _ _ _ (by omega) rfl rfl rfl rfl rfl rfl b87 (by rw [h87]; rfl) (by rw [h94, h]; rfl)
          have ne92_94 : b92 ≠ b94 := fun h => hne 9 11 _ _ _ _ (by omega) rfl rfl rfl rfl rfl rfl b92 (by rw [h92]; rfl) (by rw [h94, h]; rfl)
          have lo101 : _ ≤ b101 ∧ b101 < wq.heap.size := hlo 18 _ _ rfl rfl rfl b101 (by rw [h101]; rfl)
          have ne87_101 : b87 ≠ b101 := fun h => hne 4 18 _ _ _ _ (by omega) rfl rfl rfl rfl rfl rfl b87 (by rw [h87]; rfl) (by rw [h101, h]; rfl)
          have ne92_101 : b92 ≠ b101 := fun h => hne 9 18 _ _ _ _ (by omega) rfl rfl rfl rfl rfl rfl b92 (by rw [h92]; rfl) (by rw [h101, h]; rfl)
          have ne94_101 : b94 ≠ b101 := fun h => hne 11 18 _ _ _ _ (by omega) rfl rfl rfl rfl rfl rfl b94 (by rw [h94]; rfl) (by rw [h101, h]; rfl)
          clear hne hlo
          simp only [fill, List.filterMap, List.take, List.drop, List.setIfInBounds_toArray, List.set_cons_zero, List.set_cons_succ, h83, h84, h85, h86, h87, h88, h89, h90, h91, h92, h93, h94, h95, h96, h97, h98, h99, h100, h101, h102, h103, h104, h105, h106, h107, h108, h109, h110, h111, h112]
          clear hm h83 h84 h85 h86 h87 h88 h89 h90 h91 h92 h93 h94 h95 h96 h97 h98 h99 h100 h101 h102 h103 h104 h105 h106 h107 h108 h109 h110 h111 h112
          go_wp2
          go_ret
          exact ⟨rfl, belT hB4 hB⟩
    · have P3 := Lib.hid (cov_least f g h p1 p2)
      have P1 := Lib.hid p1
      have P2 := Lib.hid p2
      clear p1 p2
      cases q1 : covB f h
      · have Q1 := Lib.hid q1
        clear q1
        go_wp2_with fail
        refine ((P1.out ▸ covers_any h f _)).mono ?_
        rintro e w1 ⟨rfl, hb1⟩
        replace lx3 : look w1 (w.heap.size) = some (.cells (VA f) 26 (0, 0)) := by rw [look_below hb1 (by omega)]; first | assumption | go_simp
        replace cx3 : ∀ i, i < 12 → World.cell? w1 ⟨w.heap.size, i, none⟩ = some (.int .u32 (((f) i : Nat) : Int)) := fun i hi => by rw [look_cell lx3, VA_get _ _ hi]
        replace fx3 := look_frozen lx3
        replace sx3 := look_lt lx3
        replace lx4 : look w1 (w.heap.size + 1) = some (.cells (VA g) 26 (0, 0)) := by rw [look_below hb1 (by omega)]; first | assumption | go_simp
        replace cx4 : ∀ i, i < 12 → World.cell? w1 ⟨w.heap.size + 1, i, none⟩ = some (.int .u32 (((g) i : Nat) : Int)) := fun i hi => by rw [look_cell lx4, VA_get _ _ hi]
        replace fx4 := look_frozen lx4
        replace sx4 := look_lt lx4
        replace lx5 : look w1 (w.heap.size + 1 + 1) = some (.cells (VA h) 26 (0, 0)) := by rw [look_below hb1 (by omega)]; first | assumption | go_simp
        replace cx5 : ∀ i, i < 12 → World.cell? w1 ⟨w.heap.size + 1 + 1, i, none⟩ = some (.int .u32 (((h) i : Nat) : Int)) := fun i hi => by rw [look_cell lx5, VA_get _ _ hi]
        replace fx5 := look_frozen lx5
        replace sx5 := look_lt lx5
        replace lx7 : look w1 (b7) = some (.cells (VA (vmax f g)) 26 (0, 0)) := by rw [look_below hb1 (by omega)]; first | assumption | go_simp
        replace cx7 : ∀ i, i < 12 → World.cell? w1 ⟨b7, i, none⟩ = some (.int .u32 ((((vmax f g)) i : Nat) : Int)) := fun i hi => by rw [look_cell lx7, VA_get _ _ hi]
        replace fx7 := look_frozen lx7
        replace sx7 := look_lt lx7
        replace lx8 : look w1 (b8) = some (.cells (VA (vmin f g)) 26 (0, 0)) := by rw [look_below hb1 (by omega)]; first | assumption | go_simp
        replace cx8 : ∀ i, i < 12 → World.cell? w1 ⟨b8, i, none⟩ = some (.int .u32 ((((vmin f g)) i : Nat) : Int)) := fun i hi => by rw [look_cell lx8, VA_get _ _ hi]
        replace fx8 := look_frozen lx8
        replace sx8 := look_lt lx8
        replace hB3 := belT hB3 hb1
        clear hb1
        go_wp2_with fail
        refine ((P2.out ▸ covers_any h g _)).mono ?_
        rintro e w1 ⟨rfl, hb1⟩
        replace lx3 : look w1 (w.heap.size) = some (.cells (VA f) 26 (0, 0)) := by rw [look_below hb1 (by omega)]; first | assumption | go_simp
        replace cx3 : ∀ i, i < 12 → World.cell? w1 ⟨w.heap.size, i, none⟩ = some (.int .u32 (((f) i : Nat) : Int)) := fun i hi => by rw [look_cell lx3, VA_get _ _ hi]
        replace fx3 := look_frozen lx3
        replace sx3 := look_lt lx3
        replace lx4 : look w1 (w.heap.size + 1) = some (.cells (VA g) 26 (0, 0)) := by rw [look_below hb1 (by omega)]; first | assumption | go_simp
        replace cx4 : ∀ i, i < 12 → World.cell? w1 ⟨w.heap.size + 1, i, none⟩ = some (.int .u32 (((g) i : Nat) : Int)) := fun i hi => by rw [look_cell lx4, VA_get _ _ hi]
        replace fx4 := look_frozen lx4
        replace sx4 := look_lt lx4
        replace lx5 : look w1 (w.heap.size + 1 + 1) = some (.cells (VA h) 26 (0, 0)) := by rw [look_below hb1 (by omega)]; first | assumption | go_simp
        replace cx5 : ∀ i, i < 12 → World.cell? w1 ⟨w.heap.size + 1 + 1, i, none⟩ = some (.int .u32 (((h) i : Nat) : Int)) := fun i hi => by rw [look_cell lx5, VA_get _ _ hi]
        replace fx5 := look_frozen lx5
        replace sx5 := look_lt lx5
        replace lx7 : look w1 (b7) = some (.cells (VA (vmax f g)) 26 (0, 0)) := by rw [look_below hb1 (by omega)]; first | assumption | go_simp
        replace cx7 : ∀ i, i < 12 → World.cell? w1 ⟨b7, i, none⟩ = some (.int .u32 ((((vmax f g)) i : Nat) : Int)) := fun i hi => by rw [look_cell lx7, VA_get _ _ hi]
        replace fx7 := look_frozen lx7
        replace sx7 := look_lt lx7
        replace lx8 : look w1 (b8) = some (.cells (VA (vmin f g)) 26 (0, 0)) := by rw [look_below hb1 (by omega)]; first | assumption | go_simp
        replace cx8 : ∀ i, i < 12 → World.cell? w1 ⟨b8, i, none⟩ = some (.int .u32 ((((vmin f g)) i : Nat) : Int)) := fun i hi => by rw [look_cell lx8, VA_get _ _ hi]
        replace fx8 := look_frozen lx8
        replace sx8 := look_lt lx8
        replace hB3 := belT hB3 hb1
        clear hb1
        go_wp2_with fail
        refine ((P3.out ▸ covers_any h (vmax f g) _)).mono ?_
        rintro e w1 ⟨rfl, hb1⟩
        replace lx3 : look w1 (w.heap.size) = some (.cells (VA f) 26 (0, 0)) := by rw [look_below hb1 (by omega)]; first | assumption | go_simp
        replace cx3 : ∀ i, i < 12 → World.cell? w1 ⟨w.heap.size, i, none⟩ = some (.int .u32 (((f) i : Nat) : Int)) := fun i hi => by rw [look_cell lx3, VA_get _ _ hi]
        replace fx3 := look_frozen lx3
        replace sx3 := look_lt lx3
        replace lx4 : look w1 (w.heap.size + 1) = some (.cells (VA g) 26 (0, 0)) := by rw [look_below hb1 (by omega)]; first | assumption | go_simp
        replace cx4 : ∀ i, i < 12 → World.cell? w1 ⟨w.heap.size + 1, i, none⟩ = some (.int .u32 (((g) i : Nat) : Int)) := fun i hi => by rw [look_cell lx4, VA_get _ _ hi]
        replace fx4 := look_frozen lx4
        replace sx4 := look_lt lx4
        replace lx5 : look w1 (w.heap.size + 1 + 1) = some (.cells (VA h) 26 (0, 0)) := by rw [look_below hb1 (by omega)]; first | assumption | go_simp
        replace cx5 : ∀ i, i < 12 → World.cell? w1 ⟨w.heap.size + 1 + 1, i, none⟩ = some (.int .u32 (((h) i : Nat) : Int)) := fun i hi => by rw [look_cell lx5, VA_get _ _ hi]
        replace fx5 := look_frozen lx5
        replace sx5 := look_lt lx5
        replace lx7 : look w1 (b7) = some (.cells (VA (vmax f g)) 26 (0, 0)) := by rw [look_below hb1 (by omega)]; first | assumption | go_simp
        replace cx7 : ∀ i, i < 12 → World.cell? w1 ⟨b7, i, none⟩ = some (.int .u32 ((((vmax f g)) i : Nat) : Int)) := fun i hi => by rw [look_cell lx7, VA_get _ _ hi]
        replace fx7 := look_frozen lx7
        replace sx7 := look_lt lx7
        replace lx8 : look w1 (b8) = some (.cells (VA (vmin f g)) 26 (0, 0)) := by rw [look_below hb1 (by omega)]; first | assumption | go_simp
        replace cx8 : ∀ i, i < 12 → World.cell? w1 ⟨b8, i, none⟩ = some (.int .u32 ((((vmin f g)) i : Nat) : Int)) := fun i hi => by rw [look_cell lx8, VA_get _ _ hi]
        replace fx8 := look_frozen lx8
        replace sx8 := look_lt lx8
        replace hB3 := belT hB3 hb1
        clear hb1
        go_wp2_with fail
        refine ((Q1.out ▸ covers_any f h _)).mono ?_
        rintro e w1 ⟨rfl, hb1⟩
        replace lx3 : look w1 (w.heap.size) = some (.cells (VA f) 26 (0, 0)) := by rw [look_below hb1 (by omega)]; first | assumption | go_simp
        replace cx3 : ∀ i, i < 12 → World.cell? w1 ⟨w.heap.size, i, none⟩ = some (.int .u32 (((f) i : Nat) : Int)) := fun i hi => by rw [look_cell lx3, VA_get _ _ hi]
        replace fx3 := look_frozen lx3
        replace sx3 := look_lt lx3
        replace lx4 : look w1 (w.heap.size + 1) = some (.cells (VA g) 26 (0, 0)) := by rw [look_below hb1 (by omega)]; first | assumption | go_simp
        replace cx4 : ∀ i, i < 12 → World.cell? w1 ⟨w.heap.size + 1, i, none⟩ = some (.int .u32 (((g) i : Nat) : Int)) := fun i hi => by rw [look_cell lx4, VA_get _ _ hi]
        replace fx4 := look_frozen lx4
        replace sx4 := look_lt lx4
        replace lx5 : look w1 (w.heap.size + 1 + 1) = some (.cells (VA h) 26 (0, 0)) := by rw [look_below hb1 (by omega)]; first | assumption | go_simp
        replace cx5 : ∀ i, i < 12 → World.cell? w1 ⟨w.heap.size + 1 + 1, i, none⟩ = some (.int .u32 (((h) i : Nat) : Int)) := fun i hi => by rw [look_cell lx5, VA_get _ _ hi]
        replace fx5 := look_frozen lx5
        replace sx5 := look_lt lx5
        replace lx7 : look w1 (b7) = some (.cells (VA (vmax f g)) 26 (0, 0)) := by rw [look_below hb1 (by omega)]; first | assumption | go_simp
        replace cx7 : ∀ i, i < 12 → World.cell? w1 ⟨b7, i, none⟩ = some (.int .u32 ((((vmax f g)) i : Nat) : Int)) := fun i hi => by rw [look_cell lx7, VA_get _ _ hi]
        replace fx7 := look_frozen lx7
        replace sx7 := look_lt lx7
        replace lx8 : look w1 (b8) = some (.cells (VA (vmin f g)) 26 (0, 0)) := by rw [look_below hb1 (by omega)]; first | assumption | go_simp
        replace cx8 : ∀ i, i < 12 → World.cell? w1 ⟨b8, i, none⟩ = some (.int .u32 ((((vmin f g)) i : Nat) : Int)) := fun i hi => by rw [look_cell lx8, VA_get _ _ hi]
        replace fx8 := look_frozen lx8
        replace sx8 := look_lt lx8
        replace hB3 := belT hB3 hb1
        clear hb1
        have hB4 := hB3
        clear hB3
        go_wp2_with fail
        refine wp_region_words mixed 30 ([] :: [83] :: [84] :: [84] :: [85, 86, 84] :: [87, 84] :: [84] :: [84] :: [84] :: [90, 91, 84] :: [92, 84] :: [89, 93, 84] :: [94, 84] :: [88, 95, 84] :: [84, 96] :: [97] :: [98] :: [98] :: [99, 100, 98] :: [101, 98] :: [98] :: [102, 103, 98] :: [98, 104] :: [105] :: [106] :: [106] :: [107, 108, 106] :: [106] :: [109, 110, 106] :: [106, 111] :: []) (isV (.bool true) :: isV (.bool true) :: isV (.agg (VA (vmax f g))) :: isV (.agg (VA h)) :: isRow 26 2 (VA (vmax f g) ++ VA h) :: isV (.agg (VA (vmax (vmax f g) h))) :: isV (.agg (VA f)) :: isV (.agg (VA g)) :: isV (.agg (VA h)) :: isRow 26 2 (VA g ++ VA h) :: isV (.agg (VA (vmax g h))) :: isRow 26 2 (VA f ++ VA (vmax g h)) :: isV (.agg (VA (vmax f (vmax g h)))) :: isV (.bool true) :: isV (.bool true) :: isV (.bool true) :: isV (.agg (VA f)) :: isV (.agg (VA (vmin f g))) :: isRow 26 2 (VA f ++ VA (vmin f g)) :: isV (.agg (VA (vmax f (vmin f g)))) :: isV (.agg (VA f)) :: isV (.bool true) :: isV (.bool true) :: isV (.bool true) :: isV (.agg (VA f)) :: isV (.agg (VA (vmax f g))) :: isV (.agg (VA (vmin f (vmax f g)))) :: isV (.agg (VA f)) :: isV (.bool true) :: isV (.bool true) :: []) (by decide) (by kernel_rfl)
          ⟨stab_isV _, stab_isV _, stab_isV _, stab_isV _, stab_isRow _ _ _, stab_isV _, stab_isV _, stab_isV _, stab_isV _, stab_isRow _ _ _, stab_isV _, stab_isRow _ _ _, stab_isV _, stab_isV _, stab_isV _, stab_isV _, stab_isV _, stab_isV _, stab_isRow _ _ _, stab_isV _, stab_isV _, stab_isV _, stab_isV _, stab_isV _, stab_isV _, stab_isV _, stab_isV _, stab_isV _, stab_isV _, stab_isV _, trivial⟩ ⟨?_, ?_, ?_, ?_, ?_, ?_, ?_, ?_, ?_, ?_, ?_, ?_, ?_, ?_, ?_, ?_, ?_, ?_, ?_, ?_, ?_, ?_, ?_, ?_, ?_, ?_, ?_, ?_, ?_, ?_, trivial⟩ ?_
        · intro vs wq hB hm
          clear hm
          simp only [fill]
          go_wp2_with fail
          refine (alive04 _).mono ?_
          rintro e w1 ⟨rfl, hb1⟩
          go_wp2
          exact ⟨_, rfl, rfl, hb1, trivial⟩
        · intro vs wq hB hm
          have h83 : vs 83 = .bool true := meets_get hm 0 rfl rfl rfl rfl
          clear hm
          simp only [fill, h83]
          go_wp2
          exact ⟨_, rfl, rfl, Below.refl _ _, trivial⟩
        · intro vs wq hB hm
          have hl : look wq (b7) = some (.cells (VA (vmax f g)) 26 (0, 0)) := by rw [look_below hB (by omega)]; first | assumption | go_simp
          have h84 : vs 84 = .bool true := meets_get hm 1 rfl rfl rfl rfl
          clear hm
          simp only [fill, h84]
          go_wp2
          exact ⟨_, rfl, rfl, Below.refl _ _, trivial⟩
        · intro vs wq hB hm
          have hl : look wq (w.heap.size + 1 + 1) = some (.cells (VA h) 26 (0, 0)) := by rw [look_below hB (by omega)]; first | assumption | go_simp
          have h84 : vs 84 = .bool true := meets_get hm 1 rfl rfl rfl rfl
          clear hm
          simp only [fill, h84]
          go_wp2
          exact ⟨_, rfl, rfl, Below.refl _ _, trivial⟩
        · intro vs wq hB hm
          have h85 : vs 85 = .agg (VA (vmax f g)) := meets_get hm 2 rfl rfl rfl rfl
          have h86 : vs 86 = .agg (VA h) := meets_get hm 3 rfl rfl rfl rfl
          have h84 : vs 84 = .bool true := meets_get hm 1 rfl rfl rfl rfl
          clear hm
          simp only [fill, h85, h86, h84]
          go_wp2
          exact ⟨_, rfl, ⟨_, rfl, look_alloc_at _ _ _ rfl⟩, (Below.refl _ _).alloc (Nat.le_refl _) _, fun b hb => by cases hb; exact ⟨Nat.le_refl _, by simp⟩⟩
        · intro vs wq hB hm
          obtain ⟨b87, h87, l87⟩ := meets_get hm 4 rfl rfl rfl rfl
          have h84 : vs 84 = .bool true := meets_get hm 1 rfl rfl rfl rfl
          clear hm
          simp only [fill, h84, h87]
          go_wp2_with fail
          refine (join_two (vmax f g) h b87 _ l87).mono ?_
          rintro e w1 ⟨rfl, hb1⟩
          go_wp2
          exact ⟨_, rfl, rfl, hb1, trivial⟩
        · intro vs wq hB hm
          have hl : look wq (w.heap.size) = some (.cells (VA f) 26 (0, 0)) := by rw [look_below hB (by omega)]; first | assumption | go_simp
          have h84 : vs 84 = .bool true := meets_get hm 1 rfl rfl rfl rfl
          clear hm
          simp only [fill, h84]
          go_wp2
          exact ⟨_, rfl, rfl, Below.refl _ _, trivial⟩
        · intro vs wq hB hm
          have hl : look wq (w.heap.size + 1) = some (.cells (VA g) 26 (0, 0)) := by rw [look_below hB (by omega)]; first | assumption | go_simp
          have h84 : vs 84 = .bool true := meets_get hm 1 rfl rfl rfl rfl
          clear hm
          simp only [fill, h84]
          go_wp2
          exact ⟨_, rfl, rfl, Below.refl _ _, trivial⟩
        · intro vs wq hB hm
          have hl : look wq (w.heap.size + 1 + 1) = some (.cells (VA h) 26 (0, 0)) := by rw [look_below hB (by omega)]; first | assumption | go_simp
          have h84 : vs 84 = .bool true := meets_get hm 1 rfl rfl rfl rfl
          clear hm
          simp only [fill, h84]
          go_wp2
          exact ⟨_, rfl, rfl, Below.refl _ _, trivial⟩
        · intro vs wq hB hm
          have h90 : vs 90 = .agg (VA g) := meets_get hm 7 rfl rfl rfl rfl
          have h91 : vs 91 = .agg (VA h) := meets_get hm 8 rfl rfl rfl rfl
          have h84 : vs 84 = .bool true := meets_get hm 1 rfl rfl rfl rfl
          clear hm
          simp only [fill, h90, h91, h84]
          go_wp2
          exact ⟨_, rfl, ⟨_, rfl, look_alloc_at _ _ _ rfl⟩, (Below.refl _ _).alloc (Nat.le_refl _) _, fun b hb => by cases hb; exact ⟨Nat.le_refl _, by simp⟩⟩
        · intro vs wq hB hm
          obtain ⟨b92, h92, l92⟩ := meets_get hm 9 rfl rfl rfl rfl
          have h84 : vs 84 = .bool true := meets_get hm 1 rfl rfl rfl rfl
          clear hm
          simp only [fill, h84, h92]
          go_wp2_with fail
          refine (join_two g h b92 _ l92).mono ?_
          rintro e w1 ⟨rfl, hb1⟩
          go_wp2
          exact ⟨_, rfl, rfl, hb1, trivial⟩
        · intro vs wq hB hm
          have h89 : vs 89 = .agg (VA f) := meets_get hm 6 rfl rfl rfl rfl
          have h93 : vs 93 = .agg (VA (vmax g h)) := meets_get hm 10 rfl rfl rfl rfl
          have h84 : vs 84 = .bool true := meets_get hm 1 rfl rfl rfl rfl
          clear hm
          simp only [fill, h89, h93, h84]
          go_wp2
          exact ⟨_, rfl, ⟨_, rfl, look_alloc_at _ _ _ rfl⟩, (Below.refl _ _).alloc (Nat.le_refl _) _, fun b hb => by cases hb; exact ⟨Nat.le_refl _, by simp⟩⟩
        · intro vs wq hB hm
          obtain ⟨b94, h94, l94⟩ := meets_get hm 11 rfl rfl rfl rfl
          have h84 : vs 84 = .bool true := meets_get hm 1 rfl rfl rfl rfl
          clear hm
          simp only [fill, h84, h94]
          go_wp2_with fail
          refine (join_two f (vmax g h) b94 _ l94).mono ?_
          rintro e w1 ⟨rfl, hb1⟩
          go_wp2
          exact ⟨_, rfl, rfl, hb1, trivial⟩
        · intro vs wq hB hm
          have h88 : vs 88 = .agg (VA (vmax (vmax f g) h)) := meets_get hm 5 rfl rfl rfl rfl
          have h95 : vs 95 = .agg (VA (vmax f (vmax g h))) := meets_get hm 12 rfl rfl rfl rfl
          have h84 : vs 84 = .bool true := meets_get hm 1 rfl rfl rfl rfl
          clear hm
          simp only [fill, h88, h95, h84]
          go_wp2
          exact ⟨_, rfl, rfl, Below.refl _ _, trivial⟩
        · intro vs wq hB hm
          have h84 : vs 84 = .bool true := meets_get hm 1 rfl rfl rfl rfl
          have h96 : vs 96 = .bool true := meets_get hm 13 rfl rfl rfl rfl
          clear hm
          simp only [fill, h84, h96]
          go_wp2
          exact ⟨_, rfl, rfl, Below.refl _ _, trivial⟩
        · intro vs wq hB hm
          have h97 : vs 97 = .bool true := meets_get hm 14 rfl rfl rfl rfl
          clear hm
          simp only [fill, h97]
          go_wp2
          exact ⟨_, rfl, rfl, Below.refl _ _, trivial⟩
        · intro vs wq hB hm
          have hl : look wq (w.heap.size) = some (.cells (VA f) 26 (0, 0)) := by rw [look_below hB (by omega)]; first | assumption | go_simp
          have h98 : vs 98 = .bool true := meets_get hm 15 rfl rfl rfl rfl
          clear hm
          simp only [fill, h98]
          go_wp2
          exact ⟨_, rfl, rfl, Below.refl _ _, trivial⟩
        · intro vs wq hB hm
          have hl : look wq (b8) = some (.cells (VA (vmin f g)) 26 (0, 0)) := by rw [look_below hB (by omega)]; first | assumption | go_simp
          have h98 : vs 98 = .bool true := meets_get hm 15 rfl rfl rfl rfl
          clear hm
          simp only [fill, h98]
          go_wp2
          exact ⟨_, rfl, rfl, Below.refl _ _, trivial⟩
        · intro vs wq hB hm
          have h99 : vs 99 = .agg (VA f) := meets_get hm 16 rfl rfl rfl rfl
          have h100 : vs 100 = .agg (VA (vmin f g)) := meets_get hm 17 rfl rfl rfl rfl
          have h98 : vs 98 = .bool true := meets_get hm 15 rfl rfl rfl rfl
          clear hm
          simp only [fill, h99, h100, h98]
          go_wp2
          exact ⟨_, rfl, ⟨_, rfl, look_alloc_at _ _ _ rfl⟩, (Below.refl _ _).alloc (Nat.le_refl _) _, fun b hb => by cases hb; exact ⟨Nat.le_refl _, by simp⟩⟩
        · intro vs wq hB hm
          obtain ⟨b101, h101, l101⟩ := meets_get hm 18 rfl rfl rfl rfl
          have h98 : vs 98 = .bool true := meets_get hm 15 rfl rfl rfl rfl
          clear hm
          simp only [fill, h98, h101]
          go_wp2_with fail
          refine (join_two f (vmin f g) b101 _ l101).mono ?_
          rintro e w1 ⟨rfl, hb1⟩
          go_wp2
          exact ⟨_, rfl, rfl, hb1, trivial⟩
        · intro vs wq hB hm
          have hl : look wq (w.heap.size) = some (.cells (VA f) 26 (0, 0)) := by rw [look_below hB (by omega)]; first | assumption | go_simp
          have h98 : vs 98 = .bool true := meets_get hm 15 rfl rfl rfl rfl
          clear hm
          simp only [fill, h98]
          go_wp2
          exact ⟨_, rfl, rfl, Below.refl _ _, trivial⟩
        · intro vs wq hB hm
          have h102 : vs 102 = .agg (VA (vmax f (vmin f g))) := meets_get hm 19 rfl rfl rfl rfl
          have h103 : vs 103 = .agg (VA f) := meets_get hm 20 rfl rfl rfl rfl
          have h98 : vs 98 = .bool true := meets_get hm 15 rfl rfl rfl rfl
          clear hm
          simp only [fill, h102, h103, h98]
          go_wp2
          exact ⟨_, rfl, rfl, Below.refl _ _, trivial⟩
        · intro vs wq hB hm
          have h98 : vs 98 = .bool true := meets_get hm 15 rfl rfl rfl rfl
          have h104 : vs 104 = .bool true := meets_get hm 21 rfl rfl rfl rfl
          clear hm
          simp only [fill, h98, h104]
          go_wp2
          exact ⟨_, rfl, rfl, Below.refl _ _, trivial⟩
        · intro vs wq hB hm
          have h105 : vs 105 = .bool true := meets_get hm 22 rfl rfl rfl rfl
          clear hm
          simp only [fill, h105]
          go_wp2
          exact ⟨_, rfl, rfl, Below.refl _ _, trivial⟩
        · intro vs wq hB hm
          have hl : look wq (w.heap.size) = some (.cells (VA f) 26 (0, 0)) := by rw [look_below hB (by omega)]; first | assumption | go_simp
          have h106 : vs 106 = .bool true := meets_get hm 23 rfl rfl rfl rfl
          clear hm
          simp only [fill, h106]
          go_wp2
          exact ⟨_, rfl, rfl, Below.refl _ _, trivial⟩
        · intro vs wq hB hm
          have hl : look wq (b7) = some (.cells (VA (vmax f g)) 26 (0, 0)) := by rw [look_below hB (by omega)]; first | assumption | go_simp
          have h106 : vs 106 = .bool true := meets_get hm 23 rfl rfl rfl rfl
          clear hm
          simp only [fill, h106]
          go_wp2
          exact ⟨_, rfl, rfl, Below.refl _ _, trivial⟩
        · intro vs wq hB hm
          have h107 : vs 107 = .agg (VA f) := meets_get hm 24 rfl rfl rfl rfl
          have h108 : vs 108 = .agg (VA (vmax f g)) := meets_get hm 25 rfl rfl rfl rfl
          have h106 : vs 106 = .bool true := meets_get hm 23 rfl rfl rfl rfl
          clear hm
          simp only [fill, h107, h108, h106]
          go_wp2_with fail
          refine (meet_any f (vmax f g) _).mono ?_
          rintro e w1 ⟨rfl, hb1⟩
          go_wp2
          exact ⟨_, rfl, rfl, hb1, trivial⟩
        · intro vs wq hB hm
          have hl : look wq (w.heap.size) = some (.cells (VA f) 26 (0, 0)) := by rw [look_below hB (by omega)]; first | assumption | go_simp
          have h106 : vs 106 = .bool true := meets_get hm 23 rfl rfl rfl rfl
          clear hm
          simp only [fill, h106]
          go_wp2
          exact ⟨_, rfl, rfl, Below.refl _ _, trivial⟩
        · intro vs wq hB hm
          have h109 : vs 109 = .agg (VA (vmin f (vmax f g))) := meets_get hm 26 rfl rfl rfl rfl
          have h110 : vs 110 = .agg (VA f) := meets_get hm 27 rfl rfl rfl rfl
          have h106 : vs 106 = .bool true := meets_get hm 23 rfl rfl rfl rfl
          clear hm
          simp only [fill, h109, h110, h106]
          go_wp2
          exact ⟨_, rfl, rfl, Below.refl _ _, trivial⟩
        · intro vs wq hB hm
          have h106 : vs 106 = .bool true := meets_get hm 23 rfl rfl rfl rfl
          have h111 : vs 111 = .bool true := meets_get hm 28 rfl rfl rfl rfl
          clear hm
          simp only [fill, h106, h111]
          go_wp2
          exact ⟨_, rfl, rfl, Below.refl _ _, trivial⟩
        intro vs wq hB hm hne hlo
        have h83 : vs 83 = .bool true := hm 0 _ _ _ rfl rfl rfl
        have h84 : vs 84 = .bool true := hm 1 _ _ _ rfl rfl rfl
        have h85 : vs 85 = .agg (VA (vmax f g)) := hm 2 _ _ _ rfl rfl rfl
        have h86 : vs 86 = .agg (VA h) := hm 3 _ _ _ rfl rfl rfl
        obtain ⟨b87, h87, l87⟩ := hm 4 _ _ _ rfl rfl rfl
        have h88 : vs 88 = .agg (VA (vmax (vmax f g) h)) := hm 5 _ _ _ rfl rfl rfl
        have h89 : vs 89 = .agg (VA f) := hm 6 _ _ _ rfl rfl rfl
        have h90 : vs 90 = .agg (VA g) := hm 7 _ _ _ rfl rfl rfl
        have h91 : vs 91 = .agg (VA h) := hm 8 _ _ _ rfl rfl rfl
        obtain ⟨b92, h92, l92⟩ := hm 9 _ _ _ rfl rfl rfl
        have h93 : vs 93 = .agg (VA (vmax g h)) := hm 10 _ _ _ rfl rfl rfl
        obtain ⟨b94, h94, l94⟩ := hm 11 _ _ _ rfl rfl rfl
        have h95 : vs 95 = .agg (VA (vmax f (vmax g h))) := hm 12 _ _ _ rfl rfl rfl
        have h96 : vs 96 = .bool true := hm 13 _ _ _ rfl rfl rfl
        have h97 : vs 97 = .bool true := hm 14 _ _ _ rfl rfl rfl
        have h98 : vs 98 = .bool true := hm 15 _ _ _ rfl rfl rfl
        have h99 : vs 99 = .agg (VA f) := hm 16 _ _ _ rfl rfl rfl
        have h100 : vs 100 = .agg (VA (vmin f g)) := hm 17 _ _ _ rfl rfl rfl
        obtain ⟨b101, h101, l101⟩ := hm 18 _ _ _ rfl rfl rfl
        have h102 : vs 102 = .agg (VA (vmax f (vmin f g))) := hm 19 _ _ _ rfl rfl rfl
        have h103 : vs 103 = .agg (VA f) := hm 20 _ _ _ rfl rfl rfl
        have h104 : vs 104 = .bool true := hm 21 _ _ _ rfl rfl rfl
        have h105 : vs 105 = .bool true := hm 22 _ _ _ rfl rfl rfl
        have h106 : vs 106 = .bool true := hm 23 _ _ _ rfl rfl rfl
        have h107 : vs 107 = .agg (VA f) := hm 24 _ _ _ rfl rfl rfl
        have h108 : vs 108 = .agg (VA (vmax f g)) := hm 25 _ _ _ rfl rfl rfl
        have h109 : vs 109 = .agg (VA (vmin f (vmax f g))) := hm 26 _ _ _ rfl rfl rfl
        have h110 : vs 110 = .agg (VA f) := hm 27 _ _ _ rfl rfl rfl
        have h111 : vs 111 = .bool true := hm 28 _ _ _ rfl rfl rfl
        have h112 : vs 112 = .bool true := hm 29 _ _ _ rfl rfl rfl
        have lo87 : _ ≤ b87 ∧ b87 < wq.heap.size := hlo 4 _ _ rfl rfl rfl b87 (by rw [h87]; rfl)
        have lo92 : _ ≤ b92 ∧ b92 < wq.heap.size := hlo 9 _ _ rfl rfl rfl b92 (by rw [h92]; rfl)
        have ne87_92 : b87 ≠ b92 := fun h => hne 4 9 _ _ _ _ (by omega) rfl rfl rfl rfl rfl rfl b87 (by rw [h87]; rfl) (by rw [h92, h]; rfl)
        have lo94 : _ ≤ b94 ∧ b94 < wq.heap.size := hlo 11 _ _ rfl rfl rfl b94 (by rw [h94]; rfl)
        have ne87_94 : b87 ≠ b94 := fun h => hne 4 11 _ _ _ _ (by omega) rfl rfl rfl rfl rfl rfl b87 (by rw [h87]; rfl) (by rw [h94, h]; rfl)
        have ne92_94 : b92 ≠ b94 := fun h => hne 9 11 _ _ _ _ (by omega) rfl rfl rfl rfl rfl rfl b92 (by rw [h92]; rfl) (by rw [h94, h]; rfl)
        have lo101 : _ ≤ b101 ∧ b101 < wq.heap.size := hlo 18 _ _ rfl rfl rfl b101 (by rw [h101]; rfl)
        have ne87_101 : b87 ≠ b101 := fun h => hne 4 18 _ _ _ _ (by omega) rfl rfl rfl rfl rfl rfl b87 (by rw [h87]; rfl) (by rw [h101, h]; rfl)
        have ne92_101 : b92 ≠ b101 := fun h => hne 9 18 _ _ _ _ (by omega) rfl rfl rfl rfl rfl rfl b92 (by rw [h92]; rfl) (by rw [h101, h]; rfl)
        have ne94_101 : b94 ≠ b101 := fun h => hne 11 18 _ _ _ _ (by omega) rfl rfl rfl rfl rfl rfl b94 (by rw [h94]; rfl) (by rw [h101, h]; rfl)
        clear hne hlo
        simp only [fill, List.filterMap, List.take, List.drop, List.setIfInBounds_toArray, List.set_cons_zero, List.set_cons_succ, h83, h84, h85, h86, h87, h88, h89, h90, h91, h92, h93, h94, h95, h96, h97, h98, h99, h100, h101, h102, h103, h104, h105, h106, h107, h108, h109, h110, h111, h112]
        clear hm h83 h84 h85 h86 h87 h88 h89 h90 h91 h92 h93 h94 h95 h96 h97 h98 h99 h100 h101 h102 h103 h104 h105 h106 h107 h108 h109 h110 h111 h112
        go_wp2
        go_ret
        exact ⟨rfl, belT hB4 hB⟩
      · cases q2 : covB g h
        · have Q1 := Lib.hid q1
          have Q2 := Lib.hid q2
          clear q1 q2
          go_wp2_with fail
          refine ((P1.out ▸ covers_any h f _)).mono ?_
          rintro e w1 ⟨rfl, hb1⟩
          replace lx3 : look w1 (w.heap.size) = some (.cells (VA f) 26 (0, 0)) := by rw [look_below hb1 (by omega)]; first | assumption | go_simp
          replace cx3 : ∀ i, i < 12 → World.cell? w1 ⟨w.heap.size, i, none⟩ = some (.int .u32 (((f) i : Nat) : Int)) := fun i hi => by rw [look_cell lx3, VA_get _ _ hi]
          replace fx3 := look_frozen lx3
          replace sx3 := look_lt lx3
          replace lx4 : look w1 (w.heap.size + 1) = some (.cells (VA g) 26 (0, 0)) := by rw [look_below hb1 (by omega)]; first | assumption | go_simp
          replace cx4 : ∀ i, i < 12 → World.cell? w1 ⟨w.heap.size + 1, i, none⟩ = some (.int .u32 (((g) i : Nat) : Int)) := fun i hi => by rw [look_cell lx4, VA_get _ _ hi]
          replace fx4 := look_frozen lx4
          replace sx4 := look_lt lx4
          replace lx5 : look w1 (w.heap.size + 1 + 1) = some (.cells (VA h) 26 (0, 0)) := by rw [look_below hb1 (by omega)]; first | assumption | go_simp
          replace cx5 : ∀ i, i < 12 → World.cell? w1 ⟨w.heap.size + 1 + 1, i, none⟩ = some (.int .u32 (((h) i : Nat) : Int)) := fun i hi => by rw [look_cell lx5, VA_get _ _ hi]
          replace fx5 := look_frozen lx5
          replace sx5 := look_lt lx5
          replace lx7 : look w1 (b7) = some (.cells (VA (vmax f g)) 26 (0, 0)) := by rw [look_below hb1 (by omega)]; first | assumption | go_simp
          replace cx7 : ∀ i, i < 12 → World.cell? w1 ⟨b7, i, none⟩ = some (.int .u32 ((((vmax f g)) i : Nat) : Int)) := fun i hi => by rw [look_cell lx7, VA_get _ _ hi]
          replace fx7 := look_frozen lx7
          replace sx7 := look_lt lx7
          replace lx8 : look w1 (b8) = some (.cells (VA (vmin f g)) 26 (0, 0)) := by rw [look_below hb1 (by omega)]; first | assumption | go_simp
          replace cx8 : ∀ i, i < 12 → World.cell? w1 ⟨b8, i, none⟩ = some (.int .u32 ((((vmin f g)) i : Nat) : Int)) := fun i hi => by rw [look_cell lx8, VA_get _ _ hi]
          replace fx8 := look_frozen lx8
          replace sx8 := look_lt lx8
          replace hB3 := belT hB3 hb1
          clear hb1
          go_wp2_with fail
          refine ((P2.out ▸ covers_any h g _)).mono ?_
          rintro e w1 ⟨rfl, hb1⟩
          replace lx3 : look w1 (w.heap.size) = some (.cells (VA f) 26 (0, 0)) := by rw [look_below hb1 (by omega)]; first | assumption | go_simp
          replace cx3 : ∀ i, i < 12 → World.cell? w1 ⟨w.heap.size, i, none⟩ = some (.int .u32 (((f) i : Nat) : Int)) := fun i hi => by rw [look_cell lx3, VA_get _ _ hi]
          replace fx3 := look_frozen lx3
          replace sx3 := look_lt lx3
          replace lx4 : look w1 (w.heap.size + 1) = some (.cells (VA g) 26 (0, 0)) := by rw [look_below hb1 (by omega)]; first | assumption | go_simp
          replace cx4 : ∀ i, i < 12 → World.cell? w1 ⟨w.heap.size + 1, i, none⟩ = some (.int .u32 (((g) i : Nat) : Int)) := fun i hi => by rw [look_cell lx4, VA_get _ _ hi]
          replace fx4 := look_frozen lx4
          replace sx4 := look_lt lx4
          replace lx5 : look w1 (w.heap.size + 1 + 1) = some (.cells (VA h) 26 (0, 0)) := by rw [look_below hb1 (by omega)]; first | assumption | go_simp
          replace cx5 : ∀ i, i < 12 → World.cell? w1 ⟨w.heap.size + 1 + 1, i, none⟩ = some (.int .u32 (((h) i : Nat) : Int)) := fun i hi => by rw [look_cell lx5, VA_get _ _ hi]
          replace fx5 := look_frozen lx5
          replace sx5 := look_lt lx5
          replace lx7 : look w1 (b7) = some (.cells (VA (vmax f g)) 26 (0, 0)) := by rw [look_below hb1 (by omega)]; first | assumption | go_simp
          replace cx7 : ∀ i, i < 12 → World.cell? w1 ⟨b7, i, none⟩ = some (.int .u32 ((((vmax f g)) i : Nat) : Int)) := fun i hi => by rw [look_cell lx7, VA_get _ _ hi]
          replace fx7 := look_frozen lx7
          replace sx7 := look_lt lx7
          replace lx8 : look w1 (b8) = some (.cells (VA (vmin f g)) 26 (0, 0)) := by rw [look_below hb1 (by omega)]; first | assumption | go_simp
          replace cx8 : ∀ i, i < 12 → World.cell? w1 ⟨b8, i, none⟩ = some (.int .u32 ((((vmin f g)) i : Nat) : Int)) := fun i hi => by rw [look_cell lx8, VA_get _ _ hi]
          replace fx8 := look_frozen lx8
          replace sx8 := look_lt lx8
          replace hB3 := belT hB3 hb1
          clear hb1
          go_wp2_with fail
          refine ((P3.out ▸ covers_any h (vmax f g) _)).mono ?_
          rintro e w1 ⟨rfl, hb1⟩
          replace lx3 : look w1 (w.heap.size) = some (.cells (VA f) 26 (0, 0)) := by rw [look_below hb1 (by omega)]; first | assumption | go_simp
          replace cx3 : ∀ i, i < 12 → World.cell? w1 ⟨w.heap.size, i, none⟩ = some (.int .u32 (((f) i : Nat) : Int)) := fun i hi => by rw [look_cell lx3, VA_get _ _ hi]
          replace fx3 := look_frozen lx3
          replace sx3 := look_lt lx3
          replace lx4 : look w1 (w.heap.size + 1) = some (.cells (VA g) 26 (0, 0)) := by rw [look_below hb1 (by omega)]; first | assumption | go_simp
          replace cx4 : ∀ i, i < 12 → World.cell? w1 ⟨w.heap.size + 1, i, none⟩ = some (.int .u32 (((g) i : Nat) : Int)) := fun i hi => by rw [look_cell lx4, VA_get _ _ hi]
          replace fx4 := look_frozen lx4
          replace sx4 := look_lt lx4
          replace lx5 : look w1 (w.heap.size + 1 + 1) = some (.cells (VA h) 26 (0, 0)) := by rw [look_below hb1 (by omega)]; first | assumption | go_simp
          replace cx5 : ∀ i, i < 12 → World.cell? w1 ⟨w.heap.size + 1 + 1, i, none⟩ = some (.int .u32 (((h) i : Nat) : Int)) := fun i hi => by rw [look_cell lx5, VA_get _ _ hi]
          replace fx5 := look_frozen lx5
          replace sx5 := look_lt lx5
          replace lx7 : look w1 (b7) = some (.cells (VA (vmax f g)) 26 (0, 0)) := by rw [look_below hb1 (by omega)]; first | assumption | go_simp
          replace cx7 : ∀ i, i < 12 → World.cell? w1 ⟨b7, i, none⟩ = some (.int .u32 ((((vmax f g)) i : Nat) : Int)) := fun i hi => by rw [look_cell lx7, VA_get _ _ hi]
          replace fx7 := look_frozen lx7
          replace sx7 := look_lt lx7
          replace lx8 : look w1 (b8) = some (.cells (VA (vmin f g)) 26 (0, 0)) := by rw [look_below hb1 (by omega)]; first | assumption | go_simp
          replace cx8 : ∀ i, i < 12 → World.cell? w1 ⟨b8, i, none⟩ = some (.int .u32 ((((vmin f g)) i : Nat) : Int)) := fun i hi => by rw [look_cell lx8, VA_get _ _ hi]
          replace fx8 := look_frozen lx8
          replace sx8 := look_lt lx8
          replace hB3 := belT hB3 hb1
          clear hb1
          go_wp2_with fail
          refine ((Q1.out ▸ covers_any f h _)).mono ?_
          rintro e w1 ⟨rfl, hb1⟩
          replace lx3 : look w1 (w.heap.size) = some (.cells (VA f) 26 (0, 0)) := by rw [look_below hb1 (by omega)]; first | assumption | go_simp
          replace cx3 : ∀ i, i < 12 → World.cell? w1 ⟨w.heap.size, i, none⟩ = some (.int .u32 (((f) i : Nat) : Int)) := fun i hi => by rw [look_cell lx3, VA_get _ _ hi]
          replace fx3 := look_frozen lx3
          replace sx3 := look_lt lx3
          replace lx4 : look w1 (w.heap.size + 1) = some (.cells (VA g) 26 (0, 0)) := by rw [look_below hb1 (by omega)]; first | assumption | go_simp
          replace cx4 : ∀ i, i < 12 → World.cell? w1 ⟨w.heap.size + 1, i, none⟩ = some (.int .u32 (((g) i : Nat) : Int)) := fun i hi => by rw [look_cell lx4, VA_get _ _ hi]
          replace fx4 := look_frozen lx4
          replace sx4 := look_lt lx4
          replace lx5 : look w1 (w.heap.size + 1 + 1) = some (.cells (VA h) 26 (0, 0)) := by rw [look_below hb1 (by omega)]; first | assumption | go_simp
          replace cx5 : ∀ i, i < 12 → World.cell? w1 ⟨w.heap.size + 1 + 1, i, none⟩ = some (.int .u32 (((h) i : Nat) : Int)) := fun i hi => by rw [look_cell lx5, VA_get _ _ hi]
          replace fx5 := look_frozen lx5
          replace sx5 := look_lt lx5
          replace lx7 : look w1 (b7) = some (.cells (VA (vmax f g)) 26 (0, 0)) := by rw [look_below hb1 (by omega)]; first | assumption | go_simp
          replace cx7 : ∀ i, i < 12 → World.cell? w1 ⟨b7, i, none⟩ = some (.int .u32 ((((vmax f g)) i : Nat) : Int)) := fun i hi => by rw [look_cell lx7, VA_get _ _ hi]
          replace fx7 := look_frozen lx7
          replace sx7 := look_lt lx7
          replace lx8 : look w1 (b8) = some (.cells (VA (vmin f g)) 26 (0, 0)) := by rw [look_below hb1 (by omega)]; first | assumption | go_simp
          replace cx8 : ∀ i, i < 12 → World.cell? w1 ⟨b8, i, none⟩ = some (.int .u32 ((((vmin f g)) i : Nat) : Int)) := fun i hi => by rw [look_cell lx8, VA_get _ _ hi]
          replace fx8 := look_frozen lx8
          replace sx8 := look_lt lx8
          replace hB3 := belT hB3 hb1
          clear hb1
          go_wp2_with fail
          refine ((Q2.out ▸ covers_any g h _)).mono ?_
          rintro e w1 ⟨rfl, hb1⟩
          replace lx3 : look w1 (w.heap.size) = some (.cells (VA f) 26 (0, 0)) := by rw [look_below hb1 (by omega)]; first | assumption | go_simp
          replace cx3 : ∀ i, i < 12 → World.cell? w1 ⟨w.heap.size, i, none⟩ = some (.int .u32 (((f) i : Nat) : Int)) := fun i hi => by rw [look_cell lx3, VA_get _ _ hi]
          replace fx3 := look_frozen lx3
          replace sx3 := look_lt lx3
          replace lx4 : look w1 (w.heap.size + 1) = some (.cells (VA g) 26 (0, 0)) := by rw [look_below hb1 (by omega)]; first | assumption | go_simp
          replace cx4 : ∀ i, i < 12 → World.cell? w1 ⟨w.heap.size + 1, i, none⟩ = some (.int .u32 (((g) i : Nat) : Int)) := fun i hi => by rw [look_cell lx4, VA_get _ _ hi]
          replace fx4 := look_frozen lx4
          replace sx4 := look_lt lx4
          replace lx5 : look w1 (w.heap.size + 1 + 1) = some (.cells (VA h) 26 (0, 0)) := by rw [look_below hb1 (by omega)]; first | assumption | go_simp
          replace cx5 : ∀ i, i < 12 → World.cell? w1 ⟨w.heap.size + 1 + 1, i, none⟩ = some (.int .u32 (((h) i : Nat) : Int)) := fun i hi => by rw [look_cell lx5, VA_get _ _ hi]
          replace fx5 := look_frozen lx5
          replace sx5 := look_lt lx5
          replace lx7 : look w1 (b7) = some (.cells (VA (vmax f g)) 26 (0, 0)) := by rw [look_below hb1 (by omega)]; first | assumption | go_simp
          replace cx7 : ∀ i, i < 12 → World.cell? w1 ⟨b7, i, none⟩ = some (.int .u32 ((((vmax f g)) i : Nat) : Int)) := fun i hi => by rw [look_cell lx7, VA_get _ _ hi]
          replace fx7 := look_frozen lx7
          replace sx7 := look_lt lx7
          replace lx8 : look w1 (b8) = some (.cells (VA (vmin f g)) 26 (0, 0)) := by rw [look_below hb1 (by omega)]; first | assumption | go_simp
          replace cx8 : ∀ i, i < 12 → World.cell? w1 ⟨b8, i, none⟩ = some (.int .u32 ((((vmin f g)) i : Nat) : Int)) := fun i hi => by rw [look_cell lx8, VA_get _ _ hi]
          replace fx8 := look_frozen lx8
          replace sx8 := look_lt lx8
          replace hB3 := belT hB3 hb1
          clear hb1
          have hB4 := hB3
          clear hB3
          go_wp2_with fail
          refine wp_region_words mixed 30 ([] :: [83] :: [84] :: [84] :: [85, 86, 84] :: [87, 84] :: [84] :: [84] :: [84] :: [90, 91, 84] :: [92, 84] :: [89, 93, 84] :: [94, 84] :: [88, 95, 84] :: [84, 96] :: [97] :: [98] :: [98] :: [99, 100, 98] :: [101, 98] :: [98] :: [102, 103, 98] :: [98, 104] :: [105] :: [106] :: [106] :: [107, 108, 106] :: [106] :: [109, 110, 106] :: [106, 111] :: []) (isV (.bool true) :: isV (.bool true) :: isV (.agg (VA (vmax f g))) :: isV (.agg (VA h)) :: isRow 26 2 (VA (vmax f g) ++ VA h) :: isV (.agg (VA (vmax (vmax f g) h))) :: isV (.agg (VA f)) :: isV (.agg (VA g)) :: isV (.agg (VA h)) :: isRow 26 2 (VA g ++ VA h) :: isV (.agg (VA (vmax g h))) :: isRow 26 2 (VA f ++ VA (vmax g h)) :: isV (.agg (VA (vmax f (vmax g h)))) :: isV (.bool true) :: isV (.bool true) :: isV (.bool true) :: isV (.agg (VA f)) :: isV (.agg (VA (vmin f g))) :: isRow 26 2 (VA f ++ VA (vmin f g)) :: isV (.agg (VA (vmax f (vmin f g)))) :: isV (.agg (VA f)) :: isV (.bool true) :: isV (.bool true) :: isV (.bool true) :: isV (.agg (VA f)) :: isV (.agg (VA (vmax f g))) :: isV (.agg (VA (vmin f (vmax f g)))) :: isV (.agg (VA f)) :: isV (.bool true) :: isV (.bool true) :: []) (by decide) (by kernel_rfl)
            ⟨stab_isV _, stab_isV _, stab_isV _, stab_isV _, stab_isRow _ _ _, stab_isV _, stab_isV _, stab_isV _, stab_isV _, stab_isRow _ _ _, stab_isV _, stab_isRow _ _ _, stab_isV _, stab_isV _, stab_isV _, stab_isV _, stab_isV _, stab_isV _, stab_isRow _ _ _, stab_isV _, stab_isV _, stab_isV _, stab_isV _, stab_isV _, stab_isV _, stab_isV _, stab_isV _, stab_isV _, stab_isV _, stab_isV _, trivial⟩ ⟨?_, ?_, ?_, ?_, ?_, ?_, ?_, ?_, ?_, ?_, ?_, ?_, ?_, ?_, ?_, ?_, ?_, ?_, ?_, ?_, ?_, ?_, ?_, ?_, ?_, ?_, ?_, ?_, ?_, ?_, trivial⟩ ?_
          · intro vs wq hB hm
            clear hm
            simp only [fill]
            go_wp2_with fail
            refine (alive04 _).mono ?_
            rintro e w1 ⟨rfl, hb1⟩
            go_wp2
            exact ⟨_, rfl, rfl, hb1, trivial⟩
          · intro vs wq hB hm
            have h83 : vs 83 = .bool true := meets_get hm 0 rfl rfl rfl rfl
            clear hm
            simp only [fill, h83]
            go_wp2
            exact ⟨_, rfl, rfl, Below.refl _ _, trivial⟩
          · intro vs wq hB hm
            have hl : look wq (b7) = some (.cells (VA (vmax f g)) 26 (0, 0)) := by rw [look_below hB (by omega)]; first | assumption | go_simp
            have h84 : vs 84 = .bool true := meets_get hm 1 rfl rfl rfl rfl
            clear hm
            simp only [fill, h84]
            go_wp2
            exact ⟨_, rfl, rfl, Below.refl _ _, trivial⟩
          · intro vs wq hB hm
            have hl : look wq (w.heap.size + 1 + 1) = some (.cells (VA h) 26 (0, 0)) := by rw [look_below hB (by omega)]; first | assumption | go_simp
            have h84 : vs 84 = .bool true := meets_get hm 1 rfl rfl rfl rfl
            clear hm
            simp only [fill, h84]
            go_wp2
            exact ⟨_, rfl, rfl, Below.refl _ _, trivial⟩
          · intro vs wq hB hm
            have h85 : vs 85 = .agg (VA (vmax f g)) := meets_get hm 2 rfl rfl rfl rfl
            have h86 : vs 86 = .agg (VA h) := meets_get hm 3 rfl rfl rfl rfl
            have h84 : vs 84 = .bool true := meets_get hm 1 rfl rfl rfl rfl
            clear hm
            simp only [fill, h85, h86, h84]
            go_wp2
            exact ⟨_, rfl, ⟨_, rfl, look_alloc_at _ _ _ rfl⟩, (Below.refl _ _).alloc (Nat.le_refl _) _, fun b hb => by cases hb; exact ⟨Nat.le_refl _, by simp⟩⟩
          · intro vs wq hB hm
            obtain ⟨b87, h87, l87⟩ := meets_get hm 4 rfl rfl rfl rfl
            have h84 : vs 84 = .bool true := meets_get hm 1 rfl rfl rfl rfl
            clear hm
            simp only [fill, h84, h87]
            go_wp2_with fail
            refine (join_two (vmax f g) h b87 _ l87).mono ?_
            rintro e w1 ⟨rfl, hb1⟩
            go_wp2
            exact ⟨_, rfl, rfl, hb1, trivial⟩
          · intro vs wq hB hm
            have hl : look wq (w.heap.size) = some (.cells (VA f) 26 (0, 0)) := by rw [look_below hB (by omega)]; first | assumption | go_simp
            have h84 : vs 84 = .bool true := meets_get hm 1 rfl rfl rfl rfl
            clear hm
            simp only [fill, h84]
            go_wp2
            exact ⟨_, rfl, rfl, Below.refl _ _, trivial⟩
          · intro vs wq hB hm
            have hl : look wq (w.heap.size + 1) = some (.cells (VA g) 26 (0, 0)) := by rw [look_below hB (by omega)]; first | assumption | go_simp
            have h84 : vs 84 = .bool true := meets_get hm 1 rfl rfl rfl rfl
            clear hm
            simp only [fill, h84]
            go_wp2
            exact ⟨_, rfl, rfl, Below.refl _ _, trivial⟩
          · intro vs wq hB hm
            have hl : look wq (w.heap.size + 1 + 1) = some (.cells (VA h) 26 (0, 0)) := by rw [look_below hB (by omega)]; first | assumption | go_simp
            have h84 : vs 84 = .bool true := meets_get hm 1 rfl rfl rfl rfl
            clear hm
            simp only [fill, h84]
            go_wp2
            exact ⟨_, rfl, rfl, Below.refl _ _, trivial⟩
          · intro vs wq hB hm
            have h90 : vs 90 = .agg (VA g) := meets_get hm 7 rfl rfl rfl rfl
            have h91 : vs 91 = .agg (VA h) := meets_get hm 8 rfl rfl rfl rfl
            have h84 : vs 84 = .bool true := meets_get hm 1 rfl rfl rfl rfl
            clear hm
            simp only [fill, h90, h91, h84]
            go_wp2
            exact ⟨_, rfl, ⟨_, rfl, look_alloc_at _ _ _ rfl⟩, (Below.refl _ _).alloc (Nat.le_refl _) _, fun b hb => by cases hb; exact ⟨Nat.le_refl _, by simp⟩⟩
          · intro vs wq hB hm
            obtain ⟨b92, h92, l92⟩ := meets_get hm 9 rfl rfl rfl rfl
            have h84 : vs 84 = .bool true := meets_get hm 1 rfl rfl rfl rfl
            clear hm
            simp only [fill, h84, h92]
            go_wp2_with fail
            refine (join_two g h b92 _ l92).mono ?_
            rintro e w1 ⟨rfl, hb1⟩
            go_wp2
            exact ⟨_, rfl, rfl, hb1, trivial⟩
          · intro vs wq hB hm
            have h89 : vs 89 = .agg (VA f) := meets_get hm 6 rfl rfl rfl rfl
            have h93 : vs 93 = .agg (VA (vmax g h)) := meets_get hm 10 rfl rfl rfl rfl
            have h84 : vs 84 = .bool true := meets_get hm 1 rfl rfl rfl rfl
            clear hm
            simp only [fill, h89, h93, h84]
            go_wp2
            exact ⟨_, rfl, ⟨_, rfl, look_alloc_at _ _ _ rfl⟩, (Below.refl _ _).alloc (Nat.le_refl _) _, fun b hb => by cases hb; exact ⟨Nat.le_refl _, by simp⟩⟩
          · intro vs wq hB hm
            obtain ⟨b94, h94, l94⟩ := meets_get hm 11 rfl rfl rfl rfl
            have h84 : vs 84 = .bool true := meets_get hm 1 rfl rfl rfl rfl
            clear hm
            simp only [fill, h84, h94]
            go_wp2_with fail
            refine (join_two f (vmax g h) b94 _ l94).mono ?_
            rintro e w1 ⟨rfl, hb1⟩
            go_wp2
            exact ⟨_, rfl, rfl, hb1, trivial⟩
          · intro vs wq hB hm
            have h88 : vs 88 = .agg (VA (vmax (vmax f g) h)) := meets_get hm 5 rfl rfl rfl rfl
            have h95 : vs 95 = .agg (VA (vmax f (vmax g h))) := meets_get hm 12 rfl rfl rfl rfl
            have h84 : vs 84 = .bool true := meets_get hm 1 rfl rfl rfl rfl
            clear hm
            simp only [fill, h88, h95, h84]
            go_wp2
            exact ⟨_, rfl, rfl, Below.refl _ _, trivial⟩
          · intro vs wq hB hm
            have h84 : vs 84 = .bool true := meets_get hm 1 rfl rfl rfl rfl
            have h96 : vs 96 = .bool true := meets_get hm 13 rfl rfl rfl rfl
            clear hm
            simp only [fill, h84, h96]
            go_wp2
            exact ⟨_, rfl, rfl, Below.refl _ _, trivial⟩
          · intro vs wq hB hm
            have h97 : vs 97 = .bool true := meets_get hm 14 rfl rfl rfl rfl
            clear hm
            simp only [fill, h97]
            go_wp2
            exact ⟨_, rfl, rfl, Below.refl _ _, trivial⟩
          · intro vs wq hB hm
            have hl : look wq (w.heap.size) = some (.cells (VA f) 26 (0, 0)) := by rw [look_below hB (by omega)]; first | assumption | go_simp
            have h98 : vs 98 = .bool true := meets_get hm 15 rfl rfl rfl rfl
            clear hm
            simp only [fill, h98]
            go_wp2
            exact ⟨_, rfl, rfl, Below.refl _ _, trivial⟩
          · intro vs wq hB hm
            have hl : look wq (b8) = some (.cells (VA (vmin f g)) 26 (0, 0)) := by rw [look_below hB (by omega)]; first | assumption | go_simp
            have h98 : vs 98 = .bool true := meets_get hm 15 rfl rfl rfl rfl
            clear hm
            simp only [fill, h98]
            go_wp2
            exact ⟨_, rfl, rfl, Below.refl _ _, trivial⟩
          · intro vs wq hB hm
            have h99 : vs 99 = .agg (VA f) := meets_get hm 16 rfl rfl rfl rfl
            have h100 : vs 100 = .agg (VA (vmin f g)) := meets_get hm 17 rfl rfl rfl rfl
            have h98 : vs 98 = .bool true := meets_get hm 15 rfl rfl rfl rfl
            clear hm
            simp only [fill, h99, h100, h98]
            go_wp2
            exact ⟨_, rfl, ⟨_, rfl, look_alloc_at _ _ _ rfl⟩, (Below.refl _ _).alloc (Nat.le_refl _) _, fun b hb => by cases hb; exact ⟨Nat.le_refl _, by simp⟩⟩
          · intro vs wq hB hm
            obtain ⟨b101, h101, l101⟩ := meets_get hm 18 rfl rfl rfl rfl
            have h98 : vs 98 = .bool true := meets_get hm 15 rfl rfl rfl rfl
            clear hm
            simp only [fill, h98, h101]
            go_wp2_with fail
            refine (join_two f (vmin f g) b101 _ l101).mono ?_
            rintro e w1 ⟨rfl, hb1⟩
            go_wp2
            exact ⟨_, rfl, rfl, hb1, trivial⟩
          · intro vs wq hB hm
            have hl : look wq (w.heap.size) = some (.cells (VA f) 26 (0, 0)) := by rw [look_below hB (by omega)]; first | assumption | go_simp
            have h98 : vs 98 = .bool true := meets_get hm 15 rfl rfl rfl rfl
            clear hm
            simp only [fill, h98]
            go_wp2
            exact ⟨_, rfl, rfl, Below.refl _ _, trivial⟩
          · intro vs wq hB hm
            have h102 : vs 102 = .agg (VA (vmax f (vmin f g))) := meets_get hm 19 rfl rfl rfl rfl
            have h103 : vs 103 = .agg (VA f) := meets_get hm 20 rfl rfl rfl rfl
            have h98 : vs 98 = .bool true := meets_get hm 15 rfl rfl rfl rfl
            clear hm
            simp only [fill, h102, h103, h98]
            go_wp2
            exact ⟨_, rfl, rfl, Below.refl _ _, trivial⟩
          · intro vs wq hB hm
            have h98 : vs 98 = .bool true := meets_get hm 15 rfl rfl rfl rfl
            have h104 : vs 104 = .bool true := meets_get hm 21 rfl rfl rfl rfl
            clear hm
            simp only [fill, h98, h104]
            go_wp2
            exact ⟨_, rfl, rfl, Below.refl _ _, trivial⟩
          · intro vs wq hB hm
            have h105 : vs 105 = .bool true := meets_get hm 22 rfl rfl rfl rfl
            clear hm
            simp only [fill, h105]
            go_wp2
            exact ⟨_, rfl, rfl, Below.refl _ _, trivial⟩
          · intro vs wq hB hm
            have hl : look wq (w.heap.size) = some (.cells (VA f) 26 (0, 0)) := by rw [look_below hB (by omega)]; first | assumption | go_simp
            have h106 : vs 106 = .bool true := meets_get hm 23 rfl rfl rfl rfl
            clear hm
            simp only [fill, h106]
            go_wp2
            exact ⟨_, rfl, rfl, Below.refl _ _, trivial⟩
          · intro vs wq hB hm
            have hl : look wq (b7) = some (.cells (VA (vmax f g)) 26 (0, 0)) := by rw [look_below hB (by omega)]; first | assumption | go_simp
            have h106 : vs 106 = .bool true := meets_get hm 23 rfl rfl rfl rfl
            clear hm
            simp only [fill, h106]
            go_wp2
            exact ⟨_, rfl, rfl, Below.refl _ _, trivial⟩
          · intro vs wq hB hm
            have h107 : vs 107 = .agg (VA f) := meets_get hm 24 rfl rfl rfl rfl
            have h108 : vs 108 = .agg (VA (vmax f g)) := meets_get hm 25 rfl rfl rfl rfl
            have h106 : vs 106 = .bool true := meets_get hm 23 rfl rfl rfl rfl
            clear hm
            simp only [fill, h107, h108, h106]
            go_wp2_with fail
            refine (meet_any f (vmax f g) _).mono ?_
            rintro e w1 ⟨rfl, hb1⟩
            go_wp2
            exact ⟨_, rfl, rfl, hb1, trivial⟩
          · intro vs wq hB hm
            have hl : look wq (w.heap.size) = some (.cells (VA f) 26 (0, 0)) := by rw [look_below hB (by omega)]; first | assumption | go_simp
            have h106 : vs 106 = .bool true := meets_get hm 23 rfl rfl rfl rfl
            clear hm
            simp only [fill, h106]
            go_wp2
            exact ⟨_, rfl, rfl, Below.refl _ _, trivial⟩
          · intro vs wq hB hm
            have h109 : vs 109 = .agg (VA (vmin f (vmax f g))) := meets_get hm 26 rfl rfl rfl rfl
            have h110 : vs 110 = .agg (VA f) := meets_get hm 27 rfl rfl rfl rfl
            have h106 : vs 106 = .bool true := meets_get hm 23 rfl rfl rfl rfl
            clear hm
            simp only [fill, h109, h110, h106]
            go_wp2
            exact ⟨_, rfl, rfl, Below.refl _ _, trivial⟩
          · intro vs wq hB hm
            have h106 : vs 106 = .bool true := meets_get hm 23 rfl rfl rfl rfl
            have h111 : vs 111 = .bool true := meets_get hm 28 rfl rfl rfl rfl
            clear hm
            simp only [fill, h106, h111]
            go_wp2
            exact ⟨_, rfl, rfl, Below.refl _ _, trivial⟩
          intro vs wq hB hm hne hlo
          have h83 : vs 83 = .bool true := hm 0 _ _ _ rfl rfl rfl
          have h84 : vs 84 = .bool true := hm 1 _ _ _ rfl rfl rfl
          have h85 : vs 85 = .agg (VA (vmax f g)) := hm 2 _ _ _ rfl rfl rfl
          have h86 : vs 86 = .agg (VA h) := hm 3 _ _ _ rfl rfl rfl
          obtain ⟨b87, h87, l87⟩ := hm 4 _ _ _ rfl rfl rfl
          have h88 : vs 88 = .agg (VA (vmax (vmax f g) h)) := hm 5 _ _ _ rfl rfl rfl
          have h89 : vs 89 = .agg (VA f) := hm 6 _ _ _ rfl rfl rfl
          have h90 : vs 90 = .agg (VA g) := hm 7 _ _ _ rfl rfl rfl
          have h91 : vs 91 = .agg (VA h) := hm 8 _ _ _ rfl rfl rfl
          obtain ⟨b92, h92, l92⟩ := hm 9 _ _ _ rfl rfl rfl
          have h93 : vs 93 = .agg (VA (vmax g h)) := hm 10 _ _ _ rfl rfl rfl
          obtain ⟨b94, h94, l94⟩ := hm 11 _ _ _ rfl rfl rfl
          have h95 : vs 95 = .agg (VA (vmax f (vmax g h))) := hm 12 _ _ _ rfl rfl rfl
          have h96 : vs 96 = .bool true := hm 13 _ _ _ rfl rfl rfl
          have h97 : vs 97 = .bool true := hm 14 _ _ _ rfl rfl rfl
          have h98 : vs 98 = .bool true := hm 15 _ _ _ rfl rfl rfl
          have h99 : vs 99 = .agg (VA f) := hm 16 _ _ _ rfl rfl rfl
          have h100 : vs 100 = .agg (VA (vmin f g)) := hm 17 _ _ _ rfl rfl rfl
          obtain ⟨b101, h101, l101⟩ := hm 18 _ _ _ rfl rfl rfl
          have h102 : vs 102 = .agg (VA (vmax f (vmin f g))) := hm 19 _ _ _ rfl rfl rfl
          have h103 : vs 103 = .agg (VA f) := hm 20 _ _ _ rfl rfl rfl
          have h104 : vs 104 = .bool true := hm 21 _ _ _ rfl rfl rfl
          have h105 : vs 105 = .bool true := hm 22 _ _ _ rfl rfl rfl
          have h106 : vs 106 = .bool true := hm 23 _ _ _ rfl rfl rfl
          have h107 : vs 107 = .agg (VA f) := hm 24 _ _ _ rfl rfl rfl
          have h108 : vs 108 = .agg (VA (vmax f g)) := hm 25 _ _ _ rfl rfl rfl
          have h109 : vs 109 = .agg (VA (vmin f (vmax f g))) := hm 26 _ _ _ rfl rfl rfl
          have h110 : vs 110 = .agg (VA f) := hm 27 _ _ _ rfl rfl rfl
          have h111 : vs 111 = .bool true := hm 28 _ _ _ rfl rfl rfl
          have h112 : vs 112 = .bool true := hm 29 _ _ _ rfl rfl rfl
          have lo87 : _ ≤ b87 ∧ b87 < wq.heap.size := hlo 4 _ _ rfl rfl rfl b87 (by rw [h87]; rfl)
          have lo92 : _ ≤ b92 ∧ b92 < wq.heap.size := hlo 9 _ _ rfl rfl rfl b92 (by rw [h92]; rfl)
          have ne87_92 : b87 ≠ b92 := fun h => hne 4 9 _ _ _ _ (by omega) rfl rfl rfl rfl rfl rfl b87 (by rw [h87]; rfl) (by rw [h92, h]; rfl)
          have lo94 : _ ≤ b94 ∧ b94 < wq.heap.size := hlo 11 _ _ rfl rfl rfl b94 (by rw [h94]; rfl)
          have ne87_94 : b87 ≠ b94 := fun h => hne 4 11 _ _ _ _ (by omega) rfl rfl rfl rfl rfl rfl b87 (by rw [h87]; rfl) (by rw [h94, h]; rfl)
          have ne92_94 : b92 ≠ b94 := fun h => hne 9 11 _ _ _ _ (by omega) rfl rfl rfl rfl rfl rfl b92 (by rw [h92]; rfl) (by rw [h94, h]; rfl)
          have lo101 : _ ≤ b101 ∧ b101 < wq.heap.size := hlo 18 _ _ rfl rfl rfl b101 (by rw [h101]; rfl)
          have ne87_101 : b87 ≠ b101 := fun h => hne 4 18 _ _ _ _ (by omega) rfl rfl rfl rfl rfl rfl b87 (by rw [h87]; rfl) (by rw [h101, h]; rfl)
          have ne92_101 : b92 ≠ b101 := fun h => hne 9 18 _ _ _ _ (by omega) rfl rfl rfl rfl rfl rfl b92 (by rw [h92]; rfl) (by rw [h101, h]; rfl)
          have ne94_101 : b94 ≠ b101 := fun h => hne 11 18 _ _ _ _ (by omega) rfl rfl rfl rfl rfl rfl b94 (by rw [h94]; rfl) (by rw [h101, h]; rfl)
          clear hne hlo
          simp only [fill, List.filterMap, List.take, List.drop, List.setIfInBounds_toArray, List.set_cons_zero, List.set_cons_succ, h83, h84, h85, h86, h87, h88, h89, h90, h91, h92, h93, h94, h95, h96, h97, h98, h99, h100, h101, h102, h103, h104, h105, h106, h107, h108, h109, h110, h111, h112]
          clear hm h83 h84 h85 h86 h87 h88 h89 h90 h91 h92 h93 h94 h95 h96 h97 h98 h99 h100 h101 h102 h103 h104 h105 h106 h107 h108 h109 h110 h111 h112
          go_wp2
          go_ret
          exact ⟨rfl, belT hB4 hB⟩
        · have Q3 := Lib.hid (cov_most f g h q1 q2)
          have Q1 := Lib.hid q1
          have Q2 := Lib.hid q2
          clear q1 q2
          go_wp2_with fail
          refine ((P1.out ▸ covers_any h f _)).mono ?_
          rintro e w1 ⟨rfl, hb1⟩
          replace lx3 : look w1 (w.heap.size) = some (.cells (VA f) 26 (0, 0)) := by rw [look_below hb1 (by omega)]; first | assumption | go_simp
          replace cx3 : ∀ i, i < 12 → World.cell? w1 ⟨w.heap.size, i, none⟩ = some (.int .u32 (((f) i : Nat) : Int)) := fun i hi => by rw [look_cell lx3, VA_get _ _ hi]
          replace fx3 := look_frozen lx3
          replace sx3 := look_lt lx3
          replace lx4 : look w1 (w.heap.size + 1) = some (.cells (VA g) 26 (0, 0)) := by rw [look_below hb1 (by omega)]; first | assumption | go_simp
          replace cx4 : ∀ i, i < 12 → World.cell? w1 ⟨w.heap.size + 1, i, none⟩ = some (.int .u32 (((g) i : Nat) : Int)) := fun i hi => by rw [look_cell lx4, VA_get _ _ hi]
          replace fx4 := look_frozen lx4
          replace sx4 := look_lt lx4
          replace lx5 : look w1 (w.heap.size + 1 + 1) = some (.cells (VA h) 26 (0, 0)) := by rw [look_below hb1 (by omega)]; first | assumption | go_simp
          replace cx5 : ∀ i, i < 12 → World.cell? w1 ⟨w.heap.size + 1 + 1, i, none⟩ = some (.int .u32 (((h) i : Nat) : Int)) := fun i hi => by rw [look_cell lx5, VA_get _ _ hi]
          replace fx5 := look_frozen lx5
          replace sx5 := look_lt lx5
          replace lx7 : look w1 (b7) = some (.cells (VA (vmax f g)) 26 (0, 0)) := by rw [look_below hb1 (by omega)]; first | assumption | go_simp
          replace cx7 : ∀ i, i < 12 → World.cell? w1 ⟨b7, i, none⟩ = some (.int .u32 ((((vmax f g)) i : Nat) : Int)) := fun i hi => by rw [look_cell lx7, VA_get _ _ hi]
          replace fx7 := look_frozen lx7
          replace sx7 := look_lt lx7
          replace lx8 : look w1 (b8) = some (.cells (VA (vmin f g)) 26 (0, 0)) := by rw [look_below hb1 (by omega)]; first | assumption | go_simp
          replace cx8 : ∀ i, i < 12 → World.cell? w1 ⟨b8, i, none⟩ = some (.int .u32 ((((vmin f g)) i : Nat) : Int)) := fun i hi => by rw [look_cell lx8, VA_get _ _ hi]
          replace fx8 := look_frozen lx8
          replace sx8 := look_lt lx8
          replace hB3 := belT hB3 hb1
          clear hb1
          go_wp2_with fail
          refine ((P2.out ▸ covers_any h g _)).mono ?_
          rintro e w1 ⟨rfl, hb1⟩
          replace lx3 : look w1 (w.heap.size) = some (.cells (VA f) 26 (0, 0)) := by rw [look_below hb1 (by omega)]; first | assumption | go_simp
          replace cx3 : ∀ i, i < 12 → World.cell? w1 ⟨w.heap.size, i, none⟩ = some (.int .u32 (((f) i : Nat) : Int)) := fun i hi => by rw [look_cell lx3, VA_get _ _ hi]
          replace fx3 := look_frozen lx3
          replace sx3 := look_lt lx3
          replace lx4 : look w1 (w.heap.size + 1) = some (.cells (VA g) 26 (0, 0)) := by rw [look_below hb1 (by omega)]; first | assumption | go_simp
          replace cx4 : ∀ i, i < 12 → World.cell? w1 ⟨w.heap.size + 1, i, none⟩ = some (.int .u32 (((g) i : Nat) : Int)) := fun i hi => by rw [look_cell lx4, VA_get _ _ hi]
          replace fx4 := look_frozen lx4
          replace sx4 := look_lt lx4
          replace lx5 : look w1 (w.heap.size + 1 + 1) = some (.cells (VA h) 26 (0, 0)) := by rw [look_below hb1 (by omega)]; first | assumption | go_simp
          replace cx5 : ∀ i, i < 12 → World.cell? w1 ⟨w.heap.size + 1 + 1, i, none⟩ = some (.int .u32 (((h) i : Nat) : Int)) := fun i hi => by rw [look_cell lx5, VA_get _ _ hi]
          replace fx5 := look_frozen lx5
          replace sx5 := look_lt lx5
          replace lx7 : look w1 (b7) = some (.cells (VA (vmax f g)) 26 (0, 0)) := by rw [look_below hb1 (by omega)]; first | assumption | go_simp
          replace cx7 : ∀ i, i < 12 → World.cell? w1 ⟨b7, i, none⟩ = some (.int .u32 ((((vmax f g)) i : Nat) : Int)) := fun i hi => by rw [look_cell lx7, VA_get _ _ hi]
          replace fx7 := look_frozen lx7
          replace sx7 := look_lt lx7
          replace lx8 : look w1 (b8) = some (.cells (VA (vmin f g)) 26 (0, 0)) := by rw [look_below hb1 (by omega)]; first | assumption | go_simp
          replace cx8 : ∀ i, i < 12 → World.cell? w1 ⟨b8, i, none⟩ = some (.int .u32 ((((vmin f g)) i : Nat) : Int)) := fun i hi => by rw [look_cell lx8, VA_get _ _ hi]
          replace fx8 := look_frozen lx8
          replace sx8 := look_lt lx8
          replace hB3 := belT hB3 hb1
          clear hb1
          go_wp2_with fail
          refine ((P3.out ▸ covers_any h (vmax f g) _)).mono ?_
          rintro e w1 ⟨rfl, hb1⟩
          replace lx3 : look w1 (w.heap.size) = some (.cells (VA f) 26 (0, 0)) := by rw [look_below hb1 (by omega)]; first | assumption | go_simp
          replace cx3 : ∀ i, i < 12 → World.cell? w1 ⟨w.heap.size, i, none⟩ = some (.int .u32 (((f) i : Nat) : Int)) := fun i hi => by rw [look_cell lx3, VA_get _ _ hi]
          replace fx3 := look_frozen lx3
          replace sx3 := look_lt lx3
          replace lx4 : look w1 (w.heap.size + 1) = some (.cells (VA g) 26 (0, 0)) := by rw [look_below hb1 (by omega)]; first | assumption | go_simp
          replace cx4 : ∀ i, i < 12 → World.cell? w1 ⟨w.heap.size + 1, i, none⟩ = some (.int .u32 (((g) i : Nat) : Int)) := fun i hi => by rw [look_cell lx4, VA_get _ _ hi]
          replace fx4 := look_frozen lx4
          replace sx4 := look_lt lx4
          replace lx5 : look w1 (w.heap.size + 1 + 1) = some (.cells (VA h) 26 (0, 0)) := by rw [look_below hb1 (by omega)]; first | assumption | go_simp
          replace cx5 : ∀ i, i < 12 → World.cell? w1 ⟨w.heap.size + 1 + 1, i, none⟩ = some (.int .u32 (((h) i : Nat) : Int)) := fun i hi => by rw [look_cell lx5, VA_get _ _ hi]
          replace fx5 := look_frozen lx5
          replace sx5 := look_lt lx5
          replace lx7 : look w1 (b7) = some (.cells (VA (vmax f g)) 26 (0, 0)) := by rw [look_below hb1 (by omega)]; first | assumption | go_simp
          replace cx7 : ∀ i, i < 12 → World.cell? w1 ⟨b7, i, none⟩ = some (.int .u32 ((((vmax f g)) i : Nat) : Int)) := fun i hi => by rw [look_cell lx7, VA_get _ _ hi]
          replace fx7 := look_frozen lx7
          replace sx7 := look_lt lx7
          replace lx8 : look w1 (b8) = some (.cells (VA (vmin f g)) 26 (0, 0)) := by rw [look_below hb1 (by omega)]; first | assumption | go_simp
          replace cx8 : ∀ i, i < 12 → World.cell? w1 ⟨b8, i, none⟩ = some (.int .u32 ((((vmin f g)) i : Nat) : Int)) := fun i hi => by rw [look_cell lx8, VA_get _ _ hi]
          replace fx8 := look_frozen lx8
          replace sx8 := look_lt lx8
          replace hB3 := belT hB3 hb1
          clear hb1
          go_wp2_with fail
          refine ((Q1.out ▸ covers_any f h _)).mono ?_
          rintro e w1 ⟨rfl, hb1⟩
          replace lx3 : look w1 (w.heap.size) = some (.cells (VA f) 26 (0, 0)) := by rw [look_below hb1 (by omega)]; first | assumption | go_simp
          replace cx3 : ∀ i, i < 12 → World.cell? w1 ⟨w.heap.size, i, none⟩ = some (.int .u32 (((f) i : Nat) : Int)) := fun i hi => by rw [look_cell lx3, VA_get _ _ hi]
          replace fx3 := look_frozen lx3
          replace sx3 := look_lt lx3
          replace lx4 : look w1 (w.heap.size + 1) = some (.cells (VA g) 26 (0, 0)) := by rw [look_below hb1 (by omega)]; first | assumption | go_simp
          replace cx4 : ∀ i, i < 12 → World.cell? w1 ⟨w.heap.size + 1, i, none⟩ = some (.int .u32 (((g) i : Nat) : Int)) := fun i hi => by rw [look_cell lx4, VA_get _ _ hi]
          replace fx4 := look_frozen lx4
          replace sx4 := look_lt lx4
          replace lx5 : look w1 (w.heap.size + 1 + 1) = some (.cells (VA h) 26 (0, 0)) := by rw [look_below hb1 (by omega)]; first | assumption | go_simp
          replace cx5 : ∀ i, i < 12 → World.cell? w1 ⟨w.heap.size + 1 + 1, i, none⟩ = some (.int .u32 (((h) i : Nat) : Int)) := fun i hi => by rw [look_cell lx5, VA_get _ _ hi]
          replace fx5 := look_frozen lx5
          replace sx5 := look_lt lx5
          replace lx7 : look w1 (b7) = some (.cells (VA (vmax f g)) 26 (0, 0)) := by rw [look_below hb1 (by omega)]; first | assumption | go_simp
          replace cx7 : ∀ i, i < 12 → World.cell? w1 ⟨b7, i, none⟩ = some (.int .u32 ((((vmax f g)) i : Nat) : Int)) := fun i hi => by rw [look_cell lx7, VA_get _ _ hi]
          replace fx7 := look_frozen lx7
          replace sx7 := look_lt lx7
          replace lx8 : look w1 (b8) = some (.cells (VA (vmin f g)) 26 (0, 0)) := by rw [look_below hb1 (by omega)]; first | assumption | go_simp
          replace cx8 : ∀ i, i < 12 → World.cell? w1 ⟨b8, i, none⟩ = some (.int .u32 ((((vmin f g)) i : Nat) : Int)) := fun i hi => by rw [look_cell lx8, VA_get _ _ hi]
          replace fx8 := look_frozen lx8
          replace sx8 := look_lt lx8
          replace hB3 := belT hB3 hb1
          clear hb1
          go_wp2_with fail
          refine ((Q2.out ▸ covers_any g h _)).mono ?_
          rintro e w1 ⟨rfl, hb1⟩
          replace lx3 : look w1 (w.heap.size) = some (.cells (VA f) 26 (0, 0)) := by rw [look_below hb1 (by omega)]; first | assumption | go_simp
          replace cx3 : ∀ i, i < 12 → World.cell? w1 ⟨w.heap.size, i, none⟩ = some (.int .u32 (((f) i : Nat) : Int)) := fun i hi => by rw [look_cell lx3, VA_get _ _ hi]
          replace fx3 := look_frozen lx3
          replace sx3 := look_lt lx3
          replace lx4 : look w1 (w.heap.size + 1) = some (.cells (VA g) 26 (0, 0)) := by rw [look_below hb1 (by omega)]; first | assumption | go_simp
          replace cx4 : ∀ i, i < 12 → World.cell? w1 ⟨w.heap.size + 1, i, none⟩ = some (.int .u32 (((g) i : Nat) : Int)) := fun i hi => by rw [look_cell lx4, VA_get _ _ hi]
          replace fx4 := look_frozen lx4
          replace sx4 := look_lt lx4
          replace lx5 : look w1 (w.heap.size + 1 + 1) = some (.cells (VA h) 26 (0, 0)) := by rw [look_below hb1 (by omega)]; first | assumption | go_simp
          replace cx5 : ∀ i, i < 12 → World.cell? w1 ⟨w.heap.size + 1 + 1, i, none⟩ = some (.int .u32 (((h) i : Nat) : Int)) := fun i hi => by rw [look_cell lx5, VA_get _ _ hi]
          replace fx5 := look_frozen lx5
          replace sx5 := look_lt lx5
          replace lx7 : look w1 (b7) = some (.cells (VA (vmax f g)) 26 (0, 0)) := by rw [look_below hb1 (by omega)]; first | assumption | go_simp
          replace cx7 : ∀ i, i < 12 → World.cell? w1 ⟨b7, i, none⟩ = some (.int .u32 ((((vmax f g)) i : Nat) : Int)) := fun i hi => by rw [look_cell lx7, VA_get _ _ hi]
          replace fx7 := look_frozen lx7
          replace sx7 := look_lt lx7
          replace lx8 : look w1 (b8) = some (.cells (VA (vmin f g)) 26 (0, 0)) := by rw [look_below hb1 (by omega)]; first | assumption | go_simp
          replace cx8 : ∀ i, i < 12 → World.cell? w1 ⟨b8, i, none⟩ = some (.int .u32 ((((vmin f g)) i : Nat) : Int)) := fun i hi => by rw [look_cell lx8, VA_get _ _ hi]
          replace fx8 := look_frozen lx8
          replace sx8 := look_lt lx8
          replace hB3 := belT hB3 hb1
          clear hb1
          go_wp2_with fail
          refine ((Q3.out ▸ covers_any (vmin f g) h _)).mono ?_
          rintro e w1 ⟨rfl, hb1⟩
          replace lx3 : look w1 (w.heap.size) = some (.cells (VA f) 26 (0, 0)) := by rw [look_below hb1 (by omega)]; first | assumption | go_simp
          replace cx3 : ∀ i, i < 12 → World.cell? w1 ⟨w.heap.size, i, none⟩ = some (.int .u32 (((f) i : Nat) : Int)) := fun i hi => by rw [look_cell lx3, VA_get _ _ hi]
          replace fx3 := look_frozen lx3
          replace sx3 := look_lt lx3
          replace lx4 : look w1 (w.heap.size + 1) = some (.cells (VA g) 26 (0, 0)) := by rw [look_below hb1 (by omega)]; first | assumption | go_simp
          replace cx4 : ∀ i, i < 12 → World.cell? w1 ⟨w.heap.size + 1, i, none⟩ = some (.int .u32 (((g) i : Nat) : Int)) := fun i hi => by rw [look_cell lx4, VA_get _ _ hi]
          replace fx4 := look_frozen lx4
          replace sx4 := look_lt lx4
          replace lx5 : look w1 (w.heap.size + 1 + 1) = some (.cells (VA h) 26 (0, 0)) := by rw [look_below hb1 (by omega)]; first | assumption | go_simp
          replace cx5 : ∀ i, i < 12 → World.cell? w1 ⟨w.heap.size + 1 + 1, i, none⟩ = some (.int .u32 (((h) i : Nat) : Int)) := fun i hi => by rw [look_cell lx5, VA_get _ _ hi]
          replace fx5 := look_frozen lx5
          replace sx5 := look_lt lx5
          replace lx7 : look w1 (b7) = some (.cells (VA (vmax f g)) 26 (0, 0)) := by rw [look_below hb1 (by omega)]; first | assumption | go_simp
          replace cx7 : ∀ i, i < 12 → World.cell? w1 ⟨b7, i, none⟩ = some (.int .u32 ((((vmax f g)) i : Nat) : Int)) := fun i hi => by rw [look_cell lx7, VA_get _ _ hi]
          replace fx7 := look_frozen lx7
          replace sx7 := look_lt lx7
          replace lx8 : look w1 (b8) = some (.cells (VA (vmin f g)) 26 (0, 0)) := by rw [look_below hb1 (by omega)]; first | assumption | go_simp
          replace cx8 : ∀ i, i < 12 → World.cell? w1 ⟨b8, i, none⟩ = some (.int .u32 ((((vmin f g)) i : Nat) : Int)) := fun i hi => by rw [look_cell lx8, VA_get _ _ hi]
          replace fx8 := look_frozen lx8
          replace sx8 := look_lt lx8
          replace hB3 := belT hB3 hb1
          clear hb1
          have hB4 := hB3
          clear hB3
          go_wp2_with fail
          refine wp_region_words mixed 30 ([] :: [83] :: [84] :: [84] :: [85, 86, 84] :: [87, 84] :: [84] :: [84] :: [84] :: [90, 91, 84] :: [92, 84] :: [89, 93, 84] :: [94, 84] :: [88, 95, 84] :: [84, 96] :: [97] :: [98] :: [98] :: [99, 100, 98] :: [101, 98] :: [98] :: [102, 103, 98] :: [98, 104] :: [105] :: [106] :: [106] :: [107, 108, 106] :: [106] :: [109, 110, 106] :: [106, 111] :: []) (isV (.bool true) :: isV (.bool true) :: isV (.agg (VA (vmax f g))) :: isV (.agg (VA h)) :: isRow 26 2 (VA (vmax f g) ++ VA h) :: isV (.agg (VA (vmax (vmax f g) h))) :: isV (.agg (VA f)) :: isV (.agg (VA g)) :: isV (.agg (VA h)) :: isRow 26 2 (VA g ++ VA h) :: isV (.agg (VA (vmax g h))) :: isRow 26 2 (VA f ++ VA (vmax g h)) :: isV (.agg (VA (vmax f (vmax g h)))) :: isV (.bool true) :: isV (.bool true) :: isV (.bool true) :: isV (.agg (VA f)) :: isV (.agg (VA (vmin f g))) :: isRow 26 2 (VA f ++ VA (vmin f g)) :: isV (.agg (VA (vmax f (vmin f g)))) :: isV (.agg (VA f)) :: isV (.bool true) :: isV (.bool true) :: isV (.bool true) :: isV (.agg (VA f)) :: isV (.agg (VA (vmax f g))) :: isV (.agg (VA (vmin f (vmax f g)))) :: isV (.agg (VA f)) :: isV (.bool true) :: isV (.bool true) :: []) (by decide) (by kernel_rfl)
            ⟨stab_isV _, stab_isV _, stab_isV _, stab_isV _, stab_isRow _ _ _, stab_isV _, stab_isV _, stab_isV _, stab_isV _, stab_isRow _ _ _, stab_isV _, stab_isRow _ _ _, stab_isV _, stab_isV _, stab_isV _, stab_isV _, stab_isV _, stab_isV _, stab_isRow _ _ _, stab_isV _, stab_isV _, stab_isV _, stab_isV _, stab_isV _, stab_isV _, stab_isV _, stab_isV _, stab_isV _, stab_isV _, stab_isV _, trivial⟩ ⟨?_, ?_, ?_, ?_, ?_, ?_, ?_, ?_, ?_, ?_, ?_, ?_, ?_, ?_, ?_, ?_, ?_, ?_, ?_, ?_, ?_, ?_, ?_, ?_, ?_, ?_, ?_, ?_, ?_, ?_, trivial⟩ ?_
          · intro vs wq hB hm
            clear hm
            simp only [fill]
            go_wp2_with fail
            refine (alive04 _).mono ?_
            rintro e w1 ⟨rfl, hb1⟩
            go_wp2
            exact ⟨_, rfl, rfl, hb1, trivial⟩
          · intro vs wq hB hm
            have h83 : vs 83 = .bool true := meets_get hm 0 rfl rfl rfl rfl
            clear hm
            simp only [fill, h83]
            go_wp2
            exact ⟨_, rfl, rfl, Below.refl _ _, trivial⟩
          · intro vs wq hB hm
            have hl : look wq (b7) = some (.cells (VA (vmax f g)) 26 (0, 0)) := by rw [look_below hB (by omega)]; first | assumption | go_simp
            have h84 : vs 84 = .bool true := meets_get hm 1 rfl rfl rfl rfl
            clear hm
            simp only [fill, h84]
            go_wp2
            exact ⟨_, rfl, rfl, Below.refl _ _, trivial⟩
          · intro vs wq hB hm
            have hl : look wq (w.heap.size + 1 + 1) = some (.cells (VA h) 26 (0, 0)) := by rw [look_below hB (by omega)]; first | assumption | go_simp
            have h84 : vs 84 = .bool true := meets_get hm 1 rfl rfl rfl rfl
            clear hm
            simp only [fill, h84]
            go_wp2
            exact ⟨_, rfl, rfl, Below.refl _ _, trivial⟩
          · intro vs wq hB hm
            have h85 : vs 85 = .agg (VA (vmax f g)) := meets_get hm 2 rfl rfl rfl rfl
            have h86 : vs 86 = .agg (VA h) := meets_get hm 3 rfl rfl rfl rfl
            have h84 : vs 84 = .bool true := meets_get hm 1 rfl rfl rfl rfl
            clear hm
            simp only [fill, h85, h86, h84]
            go_wp2
            exact ⟨_, rfl, ⟨_, rfl, look_alloc_at _ _ _ rfl⟩, (Below.refl _ _).alloc (Nat.le_refl _) _, fun b hb => by cases hb; exact ⟨Nat.le_refl _, by simp⟩⟩
          · intro vs wq hB hm
            obtain ⟨b87, h87, l87⟩ := meets_get hm 4 rfl rfl rfl rfl
            have h84 : vs 84 = .bool true := meets_get hm 1 rfl rfl rfl rfl
            clear hm
            simp only [fill, h84, h87]
            go_wp2_with fail
            refine (join_two (vmax f g) h b87 _ l87).mono ?_
            rintro e w1 ⟨rfl, hb1⟩
            go_wp2
            exact ⟨_, rfl, rfl, hb1, trivial⟩
          · intro vs wq hB hm
            have hl : look wq (w.heap.size) = some (.cells (VA f) 26 (0, 0)) := by rw [look_below hB (by omega)]; first | assumption | go_simp
            have h84 : vs 84 = .bool true := meets_get hm 1 rfl rfl rfl rfl
            clear hm
            simp only [fill, h84]
            go_wp2
            exact ⟨_, rfl, rfl, Below.refl _ _, trivial⟩
          · intro vs wq hB hm
            have hl : look wq (w.heap.size + 1) = some (.cells (VA g) 26 (0, 0)) := by rw [look_below hB (by omega)]; first | assumption | go_simp
            have h84 : vs 84 = .bool true := meets_get hm 1 rfl rfl rfl rfl
            clear hm
            simp only [fill, h84]
            go_wp2
            exact ⟨_, rfl, rfl, Below.refl _ _, trivial⟩
          · intro vs wq hB hm
            have hl : look wq (w.heap.size + 1 + 1) = some (.cells (VA h) 26 (0, 0)) := by rw [look_below hB (by omega)]; first | assumption | go_simp
            have h84 : vs 84 = .bool true := meets_get hm 1 rfl rfl rfl rfl
            clear hm
            simp only [fill, h84]
            go_wp2
            exact ⟨_, rfl, rfl, Below.refl _ _, trivial⟩
          · intro vs wq hB hm
            have h90 : vs 90 = .agg (VA g) := meets_get hm 7 rfl rfl rfl rfl
            have h91 : vs 91 = .agg (VA h) := meets_get hm 8 rfl rfl rfl rfl
            have h84 : vs 84 = .bool true := meets_get hm 1 rfl rfl rfl rfl
            clear hm
            simp only [fill, h90, h91, h84]
            go_wp2
            exact ⟨_, rfl, ⟨_, rfl, look_alloc_at _ _ _ rfl⟩, (Below.refl _ _).alloc (Nat.le_refl _) _, fun b hb => by cases hb; exact ⟨Nat.le_refl _, by simp⟩⟩
          · intro vs wq hB hm
            obtain ⟨b92, h92, l92⟩ := meets_get hm 9 rfl rfl rfl rfl
            have h84 : vs 84 = .bool true := meets_get hm 1 rfl rfl rfl rfl
            clear hm
            simp only [fill, h84, h92]
            go_wp2_with fail
            refine (join_two g h b92 _ l92).mono ?_
            rintro e w1 ⟨rfl, hb1⟩
            go_wp2
            exact ⟨_, rfl, rfl, hb1, trivial⟩
          · intro vs wq hB hm
            have h89 : vs 89 = .agg (VA f) := meets_get hm 6 rfl rfl rfl rfl
            have h93 : vs 93 = .agg (VA (vmax g h)) := meets_get hm 10 rfl rfl rfl rfl
            have h84 : vs 84 = .bool true := meets_get hm 1 rfl rfl rfl rfl
            clear hm
            simp only [fill, h89, h93, h84]
            go_wp2
            exact ⟨_, rfl, ⟨_, rfl, look_alloc_at _ _ _ rfl⟩, (Below.refl _ _).alloc (Nat.le_refl _) _, fun b hb => by cases hb; exact ⟨Nat.le_refl _, by simp⟩⟩
          · intro vs wq hB hm
            obtain ⟨b94, h94, l94⟩ := meets_get hm 11 rfl rfl rfl rfl
            have h84 : vs 84 = .bool true := meets_get hm 1 rfl rfl rfl rfl
            clear hm
            simp only [fill, h84, h94]
            go_wp2_with fail
            refine (join_two f (vmax g h) b94 _ l94).mono ?_
            rintro e w1 ⟨rfl, hb1⟩
            go_wp2
            exact ⟨_, rfl, rfl, hb1, trivial⟩
          · intro vs wq hB hm
            have h88 : vs 88 = .agg (VA (vmax (vmax f g) h)) := meets_get hm 5 rfl rfl rfl rfl
            have h95 : vs 95 = .agg (VA (vmax f (vmax g h))) := meets_get hm 12 rfl rfl rfl rfl
            have h84 : vs 84 = .bool true := meets_get hm 1 rfl rfl rfl rfl
            clear hm
            simp only [fill, h88, h95, h84]
            go_wp2
            exact ⟨_, rfl, rfl, Below.refl _ _, trivial⟩
          · intro vs wq hB hm
            have h84 : vs 84 = .bool true := meets_get hm 1 rfl rfl rfl rfl
            have h96 : vs 96 = .bool true := meets_get hm 13 rfl rfl rfl rfl
            clear hm
            simp only [fill, h84, h96]
            go_wp2
            exact ⟨_, rfl, rfl, Below.refl _ _, trivial⟩
          · intro vs wq hB hm
            have h97 : vs 97 = .bool true := meets_get hm 14 rfl rfl rfl rfl
            clear hm
            simp only [fill, h97]
            go_wp2
            exact ⟨_, rfl, rfl, Below.refl _ _, trivial⟩
          · intro vs wq hB hm
            have hl : look wq (w.heap.size) = some (.cells (VA f) 26 (0, 0)) := by rw [look_below hB (by omega)]; first | assumption | go_simp
            have h98 : vs 98 = .bool true := meets_get hm 15 rfl rfl rfl rfl
            clear hm
            simp only [fill, h98]
            go_wp2
            exact ⟨_, rfl, rfl, Below.refl _ _, trivial⟩
          · intro vs wq hB hm
            have hl : look wq (b8) = some (.cells (VA (vmin f g)) 26 (0, 0)) := by rw [look_below hB (by omega)]; first | assumption | go_simp
            have h98 : vs 98 = .bool true := meets_get hm 15 rfl rfl rfl rfl
            clear hm
            simp only [fill, h98]
            go_wp2
            exact ⟨_, rfl, rfl, Below.refl _ _, trivial⟩
          · intro vs wq hB hm
            have h99 : vs 99 = .agg (VA f) := meets_get hm 16 rfl rfl rfl rfl
            have h100 : vs 100 = .agg (VA (vmin f g)) := meets_get hm 17 rfl rfl rfl rfl
            have h98 : vs 98 = .bool true := meets_get hm 15 rfl rfl rfl rfl
            clear hm
            simp only [fill, h99, h100, h98]
            go_wp2
            exact ⟨_, rfl, ⟨_, rfl, look_alloc_at _ _ _ rfl⟩, (Below.refl _ _).alloc (Nat.le_refl _) _, fun b hb => by cases hb; exact ⟨Nat.le_refl _, by simp⟩⟩
          · intro vs wq hB hm
            obtain ⟨b101, h101, l101⟩ := meets_get hm 18 rfl rfl rfl rfl
            have h98 : vs 98 = .bool true := meets_get hm 15 rfl rfl rfl rfl
            clear hm
            simp only [fill, h98, h101]
            go_wp2_with fail
            refine (join_two f (vmin f g) b101 _ l101).mono ?_
            rintro e w1 ⟨rfl, hb1⟩
            go_wp2
            exact ⟨_, rfl, rfl, hb1, trivial⟩
          · intro vs wq hB hm
            have hl : look wq (w.heap.size) = some (.cells (VA f) 26 (0, 0)) := by rw [look_below hB (by omega)]; first | assumption | go_simp
            have h98 : vs 98 = .bool true := meets_get hm 15 rfl rfl rfl rfl
            clear hm
            simp only [fill, h98]
            go_wp2
            exact ⟨_, rfl, rfl, Below.refl _ _, trivial⟩
          · intro vs wq hB hm
            have h102 : vs 102 = .agg (VA (vmax f (vmin f g))) := meets_get hm 19 rfl rfl rfl rfl
            have h103 : vs 103 = .agg (VA f) := meets_get hm 20 rfl rfl rfl rfl
            have h98 : vs 98 = .bool true := meets_get hm 15 rfl rfl rfl rfl
            clear hm
            simp only [fill, h102, h103, h98]
            go_wp2
            exact ⟨_, rfl, rfl, Below.refl _ _, trivial⟩
          · intro vs wq hB hm
            have h98 : vs 98 = .bool true := meets_get hm 15 rfl rfl rfl rfl
            have h104 : vs 104 = .bool true := meets_get hm 21 rfl rfl rfl rfl
            clear hm
            simp only [fill, h98, h104]
            go_wp2
            exact ⟨_, rfl, rfl, Below.refl _ _, trivial⟩
          · intro vs wq hB hm
            have h105 : vs 105 = .bool true := meets_get hm 22 rfl rfl rfl rfl
            clear hm
            simp only [fill, h105]
            go_wp2
            exact ⟨_, rfl, rfl, Below.refl _ _, trivial⟩
          · intro vs wq hB hm
            have hl : look wq (w.heap.size) = some (.cells (VA f) 26 (0, 0)) := by rw [look_below hB (by omega)]; first | assumption | go_simp
            have h106 : vs 106 = .bool true := meets_get hm 23 rfl rfl rfl rfl
            clear hm
            simp only [fill, h106]
            go_wp2
            exact ⟨_, rfl, rfl, Below.refl _ _, trivial⟩
          · intro vs wq hB hm
            have hl : look wq (b7) = some (.cells (VA (vmax f g)) 26 (0, 0)) := by rw [look_below hB (by omega)]; first | assumption | go_simp
            have h106 : vs 106 = .bool true := meets_get hm 23 rfl rfl rfl rfl
            clear hm
            simp only [fill, h106]
            go_wp2
            exact ⟨_, rfl, rfl, Below.refl _ _, trivial⟩
          · intro vs wq hB hm
            have h107 : vs 107 = .agg (VA f) := meets_get hm 24 rfl rfl rfl rfl
            have h108 : vs 108 = .agg (VA (vmax f g)) := meets_get hm 25 rfl rfl rfl rfl
            have h106 : vs 106 = .bool true := meets_get hm 23 rfl rfl rfl rfl
            clear hm
            simp only [fill, h107, h108, h106]
            go_wp2_with fail
            refine (meet_any f (vmax f g) _).mono ?_
            rintro e w1 ⟨rfl, hb1⟩
            go_wp2
            exact ⟨_, rfl, rfl, hb1, trivial⟩
          · intro vs wq hB hm
            have hl : look wq (w.heap.size) = some (.cells (VA f) 26 (0, 0)) := by rw [look_below hB (by omega)]; first | assumption | go_simp
            have h106 : vs 106 = .bool true := meets_get hm 23 rfl rfl rfl rfl
            clear hm
            simp only [fill, h106]
            go_wp2
            exact ⟨_, rfl, rfl, Below.refl _ _, trivial⟩
          · intro vs wq hB hm
            have h109 : vs 109 = .agg (VA (vmin f (vmax f g))) := meets_get hm 26 rfl rfl rfl rfl
            have h110 : vs 110 = .agg (VA f) := meets_get hm 27 rfl rfl rfl rfl
            have h106 : vs 106 = .bool true := meets_get hm 23 rfl rfl rfl rfl
            clear hm
            simp only [fill, h109, h110, h106]
            go_wp2
            exact ⟨_, rfl, rfl, Below.refl _ _, trivial⟩
          · intro vs wq hB hm
            have h106 : vs 106 = .bool true := meets_get hm 23 rfl rfl rfl rfl
            have h111 : vs 111 = .bool true := meets_get hm 28 rfl rfl rfl rfl
            clear hm
            simp only [fill, h106, h111]
            go_wp2
            exact ⟨_, rfl, rfl, Below.refl _ _, trivial⟩
          intro vs wq hB hm hne hlo
          have h83 : vs 83 = .bool true := hm 0 _ _ _ rfl rfl rfl
          have h84 : vs 84 = .bool true := hm 1 _ _ _ rfl rfl rfl
          have h85 : vs 85 = .agg (VA (vmax f g)) := hm 2 _ _ _ rfl rfl rfl
          have h86 : vs 86 = .agg (VA h) := hm 3 _ _ _ rfl rfl rfl
          obtain ⟨b87, h87, l87⟩ := hm 4 _ _ _ rfl rfl rfl
          have h88 : vs 88 = .agg (VA (vmax (vmax f g) h)) := hm 5 _ _ _ rfl rfl rfl
          have h89 : vs 89 = .agg (VA f) := hm 6 _ _ _ rfl rfl rfl
          have h90 : vs 90 = .agg (VA g) := hm 7 _ _ _ rfl rfl rfl
          have h91 : vs 91 = .agg (VA h) := hm 8 _ _ _ rfl rfl rfl
          obtain ⟨b92, h92, l92⟩ := hm 9 _ _ _ rfl rfl rfl
          have h93 : vs 93 = .agg (VA (vmax g h)) := hm 10 _ _ _ rfl rfl rfl
          obtain ⟨b94, h94, l94⟩ := hm 11 _ _ _ rfl rfl rfl
          have h95 : vs 95 = .agg (VA (vmax f (vmax g h))) := hm 12 _ _ _ rfl rfl rfl
          have h96 : vs 96 = .bool true := hm 13 _ _ _ rfl rfl rfl
          have h97 : vs 97 = .bool true := hm 14 _ _ _ rfl rfl rfl
          have h98 : vs 98 = .bool true := hm 15 _ _ _ rfl rfl rfl
          have h99 : vs 99 = .agg (VA f) := hm 16 _ _ _ rfl rfl rfl
          have h100 : vs 100 = .agg (VA (vmin f g)) := hm 17 _ _ _ rfl rfl rfl
          obtain ⟨b101, h101, l101⟩ := hm 18 _ _ _ rfl rfl rfl
          have h102 : vs 102 = .agg (VA (vmax f (vmin f g))) := hm 19 _ _ _ rfl rfl rfl
          have h103 : vs 103 = .agg (VA f) := hm 20 _ _ _ rfl rfl rfl
          have h104 : vs 104 = .bool true := hm 21 _ _ _ rfl rfl rfl
          have h105 : vs 105 = .bool true := hm 22 _ _ _ rfl rfl rfl
          have h106 : vs 106 = .bool true := hm 23 _ _ _ rfl rfl rfl
          have h107 : vs 107 = .agg (VA f) := hm 24 _ _ _ rfl rfl rfl
          have h108 : vs 108 = .agg (VA (vmax f g)) := hm 25 _ _ _ rfl rfl rfl
          have h109 : vs 109 = .agg (VA (vmin f (vmax f g))) := hm 26 _ _ _ rfl rfl rfl
          have h110 : vs 110 = .agg (VA f) := hm 27 _ _ _ rfl rfl rfl
          have h111 : vs 111 = .bool true := hm 28 _ _ _ rfl rfl rfl
          have h112 : vs 112 = .bool true := hm 29 _ _ _ rfl rfl rfl
          have lo87 : _ ≤ b87 ∧ b87 < wq.heap.size := hlo 4 _ _ rfl rfl rfl b87 (by rw [h87]; rfl)
          have lo92 : _ ≤ b92 ∧ b92 < wq.heap.size := hlo 9 _ _ rfl rfl rfl b92 (by rw [h92]; rfl)
          have ne87_92 : b87 ≠ b92 := fun h => hne 4 9 _ _ _ _ (by omega) rfl rfl rfl rfl rfl rfl b87 (by rw [h87]; rfl) (by rw [h92, h]; rfl)
          have lo94 : _ ≤ b94 ∧ b94 < wq.heap.size := hlo 11 _ _ rfl rfl rfl b94 (by rw [h94]; rfl)
          have ne87_94 : b87 ≠ b94 := fun h => hne 4 11 _ _ _ _ (by omega) rfl rfl rfl rfl rfl rfl b87 (by rw [h87]; rfl) (by rw [h94, h]; rfl)
          have ne92_94 : b92 ≠ b94 := fun h => hne 9 11 _ _ _ _ (by omega) rfl rfl rfl rfl rfl rfl b92 (by rw [h92]; rfl) (by rw [h94, h]; rfl)
          have lo101 : _ ≤ b101 ∧ b101 < wq.heap.size := hlo 18 _ _ rfl rfl rfl b101 (by rw [h101]; rfl)
          have ne87_101 : b87 ≠ b101 := fun h => hne 4 18 _ _ _ _ (by omega) rfl rfl rfl rfl rfl rfl b87 (by rw [h87]; rfl) (by rw [h101, h]; rfl)
          have ne92_101 : b92 ≠ b101 := fun h => hne 9 18 _ _ _ _ (by omega) rfl rfl rfl rfl rfl rfl b92 (by rw [h92]; rfl) (by rw [h101, h]; rfl)
          have ne94_101 : b94 ≠ b101 := fun h => hne 11 18 _ _ _ _ (by omega) rfl rfl rfl rfl rfl rfl b94 (by rw [h94]; rfl) (by rw [h101, h]; rfl)
          clear hne hlo
          simp only [fill, List.filterMap, List.take, List.drop, List.setIfInBounds_toArray, List.set_cons_zero, List.set_cons_succ, h83, h84, h85, h86, h87, h88, h89, h90, h91, h92, h93, h94, h95, h96, h97, h98, h99, h100, h101, h102, h103, h104, h105, h106, h107, h108, h109, h110, h111, h112]
          clear hm h83 h84 h85 h86 h87 h88 h89 h90 h91 h92 h93 h94 h95 h96 h97 h98 h99 h100 h101 h102 h103 h104 h105 h106 h107 h108 h109 h110 h111 h112
          go_wp2
          go_ret
          exact ⟨rfl, belT hB4 hB⟩
end Go.Proofs.Ytknhlkapeoodhaa
