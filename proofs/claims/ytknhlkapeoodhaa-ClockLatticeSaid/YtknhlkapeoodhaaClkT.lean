/- Contracts of the clock's reference: With, Has, Next. -/
import Derived.Test.YtknhlkapeoodhaaClkS
namespace Go.Proofs.Ytknhlkapeoodhaa
open Go.RowKit

theorem withN_get {f : Nat → Nat} {d : Int} {k : Nat} (h : 1 ≤ d ∧ d ≤ 12 ∧ 1 ≤ k ∧ k ≤ 1048576) (i : Nat) : withN f d k i = if (i : Int) + 1 = d ∧ f i < k then k else f i := by
  rw [withN, if_pos h]
  by_cases e : i = (d - 1).toNat
  · subst e
    rw [upd_same]
    have : (((d - 1).toNat : Nat) : Int) + 1 = d := by omega
    by_cases h2 : f (d - 1).toNat < k
    · rw [if_pos ⟨this, h2⟩]; omega
    · rw [if_neg (fun hh => h2 hh.2)]; omega
  · rw [upd_other _ _ _ _ e, if_neg (by omega)]

/-- the same, as far as place m. -/
def withTo (f : Nat → Nat) (d : Int) (k m : Nat) : Nat → Nat := fun i => if i < m then withN f d k i else f i
theorem withTo_zero (f : Nat → Nat) (d : Int) (k : Nat) : withTo f d k 0 = f := by funext i; simp [withTo]
theorem withTo_all (f : Nat → Nat) (d : Int) (k : Nat) : VA (withTo f d k 12) = VA (withN f d k) := VA_ext fun i hi => by simp [withTo, hi]
theorem withTo_at (f : Nat → Nat) (d : Int) (k m : Nat) : withTo f d k m m = f m := by simp [withTo]
theorem withTo_step (f : Nat → Nat) (d : Int) (k m : Nat) : upd (withTo f d k m) m (withN f d k m) = withTo f d k (m + 1) := by
  funext i
  by_cases e : i = m
  · subst e; simp [upd, withTo]
  · have : (i < m + 1) ↔ (i < m) := by omega
    simp [upd, withTo, e, this]
theorem withTo_same (f : Nat → Nat) (d : Int) (k m : Nat) (h : withN f d k m = f m) : VA (withTo f d k m) = VA (withTo f d k (m + 1)) := by
  rw [← withTo_step, h]
  exact VA_ext fun i _ => by
    by_cases e : i = m
    · subst e; rw [upd_same, withTo_at]
    · rw [upd_other _ _ _ _ e]

set_option maxRecDepth 100000 in
set_option maxHeartbeats 1600000 in
theorem rwith_any (f : Nat → Nat) (d : Int) (k : Nat) (w : World) :
    Calls Try.prog 29 #[.agg (VA f), .agg #[.int .i64 d, .int .u32 (k : Int)]] w fun e w' => e = .returned (.agg (VA (withN f d k))) ∧ Below w.heap.size w w' := by
  go_enter Try.func29, Try.ntmps29
  go_wp2
  go_loopw [6] (fun i wr => ∃ m : Nat, m ≤ 12 ∧ i = .int .i64 m ∧ Below w.heap.size w wr ∧ look wr w.heap.size = some (.cells (VA f) 26 (0, 0)) ∧ look wr (w.heap.size + 1) = some (.cells #[.int .i64 d, .int .u32 (k : Int)] 45 (0, 0)) ∧ look wr (w.heap.size + 1 + 1) = some (.cells (VA fun _ => 0) 26 (0, 0)) ∧ look wr (w.heap.size + 1 + 1 + 1) = some (.cells (VA (withTo f d k m)) 26 (0, 0))) (fun i _ => 12 - (intOf i).toNat)
  case atStart =>
    exact ⟨0, Nat.zero_le _, rfl, belA (belA (belA (belA (bel0 _) _) _) _) _, by go_simp, by go_simp, by go_simp, by rw [withTo_zero]; go_simp⟩
  case round =>
    obtain ⟨m, hm, rfl, hB0, h0, h1, h2, h3⟩ := hrel
    by_cases hml : m < 12
    · have hd : decide ((m : Int) < 12) = true := decide_eq_true (by omega)
      by_cases hr : 1 ≤ d ∧ d ≤ 12 ∧ 1 ≤ k ∧ k ≤ 1048576
      · have e1 := rightB_yes hr
        have HW := Lib.hid (withN_get hr (f := f) m)
        clear hr
        by_cases he : (m : Int) + 1 = d
        · have hb : (((m : Int) + 1) == d) = true := by simpa using he
          by_cases hk : f m < k
          · have HH : Hid (withN f d k m = k) := by
              show withN f d k m = k
              rw [HW.out, if_pos ⟨he, hk⟩]
            clear he HW
            go_wp2
            refine wp_region_words mixed 17 ([] :: [12] :: [13] :: [14] :: [15, 14] :: [14] :: [17, 14] :: [16, 18, 14] :: [14, 19] :: [20] :: [21] :: [22, 21] :: [21] :: [24, 21] :: [25, 21] :: [23, 26, 21] :: [21, 27] :: []) (isV (.agg #[.int .i64 d, .int .u32 (k : Int)]) :: isV (.bool true) :: isV (.bool true) :: isV (.int .i64 (m : Int)) :: isV (.int .i64 ((m : Int) + 1)) :: isV (.pointer (some ⟨w.heap.size + 1, 0, none⟩)) :: isV (.int .i64 d) :: isV (.bool true) :: isV (.bool true) :: isV (.bool true) :: isV (.pointer (some ⟨w.heap.size + 1, 1, none⟩)) :: isV (.int .u32 (k : Int)) :: isV (.int .i64 (m : Int)) :: isV (.pointer (some ⟨w.heap.size, m, none⟩)) :: isV (.int .u32 (f m : Int)) :: isV (.bool true) :: isV (.bool true) :: []) (by decide) (by kernel_rfl)
              ⟨stab_isV _, stab_isV _, stab_isV _, stab_isV _, stab_isV _, stab_isV _, stab_isV _, stab_isV _, stab_isV _, stab_isV _, stab_isV _, stab_isV _, stab_isV _, stab_isV _, stab_isV _, stab_isV _, stab_isV _, trivial⟩ ⟨?_, ?_, ?_, ?_, ?_, ?_, ?_, ?_, ?_, ?_, ?_, ?_, ?_, ?_, ?_, ?_, ?_, trivial⟩ ?_
            · intro vs wq hB hm
              have hl : look wq (w.heap.size + 1) = some (.cells (#[.int .i64 d, .int .u32 (k : Int)]) 45 (0, 0)) := by rw [look_below hB (by first | omega | (simp only [World.size_alloc]; omega) | exact look_lt (by assumption) | (simp only [World.size_alloc, World.size_setCell]; omega) | (simp; omega))]; first | assumption | go_simp
              have hc0 : World.cell? wq ⟨w.heap.size + 1, 0, none⟩ = some (.int .i64 d) := by rw [look_cell hl]; rfl
              have hc1 : World.cell? wq ⟨w.heap.size + 1, 1, none⟩ = some (.int .u32 (k : Int)) := by rw [look_cell hl]; rfl
              clear hm
              simp only [fill]
              go_wp2
              exact ⟨_, rfl, rfl, Below.refl _ _, trivial⟩
            · intro vs wq hB hm
              have h12 : vs 12 = .agg #[.int .i64 d, .int .u32 (k : Int)] := meets_get hm 0 rfl rfl rfl rfl
              clear hm
              simp only [fill, h12]
              go_wp2_with fail
              refine ((e1 ▸ rright_any d k _)).mono ?_
              rintro e w1 ⟨rfl, hb1⟩
              go_wp2
              exact ⟨_, rfl, rfl, hb1, trivial⟩
            · intro vs wq hB hm
              have h13 : vs 13 = .bool true := meets_get hm 1 rfl rfl rfl rfl
              clear hm
              simp only [fill, h13]
              go_wp2
              exact ⟨_, rfl, rfl, Below.refl _ _, trivial⟩
            · intro vs wq hB hm
              have h14 : vs 14 = .bool true := meets_get hm 2 rfl rfl rfl rfl
              clear hm
              simp only [fill, h14]
              go_wp2
              exact ⟨_, rfl, rfl, Below.refl _ _, trivial⟩
            · intro vs wq hB hm
              have h15 : vs 15 = .int .i64 (m : Int) := meets_get hm 3 rfl rfl rfl rfl
              have h14 : vs 14 = .bool true := meets_get hm 2 rfl rfl rfl rfl
              clear hm
              simp only [fill, h15, h14]
              go_wp2
              exact ⟨_, rfl, rfl, Below.refl _ _, trivial⟩
            · intro vs wq hB hm
              have h14 : vs 14 = .bool true := meets_get hm 2 rfl rfl rfl rfl
              clear hm
              simp only [fill, h14]
              go_wp2
              exact ⟨_, rfl, rfl, Below.refl _ _, trivial⟩
            · intro vs wq hB hm
              have hl : look wq (w.heap.size + 1) = some (.cells (#[.int .i64 d, .int .u32 (k : Int)]) 45 (0, 0)) := by rw [look_below hB (by first | omega | (simp only [World.size_alloc]; omega) | exact look_lt (by assumption) | (simp only [World.size_alloc, World.size_setCell]; omega) | (simp; omega))]; first | assumption | go_simp
              have hc : World.cell? wq ⟨w.heap.size + 1, 0, none⟩ = some (.int .i64 d) := by rw [look_cell hl]; first | rfl | exact VA_get _ _ (by omega)
              have h17 : vs 17 = .pointer (some ⟨w.heap.size + 1, 0, none⟩) := meets_get hm 5 rfl rfl rfl rfl
              have h14 : vs 14 = .bool true := meets_get hm 2 rfl rfl rfl rfl
              clear hm
              simp only [fill, h17, h14]
              go_wp2
              exact ⟨_, rfl, rfl, Below.refl _ _, trivial⟩
            · intro vs wq hB hm
              have h16 : vs 16 = .int .i64 ((m : Int) + 1) := meets_get hm 4 rfl rfl rfl rfl
              have h18 : vs 18 = .int .i64 d := meets_get hm 6 rfl rfl rfl rfl
              have h14 : vs 14 = .bool true := meets_get hm 2 rfl rfl rfl rfl
              clear hm
              simp only [fill, h16, h18, h14]
              go_wp2
              exact ⟨_, rfl, rfl, Below.refl _ _, trivial⟩
            · intro vs wq hB hm
              have h14 : vs 14 = .bool true := meets_get hm 2 rfl rfl rfl rfl
              have h19 : vs 19 = .bool true := meets_get hm 7 rfl rfl rfl rfl
              clear hm
              simp only [fill, h14, h19]
              go_wp2
              exact ⟨_, rfl, rfl, Below.refl _ _, trivial⟩
            · intro vs wq hB hm
              have h20 : vs 20 = .bool true := meets_get hm 8 rfl rfl rfl rfl
              clear hm
              simp only [fill, h20]
              go_wp2
              exact ⟨_, rfl, rfl, Below.refl _ _, trivial⟩
            · intro vs wq hB hm
              have h21 : vs 21 = .bool true := meets_get hm 9 rfl rfl rfl rfl
              clear hm
              simp only [fill, h21]
              go_wp2
              exact ⟨_, rfl, rfl, Below.refl _ _, trivial⟩
            · intro vs wq hB hm
              have hl : look wq (w.heap.size + 1) = some (.cells (#[.int .i64 d, .int .u32 (k : Int)]) 45 (0, 0)) := by rw [look_below hB (by first | omega | (simp only [World.size_alloc]; omega) | exact look_lt (by assumption) | (simp only [World.size_alloc, World.size_setCell]; omega) | (simp; omega))]; first | assumption | go_simp
              have hc : World.cell? wq ⟨w.heap.size + 1, 1, none⟩ = some (.int .u32 (k : Int)) := by rw [look_cell hl]; first | rfl | exact VA_get _ _ (by omega)
              have h22 : vs 22 = .pointer (some ⟨w.heap.size + 1, 1, none⟩) := meets_get hm 10 rfl rfl rfl rfl
              have h21 : vs 21 = .bool true := meets_get hm 9 rfl rfl rfl rfl
              clear hm
              simp only [fill, h22, h21]
              go_wp2
              exact ⟨_, rfl, rfl, Below.refl _ _, trivial⟩
            · intro vs wq hB hm
              have h21 : vs 21 = .bool true := meets_get hm 9 rfl rfl rfl rfl
              clear hm
              simp only [fill, h21]
              go_wp2
              exact ⟨_, rfl, rfl, Below.refl _ _, trivial⟩
            · intro vs wq hB hm
              have h24 : vs 24 = .int .i64 (m : Int) := meets_get hm 12 rfl rfl rfl rfl
              have h21 : vs 21 = .bool true := meets_get hm 9 rfl rfl rfl rfl
              clear hm
              simp only [fill, h24, h21]
              go_wp2
              exact ⟨_, rfl, rfl, Below.refl _ _, trivial⟩
            · intro vs wq hB hm
              have hl : look wq (w.heap.size) = some (.cells (VA f) 26 (0, 0)) := by rw [look_below hB (by first | omega | (simp only [World.size_alloc]; omega) | exact look_lt (by assumption) | (simp only [World.size_alloc, World.size_setCell]; omega) | (simp; omega))]; first | assumption | go_simp
              have hc : World.cell? wq ⟨w.heap.size, m, none⟩ = some (.int .u32 (f m : Int)) := by rw [look_cell hl]; first | rfl | exact VA_get _ _ (by omega)
              have h25 : vs 25 = .pointer (some ⟨w.heap.size, m, none⟩) := meets_get hm 13 rfl rfl rfl rfl
              have h21 : vs 21 = .bool true := meets_get hm 9 rfl rfl rfl rfl
              clear hm
              simp only [fill, h25, h21]
              go_wp2
              exact ⟨_, rfl, rfl, Below.refl _ _, trivial⟩
            · intro vs wq hB hm
              have h23 : vs 23 = .int .u32 (k : Int) := meets_get hm 11 rfl rfl rfl rfl
              have h26 : vs 26 = .int .u32 (f m : Int) := meets_get hm 14 rfl rfl rfl rfl
              have h21 : vs 21 = .bool true := meets_get hm 9 rfl rfl rfl rfl
              clear hm
              simp only [fill, h23, h26, h21]
              go_wp2
              exact ⟨_, rfl, rfl, Below.refl _ _, trivial⟩
            · intro vs wq hB hm
              have h21 : vs 21 = .bool true := meets_get hm 9 rfl rfl rfl rfl
              have h27 : vs 27 = .bool true := meets_get hm 15 rfl rfl rfl rfl
              clear hm
              simp only [fill, h21, h27]
              go_wp2
              exact ⟨_, rfl, rfl, Below.refl _ _, trivial⟩
            intro vs wq hB hm hne hlo
            have h12 : vs 12 = .agg #[.int .i64 d, .int .u32 (k : Int)] := hm 0 _ _ _ rfl rfl rfl
            have h13 : vs 13 = .bool true := hm 1 _ _ _ rfl rfl rfl
            have h14 : vs 14 = .bool true := hm 2 _ _ _ rfl rfl rfl
            have h15 : vs 15 = .int .i64 (m : Int) := hm 3 _ _ _ rfl rfl rfl
            have h16 : vs 16 = .int .i64 ((m : Int) + 1) := hm 4 _ _ _ rfl rfl rfl
            have h17 : vs 17 = .pointer (some ⟨w.heap.size + 1, 0, none⟩) := hm 5 _ _ _ rfl rfl rfl
            have h18 : vs 18 = .int .i64 d := hm 6 _ _ _ rfl rfl rfl
            have h19 : vs 19 = .bool true := hm 7 _ _ _ rfl rfl rfl
            have h20 : vs 20 = .bool true := hm 8 _ _ _ rfl rfl rfl
            have h21 : vs 21 = .bool true := hm 9 _ _ _ rfl rfl rfl
            have h22 : vs 22 = .pointer (some ⟨w.heap.size + 1, 1, none⟩) := hm 10 _ _ _ rfl rfl rfl
            have h23 : vs 23 = .int .u32 (k : Int) := hm 11 _ _ _ rfl rfl rfl
            have h24 : vs 24 = .int .i64 (m : Int) := hm 12 _ _ _ rfl rfl rfl
            have h25 : vs 25 = .pointer (some ⟨w.heap.size, m, none⟩) := hm 13 _ _ _ rfl rfl rfl
            have h26 : vs 26 = .int .u32 (f m : Int) := hm 14 _ _ _ rfl rfl rfl
            have h27 : vs 27 = .bool true := hm 15 _ _ _ rfl rfl rfl
            have h28 : vs 28 = .bool true := hm 16 _ _ _ rfl rfl rfl
            clear hne hlo
            simp only [fill, List.filterMap, List.take, List.drop, List.setIfInBounds_toArray, List.set_cons_zero, List.set_cons_succ, h12, h13, h14, h15, h16, h17, h18, h19, h20, h21, h22, h23, h24, h25, h26, h27, h28]
            clear hm h12 h13 h14 h15 h16 h17 h18 h19 h20 h21 h22 h23 h24 h25 h26 h27 h28
            replace lx : look wq (w.heap.size) = some (.cells (VA f) 26 (0, 0)) := by rw [look_below hB (by first | omega | (simp only [World.size_alloc]; omega) | exact look_lt (by assumption) | (simp only [World.size_alloc, World.size_setCell]; omega) | (simp; omega))]; first | assumption | go_simp
            replace cx : ∀ i, i < 12 → World.cell? wq ⟨w.heap.size, i, none⟩ = some (.int .u32 (((f) i : Nat) : Int)) := fun i hi => by rw [look_cell lx, VA_get _ _ hi]
            replace fx := look_frozen lx
            replace sx := look_lt lx
            replace ly : look wq (w.heap.size + 1) = some (.cells (#[.int .i64 d, .int .u32 (k : Int)]) 45 (0, 0)) := by rw [look_below hB (by first | omega | (simp only [World.size_alloc]; omega) | exact look_lt (by assumption) | (simp only [World.size_alloc, World.size_setCell]; omega) | (simp; omega))]; first | assumption | go_simp
            replace cy0 : World.cell? wq ⟨w.heap.size + 1, 0, none⟩ = some (.int .i64 d) := by rw [look_cell ly]; rfl
            replace cy1 : World.cell? wq ⟨w.heap.size + 1, 1, none⟩ = some (.int .u32 (k : Int)) := by rw [look_cell ly]; rfl
            replace fy := look_frozen ly
            replace sy := look_lt ly
            replace lz : look wq (w.heap.size + 1 + 1) = some (.cells (VA fun _ => 0) 26 (0, 0)) := by rw [look_below hB (by first | omega | (simp only [World.size_alloc]; omega) | exact look_lt (by assumption) | (simp only [World.size_alloc, World.size_setCell]; omega) | (simp; omega))]; first | assumption | go_simp
            replace cz : ∀ i, i < 12 → World.cell? wq ⟨w.heap.size + 1 + 1, i, none⟩ = some (.int .u32 (((fun _ => 0) i : Nat) : Int)) := fun i hi => by rw [look_cell lz, VA_get _ _ hi]
            replace fz := look_frozen lz
            replace sz := look_lt lz
            replace lu : look wq (w.heap.size + 1 + 1 + 1) = some (.cells (VA (withTo f d k m)) 26 (0, 0)) := by rw [look_below hB (by first | omega | (simp only [World.size_alloc]; omega) | exact look_lt (by assumption) | (simp only [World.size_alloc, World.size_setCell]; omega) | (simp; omega))]; first | assumption | go_simp
            replace cu : ∀ i, i < 12 → World.cell? wq ⟨w.heap.size + 1 + 1 + 1, i, none⟩ = some (.int .u32 ((((withTo f d k m)) i : Nat) : Int)) := fun i hi => by rw [look_cell lu, VA_get _ _ hi]
            replace fu := look_frozen lu
            replace su := look_lt lu
            have c3 := cu m hml
            go_wp2
            go_roundw
            case measure => simp [intOf]; omega
            case rel =>
              refine ⟨m + 1, by omega, by go_num, belS (belT hB0 hB) (by simp; omega) _, by go_simp, by go_simp, by go_simp, ?_⟩
              rw [look_setCell, if_pos rfl, lu]
              simp only [Option.map_some, setObj_cells]
              rw [VA_set, ← withTo_step, HH.out]
          · have HH : Hid (withN f d k m = f m) := by
              show withN f d k m = f m
              rw [HW.out, if_neg (fun h => hk h.2)]
            clear he HW
            go_wp2
            refine wp_region_words mixed 17 ([] :: [12] :: [13] :: [14] :: [15, 14] :: [14] :: [17, 14] :: [16, 18, 14] :: [14, 19] :: [20] :: [21] :: [22, 21] :: [21] :: [24, 21] :: [25, 21] :: [23, 26, 21] :: [21, 27] :: []) (isV (.agg #[.int .i64 d, .int .u32 (k : Int)]) :: isV (.bool true) :: isV (.bool true) :: isV (.int .i64 (m : Int)) :: isV (.int .i64 ((m : Int) + 1)) :: isV (.pointer (some ⟨w.heap.size + 1, 0, none⟩)) :: isV (.int .i64 d) :: isV (.bool true) :: isV (.bool true) :: isV (.bool true) :: isV (.pointer (some ⟨w.heap.size + 1, 1, none⟩)) :: isV (.int .u32 (k : Int)) :: isV (.int .i64 (m : Int)) :: isV (.pointer (some ⟨w.heap.size, m, none⟩)) :: isV (.int .u32 (f m : Int)) :: isV (.bool false) :: isV (.bool false) :: []) (by decide) (by kernel_rfl)
              ⟨stab_isV _, stab_isV _, stab_isV _, stab_isV _, stab_isV _, stab_isV _, stab_isV _, stab_isV _, stab_isV _, stab_isV _, stab_isV _, stab_isV _, stab_isV _, stab_isV _, stab_isV _, stab_isV _, stab_isV _, trivial⟩ ⟨?_, ?_, ?_, ?_, ?_, ?_, ?_, ?_, ?_, ?_, ?_, ?_, ?_, ?_, ?_, ?_, ?_, trivial⟩ ?_
            · intro vs wq hB hm
              have hl : look wq (w.heap.size + 1) = some (.cells (#[.int .i64 d, .int .u32 (k : Int)]) 45 (0, 0)) := by rw [look_below hB (by first | omega | (simp only [World.size_alloc]; omega) | exact look_lt (by assumption) | (simp only [World.size_alloc, World.size_setCell]; omega) | (simp; omega))]; first | assumption | go_simp
              have hc0 : World.cell? wq ⟨w.heap.size + 1, 0, none⟩ = some (.int .i64 d) := by rw [look_cell hl]; rfl
              have hc1 : World.cell? wq ⟨w.heap.size + 1, 1, none⟩ = some (.int .u32 (k : Int)) := by rw [look_cell hl]; rfl
              clear hm
              simp only [fill]
              go_wp2
              exact ⟨_, rfl, rfl, Below.refl _ _, trivial⟩
            · intro vs wq hB hm
              have h12 : vs 12 = .agg #[.int .i64 d, .int .u32 (k : Int)] := meets_get hm 0 rfl rfl rfl rfl
              clear hm
              simp only [fill, h12]
              go_wp2_with fail
              refine ((e1 ▸ rright_any d k _)).mono ?_
              rintro e w1 ⟨rfl, hb1⟩
              go_wp2
              exact ⟨_, rfl, rfl, hb1, trivial⟩
            · intro vs wq hB hm
              have h13 : vs 13 = .bool true := meets_get hm 1 rfl rfl rfl rfl
              clear hm
              simp only [fill, h13]
              go_wp2
              exact ⟨_, rfl, rfl, Below.refl _ _, trivial⟩
            · intro vs wq hB hm
              have h14 : vs 14 = .bool true := meets_get hm 2 rfl rfl rfl rfl
              clear hm
              simp only [fill, h14]
              go_wp2
              exact ⟨_, rfl, rfl, Below.refl _ _, trivial⟩
            · intro vs wq hB hm
              have h15 : vs 15 = .int .i64 (m : Int) := meets_get hm 3 rfl rfl rfl rfl
              have h14 : vs 14 = .bool true := meets_get hm 2 rfl rfl rfl rfl
              clear hm
              simp only [fill, h15, h14]
              go_wp2
              exact ⟨_, rfl, rfl, Below.refl _ _, trivial⟩
            · intro vs wq hB hm
              have h14 : vs 14 = .bool true := meets_get hm 2 rfl rfl rfl rfl
              clear hm
              simp only [fill, h14]
              go_wp2
              exact ⟨_, rfl, rfl, Below.refl _ _, trivial⟩
            · intro vs wq hB hm
              have hl : look wq (w.heap.size + 1) = some (.cells (#[.int .i64 d, .int .u32 (k : Int)]) 45 (0, 0)) := by rw [look_below hB (by first | omega | (simp only [World.size_alloc]; omega) | exact look_lt (by assumption) | (simp only [World.size_alloc, World.size_setCell]; omega) | (simp; omega))]; first | assumption | go_simp
              have hc : World.cell? wq ⟨w.heap.size + 1, 0, none⟩ = some (.int .i64 d) := by rw [look_cell hl]; first | rfl | exact VA_get _ _ (by omega)
              have h17 : vs 17 = .pointer (some ⟨w.heap.size + 1, 0, none⟩) := meets_get hm 5 rfl rfl rfl rfl
              have h14 : vs 14 = .bool true := meets_get hm 2 rfl rfl rfl rfl
              clear hm
              simp only [fill, h17, h14]
              go_wp2
              exact ⟨_, rfl, rfl, Below.refl _ _, trivial⟩
            · intro vs wq hB hm
              have h16 : vs 16 = .int .i64 ((m : Int) + 1) := meets_get hm 4 rfl rfl rfl rfl
              have h18 : vs 18 = .int .i64 d := meets_get hm 6 rfl rfl rfl rfl
              have h14 : vs 14 = .bool true := meets_get hm 2 rfl rfl rfl rfl
              clear hm
              simp only [fill, h16, h18, h14]
              go_wp2
              exact ⟨_, rfl, rfl, Below.refl _ _, trivial⟩
            · intro vs wq hB hm
              have h14 : vs 14 = .bool true := meets_get hm 2 rfl rfl rfl rfl
              have h19 : vs 19 = .bool true := meets_get hm 7 rfl rfl rfl rfl
              clear hm
              simp only [fill, h14, h19]
              go_wp2
              exact ⟨_, rfl, rfl, Below.refl _ _, trivial⟩
            · intro vs wq hB hm
              have h20 : vs 20 = .bool true := meets_get hm 8 rfl rfl rfl rfl
              clear hm
              simp only [fill, h20]
              go_wp2
              exact ⟨_, rfl, rfl, Below.refl _ _, trivial⟩
            · intro vs wq hB hm
              have h21 : vs 21 = .bool true := meets_get hm 9 rfl rfl rfl rfl
              clear hm
              simp only [fill, h21]
              go_wp2
              exact ⟨_, rfl, rfl, Below.refl _ _, trivial⟩
            · intro vs wq hB hm
              have hl : look wq (w.heap.size + 1) = some (.cells (#[.int .i64 d, .int .u32 (k : Int)]) 45 (0, 0)) := by rw [look_below hB (by first | omega | (simp only [World.size_alloc]; omega) | exact look_lt (by assumption) | (simp only [World.size_alloc, World.size_setCell]; omega) | (simp; omega))]; first | assumption | go_simp
              have hc : World.cell? wq ⟨w.heap.size + 1, 1, none⟩ = some (.int .u32 (k : Int)) := by rw [look_cell hl]; first | rfl | exact VA_get _ _ (by omega)
              have h22 : vs 22 = .pointer (some ⟨w.heap.size + 1, 1, none⟩) := meets_get hm 10 rfl rfl rfl rfl
              have h21 : vs 21 = .bool true := meets_get hm 9 rfl rfl rfl rfl
              clear hm
              simp only [fill, h22, h21]
              go_wp2
              exact ⟨_, rfl, rfl, Below.refl _ _, trivial⟩
            · intro vs wq hB hm
              have h21 : vs 21 = .bool true := meets_get hm 9 rfl rfl rfl rfl
              clear hm
              simp only [fill, h21]
              go_wp2
              exact ⟨_, rfl, rfl, Below.refl _ _, trivial⟩
            · intro vs wq hB hm
              have h24 : vs 24 = .int .i64 (m : Int) := meets_get hm 12 rfl rfl rfl rfl
              have h21 : vs 21 = .bool true := meets_get hm 9 rfl rfl rfl rfl
              clear hm
              simp only [fill, h24, h21]
              go_wp2
              exact ⟨_, rfl, rfl, Below.refl _ _, trivial⟩
            · intro vs wq hB hm
              have hl : look wq (w.heap.size) = some (.cells (VA f) 26 (0, 0)) := by rw [look_below hB (by first | omega | (simp only [World.size_alloc]; omega) | exact look_lt (by assumption) | (simp only [World.size_alloc, World.size_setCell]; omega) | (simp; omega))]; first | assumption | go_simp
              have hc : World.cell? wq ⟨w.heap.size, m, none⟩ = some (.int .u32 (f m : Int)) := by rw [look_cell hl]; first | rfl | exact VA_get _ _ (by omega)
              have h25 : vs 25 = .pointer (some ⟨w.heap.size, m, none⟩) := meets_get hm 13 rfl rfl rfl rfl
              have h21 : vs 21 = .bool true := meets_get hm 9 rfl rfl rfl rfl
              clear hm
              simp only [fill, h25, h21]
              go_wp2
              exact ⟨_, rfl, rfl, Below.refl _ _, trivial⟩
            · intro vs wq hB hm
              have h23 : vs 23 = .int .u32 (k : Int) := meets_get hm 11 rfl rfl rfl rfl
              have h26 : vs 26 = .int .u32 (f m : Int) := meets_get hm 14 rfl rfl rfl rfl
              have h21 : vs 21 = .bool true := meets_get hm 9 rfl rfl rfl rfl
              clear hm
              simp only [fill, h23, h26, h21]
              go_wp2
              exact ⟨_, rfl, rfl, Below.refl _ _, trivial⟩
            · intro vs wq hB hm
              have h21 : vs 21 = .bool true := meets_get hm 9 rfl rfl rfl rfl
              have h27 : vs 27 = .bool false := meets_get hm 15 rfl rfl rfl rfl
              clear hm
              simp only [fill, h21, h27]
              go_wp2
              exact ⟨_, rfl, rfl, Below.refl _ _, trivial⟩
            intro vs wq hB hm hne hlo
            have h12 : vs 12 = .agg #[.int .i64 d, .int .u32 (k : Int)] := hm 0 _ _ _ rfl rfl rfl
            have h13 : vs 13 = .bool true := hm 1 _ _ _ rfl rfl rfl
            have h14 : vs 14 = .bool true := hm 2 _ _ _ rfl rfl rfl
            have h15 : vs 15 = .int .i64 (m : Int) := hm 3 _ _ _ rfl rfl rfl
            have h16 : vs 16 = .int .i64 ((m : Int) + 1) := hm 4 _ _ _ rfl rfl rfl
            have h17 : vs 17 = .pointer (some ⟨w.heap.size + 1, 0, none⟩) := hm 5 _ _ _ rfl rfl rfl
            have h18 : vs 18 = .int .i64 d := hm 6 _ _ _ rfl rfl rfl
            have h19 : vs 19 = .bool true := hm 7 _ _ _ rfl rfl rfl
            have h20 : vs 20 = .bool true := hm 8 _ _ _ rfl rfl rfl
            have h21 : vs 21 = .bool true := hm 9 _ _ _ rfl rfl rfl
            have h22 : vs 22 = .pointer (some ⟨w.heap.size + 1, 1, none⟩) := hm 10 _ _ _ rfl rfl rfl
            have h23 : vs 23 = .int .u32 (k : Int) := hm 11 _ _ _ rfl rfl rfl
            have h24 : vs 24 = .int .i64 (m : Int) := hm 12 _ _ _ rfl rfl rfl
            have h25 : vs 25 = .pointer (some ⟨w.heap.size, m, none⟩) := hm 13 _ _ _ rfl rfl rfl
            have h26 : vs 26 = .int .u32 (f m : Int) := hm 14 _ _ _ rfl rfl rfl
            have h27 : vs 27 = .bool false := hm 15 _ _ _ rfl rfl rfl
            have h28 : vs 28 = .bool false := hm 16 _ _ _ rfl rfl rfl
            clear hne hlo
            simp only [fill, List.filterMap, List.take, List.drop, List.setIfInBounds_toArray, List.set_cons_zero, List.set_cons_succ, h12, h13, h14, h15, h16, h17, h18, h19, h20, h21, h22, h23, h24, h25, h26, h27, h28]
            clear hm h12 h13 h14 h15 h16 h17 h18 h19 h20 h21 h22 h23 h24 h25 h26 h27 h28
            replace lx : look wq (w.heap.size) = some (.cells (VA f) 26 (0, 0)) := by rw [look_below hB (by first | omega | (simp only [World.size_alloc]; omega) | exact look_lt (by assumption) | (simp only [World.size_alloc, World.size_setCell]; omega) | (simp; omega))]; first | assumption | go_simp
            replace cx : ∀ i, i < 12 → World.cell? wq ⟨w.heap.size, i, none⟩ = some (.int .u32 (((f) i : Nat) : Int)) := fun i hi => by rw [look_cell lx, VA_get _ _ hi]
            replace fx := look_frozen lx
            replace sx := look_lt lx
            replace ly : look wq (w.heap.size + 1) = some (.cells (#[.int .i64 d, .int .u32 (k : Int)]) 45 (0, 0)) := by rw [look_below hB (by first | omega | (simp only [World.size_alloc]; omega) | exact look_lt (by assumption) | (simp only [World.size_alloc, World.size_setCell]; omega) | (simp; omega))]; first | assumption | go_simp
            replace cy0 : World.cell? wq ⟨w.heap.size + 1, 0, none⟩ = some (.int .i64 d) := by rw [look_cell ly]; rfl
            replace cy1 : World.cell? wq ⟨w.heap.size + 1, 1, none⟩ = some (.int .u32 (k : Int)) := by rw [look_cell ly]; rfl
            replace fy := look_frozen ly
            replace sy := look_lt ly
            replace lz : look wq (w.heap.size + 1 + 1) = some (.cells (VA fun _ => 0) 26 (0, 0)) := by rw [look_below hB (by first | omega | (simp only [World.size_alloc]; omega) | exact look_lt (by assumption) | (simp only [World.size_alloc, World.size_setCell]; omega) | (simp; omega))]; first | assumption | go_simp
            replace cz : ∀ i, i < 12 → World.cell? wq ⟨w.heap.size + 1 + 1, i, none⟩ = some (.int .u32 (((fun _ => 0) i : Nat) : Int)) := fun i hi => by rw [look_cell lz, VA_get _ _ hi]
            replace fz := look_frozen lz
            replace sz := look_lt lz
            replace lu : look wq (w.heap.size + 1 + 1 + 1) = some (.cells (VA (withTo f d k m)) 26 (0, 0)) := by rw [look_below hB (by first | omega | (simp only [World.size_alloc]; omega) | exact look_lt (by assumption) | (simp only [World.size_alloc, World.size_setCell]; omega) | (simp; omega))]; first | assumption | go_simp
            replace cu : ∀ i, i < 12 → World.cell? wq ⟨w.heap.size + 1 + 1 + 1, i, none⟩ = some (.int .u32 ((((withTo f d k m)) i : Nat) : Int)) := fun i hi => by rw [look_cell lu, VA_get _ _ hi]
            replace fu := look_frozen lu
            replace su := look_lt lu
            go_wp2
            go_roundw
            case measure => simp [intOf]; omega
            case rel => exact ⟨m + 1, by omega, by go_num, belT hB0 hB, lx, ly, lz, by rw [lu, withTo_same _ _ _ _ HH.out]⟩
        · have hb : (((m : Int) + 1) == d) = false := by simpa using he
          have HH : Hid (withN f d k m = f m) := by
            show withN f d k m = f m
            rw [HW.out, if_neg (fun h => he h.1)]
          clear he HW
          go_wp2
          refine wp_region_words mixed 17 ([] :: [12] :: [13] :: [14] :: [15, 14] :: [14] :: [17, 14] :: [16, 18, 14] :: [14, 19] :: [20] :: [21] :: [22, 21] :: [21] :: [24, 21] :: [25, 21] :: [23, 26, 21] :: [21, 27] :: []) (isV (.agg #[.int .i64 d, .int .u32 (k : Int)]) :: isV (.bool true) :: isV (.bool true) :: isV (.int .i64 (m : Int)) :: isV (.int .i64 ((m : Int) + 1)) :: isV (.pointer (some ⟨w.heap.size + 1, 0, none⟩)) :: isV (.int .i64 d) :: isV (.bool false) :: isV (.bool false) :: isV (.bool false) :: isV (undef) :: isV (undef) :: isV (undef) :: isV (undef) :: isV (undef) :: isV (undef) :: isV (.bool false) :: []) (by decide) (by kernel_rfl)
            ⟨stab_isV _, stab_isV _, stab_isV _, stab_isV _, stab_isV _, stab_isV _, stab_isV _, stab_isV _, stab_isV _, stab_isV _, stab_isV _, stab_isV _, stab_isV _, stab_isV _, stab_isV _, stab_isV _, stab_isV _, trivial⟩ ⟨?_, ?_, ?_, ?_, ?_, ?_, ?_, ?_, ?_, ?_, ?_, ?_, ?_, ?_, ?_, ?_, ?_, trivial⟩ ?_
          · intro vs wq hB hm
            have hl : look wq (w.heap.size + 1) = some (.cells (#[.int .i64 d, .int .u32 (k : Int)]) 45 (0, 0)) := by rw [look_below hB (by first | omega | (simp only [World.size_alloc]; omega) | exact look_lt (by assumption) | (simp only [World.size_alloc, World.size_setCell]; omega) | (simp; omega))]; first | assumption | go_simp
            have hc0 : World.cell? wq ⟨w.heap.size + 1, 0, none⟩ = some (.int .i64 d) := by rw [look_cell hl]; rfl
            have hc1 : World.cell? wq ⟨w.heap.size + 1, 1, none⟩ = some (.int .u32 (k : Int)) := by rw [look_cell hl]; rfl
            clear hm
            simp only [fill]
            go_wp2
            exact ⟨_, rfl, rfl, Below.refl _ _, trivial⟩
          · intro vs wq hB hm
            have h12 : vs 12 = .agg #[.int .i64 d, .int .u32 (k : Int)] := meets_get hm 0 rfl rfl rfl rfl
            clear hm
            simp only [fill, h12]
            go_wp2_with fail
            refine ((e1 ▸ rright_any d k _)).mono ?_
            rintro e w1 ⟨rfl, hb1⟩
            go_wp2
            exact ⟨_, rfl, rfl, hb1, trivial⟩
          · intro vs wq hB hm
            have h13 : vs 13 = .bool true := meets_get hm 1 rfl rfl rfl rfl
            clear hm
            simp only [fill, h13]
            go_wp2
            exact ⟨_, rfl, rfl, Below.refl _ _, trivial⟩
          · intro vs wq hB hm
            have h14 : vs 14 = .bool true := meets_get hm 2 rfl rfl rfl rfl
            clear hm
            simp only [fill, h14]
            go_wp2
            exact ⟨_, rfl, rfl, Below.refl _ _, trivial⟩
          · intro vs wq hB hm
            have h15 : vs 15 = .int .i64 (m : Int) := meets_get hm 3 rfl rfl rfl rfl
            have h14 : vs 14 = .bool true := meets_get hm 2 rfl rfl rfl rfl
            clear hm
            simp only [fill, h15, h14]
            go_wp2
            exact ⟨_, rfl, rfl, Below.refl _ _, trivial⟩
          · intro vs wq hB hm
            have h14 : vs 14 = .bool true := meets_get hm 2 rfl rfl rfl rfl
            clear hm
            simp only [fill, h14]
            go_wp2
            exact ⟨_, rfl, rfl, Below.refl _ _, trivial⟩
          · intro vs wq hB hm
            have hl : look wq (w.heap.size + 1) = some (.cells (#[.int .i64 d, .int .u32 (k : Int)]) 45 (0, 0)) := by rw [look_below hB (by first | omega | (simp only [World.size_alloc]; omega) | exact look_lt (by assumption) | (simp only [World.size_alloc, World.size_setCell]; omega) | (simp; omega))]; first | assumption | go_simp
            have hc : World.cell? wq ⟨w.heap.size + 1, 0, none⟩ = some (.int .i64 d) := by rw [look_cell hl]; first | rfl | exact VA_get _ _ (by omega)
            have h17 : vs 17 = .pointer (some ⟨w.heap.size + 1, 0, none⟩) := meets_get hm 5 rfl rfl rfl rfl
            have h14 : vs 14 = .bool true := meets_get hm 2 rfl rfl rfl rfl
            clear hm
            simp only [fill, h17, h14]
            go_wp2
            exact ⟨_, rfl, rfl, Below.refl _ _, trivial⟩
          · intro vs wq hB hm
            have h16 : vs 16 = .int .i64 ((m : Int) + 1) := meets_get hm 4 rfl rfl rfl rfl
            have h18 : vs 18 = .int .i64 d := meets_get hm 6 rfl rfl rfl rfl
            have h14 : vs 14 = .bool true := meets_get hm 2 rfl rfl rfl rfl
            clear hm
            simp only [fill, h16, h18, h14]
            go_wp2
            exact ⟨_, rfl, rfl, Below.refl _ _, trivial⟩
          · intro vs wq hB hm
            have h14 : vs 14 = .bool true := meets_get hm 2 rfl rfl rfl rfl
            have h19 : vs 19 = .bool false := meets_get hm 7 rfl rfl rfl rfl
            clear hm
            simp only [fill, h14, h19]
            go_wp2
            exact ⟨_, rfl, rfl, Below.refl _ _, trivial⟩
          · intro vs wq hB hm
            have h20 : vs 20 = .bool false := meets_get hm 8 rfl rfl rfl rfl
            clear hm
            simp only [fill, h20]
            go_wp2
            exact ⟨_, rfl, rfl, Below.refl _ _, trivial⟩
          · intro vs wq hB hm
            have h21 : vs 21 = .bool false := meets_get hm 9 rfl rfl rfl rfl
            clear hm
            simp only [fill, h21]
            refine wpList_skip (by rfl) ?_
            exact ⟨_, rfl, rfl, Below.refl _ _, trivial⟩
          · intro vs wq hB hm
            have h22 : vs 22 = undef := meets_get hm 10 rfl rfl rfl rfl
            have h21 : vs 21 = .bool false := meets_get hm 9 rfl rfl rfl rfl
            clear hm
            simp only [fill, h22, h21]
            refine wpList_skip (by rfl) ?_
            exact ⟨_, rfl, rfl, Below.refl _ _, trivial⟩
          · intro vs wq hB hm
            have h21 : vs 21 = .bool false := meets_get hm 9 rfl rfl rfl rfl
            clear hm
            simp only [fill, h21]
            refine wpList_skip (by rfl) ?_
            exact ⟨_, rfl, rfl, Below.refl _ _, trivial⟩
          · intro vs wq hB hm
            have h24 : vs 24 = undef := meets_get hm 12 rfl rfl rfl rfl
            have h21 : vs 21 = .bool false := meets_get hm 9 rfl rfl rfl rfl
            clear hm
            simp only [fill, h24, h21]
            refine wpList_skip (by rfl) ?_
            exact ⟨_, rfl, rfl, Below.refl _ _, trivial⟩
          · intro vs wq hB hm
            have h25 : vs 25 = undef := meets_get hm 13 rfl rfl rfl rfl
            have h21 : vs 21 = .bool false := meets_get hm 9 rfl rfl rfl rfl
            clear hm
            simp only [fill, h25, h21]
            refine wpList_skip (by rfl) ?_
            exact ⟨_, rfl, rfl, Below.refl _ _, trivial⟩
          · intro vs wq hB hm
            have h23 : vs 23 = undef := meets_get hm 11 rfl rfl rfl rfl
            have h26 : vs 26 = undef := meets_get hm 14 rfl rfl rfl rfl
            have h21 : vs 21 = .bool false := meets_get hm 9 rfl rfl rfl rfl
            clear hm
            simp only [fill, h23, h26, h21]
            refine wpList_skip (by rfl) ?_
            exact ⟨_, rfl, rfl, Below.refl _ _, trivial⟩
          · intro vs wq hB hm
            have h21 : vs 21 = .bool false := meets_get hm 9 rfl rfl rfl rfl
            have h27 : vs 27 = undef := meets_get hm 15 rfl rfl rfl rfl
            clear hm
            simp only [fill, h21, h27]
            go_wp2
            exact ⟨_, rfl, rfl, Below.refl _ _, trivial⟩
          intro vs wq hB hm hne hlo
          have h12 : vs 12 = .agg #[.int .i64 d, .int .u32 (k : Int)] := hm 0 _ _ _ rfl rfl rfl
          have h13 : vs 13 = .bool true := hm 1 _ _ _ rfl rfl rfl
          have h14 : vs 14 = .bool true := hm 2 _ _ _ rfl rfl rfl
          have h15 : vs 15 = .int .i64 (m : Int) := hm 3 _ _ _ rfl rfl rfl
          have h16 : vs 16 = .int .i64 ((m : Int) + 1) := hm 4 _ _ _ rfl rfl rfl
          have h17 : vs 17 = .pointer (some ⟨w.heap.size + 1, 0, none⟩) := hm 5 _ _ _ rfl rfl rfl
          have h18 : vs 18 = .int .i64 d := hm 6 _ _ _ rfl rfl rfl
          have h19 : vs 19 = .bool false := hm 7 _ _ _ rfl rfl rfl
          have h20 : vs 20 = .bool false := hm 8 _ _ _ rfl rfl rfl
          have h21 : vs 21 = .bool false := hm 9 _ _ _ rfl rfl rfl
          have h22 : vs 22 = undef := hm 10 _ _ _ rfl rfl rfl
          have h23 : vs 23 = undef := hm 11 _ _ _ rfl rfl rfl
          have h24 : vs 24 = undef := hm 12 _ _ _ rfl rfl rfl
          have h25 : vs 25 = undef := hm 13 _ _ _ rfl rfl rfl
          have h26 : vs 26 = undef := hm 14 _ _ _ rfl rfl rfl
          have h27 : vs 27 = undef := hm 15 _ _ _ rfl rfl rfl
          have h28 : vs 28 = .bool false := hm 16 _ _ _ rfl rfl rfl
          clear hne hlo
          simp only [fill, List.filterMap, List.take, List.drop, List.setIfInBounds_toArray, List.set_cons_zero, List.set_cons_succ, h12, h13, h14, h15, h16, h17, h18, h19, h20, h21, h22, h23, h24, h25, h26, h27, h28]
          clear hm h12 h13 h14 h15 h16 h17 h18 h19 h20 h21 h22 h23 h24 h25 h26 h27 h28
          replace lx : look wq (w.heap.size) = some (.cells (VA f) 26 (0, 0)) := by rw [look_below hB (by first | omega | (simp only [World.size_alloc]; omega) | exact look_lt (by assumption) | (simp only [World.size_alloc, World.size_setCell]; omega) | (simp; omega))]; first | assumption | go_simp
          replace cx : ∀ i, i < 12 → World.cell? wq ⟨w.heap.size, i, none⟩ = some (.int .u32 (((f) i : Nat) : Int)) := fun i hi => by rw [look_cell lx, VA_get _ _ hi]
          replace fx := look_frozen lx
          replace sx := look_lt lx
          replace ly : look wq (w.heap.size + 1) = some (.cells (#[.int .i64 d, .int .u32 (k : Int)]) 45 (0, 0)) := by rw [look_below hB (by first | omega | (simp only [World.size_alloc]; omega) | exact look_lt (by assumption) | (simp only [World.size_alloc, World.size_setCell]; omega) | (simp; omega))]; first | assumption | go_simp
          replace cy0 : World.cell? wq ⟨w.heap.size + 1, 0, none⟩ = some (.int .i64 d) := by rw [look_cell ly]; rfl
          replace cy1 : World.cell? wq ⟨w.heap.size + 1, 1, none⟩ = some (.int .u32 (k : Int)) := by rw [look_cell ly]; rfl
          replace fy := look_frozen ly
          replace sy := look_lt ly
          replace lz : look wq (w.heap.size + 1 + 1) = some (.cells (VA fun _ => 0) 26 (0, 0)) := by rw [look_below hB (by first | omega | (simp only [World.size_alloc]; omega) | exact look_lt (by assumption) | (simp only [World.size_alloc, World.size_setCell]; omega) | (simp; omega))]; first | assumption | go_simp
          replace cz : ∀ i, i < 12 → World.cell? wq ⟨w.heap.size + 1 + 1, i, none⟩ = some (.int .u32 (((fun _ => 0) i : Nat) : Int)) := fun i hi => by rw [look_cell lz, VA_get _ _ hi]
          replace fz := look_frozen lz
          replace sz := look_lt lz
          replace lu : look wq (w.heap.size + 1 + 1 + 1) = some (.cells (VA (withTo f d k m)) 26 (0, 0)) := by rw [look_below hB (by first | omega | (simp only [World.size_alloc]; omega) | exact look_lt (by assumption) | (simp only [World.size_alloc, World.size_setCell]; omega) | (simp; omega))]; first | assumption | go_simp
          replace cu : ∀ i, i < 12 → World.cell? wq ⟨w.heap.size + 1 + 1 + 1, i, none⟩ = some (.int .u32 ((((withTo f d k m)) i : Nat) : Int)) := fun i hi => by rw [look_cell lu, VA_get _ _ hi]
          replace fu := look_frozen lu
          replace su := look_lt lu
          go_wp2
          go_roundw
          case measure => simp [intOf]; omega
          case rel => exact ⟨m + 1, by omega, by go_num, belT hB0 hB, lx, ly, lz, by rw [lu, withTo_same _ _ _ _ HH.out]⟩
      · have e1 := rightB_no hr
        have HH : Hid (withN f d k m = f m) := by
          show withN f d k m = f m
          rw [withN, if_neg hr]
        clear hr
        go_wp2
        refine wp_region_words mixed 17 ([] :: [12] :: [13] :: [14] :: [15, 14] :: [14] :: [17, 14] :: [16, 18, 14] :: [14, 19] :: [20] :: [21] :: [22, 21] :: [21] :: [24, 21] :: [25, 21] :: [23, 26, 21] :: [21, 27] :: []) (isV (.agg #[.int .i64 d, .int .u32 (k : Int)]) :: isV (.bool false) :: isV (.bool false) :: isV (undef) :: isV (undef) :: isV (undef) :: isV (undef) :: isV (undef) :: isV (.bool false) :: isV (.bool false) :: isV (undef) :: isV (undef) :: isV (undef) :: isV (undef) :: isV (undef) :: isV (undef) :: isV (.bool false) :: []) (by decide) (by kernel_rfl)
          ⟨stab_isV _, stab_isV _, stab_isV _, stab_isV _, stab_isV _, stab_isV _, stab_isV _, stab_isV _, stab_isV _, stab_isV _, stab_isV _, stab_isV _, stab_isV _, stab_isV _, stab_isV _, stab_isV _, stab_isV _, trivial⟩ ⟨?_, ?_, ?_, ?_, ?_, ?_, ?_, ?_, ?_, ?_, ?_, ?_, ?_, ?_, ?_, ?_, ?_, trivial⟩ ?_
        · intro vs wq hB hm
          have hl : look wq (w.heap.size + 1) = some (.cells (#[.int .i64 d, .int .u32 (k : Int)]) 45 (0, 0)) := by rw [look_below hB (by first | omega | (simp only [World.size_alloc]; omega) | exact look_lt (by assumption) | (simp only [World.size_alloc, World.size_setCell]; omega) | (simp; omega))]; first | assumption | go_simp
          have hc0 : World.cell? wq ⟨w.heap.size + 1, 0, none⟩ = some (.int .i64 d) := by rw [look_cell hl]; rfl
          have hc1 : World.cell? wq ⟨w.heap.size + 1, 1, none⟩ = some (.int .u32 (k : Int)) := by rw [look_cell hl]; rfl
          clear hm
          simp only [fill]
          go_wp2
          exact ⟨_, rfl, rfl, Below.refl _ _, trivial⟩
        · intro vs wq hB hm
          have h12 : vs 12 = .agg #[.int .i64 d, .int .u32 (k : Int)] := meets_get hm 0 rfl rfl rfl rfl
          clear hm
          simp only [fill, h12]
          go_wp2_with fail
          refine ((e1 ▸ rright_any d k _)).mono ?_
          rintro e w1 ⟨rfl, hb1⟩
          go_wp2
          exact ⟨_, rfl, rfl, hb1, trivial⟩
        · intro vs wq hB hm
          have h13 : vs 13 = .bool false := meets_get hm 1 rfl rfl rfl rfl
          clear hm
          simp only [fill, h13]
          go_wp2
          exact ⟨_, rfl, rfl, Below.refl _ _, trivial⟩
        · intro vs wq hB hm
          have h14 : vs 14 = .bool false := meets_get hm 2 rfl rfl rfl rfl
          clear hm
          simp only [fill, h14]
          refine wpList_skip (by rfl) ?_
          exact ⟨_, rfl, rfl, Below.refl _ _, trivial⟩
        · intro vs wq hB hm
          have h15 : vs 15 = undef := meets_get hm 3 rfl rfl rfl rfl
          have h14 : vs 14 = .bool false := meets_get hm 2 rfl rfl rfl rfl
          clear hm
          simp only [fill, h15, h14]
          refine wpList_skip (by rfl) ?_
          exact ⟨_, rfl, rfl, Below.refl _ _, trivial⟩
        · intro vs wq hB hm
          have h14 : vs 14 = .bool false := meets_get hm 2 rfl rfl rfl rfl
          clear hm
          simp only [fill, h14]
          refine wpList_skip (by rfl) ?_
          exact ⟨_, rfl, rfl, Below.refl _ _, trivial⟩
        · intro vs wq hB hm
          have h17 : vs 17 = undef := meets_get hm 5 rfl rfl rfl rfl
          have h14 : vs 14 = .bool false := meets_get hm 2 rfl rfl rfl rfl
          clear hm
          simp only [fill, h17, h14]
          refine wpList_skip (by rfl) ?_
          exact ⟨_, rfl, rfl, Below.refl _ _, trivial⟩
        · intro vs wq hB hm
          have h16 : vs 16 = undef := meets_get hm 4 rfl rfl rfl rfl
          have h18 : vs 18 = undef := meets_get hm 6 rfl rfl rfl rfl
          have h14 : vs 14 = .bool false := meets_get hm 2 rfl rfl rfl rfl
          clear hm
          simp only [fill, h16, h18, h14]
          refine wpList_skip (by rfl) ?_
          exact ⟨_, rfl, rfl, Below.refl _ _, trivial⟩
        · intro vs wq hB hm
          have h14 : vs 14 = .bool false := meets_get hm 2 rfl rfl rfl rfl
          have h19 : vs 19 = undef := meets_get hm 7 rfl rfl rfl rfl
          clear hm
          simp only [fill, h14, h19]
          go_wp2
          exact ⟨_, rfl, rfl, Below.refl _ _, trivial⟩
        · intro vs wq hB hm
          have h20 : vs 20 = .bool false := meets_get hm 8 rfl rfl rfl rfl
          clear hm
          simp only [fill, h20]
          go_wp2
          exact ⟨_, rfl, rfl, Below.refl _ _, trivial⟩
        · intro vs wq hB hm
          have h21 : vs 21 = .bool false := meets_get hm 9 rfl rfl rfl rfl
          clear hm
          simp only [fill, h21]
          refine wpList_skip (by rfl) ?_
          exact ⟨_, rfl, rfl, Below.refl _ _, trivial⟩
        · intro vs wq hB hm
          have h22 : vs 22 = undef := meets_get hm 10 rfl rfl rfl rfl
          have h21 : vs 21 = .bool false := meets_get hm 9 rfl rfl rfl rfl
          clear hm
          simp only [fill, h22, h21]
          refine wpList_skip (by rfl) ?_
          exact ⟨_, rfl, rfl, Below.refl _ _, trivial⟩
        · intro vs wq hB hm
          have h21 : vs 21 = .bool false := meets_get hm 9 rfl rfl rfl rfl
          clear hm
          simp only [fill, h21]
          refine wpList_skip (by rfl) ?_
          exact ⟨_, rfl, rfl, Below.refl _ _, trivial⟩
        · intro vs wq hB hm
          have h24 : vs 24 = undef := meets_get hm 12 rfl rfl rfl rfl
          have h21 : vs 21 = .bool false := meets_get hm 9 rfl rfl rfl rfl
          clear hm
          simp only [fill, h24, h21]
          refine wpList_skip (by rfl) ?_
          exact ⟨_, rfl, rfl, Below.refl _ _, trivial⟩
        · intro vs wq hB hm
          have h25 : vs 25 = undef := meets_get hm 13 rfl rfl rfl rfl
          have h21 : vs 21 = .bool false := meets_get hm 9 rfl rfl rfl rfl
          clear hm
          simp only [fill, h25, h21]
          refine wpList_skip (by rfl) ?_
          exact ⟨_, rfl, rfl, Below.refl _ _, trivial⟩
        · intro vs wq hB hm
          have h23 : vs 23 = undef := meets_get hm 11 rfl rfl rfl rfl
          have h26 : vs 26 = undef := meets_get hm 14 rfl rfl rfl rfl
          have h21 : vs 21 = .bool false := meets_get hm 9 rfl rfl rfl rfl
          clear hm
          simp only [fill, h23, h26, h21]
          refine wpList_skip (by rfl) ?_
          exact ⟨_, rfl, rfl, Below.refl _ _, trivial⟩
        · intro vs wq hB hm
          have h21 : vs 21 = .bool false := meets_get hm 9 rfl rfl rfl rfl
          have h27 : vs 27 = undef := meets_get hm 15 rfl rfl rfl rfl
          clear hm
          simp only [fill, h21, h27]
          go_wp2
          exact ⟨_, rfl, rfl, Below.refl _ _, trivial⟩
        intro vs wq hB hm hne hlo
        have h12 : vs 12 = .agg #[.int .i64 d, .int .u32 (k : Int)] := hm 0 _ _ _ rfl rfl rfl
        have h13 : vs 13 = .bool false := hm 1 _ _ _ rfl rfl rfl
        have h14 : vs 14 = .bool false := hm 2 _ _ _ rfl rfl rfl
        have h15 : vs 15 = undef := hm 3 _ _ _ rfl rfl rfl
        have h16 : vs 16 = undef := hm 4 _ _ _ rfl rfl rfl
        have h17 : vs 17 = undef := hm 5 _ _ _ rfl rfl rfl
        have h18 : vs 18 = undef := hm 6 _ _ _ rfl rfl rfl
        have h19 : vs 19 = undef := hm 7 _ _ _ rfl rfl rfl
        have h20 : vs 20 = .bool false := hm 8 _ _ _ rfl rfl rfl
        have h21 : vs 21 = .bool false := hm 9 _ _ _ rfl rfl rfl
        have h22 : vs 22 = undef := hm 10 _ _ _ rfl rfl rfl
        have h23 : vs 23 = undef := hm 11 _ _ _ rfl rfl rfl
        have h24 : vs 24 = undef := hm 12 _ _ _ rfl rfl rfl
        have h25 : vs 25 = undef := hm 13 _ _ _ rfl rfl rfl
        have h26 : vs 26 = undef := hm 14 _ _ _ rfl rfl rfl
        have h27 : vs 27 = undef := hm 15 _ _ _ rfl rfl rfl
        have h28 : vs 28 = .bool false := hm 16 _ _ _ rfl rfl rfl
        clear hne hlo
        simp only [fill, List.filterMap, List.take, List.drop, List.setIfInBounds_toArray, List.set_cons_zero, List.set_cons_succ, h12, h13, h14, h15, h16, h17, h18, h19, h20, h21, h22, h23, h24, h25, h26, h27, h28]
        clear hm h12 h13 h14 h15 h16 h17 h18 h19 h20 h21 h22 h23 h24 h25 h26 h27 h28
        replace lx : look wq (w.heap.size) = some (.cells (VA f) 26 (0, 0)) := by rw [look_below hB (by first | omega | (simp only [World.size_alloc]; omega) | exact look_lt (by assumption) | (simp only [World.size_alloc, World.size_setCell]; omega) | (simp; omega))]; first | assumption | go_simp
        replace cx : ∀ i, i < 12 → World.cell? wq ⟨w.heap.size, i, none⟩ = some (.int .u32 (((f) i : Nat) : Int)) := fun i hi => by rw [look_cell lx, VA_get _ _ hi]
        replace fx := look_frozen lx
        replace sx := look_lt lx
        replace ly : look wq (w.heap.size + 1) = some (.cells (#[.int .i64 d, .int .u32 (k : Int)]) 45 (0, 0)) := by rw [look_below hB (by first | omega | (simp only [World.size_alloc]; omega) | exact look_lt (by assumption) | (simp only [World.size_alloc, World.size_setCell]; omega) | (simp; omega))]; first | assumption | go_simp
        replace cy0 : World.cell? wq ⟨w.heap.size + 1, 0, none⟩ = some (.int .i64 d) := by rw [look_cell ly]; rfl
        replace cy1 : World.cell? wq ⟨w.heap.size + 1, 1, none⟩ = some (.int .u32 (k : Int)) := by rw [look_cell ly]; rfl
        replace fy := look_frozen ly
        replace sy := look_lt ly
        replace lz : look wq (w.heap.size + 1 + 1) = some (.cells (VA fun _ => 0) 26 (0, 0)) := by rw [look_below hB (by first | omega | (simp only [World.size_alloc]; omega) | exact look_lt (by assumption) | (simp only [World.size_alloc, World.size_setCell]; omega) | (simp; omega))]; first | assumption | go_simp
        replace cz : ∀ i, i < 12 → World.cell? wq ⟨w.heap.size + 1 + 1, i, none⟩ = some (.int .u32 (((fun _ => 0) i : Nat) : Int)) := fun i hi => by rw [look_cell lz, VA_get _ _ hi]
        replace fz := look_frozen lz
        replace sz := look_lt lz
        replace lu : look wq (w.heap.size + 1 + 1 + 1) = some (.cells (VA (withTo f d k m)) 26 (0, 0)) := by rw [look_below hB (by first | omega | (simp only [World.size_alloc]; omega) | exact look_lt (by assumption) | (simp only [World.size_alloc, World.size_setCell]; omega) | (simp; omega))]; first | assumption | go_simp
        replace cu : ∀ i, i < 12 → World.cell? wq ⟨w.heap.size + 1 + 1 + 1, i, none⟩ = some (.int .u32 ((((withTo f d k m)) i : Nat) : Int)) := fun i hi => by rw [look_cell lu, VA_get _ _ hi]
        replace fu := look_frozen lu
        replace su := look_lt lu
        go_wp2
        go_roundw
        case measure => simp [intOf]; omega
        case rel => exact ⟨m + 1, by omega, by go_num, belT hB0 hB, lx, ly, lz, by rw [lu, withTo_same _ _ _ _ HH.out]⟩
    · obtain rfl : m = 12 := by omega
      go_wp2
      exact ret_vec (g := w.heap.size + 1 + 1) (f := withTo f d k 12) (t := 26) (fr := (0, 0)) Try.results29 rfl (by go_simp) rfl
        ⟨by rw [withTo_all], belR hB0 (by omega) _⟩

set_option maxRecDepth 100000 in
set_option maxHeartbeats 400000 in
theorem rhas_any (f : Nat → Nat) (d : Int) (k : Nat) (w : World) :
    Calls Try.prog 32 #[.agg (VA f), .agg #[.int .i64 d, .int .u32 (k : Int)]] w fun e w' => e = .returned (.bool (hasB f d k)) ∧ Below w.heap.size w w' := by
  cases e1 : rightB d k
  · have HH := Lib.hid e1
    go_enter Try.func32, Try.ntmps32
    go_wp2
    refine wp_region_words mixed 11 ([] :: [5] :: [6] :: [7] :: [8, 7] :: [7] :: [7] :: [11, 7] :: [10, 12, 7] :: [9, 13, 7] :: [7, 14] :: []) (isV (.agg #[.int .i64 d, .int .u32 (k : Int)]) :: isV (.bool false) :: isV (.bool false) :: isV (undef) :: isV (undef) :: isV (undef) :: isV (undef) :: isV (undef) :: isV (undef) :: isV (undef) :: isV (.bool false) :: []) (by decide) (by kernel_rfl)
      ⟨stab_isV _, stab_isV _, stab_isV _, stab_isV _, stab_isV _, stab_isV _, stab_isV _, stab_isV _, stab_isV _, stab_isV _, stab_isV _, trivial⟩ ⟨?_, ?_, ?_, ?_, ?_, ?_, ?_, ?_, ?_, ?_, ?_, trivial⟩ ?_
    · intro vs wq hB hm
      have hl : look wq (w.heap.size + 1) = some (.cells (#[.int .i64 d, .int .u32 (k : Int)]) 45 (0, 0)) := by rw [look_below hB (by first | omega | (simp only [World.size_alloc]; omega) | exact look_lt (by assumption) | (simp only [World.size_alloc, World.size_setCell]; omega) | (simp; omega))]; first | assumption | go_simp
      have hc0 : World.cell? wq ⟨w.heap.size + 1, 0, none⟩ = some (.int .i64 d) := by rw [look_cell hl]; rfl
      have hc1 : World.cell? wq ⟨w.heap.size + 1, 1, none⟩ = some (.int .u32 (k : Int)) := by rw [look_cell hl]; rfl
      clear hm
      simp only [fill]
      go_wp2
      exact ⟨_, rfl, rfl, Below.refl _ _, trivial⟩
    · intro vs wq hB hm
      have h5 : vs 5 = .agg #[.int .i64 d, .int .u32 (k : Int)] := meets_get hm 0 rfl rfl rfl rfl
      clear hm
      simp only [fill, h5]
      go_wp2_with fail
      refine ((e1 ▸ rright_any d k _)).mono ?_
      rintro e w1 ⟨rfl, hb1⟩
      go_wp2
      exact ⟨_, rfl, rfl, hb1, trivial⟩
    · intro vs wq hB hm
      have h6 : vs 6 = .bool false := meets_get hm 1 rfl rfl rfl rfl
      clear hm
      simp only [fill, h6]
      go_wp2
      exact ⟨_, rfl, rfl, Below.refl _ _, trivial⟩
    · intro vs wq hB hm
      have h7 : vs 7 = .bool false := meets_get hm 2 rfl rfl rfl rfl
      clear hm
      simp only [fill, h7]
      refine wpList_skip (by rfl) ?_
      exact ⟨_, rfl, rfl, Below.refl _ _, trivial⟩
    · intro vs wq hB hm
      have h8 : vs 8 = undef := meets_get hm 3 rfl rfl rfl rfl
      have h7 : vs 7 = .bool false := meets_get hm 2 rfl rfl rfl rfl
      clear hm
      simp only [fill, h8, h7]
      refine wpList_skip (by rfl) ?_
      exact ⟨_, rfl, rfl, Below.refl _ _, trivial⟩
    · intro vs wq hB hm
      have h7 : vs 7 = .bool false := meets_get hm 2 rfl rfl rfl rfl
      clear hm
      simp only [fill, h7]
      refine wpList_skip (by rfl) ?_
      exact ⟨_, rfl, rfl, Below.refl _ _, trivial⟩
    · intro vs wq hB hm
      have h7 : vs 7 = .bool false := meets_get hm 2 rfl rfl rfl rfl
      clear hm
      simp only [fill, h7]
      refine wpList_skip (by rfl) ?_
      exact ⟨_, rfl, rfl, Below.refl _ _, trivial⟩
    · intro vs wq hB hm
      have h11 : vs 11 = undef := meets_get hm 6 rfl rfl rfl rfl
      have h7 : vs 7 = .bool false := meets_get hm 2 rfl rfl rfl rfl
      clear hm
      simp only [fill, h11, h7]
      refine wpList_skip (by rfl) ?_
      exact ⟨_, rfl, rfl, Below.refl _ _, trivial⟩
    · intro vs wq hB hm
      have h10 : vs 10 = undef := meets_get hm 5 rfl rfl rfl rfl
      have h12 : vs 12 = undef := meets_get hm 7 rfl rfl rfl rfl
      have h7 : vs 7 = .bool false := meets_get hm 2 rfl rfl rfl rfl
      clear hm
      simp only [fill, h10, h12, h7]
      refine wpList_skip (by rfl) ?_
      exact ⟨_, rfl, rfl, Below.refl _ _, trivial⟩
    · intro vs wq hB hm
      have h9 : vs 9 = undef := meets_get hm 4 rfl rfl rfl rfl
      have h13 : vs 13 = undef := meets_get hm 8 rfl rfl rfl rfl
      have h7 : vs 7 = .bool false := meets_get hm 2 rfl rfl rfl rfl
      clear hm
      simp only [fill, h9, h13, h7]
      refine wpList_skip (by rfl) ?_
      exact ⟨_, rfl, rfl, Below.refl _ _, trivial⟩
    · intro vs wq hB hm
      have h7 : vs 7 = .bool false := meets_get hm 2 rfl rfl rfl rfl
      have h14 : vs 14 = undef := meets_get hm 9 rfl rfl rfl rfl
      clear hm
      simp only [fill, h7, h14]
      go_wp2
      exact ⟨_, rfl, rfl, Below.refl _ _, trivial⟩
    intro vs wq hB hm hne hlo
    have h5 : vs 5 = .agg #[.int .i64 d, .int .u32 (k : Int)] := hm 0 _ _ _ rfl rfl rfl
    have h6 : vs 6 = .bool false := hm 1 _ _ _ rfl rfl rfl
    have h7 : vs 7 = .bool false := hm 2 _ _ _ rfl rfl rfl
    have h8 : vs 8 = undef := hm 3 _ _ _ rfl rfl rfl
    have h9 : vs 9 = undef := hm 4 _ _ _ rfl rfl rfl
    have h10 : vs 10 = undef := hm 5 _ _ _ rfl rfl rfl
    have h11 : vs 11 = undef := hm 6 _ _ _ rfl rfl rfl
    have h12 : vs 12 = undef := hm 7 _ _ _ rfl rfl rfl
    have h13 : vs 13 = undef := hm 8 _ _ _ rfl rfl rfl
    have h14 : vs 14 = undef := hm 9 _ _ _ rfl rfl rfl
    have h15 : vs 15 = .bool false := hm 10 _ _ _ rfl rfl rfl
    clear hne hlo
    simp only [fill, List.filterMap, List.take, List.drop, List.setIfInBounds_toArray, List.set_cons_zero, List.set_cons_succ, h5, h6, h7, h8, h9, h10, h11, h12, h13, h14, h15]
    clear hm h5 h6 h7 h8 h9 h10 h11 h12 h13 h14 h15
    go_wp2
    go_ret
    exact ⟨ret_bool (by rw [hasB, e1, Bool.false_and]), belT (belA (belA (bel0 _) _) _) hB⟩
  · go_enter Try.func32, Try.ntmps32
    go_wp2
    refine wp_region_words mixed 11 ([] :: [5] :: [6] :: [7] :: [8, 7] :: [7] :: [7] :: [11, 7] :: [10, 12, 7] :: [9, 13, 7] :: [7, 14] :: []) (isV (.agg #[.int .i64 d, .int .u32 (k : Int)]) :: isV (.bool true) :: isV (.bool true) :: isV (.pointer (some ⟨w.heap.size + 1, 1, none⟩)) :: isV (.int .u32 (k : Int)) :: isV (.agg (VA f)) :: isV (.pointer (some ⟨w.heap.size + 1, 0, none⟩)) :: isV (.int .i64 d) :: isV (.int .u32 (getN f d : Int)) :: isV (.bool (decide (k ≤ getN f d))) :: isV (.bool (decide (k ≤ getN f d))) :: []) (by decide) (by kernel_rfl)
      ⟨stab_isV _, stab_isV _, stab_isV _, stab_isV _, stab_isV _, stab_isV _, stab_isV _, stab_isV _, stab_isV _, stab_isV _, stab_isV _, trivial⟩ ⟨?_, ?_, ?_, ?_, ?_, ?_, ?_, ?_, ?_, ?_, ?_, trivial⟩ ?_
    · intro vs wq hB hm
      have hl : look wq (w.heap.size + 1) = some (.cells (#[.int .i64 d, .int .u32 (k : Int)]) 45 (0, 0)) := by rw [look_below hB (by first | omega | (simp only [World.size_alloc]; omega) | exact look_lt (by assumption) | (simp only [World.size_alloc, World.size_setCell]; omega) | (simp; omega))]; first | assumption | go_simp
      have hc0 : World.cell? wq ⟨w.heap.size + 1, 0, none⟩ = some (.int .i64 d) := by rw [look_cell hl]; rfl
      have hc1 : World.cell? wq ⟨w.heap.size + 1, 1, none⟩ = some (.int .u32 (k : Int)) := by rw [look_cell hl]; rfl
      clear hm
      simp only [fill]
      go_wp2
      exact ⟨_, rfl, rfl, Below.refl _ _, trivial⟩
    · intro vs wq hB hm
      have h5 : vs 5 = .agg #[.int .i64 d, .int .u32 (k : Int)] := meets_get hm 0 rfl rfl rfl rfl
      clear hm
      simp only [fill, h5]
      go_wp2_with fail
      refine ((e1 ▸ rright_any d k _)).mono ?_
      rintro e w1 ⟨rfl, hb1⟩
      go_wp2
      exact ⟨_, rfl, rfl, hb1, trivial⟩
    · intro vs wq hB hm
      have h6 : vs 6 = .bool true := meets_get hm 1 rfl rfl rfl rfl
      clear hm
      simp only [fill, h6]
      go_wp2
      exact ⟨_, rfl, rfl, Below.refl _ _, trivial⟩
    · intro vs wq hB hm
      have h7 : vs 7 = .bool true := meets_get hm 2 rfl rfl rfl rfl
      clear hm
      simp only [fill, h7]
      go_wp2
      exact ⟨_, rfl, rfl, Below.refl _ _, trivial⟩
    · intro vs wq hB hm
      have hl : look wq (w.heap.size + 1) = some (.cells (#[.int .i64 d, .int .u32 (k : Int)]) 45 (0, 0)) := by rw [look_below hB (by first | omega | (simp only [World.size_alloc]; omega) | exact look_lt (by assumption) | (simp only [World.size_alloc, World.size_setCell]; omega) | (simp; omega))]; first | assumption | go_simp
      have hc : World.cell? wq ⟨w.heap.size + 1, 1, none⟩ = some (.int .u32 (k : Int)) := by rw [look_cell hl]; first | rfl | exact VA_get _ _ (by omega)
      have h8 : vs 8 = .pointer (some ⟨w.heap.size + 1, 1, none⟩) := meets_get hm 3 rfl rfl rfl rfl
      have h7 : vs 7 = .bool true := meets_get hm 2 rfl rfl rfl rfl
      clear hm
      simp only [fill, h8, h7]
      go_wp2
      exact ⟨_, rfl, rfl, Below.refl _ _, trivial⟩
    · intro vs wq hB hm
      have hl : look wq (w.heap.size) = some (.cells (VA f) 26 (0, 0)) := by rw [look_below hB (by first | omega | (simp only [World.size_alloc]; omega) | exact look_lt (by assumption) | (simp only [World.size_alloc, World.size_setCell]; omega) | (simp; omega))]; first | assumption | go_simp
      have h7 : vs 7 = .bool true := meets_get hm 2 rfl rfl rfl rfl
      clear hm
      simp only [fill, h7]
      go_wp2
      exact ⟨_, rfl, rfl, Below.refl _ _, trivial⟩
    · intro vs wq hB hm
      have h7 : vs 7 = .bool true := meets_get hm 2 rfl rfl rfl rfl
      clear hm
      simp only [fill, h7]
      go_wp2
      exact ⟨_, rfl, rfl, Below.refl _ _, trivial⟩
    · intro vs wq hB hm
      have hl : look wq (w.heap.size + 1) = some (.cells (#[.int .i64 d, .int .u32 (k : Int)]) 45 (0, 0)) := by rw [look_below hB (by first | omega | (simp only [World.size_alloc]; omega) | exact look_lt (by assumption) | (simp only [World.size_alloc, World.size_setCell]; omega) | (simp; omega))]; first | assumption | go_simp
      have hc : World.cell? wq ⟨w.heap.size + 1, 0, none⟩ = some (.int .i64 d) := by rw [look_cell hl]; first | rfl | exact VA_get _ _ (by omega)
      have h11 : vs 11 = .pointer (some ⟨w.heap.size + 1, 0, none⟩) := meets_get hm 6 rfl rfl rfl rfl
      have h7 : vs 7 = .bool true := meets_get hm 2 rfl rfl rfl rfl
      clear hm
      simp only [fill, h11, h7]
      go_wp2
      exact ⟨_, rfl, rfl, Below.refl _ _, trivial⟩
    · intro vs wq hB hm
      have h10 : vs 10 = .agg (VA f) := meets_get hm 5 rfl rfl rfl rfl
      have h12 : vs 12 = .int .i64 d := meets_get hm 7 rfl rfl rfl rfl
      have h7 : vs 7 = .bool true := meets_get hm 2 rfl rfl rfl rfl
      clear hm
      simp only [fill, h10, h12, h7]
      go_wp2_with fail
      refine (rget_any f d _).mono ?_
      rintro e w1 ⟨rfl, hb1⟩
      go_wp2
      exact ⟨_, rfl, rfl, hb1, trivial⟩
    · intro vs wq hB hm
      have h9 : vs 9 = .int .u32 (k : Int) := meets_get hm 4 rfl rfl rfl rfl
      have h13 : vs 13 = .int .u32 (getN f d : Int) := meets_get hm 8 rfl rfl rfl rfl
      have h7 : vs 7 = .bool true := meets_get hm 2 rfl rfl rfl rfl
      clear hm
      simp only [fill, h9, h13, h7]
      go_wp2
      exact ⟨_, rfl, rfl, Below.refl _ _, trivial⟩
    · intro vs wq hB hm
      have h7 : vs 7 = .bool true := meets_get hm 2 rfl rfl rfl rfl
      have h14 : vs 14 = .bool (decide (k ≤ getN f d)) := meets_get hm 9 rfl rfl rfl rfl
      clear hm
      simp only [fill, h7, h14]
      go_wp2
      exact ⟨_, rfl, rfl, Below.refl _ _, trivial⟩
    intro vs wq hB hm hne hlo
    have h5 : vs 5 = .agg #[.int .i64 d, .int .u32 (k : Int)] := hm 0 _ _ _ rfl rfl rfl
    have h6 : vs 6 = .bool true := hm 1 _ _ _ rfl rfl rfl
    have h7 : vs 7 = .bool true := hm 2 _ _ _ rfl rfl rfl
    have h8 : vs 8 = .pointer (some ⟨w.heap.size + 1, 1, none⟩) := hm 3 _ _ _ rfl rfl rfl
    have h9 : vs 9 = .int .u32 (k : Int) := hm 4 _ _ _ rfl rfl rfl
    have h10 : vs 10 = .agg (VA f) := hm 5 _ _ _ rfl rfl rfl
    have h11 : vs 11 = .pointer (some ⟨w.heap.size + 1, 0, none⟩) := hm 6 _ _ _ rfl rfl rfl
    have h12 : vs 12 = .int .i64 d := hm 7 _ _ _ rfl rfl rfl
    have h13 : vs 13 = .int .u32 (getN f d : Int) := hm 8 _ _ _ rfl rfl rfl
    have h14 : vs 14 = .bool (decide (k ≤ getN f d)) := hm 9 _ _ _ rfl rfl rfl
    have h15 : vs 15 = .bool (decide (k ≤ getN f d)) := hm 10 _ _ _ rfl rfl rfl
    clear hne hlo
    simp only [fill, List.filterMap, List.take, List.drop, List.setIfInBounds_toArray, List.set_cons_zero, List.set_cons_succ, h5, h6, h7, h8, h9, h10, h11, h12, h13, h14, h15]
    clear hm h5 h6 h7 h8 h9 h10 h11 h12 h13 h14 h15
    go_wp2
    go_ret
    exact ⟨ret_bool (by rw [hasB, e1, Bool.true_and]), belT (belA (belA (bel0 _) _) _) hB⟩

set_option maxRecDepth 100000 in
set_option maxHeartbeats 400000 in
theorem rnext_any (f : Nat → Nat) (n : Int) (w : World) :
    Calls Try.prog 25 #[.agg (VA f), .int .i64 n] w fun e w' => e = .returned (nextV f n) ∧ Below w.heap.size w w' := by
  by_cases hn : 1 ≤ n ∧ n ≤ 12
  · by_cases hg : 1048576 ≤ getN f n
    · have hv : nextV f n = .tuple #[.agg #[.int .i64 0, .int .u32 0], .int .i64 5] := by rw [nextV, if_pos hn, if_pos hg]
      rw [hv]
      clear hv
      have hd : fullB (getN f n) = true := decide_eq_true hg
      clear hg
      go_enter Try.func25, Try.ntmps25
      go_wp2_with fail
      refine (rget_any _ _ _).mono ?_
      rintro e w' ⟨rfl, hb⟩
      replace lr : look w' (w.heap.size + 1) = some (.cells (#[.int .i64 0, .int .u32 0]) 45 (0, 0)) := by rw [look_below hb (by first | omega | (simp only [World.size_alloc]; omega) | exact look_lt (by assumption) | (simp only [World.size_alloc, World.size_setCell]; omega) | (simp; omega))]; first | assumption | go_simp
      replace cr0 : World.cell? w' ⟨w.heap.size + 1, 0, none⟩ = some (.int .i64 0) := by rw [look_cell lr]; rfl
      replace cr1 : World.cell? w' ⟨w.heap.size + 1, 1, none⟩ = some (.int .u32 0) := by rw [look_cell lr]; rfl
      replace fr := look_frozen lr
      replace sr := look_lt lr
      go_wp2
      refine bodyPost_ret (v := .tuple #[.agg #[.int .i64 0, .int .u32 0], .int .i64 5]) (by simp [results, Try.results25, go_sem, cr0, cr1, fr]) rfl ⟨rfl, ?_⟩
      exact belS (belS (belT (belA (belA (bel0 _) _) _) hb) (by simp) _) (by simp) _
    · have hv : nextV f n = .tuple #[.agg #[.int .i64 n, .int .u32 ((getN f n + 1 : Nat) : Int)], .int .i64 0] := by rw [nextV, if_pos hn, if_neg hg]
      rw [hv]
      clear hv
      have hd : fullB (getN f n) = false := decide_eq_false hg
      have hlt : getN f n < 1048576 := by omega
      clear hg
      go_enter Try.func25, Try.ntmps25
      go_wp2_with fail
      refine (rget_any _ _ _).mono ?_
      rintro e w' ⟨rfl, hb⟩
      replace lr : look w' (w.heap.size + 1) = some (.cells (#[.int .i64 0, .int .u32 0]) 45 (0, 0)) := by rw [look_below hb (by first | omega | (simp only [World.size_alloc]; omega) | exact look_lt (by assumption) | (simp only [World.size_alloc, World.size_setCell]; omega) | (simp; omega))]; first | assumption | go_simp
      replace cr0 : World.cell? w' ⟨w.heap.size + 1, 0, none⟩ = some (.int .i64 0) := by rw [look_cell lr]; rfl
      replace cr1 : World.cell? w' ⟨w.heap.size + 1, 1, none⟩ = some (.int .u32 0) := by rw [look_cell lr]; rfl
      replace fr := look_frozen lr
      replace sr := look_lt lr
      go_wp2
      refine bodyPost_ret (v := .tuple #[.agg #[.int .i64 n, .int .u32 ((getN f n + 1 : Nat) : Int)], .int .i64 0]) (by simp [results, Try.results25, go_sem, cr0, cr1, fr]) rfl ⟨rfl, ?_⟩
      exact belS (belS (belT (belA (belA (bel0 _) _) _) hb) (by simp) _) (by simp) _
  · have hv : nextV f n = .tuple #[.agg #[.int .i64 0, .int .u32 0], .int .i64 11] := by rw [nextV, if_neg hn]
    rw [hv]
    clear hv
    by_cases h1 : n < 1
    all_goals
      go_enter Try.func25, Try.ntmps25
      go_wp2
      refine bodyPost_ret (v := .tuple #[.agg #[.int .i64 0, .int .u32 0], .int .i64 11]) (by simp [results, Try.results25, go_sem]) rfl ⟨rfl, ?_⟩
      exact belA (belA (bel0 _) _) _
end Go.Proofs.Ytknhlkapeoodhaa
