/- ClockJoins: the walk of the law. -/
import Derived.Test.YtknhlkapeoodhaaClkL
namespace Go.Proofs.Ytknhlkapeoodhaa
open Go.RowKit

set_option maxRecDepth 100000 in
set_option maxHeartbeats 2000000 in
theorem joins_many (b off n cap : Nat) (L : Nat → Nat → Nat) (w : World) (hb : b < w.heap.size) (hn : 50 < n) (hn2 : n ≤ 9223372036854775807) :
    Calls Try.prog 3 #[.slice (some ⟨b, off, none⟩) n cap] w fun e w' => e = .returned (.bool true) ∧ Below w.heap.size w w' := by
  go_enter Try.func3, Try.ntmps3
  go_wp2_with fail
  refine (alive04 _).mono ?_
  rintro e w1 ⟨rfl, hb1⟩
  go_wp2
  go_ret
  exact ⟨rfl, hb1⟩

set_option maxRecDepth 100000 in
set_option maxHeartbeats 4000000 in
theorem joins_few (b off n cap : Nat) (L : Nat → Nat → Nat) (w : World) (hb : b < w.heap.size) (hn0 : 0 < n) (hn : n ≤ 50)
    (hL : ∀ k, k < n → w.rangeAt b (off + k * 12) (VA (L k)).toList) :
    Calls Try.prog 3 #[.slice (some ⟨b, off, none⟩) n cap] w fun e w' => e = .returned (.bool true) ∧ Below w.heap.size w w' := by
  go_enter Try.func3, Try.ntmps3
  go_wp2_with fail
  go_loopw [4] (fun i wr => ∃ k : Nat, k ≤ n ∧ i = .int .i64 k ∧ Below w.heap.size w wr ∧ look wr w.heap.size = some (.cells (VA (joinN L k)) 26 (0, 0))) (fun i _ => n - (intOf i).toNat)
  case atStart => exact ⟨0, Nat.zero_le _, rfl, belA (bel0 _) _, by simp only [joinN]; go_simp⟩
  case round =>
    obtain ⟨k, hk, rfl, hB0, h0⟩ := hrel
    by_cases hlt : k < n
    · have hr : wr.rangeAt b (off + k * 12) (VA (L k)).toList := by
        intro j v hv
        rw [hB0.cell hb]
        exact hL k hlt j v hv
      have hd : decide ((k : Int) < (n : Int)) = true := decide_eq_true (by omega)
      have hk0 : (0 : Int) ≤ (k : Int) := Int.natCast_nonneg _
      have hk1 : (k : Int) < (n : Int) := by omega
      go_wp2
      refine wp_region_words mixed 6 ([] :: [] :: [] :: [16, 17] :: [18] :: [15, 19] :: []) (isV (.agg (VA (joinN L k))) :: isV (.slice (some ⟨b, off, none⟩) n cap) :: isV (.int .i64 (k : Int)) :: isV (.pointer (some ⟨b, off + k * 12, none⟩)) :: isV (.agg (VA (L k))) :: isV (.agg (VA (vmax (joinN L k) (L k)))) :: []) (by decide) (by kernel_rfl)
        ⟨stab_isV _, stab_isV _, stab_isV _, stab_isV _, stab_isV _, stab_isV _, trivial⟩ ⟨?_, ?_, ?_, ?_, ?_, ?_, trivial⟩ ?_
      · intro vs wq hB hm
        have hl : look wq (w.heap.size) = some (.cells (VA (joinN L k)) 26 (0, 0)) := by rw [look_below hB (by first | omega | (simp only [World.size_alloc]; omega) | exact look_lt (by assumption) | (simp only [World.size_alloc, World.size_setCell]; omega) | (simp; omega))]; first | assumption | go_simp
        clear hm
        simp only [fill]
        go_wp2
        exact ⟨_, rfl, rfl, Below.refl _ _⟩
      · intro vs wq hB hm
        clear hm
        simp only [fill]
        go_wp2
        exact ⟨_, rfl, rfl, Below.refl _ _⟩
      · intro vs wq hB hm
        clear hm
        simp only [fill]
        go_wp2
        exact ⟨_, rfl, rfl, Below.refl _ _⟩
      · intro vs wq hB hm
        have h16 : vs 16 = .slice (some ⟨b, off, none⟩) n cap := meets_get hm 1 rfl rfl rfl rfl
        have h17 : vs 17 = .int .i64 (k : Int) := meets_get hm 2 rfl rfl rfl rfl
        clear hm
        simp only [fill, h16, h17]
        go_wp2
        exact ⟨_, rfl, rfl, Below.refl _ _⟩
      · intro vs wq hB hm
        have h18 : vs 18 = .pointer (some ⟨b, off + k * 12, none⟩) := meets_get hm 3 rfl rfl rfl rfl
        clear hm
        have hm1 : wq.rangeAt b (off + k * 12) ((VA (L k))).toList := fun j v hv => by rw [hB.cell (by first | assumption | exact Nat.lt_of_lt_of_le (by assumption) (Below.size (by assumption)) | omega)]; exact hr j v hv
        simp only [fill, h18]
        go_wp2_with (refine wpList_load_mid rfl 26 _ rfl b (off + k * 12) rfl ((VA (L k))).toList _ hm1 Try.underlying26 rfl (by rw [Array.length_toList, VA_size]; exact vec_info) ?_)
        exact ⟨_, rfl, rfl, Below.refl _ _⟩
      · intro vs wq hB hm
        have h15 : vs 15 = .agg (VA (joinN L k)) := meets_get hm 0 rfl rfl rfl rfl
        have h19 : vs 19 = .agg (VA (L k)) := meets_get hm 4 rfl rfl rfl rfl
        clear hm
        simp only [fill, h15, h19]
        go_wp2_with fail
        refine (rjoin_any (joinN L k) (L k) _).mono ?_
        rintro e w1 ⟨rfl, hb1⟩
        go_wp2
        exact ⟨_, rfl, rfl, hb1⟩
      intro vs wq hB hm
      have h15 : vs 15 = .agg (VA (joinN L k)) := hm 0 _ _ _ rfl rfl rfl
      have h16 : vs 16 = .slice (some ⟨b, off, none⟩) n cap := hm 1 _ _ _ rfl rfl rfl
      have h17 : vs 17 = .int .i64 (k : Int) := hm 2 _ _ _ rfl rfl rfl
      have h18 : vs 18 = .pointer (some ⟨b, off + k * 12, none⟩) := hm 3 _ _ _ rfl rfl rfl
      have h19 : vs 19 = .agg (VA (L k)) := hm 4 _ _ _ rfl rfl rfl
      have h20 : vs 20 = .agg (VA (vmax (joinN L k) (L k))) := hm 5 _ _ _ rfl rfl rfl
      simp only [fill, List.filterMap, List.take, List.drop, List.setIfInBounds_toArray, List.set_cons_zero, List.set_cons_succ, h15, h16, h17, h18, h19, h20]
      clear hm h15 h16 h17 h18 h19 h20
      replace lx : look wq (w.heap.size) = some (.cells (VA (joinN L k)) 26 (0, 0)) := by rw [look_below hB (by first | omega | (simp only [World.size_alloc]; omega) | exact look_lt (by assumption) | (simp only [World.size_alloc, World.size_setCell]; omega) | (simp; omega))]; first | assumption | go_simp
      replace cx : ∀ i, i < 12 → World.cell? wq ⟨w.heap.size, i, none⟩ = some (.int .u32 ((((joinN L k)) i : Nat) : Int)) := fun i hi => by rw [look_cell lx, VA_get _ _ hi]
      replace fx := look_frozen lx
      replace sx := look_lt lx
      go_wp2
      go_roundw
      case measure => simp [intOf]; omega
      case rel =>
        refine ⟨k + 1, by omega, by go_num, belR (belT hB0 hB) (Nat.le_refl _) _, ?_⟩
        rw [look_setRow, if_pos rfl, lx]
        rfl
    · obtain rfl : k = n := by omega
      have hL' : ∀ j, j < k → wr.rangeAt b (off + j * 12) (VA (L j)).toList := by
        intro j hj i v hv
        rw [hB0.cell hb]
        exact hL j hj i v hv
      have HL := Lib.hid hL'
      have hbr : b < wr.heap.size := Nat.lt_of_lt_of_le hb hB0.size
      have hv := (veq_iff (joinN L k) (joinN L k)).2 (fun _ _ => rfl)
      have hv0 : veq (fun _ => 0) (fun _ => 0) = true := (veq_iff _ _).2 (fun _ _ => rfl)
      clear hL hL'
      go_wp2_with fail
      refine wp_region_words mixed 12 ([] :: [21] :: [22] :: [23, 22] :: [22] :: [24, 25, 22] :: [22, 26] :: [27] :: [28] :: [28] :: [29, 30, 28] :: [28, 31] :: []) (isV (.bool true) :: isV (.bool true) :: isV (.slice (some ⟨b, off, none⟩) k cap) :: isV (.agg (VA (joinN L k))) :: isV (.agg (VA (joinN L k))) :: isV (.bool true) :: isV (.bool true) :: isV (.bool true) :: isV (.agg (VA fun _ => 0)) :: isV (.agg (VA fun _ => 0)) :: isV (.bool true) :: isV (.bool true) :: []) (by decide) (by kernel_rfl)
        ⟨stab_isV _, stab_isV _, stab_isV _, stab_isV _, stab_isV _, stab_isV _, stab_isV _, stab_isV _, stab_isV _, stab_isV _, stab_isV _, stab_isV _, trivial⟩ ⟨?_, ?_, ?_, ?_, ?_, ?_, ?_, ?_, ?_, ?_, ?_, ?_, trivial⟩ ?_
      · intro vs wq hB hm
        clear hm
        simp only [fill]
        go_wp2_with fail
        refine (alive04 _).mono ?_
        rintro e w1 ⟨rfl, hb1⟩
        go_wp2
        exact ⟨_, rfl, rfl, hb1⟩
      · intro vs wq hB hm
        have h21 : vs 21 = .bool true := meets_get hm 0 rfl rfl rfl rfl
        clear hm
        simp only [fill, h21]
        go_wp2
        exact ⟨_, rfl, rfl, Below.refl _ _⟩
      · intro vs wq hB hm
        have h22 : vs 22 = .bool true := meets_get hm 1 rfl rfl rfl rfl
        clear hm
        simp only [fill, h22]
        go_wp2
        exact ⟨_, rfl, rfl, Below.refl _ _⟩
      · intro vs wq hB hm
        have h23 : vs 23 = .slice (some ⟨b, off, none⟩) k cap := meets_get hm 2 rfl rfl rfl rfl
        have h22 : vs 22 = .bool true := meets_get hm 1 rfl rfl rfl rfl
        clear hm
        simp only [fill, h23, h22]
        go_wp2_with fail
        refine (join_any b off k cap L _ (by omega) (Nat.lt_of_lt_of_le hbr hB.size) (fun j hj i v hv => by rw [hB.cell hbr]; exact HL.out j hj i v hv)).mono ?_
        rintro e w1 ⟨rfl, hb1⟩
        go_wp2
        exact ⟨_, rfl, rfl, hb1⟩
      · intro vs wq hB hm
        have hl : look wq (w.heap.size) = some (.cells (VA (joinN L k)) 26 (0, 0)) := by rw [look_below hB (by first | omega | (simp only [World.size_alloc]; omega) | exact look_lt (by assumption) | (simp only [World.size_alloc, World.size_setCell]; omega) | (simp; omega))]; first | assumption | go_simp
        have h22 : vs 22 = .bool true := meets_get hm 1 rfl rfl rfl rfl
        clear hm
        simp only [fill, h22]
        go_wp2
        exact ⟨_, rfl, rfl, Below.refl _ _⟩
      · intro vs wq hB hm
        have h24 : vs 24 = .agg (VA (joinN L k)) := meets_get hm 3 rfl rfl rfl rfl
        have h25 : vs 25 = .agg (VA (joinN L k)) := meets_get hm 4 rfl rfl rfl rfl
        have h22 : vs 22 = .bool true := meets_get hm 1 rfl rfl rfl rfl
        clear hm
        simp only [fill, h24, h25, h22]
        go_wp2
        exact ⟨_, rfl, rfl, Below.refl _ _⟩
      · intro vs wq hB hm
        have h22 : vs 22 = .bool true := meets_get hm 1 rfl rfl rfl rfl
        have h26 : vs 26 = .bool true := meets_get hm 5 rfl rfl rfl rfl
        clear hm
        simp only [fill, h22, h26]
        go_wp2
        exact ⟨_, rfl, rfl, Below.refl _ _⟩
      · intro vs wq hB hm
        have h27 : vs 27 = .bool true := meets_get hm 6 rfl rfl rfl rfl
        clear hm
        simp only [fill, h27]
        go_wp2
        exact ⟨_, rfl, rfl, Below.refl _ _⟩
      · intro vs wq hB hm
        have h28 : vs 28 = .bool true := meets_get hm 7 rfl rfl rfl rfl
        clear hm
        simp only [fill, h28]
        go_wp2_with fail
        refine (join_nil _).mono ?_
        rintro e w1 ⟨rfl, hb1⟩
        go_wp2
        exact ⟨_, rfl, rfl, hb1⟩
      · intro vs wq hB hm
        have h28 : vs 28 = .bool true := meets_get hm 7 rfl rfl rfl rfl
        clear hm
        simp only [fill, h28]
        go_wp2
        exact ⟨_, rfl, rfl, Below.refl _ _⟩
      · intro vs wq hB hm
        have h29 : vs 29 = .agg (VA fun _ => 0) := meets_get hm 8 rfl rfl rfl rfl
        have h30 : vs 30 = .agg (VA fun _ => 0) := meets_get hm 9 rfl rfl rfl rfl
        have h28 : vs 28 = .bool true := meets_get hm 7 rfl rfl rfl rfl
        clear hm
        simp only [fill, h29, h30, h28]
        go_wp2
        exact ⟨_, rfl, rfl, Below.refl _ _⟩
      · intro vs wq hB hm
        have h28 : vs 28 = .bool true := meets_get hm 7 rfl rfl rfl rfl
        have h31 : vs 31 = .bool true := meets_get hm 10 rfl rfl rfl rfl
        clear hm
        simp only [fill, h28, h31]
        go_wp2
        exact ⟨_, rfl, rfl, Below.refl _ _⟩
      intro vs wq hB hm
      have h21 : vs 21 = .bool true := hm 0 _ _ _ rfl rfl rfl
      have h22 : vs 22 = .bool true := hm 1 _ _ _ rfl rfl rfl
      have h23 : vs 23 = .slice (some ⟨b, off, none⟩) k cap := hm 2 _ _ _ rfl rfl rfl
      have h24 : vs 24 = .agg (VA (joinN L k)) := hm 3 _ _ _ rfl rfl rfl
      have h25 : vs 25 = .agg (VA (joinN L k)) := hm 4 _ _ _ rfl rfl rfl
      have h26 : vs 26 = .bool true := hm 5 _ _ _ rfl rfl rfl
      have h27 : vs 27 = .bool true := hm 6 _ _ _ rfl rfl rfl
      have h28 : vs 28 = .bool true := hm 7 _ _ _ rfl rfl rfl
      have h29 : vs 29 = .agg (VA fun _ => 0) := hm 8 _ _ _ rfl rfl rfl
      have h30 : vs 30 = .agg (VA fun _ => 0) := hm 9 _ _ _ rfl rfl rfl
      have h31 : vs 31 = .bool true := hm 10 _ _ _ rfl rfl rfl
      have h32 : vs 32 = .bool true := hm 11 _ _ _ rfl rfl rfl
      simp only [fill, List.filterMap, List.take, List.drop, List.setIfInBounds_toArray, List.set_cons_zero, List.set_cons_succ, h21, h22, h23, h24, h25, h26, h27, h28, h29, h30, h31, h32]
      clear hm h21 h22 h23 h24 h25 h26 h27 h28 h29 h30 h31 h32
      go_wp2
      go_ret
      exact ⟨rfl, belT hB0 hB⟩

set_option maxRecDepth 100000 in
set_option maxHeartbeats 4000000 in
theorem joins_none (ad : Option Addr) (cap : Nat) (w : World) :
    Calls Try.prog 3 #[.slice ad 0 cap] w fun e w' => e = .returned (.bool true) ∧ Below w.heap.size w w' := by
  have hv0 : veq (fun _ => 0) (fun _ => 0) = true := (veq_iff _ _).2 (fun _ _ => rfl)
  go_enter Try.func3, Try.ntmps3
  go_wp2_with fail
  refine wp_loop_rounds 1 ?_
  rw [rounds_succ]
  go_wp2_with fail
  refine wp_region_words mixed 12 ([] :: [21] :: [22] :: [23, 22] :: [22] :: [24, 25, 22] :: [22, 26] :: [27] :: [28] :: [28] :: [29, 30, 28] :: [28, 31] :: []) (isV (.bool true) :: isV (.bool true) :: isV (.slice ad 0 cap) :: isV (.agg (VA fun _ => 0)) :: isV (.agg (VA fun _ => 0)) :: isV (.bool true) :: isV (.bool true) :: isV (.bool true) :: isV (.agg (VA fun _ => 0)) :: isV (.agg (VA fun _ => 0)) :: isV (.bool true) :: isV (.bool true) :: []) (by decide) (by kernel_rfl)
    ⟨stab_isV _, stab_isV _, stab_isV _, stab_isV _, stab_isV _, stab_isV _, stab_isV _, stab_isV _, stab_isV _, stab_isV _, stab_isV _, stab_isV _, trivial⟩ ⟨?_, ?_, ?_, ?_, ?_, ?_, ?_, ?_, ?_, ?_, ?_, ?_, trivial⟩ ?_
  · intro vs wq hB hm
    clear hm
    simp only [fill]
    go_wp2_with fail
    refine (alive04 _).mono ?_
    rintro e w1 ⟨rfl, hb1⟩
    go_wp2
    exact ⟨_, rfl, rfl, hb1⟩
  · intro vs wq hB hm
    have h21 : vs 21 = .bool true := meets_get hm 0 rfl rfl rfl rfl
    clear hm
    simp only [fill, h21]
    go_wp2
    exact ⟨_, rfl, rfl, Below.refl _ _⟩
  · intro vs wq hB hm
    have h22 : vs 22 = .bool true := meets_get hm 1 rfl rfl rfl rfl
    clear hm
    simp only [fill, h22]
    go_wp2
    exact ⟨_, rfl, rfl, Below.refl _ _⟩
  · intro vs wq hB hm
    have h23 : vs 23 = .slice ad 0 cap := meets_get hm 2 rfl rfl rfl rfl
    have h22 : vs 22 = .bool true := meets_get hm 1 rfl rfl rfl rfl
    clear hm
    simp only [fill, h23, h22]
    go_wp2_with fail
    refine (join_zero ad cap _).mono ?_
    rintro e w1 ⟨rfl, hb1⟩
    go_wp2
    exact ⟨_, rfl, rfl, hb1⟩
  · intro vs wq hB hm
    have hl : look wq (w.heap.size) = some (.cells (VA fun _ => 0) 26 (0, 0)) := by rw [look_below hB (by first | omega | (simp only [World.size_alloc]; omega) | exact look_lt (by assumption) | (simp only [World.size_alloc, World.size_setCell]; omega) | (simp; omega))]; first | assumption | go_simp
    have h22 : vs 22 = .bool true := meets_get hm 1 rfl rfl rfl rfl
    clear hm
    simp only [fill, h22]
    go_wp2
    exact ⟨_, rfl, rfl, Below.refl _ _⟩
  · intro vs wq hB hm
    have h24 : vs 24 = .agg (VA fun _ => 0) := meets_get hm 3 rfl rfl rfl rfl
    have h25 : vs 25 = .agg (VA fun _ => 0) := meets_get hm 4 rfl rfl rfl rfl
    have h22 : vs 22 = .bool true := meets_get hm 1 rfl rfl rfl rfl
    clear hm
    simp only [fill, h24, h25, h22]
    go_wp2
    exact ⟨_, rfl, rfl, Below.refl _ _⟩
  · intro vs wq hB hm
    have h22 : vs 22 = .bool true := meets_get hm 1 rfl rfl rfl rfl
    have h26 : vs 26 = .bool true := meets_get hm 5 rfl rfl rfl rfl
    clear hm
    simp only [fill, h22, h26]
    go_wp2
    exact ⟨_, rfl, rfl, Below.refl _ _⟩
  · intro vs wq hB hm
    have h27 : vs 27 = .bool true := meets_get hm 6 rfl rfl rfl rfl
    clear hm
    simp only [fill, h27]
    go_wp2
    exact ⟨_, rfl, rfl, Below.refl _ _⟩
  · intro vs wq hB hm
    have h28 : vs 28 = .bool true := meets_get hm 7 rfl rfl rfl rfl
    clear hm
    simp only [fill, h28]
    go_wp2_with fail
    refine (join_nil _).mono ?_
    rintro e w1 ⟨rfl, hb1⟩
    go_wp2
    exact ⟨_, rfl, rfl, hb1⟩
  · intro vs wq hB hm
    have h28 : vs 28 = .bool true := meets_get hm 7 rfl rfl rfl rfl
    clear hm
    simp only [fill, h28]
    go_wp2
    exact ⟨_, rfl, rfl, Below.refl _ _⟩
  · intro vs wq hB hm
    have h29 : vs 29 = .agg (VA fun _ => 0) := meets_get hm 8 rfl rfl rfl rfl
    have h30 : vs 30 = .agg (VA fun _ => 0) := meets_get hm 9 rfl rfl rfl rfl
    have h28 : vs 28 = .bool true := meets_get hm 7 rfl rfl rfl rfl
    clear hm
    simp only [fill, h29, h30, h28]
    go_wp2
    exact ⟨_, rfl, rfl, Below.refl _ _⟩
  · intro vs wq hB hm
    have h28 : vs 28 = .bool true := meets_get hm 7 rfl rfl rfl rfl
    have h31 : vs 31 = .bool true := meets_get hm 10 rfl rfl rfl rfl
    clear hm
    simp only [fill, h28, h31]
    go_wp2
    exact ⟨_, rfl, rfl, Below.refl _ _⟩
  intro vs wq hB hm
  have h21 : vs 21 = .bool true := hm 0 _ _ _ rfl rfl rfl
  have h22 : vs 22 = .bool true := hm 1 _ _ _ rfl rfl rfl
  have h23 : vs 23 = .slice ad 0 cap := hm 2 _ _ _ rfl rfl rfl
  have h24 : vs 24 = .agg (VA fun _ => 0) := hm 3 _ _ _ rfl rfl rfl
  have h25 : vs 25 = .agg (VA fun _ => 0) := hm 4 _ _ _ rfl rfl rfl
  have h26 : vs 26 = .bool true := hm 5 _ _ _ rfl rfl rfl
  have h27 : vs 27 = .bool true := hm 6 _ _ _ rfl rfl rfl
  have h28 : vs 28 = .bool true := hm 7 _ _ _ rfl rfl rfl
  have h29 : vs 29 = .agg (VA fun _ => 0) := hm 8 _ _ _ rfl rfl rfl
  have h30 : vs 30 = .agg (VA fun _ => 0) := hm 9 _ _ _ rfl rfl rfl
  have h31 : vs 31 = .bool true := hm 10 _ _ _ rfl rfl rfl
  have h32 : vs 32 = .bool true := hm 11 _ _ _ rfl rfl rfl
  simp only [fill, List.filterMap, List.take, List.drop, List.setIfInBounds_toArray, List.set_cons_zero, List.set_cons_succ, h21, h22, h23, h24, h25, h26, h27, h28, h29, h30, h31, h32]
  clear hm h21 h22 h23 h24 h25 h26 h27 h28 h29 h30 h31 h32
  go_wp2
  go_ret
  exact ⟨rfl, belT (belA (bel0 _) _) hB⟩
end Go.Proofs.Ytknhlkapeoodhaa
