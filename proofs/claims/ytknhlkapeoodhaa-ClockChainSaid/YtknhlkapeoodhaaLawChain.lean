/- ClockChain: the walk of the law. -/
import Derived.Test.YtknhlkapeoodhaaLawDots
namespace Go.Proofs.Ytknhlkapeoodhaa
open Go.RowKit

/-- A vector in which a node has i events more. -/
def chainV (f : Nat → Nat) (m i : Nat) : Nat → Nat := upd f m (f m + i)
theorem chainV_zero (f : Nat → Nat) (m : Nat) : chainV f m 0 = f := by
  funext j
  by_cases h : j = m
  · subst h; simp [chainV, upd]
  · simp [chainV, upd, h]
theorem chainV_at (f : Nat → Nat) (m i : Nat) (hm : m < 12) : getN (chainV f m i) ((m : Int) + 1) = f m + i := by
  have e : ((m : Int) + 1 - 1).toNat = m := by omega
  rw [getN, if_pos (by omega), e, chainV, upd_same]
theorem chainV_step (f : Nat → Nat) (m i : Nat) (hm : m < 12) (h : f m + i + 1 ≤ 1048576) : VA (withN (chainV f m i) ((m : Int) + 1) (f m + i + 1)) = VA (chainV f m (i + 1)) := by
  refine VA_ext fun j _ => ?_
  rw [withN_get (by omega)]
  by_cases hj : j = m
  · subst hj
    rw [chainV, chainV, upd_same, upd_same, if_pos ⟨rfl, by omega⟩]
    omega
  · rw [if_neg (by omega), chainV, chainV, upd_other _ _ _ _ hj, upd_other _ _ _ _ hj]
theorem chainV_covers (f : Nat → Nat) (m i : Nat) : covB (chainV f m i) f = true := (covB_iff _ _).2 fun j _ => by
  by_cases hj : j = m
  · subst hj; rw [chainV, upd_same]; omega
  · rw [chainV, upd_other _ _ _ _ hj]; exact Nat.le_refl _

set_option maxRecDepth 100000 in
set_option maxHeartbeats 8000000 in
/-- A node that may not be. -/
theorem chain_no (f : Nat → Nat) (n : Int) (k : Nat) (hn : ¬ (1 ≤ n ∧ n ≤ 12)) (hk : k ≤ 255) (w : World) :
    Calls Try.prog 6 #[.agg (VA f), .int .i64 n, .int .u8 (k : Int)] w fun e w' => e = .returned (.bool true) ∧ Below w.heap.size w w' := by
  have HX : Hid (nextV f n = .tuple #[.agg #[.int .i64 0, .int .u32 0], .int .i64 11]) := by show nextV f n = _; rw [nextV, if_neg hn]
  have hkw : IntKind.i64.wrap (k : Int) = (k : Int) := IntWalk.i64_in _ (by omega)
  by_cases hk0 : k = 0
  · subst hk0
    go_enter Try.func6, Try.ntmps6
    go_wp2_with fail
    refine wp_loop_rounds 1 ?_
    rw [rounds_succ]
    go_wp2_with fail
    refine (alive04 _).mono ?_
    rintro e w1 ⟨rfl, hb1⟩
    go_wp2
    go_ret
    exact ⟨rfl, belT (belA (belA (bel0 _) _) _) hb1⟩
  · have hd : decide ((0 : Int) < (k : Int)) = true := decide_eq_true (by omega)
    have hkp : (0 : Int) < (k : Int) := by omega
    have h12 : n < 1 ∨ 12 < n := by omega
    clear hk0 hn
    rcases h12 with hn | hn
    all_goals
      go_enter Try.func6, Try.ntmps6
      go_wp2_with fail
      refine wp_loop_rounds 1 ?_
      rw [rounds_succ]
      go_wp2_with fail
      refine (next_any f n _).mono ?_
      rintro e w1 ⟨rfl, hb1⟩
      rw [HX.out]
      go_wp2_with fail
      refine (alive04 _).mono ?_
      rintro e w2 ⟨rfl, hb2⟩
      go_wp2
      go_ret
      exact ⟨rfl, belT (belA (belT (belA (belA (bel0 _) _) _) hb1) _) hb2⟩

set_option maxRecDepth 100000 in
set_option maxHeartbeats 8000000 in
theorem chain_yes (f : Nat → Nat) (hf : ∀ i, f i ≤ 4294967295) (m : Nat) (hm : m < 12) (k : Nat) (hk : k ≤ 255) (w : World) :
    Calls Try.prog 6 #[.agg (VA f), .int .i64 ((m : Int) + 1), .int .u8 (k : Int)] w fun e w' => e = .returned (.bool true) ∧ Below w.heap.size w w' := by
  have hkw : IntKind.i64.wrap (k : Int) = (k : Int) := IntWalk.i64_in _ (by omega)
  have hm1 : (1 : Int) ≤ (m : Int) + 1 ∧ (m : Int) + 1 ≤ 12 := by omega
  have HF := Lib.hid hf
  clear hf
  go_enter Try.func6, Try.ntmps6
  go_wp2_with fail
  go_loopw [8] (fun i wr => ∃ j : Nat, j ≤ k ∧ i = .int .i64 j ∧ Below w.heap.size w wr ∧ look wr w.heap.size = some (.cells (VA (chainV f m j)) 26 (0, 0)) ∧ look wr (w.heap.size + 1) = some (.cells (VA f) 26 (0, 0)) ∧ Hid (0 < j → f m + j ≤ 1048576)) (fun i _ => k - (intOf i).toNat)
  case atStart => exact ⟨0, Nat.zero_le _, rfl, belA (belA (bel0 _) _) _, by rw [chainV_zero]; go_simp, by go_simp, fun h => by omega⟩
  case round =>
    obtain ⟨j, hj, rfl, hB0, h0, h1, bnd⟩ := hrel
    have hg := chainV_at f m j hm
    have HG := Lib.hid hg
    by_cases hlt : j < k
    · have hd : decide ((j : Int) < (k : Int)) = true := decide_eq_true (by omega)
      have hjk : (j : Int) < (k : Int) := by omega
      by_cases hfull : 1048576 ≤ f m + j
      · have HX : Hid (nextV (chainV f m j) ((m : Int) + 1) = .tuple #[.agg #[.int .i64 0, .int .u32 0], .int .i64 5]) := by
          show nextV _ _ = _
          rw [nextV, if_pos hm1, hg, if_pos hfull]
        have hfb : fullB (chainV f m j m) = true := by
          have : chainV f m j m = f m + j := by rw [chainV, upd_same]
          rw [this]; exact decide_eq_true hfull
        have h1m : ¬ ((m : Int) + 1 < 1) := by omega
        have h2m : ¬ ((12 : Int) < (m : Int) + 1) := by omega
        clear hg hfull bnd
        go_wp2_with fail
        refine (next_any (chainV f m j) ((m : Int) + 1) _).mono ?_
        rintro e w1 ⟨rfl, hb1⟩
        rw [HX.out]
        replace lx : look w1 (w.heap.size) = some (.cells (VA (chainV f m j)) 26 (0, 0)) := by rw [look_below hb1 (by first | omega | (simp only [World.size_alloc]; omega) | exact look_lt (by assumption) | (simp only [World.size_alloc, World.size_setCell]; omega) | (simp; omega))]; first | assumption | go_simp
        replace cx : ∀ i, i < 12 → World.cell? w1 ⟨w.heap.size, i, none⟩ = some (.int .u32 ((((chainV f m j)) i : Nat) : Int)) := fun i hi => by rw [look_cell lx, VA_get _ _ hi]
        replace fx := look_frozen lx
        replace sx := look_lt lx
        go_wp2_with fail
        refine (alive04 _).mono ?_
        rintro e w2 ⟨rfl, hb2⟩
        replace lx : look w2 (w.heap.size) = some (.cells (VA (chainV f m j)) 26 (0, 0)) := by rw [look_below hb2 (by first | omega | (simp only [World.size_alloc]; omega) | exact look_lt (by assumption) | (simp only [World.size_alloc, World.size_setCell]; omega) | (simp; omega))]; first | assumption | go_simp
        replace cx : ∀ i, i < 12 → World.cell? w2 ⟨w.heap.size, i, none⟩ = some (.int .u32 ((((chainV f m j)) i : Nat) : Int)) := fun i hi => by rw [look_cell lx, VA_get _ _ hi]
        replace fx := look_frozen lx
        replace sx := look_lt lx
        have cxm := cx m hm
        go_wp2
        go_ret
        exact ⟨rfl, belT (belA (belT hB0 hb1) _) hb2⟩
      · obtain ⟨q, hq⟩ : ∃ q : Nat, q = f m + j + 1 := ⟨_, rfl⟩
        have HX : Hid (nextV (chainV f m j) ((m : Int) + 1) = .tuple #[.agg #[.int .i64 ((m : Int) + 1), .int .u32 (q : Int)], .int .i64 0]) := by
          show nextV _ _ = _
          rw [nextV, if_pos hm1, hg, if_neg hfull, hq]
        have hst : Hid (VA (withN (chainV f m j) ((m : Int) + 1) q) = VA (chainV f m (j + 1))) := by
          rw [hq]
          exact chainV_step f m j hm (by omega)
        have hg2 : getN (chainV f m (j + 1)) ((m : Int) + 1) = q := by rw [chainV_at f m (j + 1) hm, hq]; omega
        have hh : hasB (chainV f m (j + 1)) ((m : Int) + 1) q = true := by
          rw [hasB, rightB_yes (by omega), Bool.true_and, hg2]
          exact decide_eq_true (by omega)
        have bnd' : Hid (0 < j + 1 → f m + (j + 1) ≤ 1048576) := fun _ => by omega
        clear hg hfull bnd hq
        go_wp2_with fail
        refine (next_any (chainV f m j) ((m : Int) + 1) _).mono ?_
        rintro e w1 ⟨rfl, hb1⟩
        rw [HX.out]
        replace lx : look w1 (w.heap.size) = some (.cells (VA (chainV f m j)) 26 (0, 0)) := by rw [look_below hb1 (by first | omega | (simp only [World.size_alloc]; omega) | exact look_lt (by assumption) | (simp only [World.size_alloc, World.size_setCell]; omega) | (simp; omega))]; first | assumption | go_simp
        replace cx : ∀ i, i < 12 → World.cell? w1 ⟨w.heap.size, i, none⟩ = some (.int .u32 ((((chainV f m j)) i : Nat) : Int)) := fun i hi => by rw [look_cell lx, VA_get _ _ hi]
        replace fx := look_frozen lx
        replace sx := look_lt lx
        replace ly : look w1 (w.heap.size + 1) = some (.cells (VA f) 26 (0, 0)) := by rw [look_below hb1 (by first | omega | (simp only [World.size_alloc]; omega) | exact look_lt (by assumption) | (simp only [World.size_alloc, World.size_setCell]; omega) | (simp; omega))]; first | assumption | go_simp
        replace cy : ∀ i, i < 12 → World.cell? w1 ⟨w.heap.size + 1, i, none⟩ = some (.int .u32 (((f) i : Nat) : Int)) := fun i hi => by rw [look_cell ly, VA_get _ _ hi]
        replace fy := look_frozen ly
        replace sy := look_lt ly
        go_wp2_with fail
        refine (with_any (chainV f m j) ((m : Int) + 1) q _).mono ?_
        rintro e w2 ⟨rfl, hb2⟩
        rw [hst.out]
        replace lx : look w2 (w.heap.size) = some (.cells (VA (chainV f m j)) 26 (0, 0)) := by rw [look_below hb2 (by first | omega | (simp only [World.size_alloc]; omega) | exact look_lt (by assumption) | (simp only [World.size_alloc, World.size_setCell]; omega) | (simp; omega))]; first | assumption | go_simp
        replace cx : ∀ i, i < 12 → World.cell? w2 ⟨w.heap.size, i, none⟩ = some (.int .u32 ((((chainV f m j)) i : Nat) : Int)) := fun i hi => by rw [look_cell lx, VA_get _ _ hi]
        replace fx := look_frozen lx
        replace sx := look_lt lx
        replace ly : look w2 (w.heap.size + 1) = some (.cells (VA f) 26 (0, 0)) := by rw [look_below hb2 (by first | omega | (simp only [World.size_alloc]; omega) | exact look_lt (by assumption) | (simp only [World.size_alloc, World.size_setCell]; omega) | (simp; omega))]; first | assumption | go_simp
        replace cy : ∀ i, i < 12 → World.cell? w2 ⟨w.heap.size + 1, i, none⟩ = some (.int .u32 (((f) i : Nat) : Int)) := fun i hi => by rw [look_cell ly, VA_get _ _ hi]
        replace fy := look_frozen ly
        replace sy := look_lt ly
        replace ld : look w2 (w1.heap.size) = some (.cells (#[.int .i64 ((m : Int) + 1), .int .u32 (q : Int)]) 34 (0, 0)) := by rw [look_below hb2 (by first | omega | (simp only [World.size_alloc]; omega) | exact look_lt (by assumption) | (simp only [World.size_alloc, World.size_setCell]; omega) | (simp; omega))]; first | assumption | go_simp
        replace cd0 : World.cell? w2 ⟨w1.heap.size, 0, none⟩ = some (.int .i64 ((m : Int) + 1)) := by rw [look_cell ld]; rfl
        replace cd1 : World.cell? w2 ⟨w1.heap.size, 1, none⟩ = some (.int .u32 (q : Int)) := by rw [look_cell ld]; rfl
        replace fd := look_frozen ld
        replace sd := look_lt ld
        have nd : w1.heap.size ≠ w.heap.size := by have := sd; have := hb2.size; have := hb1.size; have := look_lt h0; omega
        go_wp2_with fail
        refine wp_region_words mixed 18 ([] :: [46] :: [] :: [47, 48] :: [49] :: [50] :: [51, 50] :: [50] :: [50] :: [53, 54, 50] :: [52, 55, 50] :: [50, 56] :: [57] :: [58] :: [58] :: [59, 60, 58] :: [61, 58] :: [58, 62] :: []) (isV (.pointer (some ⟨w1.heap.size, 0, none⟩)) :: isV (.int .i64 ((m : Int) + 1)) :: isV (.int .i64 ((m : Int) + 1)) :: isV (.bool false) :: isV (.bool false) :: isV (.pointer (some ⟨w1.heap.size, 1, none⟩)) :: isV (.int .u32 (q : Int)) :: isV (.agg (VA (chainV f m (j + 1)))) :: isV (.int .i64 ((m : Int) + 1)) :: isV (.int .u32 (q : Int)) :: isV (.bool false) :: isV (.bool false) :: isV (.bool false) :: isV (.agg (VA (chainV f m (j + 1)))) :: isV (.agg #[.int .i64 ((m : Int) + 1), .int .u32 (q : Int)]) :: isV (.bool true) :: isV (.bool false) :: isV (.bool false) :: []) (by decide) (by kernel_rfl)
          ⟨stab_isV _, stab_isV _, stab_isV _, stab_isV _, stab_isV _, stab_isV _, stab_isV _, stab_isV _, stab_isV _, stab_isV _, stab_isV _, stab_isV _, stab_isV _, stab_isV _, stab_isV _, stab_isV _, stab_isV _, stab_isV _, trivial⟩ ⟨?_, ?_, ?_, ?_, ?_, ?_, ?_, ?_, ?_, ?_, ?_, ?_, ?_, ?_, ?_, ?_, ?_, ?_, trivial⟩ ?_
        · intro vs wq hB hm
          clear hm
          simp only [fill]
          go_wp2
          exact ⟨_, rfl, rfl, Below.refl _ _⟩
        · intro vs wq hB hm
          have hl : look wq (w1.heap.size) = some (.cells (#[.int .i64 ((m : Int) + 1), .int .u32 (q : Int)]) 34 (0, 0)) := by rw [look_below hB (by first | omega | (simp only [World.size_alloc]; omega) | exact look_lt (by assumption) | (simp only [World.size_alloc, World.size_setCell]; omega) | (simp; omega))]; first | assumption | go_simp
          have hc : World.cell? wq ⟨w1.heap.size, 0, none⟩ = some (.int .i64 ((m : Int) + 1)) := by rw [look_cell hl]; first | rfl | exact VA_get _ _ (by omega)
          have h46 : vs 46 = .pointer (some ⟨w1.heap.size, 0, none⟩) := meets_get hm 0 rfl rfl rfl rfl
          clear hm
          simp only [fill, h46]
          go_wp2
          exact ⟨_, rfl, rfl, Below.refl _ _⟩
        · intro vs wq hB hm
          clear hm
          simp only [fill]
          go_wp2
          exact ⟨_, rfl, rfl, Below.refl _ _⟩
        · intro vs wq hB hm
          have h47 : vs 47 = .int .i64 ((m : Int) + 1) := meets_get hm 1 rfl rfl rfl rfl
          have h48 : vs 48 = .int .i64 ((m : Int) + 1) := meets_get hm 2 rfl rfl rfl rfl
          clear hm
          simp only [fill, h47, h48]
          go_wp2
          exact ⟨_, rfl, rfl, Below.refl _ _⟩
        · intro vs wq hB hm
          have h49 : vs 49 = .bool false := meets_get hm 3 rfl rfl rfl rfl
          clear hm
          simp only [fill, h49]
          go_wp2
          exact ⟨_, rfl, rfl, Below.refl _ _⟩
        · intro vs wq hB hm
          have h50 : vs 50 = .bool false := meets_get hm 4 rfl rfl rfl rfl
          clear hm
          simp only [fill, h50]
          go_wp2
          exact ⟨_, rfl, rfl, Below.refl _ _⟩
        · intro vs wq hB hm
          have hl : look wq (w1.heap.size) = some (.cells (#[.int .i64 ((m : Int) + 1), .int .u32 (q : Int)]) 34 (0, 0)) := by rw [look_below hB (by first | omega | (simp only [World.size_alloc]; omega) | exact look_lt (by assumption) | (simp only [World.size_alloc, World.size_setCell]; omega) | (simp; omega))]; first | assumption | go_simp
          have hc : World.cell? wq ⟨w1.heap.size, 1, none⟩ = some (.int .u32 (q : Int)) := by rw [look_cell hl]; first | rfl | exact VA_get _ _ (by omega)
          have h51 : vs 51 = .pointer (some ⟨w1.heap.size, 1, none⟩) := meets_get hm 5 rfl rfl rfl rfl
          have h50 : vs 50 = .bool false := meets_get hm 4 rfl rfl rfl rfl
          clear hm
          simp only [fill, h51, h50]
          go_wp2
          exact ⟨_, rfl, rfl, Below.refl _ _⟩
        · intro vs wq hB hm
          have hl : look wq (w.heap.size) = some (.cells (VA (chainV f m (j + 1))) 26 (0, 0)) := by rw [look_below hB (by first | omega | (simp only [World.size_alloc]; omega) | exact look_lt (by assumption) | (simp only [World.size_alloc, World.size_setCell]; omega) | (simp; omega))]; first | assumption | go_simp
          have h50 : vs 50 = .bool false := meets_get hm 4 rfl rfl rfl rfl
          clear hm
          simp only [fill, h50]
          go_wp2
          exact ⟨_, rfl, rfl, Below.refl _ _⟩
        · intro vs wq hB hm
          have h50 : vs 50 = .bool false := meets_get hm 4 rfl rfl rfl rfl
          clear hm
          simp only [fill, h50]
          go_wp2
          exact ⟨_, rfl, rfl, Below.refl _ _⟩
        · intro vs wq hB hm
          have h53 : vs 53 = .agg (VA (chainV f m (j + 1))) := meets_get hm 7 rfl rfl rfl rfl
          have h54 : vs 54 = .int .i64 ((m : Int) + 1) := meets_get hm 8 rfl rfl rfl rfl
          have h50 : vs 50 = .bool false := meets_get hm 4 rfl rfl rfl rfl
          clear hm
          simp only [fill, h53, h54, h50]
          go_wp2_with fail
          refine ((hg2 ▸ get_any (chainV f m (j + 1)) ((m : Int) + 1) _)).mono ?_
          rintro e w1 ⟨rfl, hb1⟩
          go_wp2
          exact ⟨_, rfl, rfl, hb1⟩
        · intro vs wq hB hm
          have h52 : vs 52 = .int .u32 (q : Int) := meets_get hm 6 rfl rfl rfl rfl
          have h55 : vs 55 = .int .u32 (q : Int) := meets_get hm 9 rfl rfl rfl rfl
          have h50 : vs 50 = .bool false := meets_get hm 4 rfl rfl rfl rfl
          clear hm
          simp only [fill, h52, h55, h50]
          go_wp2
          exact ⟨_, rfl, rfl, Below.refl _ _⟩
        · intro vs wq hB hm
          have h50 : vs 50 = .bool false := meets_get hm 4 rfl rfl rfl rfl
          have h56 : vs 56 = .bool false := meets_get hm 10 rfl rfl rfl rfl
          clear hm
          simp only [fill, h50, h56]
          go_wp2
          exact ⟨_, rfl, rfl, Below.refl _ _⟩
        · intro vs wq hB hm
          have h57 : vs 57 = .bool false := meets_get hm 11 rfl rfl rfl rfl
          clear hm
          simp only [fill, h57]
          go_wp2
          exact ⟨_, rfl, rfl, Below.refl _ _⟩
        · intro vs wq hB hm
          have hl : look wq (w.heap.size) = some (.cells (VA (chainV f m (j + 1))) 26 (0, 0)) := by rw [look_below hB (by first | omega | (simp only [World.size_alloc]; omega) | exact look_lt (by assumption) | (simp only [World.size_alloc, World.size_setCell]; omega) | (simp; omega))]; first | assumption | go_simp
          have h58 : vs 58 = .bool false := meets_get hm 12 rfl rfl rfl rfl
          clear hm
          simp only [fill, h58]
          go_wp2
          exact ⟨_, rfl, rfl, Below.refl _ _⟩
        · intro vs wq hB hm
          have hl : look wq (w1.heap.size) = some (.cells (#[.int .i64 ((m : Int) + 1), .int .u32 (q : Int)]) 34 (0, 0)) := by rw [look_below hB (by first | omega | (simp only [World.size_alloc]; omega) | exact look_lt (by assumption) | (simp only [World.size_alloc, World.size_setCell]; omega) | (simp; omega))]; first | assumption | go_simp
          have hc0 : World.cell? wq ⟨w1.heap.size, 0, none⟩ = some (.int .i64 ((m : Int) + 1)) := by rw [look_cell hl]; rfl
          have hc1 : World.cell? wq ⟨w1.heap.size, 1, none⟩ = some (.int .u32 (q : Int)) := by rw [look_cell hl]; rfl
          have h58 : vs 58 = .bool false := meets_get hm 12 rfl rfl rfl rfl
          clear hm
          simp only [fill, h58]
          go_wp2
          exact ⟨_, rfl, rfl, Below.refl _ _⟩
        · intro vs wq hB hm
          have h59 : vs 59 = .agg (VA (chainV f m (j + 1))) := meets_get hm 13 rfl rfl rfl rfl
          have h60 : vs 60 = .agg #[.int .i64 ((m : Int) + 1), .int .u32 (q : Int)] := meets_get hm 14 rfl rfl rfl rfl
          have h58 : vs 58 = .bool false := meets_get hm 12 rfl rfl rfl rfl
          clear hm
          simp only [fill, h59, h60, h58]
          go_wp2_with fail
          refine ((hh ▸ has_any (chainV f m (j + 1)) ((m : Int) + 1) q _)).mono ?_
          rintro e w1 ⟨rfl, hb1⟩
          go_wp2
          exact ⟨_, rfl, rfl, hb1⟩
        · intro vs wq hB hm
          have h61 : vs 61 = .bool true := meets_get hm 15 rfl rfl rfl rfl
          have h58 : vs 58 = .bool false := meets_get hm 12 rfl rfl rfl rfl
          clear hm
          simp only [fill, h61, h58]
          go_wp2
          exact ⟨_, rfl, rfl, Below.refl _ _⟩
        · intro vs wq hB hm
          have h58 : vs 58 = .bool false := meets_get hm 12 rfl rfl rfl rfl
          have h62 : vs 62 = .bool false := meets_get hm 16 rfl rfl rfl rfl
          clear hm
          simp only [fill, h58, h62]
          go_wp2
          exact ⟨_, rfl, rfl, Below.refl _ _⟩
        intro vs wq hB hm
        have h46 : vs 46 = .pointer (some ⟨w1.heap.size, 0, none⟩) := hm 0 _ _ _ rfl rfl rfl
        have h47 : vs 47 = .int .i64 ((m : Int) + 1) := hm 1 _ _ _ rfl rfl rfl
        have h48 : vs 48 = .int .i64 ((m : Int) + 1) := hm 2 _ _ _ rfl rfl rfl
        have h49 : vs 49 = .bool false := hm 3 _ _ _ rfl rfl rfl
        have h50 : vs 50 = .bool false := hm 4 _ _ _ rfl rfl rfl
        have h51 : vs 51 = .pointer (some ⟨w1.heap.size, 1, none⟩) := hm 5 _ _ _ rfl rfl rfl
        have h52 : vs 52 = .int .u32 (q : Int) := hm 6 _ _ _ rfl rfl rfl
        have h53 : vs 53 = .agg (VA (chainV f m (j + 1))) := hm 7 _ _ _ rfl rfl rfl
        have h54 : vs 54 = .int .i64 ((m : Int) + 1) := hm 8 _ _ _ rfl rfl rfl
        have h55 : vs 55 = .int .u32 (q : Int) := hm 9 _ _ _ rfl rfl rfl
        have h56 : vs 56 = .bool false := hm 10 _ _ _ rfl rfl rfl
        have h57 : vs 57 = .bool false := hm 11 _ _ _ rfl rfl rfl
        have h58 : vs 58 = .bool false := hm 12 _ _ _ rfl rfl rfl
        have h59 : vs 59 = .agg (VA (chainV f m (j + 1))) := hm 13 _ _ _ rfl rfl rfl
        have h60 : vs 60 = .agg #[.int .i64 ((m : Int) + 1), .int .u32 (q : Int)] := hm 14 _ _ _ rfl rfl rfl
        have h61 : vs 61 = .bool true := hm 15 _ _ _ rfl rfl rfl
        have h62 : vs 62 = .bool false := hm 16 _ _ _ rfl rfl rfl
        have h63 : vs 63 = .bool false := hm 17 _ _ _ rfl rfl rfl
        simp only [fill, List.filterMap, List.take, List.drop, List.setIfInBounds_toArray, List.set_cons_zero, List.set_cons_succ, h46, h47, h48, h49, h50, h51, h52, h53, h54, h55, h56, h57, h58, h59, h60, h61, h62, h63]
        clear hm h46 h47 h48 h49 h50 h51 h52 h53 h54 h55 h56 h57 h58 h59 h60 h61 h62 h63
        replace lx : look wq (w.heap.size) = some (.cells (VA (chainV f m (j + 1))) 26 (0, 0)) := by rw [look_below hB (by first | omega | (simp only [World.size_alloc]; omega) | exact look_lt (by assumption) | (simp only [World.size_alloc, World.size_setCell]; omega) | (simp; omega))]; first | assumption | go_simp
        replace cx : ∀ i, i < 12 → World.cell? wq ⟨w.heap.size, i, none⟩ = some (.int .u32 ((((chainV f m (j + 1))) i : Nat) : Int)) := fun i hi => by rw [look_cell lx, VA_get _ _ hi]
        replace fx := look_frozen lx
        replace sx := look_lt lx
        replace ly : look wq (w.heap.size + 1) = some (.cells (VA f) 26 (0, 0)) := by rw [look_below hB (by first | omega | (simp only [World.size_alloc]; omega) | exact look_lt (by assumption) | (simp only [World.size_alloc, World.size_setCell]; omega) | (simp; omega))]; first | assumption | go_simp
        replace cy : ∀ i, i < 12 → World.cell? wq ⟨w.heap.size + 1, i, none⟩ = some (.int .u32 (((f) i : Nat) : Int)) := fun i hi => by rw [look_cell ly, VA_get _ _ hi]
        replace fy := look_frozen ly
        replace sy := look_lt ly
        go_wp2
        go_roundw
        case measure => simp [intOf]; omega
        case rel => exact ⟨j + 1, by omega, by go_num, belT (belR (belT (belA (belT hB0 hb1) _) hb2) (Nat.le_refl _) _) hB, lx, ly, bnd'⟩
    · obtain rfl : j = k := by omega
      by_cases hk0 : j = 0
      · subst hk0
        clear hg bnd
        go_wp2_with fail
        refine (alive04 _).mono ?_
        rintro e w1 ⟨rfl, hb1⟩
        go_wp2
        go_ret
        exact ⟨rfl, belT hB0 hb1⟩
      · have hkb : ((j : Int) == 0) = false := by simp; omega
        have hle : f m + j ≤ 1048576 := bnd.out (by omega)
        have hcov := chainV_covers f m j
        have hgf : getN f ((m : Int) + 1) = f m := by
          have e : ((m : Int) + 1 - 1).toNat = m := by omega
          rw [getN, if_pos (by omega), e]
        have hsum : IntKind.u32.wrap ((f m : Int) + (j : Int)) = ((f m + j : Nat) : Int) := by rw [IntWalk.u32_in _ (by omega)]; simp
        have hju : IntKind.u32.wrap (j : Int) = (j : Int) := IntWalk.u32_in _ (by omega)
        clear bnd hk0 hlt hle
        go_wp2_with fail
        obtain ⟨wo, rfl⟩ : ∃ wo : World, wo = wr := ⟨_, rfl⟩
        go_loopw [11] (fun i wr => ∃ l : Nat, l ≤ 12 ∧ i = .int .i64 l ∧ Below w.heap.size w wr ∧ look wr w.heap.size = some (.cells (VA (chainV f m j)) 26 (0, 0)) ∧ look wr (w.heap.size + 1) = some (.cells (VA f) 26 (0, 0))) (fun i _ => 12 - (intOf i).toNat)
        case atStart => exact ⟨0, Nat.zero_le _, rfl, hB0, h0, h1⟩
        case round =>
          clear hB0 h0 h1
          obtain ⟨l, hl, rfl, hB0, h0, h1⟩ := hrel
          by_cases hll : l < 12
          · have hd2 : decide ((l : Int) < 12) = true := decide_eq_true (by omega)
            have c0 : World.cell? wr ⟨w.heap.size, l, none⟩ = some (.int .u32 (chainV f m j l : Int)) := by rw [look_cell h0, VA_get _ _ hll]
            have c1 : World.cell? wr ⟨w.heap.size + 1, l, none⟩ = some (.int .u32 (f l : Int)) := by rw [look_cell h1, VA_get _ _ hll]
            by_cases hlm : l = m
            · have hb1 : (((l : Int) + 1) != ((m : Int) + 1)) = false := by subst hlm; simp
              have hb2 : (((l : Int) + 1) == ((m : Int) + 1)) = true := by subst hlm; simp
              have HL := Lib.hid hlm
              clear hlm
              go_wp2_with fail
              refine wp_region_words mixed 13 ([] :: [71] :: [] :: [72, 73] :: [74] :: [75] :: [76, 75] :: [77, 75] :: [75] :: [79, 75] :: [80, 75] :: [78, 81, 75] :: [75, 82] :: []) (isV (.int .i64 (l : Int)) :: isV (.int .i64 ((l : Int) + 1)) :: isV (.int .i64 ((m : Int) + 1)) :: isV (.bool false) :: isV (.bool false) :: isV (undef) :: isV (undef) :: isV (undef) :: isV (undef) :: isV (undef) :: isV (undef) :: isV (undef) :: isV (.bool false) :: []) (by decide) (by kernel_rfl)
                ⟨stab_isV _, stab_isV _, stab_isV _, stab_isV _, stab_isV _, stab_isV _, stab_isV _, stab_isV _, stab_isV _, stab_isV _, stab_isV _, stab_isV _, stab_isV _, trivial⟩ ⟨?_, ?_, ?_, ?_, ?_, ?_, ?_, ?_, ?_, ?_, ?_, ?_, ?_, trivial⟩ ?_
              · intro vs wq hB hm
                clear hm
                simp only [fill]
                go_wp2
                exact ⟨_, rfl, rfl, Below.refl _ _⟩
              · intro vs wq hB hm
                have h71 : vs 71 = .int .i64 (l : Int) := meets_get hm 0 rfl rfl rfl rfl
                clear hm
                simp only [fill, h71]
                go_wp2
                exact ⟨_, rfl, rfl, Below.refl _ _⟩
              · intro vs wq hB hm
                clear hm
                simp only [fill]
                go_wp2
                exact ⟨_, rfl, rfl, Below.refl _ _⟩
              · intro vs wq hB hm
                have h72 : vs 72 = .int .i64 ((l : Int) + 1) := meets_get hm 1 rfl rfl rfl rfl
                have h73 : vs 73 = .int .i64 ((m : Int) + 1) := meets_get hm 2 rfl rfl rfl rfl
                clear hm
                simp only [fill, h72, h73]
                go_wp2
                exact ⟨_, rfl, rfl, Below.refl _ _⟩
              · intro vs wq hB hm
                have h74 : vs 74 = .bool false := meets_get hm 3 rfl rfl rfl rfl
                clear hm
                simp only [fill, h74]
                go_wp2
                exact ⟨_, rfl, rfl, Below.refl _ _⟩
              · intro vs wq hB hm
                have h75 : vs 75 = .bool false := meets_get hm 4 rfl rfl rfl rfl
                clear hm
                simp only [fill, h75]
                refine wpList_skip (by rfl) ?_
                exact ⟨_, rfl, rfl, Below.refl _ _⟩
              · intro vs wq hB hm
                have h76 : vs 76 = undef := meets_get hm 5 rfl rfl rfl rfl
                have h75 : vs 75 = .bool false := meets_get hm 4 rfl rfl rfl rfl
                clear hm
                simp only [fill, h76, h75]
                refine wpList_skip (by rfl) ?_
                exact ⟨_, rfl, rfl, Below.refl _ _⟩
              · intro vs wq hB hm
                have h77 : vs 77 = undef := meets_get hm 6 rfl rfl rfl rfl
                have h75 : vs 75 = .bool false := meets_get hm 4 rfl rfl rfl rfl
                clear hm
                simp only [fill, h77, h75]
                refine wpList_skip (by rfl) ?_
                exact ⟨_, rfl, rfl, Below.refl _ _⟩
              · intro vs wq hB hm
                have h75 : vs 75 = .bool false := meets_get hm 4 rfl rfl rfl rfl
                clear hm
                simp only [fill, h75]
                refine wpList_skip (by rfl) ?_
                exact ⟨_, rfl, rfl, Below.refl _ _⟩
              · intro vs wq hB hm
                have h79 : vs 79 = undef := meets_get hm 8 rfl rfl rfl rfl
                have h75 : vs 75 = .bool false := meets_get hm 4 rfl rfl rfl rfl
                clear hm
                simp only [fill, h79, h75]
                refine wpList_skip (by rfl) ?_
                exact ⟨_, rfl, rfl, Below.refl _ _⟩
              · intro vs wq hB hm
                have h80 : vs 80 = undef := meets_get hm 9 rfl rfl rfl rfl
                have h75 : vs 75 = .bool false := meets_get hm 4 rfl rfl rfl rfl
                clear hm
                simp only [fill, h80, h75]
                refine wpList_skip (by rfl) ?_
                exact ⟨_, rfl, rfl, Below.refl _ _⟩
              · intro vs wq hB hm
                have h78 : vs 78 = undef := meets_get hm 7 rfl rfl rfl rfl
                have h81 : vs 81 = undef := meets_get hm 10 rfl rfl rfl rfl
                have h75 : vs 75 = .bool false := meets_get hm 4 rfl rfl rfl rfl
                clear hm
                simp only [fill, h78, h81, h75]
                refine wpList_skip (by rfl) ?_
                exact ⟨_, rfl, rfl, Below.refl _ _⟩
              · intro vs wq hB hm
                have h75 : vs 75 = .bool false := meets_get hm 4 rfl rfl rfl rfl
                have h82 : vs 82 = undef := meets_get hm 11 rfl rfl rfl rfl
                clear hm
                simp only [fill, h75, h82]
                go_wp2
                exact ⟨_, rfl, rfl, Below.refl _ _⟩
              intro vs wq hB hm
              have h71 : vs 71 = .int .i64 (l : Int) := hm 0 _ _ _ rfl rfl rfl
              have h72 : vs 72 = .int .i64 ((l : Int) + 1) := hm 1 _ _ _ rfl rfl rfl
              have h73 : vs 73 = .int .i64 ((m : Int) + 1) := hm 2 _ _ _ rfl rfl rfl
              have h74 : vs 74 = .bool false := hm 3 _ _ _ rfl rfl rfl
              have h75 : vs 75 = .bool false := hm 4 _ _ _ rfl rfl rfl
              have h76 : vs 76 = undef := hm 5 _ _ _ rfl rfl rfl
              have h77 : vs 77 = undef := hm 6 _ _ _ rfl rfl rfl
              have h78 : vs 78 = undef := hm 7 _ _ _ rfl rfl rfl
              have h79 : vs 79 = undef := hm 8 _ _ _ rfl rfl rfl
              have h80 : vs 80 = undef := hm 9 _ _ _ rfl rfl rfl
              have h81 : vs 81 = undef := hm 10 _ _ _ rfl rfl rfl
              have h82 : vs 82 = undef := hm 11 _ _ _ rfl rfl rfl
              have h83 : vs 83 = .bool false := hm 12 _ _ _ rfl rfl rfl
              simp only [fill, List.filterMap, List.take, List.drop, List.setIfInBounds_toArray, List.set_cons_zero, List.set_cons_succ, h71, h72, h73, h74, h75, h76, h77, h78, h79, h80, h81, h82, h83]
              clear hm h71 h72 h73 h74 h75 h76 h77 h78 h79 h80 h81 h82 h83
              replace lx : look wq (w.heap.size) = some (.cells (VA (chainV f m j)) 26 (0, 0)) := by rw [look_below hB (by first | omega | (simp only [World.size_alloc]; omega) | exact look_lt (by assumption) | (simp only [World.size_alloc, World.size_setCell]; omega) | (simp; omega))]; first | assumption | go_simp
              replace cx : ∀ i, i < 12 → World.cell? wq ⟨w.heap.size, i, none⟩ = some (.int .u32 ((((chainV f m j)) i : Nat) : Int)) := fun i hi => by rw [look_cell lx, VA_get _ _ hi]
              replace fx := look_frozen lx
              replace sx := look_lt lx
              replace ly : look wq (w.heap.size + 1) = some (.cells (VA f) 26 (0, 0)) := by rw [look_below hB (by first | omega | (simp only [World.size_alloc]; omega) | exact look_lt (by assumption) | (simp only [World.size_alloc, World.size_setCell]; omega) | (simp; omega))]; first | assumption | go_simp
              replace cy : ∀ i, i < 12 → World.cell? wq ⟨w.heap.size + 1, i, none⟩ = some (.int .u32 (((f) i : Nat) : Int)) := fun i hi => by rw [look_cell ly, VA_get _ _ hi]
              replace fy := look_frozen ly
              replace sy := look_lt ly
              go_wp2
              go_roundw
              case measure => simp [intOf]; omega
              case rel => exact ⟨l + 1, by omega, by go_num, belT hB0 hB, lx, ly⟩
            · have hb1 : (((l : Int) + 1) != ((m : Int) + 1)) = true := by simp; omega
              have hb2 : (((l : Int) + 1) == ((m : Int) + 1)) = false := by simp; omega
              have hc : chainV f m j l = f l := by rw [chainV, upd_other _ _ _ _ hlm]
              have HL := Lib.hid hlm
              clear hlm
              rw [hc] at c0
              go_wp2_with fail
              refine wp_region_words mixed 13 ([] :: [71] :: [] :: [72, 73] :: [74] :: [75] :: [76, 75] :: [77, 75] :: [75] :: [79, 75] :: [80, 75] :: [78, 81, 75] :: [75, 82] :: []) (isV (.int .i64 (l : Int)) :: isV (.int .i64 ((l : Int) + 1)) :: isV (.int .i64 ((m : Int) + 1)) :: isV (.bool true) :: isV (.bool true) :: isV (.int .i64 (l : Int)) :: isV (.pointer (some ⟨w.heap.size, l, none⟩)) :: isV (.int .u32 (f l : Int)) :: isV (.int .i64 (l : Int)) :: isV (.pointer (some ⟨w.heap.size + 1, l, none⟩)) :: isV (.int .u32 (f l : Int)) :: isV (.bool false) :: isV (.bool false) :: []) (by decide) (by kernel_rfl)
                ⟨stab_isV _, stab_isV _, stab_isV _, stab_isV _, stab_isV _, stab_isV _, stab_isV _, stab_isV _, stab_isV _, stab_isV _, stab_isV _, stab_isV _, stab_isV _, trivial⟩ ⟨?_, ?_, ?_, ?_, ?_, ?_, ?_, ?_, ?_, ?_, ?_, ?_, ?_, trivial⟩ ?_
              · intro vs wq hB hm
                clear hm
                simp only [fill]
                go_wp2
                exact ⟨_, rfl, rfl, Below.refl _ _⟩
              · intro vs wq hB hm
                have h71 : vs 71 = .int .i64 (l : Int) := meets_get hm 0 rfl rfl rfl rfl
                clear hm
                simp only [fill, h71]
                go_wp2
                exact ⟨_, rfl, rfl, Below.refl _ _⟩
              · intro vs wq hB hm
                clear hm
                simp only [fill]
                go_wp2
                exact ⟨_, rfl, rfl, Below.refl _ _⟩
              · intro vs wq hB hm
                have h72 : vs 72 = .int .i64 ((l : Int) + 1) := meets_get hm 1 rfl rfl rfl rfl
                have h73 : vs 73 = .int .i64 ((m : Int) + 1) := meets_get hm 2 rfl rfl rfl rfl
                clear hm
                simp only [fill, h72, h73]
                go_wp2
                exact ⟨_, rfl, rfl, Below.refl _ _⟩
              · intro vs wq hB hm
                have h74 : vs 74 = .bool true := meets_get hm 3 rfl rfl rfl rfl
                clear hm
                simp only [fill, h74]
                go_wp2
                exact ⟨_, rfl, rfl, Below.refl _ _⟩
              · intro vs wq hB hm
                have h75 : vs 75 = .bool true := meets_get hm 4 rfl rfl rfl rfl
                clear hm
                simp only [fill, h75]
                go_wp2
                exact ⟨_, rfl, rfl, Below.refl _ _⟩
              · intro vs wq hB hm
                have h76 : vs 76 = .int .i64 (l : Int) := meets_get hm 5 rfl rfl rfl rfl
                have h75 : vs 75 = .bool true := meets_get hm 4 rfl rfl rfl rfl
                clear hm
                simp only [fill, h76, h75]
                go_wp2
                exact ⟨_, rfl, rfl, Below.refl _ _⟩
              · intro vs wq hB hm
                have hl : look wq (w.heap.size) = some (.cells (VA (chainV f m j)) 26 (0, 0)) := by rw [look_below hB (by first | omega | (simp only [World.size_alloc]; omega) | exact look_lt (by assumption) | (simp only [World.size_alloc, World.size_setCell]; omega) | (simp; omega))]; first | assumption | go_simp
                have hc : World.cell? wq ⟨w.heap.size, l, none⟩ = some (.int .u32 (f l : Int)) := by rw [look_cell hl]; rw [VA_get _ _ hll, hc]
                have h77 : vs 77 = .pointer (some ⟨w.heap.size, l, none⟩) := meets_get hm 6 rfl rfl rfl rfl
                have h75 : vs 75 = .bool true := meets_get hm 4 rfl rfl rfl rfl
                clear hm
                simp only [fill, h77, h75]
                go_wp2
                exact ⟨_, rfl, rfl, Below.refl _ _⟩
              · intro vs wq hB hm
                have h75 : vs 75 = .bool true := meets_get hm 4 rfl rfl rfl rfl
                clear hm
                simp only [fill, h75]
                go_wp2
                exact ⟨_, rfl, rfl, Below.refl _ _⟩
              · intro vs wq hB hm
                have h79 : vs 79 = .int .i64 (l : Int) := meets_get hm 8 rfl rfl rfl rfl
                have h75 : vs 75 = .bool true := meets_get hm 4 rfl rfl rfl rfl
                clear hm
                simp only [fill, h79, h75]
                go_wp2
                exact ⟨_, rfl, rfl, Below.refl _ _⟩
              · intro vs wq hB hm
                have hl : look wq (w.heap.size + 1) = some (.cells (VA f) 26 (0, 0)) := by rw [look_below hB (by first | omega | (simp only [World.size_alloc]; omega) | exact look_lt (by assumption) | (simp only [World.size_alloc, World.size_setCell]; omega) | (simp; omega))]; first | assumption | go_simp
                have hc : World.cell? wq ⟨w.heap.size + 1, l, none⟩ = some (.int .u32 (f l : Int)) := by rw [look_cell hl]; first | rfl | exact VA_get _ _ (by omega)
                have h80 : vs 80 = .pointer (some ⟨w.heap.size + 1, l, none⟩) := meets_get hm 9 rfl rfl rfl rfl
                have h75 : vs 75 = .bool true := meets_get hm 4 rfl rfl rfl rfl
                clear hm
                simp only [fill, h80, h75]
                go_wp2
                exact ⟨_, rfl, rfl, Below.refl _ _⟩
              · intro vs wq hB hm
                have h78 : vs 78 = .int .u32 (f l : Int) := meets_get hm 7 rfl rfl rfl rfl
                have h81 : vs 81 = .int .u32 (f l : Int) := meets_get hm 10 rfl rfl rfl rfl
                have h75 : vs 75 = .bool true := meets_get hm 4 rfl rfl rfl rfl
                clear hm
                simp only [fill, h78, h81, h75]
                go_wp2
                exact ⟨_, rfl, rfl, Below.refl _ _⟩
              · intro vs wq hB hm
                have h75 : vs 75 = .bool true := meets_get hm 4 rfl rfl rfl rfl
                have h82 : vs 82 = .bool false := meets_get hm 11 rfl rfl rfl rfl
                clear hm
                simp only [fill, h75, h82]
                go_wp2
                exact ⟨_, rfl, rfl, Below.refl _ _⟩
              intro vs wq hB hm
              have h71 : vs 71 = .int .i64 (l : Int) := hm 0 _ _ _ rfl rfl rfl
              have h72 : vs 72 = .int .i64 ((l : Int) + 1) := hm 1 _ _ _ rfl rfl rfl
              have h73 : vs 73 = .int .i64 ((m : Int) + 1) := hm 2 _ _ _ rfl rfl rfl
              have h74 : vs 74 = .bool true := hm 3 _ _ _ rfl rfl rfl
              have h75 : vs 75 = .bool true := hm 4 _ _ _ rfl rfl rfl
              have h76 : vs 76 = .int .i64 (l : Int) := hm 5 _ _ _ rfl rfl rfl
              have h77 : vs 77 = .pointer (some ⟨w.heap.size, l, none⟩) := hm 6 _ _ _ rfl rfl rfl
              have h78 : vs 78 = .int .u32 (f l : Int) := hm 7 _ _ _ rfl rfl rfl
              have h79 : vs 79 = .int .i64 (l : Int) := hm 8 _ _ _ rfl rfl rfl
              have h80 : vs 80 = .pointer (some ⟨w.heap.size + 1, l, none⟩) := hm 9 _ _ _ rfl rfl rfl
              have h81 : vs 81 = .int .u32 (f l : Int) := hm 10 _ _ _ rfl rfl rfl
              have h82 : vs 82 = .bool false := hm 11 _ _ _ rfl rfl rfl
              have h83 : vs 83 = .bool false := hm 12 _ _ _ rfl rfl rfl
              simp only [fill, List.filterMap, List.take, List.drop, List.setIfInBounds_toArray, List.set_cons_zero, List.set_cons_succ, h71, h72, h73, h74, h75, h76, h77, h78, h79, h80, h81, h82, h83]
              clear hm h71 h72 h73 h74 h75 h76 h77 h78 h79 h80 h81 h82 h83
              replace lx : look wq (w.heap.size) = some (.cells (VA (chainV f m j)) 26 (0, 0)) := by rw [look_below hB (by first | omega | (simp only [World.size_alloc]; omega) | exact look_lt (by assumption) | (simp only [World.size_alloc, World.size_setCell]; omega) | (simp; omega))]; first | assumption | go_simp
              replace cx : ∀ i, i < 12 → World.cell? wq ⟨w.heap.size, i, none⟩ = some (.int .u32 ((((chainV f m j)) i : Nat) : Int)) := fun i hi => by rw [look_cell lx, VA_get _ _ hi]
              replace fx := look_frozen lx
              replace sx := look_lt lx
              replace ly : look wq (w.heap.size + 1) = some (.cells (VA f) 26 (0, 0)) := by rw [look_below hB (by first | omega | (simp only [World.size_alloc]; omega) | exact look_lt (by assumption) | (simp only [World.size_alloc, World.size_setCell]; omega) | (simp; omega))]; first | assumption | go_simp
              replace cy : ∀ i, i < 12 → World.cell? wq ⟨w.heap.size + 1, i, none⟩ = some (.int .u32 (((f) i : Nat) : Int)) := fun i hi => by rw [look_cell ly, VA_get _ _ hi]
              replace fy := look_frozen ly
              replace sy := look_lt ly
              go_wp2
              go_roundw
              case measure => simp [intOf]; omega
              case rel => exact ⟨l + 1, by omega, by go_num, belT hB0 hB, lx, ly⟩
          · go_wp2_with fail
            refine wp_region_words mixed 18 ([] :: [84] :: [85] :: [85] :: [86, 87, 85] :: [85] :: [85] :: [89, 90, 85] :: [85] :: [92, 85] :: [91, 93, 85] :: [88, 94, 85] :: [85, 95] :: [96] :: [97] :: [97] :: [98, 99, 97] :: [97, 100] :: []) (isV (.bool true) :: isV (.bool true) :: isV (.agg (VA (chainV f m j))) :: isV (.int .i64 ((m : Int) + 1)) :: isV (.int .u32 ((f m + j : Nat) : Int)) :: isV (.agg (VA f)) :: isV (.int .i64 ((m : Int) + 1)) :: isV (.int .u32 (f m : Int)) :: isV (.int .u8 (j : Int)) :: isV (.int .u32 (j : Int)) :: isV (.int .u32 ((f m + j : Nat) : Int)) :: isV (.bool true) :: isV (.bool true) :: isV (.bool true) :: isV (.agg (VA (chainV f m j))) :: isV (.agg (VA f)) :: isV (.bool true) :: isV (.bool true) :: []) (by decide) (by kernel_rfl)
              ⟨stab_isV _, stab_isV _, stab_isV _, stab_isV _, stab_isV _, stab_isV _, stab_isV _, stab_isV _, stab_isV _, stab_isV _, stab_isV _, stab_isV _, stab_isV _, stab_isV _, stab_isV _, stab_isV _, stab_isV _, stab_isV _, trivial⟩ ⟨?_, ?_, ?_, ?_, ?_, ?_, ?_, ?_, ?_, ?_, ?_, ?_, ?_, ?_, ?_, ?_, ?_, ?_, trivial⟩ ?_
            · intro vs wq hB hm
              clear hm
              simp only [fill]
              go_wp2_with fail
              refine (alive04 _).mono ?_
              rintro e w1 ⟨rfl, hb1⟩
              go_wp2
              exact ⟨_, rfl, rfl, hb1⟩
            · intro vs wq hB hm
              have h84 : vs 84 = .bool true := meets_get hm 0 rfl rfl rfl rfl
              clear hm
              simp only [fill, h84]
              go_wp2
              exact ⟨_, rfl, rfl, Below.refl _ _⟩
            · intro vs wq hB hm
              have hl : look wq (w.heap.size) = some (.cells (VA (chainV f m j)) 26 (0, 0)) := by rw [look_below hB (by first | omega | (simp only [World.size_alloc]; omega) | exact look_lt (by assumption) | (simp only [World.size_alloc, World.size_setCell]; omega) | (simp; omega))]; first | assumption | go_simp
              have h85 : vs 85 = .bool true := meets_get hm 1 rfl rfl rfl rfl
              clear hm
              simp only [fill, h85]
              go_wp2
              exact ⟨_, rfl, rfl, Below.refl _ _⟩
            · intro vs wq hB hm
              have h85 : vs 85 = .bool true := meets_get hm 1 rfl rfl rfl rfl
              clear hm
              simp only [fill, h85]
              go_wp2
              exact ⟨_, rfl, rfl, Below.refl _ _⟩
            · intro vs wq hB hm
              have h86 : vs 86 = .agg (VA (chainV f m j)) := meets_get hm 2 rfl rfl rfl rfl
              have h87 : vs 87 = .int .i64 ((m : Int) + 1) := meets_get hm 3 rfl rfl rfl rfl
              have h85 : vs 85 = .bool true := meets_get hm 1 rfl rfl rfl rfl
              clear hm
              simp only [fill, h86, h87, h85]
              go_wp2_with fail
              refine ((HG.out ▸ get_any (chainV f m j) ((m : Int) + 1) _)).mono ?_
              rintro e w1 ⟨rfl, hb1⟩
              go_wp2
              exact ⟨_, rfl, rfl, hb1⟩
            · intro vs wq hB hm
              have hl : look wq (w.heap.size + 1) = some (.cells (VA f) 26 (0, 0)) := by rw [look_below hB (by first | omega | (simp only [World.size_alloc]; omega) | exact look_lt (by assumption) | (simp only [World.size_alloc, World.size_setCell]; omega) | (simp; omega))]; first | assumption | go_simp
              have h85 : vs 85 = .bool true := meets_get hm 1 rfl rfl rfl rfl
              clear hm
              simp only [fill, h85]
              go_wp2
              exact ⟨_, rfl, rfl, Below.refl _ _⟩
            · intro vs wq hB hm
              have h85 : vs 85 = .bool true := meets_get hm 1 rfl rfl rfl rfl
              clear hm
              simp only [fill, h85]
              go_wp2
              exact ⟨_, rfl, rfl, Below.refl _ _⟩
            · intro vs wq hB hm
              have h89 : vs 89 = .agg (VA f) := meets_get hm 5 rfl rfl rfl rfl
              have h90 : vs 90 = .int .i64 ((m : Int) + 1) := meets_get hm 6 rfl rfl rfl rfl
              have h85 : vs 85 = .bool true := meets_get hm 1 rfl rfl rfl rfl
              clear hm
              simp only [fill, h89, h90, h85]
              go_wp2_with fail
              refine ((hgf ▸ get_any f ((m : Int) + 1) _)).mono ?_
              rintro e w1 ⟨rfl, hb1⟩
              go_wp2
              exact ⟨_, rfl, rfl, hb1⟩
            · intro vs wq hB hm
              have h85 : vs 85 = .bool true := meets_get hm 1 rfl rfl rfl rfl
              clear hm
              simp only [fill, h85]
              go_wp2
              exact ⟨_, rfl, rfl, Below.refl _ _⟩
            · intro vs wq hB hm
              have h92 : vs 92 = .int .u8 (j : Int) := meets_get hm 8 rfl rfl rfl rfl
              have h85 : vs 85 = .bool true := meets_get hm 1 rfl rfl rfl rfl
              clear hm
              simp only [fill, h92, h85]
              go_wp2
              exact ⟨_, rfl, rfl, Below.refl _ _⟩
            · intro vs wq hB hm
              have h91 : vs 91 = .int .u32 (f m : Int) := meets_get hm 7 rfl rfl rfl rfl
              have h93 : vs 93 = .int .u32 (j : Int) := meets_get hm 9 rfl rfl rfl rfl
              have h85 : vs 85 = .bool true := meets_get hm 1 rfl rfl rfl rfl
              clear hm
              simp only [fill, h91, h93, h85]
              go_wp2
              exact ⟨_, rfl, rfl, Below.refl _ _⟩
            · intro vs wq hB hm
              have h88 : vs 88 = .int .u32 ((f m + j : Nat) : Int) := meets_get hm 4 rfl rfl rfl rfl
              have h94 : vs 94 = .int .u32 ((f m + j : Nat) : Int) := meets_get hm 10 rfl rfl rfl rfl
              have h85 : vs 85 = .bool true := meets_get hm 1 rfl rfl rfl rfl
              clear hm
              simp only [fill, h88, h94, h85]
              go_wp2
              exact ⟨_, rfl, rfl, Below.refl _ _⟩
            · intro vs wq hB hm
              have h85 : vs 85 = .bool true := meets_get hm 1 rfl rfl rfl rfl
              have h95 : vs 95 = .bool true := meets_get hm 11 rfl rfl rfl rfl
              clear hm
              simp only [fill, h85, h95]
              go_wp2
              exact ⟨_, rfl, rfl, Below.refl _ _⟩
            · intro vs wq hB hm
              have h96 : vs 96 = .bool true := meets_get hm 12 rfl rfl rfl rfl
              clear hm
              simp only [fill, h96]
              go_wp2
              exact ⟨_, rfl, rfl, Below.refl _ _⟩
            · intro vs wq hB hm
              have hl : look wq (w.heap.size) = some (.cells (VA (chainV f m j)) 26 (0, 0)) := by rw [look_below hB (by first | omega | (simp only [World.size_alloc]; omega) | exact look_lt (by assumption) | (simp only [World.size_alloc, World.size_setCell]; omega) | (simp; omega))]; first | assumption | go_simp
              have h97 : vs 97 = .bool true := meets_get hm 13 rfl rfl rfl rfl
              clear hm
              simp only [fill, h97]
              go_wp2
              exact ⟨_, rfl, rfl, Below.refl _ _⟩
            · intro vs wq hB hm
              have hl : look wq (w.heap.size + 1) = some (.cells (VA f) 26 (0, 0)) := by rw [look_below hB (by first | omega | (simp only [World.size_alloc]; omega) | exact look_lt (by assumption) | (simp only [World.size_alloc, World.size_setCell]; omega) | (simp; omega))]; first | assumption | go_simp
              have h97 : vs 97 = .bool true := meets_get hm 13 rfl rfl rfl rfl
              clear hm
              simp only [fill, h97]
              go_wp2
              exact ⟨_, rfl, rfl, Below.refl _ _⟩
            · intro vs wq hB hm
              have h98 : vs 98 = .agg (VA (chainV f m j)) := meets_get hm 14 rfl rfl rfl rfl
              have h99 : vs 99 = .agg (VA f) := meets_get hm 15 rfl rfl rfl rfl
              have h97 : vs 97 = .bool true := meets_get hm 13 rfl rfl rfl rfl
              clear hm
              simp only [fill, h98, h99, h97]
              go_wp2_with fail
              refine ((hcov ▸ covers_any (chainV f m j) f _)).mono ?_
              rintro e w1 ⟨rfl, hb1⟩
              go_wp2
              exact ⟨_, rfl, rfl, hb1⟩
            · intro vs wq hB hm
              have h97 : vs 97 = .bool true := meets_get hm 13 rfl rfl rfl rfl
              have h100 : vs 100 = .bool true := meets_get hm 16 rfl rfl rfl rfl
              clear hm
              simp only [fill, h97, h100]
              go_wp2
              exact ⟨_, rfl, rfl, Below.refl _ _⟩
            intro vs wq hB hm
            have h84 : vs 84 = .bool true := hm 0 _ _ _ rfl rfl rfl
            have h85 : vs 85 = .bool true := hm 1 _ _ _ rfl rfl rfl
            have h86 : vs 86 = .agg (VA (chainV f m j)) := hm 2 _ _ _ rfl rfl rfl
            have h87 : vs 87 = .int .i64 ((m : Int) + 1) := hm 3 _ _ _ rfl rfl rfl
            have h88 : vs 88 = .int .u32 ((f m + j : Nat) : Int) := hm 4 _ _ _ rfl rfl rfl
            have h89 : vs 89 = .agg (VA f) := hm 5 _ _ _ rfl rfl rfl
            have h90 : vs 90 = .int .i64 ((m : Int) + 1) := hm 6 _ _ _ rfl rfl rfl
            have h91 : vs 91 = .int .u32 (f m : Int) := hm 7 _ _ _ rfl rfl rfl
            have h92 : vs 92 = .int .u8 (j : Int) := hm 8 _ _ _ rfl rfl rfl
            have h93 : vs 93 = .int .u32 (j : Int) := hm 9 _ _ _ rfl rfl rfl
            have h94 : vs 94 = .int .u32 ((f m + j : Nat) : Int) := hm 10 _ _ _ rfl rfl rfl
            have h95 : vs 95 = .bool true := hm 11 _ _ _ rfl rfl rfl
            have h96 : vs 96 = .bool true := hm 12 _ _ _ rfl rfl rfl
            have h97 : vs 97 = .bool true := hm 13 _ _ _ rfl rfl rfl
            have h98 : vs 98 = .agg (VA (chainV f m j)) := hm 14 _ _ _ rfl rfl rfl
            have h99 : vs 99 = .agg (VA f) := hm 15 _ _ _ rfl rfl rfl
            have h100 : vs 100 = .bool true := hm 16 _ _ _ rfl rfl rfl
            have h101 : vs 101 = .bool true := hm 17 _ _ _ rfl rfl rfl
            simp only [fill, List.filterMap, List.take, List.drop, List.setIfInBounds_toArray, List.set_cons_zero, List.set_cons_succ, h84, h85, h86, h87, h88, h89, h90, h91, h92, h93, h94, h95, h96, h97, h98, h99, h100, h101]
            clear hm h84 h85 h86 h87 h88 h89 h90 h91 h92 h93 h94 h95 h96 h97 h98 h99 h100 h101
            go_wp2
            go_ret
            exact ⟨rfl, belT hB0 hB⟩
end Go.Proofs.Ytknhlkapeoodhaa
