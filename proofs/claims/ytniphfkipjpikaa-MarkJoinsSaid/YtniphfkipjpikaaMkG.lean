/- MarkJoins: the walk of the law. -/
import Derived.Test.YtniphfkipjpikaaMkF
import Derived.Test.YtniphfkipjpikaaMkD
import Derived.Deep.Cut
import Derived.Deep.CutRange
namespace Go.Proofs.Ytniphfkipjpikaa
open Go.RowKit Flt

@[go_sem ↓] theorem eql_rk (F : Int) (H : Bool) (p : Nat) (G : Int) (I : Bool) (q : Nat) (w : World) :
    (binOp .eql 25 (.agg #[.int .i64 F, .bool H, .int .u64 (p : Int)]) (.agg #[.int .i64 G, .bool I, .int .u64 (q : Int)])).run Try.prog w = .ok (.bool (sameM F H p G I q)) w := by
  have h : (Op.equalIn 10000 25 (.agg #[.int .i64 F, .bool H, .int .u64 (p : Int)]) (.agg #[.int .i64 G, .bool I, .int .u64 (q : Int)])).run Try.prog w = .ok (sameM F H p G I q) w := by
    unfold sameM
    by_cases h1 : F = G
    · by_cases h2 : H = I
      · by_cases h3 : p = q
        · go_simp
        · have h3' : ¬ (p : Int) = (q : Int) := by omega
          go_simp
      · go_simp
    · go_simp
  rw [run_eql_struct, h]
  rfl

theorem mark_many (ad : Option Addr) (m cap : Nat) (F : Int) (H : Bool) (p : Nat) (G : Int) (I : Bool) (q : Nat) (n f : Int) (w : World) (hn : 100 < m) (hm : m ≤ 9223372036854775807) :
    Calls Try.prog 3 #[.slice ad m cap, .agg #[.int .i64 F, .bool H, .int .u64 (p : Int)], .agg #[.int .i64 G, .bool I, .int .u64 (q : Int)], .int .i64 n, .int .u64 f] w fun e w' => e = .returned (.bool true) ∧ Below w.heap.size w w' := by
  go_enter Try.func3, Try.ntmps3
  go_wp2_with fail
  refine (alive07 _).mono ?_
  rintro _ w1 ⟨rfl, hA⟩
  go_wp2
  go_ret
  exact ⟨rfl, belT (belA (belA (bel0 _) _) _) hA⟩

set_option maxRecDepth 100000 in
set_option maxHeartbeats 6400000 in
theorem mark_joins (v : Value) (m : Nat) (L : Nat → Mk) (F : Int) (H : Bool) (p : Nat) (G : Int) (I : Bool) (q : Nat) (n : Int) (f : Nat) (w : World)
    (hm : m ≤ 100) (hS : SliceAt w v m 3 (rC L)) (hL : ∀ k, k < m → (L k).price < 18446744073709551616) (hp : p < 18446744073709551616) (hq : q < 18446744073709551616) (hf : f < 18446744073709551616) :
    Calls Try.prog 3 #[v, .agg #[.int .i64 F, .bool H, .int .u64 (p : Int)], .agg #[.int .i64 G, .bool I, .int .u64 (q : Int)], .int .i64 n, .int .u64 (f : Int)] w fun e w' => e = .returned (.bool true) ∧ Below w.heap.size w w' := by
  have hsl := hS
  obtain ⟨ad, cap, rfl, _, _, _⟩ := hS
  obtain ⟨A, hA⟩ : ∃ A, rightM F H p = A := ⟨_, rfl⟩
  obtain ⟨B, hB0⟩ : ∃ B, rightM G I q = B := ⟨_, rfl⟩
  obtain ⟨S, hSs⟩ : ∃ S, sameM (max F G) (H || I) (priceJ H p I q) F H p = S := ⟨_, rfl⟩
  have kA := fun w => calls_is (rright_any F H p w) (by rw [hA])
  have kB := fun w => calls_is (rright_any G I q w) (by rw [hB0])
  have kA2 := fun w => calls_is (mright_any F H p hp w) (by rw [hA])
  have kC := fun w => calls_is (covers_any F H p G I q hp hq w) (u := .bool (A && B && S)) (by rw [← hA, ← hB0, ← hSs]; rfl)
  have kJ : A = true → B = true → ∀ b w, look w b = some (.cells #[.int .i64 F, .bool H, .int .u64 (p : Int), .int .i64 G, .bool I, .int .u64 (q : Int)] 25 (0, 0)) → Calls Try.prog 16 #[.slice (some ⟨b, 0, none⟩) 2 2] w fun e w' => e = .returned (.agg #[.int .i64 (max F G), .bool (H || I), .int .u64 ((priceJ H p I q : Nat) : Int)]) ∧ Below w.heap.size w w' := by
    intro ha hb b w hl
    refine calls_is (rjoin_any _ 2 (pairM ⟨F, H, p⟩ ⟨G, I, q⟩) w (SliceAt.row (by decide) (rC_len _) hl rfl) ?_) ?_
    · intro k hk
      have : k = 0 ∨ k = 1 := by omega
      rcases this with rfl | rfl
      · exact hp
      · exact hq
    · rw [fold_two (a := ⟨F, H, p⟩) (b := ⟨G, I, q⟩) (by rw [← ha, ← hA]; rfl) (by rw [← hb, ← hB0]; rfl)]
      rfl
  have hSe : sameM (max F G) (H || I) (priceJ H p I q) F H p = S := hSs
  clear hA hB0 hSs
  go_enter Try.func3, Try.ntmps3
  go_upto_region 4 with fail
  go_cut [25] from 20 (fun s25 wc => s25 = .bool (decide (0 ≤ n ∧ n ≤ 3)) ∧ look wc w.heap.size = some (.cells #[.int .i64 F, .bool H, .int .u64 (p : Int)] 25 (0, 0)) ∧ look wc (w.heap.size + 1) = some (.cells #[.int .i64 G, .bool I, .int .u64 (q : Int)] 25 (0, 0)) ∧ look wc (w.heap.size + 2) = some (.cells #[.int .i64 0, .bool false, .int .u64 0] 25 (0, 0)) ∧ Below w.heap.size w wc)
  case first =>
    by_cases h1 : 0 ≤ n
    · by_cases h2 : n < 4
      · go_wp2_with fail
        go_meet
        case rel => exact ⟨by rw [decide_eq_true (by omega)], by go_simp, by go_simp, by go_simp, belA (belA (belA (bel0 _) _) _) _⟩
      · go_wp2_with fail
        go_meet
        case rel => exact ⟨by rw [decide_eq_false (by omega)], by go_simp, by go_simp, by go_simp, belA (belA (belA (bel0 _) _) _) _⟩
    · go_wp2_with fail
      go_meet
      case rel => exact ⟨by rw [decide_eq_false (by omega)], by go_simp, by go_simp, by go_simp, belA (belA (belA (bel0 _) _) _) _⟩
  case rest =>
    obtain ⟨rfl, la, lb, lw, hb0⟩ := hcut
    have sw := look_lt lw
    go_upto_if 25 with fail
    go_cut [] from 20 (fun wd => look wd w.heap.size = some (.cells #[.int .i64 F, .bool H, .int .u64 (p : Int)] 25 (0, 0)) ∧ look wd (w.heap.size + 1) = some (.cells #[.int .i64 G, .bool I, .int .u64 (q : Int)] 25 (0, 0)) ∧ look wd (w.heap.size + 2) = some (.cells #[.int .i64 (flagV n), .bool false, .int .u64 0] 25 (0, 0)) ∧ Below w.heap.size w wd)
    case first =>
      by_cases h1 : 0 ≤ n ∧ n ≤ 3
      · have hd : decide (0 ≤ n ∧ n ≤ 3) = true := decide_eq_true h1
        have hfl := hidP (show flagV n = n from if_pos h1)
        clear h1
        rw [hd]
        go_wp2_with fail
        go_meet
        case rel => exact ⟨by go_simp, by go_simp, by rw [hfl.out]; go_simp, belS hb0 (by simp <;> omega) _⟩
      · have hd : decide (0 ≤ n ∧ n ≤ 3) = false := decide_eq_false h1
        have hfl := hidP (show flagV n = 0 from if_neg h1)
        clear h1
        rw [hd]
        go_wp2_with fail
        go_meet
        case rel => exact ⟨la, lb, by rw [hfl.out]; exact lw, hb0⟩
    case rest =>
      clear la lb lw sw hb0
      obtain ⟨la, lb, lw, hb0⟩ := hcut
      have sa := look_lt la
      have sb := look_lt lb
      have sw := look_lt lw
      go_wp2_with fail
      refine wp_region_words mixed 6 ([] :: [28] :: [] :: [30] :: [] :: [] :: []) (isV (.agg (#[.int .i64 F, .bool H, .int .u64 (p : Int)])) :: isV (.agg #[.int .i64 F, .bool H, .float .f64 p]) :: isV (.agg (#[.int .i64 G, .bool I, .int .u64 (q : Int)])) :: isV (.agg #[.int .i64 G, .bool I, .float .f64 q]) :: isVar 29 (#[.int .i64 0, .bool false, .float .f64 0]) :: isVar 29 (#[.int .i64 0, .bool false, .float .f64 0]) :: []) (by decide) (by kernel_rfl)
        ⟨stab_isV _, stab_isV _, stab_isV _, stab_isV _, stab_isVar _ _, stab_isVar _ _, trivial⟩ ⟨?_, ?_, ?_, ?_, ?_, ?_, trivial⟩ ?_
      · intro vs wq hB hm
        have hl : look wq (w.heap.size) = some (.cells (#[.int .i64 F, .bool H, .int .u64 (p : Int)]) 25 (0, 0)) := by rw [look_below hB (by first | omega | (simp only [World.size_alloc]; omega) | exact look_lt (by assumption) | (simp only [World.size_alloc, World.size_setCell]; omega) | (simp; omega))]; first | assumption | go_simp
        have hc0 : World.cell? wq ⟨w.heap.size, 0, none⟩ = some (.int .i64 F) := by rw [look_cell hl]; rfl
        have hc1 : World.cell? wq ⟨w.heap.size, 1, none⟩ = some (.bool H) := by rw [look_cell hl]; rfl
        have hc2 : World.cell? wq ⟨w.heap.size, 2, none⟩ = some (.int .u64 (p : Int)) := by rw [look_cell hl]; rfl
        clear hm
        simp only [fill]
        go_wp2
        exact ⟨_, rfl, rfl, Below.refl _ _, trivial⟩
      · intro vs wq hB hm
        have h28 : vs 28 = .agg (#[.int .i64 F, .bool H, .int .u64 (p : Int)]) := meets_get hm 0 rfl rfl rfl rfl
        clear hm
        simp only [fill, h28]
        go_wp2_with fail
        refine (of_any F H p _).mono ?_
        rintro e w1 ⟨rfl, hb1⟩
        go_wp2
        exact ⟨_, rfl, rfl, hb1, trivial⟩
      · intro vs wq hB hm
        have hl : look wq (w.heap.size + 1) = some (.cells (#[.int .i64 G, .bool I, .int .u64 (q : Int)]) 25 (0, 0)) := by rw [look_below hB (by first | omega | (simp only [World.size_alloc]; omega) | exact look_lt (by assumption) | (simp only [World.size_alloc, World.size_setCell]; omega) | (simp; omega))]; first | assumption | go_simp
        have hc0 : World.cell? wq ⟨w.heap.size + 1, 0, none⟩ = some (.int .i64 G) := by rw [look_cell hl]; rfl
        have hc1 : World.cell? wq ⟨w.heap.size + 1, 1, none⟩ = some (.bool I) := by rw [look_cell hl]; rfl
        have hc2 : World.cell? wq ⟨w.heap.size + 1, 2, none⟩ = some (.int .u64 (q : Int)) := by rw [look_cell hl]; rfl
        clear hm
        simp only [fill]
        go_wp2
        exact ⟨_, rfl, rfl, Below.refl _ _, trivial⟩
      · intro vs wq hB hm
        have h30 : vs 30 = .agg (#[.int .i64 G, .bool I, .int .u64 (q : Int)]) := meets_get hm 2 rfl rfl rfl rfl
        clear hm
        simp only [fill, h30]
        go_wp2_with fail
        refine (of_any G I q _).mono ?_
        rintro e w1 ⟨rfl, hb1⟩
        go_wp2
        exact ⟨_, rfl, rfl, hb1, trivial⟩
      · intro vs wq hB hm
        clear hm
        simp only [fill]
        go_wp2
        exact ⟨_, rfl, ⟨_, rfl, look_alloc_at _ _ _ rfl⟩, (Below.refl _ _).alloc (Nat.le_refl _) _, fun b hb => by cases hb; exact ⟨Nat.le_refl _, by simp⟩⟩
      · intro vs wq hB hm
        clear hm
        simp only [fill]
        go_wp2
        exact ⟨_, rfl, ⟨_, rfl, look_alloc_at _ _ _ rfl⟩, (Below.refl _ _).alloc (Nat.le_refl _) _, fun b hb => by cases hb; exact ⟨Nat.le_refl _, by simp⟩⟩
      intro vs wq hB hm hne hlo
      have h28 : vs 28 = .agg (#[.int .i64 F, .bool H, .int .u64 (p : Int)]) := hm 0 _ _ _ rfl rfl rfl
      have h29 : vs 29 = .agg #[.int .i64 F, .bool H, .float .f64 p] := hm 1 _ _ _ rfl rfl rfl
      have h30 : vs 30 = .agg (#[.int .i64 G, .bool I, .int .u64 (q : Int)]) := hm 2 _ _ _ rfl rfl rfl
      have h31 : vs 31 = .agg #[.int .i64 G, .bool I, .float .f64 q] := hm 3 _ _ _ rfl rfl rfl
      obtain ⟨b12, h12, l12⟩ := hm 4 _ _ _ rfl rfl rfl
      obtain ⟨b13, h13, l13⟩ := hm 5 _ _ _ rfl rfl rfl
      have lo12 : _ ≤ b12 ∧ b12 < wq.heap.size := hlo 4 _ _ rfl rfl rfl b12 (by rw [h12]; rfl)
      have lo13 : _ ≤ b13 ∧ b13 < wq.heap.size := hlo 5 _ _ rfl rfl rfl b13 (by rw [h13]; rfl)
      have ne12_13 : b12 ≠ b13 := fun h => hne 4 5 _ _ _ _ (by omega) rfl rfl rfl rfl rfl rfl b12 (by rw [h12]; rfl) (by rw [h13, h]; rfl)
      clear hne hlo
      simp only [fill, List.filterMap, List.take, List.drop, List.setIfInBounds_toArray, List.set_cons_zero, List.set_cons_succ, h28, h29, h30, h31, h12, h13]
      clear hm h28 h29 h30 h31 h12 h13
      go_upto_region 7 with fail
      obtain ⟨W, hW⟩ : ∃ x, (wq.setRow b12 #[.int .i64 F, .bool H, .float .f64 p]).setRow b13 #[.int .i64 G, .bool I, .float .f64 q] = x := ⟨_, rfl⟩
      replace la : look W w.heap.size = some (.cells #[.int .i64 F, .bool H, .int .u64 (p : Int)] 25 (0, 0)) := by rw [← hW, look_setRow, if_neg (by omega), look_setRow, if_neg (by omega), look_below hB sa]; exact la
      replace lb : look W (w.heap.size + 1) = some (.cells #[.int .i64 G, .bool I, .int .u64 (q : Int)] 25 (0, 0)) := by rw [← hW, look_setRow, if_neg (by omega), look_setRow, if_neg (by omega), look_below hB sb]; exact lb
      replace lw : look W (w.heap.size + 2) = some (.cells #[.int .i64 (flagV n), .bool false, .int .u64 0] 25 (0, 0)) := by rw [← hW, look_setRow, if_neg (by omega), look_setRow, if_neg (by omega), look_below hB sw]; exact lw
      replace l12 : look W b12 = some (.cells #[.int .i64 F, .bool H, .float .f64 p] 29 (0, 0)) := by rw [← hW, look_setRow, if_neg ne12_13, look_setRow, if_pos rfl, l12]; rfl
      replace l13 : look W b13 = some (.cells #[.int .i64 G, .bool I, .float .f64 q] 29 (0, 0)) := by rw [← hW, look_setRow, if_pos rfl, look_setRow, if_neg (fun e => ne12_13 e.symm), l13]; rfl
      have hb1 : Below w.heap.size w W := by rw [← hW]; exact belR (belR (belT hb0 hB) (by omega) _) (by omega) _
      rw [hW]
      clear hW hb0 hB
      have sa := look_lt la
      have sb := look_lt lb
      have sw := look_lt lw
      have s12 := look_lt l12
      have s13 := look_lt l13
      go_cut [14] from 15 (fun s14 we => s14 = .bool (A && B && S) ∧ look we w.heap.size = some (.cells #[.int .i64 F, .bool H, .int .u64 (p : Int)] 25 (0, 0)) ∧ look we (w.heap.size + 1) = some (.cells #[.int .i64 G, .bool I, .int .u64 (q : Int)] 25 (0, 0)) ∧ look we (w.heap.size + 2) = some (.cells #[.int .i64 (flagV n), .bool false, .int .u64 0] 25 (0, 0)) ∧ look we b12 = some (.cells #[.int .i64 F, .bool H, .float .f64 p] 29 (0, 0)) ∧ look we b13 = some (.cells #[.int .i64 G, .bool I, .float .f64 q] 29 (0, 0)) ∧ Below w.heap.size w we)
      case first =>
        cases A
        · skip
          refine wp_region_words mixed 14 ([] :: [32] :: [33] :: [34] :: [35, 34] :: [34, 36] :: [37] :: [38] :: [38] :: [39, 40, 38] :: [41, 38] :: [38] :: [42, 43, 38] :: [38, 44] :: []) (isV (.agg (#[.int .i64 F, .bool H, .int .u64 (p : Int)])) :: isV (.bool false) :: isV (.bool false) :: isV (undef) :: isV (undef) :: isV (.bool false) :: isV (.bool false) :: isV (undef) :: isV (undef) :: isV (undef) :: isV (undef) :: isV (undef) :: isV (undef) :: isV (.bool false) :: []) (by decide) (by kernel_rfl)
            ⟨stab_isV _, stab_isV _, stab_isV _, stab_isV _, stab_isV _, stab_isV _, stab_isV _, stab_isV _, stab_isV _, stab_isV _, stab_isV _, stab_isV _, stab_isV _, stab_isV _, trivial⟩ ⟨?_, ?_, ?_, ?_, ?_, ?_, ?_, ?_, ?_, ?_, ?_, ?_, ?_, ?_, trivial⟩ ?_
          · intro vs wq hB hm
            have hl : look wq (w.heap.size) = some (.cells (#[.int .i64 F, .bool H, .int .u64 (p : Int)]) 25 (0, 0)) := by rw [look_below hB (by first | omega | (simp only [World.size_alloc]; omega) | exact look_lt (by assumption) | (simp only [World.size_alloc, World.size_setCell]; omega) | (simp; omega))]; first | assumption | go_simp
            have hc0 : World.cell? wq ⟨w.heap.size, 0, none⟩ = some (.int .i64 F) := by rw [look_cell hl]; rfl
            have hc1 : World.cell? wq ⟨w.heap.size, 1, none⟩ = some (.bool H) := by rw [look_cell hl]; rfl
            have hc2 : World.cell? wq ⟨w.heap.size, 2, none⟩ = some (.int .u64 (p : Int)) := by rw [look_cell hl]; rfl
            clear hm
            simp only [fill]
            go_wp2
            exact ⟨_, rfl, rfl, Below.refl _ _, trivial⟩
          · intro vs wq hB hm
            have h32 : vs 32 = .agg (#[.int .i64 F, .bool H, .int .u64 (p : Int)]) := meets_get hm 0 rfl rfl rfl rfl
            clear hm
            simp only [fill, h32]
            go_wp2_with fail
            refine (kA _).mono ?_
            rintro e w1 ⟨rfl, hb1⟩
            go_wp2
            exact ⟨_, rfl, rfl, hb1, trivial⟩
          · intro vs wq hB hm
            have h33 : vs 33 = .bool false := meets_get hm 1 rfl rfl rfl rfl
            clear hm
            simp only [fill, h33]
            go_wp2
            exact ⟨_, rfl, rfl, Below.refl _ _, trivial⟩
          · intro vs wq hB hm
            have h34 : vs 34 = .bool false := meets_get hm 2 rfl rfl rfl rfl
            clear hm
            simp only [fill, h34]
            refine wpList_skip (by rfl) ?_
            exact ⟨_, rfl, rfl, Below.refl _ _, trivial⟩
          · intro vs wq hB hm
            have h35 : vs 35 = undef := meets_get hm 3 rfl rfl rfl rfl
            have h34 : vs 34 = .bool false := meets_get hm 2 rfl rfl rfl rfl
            clear hm
            simp only [fill, h35, h34]
            refine wpList_skip (by rfl) ?_
            exact ⟨_, rfl, rfl, Below.refl _ _, trivial⟩
          · intro vs wq hB hm
            have h34 : vs 34 = .bool false := meets_get hm 2 rfl rfl rfl rfl
            have h36 : vs 36 = undef := meets_get hm 4 rfl rfl rfl rfl
            clear hm
            simp only [fill, h34, h36]
            go_wp2
            exact ⟨_, rfl, rfl, Below.refl _ _, trivial⟩
          · intro vs wq hB hm
            have h37 : vs 37 = .bool false := meets_get hm 5 rfl rfl rfl rfl
            clear hm
            simp only [fill, h37]
            go_wp2
            exact ⟨_, rfl, rfl, Below.refl _ _, trivial⟩
          · intro vs wq hB hm
            have h38 : vs 38 = .bool false := meets_get hm 6 rfl rfl rfl rfl
            clear hm
            simp only [fill, h38]
            refine wpList_skip (by rfl) ?_
            exact ⟨_, rfl, rfl, Below.refl _ _, trivial⟩
          · intro vs wq hB hm
            have h38 : vs 38 = .bool false := meets_get hm 6 rfl rfl rfl rfl
            clear hm
            simp only [fill, h38]
            refine wpList_skip (by rfl) ?_
            exact ⟨_, rfl, rfl, Below.refl _ _, trivial⟩
          · intro vs wq hB hm
            have h39 : vs 39 = undef := meets_get hm 7 rfl rfl rfl rfl
            have h40 : vs 40 = undef := meets_get hm 8 rfl rfl rfl rfl
            have h38 : vs 38 = .bool false := meets_get hm 6 rfl rfl rfl rfl
            clear hm
            simp only [fill, h39, h40, h38]
            refine wpList_skip (by rfl) ?_
            exact ⟨_, rfl, rfl, Below.refl _ _, freshIf_none rfl⟩
          · intro vs wq hB hm
            have h41 : vs 41 = undef := meets_get hm 9 rfl rfl rfl rfl
            have h38 : vs 38 = .bool false := meets_get hm 6 rfl rfl rfl rfl
            clear hm
            simp only [fill, h41, h38]
            refine wpList_skip (by rfl) ?_
            exact ⟨_, rfl, rfl, Below.refl _ _, trivial⟩
          · intro vs wq hB hm
            have h38 : vs 38 = .bool false := meets_get hm 6 rfl rfl rfl rfl
            clear hm
            simp only [fill, h38]
            refine wpList_skip (by rfl) ?_
            exact ⟨_, rfl, rfl, Below.refl _ _, trivial⟩
          · intro vs wq hB hm
            have h42 : vs 42 = undef := meets_get hm 10 rfl rfl rfl rfl
            have h43 : vs 43 = undef := meets_get hm 11 rfl rfl rfl rfl
            have h38 : vs 38 = .bool false := meets_get hm 6 rfl rfl rfl rfl
            clear hm
            simp only [fill, h42, h43, h38]
            refine wpList_skip (by rfl) ?_
            exact ⟨_, rfl, rfl, Below.refl _ _, trivial⟩
          · intro vs wq hB hm
            have h38 : vs 38 = .bool false := meets_get hm 6 rfl rfl rfl rfl
            have h44 : vs 44 = undef := meets_get hm 12 rfl rfl rfl rfl
            clear hm
            simp only [fill, h38, h44]
            go_wp2
            exact ⟨_, rfl, rfl, Below.refl _ _, trivial⟩
          intro vs wq hB hm hne hlo
          have h32 : vs 32 = .agg (#[.int .i64 F, .bool H, .int .u64 (p : Int)]) := hm 0 _ _ _ rfl rfl rfl
          have h33 : vs 33 = .bool false := hm 1 _ _ _ rfl rfl rfl
          have h34 : vs 34 = .bool false := hm 2 _ _ _ rfl rfl rfl
          have h35 : vs 35 = undef := hm 3 _ _ _ rfl rfl rfl
          have h36 : vs 36 = undef := hm 4 _ _ _ rfl rfl rfl
          have h37 : vs 37 = .bool false := hm 5 _ _ _ rfl rfl rfl
          have h38 : vs 38 = .bool false := hm 6 _ _ _ rfl rfl rfl
          have h39 : vs 39 = undef := hm 7 _ _ _ rfl rfl rfl
          have h40 : vs 40 = undef := hm 8 _ _ _ rfl rfl rfl
          have h41 : vs 41 = undef := hm 9 _ _ _ rfl rfl rfl
          have h42 : vs 42 = undef := hm 10 _ _ _ rfl rfl rfl
          have h43 : vs 43 = undef := hm 11 _ _ _ rfl rfl rfl
          have h44 : vs 44 = undef := hm 12 _ _ _ rfl rfl rfl
          have h45 : vs 45 = .bool false := hm 13 _ _ _ rfl rfl rfl
          clear hne hlo
          simp only [fill, List.filterMap, List.take, List.drop, List.setIfInBounds_toArray, List.set_cons_zero, List.set_cons_succ, h32, h33, h34, h35, h36, h37, h38, h39, h40, h41, h42, h43, h44, h45]
          clear hm h32 h33 h34 h35 h36 h37 h38 h39 h40 h41 h42 h43 h44 h45
          go_wp2
          go_meet
          case rel => exact ⟨rfl, by rw [look_below hB (by omega)]; exact la, by rw [look_below hB (by omega)]; exact lb, by rw [look_below hB (by omega)]; exact lw, by rw [look_below hB (by omega)]; exact l12, by rw [look_below hB (by omega)]; exact l13, belT hb1 hB⟩
        · cases B
          · skip
            refine wp_region_words mixed 14 ([] :: [32] :: [33] :: [34] :: [35, 34] :: [34, 36] :: [37] :: [38] :: [38] :: [39, 40, 38] :: [41, 38] :: [38] :: [42, 43, 38] :: [38, 44] :: []) (isV (.agg (#[.int .i64 F, .bool H, .int .u64 (p : Int)])) :: isV (.bool true) :: isV (.bool true) :: isV (.agg (#[.int .i64 G, .bool I, .int .u64 (q : Int)])) :: isV (.bool false) :: isV (.bool false) :: isV (.bool false) :: isV (undef) :: isV (undef) :: isV (undef) :: isV (undef) :: isV (undef) :: isV (undef) :: isV (.bool false) :: []) (by decide) (by kernel_rfl)
              ⟨stab_isV _, stab_isV _, stab_isV _, stab_isV _, stab_isV _, stab_isV _, stab_isV _, stab_isV _, stab_isV _, stab_isV _, stab_isV _, stab_isV _, stab_isV _, stab_isV _, trivial⟩ ⟨?_, ?_, ?_, ?_, ?_, ?_, ?_, ?_, ?_, ?_, ?_, ?_, ?_, ?_, trivial⟩ ?_
            · intro vs wq hB hm
              have hl : look wq (w.heap.size) = some (.cells (#[.int .i64 F, .bool H, .int .u64 (p : Int)]) 25 (0, 0)) := by rw [look_below hB (by first | omega | (simp only [World.size_alloc]; omega) | exact look_lt (by assumption) | (simp only [World.size_alloc, World.size_setCell]; omega) | (simp; omega))]; first | assumption | go_simp
              have hc0 : World.cell? wq ⟨w.heap.size, 0, none⟩ = some (.int .i64 F) := by rw [look_cell hl]; rfl
              have hc1 : World.cell? wq ⟨w.heap.size, 1, none⟩ = some (.bool H) := by rw [look_cell hl]; rfl
              have hc2 : World.cell? wq ⟨w.heap.size, 2, none⟩ = some (.int .u64 (p : Int)) := by rw [look_cell hl]; rfl
              clear hm
              simp only [fill]
              go_wp2
              exact ⟨_, rfl, rfl, Below.refl _ _, trivial⟩
            · intro vs wq hB hm
              have h32 : vs 32 = .agg (#[.int .i64 F, .bool H, .int .u64 (p : Int)]) := meets_get hm 0 rfl rfl rfl rfl
              clear hm
              simp only [fill, h32]
              go_wp2_with fail
              refine (kA _).mono ?_
              rintro e w1 ⟨rfl, hb1⟩
              go_wp2
              exact ⟨_, rfl, rfl, hb1, trivial⟩
            · intro vs wq hB hm
              have h33 : vs 33 = .bool true := meets_get hm 1 rfl rfl rfl rfl
              clear hm
              simp only [fill, h33]
              go_wp2
              exact ⟨_, rfl, rfl, Below.refl _ _, trivial⟩
            · intro vs wq hB hm
              have hl : look wq (w.heap.size + 1) = some (.cells (#[.int .i64 G, .bool I, .int .u64 (q : Int)]) 25 (0, 0)) := by rw [look_below hB (by first | omega | (simp only [World.size_alloc]; omega) | exact look_lt (by assumption) | (simp only [World.size_alloc, World.size_setCell]; omega) | (simp; omega))]; first | assumption | go_simp
              have hc0 : World.cell? wq ⟨w.heap.size + 1, 0, none⟩ = some (.int .i64 G) := by rw [look_cell hl]; rfl
              have hc1 : World.cell? wq ⟨w.heap.size + 1, 1, none⟩ = some (.bool I) := by rw [look_cell hl]; rfl
              have hc2 : World.cell? wq ⟨w.heap.size + 1, 2, none⟩ = some (.int .u64 (q : Int)) := by rw [look_cell hl]; rfl
              have h34 : vs 34 = .bool true := meets_get hm 2 rfl rfl rfl rfl
              clear hm
              simp only [fill, h34]
              go_wp2
              exact ⟨_, rfl, rfl, Below.refl _ _, trivial⟩
            · intro vs wq hB hm
              have h35 : vs 35 = .agg (#[.int .i64 G, .bool I, .int .u64 (q : Int)]) := meets_get hm 3 rfl rfl rfl rfl
              have h34 : vs 34 = .bool true := meets_get hm 2 rfl rfl rfl rfl
              clear hm
              simp only [fill, h35, h34]
              go_wp2_with fail
              refine (kB _).mono ?_
              rintro e w1 ⟨rfl, hb1⟩
              go_wp2
              exact ⟨_, rfl, rfl, hb1, trivial⟩
            · intro vs wq hB hm
              have h34 : vs 34 = .bool true := meets_get hm 2 rfl rfl rfl rfl
              have h36 : vs 36 = .bool false := meets_get hm 4 rfl rfl rfl rfl
              clear hm
              simp only [fill, h34, h36]
              go_wp2
              exact ⟨_, rfl, rfl, Below.refl _ _, trivial⟩
            · intro vs wq hB hm
              have h37 : vs 37 = .bool false := meets_get hm 5 rfl rfl rfl rfl
              clear hm
              simp only [fill, h37]
              go_wp2
              exact ⟨_, rfl, rfl, Below.refl _ _, trivial⟩
            · intro vs wq hB hm
              have h38 : vs 38 = .bool false := meets_get hm 6 rfl rfl rfl rfl
              clear hm
              simp only [fill, h38]
              refine wpList_skip (by rfl) ?_
              exact ⟨_, rfl, rfl, Below.refl _ _, trivial⟩
            · intro vs wq hB hm
              have h38 : vs 38 = .bool false := meets_get hm 6 rfl rfl rfl rfl
              clear hm
              simp only [fill, h38]
              refine wpList_skip (by rfl) ?_
              exact ⟨_, rfl, rfl, Below.refl _ _, trivial⟩
            · intro vs wq hB hm
              have h39 : vs 39 = undef := meets_get hm 7 rfl rfl rfl rfl
              have h40 : vs 40 = undef := meets_get hm 8 rfl rfl rfl rfl
              have h38 : vs 38 = .bool false := meets_get hm 6 rfl rfl rfl rfl
              clear hm
              simp only [fill, h39, h40, h38]
              refine wpList_skip (by rfl) ?_
              exact ⟨_, rfl, rfl, Below.refl _ _, freshIf_none rfl⟩
            · intro vs wq hB hm
              have h41 : vs 41 = undef := meets_get hm 9 rfl rfl rfl rfl
              have h38 : vs 38 = .bool false := meets_get hm 6 rfl rfl rfl rfl
              clear hm
              simp only [fill, h41, h38]
              refine wpList_skip (by rfl) ?_
              exact ⟨_, rfl, rfl, Below.refl _ _, trivial⟩
            · intro vs wq hB hm
              have h38 : vs 38 = .bool false := meets_get hm 6 rfl rfl rfl rfl
              clear hm
              simp only [fill, h38]
              refine wpList_skip (by rfl) ?_
              exact ⟨_, rfl, rfl, Below.refl _ _, trivial⟩
            · intro vs wq hB hm
              have h42 : vs 42 = undef := meets_get hm 10 rfl rfl rfl rfl
              have h43 : vs 43 = undef := meets_get hm 11 rfl rfl rfl rfl
              have h38 : vs 38 = .bool false := meets_get hm 6 rfl rfl rfl rfl
              clear hm
              simp only [fill, h42, h43, h38]
              refine wpList_skip (by rfl) ?_
              exact ⟨_, rfl, rfl, Below.refl _ _, trivial⟩
            · intro vs wq hB hm
              have h38 : vs 38 = .bool false := meets_get hm 6 rfl rfl rfl rfl
              have h44 : vs 44 = undef := meets_get hm 12 rfl rfl rfl rfl
              clear hm
              simp only [fill, h38, h44]
              go_wp2
              exact ⟨_, rfl, rfl, Below.refl _ _, trivial⟩
            intro vs wq hB hm hne hlo
            have h32 : vs 32 = .agg (#[.int .i64 F, .bool H, .int .u64 (p : Int)]) := hm 0 _ _ _ rfl rfl rfl
            have h33 : vs 33 = .bool true := hm 1 _ _ _ rfl rfl rfl
            have h34 : vs 34 = .bool true := hm 2 _ _ _ rfl rfl rfl
            have h35 : vs 35 = .agg (#[.int .i64 G, .bool I, .int .u64 (q : Int)]) := hm 3 _ _ _ rfl rfl rfl
            have h36 : vs 36 = .bool false := hm 4 _ _ _ rfl rfl rfl
            have h37 : vs 37 = .bool false := hm 5 _ _ _ rfl rfl rfl
            have h38 : vs 38 = .bool false := hm 6 _ _ _ rfl rfl rfl
            have h39 : vs 39 = undef := hm 7 _ _ _ rfl rfl rfl
            have h40 : vs 40 = undef := hm 8 _ _ _ rfl rfl rfl
            have h41 : vs 41 = undef := hm 9 _ _ _ rfl rfl rfl
            have h42 : vs 42 = undef := hm 10 _ _ _ rfl rfl rfl
            have h43 : vs 43 = undef := hm 11 _ _ _ rfl rfl rfl
            have h44 : vs 44 = undef := hm 12 _ _ _ rfl rfl rfl
            have h45 : vs 45 = .bool false := hm 13 _ _ _ rfl rfl rfl
            clear hne hlo
            simp only [fill, List.filterMap, List.take, List.drop, List.setIfInBounds_toArray, List.set_cons_zero, List.set_cons_succ, h32, h33, h34, h35, h36, h37, h38, h39, h40, h41, h42, h43, h44, h45]
            clear hm h32 h33 h34 h35 h36 h37 h38 h39 h40 h41 h42 h43 h44 h45
            go_wp2
            go_meet
            case rel => exact ⟨rfl, by rw [look_below hB (by omega)]; exact la, by rw [look_below hB (by omega)]; exact lb, by rw [look_below hB (by omega)]; exact lw, by rw [look_below hB (by omega)]; exact l12, by rw [look_below hB (by omega)]; exact l13, belT hb1 hB⟩
          · skip
            refine wp_region_words mixed 14 ([] :: [32] :: [33] :: [34] :: [35, 34] :: [34, 36] :: [37] :: [38] :: [38] :: [39, 40, 38] :: [41, 38] :: [38] :: [42, 43, 38] :: [38, 44] :: []) (isV (.agg (#[.int .i64 F, .bool H, .int .u64 (p : Int)])) :: isV (.bool true) :: isV (.bool true) :: isV (.agg (#[.int .i64 G, .bool I, .int .u64 (q : Int)])) :: isV (.bool true) :: isV (.bool true) :: isV (.bool true) :: isV (.agg (#[.int .i64 F, .bool H, .int .u64 (p : Int)])) :: isV (.agg (#[.int .i64 G, .bool I, .int .u64 (q : Int)])) :: isRow 25 2 (#[.int .i64 F, .bool H, .int .u64 (p : Int), .int .i64 G, .bool I, .int .u64 (q : Int)]) :: isV (.agg #[.int .i64 (max F G), .bool (H || I), .int .u64 ((priceJ H p I q : Nat) : Int)]) :: isV (.agg (#[.int .i64 F, .bool H, .int .u64 (p : Int)])) :: isV (.bool S) :: isV (.bool S) :: []) (by decide) (by kernel_rfl)
              ⟨stab_isV _, stab_isV _, stab_isV _, stab_isV _, stab_isV _, stab_isV _, stab_isV _, stab_isV _, stab_isV _, stab_isRow _ _ _, stab_isV _, stab_isV _, stab_isV _, stab_isV _, trivial⟩ ⟨?_, ?_, ?_, ?_, ?_, ?_, ?_, ?_, ?_, ?_, ?_, ?_, ?_, ?_, trivial⟩ ?_
            · intro vs wq hB hm
              have hl : look wq (w.heap.size) = some (.cells (#[.int .i64 F, .bool H, .int .u64 (p : Int)]) 25 (0, 0)) := by rw [look_below hB (by first | omega | (simp only [World.size_alloc]; omega) | exact look_lt (by assumption) | (simp only [World.size_alloc, World.size_setCell]; omega) | (simp; omega))]; first | assumption | go_simp
              have hc0 : World.cell? wq ⟨w.heap.size, 0, none⟩ = some (.int .i64 F) := by rw [look_cell hl]; rfl
              have hc1 : World.cell? wq ⟨w.heap.size, 1, none⟩ = some (.bool H) := by rw [look_cell hl]; rfl
              have hc2 : World.cell? wq ⟨w.heap.size, 2, none⟩ = some (.int .u64 (p : Int)) := by rw [look_cell hl]; rfl
              clear hm
              simp only [fill]
              go_wp2
              exact ⟨_, rfl, rfl, Below.refl _ _, trivial⟩
            · intro vs wq hB hm
              have h32 : vs 32 = .agg (#[.int .i64 F, .bool H, .int .u64 (p : Int)]) := meets_get hm 0 rfl rfl rfl rfl
              clear hm
              simp only [fill, h32]
              go_wp2_with fail
              refine (kA _).mono ?_
              rintro e w1 ⟨rfl, hb1⟩
              go_wp2
              exact ⟨_, rfl, rfl, hb1, trivial⟩
            · intro vs wq hB hm
              have h33 : vs 33 = .bool true := meets_get hm 1 rfl rfl rfl rfl
              clear hm
              simp only [fill, h33]
              go_wp2
              exact ⟨_, rfl, rfl, Below.refl _ _, trivial⟩
            · intro vs wq hB hm
              have hl : look wq (w.heap.size + 1) = some (.cells (#[.int .i64 G, .bool I, .int .u64 (q : Int)]) 25 (0, 0)) := by rw [look_below hB (by first | omega | (simp only [World.size_alloc]; omega) | exact look_lt (by assumption) | (simp only [World.size_alloc, World.size_setCell]; omega) | (simp; omega))]; first | assumption | go_simp
              have hc0 : World.cell? wq ⟨w.heap.size + 1, 0, none⟩ = some (.int .i64 G) := by rw [look_cell hl]; rfl
              have hc1 : World.cell? wq ⟨w.heap.size + 1, 1, none⟩ = some (.bool I) := by rw [look_cell hl]; rfl
              have hc2 : World.cell? wq ⟨w.heap.size + 1, 2, none⟩ = some (.int .u64 (q : Int)) := by rw [look_cell hl]; rfl
              have h34 : vs 34 = .bool true := meets_get hm 2 rfl rfl rfl rfl
              clear hm
              simp only [fill, h34]
              go_wp2
              exact ⟨_, rfl, rfl, Below.refl _ _, trivial⟩
            · intro vs wq hB hm
              have h35 : vs 35 = .agg (#[.int .i64 G, .bool I, .int .u64 (q : Int)]) := meets_get hm 3 rfl rfl rfl rfl
              have h34 : vs 34 = .bool true := meets_get hm 2 rfl rfl rfl rfl
              clear hm
              simp only [fill, h35, h34]
              go_wp2_with fail
              refine (kB _).mono ?_
              rintro e w1 ⟨rfl, hb1⟩
              go_wp2
              exact ⟨_, rfl, rfl, hb1, trivial⟩
            · intro vs wq hB hm
              have h34 : vs 34 = .bool true := meets_get hm 2 rfl rfl rfl rfl
              have h36 : vs 36 = .bool true := meets_get hm 4 rfl rfl rfl rfl
              clear hm
              simp only [fill, h34, h36]
              go_wp2
              exact ⟨_, rfl, rfl, Below.refl _ _, trivial⟩
            · intro vs wq hB hm
              have h37 : vs 37 = .bool true := meets_get hm 5 rfl rfl rfl rfl
              clear hm
              simp only [fill, h37]
              go_wp2
              exact ⟨_, rfl, rfl, Below.refl _ _, trivial⟩
            · intro vs wq hB hm
              have hl : look wq (w.heap.size) = some (.cells (#[.int .i64 F, .bool H, .int .u64 (p : Int)]) 25 (0, 0)) := by rw [look_below hB (by first | omega | (simp only [World.size_alloc]; omega) | exact look_lt (by assumption) | (simp only [World.size_alloc, World.size_setCell]; omega) | (simp; omega))]; first | assumption | go_simp
              have hc0 : World.cell? wq ⟨w.heap.size, 0, none⟩ = some (.int .i64 F) := by rw [look_cell hl]; rfl
              have hc1 : World.cell? wq ⟨w.heap.size, 1, none⟩ = some (.bool H) := by rw [look_cell hl]; rfl
              have hc2 : World.cell? wq ⟨w.heap.size, 2, none⟩ = some (.int .u64 (p : Int)) := by rw [look_cell hl]; rfl
              have h38 : vs 38 = .bool true := meets_get hm 6 rfl rfl rfl rfl
              clear hm
              simp only [fill, h38]
              go_wp2
              exact ⟨_, rfl, rfl, Below.refl _ _, trivial⟩
            · intro vs wq hB hm
              have hl : look wq (w.heap.size + 1) = some (.cells (#[.int .i64 G, .bool I, .int .u64 (q : Int)]) 25 (0, 0)) := by rw [look_below hB (by first | omega | (simp only [World.size_alloc]; omega) | exact look_lt (by assumption) | (simp only [World.size_alloc, World.size_setCell]; omega) | (simp; omega))]; first | assumption | go_simp
              have hc0 : World.cell? wq ⟨w.heap.size + 1, 0, none⟩ = some (.int .i64 G) := by rw [look_cell hl]; rfl
              have hc1 : World.cell? wq ⟨w.heap.size + 1, 1, none⟩ = some (.bool I) := by rw [look_cell hl]; rfl
              have hc2 : World.cell? wq ⟨w.heap.size + 1, 2, none⟩ = some (.int .u64 (q : Int)) := by rw [look_cell hl]; rfl
              have h38 : vs 38 = .bool true := meets_get hm 6 rfl rfl rfl rfl
              clear hm
              simp only [fill, h38]
              go_wp2
              exact ⟨_, rfl, rfl, Below.refl _ _, trivial⟩
            · intro vs wq hB hm
              have h39 : vs 39 = .agg (#[.int .i64 F, .bool H, .int .u64 (p : Int)]) := meets_get hm 7 rfl rfl rfl rfl
              have h40 : vs 40 = .agg (#[.int .i64 G, .bool I, .int .u64 (q : Int)]) := meets_get hm 8 rfl rfl rfl rfl
              have h38 : vs 38 = .bool true := meets_get hm 6 rfl rfl rfl rfl
              clear hm
              simp only [fill, h39, h40, h38]
              go_wp2
              exact ⟨_, rfl, ⟨_, rfl, look_alloc_at _ _ _ rfl⟩, (Below.refl _ _).alloc (Nat.le_refl _) _, fun b hb => by cases hb; exact ⟨Nat.le_refl _, by simp⟩⟩
            · intro vs wq hB hm
              obtain ⟨b41, h41, l41⟩ := meets_get hm 9 rfl rfl rfl rfl
              have h38 : vs 38 = .bool true := meets_get hm 6 rfl rfl rfl rfl
              clear hm
              simp only [fill, h38, h41]
              go_wp2_with fail
              refine (kJ (by simp) (by simp) _ _ l41).mono ?_
              rintro e w1 ⟨rfl, hb1⟩
              go_wp2
              exact ⟨_, rfl, rfl, hb1, trivial⟩
            · intro vs wq hB hm
              have hl : look wq (w.heap.size) = some (.cells (#[.int .i64 F, .bool H, .int .u64 (p : Int)]) 25 (0, 0)) := by rw [look_below hB (by first | omega | (simp only [World.size_alloc]; omega) | exact look_lt (by assumption) | (simp only [World.size_alloc, World.size_setCell]; omega) | (simp; omega))]; first | assumption | go_simp
              have hc0 : World.cell? wq ⟨w.heap.size, 0, none⟩ = some (.int .i64 F) := by rw [look_cell hl]; rfl
              have hc1 : World.cell? wq ⟨w.heap.size, 1, none⟩ = some (.bool H) := by rw [look_cell hl]; rfl
              have hc2 : World.cell? wq ⟨w.heap.size, 2, none⟩ = some (.int .u64 (p : Int)) := by rw [look_cell hl]; rfl
              have h38 : vs 38 = .bool true := meets_get hm 6 rfl rfl rfl rfl
              clear hm
              simp only [fill, h38]
              go_wp2
              exact ⟨_, rfl, rfl, Below.refl _ _, trivial⟩
            · intro vs wq hB hm
              have h42 : vs 42 = .agg #[.int .i64 (max F G), .bool (H || I), .int .u64 ((priceJ H p I q : Nat) : Int)] := meets_get hm 10 rfl rfl rfl rfl
              have h43 : vs 43 = .agg (#[.int .i64 F, .bool H, .int .u64 (p : Int)]) := meets_get hm 11 rfl rfl rfl rfl
              have h38 : vs 38 = .bool true := meets_get hm 6 rfl rfl rfl rfl
              clear hm
              simp only [fill, h42, h43, h38]
              go_wp2
              exact ⟨_, rfl, (by simp [isV, hSe]), Below.refl _ _, trivial⟩
            · intro vs wq hB hm
              have h38 : vs 38 = .bool true := meets_get hm 6 rfl rfl rfl rfl
              have h44 : vs 44 = .bool S := meets_get hm 12 rfl rfl rfl rfl
              clear hm
              simp only [fill, h38, h44]
              go_wp2
              exact ⟨_, rfl, rfl, Below.refl _ _, trivial⟩
            intro vs wq hB hm hne hlo
            have h32 : vs 32 = .agg (#[.int .i64 F, .bool H, .int .u64 (p : Int)]) := hm 0 _ _ _ rfl rfl rfl
            have h33 : vs 33 = .bool true := hm 1 _ _ _ rfl rfl rfl
            have h34 : vs 34 = .bool true := hm 2 _ _ _ rfl rfl rfl
            have h35 : vs 35 = .agg (#[.int .i64 G, .bool I, .int .u64 (q : Int)]) := hm 3 _ _ _ rfl rfl rfl
            have h36 : vs 36 = .bool true := hm 4 _ _ _ rfl rfl rfl
            have h37 : vs 37 = .bool true := hm 5 _ _ _ rfl rfl rfl
            have h38 : vs 38 = .bool true := hm 6 _ _ _ rfl rfl rfl
            have h39 : vs 39 = .agg (#[.int .i64 F, .bool H, .int .u64 (p : Int)]) := hm 7 _ _ _ rfl rfl rfl
            have h40 : vs 40 = .agg (#[.int .i64 G, .bool I, .int .u64 (q : Int)]) := hm 8 _ _ _ rfl rfl rfl
            obtain ⟨b41, h41, l41⟩ := hm 9 _ _ _ rfl rfl rfl
            have h42 : vs 42 = .agg #[.int .i64 (max F G), .bool (H || I), .int .u64 ((priceJ H p I q : Nat) : Int)] := hm 10 _ _ _ rfl rfl rfl
            have h43 : vs 43 = .agg (#[.int .i64 F, .bool H, .int .u64 (p : Int)]) := hm 11 _ _ _ rfl rfl rfl
            have h44 : vs 44 = .bool S := hm 12 _ _ _ rfl rfl rfl
            have h45 : vs 45 = .bool S := hm 13 _ _ _ rfl rfl rfl
            have lo41 : _ ≤ b41 ∧ b41 < wq.heap.size := hlo 9 _ _ rfl rfl rfl b41 (by rw [h41]; rfl)
            clear hne hlo
            simp only [fill, List.filterMap, List.take, List.drop, List.setIfInBounds_toArray, List.set_cons_zero, List.set_cons_succ, h32, h33, h34, h35, h36, h37, h38, h39, h40, h41, h42, h43, h44, h45]
            clear hm h32 h33 h34 h35 h36 h37 h38 h39 h40 h41 h42 h43 h44 h45
            go_wp2
            go_meet
            case rel => exact ⟨rfl, by rw [look_below hB (by omega)]; exact la, by rw [look_below hB (by omega)]; exact lb, by rw [look_below hB (by omega)]; exact lw, by rw [look_below hB (by omega)]; exact l12, by rw [look_below hB (by omega)]; exact l13, belT hb1 hB⟩
      case rest =>
        clear la lb lw l12 l13 sa sb sw s12 s13 hb1
        obtain ⟨rfl, la, lb, lw, l12, l13, hb1⟩ := hcut
        have sa := look_lt la
        have sb := look_lt lb
        have sw := look_lt lw
        have s12 := look_lt l12
        have s13 := look_lt l13
        have hsW := hsl.below hb1
        clear kB kJ hSe
        go_wp2_with fail
        refine wp_region_words mixed 49 ([] :: [46] :: [47] :: [48, 47] :: [49, 47] :: [50, 47] :: [47] :: [52, 47] :: [51, 53, 47] :: [47, 54] :: [55] :: [56] :: [57, 56] :: [56] :: [59, 56] :: [58, 60, 56] :: [56, 61] :: [62] :: [63] :: [63] :: [64, 65, 63] :: [63] :: [63] :: [67, 68, 63] :: [66, 69, 63] :: [63, 70] :: [71] :: [72] :: [73, 72] :: [74, 72] :: [72] :: [75, 76, 72] :: [72, 77] :: [78] :: [79] :: [80, 79] :: [81, 79] :: [82, 79] :: [79] :: [84, 79] :: [83, 85, 79] :: [79, 86] :: [87] :: [88] :: [88] :: [89, 90, 88] :: [88] :: [91, 92, 88] :: [88, 93] :: []) (isV (.bool true) :: isV (.bool true) :: isV (.slice ad m cap) :: isSl m 3 (mC L) :: isV (.agg #[.int .i64 (foldM L m).flag, .bool (foldM L m).has, .float .f64 (foldM L m).price]) :: isV (.agg #[.int .i64 (foldM L m).flag, .bool (foldM L m).has, .int .u64 ((foldM L m).price : Int)]) :: isV (.slice ad m cap) :: isV (.agg #[.int .i64 (foldM L m).flag, .bool (foldM L m).has, .int .u64 ((foldM L m).price : Int)]) :: isV (.bool true) :: isV (.bool true) :: isV (.bool true) :: isV (.agg (#[.int .i64 F, .bool H, .float .f64 p])) :: isV (.bool A) :: isV (.agg (#[.int .i64 F, .bool H, .int .u64 (p : Int)])) :: isV (.bool A) :: isV (.bool true) :: isV (.bool true) :: isV (.bool true) :: isV (.agg (#[.int .i64 F, .bool H, .float .f64 p])) :: isV (.agg (#[.int .i64 G, .bool I, .float .f64 q])) :: isV (.bool (sameM F H p G I q)) :: isV (.agg (#[.int .i64 F, .bool H, .int .u64 (p : Int)])) :: isV (.agg (#[.int .i64 G, .bool I, .int .u64 (q : Int)])) :: isV (.bool (sameM F H p G I q)) :: isV (.bool true) :: isV (.bool true) :: isV (.bool true) :: isV (.int .i64 n) :: isV (.agg #[.int .i64 (flagV n), .bool false, .float .f64 0]) :: isV (.agg #[.int .i64 (flagV n), .bool false, .int .u64 0]) :: isV (.agg (#[.int .i64 (flagV n), .bool false, .int .u64 0])) :: isV (.bool true) :: isV (.bool true) :: isV (.bool true) :: isV (.int .u64 (f : Int)) :: isV (.float .f64 f) :: isV (.agg #[.int .i64 0, .bool true, .float .f64 f]) :: isV (.agg #[.int .i64 0, .bool true, .int .u64 (f : Int)]) :: isV (.int .u64 (f : Int)) :: isV (.agg #[.int .i64 0, .bool true, .int .u64 (f : Int)]) :: isV (.bool true) :: isV (.bool true) :: isV (.bool true) :: isV (.agg (#[.int .i64 F, .bool H, .float .f64 p])) :: isV (.agg (#[.int .i64 G, .bool I, .float .f64 q])) :: isV (.bool (A && B && S)) :: isV (.bool (A && B && S)) :: isV (.bool true) :: isV (.bool true) :: []) (by decide) (by kernel_rfl)
          ⟨stab_isV _, stab_isV _, stab_isV _, stab_isSl _ _ _, stab_isV _, stab_isV _, stab_isV _, stab_isV _, stab_isV _, stab_isV _, stab_isV _, stab_isV _, stab_isV _, stab_isV _, stab_isV _, stab_isV _, stab_isV _, stab_isV _, stab_isV _, stab_isV _, stab_isV _, stab_isV _, stab_isV _, stab_isV _, stab_isV _, stab_isV _, stab_isV _, stab_isV _, stab_isV _, stab_isV _, stab_isV _, stab_isV _, stab_isV _, stab_isV _, stab_isV _, stab_isV _, stab_isV _, stab_isV _, stab_isV _, stab_isV _, stab_isV _, stab_isV _, stab_isV _, stab_isV _, stab_isV _, stab_isV _, stab_isV _, stab_isV _, stab_isV _, trivial⟩ ⟨?_, ?_, ?_, ?_, ?_, ?_, ?_, ?_, ?_, ?_, ?_, ?_, ?_, ?_, ?_, ?_, ?_, ?_, ?_, ?_, ?_, ?_, ?_, ?_, ?_, ?_, ?_, ?_, ?_, ?_, ?_, ?_, ?_, ?_, ?_, ?_, ?_, ?_, ?_, ?_, ?_, ?_, ?_, ?_, ?_, ?_, ?_, ?_, ?_, trivial⟩ ?_
        · intro vs wq hB hm
          clear hm
          simp only [fill]
          go_wp2_with fail
          refine (alive07 _).mono ?_
          rintro e w1 ⟨rfl, hb1⟩
          go_wp2
          exact ⟨_, rfl, rfl, hb1, trivial⟩
        · intro vs wq hB hm
          have h46 : vs 46 = .bool true := meets_get hm 0 rfl rfl rfl rfl
          clear hm
          simp only [fill, h46]
          go_wp2
          exact ⟨_, rfl, rfl, Below.refl _ _, trivial⟩
        · intro vs wq hB hm
          have h47 : vs 47 = .bool true := meets_get hm 1 rfl rfl rfl rfl
          clear hm
          simp only [fill, h47]
          go_wp2
          exact ⟨_, rfl, rfl, Below.refl _ _, trivial⟩
        · intro vs wq hB hm
          have h48 : vs 48 = .slice ad m cap := meets_get hm 2 rfl rfl rfl rfl
          have h47 : vs 47 = .bool true := meets_get hm 1 rfl rfl rfl rfl
          clear hm
          simp only [fill, h48, h47]
          go_wp2_with fail
          refine (marks_any (.slice ad m cap) m L _ (by omega) (hsW.below hB)).mono ?_
          rintro e w1 ⟨v, rfl, hW, hb1⟩
          go_wp2
          exact ⟨_, rfl, hW, hb1, trivial⟩
        · intro vs wq hB hm
          have h49 := meets_get hm 3 rfl rfl rfl rfl
          have h47 : vs 47 = .bool true := meets_get hm 1 rfl rfl rfl rfl
          clear hm
          simp only [fill, h47]
          go_wp2_with fail
          refine (mjoin_any _ m L _ h49 hL).mono ?_
          rintro e w1 ⟨rfl, hb1⟩
          go_wp2
          exact ⟨_, rfl, rfl, hb1, trivial⟩
        · intro vs wq hB hm
          have h50 : vs 50 = .agg #[.int .i64 (foldM L m).flag, .bool (foldM L m).has, .float .f64 (foldM L m).price] := meets_get hm 4 rfl rfl rfl rfl
          have h47 : vs 47 = .bool true := meets_get hm 1 rfl rfl rfl rfl
          clear hm
          simp only [fill, h50, h47]
          go_wp2_with fail
          refine (as_any _ _ _ _).mono ?_
          rintro e w1 ⟨rfl, hb1⟩
          go_wp2
          exact ⟨_, rfl, rfl, hb1, trivial⟩
        · intro vs wq hB hm
          have h47 : vs 47 = .bool true := meets_get hm 1 rfl rfl rfl rfl
          clear hm
          simp only [fill, h47]
          go_wp2
          exact ⟨_, rfl, rfl, Below.refl _ _, trivial⟩
        · intro vs wq hB hm
          have h52 : vs 52 = .slice ad m cap := meets_get hm 6 rfl rfl rfl rfl
          have h47 : vs 47 = .bool true := meets_get hm 1 rfl rfl rfl rfl
          clear hm
          simp only [fill, h52, h47]
          go_wp2_with fail
          refine (rjoin_any (.slice ad m cap) m L _ (hsW.below hB) hL).mono ?_
          rintro e w1 ⟨rfl, hb1⟩
          go_wp2
          exact ⟨_, rfl, rfl, hb1, trivial⟩
        · intro vs wq hB hm
          have h51 : vs 51 = .agg #[.int .i64 (foldM L m).flag, .bool (foldM L m).has, .int .u64 ((foldM L m).price : Int)] := meets_get hm 5 rfl rfl rfl rfl
          have h53 : vs 53 = .agg #[.int .i64 (foldM L m).flag, .bool (foldM L m).has, .int .u64 ((foldM L m).price : Int)] := meets_get hm 7 rfl rfl rfl rfl
          have h47 : vs 47 = .bool true := meets_get hm 1 rfl rfl rfl rfl
          clear hm
          simp only [fill, h51, h53, h47]
          go_wp2
          exact ⟨_, rfl, (by simp [isV, sameM]), Below.refl _ _, trivial⟩
        · intro vs wq hB hm
          have h47 : vs 47 = .bool true := meets_get hm 1 rfl rfl rfl rfl
          have h54 : vs 54 = .bool true := meets_get hm 8 rfl rfl rfl rfl
          clear hm
          simp only [fill, h47, h54]
          go_wp2
          exact ⟨_, rfl, rfl, Below.refl _ _, trivial⟩
        · intro vs wq hB hm
          have h55 : vs 55 = .bool true := meets_get hm 9 rfl rfl rfl rfl
          clear hm
          simp only [fill, h55]
          go_wp2
          exact ⟨_, rfl, rfl, Below.refl _ _, trivial⟩
        · intro vs wq hB hm
          have hl : look wq (b12) = some (.cells (#[.int .i64 F, .bool H, .float .f64 p]) 29 (0, 0)) := by rw [look_below hB (by first | omega | (simp only [World.size_alloc]; omega) | exact look_lt (by assumption) | (simp only [World.size_alloc, World.size_setCell]; omega) | (simp; omega))]; first | assumption | go_simp
          have hc0 : World.cell? wq ⟨b12, 0, none⟩ = some (.int .i64 F) := by rw [look_cell hl]; rfl
          have hc1 : World.cell? wq ⟨b12, 1, none⟩ = some (.bool H) := by rw [look_cell hl]; rfl
          have hc2 : World.cell? wq ⟨b12, 2, none⟩ = some (.float .f64 p) := by rw [look_cell hl]; rfl
          have h56 : vs 56 = .bool true := meets_get hm 10 rfl rfl rfl rfl
          clear hm
          simp only [fill, h56]
          go_wp2
          exact ⟨_, rfl, rfl, Below.refl _ _, trivial⟩
        · intro vs wq hB hm
          have h57 : vs 57 = .agg (#[.int .i64 F, .bool H, .float .f64 p]) := meets_get hm 11 rfl rfl rfl rfl
          have h56 : vs 56 = .bool true := meets_get hm 10 rfl rfl rfl rfl
          clear hm
          simp only [fill, h57, h56]
          go_wp2_with fail
          refine (kA2 _).mono ?_
          rintro e w1 ⟨rfl, hb1⟩
          go_wp2
          exact ⟨_, rfl, rfl, hb1, trivial⟩
        · intro vs wq hB hm
          have hl : look wq (w.heap.size) = some (.cells (#[.int .i64 F, .bool H, .int .u64 (p : Int)]) 25 (0, 0)) := by rw [look_below hB (by first | omega | (simp only [World.size_alloc]; omega) | exact look_lt (by assumption) | (simp only [World.size_alloc, World.size_setCell]; omega) | (simp; omega))]; first | assumption | go_simp
          have hc0 : World.cell? wq ⟨w.heap.size, 0, none⟩ = some (.int .i64 F) := by rw [look_cell hl]; rfl
          have hc1 : World.cell? wq ⟨w.heap.size, 1, none⟩ = some (.bool H) := by rw [look_cell hl]; rfl
          have hc2 : World.cell? wq ⟨w.heap.size, 2, none⟩ = some (.int .u64 (p : Int)) := by rw [look_cell hl]; rfl
          have h56 : vs 56 = .bool true := meets_get hm 10 rfl rfl rfl rfl
          clear hm
          simp only [fill, h56]
          go_wp2
          exact ⟨_, rfl, rfl, Below.refl _ _, trivial⟩
        · intro vs wq hB hm
          have h59 : vs 59 = .agg (#[.int .i64 F, .bool H, .int .u64 (p : Int)]) := meets_get hm 13 rfl rfl rfl rfl
          have h56 : vs 56 = .bool true := meets_get hm 10 rfl rfl rfl rfl
          clear hm
          simp only [fill, h59, h56]
          go_wp2_with fail
          refine (kA _).mono ?_
          rintro e w1 ⟨rfl, hb1⟩
          go_wp2
          exact ⟨_, rfl, rfl, hb1, trivial⟩
        · intro vs wq hB hm
          have h58 : vs 58 = .bool A := meets_get hm 12 rfl rfl rfl rfl
          have h60 : vs 60 = .bool A := meets_get hm 14 rfl rfl rfl rfl
          have h56 : vs 56 = .bool true := meets_get hm 10 rfl rfl rfl rfl
          clear hm
          simp only [fill, h58, h60, h56]
          go_wp2
          exact ⟨_, rfl, (by simp [isV]), Below.refl _ _, trivial⟩
        · intro vs wq hB hm
          have h56 : vs 56 = .bool true := meets_get hm 10 rfl rfl rfl rfl
          have h61 : vs 61 = .bool true := meets_get hm 15 rfl rfl rfl rfl
          clear hm
          simp only [fill, h56, h61]
          go_wp2
          exact ⟨_, rfl, rfl, Below.refl _ _, trivial⟩
        · intro vs wq hB hm
          have h62 : vs 62 = .bool true := meets_get hm 16 rfl rfl rfl rfl
          clear hm
          simp only [fill, h62]
          go_wp2
          exact ⟨_, rfl, rfl, Below.refl _ _, trivial⟩
        · intro vs wq hB hm
          have hl : look wq (b12) = some (.cells (#[.int .i64 F, .bool H, .float .f64 p]) 29 (0, 0)) := by rw [look_below hB (by first | omega | (simp only [World.size_alloc]; omega) | exact look_lt (by assumption) | (simp only [World.size_alloc, World.size_setCell]; omega) | (simp; omega))]; first | assumption | go_simp
          have hc0 : World.cell? wq ⟨b12, 0, none⟩ = some (.int .i64 F) := by rw [look_cell hl]; rfl
          have hc1 : World.cell? wq ⟨b12, 1, none⟩ = some (.bool H) := by rw [look_cell hl]; rfl
          have hc2 : World.cell? wq ⟨b12, 2, none⟩ = some (.float .f64 p) := by rw [look_cell hl]; rfl
          have h63 : vs 63 = .bool true := meets_get hm 17 rfl rfl rfl rfl
          clear hm
          simp only [fill, h63]
          go_wp2
          exact ⟨_, rfl, rfl, Below.refl _ _, trivial⟩
        · intro vs wq hB hm
          have hl : look wq (b13) = some (.cells (#[.int .i64 G, .bool I, .float .f64 q]) 29 (0, 0)) := by rw [look_below hB (by first | omega | (simp only [World.size_alloc]; omega) | exact look_lt (by assumption) | (simp only [World.size_alloc, World.size_setCell]; omega) | (simp; omega))]; first | assumption | go_simp
          have hc0 : World.cell? wq ⟨b13, 0, none⟩ = some (.int .i64 G) := by rw [look_cell hl]; rfl
          have hc1 : World.cell? wq ⟨b13, 1, none⟩ = some (.bool I) := by rw [look_cell hl]; rfl
          have hc2 : World.cell? wq ⟨b13, 2, none⟩ = some (.float .f64 q) := by rw [look_cell hl]; rfl
          have h63 : vs 63 = .bool true := meets_get hm 17 rfl rfl rfl rfl
          clear hm
          simp only [fill, h63]
          go_wp2
          exact ⟨_, rfl, rfl, Below.refl _ _, trivial⟩
        · intro vs wq hB hm
          have h64 : vs 64 = .agg (#[.int .i64 F, .bool H, .float .f64 p]) := meets_get hm 18 rfl rfl rfl rfl
          have h65 : vs 65 = .agg (#[.int .i64 G, .bool I, .float .f64 q]) := meets_get hm 19 rfl rfl rfl rfl
          have h63 : vs 63 = .bool true := meets_get hm 17 rfl rfl rfl rfl
          clear hm
          simp only [fill, h64, h65, h63]
          go_wp2_with fail
          refine (msame_any F H p G I q hp hq _).mono ?_
          rintro e w1 ⟨rfl, hb1⟩
          go_wp2
          exact ⟨_, rfl, rfl, hb1, trivial⟩
        · intro vs wq hB hm
          have hl : look wq (w.heap.size) = some (.cells (#[.int .i64 F, .bool H, .int .u64 (p : Int)]) 25 (0, 0)) := by rw [look_below hB (by first | omega | (simp only [World.size_alloc]; omega) | exact look_lt (by assumption) | (simp only [World.size_alloc, World.size_setCell]; omega) | (simp; omega))]; first | assumption | go_simp
          have hc0 : World.cell? wq ⟨w.heap.size, 0, none⟩ = some (.int .i64 F) := by rw [look_cell hl]; rfl
          have hc1 : World.cell? wq ⟨w.heap.size, 1, none⟩ = some (.bool H) := by rw [look_cell hl]; rfl
          have hc2 : World.cell? wq ⟨w.heap.size, 2, none⟩ = some (.int .u64 (p : Int)) := by rw [look_cell hl]; rfl
          have h63 : vs 63 = .bool true := meets_get hm 17 rfl rfl rfl rfl
          clear hm
          simp only [fill, h63]
          go_wp2
          exact ⟨_, rfl, rfl, Below.refl _ _, trivial⟩
        · intro vs wq hB hm
          have hl : look wq (w.heap.size + 1) = some (.cells (#[.int .i64 G, .bool I, .int .u64 (q : Int)]) 25 (0, 0)) := by rw [look_below hB (by first | omega | (simp only [World.size_alloc]; omega) | exact look_lt (by assumption) | (simp only [World.size_alloc, World.size_setCell]; omega) | (simp; omega))]; first | assumption | go_simp
          have hc0 : World.cell? wq ⟨w.heap.size + 1, 0, none⟩ = some (.int .i64 G) := by rw [look_cell hl]; rfl
          have hc1 : World.cell? wq ⟨w.heap.size + 1, 1, none⟩ = some (.bool I) := by rw [look_cell hl]; rfl
          have hc2 : World.cell? wq ⟨w.heap.size + 1, 2, none⟩ = some (.int .u64 (q : Int)) := by rw [look_cell hl]; rfl
          have h63 : vs 63 = .bool true := meets_get hm 17 rfl rfl rfl rfl
          clear hm
          simp only [fill, h63]
          go_wp2
          exact ⟨_, rfl, rfl, Below.refl _ _, trivial⟩
        · intro vs wq hB hm
          have h67 : vs 67 = .agg (#[.int .i64 F, .bool H, .int .u64 (p : Int)]) := meets_get hm 21 rfl rfl rfl rfl
          have h68 : vs 68 = .agg (#[.int .i64 G, .bool I, .int .u64 (q : Int)]) := meets_get hm 22 rfl rfl rfl rfl
          have h63 : vs 63 = .bool true := meets_get hm 17 rfl rfl rfl rfl
          clear hm
          simp only [fill, h67, h68, h63]
          go_wp2
          exact ⟨_, rfl, rfl, Below.refl _ _, trivial⟩
        · intro vs wq hB hm
          have h66 : vs 66 = .bool (sameM F H p G I q) := meets_get hm 20 rfl rfl rfl rfl
          have h69 : vs 69 = .bool (sameM F H p G I q) := meets_get hm 23 rfl rfl rfl rfl
          have h63 : vs 63 = .bool true := meets_get hm 17 rfl rfl rfl rfl
          clear hm
          simp only [fill, h66, h69, h63]
          go_wp2
          exact ⟨_, rfl, (by simp [isV]), Below.refl _ _, trivial⟩
        · intro vs wq hB hm
          have h63 : vs 63 = .bool true := meets_get hm 17 rfl rfl rfl rfl
          have h70 : vs 70 = .bool true := meets_get hm 24 rfl rfl rfl rfl
          clear hm
          simp only [fill, h63, h70]
          go_wp2
          exact ⟨_, rfl, rfl, Below.refl _ _, trivial⟩
        · intro vs wq hB hm
          have h71 : vs 71 = .bool true := meets_get hm 25 rfl rfl rfl rfl
          clear hm
          simp only [fill, h71]
          go_wp2
          exact ⟨_, rfl, rfl, Below.refl _ _, trivial⟩
        · intro vs wq hB hm
          have h72 : vs 72 = .bool true := meets_get hm 26 rfl rfl rfl rfl
          clear hm
          simp only [fill, h72]
          go_wp2
          exact ⟨_, rfl, rfl, Below.refl _ _, trivial⟩
        · intro vs wq hB hm
          have h73 : vs 73 = .int .i64 n := meets_get hm 27 rfl rfl rfl rfl
          have h72 : vs 72 = .bool true := meets_get hm 26 rfl rfl rfl rfl
          clear hm
          simp only [fill, h73, h72]
          go_wp2_with fail
          refine (mflag_any n _).mono ?_
          rintro e w1 ⟨rfl, hb1⟩
          go_wp2
          exact ⟨_, rfl, rfl, hb1, trivial⟩
        · intro vs wq hB hm
          have h74 : vs 74 = .agg #[.int .i64 (flagV n), .bool false, .float .f64 0] := meets_get hm 28 rfl rfl rfl rfl
          have h72 : vs 72 = .bool true := meets_get hm 26 rfl rfl rfl rfl
          clear hm
          simp only [fill, h74, h72]
          go_wp2_with fail
          refine (as_any (flagV n) false 0 _).mono ?_
          rintro e w1 ⟨rfl, hb1⟩
          go_wp2
          exact ⟨_, rfl, rfl, hb1, trivial⟩
        · intro vs wq hB hm
          have hl : look wq (w.heap.size + 2) = some (.cells (#[.int .i64 (flagV n), .bool false, .int .u64 0]) 25 (0, 0)) := by rw [look_below hB (by first | omega | (simp only [World.size_alloc]; omega) | exact look_lt (by assumption) | (simp only [World.size_alloc, World.size_setCell]; omega) | (simp; omega))]; first | assumption | go_simp
          have hc0 : World.cell? wq ⟨w.heap.size + 2, 0, none⟩ = some (.int .i64 (flagV n)) := by rw [look_cell hl]; rfl
          have hc1 : World.cell? wq ⟨w.heap.size + 2, 1, none⟩ = some (.bool false) := by rw [look_cell hl]; rfl
          have hc2 : World.cell? wq ⟨w.heap.size + 2, 2, none⟩ = some (.int .u64 0) := by rw [look_cell hl]; rfl
          have h72 : vs 72 = .bool true := meets_get hm 26 rfl rfl rfl rfl
          clear hm
          simp only [fill, h72]
          go_wp2
          exact ⟨_, rfl, rfl, Below.refl _ _, trivial⟩
        · intro vs wq hB hm
          have h75 : vs 75 = .agg #[.int .i64 (flagV n), .bool false, .int .u64 0] := meets_get hm 29 rfl rfl rfl rfl
          have h76 : vs 76 = .agg (#[.int .i64 (flagV n), .bool false, .int .u64 0]) := meets_get hm 30 rfl rfl rfl rfl
          have h72 : vs 72 = .bool true := meets_get hm 26 rfl rfl rfl rfl
          clear hm
          simp only [fill, h75, h76, h72]
          go_wp2
          exact ⟨_, rfl, (by simp [isV, sameM]), Below.refl _ _, trivial⟩
        · intro vs wq hB hm
          have h72 : vs 72 = .bool true := meets_get hm 26 rfl rfl rfl rfl
          have h77 : vs 77 = .bool true := meets_get hm 31 rfl rfl rfl rfl
          clear hm
          simp only [fill, h72, h77]
          go_wp2
          exact ⟨_, rfl, rfl, Below.refl _ _, trivial⟩
        · intro vs wq hB hm
          have h78 : vs 78 = .bool true := meets_get hm 32 rfl rfl rfl rfl
          clear hm
          simp only [fill, h78]
          go_wp2
          exact ⟨_, rfl, rfl, Below.refl _ _, trivial⟩
        · intro vs wq hB hm
          have h79 : vs 79 = .bool true := meets_get hm 33 rfl rfl rfl rfl
          clear hm
          simp only [fill, h79]
          go_wp2
          exact ⟨_, rfl, rfl, Below.refl _ _, trivial⟩
        · intro vs wq hB hm
          have h80 : vs 80 = .int .u64 (f : Int) := meets_get hm 34 rfl rfl rfl rfl
          have h79 : vs 79 = .bool true := meets_get hm 33 rfl rfl rfl rfl
          clear hm
          simp only [fill, h80, h79]
          go_wp2
          exact ⟨_, rfl, rfl, Below.refl _ _, trivial⟩
        · intro vs wq hB hm
          have h81 : vs 81 = .float .f64 f := meets_get hm 35 rfl rfl rfl rfl
          have h79 : vs 79 = .bool true := meets_get hm 33 rfl rfl rfl rfl
          clear hm
          simp only [fill, h81, h79]
          go_wp2_with fail
          refine (mprice_any f _).mono ?_
          rintro e w1 ⟨rfl, hb1⟩
          go_wp2
          exact ⟨_, rfl, rfl, hb1, trivial⟩
        · intro vs wq hB hm
          have h82 : vs 82 = .agg #[.int .i64 0, .bool true, .float .f64 f] := meets_get hm 36 rfl rfl rfl rfl
          have h79 : vs 79 = .bool true := meets_get hm 33 rfl rfl rfl rfl
          clear hm
          simp only [fill, h82, h79]
          go_wp2_with fail
          refine (as_any 0 true f _).mono ?_
          rintro e w1 ⟨rfl, hb1⟩
          go_wp2
          exact ⟨_, rfl, rfl, hb1, trivial⟩
        · intro vs wq hB hm
          have h79 : vs 79 = .bool true := meets_get hm 33 rfl rfl rfl rfl
          clear hm
          simp only [fill, h79]
          go_wp2
          exact ⟨_, rfl, rfl, Below.refl _ _, trivial⟩
        · intro vs wq hB hm
          have h84 : vs 84 = .int .u64 (f : Int) := meets_get hm 38 rfl rfl rfl rfl
          have h79 : vs 79 = .bool true := meets_get hm 33 rfl rfl rfl rfl
          clear hm
          simp only [fill, h84, h79]
          go_wp2
          exact ⟨_, rfl, rfl, Below.refl _ _, trivial⟩
        · intro vs wq hB hm
          have h83 : vs 83 = .agg #[.int .i64 0, .bool true, .int .u64 (f : Int)] := meets_get hm 37 rfl rfl rfl rfl
          have h85 : vs 85 = .agg #[.int .i64 0, .bool true, .int .u64 (f : Int)] := meets_get hm 39 rfl rfl rfl rfl
          have h79 : vs 79 = .bool true := meets_get hm 33 rfl rfl rfl rfl
          clear hm
          simp only [fill, h83, h85, h79]
          go_wp2
          exact ⟨_, rfl, (by simp [isV, sameM]), Below.refl _ _, trivial⟩
        · intro vs wq hB hm
          have h79 : vs 79 = .bool true := meets_get hm 33 rfl rfl rfl rfl
          have h86 : vs 86 = .bool true := meets_get hm 40 rfl rfl rfl rfl
          clear hm
          simp only [fill, h79, h86]
          go_wp2
          exact ⟨_, rfl, rfl, Below.refl _ _, trivial⟩
        · intro vs wq hB hm
          have h87 : vs 87 = .bool true := meets_get hm 41 rfl rfl rfl rfl
          clear hm
          simp only [fill, h87]
          go_wp2
          exact ⟨_, rfl, rfl, Below.refl _ _, trivial⟩
        · intro vs wq hB hm
          have hl : look wq (b12) = some (.cells (#[.int .i64 F, .bool H, .float .f64 p]) 29 (0, 0)) := by rw [look_below hB (by first | omega | (simp only [World.size_alloc]; omega) | exact look_lt (by assumption) | (simp only [World.size_alloc, World.size_setCell]; omega) | (simp; omega))]; first | assumption | go_simp
          have hc0 : World.cell? wq ⟨b12, 0, none⟩ = some (.int .i64 F) := by rw [look_cell hl]; rfl
          have hc1 : World.cell? wq ⟨b12, 1, none⟩ = some (.bool H) := by rw [look_cell hl]; rfl
          have hc2 : World.cell? wq ⟨b12, 2, none⟩ = some (.float .f64 p) := by rw [look_cell hl]; rfl
          have h88 : vs 88 = .bool true := meets_get hm 42 rfl rfl rfl rfl
          clear hm
          simp only [fill, h88]
          go_wp2
          exact ⟨_, rfl, rfl, Below.refl _ _, trivial⟩
        · intro vs wq hB hm
          have hl : look wq (b13) = some (.cells (#[.int .i64 G, .bool I, .float .f64 q]) 29 (0, 0)) := by rw [look_below hB (by first | omega | (simp only [World.size_alloc]; omega) | exact look_lt (by assumption) | (simp only [World.size_alloc, World.size_setCell]; omega) | (simp; omega))]; first | assumption | go_simp
          have hc0 : World.cell? wq ⟨b13, 0, none⟩ = some (.int .i64 G) := by rw [look_cell hl]; rfl
          have hc1 : World.cell? wq ⟨b13, 1, none⟩ = some (.bool I) := by rw [look_cell hl]; rfl
          have hc2 : World.cell? wq ⟨b13, 2, none⟩ = some (.float .f64 q) := by rw [look_cell hl]; rfl
          have h88 : vs 88 = .bool true := meets_get hm 42 rfl rfl rfl rfl
          clear hm
          simp only [fill, h88]
          go_wp2
          exact ⟨_, rfl, rfl, Below.refl _ _, trivial⟩
        · intro vs wq hB hm
          have h89 : vs 89 = .agg (#[.int .i64 F, .bool H, .float .f64 p]) := meets_get hm 43 rfl rfl rfl rfl
          have h90 : vs 90 = .agg (#[.int .i64 G, .bool I, .float .f64 q]) := meets_get hm 44 rfl rfl rfl rfl
          have h88 : vs 88 = .bool true := meets_get hm 42 rfl rfl rfl rfl
          clear hm
          simp only [fill, h89, h90, h88]
          go_wp2_with fail
          refine (kC _).mono ?_
          rintro e w1 ⟨rfl, hb1⟩
          go_wp2
          exact ⟨_, rfl, rfl, hb1, trivial⟩
        · intro vs wq hB hm
          have h88 : vs 88 = .bool true := meets_get hm 42 rfl rfl rfl rfl
          clear hm
          simp only [fill, h88]
          go_wp2
          exact ⟨_, rfl, rfl, Below.refl _ _, trivial⟩
        · intro vs wq hB hm
          have h91 : vs 91 = .bool (A && B && S) := meets_get hm 45 rfl rfl rfl rfl
          have h92 : vs 92 = .bool (A && B && S) := meets_get hm 46 rfl rfl rfl rfl
          have h88 : vs 88 = .bool true := meets_get hm 42 rfl rfl rfl rfl
          clear hm
          simp only [fill, h91, h92, h88]
          go_wp2
          exact ⟨_, rfl, (by simp [isV]), Below.refl _ _, trivial⟩
        · intro vs wq hB hm
          have h88 : vs 88 = .bool true := meets_get hm 42 rfl rfl rfl rfl
          have h93 : vs 93 = .bool true := meets_get hm 47 rfl rfl rfl rfl
          clear hm
          simp only [fill, h88, h93]
          go_wp2
          exact ⟨_, rfl, rfl, Below.refl _ _, trivial⟩
        intro vs wq hB hm hne hlo
        have h46 : vs 46 = .bool true := hm 0 _ _ _ rfl rfl rfl
        have h47 : vs 47 = .bool true := hm 1 _ _ _ rfl rfl rfl
        have h48 : vs 48 = .slice ad m cap := hm 2 _ _ _ rfl rfl rfl
        have h49 := hm 3 _ _ _ rfl rfl rfl
        have h50 : vs 50 = .agg #[.int .i64 (foldM L m).flag, .bool (foldM L m).has, .float .f64 (foldM L m).price] := hm 4 _ _ _ rfl rfl rfl
        have h51 : vs 51 = .agg #[.int .i64 (foldM L m).flag, .bool (foldM L m).has, .int .u64 ((foldM L m).price : Int)] := hm 5 _ _ _ rfl rfl rfl
        have h52 : vs 52 = .slice ad m cap := hm 6 _ _ _ rfl rfl rfl
        have h53 : vs 53 = .agg #[.int .i64 (foldM L m).flag, .bool (foldM L m).has, .int .u64 ((foldM L m).price : Int)] := hm 7 _ _ _ rfl rfl rfl
        have h54 : vs 54 = .bool true := hm 8 _ _ _ rfl rfl rfl
        have h55 : vs 55 = .bool true := hm 9 _ _ _ rfl rfl rfl
        have h56 : vs 56 = .bool true := hm 10 _ _ _ rfl rfl rfl
        have h57 : vs 57 = .agg (#[.int .i64 F, .bool H, .float .f64 p]) := hm 11 _ _ _ rfl rfl rfl
        have h58 : vs 58 = .bool A := hm 12 _ _ _ rfl rfl rfl
        have h59 : vs 59 = .agg (#[.int .i64 F, .bool H, .int .u64 (p : Int)]) := hm 13 _ _ _ rfl rfl rfl
        have h60 : vs 60 = .bool A := hm 14 _ _ _ rfl rfl rfl
        have h61 : vs 61 = .bool true := hm 15 _ _ _ rfl rfl rfl
        have h62 : vs 62 = .bool true := hm 16 _ _ _ rfl rfl rfl
        have h63 : vs 63 = .bool true := hm 17 _ _ _ rfl rfl rfl
        have h64 : vs 64 = .agg (#[.int .i64 F, .bool H, .float .f64 p]) := hm 18 _ _ _ rfl rfl rfl
        have h65 : vs 65 = .agg (#[.int .i64 G, .bool I, .float .f64 q]) := hm 19 _ _ _ rfl rfl rfl
        have h66 : vs 66 = .bool (sameM F H p G I q) := hm 20 _ _ _ rfl rfl rfl
        have h67 : vs 67 = .agg (#[.int .i64 F, .bool H, .int .u64 (p : Int)]) := hm 21 _ _ _ rfl rfl rfl
        have h68 : vs 68 = .agg (#[.int .i64 G, .bool I, .int .u64 (q : Int)]) := hm 22 _ _ _ rfl rfl rfl
        have h69 : vs 69 = .bool (sameM F H p G I q) := hm 23 _ _ _ rfl rfl rfl
        have h70 : vs 70 = .bool true := hm 24 _ _ _ rfl rfl rfl
        have h71 : vs 71 = .bool true := hm 25 _ _ _ rfl rfl rfl
        have h72 : vs 72 = .bool true := hm 26 _ _ _ rfl rfl rfl
        have h73 : vs 73 = .int .i64 n := hm 27 _ _ _ rfl rfl rfl
        have h74 : vs 74 = .agg #[.int .i64 (flagV n), .bool false, .float .f64 0] := hm 28 _ _ _ rfl rfl rfl
        have h75 : vs 75 = .agg #[.int .i64 (flagV n), .bool false, .int .u64 0] := hm 29 _ _ _ rfl rfl rfl
        have h76 : vs 76 = .agg (#[.int .i64 (flagV n), .bool false, .int .u64 0]) := hm 30 _ _ _ rfl rfl rfl
        have h77 : vs 77 = .bool true := hm 31 _ _ _ rfl rfl rfl
        have h78 : vs 78 = .bool true := hm 32 _ _ _ rfl rfl rfl
        have h79 : vs 79 = .bool true := hm 33 _ _ _ rfl rfl rfl
        have h80 : vs 80 = .int .u64 (f : Int) := hm 34 _ _ _ rfl rfl rfl
        have h81 : vs 81 = .float .f64 f := hm 35 _ _ _ rfl rfl rfl
        have h82 : vs 82 = .agg #[.int .i64 0, .bool true, .float .f64 f] := hm 36 _ _ _ rfl rfl rfl
        have h83 : vs 83 = .agg #[.int .i64 0, .bool true, .int .u64 (f : Int)] := hm 37 _ _ _ rfl rfl rfl
        have h84 : vs 84 = .int .u64 (f : Int) := hm 38 _ _ _ rfl rfl rfl
        have h85 : vs 85 = .agg #[.int .i64 0, .bool true, .int .u64 (f : Int)] := hm 39 _ _ _ rfl rfl rfl
        have h86 : vs 86 = .bool true := hm 40 _ _ _ rfl rfl rfl
        have h87 : vs 87 = .bool true := hm 41 _ _ _ rfl rfl rfl
        have h88 : vs 88 = .bool true := hm 42 _ _ _ rfl rfl rfl
        have h89 : vs 89 = .agg (#[.int .i64 F, .bool H, .float .f64 p]) := hm 43 _ _ _ rfl rfl rfl
        have h90 : vs 90 = .agg (#[.int .i64 G, .bool I, .float .f64 q]) := hm 44 _ _ _ rfl rfl rfl
        have h91 : vs 91 = .bool (A && B && S) := hm 45 _ _ _ rfl rfl rfl
        have h92 : vs 92 = .bool (A && B && S) := hm 46 _ _ _ rfl rfl rfl
        have h93 : vs 93 = .bool true := hm 47 _ _ _ rfl rfl rfl
        have h94 : vs 94 = .bool true := hm 48 _ _ _ rfl rfl rfl
        clear hne hlo
        simp only [fill, List.filterMap, List.take, List.drop, List.setIfInBounds_toArray, List.set_cons_zero, List.set_cons_succ, h46, h47, h48, h50, h51, h52, h53, h54, h55, h56, h57, h58, h59, h60, h61, h62, h63, h64, h65, h66, h67, h68, h69, h70, h71, h72, h73, h74, h75, h76, h77, h78, h79, h80, h81, h82, h83, h84, h85, h86, h87, h88, h89, h90, h91, h92, h93, h94]
        clear hm h46 h47 h48 h50 h51 h52 h53 h54 h55 h56 h57 h58 h59 h60 h61 h62 h63 h64 h65 h66 h67 h68 h69 h70 h71 h72 h73 h74 h75 h76 h77 h78 h79 h80 h81 h82 h83 h84 h85 h86 h87 h88 h89 h90 h91 h92 h93 h94
        go_wp2
        go_ret
        exact ⟨rfl, belT hb1 hB⟩
end Go.Proofs.Ytniphfkipjpikaa
