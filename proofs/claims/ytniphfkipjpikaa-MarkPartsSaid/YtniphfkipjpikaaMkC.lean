/- Contracts: whether a mark covers another; the join of many marks, in the program and in the document; the document's marks as marks. -/
import Derived.Test.YtniphfkipjpikaaMkB
import Derived.Test.YtniphfkipjpikaaSl
namespace Go.Proofs.Ytniphfkipjpikaa
open Go.RowKit Flt

theorem calls_is {P : Program} {f : FuncId} {args : Array Value} {w : World} {v u : Value} {B : World → Prop} (h : Calls P f args w fun e w' => e = .returned v ∧ B w') (e : v = u) : Calls P f args w fun e w' => e = .returned u ∧ B w' := e ▸ h

/-- Does it cover? -/
def Mk.covers (a b : Mk) : Bool := a.right && b.right && (a.join b).same a

set_option maxHeartbeats 800000 in
theorem covers_any (F : Int) (H : Bool) (p : Nat) (G : Int) (I : Bool) (q : Nat) (hp : p < 18446744073709551616) (hq : q < 18446744073709551616) (w : World) :
    Calls Try.prog 25 #[.agg #[.int .i64 F, .bool H, .float .f64 p], .agg #[.int .i64 G, .bool I, .float .f64 q]] w fun e w' => e = .returned (.bool (Mk.covers ⟨F, H, p⟩ ⟨G, I, q⟩)) ∧ Below w.heap.size w w' := by
  obtain ⟨A, hA⟩ : ∃ A, rightM F H p = A := ⟨_, rfl⟩
  obtain ⟨B, hB0⟩ : ∃ B, rightM G I q = B := ⟨_, rfl⟩
  obtain ⟨S, hS⟩ : ∃ S, sameM (max F G) (H || I) (priceJ H p I q) F H p = S := ⟨_, rfl⟩
  have hj := priceJ_lt (H := H) (G := I) hp hq
  have hR : Mk.covers ⟨F, H, p⟩ ⟨G, I, q⟩ = (A && B && S) := by rw [← hA, ← hB0, ← hS]; rfl
  rw [hR]
  have kA := fun w => calls_is (mright_any F H p hp w) (by rw [hA])
  have kB := fun w => calls_is (mright_any G I q hq w) (by rw [hB0])
  have kS := fun w => calls_is (msame_any (max F G) (H || I) (priceJ H p I q) F H p hj hp w) (by rw [hS])
  clear hA hB0 hS hR
  cases A
  · go_enter Try.func25, Try.ntmps25
    go_wp2
    refine wp_region_words mixed 13 ([] :: [5] :: [6] :: [7] :: [8, 7] :: [7, 9] :: [10] :: [11] :: [11] :: [12, 13, 11] :: [11] :: [14, 15, 11] :: [11, 16] :: []) (isV (.agg (#[.int .i64 F, .bool H, .float .f64 p])) :: isV (.bool false) :: isV (.bool false) :: isV (undef) :: isV (undef) :: isV (.bool false) :: isV (.bool false) :: isV (undef) :: isV (undef) :: isV (undef) :: isV (undef) :: isV (undef) :: isV (.bool false) :: []) (by decide) (by kernel_rfl)
      ⟨stab_isV _, stab_isV _, stab_isV _, stab_isV _, stab_isV _, stab_isV _, stab_isV _, stab_isV _, stab_isV _, stab_isV _, stab_isV _, stab_isV _, stab_isV _, trivial⟩ ⟨?_, ?_, ?_, ?_, ?_, ?_, ?_, ?_, ?_, ?_, ?_, ?_, ?_, trivial⟩ ?_
    · intro vs wq hB hm
      have hl : look wq (w.heap.size) = some (.cells (#[.int .i64 F, .bool H, .float .f64 p]) 29 (0, 0)) := by rw [look_below hB (by first | omega | (simp only [World.size_alloc]; omega) | exact look_lt (by assumption) | (simp only [World.size_alloc, World.size_setCell]; omega) | (simp; omega))]; first | assumption | go_simp
      have hc0 : World.cell? wq ⟨w.heap.size, 0, none⟩ = some (.int .i64 F) := by rw [look_cell hl]; rfl
      have hc1 : World.cell? wq ⟨w.heap.size, 1, none⟩ = some (.bool H) := by rw [look_cell hl]; rfl
      have hc2 : World.cell? wq ⟨w.heap.size, 2, none⟩ = some (.float .f64 p) := by rw [look_cell hl]; rfl
      clear hm
      simp only [fill]
      go_wp2
      exact ⟨_, rfl, rfl, Below.refl _ _, trivial⟩
    · intro vs wq hB hm
      have h5 : vs 5 = .agg (#[.int .i64 F, .bool H, .float .f64 p]) := meets_get hm 0 rfl rfl rfl rfl
      clear hm
      simp only [fill, h5]
      go_wp2_with fail
      refine (kA _).mono ?_
      rintro e w1 ⟨rfl, hb1⟩
      go_wp2
      exact ⟨_, rfl, rfl, hb1, trivial⟩
    · intro vs wq hB hm
      have h6 : vs 6 = .bool false := meets_get hm 1 rfl rfl rfl rfl
      clear hm
      simp only [fill, h6]
      go_wp2
      exact ⟨_, rfl, rfl, Below.refl _ _, trivial⟩
    · intro vs wq hB hm
      have h7 : vs 7 = .bool false := meets_get hm 2 rfl rfl rfl rfl
      clear hm
      simp only [fill, h7]
      refine wpList_skip (by rfl) ?_
      exact ⟨_, rfl, rfl, Below.refl _ _, trivial⟩
    · intro vs wq hB hm
      have h8 : vs 8 = undef := meets_get hm 3 rfl rfl rfl rfl
      have h7 : vs 7 = .bool false := meets_get hm 2 rfl rfl rfl rfl
      clear hm
      simp only [fill, h8, h7]
      refine wpList_skip (by rfl) ?_
      exact ⟨_, rfl, rfl, Below.refl _ _, trivial⟩
    · intro vs wq hB hm
      have h7 : vs 7 = .bool false := meets_get hm 2 rfl rfl rfl rfl
      have h9 : vs 9 = undef := meets_get hm 4 rfl rfl rfl rfl
      clear hm
      simp only [fill, h7, h9]
      go_wp2
      exact ⟨_, rfl, rfl, Below.refl _ _, trivial⟩
    · intro vs wq hB hm
      have h10 : vs 10 = .bool false := meets_get hm 5 rfl rfl rfl rfl
      clear hm
      simp only [fill, h10]
      go_wp2
      exact ⟨_, rfl, rfl, Below.refl _ _, trivial⟩
    · intro vs wq hB hm
      have h11 : vs 11 = .bool false := meets_get hm 6 rfl rfl rfl rfl
      clear hm
      simp only [fill, h11]
      refine wpList_skip (by rfl) ?_
      exact ⟨_, rfl, rfl, Below.refl _ _, trivial⟩
    · intro vs wq hB hm
      have h11 : vs 11 = .bool false := meets_get hm 6 rfl rfl rfl rfl
      clear hm
      simp only [fill, h11]
      refine wpList_skip (by rfl) ?_
      exact ⟨_, rfl, rfl, Below.refl _ _, trivial⟩
    · intro vs wq hB hm
      have h12 : vs 12 = undef := meets_get hm 7 rfl rfl rfl rfl
      have h13 : vs 13 = undef := meets_get hm 8 rfl rfl rfl rfl
      have h11 : vs 11 = .bool false := meets_get hm 6 rfl rfl rfl rfl
      clear hm
      simp only [fill, h12, h13, h11]
      refine wpList_skip (by rfl) ?_
      exact ⟨_, rfl, rfl, Below.refl _ _, trivial⟩
    · intro vs wq hB hm
      have h11 : vs 11 = .bool false := meets_get hm 6 rfl rfl rfl rfl
      clear hm
      simp only [fill, h11]
      refine wpList_skip (by rfl) ?_
      exact ⟨_, rfl, rfl, Below.refl _ _, trivial⟩
    · intro vs wq hB hm
      have h14 : vs 14 = undef := meets_get hm 9 rfl rfl rfl rfl
      have h15 : vs 15 = undef := meets_get hm 10 rfl rfl rfl rfl
      have h11 : vs 11 = .bool false := meets_get hm 6 rfl rfl rfl rfl
      clear hm
      simp only [fill, h14, h15, h11]
      refine wpList_skip (by rfl) ?_
      exact ⟨_, rfl, rfl, Below.refl _ _, trivial⟩
    · intro vs wq hB hm
      have h11 : vs 11 = .bool false := meets_get hm 6 rfl rfl rfl rfl
      have h16 : vs 16 = undef := meets_get hm 11 rfl rfl rfl rfl
      clear hm
      simp only [fill, h11, h16]
      go_wp2
      exact ⟨_, rfl, rfl, Below.refl _ _, trivial⟩
    intro vs wq hB hm hne hlo
    have h5 : vs 5 = .agg (#[.int .i64 F, .bool H, .float .f64 p]) := hm 0 _ _ _ rfl rfl rfl
    have h6 : vs 6 = .bool false := hm 1 _ _ _ rfl rfl rfl
    have h7 : vs 7 = .bool false := hm 2 _ _ _ rfl rfl rfl
    have h8 : vs 8 = undef := hm 3 _ _ _ rfl rfl rfl
    have h9 : vs 9 = undef := hm 4 _ _ _ rfl rfl rfl
    have h10 : vs 10 = .bool false := hm 5 _ _ _ rfl rfl rfl
    have h11 : vs 11 = .bool false := hm 6 _ _ _ rfl rfl rfl
    have h12 : vs 12 = undef := hm 7 _ _ _ rfl rfl rfl
    have h13 : vs 13 = undef := hm 8 _ _ _ rfl rfl rfl
    have h14 : vs 14 = undef := hm 9 _ _ _ rfl rfl rfl
    have h15 : vs 15 = undef := hm 10 _ _ _ rfl rfl rfl
    have h16 : vs 16 = undef := hm 11 _ _ _ rfl rfl rfl
    have h17 : vs 17 = .bool false := hm 12 _ _ _ rfl rfl rfl
    clear hne hlo
    simp only [fill, List.filterMap, List.take, List.drop, List.setIfInBounds_toArray, List.set_cons_zero, List.set_cons_succ, h5, h6, h7, h8, h9, h10, h11, h12, h13, h14, h15, h16, h17]
    clear hm h5 h6 h7 h8 h9 h10 h11 h12 h13 h14 h15 h16 h17
    go_wp2
    go_ret
    exact ⟨rfl, belT (belA (belA (bel0 _) _) _) hB⟩
  · cases B
    · go_enter Try.func25, Try.ntmps25
      go_wp2
      refine wp_region_words mixed 13 ([] :: [5] :: [6] :: [7] :: [8, 7] :: [7, 9] :: [10] :: [11] :: [11] :: [12, 13, 11] :: [11] :: [14, 15, 11] :: [11, 16] :: []) (isV (.agg (#[.int .i64 F, .bool H, .float .f64 p])) :: isV (.bool true) :: isV (.bool true) :: isV (.agg (#[.int .i64 G, .bool I, .float .f64 q])) :: isV (.bool false) :: isV (.bool false) :: isV (.bool false) :: isV (undef) :: isV (undef) :: isV (undef) :: isV (undef) :: isV (undef) :: isV (.bool false) :: []) (by decide) (by kernel_rfl)
        ⟨stab_isV _, stab_isV _, stab_isV _, stab_isV _, stab_isV _, stab_isV _, stab_isV _, stab_isV _, stab_isV _, stab_isV _, stab_isV _, stab_isV _, stab_isV _, trivial⟩ ⟨?_, ?_, ?_, ?_, ?_, ?_, ?_, ?_, ?_, ?_, ?_, ?_, ?_, trivial⟩ ?_
      · intro vs wq hB hm
        have hl : look wq (w.heap.size) = some (.cells (#[.int .i64 F, .bool H, .float .f64 p]) 29 (0, 0)) := by rw [look_below hB (by first | omega | (simp only [World.size_alloc]; omega) | exact look_lt (by assumption) | (simp only [World.size_alloc, World.size_setCell]; omega) | (simp; omega))]; first | assumption | go_simp
        have hc0 : World.cell? wq ⟨w.heap.size, 0, none⟩ = some (.int .i64 F) := by rw [look_cell hl]; rfl
        have hc1 : World.cell? wq ⟨w.heap.size, 1, none⟩ = some (.bool H) := by rw [look_cell hl]; rfl
        have hc2 : World.cell? wq ⟨w.heap.size, 2, none⟩ = some (.float .f64 p) := by rw [look_cell hl]; rfl
        clear hm
        simp only [fill]
        go_wp2
        exact ⟨_, rfl, rfl, Below.refl _ _, trivial⟩
      · intro vs wq hB hm
        have h5 : vs 5 = .agg (#[.int .i64 F, .bool H, .float .f64 p]) := meets_get hm 0 rfl rfl rfl rfl
        clear hm
        simp only [fill, h5]
        go_wp2_with fail
        refine (kA _).mono ?_
        rintro e w1 ⟨rfl, hb1⟩
        go_wp2
        exact ⟨_, rfl, rfl, hb1, trivial⟩
      · intro vs wq hB hm
        have h6 : vs 6 = .bool true := meets_get hm 1 rfl rfl rfl rfl
        clear hm
        simp only [fill, h6]
        go_wp2
        exact ⟨_, rfl, rfl, Below.refl _ _, trivial⟩
      · intro vs wq hB hm
        have hl : look wq (w.heap.size + 1) = some (.cells (#[.int .i64 G, .bool I, .float .f64 q]) 29 (0, 0)) := by rw [look_below hB (by first | omega | (simp only [World.size_alloc]; omega) | exact look_lt (by assumption) | (simp only [World.size_alloc, World.size_setCell]; omega) | (simp; omega))]; first | assumption | go_simp
        have hc0 : World.cell? wq ⟨w.heap.size + 1, 0, none⟩ = some (.int .i64 G) := by rw [look_cell hl]; rfl
        have hc1 : World.cell? wq ⟨w.heap.size + 1, 1, none⟩ = some (.bool I) := by rw [look_cell hl]; rfl
        have hc2 : World.cell? wq ⟨w.heap.size + 1, 2, none⟩ = some (.float .f64 q) := by rw [look_cell hl]; rfl
        have h7 : vs 7 = .bool true := meets_get hm 2 rfl rfl rfl rfl
        clear hm
        simp only [fill, h7]
        go_wp2
        exact ⟨_, rfl, rfl, Below.refl _ _, trivial⟩
      · intro vs wq hB hm
        have h8 : vs 8 = .agg (#[.int .i64 G, .bool I, .float .f64 q]) := meets_get hm 3 rfl rfl rfl rfl
        have h7 : vs 7 = .bool true := meets_get hm 2 rfl rfl rfl rfl
        clear hm
        simp only [fill, h8, h7]
        go_wp2_with fail
        refine (kB _).mono ?_
        rintro e w1 ⟨rfl, hb1⟩
        go_wp2
        exact ⟨_, rfl, rfl, hb1, trivial⟩
      · intro vs wq hB hm
        have h7 : vs 7 = .bool true := meets_get hm 2 rfl rfl rfl rfl
        have h9 : vs 9 = .bool false := meets_get hm 4 rfl rfl rfl rfl
        clear hm
        simp only [fill, h7, h9]
        go_wp2
        exact ⟨_, rfl, rfl, Below.refl _ _, trivial⟩
      · intro vs wq hB hm
        have h10 : vs 10 = .bool false := meets_get hm 5 rfl rfl rfl rfl
        clear hm
        simp only [fill, h10]
        go_wp2
        exact ⟨_, rfl, rfl, Below.refl _ _, trivial⟩
      · intro vs wq hB hm
        have h11 : vs 11 = .bool false := meets_get hm 6 rfl rfl rfl rfl
        clear hm
        simp only [fill, h11]
        refine wpList_skip (by rfl) ?_
        exact ⟨_, rfl, rfl, Below.refl _ _, trivial⟩
      · intro vs wq hB hm
        have h11 : vs 11 = .bool false := meets_get hm 6 rfl rfl rfl rfl
        clear hm
        simp only [fill, h11]
        refine wpList_skip (by rfl) ?_
        exact ⟨_, rfl, rfl, Below.refl _ _, trivial⟩
      · intro vs wq hB hm
        have h12 : vs 12 = undef := meets_get hm 7 rfl rfl rfl rfl
        have h13 : vs 13 = undef := meets_get hm 8 rfl rfl rfl rfl
        have h11 : vs 11 = .bool false := meets_get hm 6 rfl rfl rfl rfl
        clear hm
        simp only [fill, h12, h13, h11]
        refine wpList_skip (by rfl) ?_
        exact ⟨_, rfl, rfl, Below.refl _ _, trivial⟩
      · intro vs wq hB hm
        have h11 : vs 11 = .bool false := meets_get hm 6 rfl rfl rfl rfl
        clear hm
        simp only [fill, h11]
        refine wpList_skip (by rfl) ?_
        exact ⟨_, rfl, rfl, Below.refl _ _, trivial⟩
      · intro vs wq hB hm
        have h14 : vs 14 = undef := meets_get hm 9 rfl rfl rfl rfl
        have h15 : vs 15 = undef := meets_get hm 10 rfl rfl rfl rfl
        have h11 : vs 11 = .bool false := meets_get hm 6 rfl rfl rfl rfl
        clear hm
        simp only [fill, h14, h15, h11]
        refine wpList_skip (by rfl) ?_
        exact ⟨_, rfl, rfl, Below.refl _ _, trivial⟩
      · intro vs wq hB hm
        have h11 : vs 11 = .bool false := meets_get hm 6 rfl rfl rfl rfl
        have h16 : vs 16 = undef := meets_get hm 11 rfl rfl rfl rfl
        clear hm
        simp only [fill, h11, h16]
        go_wp2
        exact ⟨_, rfl, rfl, Below.refl _ _, trivial⟩
      intro vs wq hB hm hne hlo
      have h5 : vs 5 = .agg (#[.int .i64 F, .bool H, .float .f64 p]) := hm 0 _ _ _ rfl rfl rfl
      have h6 : vs 6 = .bool true := hm 1 _ _ _ rfl rfl rfl
      have h7 : vs 7 = .bool true := hm 2 _ _ _ rfl rfl rfl
      have h8 : vs 8 = .agg (#[.int .i64 G, .bool I, .float .f64 q]) := hm 3 _ _ _ rfl rfl rfl
      have h9 : vs 9 = .bool false := hm 4 _ _ _ rfl rfl rfl
      have h10 : vs 10 = .bool false := hm 5 _ _ _ rfl rfl rfl
      have h11 : vs 11 = .bool false := hm 6 _ _ _ rfl rfl rfl
      have h12 : vs 12 = undef := hm 7 _ _ _ rfl rfl rfl
      have h13 : vs 13 = undef := hm 8 _ _ _ rfl rfl rfl
      have h14 : vs 14 = undef := hm 9 _ _ _ rfl rfl rfl
      have h15 : vs 15 = undef := hm 10 _ _ _ rfl rfl rfl
      have h16 : vs 16 = undef := hm 11 _ _ _ rfl rfl rfl
      have h17 : vs 17 = .bool false := hm 12 _ _ _ rfl rfl rfl
      clear hne hlo
      simp only [fill, List.filterMap, List.take, List.drop, List.setIfInBounds_toArray, List.set_cons_zero, List.set_cons_succ, h5, h6, h7, h8, h9, h10, h11, h12, h13, h14, h15, h16, h17]
      clear hm h5 h6 h7 h8 h9 h10 h11 h12 h13 h14 h15 h16 h17
      go_wp2
      go_ret
      exact ⟨rfl, belT (belA (belA (bel0 _) _) _) hB⟩
    · go_enter Try.func25, Try.ntmps25
      go_wp2
      refine wp_region_words mixed 13 ([] :: [5] :: [6] :: [7] :: [8, 7] :: [7, 9] :: [10] :: [11] :: [11] :: [12, 13, 11] :: [11] :: [14, 15, 11] :: [11, 16] :: []) (isV (.agg (#[.int .i64 F, .bool H, .float .f64 p])) :: isV (.bool true) :: isV (.bool true) :: isV (.agg (#[.int .i64 G, .bool I, .float .f64 q])) :: isV (.bool true) :: isV (.bool true) :: isV (.bool true) :: isV (.agg (#[.int .i64 F, .bool H, .float .f64 p])) :: isV (.agg (#[.int .i64 G, .bool I, .float .f64 q])) :: isV (.agg #[.int .i64 (max F G), .bool (H || I), .float .f64 (priceJ H p I q)]) :: isV (.agg (#[.int .i64 F, .bool H, .float .f64 p])) :: isV (.bool S) :: isV (.bool S) :: []) (by decide) (by kernel_rfl)
        ⟨stab_isV _, stab_isV _, stab_isV _, stab_isV _, stab_isV _, stab_isV _, stab_isV _, stab_isV _, stab_isV _, stab_isV _, stab_isV _, stab_isV _, stab_isV _, trivial⟩ ⟨?_, ?_, ?_, ?_, ?_, ?_, ?_, ?_, ?_, ?_, ?_, ?_, ?_, trivial⟩ ?_
      · intro vs wq hB hm
        have hl : look wq (w.heap.size) = some (.cells (#[.int .i64 F, .bool H, .float .f64 p]) 29 (0, 0)) := by rw [look_below hB (by first | omega | (simp only [World.size_alloc]; omega) | exact look_lt (by assumption) | (simp only [World.size_alloc, World.size_setCell]; omega) | (simp; omega))]; first | assumption | go_simp
        have hc0 : World.cell? wq ⟨w.heap.size, 0, none⟩ = some (.int .i64 F) := by rw [look_cell hl]; rfl
        have hc1 : World.cell? wq ⟨w.heap.size, 1, none⟩ = some (.bool H) := by rw [look_cell hl]; rfl
        have hc2 : World.cell? wq ⟨w.heap.size, 2, none⟩ = some (.float .f64 p) := by rw [look_cell hl]; rfl
        clear hm
        simp only [fill]
        go_wp2
        exact ⟨_, rfl, rfl, Below.refl _ _, trivial⟩
      · intro vs wq hB hm
        have h5 : vs 5 = .agg (#[.int .i64 F, .bool H, .float .f64 p]) := meets_get hm 0 rfl rfl rfl rfl
        clear hm
        simp only [fill, h5]
        go_wp2_with fail
        refine (kA _).mono ?_
        rintro e w1 ⟨rfl, hb1⟩
        go_wp2
        exact ⟨_, rfl, rfl, hb1, trivial⟩
      · intro vs wq hB hm
        have h6 : vs 6 = .bool true := meets_get hm 1 rfl rfl rfl rfl
        clear hm
        simp only [fill, h6]
        go_wp2
        exact ⟨_, rfl, rfl, Below.refl _ _, trivial⟩
      · intro vs wq hB hm
        have hl : look wq (w.heap.size + 1) = some (.cells (#[.int .i64 G, .bool I, .float .f64 q]) 29 (0, 0)) := by rw [look_below hB (by first | omega | (simp only [World.size_alloc]; omega) | exact look_lt (by assumption) | (simp only [World.size_alloc, World.size_setCell]; omega) | (simp; omega))]; first | assumption | go_simp
        have hc0 : World.cell? wq ⟨w.heap.size + 1, 0, none⟩ = some (.int .i64 G) := by rw [look_cell hl]; rfl
        have hc1 : World.cell? wq ⟨w.heap.size + 1, 1, none⟩ = some (.bool I) := by rw [look_cell hl]; rfl
        have hc2 : World.cell? wq ⟨w.heap.size + 1, 2, none⟩ = some (.float .f64 q) := by rw [look_cell hl]; rfl
        have h7 : vs 7 = .bool true := meets_get hm 2 rfl rfl rfl rfl
        clear hm
        simp only [fill, h7]
        go_wp2
        exact ⟨_, rfl, rfl, Below.refl _ _, trivial⟩
      · intro vs wq hB hm
        have h8 : vs 8 = .agg (#[.int .i64 G, .bool I, .float .f64 q]) := meets_get hm 3 rfl rfl rfl rfl
        have h7 : vs 7 = .bool true := meets_get hm 2 rfl rfl rfl rfl
        clear hm
        simp only [fill, h8, h7]
        go_wp2_with fail
        refine (kB _).mono ?_
        rintro e w1 ⟨rfl, hb1⟩
        go_wp2
        exact ⟨_, rfl, rfl, hb1, trivial⟩
      · intro vs wq hB hm
        have h7 : vs 7 = .bool true := meets_get hm 2 rfl rfl rfl rfl
        have h9 : vs 9 = .bool true := meets_get hm 4 rfl rfl rfl rfl
        clear hm
        simp only [fill, h7, h9]
        go_wp2
        exact ⟨_, rfl, rfl, Below.refl _ _, trivial⟩
      · intro vs wq hB hm
        have h10 : vs 10 = .bool true := meets_get hm 5 rfl rfl rfl rfl
        clear hm
        simp only [fill, h10]
        go_wp2
        exact ⟨_, rfl, rfl, Below.refl _ _, trivial⟩
      · intro vs wq hB hm
        have hl : look wq (w.heap.size) = some (.cells (#[.int .i64 F, .bool H, .float .f64 p]) 29 (0, 0)) := by rw [look_below hB (by first | omega | (simp only [World.size_alloc]; omega) | exact look_lt (by assumption) | (simp only [World.size_alloc, World.size_setCell]; omega) | (simp; omega))]; first | assumption | go_simp
        have hc0 : World.cell? wq ⟨w.heap.size, 0, none⟩ = some (.int .i64 F) := by rw [look_cell hl]; rfl
        have hc1 : World.cell? wq ⟨w.heap.size, 1, none⟩ = some (.bool H) := by rw [look_cell hl]; rfl
        have hc2 : World.cell? wq ⟨w.heap.size, 2, none⟩ = some (.float .f64 p) := by rw [look_cell hl]; rfl
        have h11 : vs 11 = .bool true := meets_get hm 6 rfl rfl rfl rfl
        clear hm
        simp only [fill, h11]
        go_wp2
        exact ⟨_, rfl, rfl, Below.refl _ _, trivial⟩
      · intro vs wq hB hm
        have hl : look wq (w.heap.size + 1) = some (.cells (#[.int .i64 G, .bool I, .float .f64 q]) 29 (0, 0)) := by rw [look_below hB (by first | omega | (simp only [World.size_alloc]; omega) | exact look_lt (by assumption) | (simp only [World.size_alloc, World.size_setCell]; omega) | (simp; omega))]; first | assumption | go_simp
        have hc0 : World.cell? wq ⟨w.heap.size + 1, 0, none⟩ = some (.int .i64 G) := by rw [look_cell hl]; rfl
        have hc1 : World.cell? wq ⟨w.heap.size + 1, 1, none⟩ = some (.bool I) := by rw [look_cell hl]; rfl
        have hc2 : World.cell? wq ⟨w.heap.size + 1, 2, none⟩ = some (.float .f64 q) := by rw [look_cell hl]; rfl
        have h11 : vs 11 = .bool true := meets_get hm 6 rfl rfl rfl rfl
        clear hm
        simp only [fill, h11]
        go_wp2
        exact ⟨_, rfl, rfl, Below.refl _ _, trivial⟩
      · intro vs wq hB hm
        have h12 : vs 12 = .agg (#[.int .i64 F, .bool H, .float .f64 p]) := meets_get hm 7 rfl rfl rfl rfl
        have h13 : vs 13 = .agg (#[.int .i64 G, .bool I, .float .f64 q]) := meets_get hm 8 rfl rfl rfl rfl
        have h11 : vs 11 = .bool true := meets_get hm 6 rfl rfl rfl rfl
        clear hm
        simp only [fill, h12, h13, h11]
        go_wp2_with fail
        refine (join_any F H p G I q hp hq _).mono ?_
        rintro e w1 ⟨rfl, hb1⟩
        go_wp2
        exact ⟨_, rfl, rfl, hb1, trivial⟩
      · intro vs wq hB hm
        have hl : look wq (w.heap.size) = some (.cells (#[.int .i64 F, .bool H, .float .f64 p]) 29 (0, 0)) := by rw [look_below hB (by first | omega | (simp only [World.size_alloc]; omega) | exact look_lt (by assumption) | (simp only [World.size_alloc, World.size_setCell]; omega) | (simp; omega))]; first | assumption | go_simp
        have hc0 : World.cell? wq ⟨w.heap.size, 0, none⟩ = some (.int .i64 F) := by rw [look_cell hl]; rfl
        have hc1 : World.cell? wq ⟨w.heap.size, 1, none⟩ = some (.bool H) := by rw [look_cell hl]; rfl
        have hc2 : World.cell? wq ⟨w.heap.size, 2, none⟩ = some (.float .f64 p) := by rw [look_cell hl]; rfl
        have h11 : vs 11 = .bool true := meets_get hm 6 rfl rfl rfl rfl
        clear hm
        simp only [fill, h11]
        go_wp2
        exact ⟨_, rfl, rfl, Below.refl _ _, trivial⟩
      · intro vs wq hB hm
        have h14 : vs 14 = .agg #[.int .i64 (max F G), .bool (H || I), .float .f64 (priceJ H p I q)] := meets_get hm 9 rfl rfl rfl rfl
        have h15 : vs 15 = .agg (#[.int .i64 F, .bool H, .float .f64 p]) := meets_get hm 10 rfl rfl rfl rfl
        have h11 : vs 11 = .bool true := meets_get hm 6 rfl rfl rfl rfl
        clear hm
        simp only [fill, h14, h15, h11]
        go_wp2_with fail
        refine (kS _).mono ?_
        rintro e w1 ⟨rfl, hb1⟩
        go_wp2
        exact ⟨_, rfl, rfl, hb1, trivial⟩
      · intro vs wq hB hm
        have h11 : vs 11 = .bool true := meets_get hm 6 rfl rfl rfl rfl
        have h16 : vs 16 = .bool S := meets_get hm 11 rfl rfl rfl rfl
        clear hm
        simp only [fill, h11, h16]
        go_wp2
        exact ⟨_, rfl, rfl, Below.refl _ _, trivial⟩
      intro vs wq hB hm hne hlo
      have h5 : vs 5 = .agg (#[.int .i64 F, .bool H, .float .f64 p]) := hm 0 _ _ _ rfl rfl rfl
      have h6 : vs 6 = .bool true := hm 1 _ _ _ rfl rfl rfl
      have h7 : vs 7 = .bool true := hm 2 _ _ _ rfl rfl rfl
      have h8 : vs 8 = .agg (#[.int .i64 G, .bool I, .float .f64 q]) := hm 3 _ _ _ rfl rfl rfl
      have h9 : vs 9 = .bool true := hm 4 _ _ _ rfl rfl rfl
      have h10 : vs 10 = .bool true := hm 5 _ _ _ rfl rfl rfl
      have h11 : vs 11 = .bool true := hm 6 _ _ _ rfl rfl rfl
      have h12 : vs 12 = .agg (#[.int .i64 F, .bool H, .float .f64 p]) := hm 7 _ _ _ rfl rfl rfl
      have h13 : vs 13 = .agg (#[.int .i64 G, .bool I, .float .f64 q]) := hm 8 _ _ _ rfl rfl rfl
      have h14 : vs 14 = .agg #[.int .i64 (max F G), .bool (H || I), .float .f64 (priceJ H p I q)] := hm 9 _ _ _ rfl rfl rfl
      have h15 : vs 15 = .agg (#[.int .i64 F, .bool H, .float .f64 p]) := hm 10 _ _ _ rfl rfl rfl
      have h16 : vs 16 = .bool S := hm 11 _ _ _ rfl rfl rfl
      have h17 : vs 17 = .bool S := hm 12 _ _ _ rfl rfl rfl
      clear hne hlo
      simp only [fill, List.filterMap, List.take, List.drop, List.setIfInBounds_toArray, List.set_cons_zero, List.set_cons_succ, h5, h6, h7, h8, h9, h10, h11, h12, h13, h14, h15, h16, h17]
      clear hm h5 h6 h7 h8 h9 h10 h11 h12 h13 h14 h15 h16 h17
      go_wp2
      go_ret
      exact ⟨rfl, belT (belA (belA (bel0 _) _) _) hB⟩

/-- The cells of a mark, as a list. -/
def mC (L : Nat → Mk) (k : Nat) : List Value := [.int .i64 (L k).flag, .bool (L k).has, .float .f64 (L k).price]
def rC (L : Nat → Mk) (k : Nat) : List Value := [.int .i64 (L k).flag, .bool (L k).has, .int .u64 ((L k).price : Int)]
theorem mC_len (L : Nat → Mk) (k : Nat) : (mC L k).length = 3 := rfl
theorem rC_len (L : Nat → Mk) (k : Nat) : (rC L k).length = 3 := rfl
theorem mC_ones (L : Nat → Mk) (k : Nat) : ∀ u ∈ mC L k, u.oneCell' = true := by intro u hu; simp [mC] at hu; rcases hu with rfl | rfl | rfl <;> rfl
theorem rC_ones (L : Nat → Mk) (k : Nat) : ∀ u ∈ rC L k, u.oneCell' = true := by intro u hu; simp [rC] at hu; rcases hu with rfl | rfl | rfl <;> rfl

set_option maxHeartbeats 800000 in
theorem mjoin_any (v : Value) (n : Nat) (L : Nat → Mk) (w : World) (hS : SliceAt w v n 3 (mC L)) (hL : ∀ k, k < n → (L k).price < 18446744073709551616) :
    Calls Try.prog 18 #[v] w fun e w' => e = .returned (.agg #[.int .i64 (foldM L n).flag, .bool (foldM L n).has, .float .f64 (foldM L n).price]) ∧ Below w.heap.size w w' := by
  obtain ⟨ad, cap, rfl, _, hn, hR⟩ := hS
  go_enter Try.func18, Try.ntmps18
  go_wp2
  go_loopw [8] (fun i wr => ∃ k : Nat, k ≤ n ∧ i = .int .i64 k ∧ Below w.heap.size w wr ∧ look wr w.heap.size = some (.cells #[.int .i64 0, .bool false, .float .f64 0] 29 (0, 0)) ∧ look wr (w.heap.size + 1) = some (.cells #[.int .i64 (foldM L k).flag, .bool (foldM L k).has, .float .f64 (foldM L k).price] 29 (0, 0))) (fun i _ => n - (intOf i).toNat)
  case atStart => exact ⟨0, Nat.zero_le _, rfl, belA (belA (bel0 _) _) _, by go_simp, by simp only [foldM, mk0]; go_simp⟩
  case round =>
    obtain ⟨k, hk, rfl, hB, h0, h1⟩ := hrel
    have hs0 := look_lt h1
    have hs1 := look_lt h0
    by_cases hlt : k < n
    · obtain ⟨b, off, rfl, hb, hR⟩ := hR.resolve_left (by omega)
      have hr : wr.rangeAt b (off + k * 3) (mC L k) := by
        intro j u hu
        rw [hB.cell hb]
        exact hR k hlt j u hu
      have hp := hL k hlt
      have hg := (fold_good (L := L) (k := k) (fun i hi => hL i (by omega))).2
      obtain ⟨r, hr0⟩ : ∃ r, (L k).right = r := ⟨_, rfl⟩
      have kA := fun w => calls_is (mright_any (L k).flag (L k).has (L k).price hp w) (u := .bool r) (by rw [← hr0]; rfl)
      have hf := hidP (show foldM L (k + 1) = if r = true then (foldM L k).join (L k) else foldM L k by rw [← hr0]; rfl)
      clear hr0
      unfold mC at hr
      go_wp2_with (refine wpList_load_mid rfl 29 _ rfl b (off + k * 3) rfl _ _ hr Try.underlying29 rfl mk_info ?_)
      refine (kA _).mono ?_
      rintro _ w1 ⟨rfl, hB1⟩
      have hBn := belT (belA hB (.cells #[.int .i64 (L k).flag, .bool (L k).has, .float .f64 (L k).price] 29)) hB1
      replace l0 : look w1 (w.heap.size) = some (.cells (#[.int .i64 0, .bool false, .float .f64 0]) 29 (0, 0)) := by rw [look_below hB1 (by first | omega | (simp only [World.size_alloc]; omega) | exact look_lt (by assumption) | (simp only [World.size_alloc, World.size_setCell]; omega) | (simp; omega))]; first | assumption | go_simp
      replace c00 : World.cell? w1 ⟨w.heap.size, 0, none⟩ = some (.int .i64 0) := by rw [look_cell l0]; rfl
      replace c01 : World.cell? w1 ⟨w.heap.size, 1, none⟩ = some (.bool false) := by rw [look_cell l0]; rfl
      replace c02 : World.cell? w1 ⟨w.heap.size, 2, none⟩ = some (.float .f64 0) := by rw [look_cell l0]; rfl
      replace f0 := look_frozen l0
      replace s0 := look_lt l0
      replace l1 : look w1 (w.heap.size + 1) = some (.cells (#[.int .i64 (foldM L k).flag, .bool (foldM L k).has, .float .f64 (foldM L k).price]) 29 (0, 0)) := by rw [look_below hB1 (by first | omega | (simp only [World.size_alloc]; omega) | exact look_lt (by assumption) | (simp only [World.size_alloc, World.size_setCell]; omega) | (simp; omega))]; first | assumption | go_simp
      replace c10 : World.cell? w1 ⟨w.heap.size + 1, 0, none⟩ = some (.int .i64 (foldM L k).flag) := by rw [look_cell l1]; rfl
      replace c11 : World.cell? w1 ⟨w.heap.size + 1, 1, none⟩ = some (.bool (foldM L k).has) := by rw [look_cell l1]; rfl
      replace c12 : World.cell? w1 ⟨w.heap.size + 1, 2, none⟩ = some (.float .f64 (foldM L k).price) := by rw [look_cell l1]; rfl
      replace f1 := look_frozen l1
      replace s1 := look_lt l1
      replace l5 : look w1 (wr.heap.size) = some (.cells (#[.int .i64 (L k).flag, .bool (L k).has, .float .f64 (L k).price]) 29 (0, 0)) := by rw [look_below hB1 (by first | omega | (simp only [World.size_alloc]; omega) | exact look_lt (by assumption) | (simp only [World.size_alloc, World.size_setCell]; omega) | (simp; omega))]; first | assumption | go_simp
      replace c50 : World.cell? w1 ⟨wr.heap.size, 0, none⟩ = some (.int .i64 (L k).flag) := by rw [look_cell l5]; rfl
      replace c51 : World.cell? w1 ⟨wr.heap.size, 1, none⟩ = some (.bool (L k).has) := by rw [look_cell l5]; rfl
      replace c52 : World.cell? w1 ⟨wr.heap.size, 2, none⟩ = some (.float .f64 (L k).price) := by rw [look_cell l5]; rfl
      replace f5 := look_frozen l5
      replace s5 := look_lt l5
      cases r
      · have hf' := hf.out
        rw [if_neg (by decide)] at hf'
        go_wp2
        go_roundw
        case rel => exact ⟨k + 1, by omega, by go_num, hBn, l0, by rw [hf']; exact l1⟩
        case measure => simp [intOf]; omega
      · have hf' := hf.out
        rw [if_pos rfl] at hf'
        have hf2 := hidP hf'
        clear hf' hf
        go_wp2_with fail
        refine (join_any (foldM L k).flag (foldM L k).has (foldM L k).price (L k).flag (L k).has (L k).price hg hp _).mono ?_
        rintro _ w2 ⟨rfl, hB2⟩
        have hBm := belT hBn hB2
        replace l0 : look w2 (w.heap.size) = some (.cells (#[.int .i64 0, .bool false, .float .f64 0]) 29 (0, 0)) := by rw [look_below hB2 (by first | omega | (simp only [World.size_alloc]; omega) | exact look_lt (by assumption) | (simp only [World.size_alloc, World.size_setCell]; omega) | (simp; omega))]; first | assumption | go_simp
        replace c00 : World.cell? w2 ⟨w.heap.size, 0, none⟩ = some (.int .i64 0) := by rw [look_cell l0]; rfl
        replace c01 : World.cell? w2 ⟨w.heap.size, 1, none⟩ = some (.bool false) := by rw [look_cell l0]; rfl
        replace c02 : World.cell? w2 ⟨w.heap.size, 2, none⟩ = some (.float .f64 0) := by rw [look_cell l0]; rfl
        replace f0 := look_frozen l0
        replace s0 := look_lt l0
        replace l1 : look w2 (w.heap.size + 1) = some (.cells (#[.int .i64 (foldM L k).flag, .bool (foldM L k).has, .float .f64 (foldM L k).price]) 29 (0, 0)) := by rw [look_below hB2 (by first | omega | (simp only [World.size_alloc]; omega) | exact look_lt (by assumption) | (simp only [World.size_alloc, World.size_setCell]; omega) | (simp; omega))]; first | assumption | go_simp
        replace c10 : World.cell? w2 ⟨w.heap.size + 1, 0, none⟩ = some (.int .i64 (foldM L k).flag) := by rw [look_cell l1]; rfl
        replace c11 : World.cell? w2 ⟨w.heap.size + 1, 1, none⟩ = some (.bool (foldM L k).has) := by rw [look_cell l1]; rfl
        replace c12 : World.cell? w2 ⟨w.heap.size + 1, 2, none⟩ = some (.float .f64 (foldM L k).price) := by rw [look_cell l1]; rfl
        replace f1 := look_frozen l1
        replace s1 := look_lt l1
        go_wp2
        go_roundw
        case rel => exact ⟨k + 1, by omega, by go_num, belR hBm (by omega) _, by rw [look_setRow, if_neg (by omega)]; exact l0, by rw [look_setRow, if_pos rfl, l1, hf2.out]; rfl⟩
        case measure => simp [intOf]; omega
    · obtain rfl : k = n := by omega
      go_wp2
      exact ret_mk (g := w.heap.size) (t := 29) (fr := (0, 0)) Try.results18 rfl (by go_simp) rfl rfl ⟨rfl, belR hB (Nat.le_refl _) _⟩
end Go.Proofs.Ytniphfkipjpikaa
