/- Contracts: two totals; a total as the document's; what must come of fixed calls. -/
import Derived.Test.YtniphfkipjpikaaMkE
namespace Go.Proofs.Ytniphfkipjpikaa
open Go.RowKit Flt

def sameTB (a b c : Int) (s : Nat) (d e f : Int) (t : Nat) : Bool := decide (a = d) && decide (b = e) && decide (c = f) && decide (s = t)
theorem sametotal_any (a b c : Int) (s : Nat) (d e f : Int) (t : Nat) (hs : s < 18446744073709551616) (ht : t < 18446744073709551616) (w : World) :
    Calls Try.prog 29 #[.agg #[.int .i64 a, .int .i64 b, .int .i64 c, .float .f64 s], .agg #[.int .i64 d, .int .i64 e, .int .i64 f, .float .f64 t]] w fun r w' => r = .returned (.bool (sameTB a b c s d e f t)) ∧ Below w.heap.size w w' := by
  unfold sameTB
  by_cases h1 : a = d
  · subst h1
    by_cases h2 : b = e
    · subst h2
      by_cases h3 : c = f
      · subst h3
        go_enter Try.func29, Try.ntmps29
        go_wp2_with fail
        refine (total_same s t hs ht _).mono ?_
        rintro _ _ ⟨rfl, rfl⟩
        go_wp2
        go_ret
        exact ⟨by simp, belA (belA (bel0 _) _) _⟩
      · go_enter Try.func29, Try.ntmps29
        go_wp2
        go_ret
        exact ⟨by simp [h3], belA (belA (bel0 _) _) _⟩
    · go_enter Try.func29, Try.ntmps29
      go_wp2
      go_ret
      exact ⟨by simp [h2], belA (belA (bel0 _) _) _⟩
  · go_enter Try.func29, Try.ntmps29
    go_wp2
    go_ret
    exact ⟨by simp [h1], belA (belA (bel0 _) _) _⟩
theorem astotal_any (a b c : Int) (s : Nat) (w : World) :
    Calls Try.prog 26 #[.agg #[.int .i64 a, .int .i64 b, .int .i64 c, .float .f64 s]] w fun r w' => r = .returned (.agg #[.int .i64 a, .int .i64 b, .int .i64 c, .int .u64 (s : Int)]) ∧ Below w.heap.size w w' := by
  go_enter Try.func26, Try.ntmps26
  go_wp2
  refine wp_region_words mixed 10 ([] :: [3] :: [] :: [5] :: [] :: [7] :: [] :: [9] :: [10] :: [4, 6, 8, 11] :: []) (isV (.pointer (some ⟨w.heap.size, 0, none⟩)) :: isV (.int .i64 a) :: isV (.pointer (some ⟨w.heap.size, 1, none⟩)) :: isV (.int .i64 b) :: isV (.pointer (some ⟨w.heap.size, 2, none⟩)) :: isV (.int .i64 c) :: isV (.pointer (some ⟨w.heap.size, 3, none⟩)) :: isV (.float .f64 s) :: isV (.int .u64 (s : Int)) :: isV (.agg #[.int .i64 a, .int .i64 b, .int .i64 c, .int .u64 (s : Int)]) :: []) (by decide) (by kernel_rfl)
    ⟨stab_isV _, stab_isV _, stab_isV _, stab_isV _, stab_isV _, stab_isV _, stab_isV _, stab_isV _, stab_isV _, stab_isV _, trivial⟩ ⟨?_, ?_, ?_, ?_, ?_, ?_, ?_, ?_, ?_, ?_, trivial⟩ ?_
  · intro vs wq hB hm
    clear hm
    simp only [fill]
    go_wp2
    exact ⟨_, rfl, rfl, Below.refl _ _, trivial⟩
  · intro vs wq hB hm
    have hl : look wq (w.heap.size) = some (.cells (#[.int .i64 a, .int .i64 b, .int .i64 c, .float .f64 s]) 47 (0, 0)) := by rw [look_below hB (by first | omega | (simp only [World.size_alloc]; omega) | exact look_lt (by assumption) | (simp only [World.size_alloc, World.size_setCell]; omega) | (simp; omega))]; first | assumption | go_simp
    have hc : World.cell? wq ⟨w.heap.size, 0, none⟩ = some (.int .i64 a) := by rw [look_cell hl]; rfl
    have h3 : vs 3 = .pointer (some ⟨w.heap.size, 0, none⟩) := meets_get hm 0 rfl rfl rfl rfl
    clear hm
    simp only [fill, h3]
    go_wp2
    exact ⟨_, rfl, rfl, Below.refl _ _, trivial⟩
  · intro vs wq hB hm
    clear hm
    simp only [fill]
    go_wp2
    exact ⟨_, rfl, rfl, Below.refl _ _, trivial⟩
  · intro vs wq hB hm
    have hl : look wq (w.heap.size) = some (.cells (#[.int .i64 a, .int .i64 b, .int .i64 c, .float .f64 s]) 47 (0, 0)) := by rw [look_below hB (by first | omega | (simp only [World.size_alloc]; omega) | exact look_lt (by assumption) | (simp only [World.size_alloc, World.size_setCell]; omega) | (simp; omega))]; first | assumption | go_simp
    have hc : World.cell? wq ⟨w.heap.size, 1, none⟩ = some (.int .i64 b) := by rw [look_cell hl]; rfl
    have h5 : vs 5 = .pointer (some ⟨w.heap.size, 1, none⟩) := meets_get hm 2 rfl rfl rfl rfl
    clear hm
    simp only [fill, h5]
    go_wp2
    exact ⟨_, rfl, rfl, Below.refl _ _, trivial⟩
  · intro vs wq hB hm
    clear hm
    simp only [fill]
    go_wp2
    exact ⟨_, rfl, rfl, Below.refl _ _, trivial⟩
  · intro vs wq hB hm
    have hl : look wq (w.heap.size) = some (.cells (#[.int .i64 a, .int .i64 b, .int .i64 c, .float .f64 s]) 47 (0, 0)) := by rw [look_below hB (by first | omega | (simp only [World.size_alloc]; omega) | exact look_lt (by assumption) | (simp only [World.size_alloc, World.size_setCell]; omega) | (simp; omega))]; first | assumption | go_simp
    have hc : World.cell? wq ⟨w.heap.size, 2, none⟩ = some (.int .i64 c) := by rw [look_cell hl]; rfl
    have h7 : vs 7 = .pointer (some ⟨w.heap.size, 2, none⟩) := meets_get hm 4 rfl rfl rfl rfl
    clear hm
    simp only [fill, h7]
    go_wp2
    exact ⟨_, rfl, rfl, Below.refl _ _, trivial⟩
  · intro vs wq hB hm
    clear hm
    simp only [fill]
    go_wp2
    exact ⟨_, rfl, rfl, Below.refl _ _, trivial⟩
  · intro vs wq hB hm
    have hl : look wq (w.heap.size) = some (.cells (#[.int .i64 a, .int .i64 b, .int .i64 c, .float .f64 s]) 47 (0, 0)) := by rw [look_below hB (by first | omega | (simp only [World.size_alloc]; omega) | exact look_lt (by assumption) | (simp only [World.size_alloc, World.size_setCell]; omega) | (simp; omega))]; first | assumption | go_simp
    have hc : World.cell? wq ⟨w.heap.size, 3, none⟩ = some (.float .f64 s) := by rw [look_cell hl]; rfl
    have h9 : vs 9 = .pointer (some ⟨w.heap.size, 3, none⟩) := meets_get hm 6 rfl rfl rfl rfl
    clear hm
    simp only [fill, h9]
    go_wp2
    exact ⟨_, rfl, rfl, Below.refl _ _, trivial⟩
  · intro vs wq hB hm
    have h10 : vs 10 = .float .f64 s := meets_get hm 7 rfl rfl rfl rfl
    clear hm
    simp only [fill, h10]
    go_wp2
    exact ⟨_, rfl, rfl, Below.refl _ _, trivial⟩
  · intro vs wq hB hm
    have h4 : vs 4 = .int .i64 a := meets_get hm 1 rfl rfl rfl rfl
    have h6 : vs 6 = .int .i64 b := meets_get hm 3 rfl rfl rfl rfl
    have h8 : vs 8 = .int .i64 c := meets_get hm 5 rfl rfl rfl rfl
    have h11 : vs 11 = .int .u64 (s : Int) := meets_get hm 8 rfl rfl rfl rfl
    clear hm
    simp only [fill, h4, h6, h8, h11]
    go_wp2
    exact ⟨_, rfl, rfl, Below.refl _ _, trivial⟩
  intro vs wq hB hm hne hlo
  have h3 : vs 3 = .pointer (some ⟨w.heap.size, 0, none⟩) := hm 0 _ _ _ rfl rfl rfl
  have h4 : vs 4 = .int .i64 a := hm 1 _ _ _ rfl rfl rfl
  have h5 : vs 5 = .pointer (some ⟨w.heap.size, 1, none⟩) := hm 2 _ _ _ rfl rfl rfl
  have h6 : vs 6 = .int .i64 b := hm 3 _ _ _ rfl rfl rfl
  have h7 : vs 7 = .pointer (some ⟨w.heap.size, 2, none⟩) := hm 4 _ _ _ rfl rfl rfl
  have h8 : vs 8 = .int .i64 c := hm 5 _ _ _ rfl rfl rfl
  have h9 : vs 9 = .pointer (some ⟨w.heap.size, 3, none⟩) := hm 6 _ _ _ rfl rfl rfl
  have h10 : vs 10 = .float .f64 s := hm 7 _ _ _ rfl rfl rfl
  have h11 : vs 11 = .int .u64 (s : Int) := hm 8 _ _ _ rfl rfl rfl
  have h12 : vs 12 = .agg #[.int .i64 a, .int .i64 b, .int .i64 c, .int .u64 (s : Int)] := hm 9 _ _ _ rfl rfl rfl
  clear hne hlo
  simp only [fill, List.filterMap, List.take, List.drop, List.setIfInBounds_toArray, List.set_cons_zero, List.set_cons_succ, h3, h4, h5, h6, h7, h8, h9, h10, h11, h12]
  clear hm h3 h4 h5 h6 h7 h8 h9 h10 h11 h12
  replace lr : look wq (w.heap.size + 1) = some (.cells (#[.int .i64 0, .int .i64 0, .int .i64 0, .int .u64 0]) 45 (0, 0)) := by rw [look_below hB (by first | omega | (simp only [World.size_alloc]; omega) | exact look_lt (by assumption) | (simp only [World.size_alloc, World.size_setCell]; omega) | (simp; omega))]; first | assumption | go_simp
  replace cr0 : World.cell? wq ⟨w.heap.size + 1, 0, none⟩ = some (.int .i64 0) := by rw [look_cell lr]; rfl
  replace cr1 : World.cell? wq ⟨w.heap.size + 1, 1, none⟩ = some (.int .i64 0) := by rw [look_cell lr]; rfl
  replace cr2 : World.cell? wq ⟨w.heap.size + 1, 2, none⟩ = some (.int .i64 0) := by rw [look_cell lr]; rfl
  replace cr3 : World.cell? wq ⟨w.heap.size + 1, 3, none⟩ = some (.int .u64 0) := by rw [look_cell lr]; rfl
  replace fr := look_frozen lr
  replace sr := look_lt lr
  go_wp2
  exact ret_rt (g := w.heap.size + 1) (t := 45) (fr := (0, 0)) Try.results26 rfl (by go_simp) rfl rfl ⟨rfl, belR (belT (belA (belA (bel0 _) _) _) hB) (by omega) _⟩

def four : Nat → Mk := fun k => ([⟨1, false, 0⟩, ⟨3, false, 0⟩, ⟨0, true, 9223372036854775808⟩, ⟨0, true, 0⟩] : List Mk).getD k mk0
def three : Nat → Mk := fun k => ([⟨0, true, 4609434218613702656⟩, ⟨2, false, 0⟩, ⟨0, true, 4621256167635550208⟩] : List Mk).getD k mk0
def threeQ : Nat → Int := fun k => ([2, 1, 0] : List Int).getD k 0

set_option maxRecDepth 100000 in
set_option maxHeartbeats 3200000 in
theorem alive07 (w : World) :
    Calls Try.prog 13 #[] w fun e w' => e = .returned (.bool true) ∧ Below w.heap.size w w' := by
  have f1 : flagV 1 = 1 := by decide
  have f3 : flagV 3 = 3 := by decide
  have f2 : flagV 2 = 2 := by decide
  have f4 : flagV 4 = 0 := by decide
  have kF1 := fun w => calls_is (mflag_any 1 w) (by rw [f1])
  have kF2 := fun w => calls_is (mflag_any 2 w) (by rw [f2])
  have kF3 := fun w => calls_is (mflag_any 3 w) (by rw [f3])
  have kF4 := fun w => calls_is (mflag_any 4 w) (by rw [f4])
  have p4 : ∀ k, k < 4 → (four k).price < 18446744073709551616 := by
    intro k hk
    have : k = 0 ∨ k = 1 ∨ k = 2 ∨ k = 3 := by omega
    rcases this with rfl | rfl | rfl | rfl <;> decide
  have p3 : ∀ k, k < 3 → (three k).price < 18446744073709551616 := by
    intro k hk
    have : k = 0 ∨ k = 1 ∨ k = 2 := by omega
    rcases this with rfl | rfl | rfl <;> decide
  have kJ := fun v w h => calls_is (mjoin_any v 4 four w h p4) (u := .agg #[.int .i64 3, .bool true, .float .f64 0]) (by
    have d1 : (foldM four 4).flag = 3 := by decide +kernel
    have d2 : (foldM four 4).has = true := by decide +kernel
    have d3 : (foldM four 4).price = 0 := by decide +kernel
    rw [d1, d2, d3])
  have kS := fun v u w h1 h2 => calls_is (msum_any v u 3 3 threeQ three w (by decide) (by decide) h1 h2 p3) (u := .agg #[.int .i64 2, .int .i64 3, .int .i64 1, .float .f64 4613937818241073152]) (by
    have d1 : (totF threeQ three (min 3 3)).lines = 2 := by decide +kernel
    have d2 : (totF threeQ three (min 3 3)).pieces = 3 := by decide +kernel
    have d3 : (totF threeQ three (min 3 3)).free = 1 := by decide +kernel
    have d4 : sumL (totF threeQ three (min 3 3)).prices = 4613937818241073152 := by decide +kernel
    rw [d1, d2, d3, d4]; rfl)
  have kC1 := fun w => calls_is (covers_any 3 true 0 0 true 9223372036854775808 (by decide) (by decide) w) (u := .bool true) (by
    have d : Mk.covers ⟨3, true, 0⟩ ⟨0, true, 9223372036854775808⟩ = true := by decide +kernel
    rw [d])
  have kC2 := fun w => calls_is (covers_any 0 true 9223372036854775808 3 true 0 (by decide) (by decide) w) (u := .bool false) (by
    have d : Mk.covers ⟨0, true, 9223372036854775808⟩ ⟨3, true, 0⟩ = false := by decide +kernel
    rw [d])
  have kM1 := fun w => calls_is (msame_any 3 true 0 3 true 0 (by decide) (by decide) w) (u := .bool true) (by
    have d : sameM 3 true 0 3 true 0 = true := by decide +kernel
    rw [d])
  have kM2 := fun w => calls_is (msame_any 0 false 0 0 false 0 (by decide) (by decide) w) (u := .bool true) (by
    have d : sameM 0 false 0 0 false 0 = true := by decide +kernel
    rw [d])
  have kT := fun w => calls_is (sametotal_any 2 3 1 4613937818241073152 2 3 1 4613937818241073152 (by decide) (by decide) w) (u := .bool true) (by
    have d : sameTB 2 3 1 4613937818241073152 2 3 1 4613937818241073152 = true := by decide +kernel
    rw [d])
  clear f1 f2 f3 f4
  go_enter Try.func13, Try.ntmps13
  go_wp2_with fail
  refine (kF1 _).mono ?_
  rintro _ w1 ⟨rfl, hA⟩
  have hb1 := hA
  go_wp2_with fail
  refine (kF3 _).mono ?_
  rintro _ w2 ⟨rfl, hA⟩
  have hb2 := belT hb1 hA
  go_wp2_with fail
  refine (mprice_any 9223372036854775808 _).mono ?_
  rintro _ w3 ⟨rfl, hA⟩
  have hb3 := belT hb2 hA
  go_wp2_with fail
  refine (mprice_any 0 _).mono ?_
  rintro _ w4 ⟨rfl, hA⟩
  have hb4 := belT hb3 hA
  clear hA hb1 hb2 hb3
  go_wp2_with fail
  refine (kJ _ _ (SliceAt.row (by decide) (mC_len four) (look_alloc_at _ _ _ rfl) rfl)).mono ?_
  rintro _ w5 ⟨rfl, hA⟩
  have hb5 := belT (belA hb4 _) hA
  clear hA
  go_wp2_with fail
  refine (mprice_any 4609434218613702656 _).mono ?_
  rintro _ w6 ⟨rfl, hA⟩
  have hb6 := belT (belA (belA hb5 _) _) hA
  replace lm : look w6 (w5.heap.size) = some (.cells (#[.int .i64 3, .bool true, .float .f64 0]) 29 (0, 0)) := by rw [look_below hA (by first | omega | (simp only [World.size_alloc]; omega) | exact look_lt (by assumption) | (simp only [World.size_alloc, World.size_setCell]; omega) | (simp; omega))]; first | assumption | go_simp
  replace cm0 : World.cell? w6 ⟨w5.heap.size, 0, none⟩ = some (.int .i64 3) := by rw [look_cell lm]; rfl
  replace cm1 : World.cell? w6 ⟨w5.heap.size, 1, none⟩ = some (.bool true) := by rw [look_cell lm]; rfl
  replace cm2 : World.cell? w6 ⟨w5.heap.size, 2, none⟩ = some (.float .f64 0) := by rw [look_cell lm]; rfl
  replace fm := look_frozen lm
  replace sm := look_lt lm
  replace lq : look w6 (w5.heap.size + 1) = some (.cells (#[.int .i64 2, .int .i64 1, .int .i64 0]) 3 (0, 0)) := by rw [look_below hA (by first | omega | (simp only [World.size_alloc]; omega) | exact look_lt (by assumption) | (simp only [World.size_alloc, World.size_setCell]; omega) | (simp; omega))]; first | assumption | go_simp
  replace cq0 : World.cell? w6 ⟨w5.heap.size + 1, 0, none⟩ = some (.int .i64 2) := by rw [look_cell lq]; rfl
  replace cq1 : World.cell? w6 ⟨w5.heap.size + 1, 1, none⟩ = some (.int .i64 1) := by rw [look_cell lq]; rfl
  replace cq2 : World.cell? w6 ⟨w5.heap.size + 1, 2, none⟩ = some (.int .i64 0) := by rw [look_cell lq]; rfl
  replace fq := look_frozen lq
  replace sq := look_lt lq
  clear hA hb5 hb4
  go_wp2_with fail
  refine (kF2 _).mono ?_
  rintro _ w7 ⟨rfl, hA⟩
  have hb7 := belT hb6 hA
  replace lm : look w7 (w5.heap.size) = some (.cells (#[.int .i64 3, .bool true, .float .f64 0]) 29 (0, 0)) := by rw [look_below hA (by first | omega | (simp only [World.size_alloc]; omega) | exact look_lt (by assumption) | (simp only [World.size_alloc, World.size_setCell]; omega) | (simp; omega))]; first | assumption | go_simp
  replace cm0 : World.cell? w7 ⟨w5.heap.size, 0, none⟩ = some (.int .i64 3) := by rw [look_cell lm]; rfl
  replace cm1 : World.cell? w7 ⟨w5.heap.size, 1, none⟩ = some (.bool true) := by rw [look_cell lm]; rfl
  replace cm2 : World.cell? w7 ⟨w5.heap.size, 2, none⟩ = some (.float .f64 0) := by rw [look_cell lm]; rfl
  replace fm := look_frozen lm
  replace sm := look_lt lm
  replace lq : look w7 (w5.heap.size + 1) = some (.cells (#[.int .i64 2, .int .i64 1, .int .i64 0]) 3 (0, 0)) := by rw [look_below hA (by first | omega | (simp only [World.size_alloc]; omega) | exact look_lt (by assumption) | (simp only [World.size_alloc, World.size_setCell]; omega) | (simp; omega))]; first | assumption | go_simp
  replace cq0 : World.cell? w7 ⟨w5.heap.size + 1, 0, none⟩ = some (.int .i64 2) := by rw [look_cell lq]; rfl
  replace cq1 : World.cell? w7 ⟨w5.heap.size + 1, 1, none⟩ = some (.int .i64 1) := by rw [look_cell lq]; rfl
  replace cq2 : World.cell? w7 ⟨w5.heap.size + 1, 2, none⟩ = some (.int .i64 0) := by rw [look_cell lq]; rfl
  replace fq := look_frozen lq
  replace sq := look_lt lq
  clear hA hb6
  go_wp2_with fail
  refine (mprice_any 4621256167635550208 _).mono ?_
  rintro _ w8 ⟨rfl, hA⟩
  have hb8 := belT hb7 hA
  replace lm : look w8 (w5.heap.size) = some (.cells (#[.int .i64 3, .bool true, .float .f64 0]) 29 (0, 0)) := by rw [look_below hA (by first | omega | (simp only [World.size_alloc]; omega) | exact look_lt (by assumption) | (simp only [World.size_alloc, World.size_setCell]; omega) | (simp; omega))]; first | assumption | go_simp
  replace cm0 : World.cell? w8 ⟨w5.heap.size, 0, none⟩ = some (.int .i64 3) := by rw [look_cell lm]; rfl
  replace cm1 : World.cell? w8 ⟨w5.heap.size, 1, none⟩ = some (.bool true) := by rw [look_cell lm]; rfl
  replace cm2 : World.cell? w8 ⟨w5.heap.size, 2, none⟩ = some (.float .f64 0) := by rw [look_cell lm]; rfl
  replace fm := look_frozen lm
  replace sm := look_lt lm
  replace lq : look w8 (w5.heap.size + 1) = some (.cells (#[.int .i64 2, .int .i64 1, .int .i64 0]) 3 (0, 0)) := by rw [look_below hA (by first | omega | (simp only [World.size_alloc]; omega) | exact look_lt (by assumption) | (simp only [World.size_alloc, World.size_setCell]; omega) | (simp; omega))]; first | assumption | go_simp
  replace cq0 : World.cell? w8 ⟨w5.heap.size + 1, 0, none⟩ = some (.int .i64 2) := by rw [look_cell lq]; rfl
  replace cq1 : World.cell? w8 ⟨w5.heap.size + 1, 1, none⟩ = some (.int .i64 1) := by rw [look_cell lq]; rfl
  replace cq2 : World.cell? w8 ⟨w5.heap.size + 1, 2, none⟩ = some (.int .i64 0) := by rw [look_cell lq]; rfl
  replace fq := look_frozen lq
  replace sq := look_lt lq
  clear hA hb7
  go_wp2_with fail
  refine (kS _ _ _ (SliceAt.row (cs := #[.int .i64 2, .int .i64 1, .int .i64 0]) (t := 3) (by decide) (qC_len threeQ) (by rw [look_alloc_past _ _ _ (look_lt lq)]; exact lq) rfl) (SliceAt.row (by decide) (mC_len three) (look_alloc_at _ _ _ rfl) rfl)).mono ?_
  rintro _ w9 ⟨rfl, hA⟩
  have hb9 := belT (belA hb8 _) hA
  replace lm : look w9 (w5.heap.size) = some (.cells (#[.int .i64 3, .bool true, .float .f64 0]) 29 (0, 0)) := by rw [look_below hA (by first | omega | (simp only [World.size_alloc]; omega) | exact look_lt (by assumption) | (simp only [World.size_alloc, World.size_setCell]; omega) | (simp; omega))]; first | assumption | go_simp
  replace cm0 : World.cell? w9 ⟨w5.heap.size, 0, none⟩ = some (.int .i64 3) := by rw [look_cell lm]; rfl
  replace cm1 : World.cell? w9 ⟨w5.heap.size, 1, none⟩ = some (.bool true) := by rw [look_cell lm]; rfl
  replace cm2 : World.cell? w9 ⟨w5.heap.size, 2, none⟩ = some (.float .f64 0) := by rw [look_cell lm]; rfl
  replace fm := look_frozen lm
  replace sm := look_lt lm
  clear hA hb8 lq
  go_wp2_with fail
  refine wp_region_words mixed 26 ([] :: [] :: [18, 19] :: [20] :: [21] :: [21] :: [22, 23, 21] :: [21, 24] :: [25] :: [26] :: [26] :: [28, 26] :: [27, 29, 26] :: [26, 30] :: [31] :: [32] :: [33, 32] :: [32] :: [34, 35, 32] :: [36, 32] :: [32, 37] :: [38] :: [39] :: [39] :: [40, 41, 39] :: [39, 42] :: []) (isV (.agg (#[.int .i64 3, .bool true, .float .f64 0])) :: isV (.agg #[.int .i64 3, .bool true, .float .f64 0]) :: isV (.bool true) :: isV (.bool true) :: isV (.agg (#[.int .i64 2, .int .i64 3, .int .i64 1, .float .f64 4613937818241073152])) :: isV (.agg #[.int .i64 2, .int .i64 3, .int .i64 1, .float .f64 4613937818241073152]) :: isV (.bool true) :: isV (.bool true) :: isV (.bool true) :: isV (.agg (#[.int .i64 3, .bool true, .float .f64 0])) :: isV (.float .f64 9223372036854775808) :: isV (.agg #[.int .i64 0, .bool true, .float .f64 9223372036854775808]) :: isV (.bool true) :: isV (.bool true) :: isV (.bool true) :: isV (.float .f64 9223372036854775808) :: isV (.agg #[.int .i64 0, .bool true, .float .f64 9223372036854775808]) :: isV (.agg (#[.int .i64 3, .bool true, .float .f64 0])) :: isV (.bool false) :: isV (.bool true) :: isV (.bool true) :: isV (.bool true) :: isV (.agg #[.int .i64 0, .bool false, .float .f64 0]) :: isV (.agg #[.int .i64 0, .bool false, .float .f64 0]) :: isV (.bool true) :: isV (.bool true) :: []) (by decide) (by kernel_rfl)
    ⟨stab_isV _, stab_isV _, stab_isV _, stab_isV _, stab_isV _, stab_isV _, stab_isV _, stab_isV _, stab_isV _, stab_isV _, stab_isV _, stab_isV _, stab_isV _, stab_isV _, stab_isV _, stab_isV _, stab_isV _, stab_isV _, stab_isV _, stab_isV _, stab_isV _, stab_isV _, stab_isV _, stab_isV _, stab_isV _, stab_isV _, trivial⟩ ⟨?_, ?_, ?_, ?_, ?_, ?_, ?_, ?_, ?_, ?_, ?_, ?_, ?_, ?_, ?_, ?_, ?_, ?_, ?_, ?_, ?_, ?_, ?_, ?_, ?_, ?_, trivial⟩ ?_
  · intro vs wq hB hm
    have hl : look wq (w5.heap.size) = some (.cells (#[.int .i64 3, .bool true, .float .f64 0]) 29 (0, 0)) := by rw [look_below hB (by first | omega | (simp only [World.size_alloc]; omega) | exact look_lt (by assumption) | (simp only [World.size_alloc, World.size_setCell]; omega) | (simp; omega))]; first | assumption | go_simp
    have hc0 : World.cell? wq ⟨w5.heap.size, 0, none⟩ = some (.int .i64 3) := by rw [look_cell hl]; rfl
    have hc1 : World.cell? wq ⟨w5.heap.size, 1, none⟩ = some (.bool true) := by rw [look_cell hl]; rfl
    have hc2 : World.cell? wq ⟨w5.heap.size, 2, none⟩ = some (.float .f64 0) := by rw [look_cell hl]; rfl
    clear hm
    simp only [fill]
    go_wp2
    exact ⟨_, rfl, rfl, Below.refl _ _, trivial⟩
  · intro vs wq hB hm
    clear hm
    simp only [fill]
    go_wp2
    exact ⟨_, rfl, rfl, Below.refl _ _, trivial⟩
  · intro vs wq hB hm
    have h18 : vs 18 = .agg (#[.int .i64 3, .bool true, .float .f64 0]) := meets_get hm 0 rfl rfl rfl rfl
    have h19 : vs 19 = .agg #[.int .i64 3, .bool true, .float .f64 0] := meets_get hm 1 rfl rfl rfl rfl
    clear hm
    simp only [fill, h18, h19]
    go_wp2_with fail
    refine (kM1 _).mono ?_
    rintro e w1 ⟨rfl, hb1⟩
    go_wp2
    exact ⟨_, rfl, rfl, hb1, trivial⟩
  · intro vs wq hB hm
    have h20 : vs 20 = .bool true := meets_get hm 2 rfl rfl rfl rfl
    clear hm
    simp only [fill, h20]
    go_wp2
    exact ⟨_, rfl, rfl, Below.refl _ _, trivial⟩
  · intro vs wq hB hm
    have hl : look wq (w9.heap.size) = some (.cells (#[.int .i64 2, .int .i64 3, .int .i64 1, .float .f64 4613937818241073152]) 47 (0, 0)) := by rw [look_below hB (by first | omega | (simp only [World.size_alloc]; omega) | exact look_lt (by assumption) | (simp only [World.size_alloc, World.size_setCell]; omega) | (simp; omega))]; first | assumption | go_simp
    have hc0 : World.cell? wq ⟨w9.heap.size, 0, none⟩ = some (.int .i64 2) := by rw [look_cell hl]; rfl
    have hc1 : World.cell? wq ⟨w9.heap.size, 1, none⟩ = some (.int .i64 3) := by rw [look_cell hl]; rfl
    have hc2 : World.cell? wq ⟨w9.heap.size, 2, none⟩ = some (.int .i64 1) := by rw [look_cell hl]; rfl
    have hc3 : World.cell? wq ⟨w9.heap.size, 3, none⟩ = some (.float .f64 4613937818241073152) := by rw [look_cell hl]; rfl
    have h21 : vs 21 = .bool true := meets_get hm 3 rfl rfl rfl rfl
    clear hm
    simp only [fill, h21]
    go_wp2
    exact ⟨_, rfl, rfl, Below.refl _ _, trivial⟩
  · intro vs wq hB hm
    have h21 : vs 21 = .bool true := meets_get hm 3 rfl rfl rfl rfl
    clear hm
    simp only [fill, h21]
    go_wp2
    exact ⟨_, rfl, rfl, Below.refl _ _, trivial⟩
  · intro vs wq hB hm
    have h22 : vs 22 = .agg (#[.int .i64 2, .int .i64 3, .int .i64 1, .float .f64 4613937818241073152]) := meets_get hm 4 rfl rfl rfl rfl
    have h23 : vs 23 = .agg #[.int .i64 2, .int .i64 3, .int .i64 1, .float .f64 4613937818241073152] := meets_get hm 5 rfl rfl rfl rfl
    have h21 : vs 21 = .bool true := meets_get hm 3 rfl rfl rfl rfl
    clear hm
    simp only [fill, h22, h23, h21]
    go_wp2_with fail
    refine (kT _).mono ?_
    rintro e w1 ⟨rfl, hb1⟩
    go_wp2
    exact ⟨_, rfl, rfl, hb1, trivial⟩
  · intro vs wq hB hm
    have h21 : vs 21 = .bool true := meets_get hm 3 rfl rfl rfl rfl
    have h24 : vs 24 = .bool true := meets_get hm 6 rfl rfl rfl rfl
    clear hm
    simp only [fill, h21, h24]
    go_wp2
    exact ⟨_, rfl, rfl, Below.refl _ _, trivial⟩
  · intro vs wq hB hm
    have h25 : vs 25 = .bool true := meets_get hm 7 rfl rfl rfl rfl
    clear hm
    simp only [fill, h25]
    go_wp2
    exact ⟨_, rfl, rfl, Below.refl _ _, trivial⟩
  · intro vs wq hB hm
    have hl : look wq (w5.heap.size) = some (.cells (#[.int .i64 3, .bool true, .float .f64 0]) 29 (0, 0)) := by rw [look_below hB (by first | omega | (simp only [World.size_alloc]; omega) | exact look_lt (by assumption) | (simp only [World.size_alloc, World.size_setCell]; omega) | (simp; omega))]; first | assumption | go_simp
    have hc0 : World.cell? wq ⟨w5.heap.size, 0, none⟩ = some (.int .i64 3) := by rw [look_cell hl]; rfl
    have hc1 : World.cell? wq ⟨w5.heap.size, 1, none⟩ = some (.bool true) := by rw [look_cell hl]; rfl
    have hc2 : World.cell? wq ⟨w5.heap.size, 2, none⟩ = some (.float .f64 0) := by rw [look_cell hl]; rfl
    have h26 : vs 26 = .bool true := meets_get hm 8 rfl rfl rfl rfl
    clear hm
    simp only [fill, h26]
    go_wp2
    exact ⟨_, rfl, rfl, Below.refl _ _, trivial⟩
  · intro vs wq hB hm
    have h26 : vs 26 = .bool true := meets_get hm 8 rfl rfl rfl rfl
    clear hm
    simp only [fill, h26]
    go_wp2
    exact ⟨_, rfl, rfl, Below.refl _ _, trivial⟩
  · intro vs wq hB hm
    have h28 : vs 28 = .float .f64 9223372036854775808 := meets_get hm 10 rfl rfl rfl rfl
    have h26 : vs 26 = .bool true := meets_get hm 8 rfl rfl rfl rfl
    clear hm
    simp only [fill, h28, h26]
    go_wp2_with fail
    refine (mprice_any 9223372036854775808 _).mono ?_
    rintro e w1 ⟨rfl, hb1⟩
    go_wp2
    exact ⟨_, rfl, rfl, hb1, trivial⟩
  · intro vs wq hB hm
    have h27 : vs 27 = .agg (#[.int .i64 3, .bool true, .float .f64 0]) := meets_get hm 9 rfl rfl rfl rfl
    have h29 : vs 29 = .agg #[.int .i64 0, .bool true, .float .f64 9223372036854775808] := meets_get hm 11 rfl rfl rfl rfl
    have h26 : vs 26 = .bool true := meets_get hm 8 rfl rfl rfl rfl
    clear hm
    simp only [fill, h27, h29, h26]
    go_wp2_with fail
    refine (kC1 _).mono ?_
    rintro e w1 ⟨rfl, hb1⟩
    go_wp2
    exact ⟨_, rfl, rfl, hb1, trivial⟩
  · intro vs wq hB hm
    have h26 : vs 26 = .bool true := meets_get hm 8 rfl rfl rfl rfl
    have h30 : vs 30 = .bool true := meets_get hm 12 rfl rfl rfl rfl
    clear hm
    simp only [fill, h26, h30]
    go_wp2
    exact ⟨_, rfl, rfl, Below.refl _ _, trivial⟩
  · intro vs wq hB hm
    have h31 : vs 31 = .bool true := meets_get hm 13 rfl rfl rfl rfl
    clear hm
    simp only [fill, h31]
    go_wp2
    exact ⟨_, rfl, rfl, Below.refl _ _, trivial⟩
  · intro vs wq hB hm
    have h32 : vs 32 = .bool true := meets_get hm 14 rfl rfl rfl rfl
    clear hm
    simp only [fill, h32]
    go_wp2
    exact ⟨_, rfl, rfl, Below.refl _ _, trivial⟩
  · intro vs wq hB hm
    have h33 : vs 33 = .float .f64 9223372036854775808 := meets_get hm 15 rfl rfl rfl rfl
    have h32 : vs 32 = .bool true := meets_get hm 14 rfl rfl rfl rfl
    clear hm
    simp only [fill, h33, h32]
    go_wp2_with fail
    refine (mprice_any 9223372036854775808 _).mono ?_
    rintro e w1 ⟨rfl, hb1⟩
    go_wp2
    exact ⟨_, rfl, rfl, hb1, trivial⟩
  · intro vs wq hB hm
    have hl : look wq (w5.heap.size) = some (.cells (#[.int .i64 3, .bool true, .float .f64 0]) 29 (0, 0)) := by rw [look_below hB (by first | omega | (simp only [World.size_alloc]; omega) | exact look_lt (by assumption) | (simp only [World.size_alloc, World.size_setCell]; omega) | (simp; omega))]; first | assumption | go_simp
    have hc0 : World.cell? wq ⟨w5.heap.size, 0, none⟩ = some (.int .i64 3) := by rw [look_cell hl]; rfl
    have hc1 : World.cell? wq ⟨w5.heap.size, 1, none⟩ = some (.bool true) := by rw [look_cell hl]; rfl
    have hc2 : World.cell? wq ⟨w5.heap.size, 2, none⟩ = some (.float .f64 0) := by rw [look_cell hl]; rfl
    have h32 : vs 32 = .bool true := meets_get hm 14 rfl rfl rfl rfl
    clear hm
    simp only [fill, h32]
    go_wp2
    exact ⟨_, rfl, rfl, Below.refl _ _, trivial⟩
  · intro vs wq hB hm
    have h34 : vs 34 = .agg #[.int .i64 0, .bool true, .float .f64 9223372036854775808] := meets_get hm 16 rfl rfl rfl rfl
    have h35 : vs 35 = .agg (#[.int .i64 3, .bool true, .float .f64 0]) := meets_get hm 17 rfl rfl rfl rfl
    have h32 : vs 32 = .bool true := meets_get hm 14 rfl rfl rfl rfl
    clear hm
    simp only [fill, h34, h35, h32]
    go_wp2_with fail
    refine (kC2 _).mono ?_
    rintro e w1 ⟨rfl, hb1⟩
    go_wp2
    exact ⟨_, rfl, rfl, hb1, trivial⟩
  · intro vs wq hB hm
    have h36 : vs 36 = .bool false := meets_get hm 18 rfl rfl rfl rfl
    have h32 : vs 32 = .bool true := meets_get hm 14 rfl rfl rfl rfl
    clear hm
    simp only [fill, h36, h32]
    go_wp2
    exact ⟨_, rfl, rfl, Below.refl _ _, trivial⟩
  · intro vs wq hB hm
    have h32 : vs 32 = .bool true := meets_get hm 14 rfl rfl rfl rfl
    have h37 : vs 37 = .bool true := meets_get hm 19 rfl rfl rfl rfl
    clear hm
    simp only [fill, h32, h37]
    go_wp2
    exact ⟨_, rfl, rfl, Below.refl _ _, trivial⟩
  · intro vs wq hB hm
    have h38 : vs 38 = .bool true := meets_get hm 20 rfl rfl rfl rfl
    clear hm
    simp only [fill, h38]
    go_wp2
    exact ⟨_, rfl, rfl, Below.refl _ _, trivial⟩
  · intro vs wq hB hm
    have h39 : vs 39 = .bool true := meets_get hm 21 rfl rfl rfl rfl
    clear hm
    simp only [fill, h39]
    go_wp2_with fail
    refine (kF4 _).mono ?_
    rintro e w1 ⟨rfl, hb1⟩
    go_wp2
    exact ⟨_, rfl, rfl, hb1, trivial⟩
  · intro vs wq hB hm
    have h39 : vs 39 = .bool true := meets_get hm 21 rfl rfl rfl rfl
    clear hm
    simp only [fill, h39]
    go_wp2
    exact ⟨_, rfl, rfl, Below.refl _ _, trivial⟩
  · intro vs wq hB hm
    have h40 : vs 40 = .agg #[.int .i64 0, .bool false, .float .f64 0] := meets_get hm 22 rfl rfl rfl rfl
    have h41 : vs 41 = .agg #[.int .i64 0, .bool false, .float .f64 0] := meets_get hm 23 rfl rfl rfl rfl
    have h39 : vs 39 = .bool true := meets_get hm 21 rfl rfl rfl rfl
    clear hm
    simp only [fill, h40, h41, h39]
    go_wp2_with fail
    refine (kM2 _).mono ?_
    rintro e w1 ⟨rfl, hb1⟩
    go_wp2
    exact ⟨_, rfl, rfl, hb1, trivial⟩
  · intro vs wq hB hm
    have h39 : vs 39 = .bool true := meets_get hm 21 rfl rfl rfl rfl
    have h42 : vs 42 = .bool true := meets_get hm 24 rfl rfl rfl rfl
    clear hm
    simp only [fill, h39, h42]
    go_wp2
    exact ⟨_, rfl, rfl, Below.refl _ _, trivial⟩
  intro vs wq hB hm hne hlo
  have h18 : vs 18 = .agg (#[.int .i64 3, .bool true, .float .f64 0]) := hm 0 _ _ _ rfl rfl rfl
  have h19 : vs 19 = .agg #[.int .i64 3, .bool true, .float .f64 0] := hm 1 _ _ _ rfl rfl rfl
  have h20 : vs 20 = .bool true := hm 2 _ _ _ rfl rfl rfl
  have h21 : vs 21 = .bool true := hm 3 _ _ _ rfl rfl rfl
  have h22 : vs 22 = .agg (#[.int .i64 2, .int .i64 3, .int .i64 1, .float .f64 4613937818241073152]) := hm 4 _ _ _ rfl rfl rfl
  have h23 : vs 23 = .agg #[.int .i64 2, .int .i64 3, .int .i64 1, .float .f64 4613937818241073152] := hm 5 _ _ _ rfl rfl rfl
  have h24 : vs 24 = .bool true := hm 6 _ _ _ rfl rfl rfl
  have h25 : vs 25 = .bool true := hm 7 _ _ _ rfl rfl rfl
  have h26 : vs 26 = .bool true := hm 8 _ _ _ rfl rfl rfl
  have h27 : vs 27 = .agg (#[.int .i64 3, .bool true, .float .f64 0]) := hm 9 _ _ _ rfl rfl rfl
  have h28 : vs 28 = .float .f64 9223372036854775808 := hm 10 _ _ _ rfl rfl rfl
  have h29 : vs 29 = .agg #[.int .i64 0, .bool true, .float .f64 9223372036854775808] := hm 11 _ _ _ rfl rfl rfl
  have h30 : vs 30 = .bool true := hm 12 _ _ _ rfl rfl rfl
  have h31 : vs 31 = .bool true := hm 13 _ _ _ rfl rfl rfl
  have h32 : vs 32 = .bool true := hm 14 _ _ _ rfl rfl rfl
  have h33 : vs 33 = .float .f64 9223372036854775808 := hm 15 _ _ _ rfl rfl rfl
  have h34 : vs 34 = .agg #[.int .i64 0, .bool true, .float .f64 9223372036854775808] := hm 16 _ _ _ rfl rfl rfl
  have h35 : vs 35 = .agg (#[.int .i64 3, .bool true, .float .f64 0]) := hm 17 _ _ _ rfl rfl rfl
  have h36 : vs 36 = .bool false := hm 18 _ _ _ rfl rfl rfl
  have h37 : vs 37 = .bool true := hm 19 _ _ _ rfl rfl rfl
  have h38 : vs 38 = .bool true := hm 20 _ _ _ rfl rfl rfl
  have h39 : vs 39 = .bool true := hm 21 _ _ _ rfl rfl rfl
  have h40 : vs 40 = .agg #[.int .i64 0, .bool false, .float .f64 0] := hm 22 _ _ _ rfl rfl rfl
  have h41 : vs 41 = .agg #[.int .i64 0, .bool false, .float .f64 0] := hm 23 _ _ _ rfl rfl rfl
  have h42 : vs 42 = .bool true := hm 24 _ _ _ rfl rfl rfl
  have h43 : vs 43 = .bool true := hm 25 _ _ _ rfl rfl rfl
  clear hne hlo
  simp only [fill, List.filterMap, List.take, List.drop, List.setIfInBounds_toArray, List.set_cons_zero, List.set_cons_succ, h18, h19, h20, h21, h22, h23, h24, h25, h26, h27, h28, h29, h30, h31, h32, h33, h34, h35, h36, h37, h38, h39, h40, h41, h42, h43]
  clear hm h18 h19 h20 h21 h22 h23 h24 h25 h26 h27 h28 h29 h30 h31 h32 h33 h34 h35 h36 h37 h38 h39 h40 h41 h42 h43
  go_wp2
  go_ret
  exact ⟨rfl, belT (belA hb9 _) hB⟩
end Go.Proofs.Ytniphfkipjpikaa
