/- MarkSums: the walk of the law. -/
import Derived.Test.YtniphfkipjpikaaMkT
import Derived.Test.YtniphfkipjpikaaMkF
namespace Go.Proofs.Ytniphfkipjpikaa
open Go.RowKit Flt

@[go_sem ↓] theorem eql_rt (a b c : Int) (s : Nat) (d e f : Int) (t : Nat) (w : World) :
    (binOp .eql 45 (.agg #[.int .i64 a, .int .i64 b, .int .i64 c, .int .u64 (s : Int)]) (.agg #[.int .i64 d, .int .i64 e, .int .i64 f, .int .u64 (t : Int)])).run Try.prog w = .ok (.bool (sameTB a b c s d e f t)) w := by
  have h : (Op.equalIn 10000 45 (.agg #[.int .i64 a, .int .i64 b, .int .i64 c, .int .u64 (s : Int)]) (.agg #[.int .i64 d, .int .i64 e, .int .i64 f, .int .u64 (t : Int)])).run Try.prog w = .ok (sameTB a b c s d e f t) w := by
    unfold sameTB
    by_cases h1 : a = d
    · by_cases h2 : b = e
      · by_cases h3 : c = f
        · by_cases h4 : s = t
          · go_simp
          · have h4' : ¬ (s : Int) = (t : Int) := by omega
            go_simp
        · go_simp
      · go_simp
    · go_simp
  rw [run_eql_struct, h]
  rfl

theorem sums_m_many (aq : Option Addr) (nq cq : Nat) (am : Option Addr) (nm cm : Nat) (a b c : Int) (s : Nat) (d e f : Int) (t : Nat) (w : World) (hq : nq ≤ 9223372036854775807) (hm : nm ≤ 9223372036854775807) (h : 200 < nq ∨ 200 < nm) :
    Calls Try.prog 4 #[.slice aq nq cq, .slice am nm cm, .agg #[.int .i64 a, .int .i64 b, .int .i64 c, .int .u64 (s : Int)], .agg #[.int .i64 d, .int .i64 e, .int .i64 f, .int .u64 (t : Int)]] w fun r w' => r = .returned (.bool true) ∧ Below w.heap.size w w' := by
  by_cases h1 : 200 < nq
  · go_enter Try.func4, Try.ntmps4
    go_wp2_with fail
    refine (alive07 _).mono ?_
    rintro _ w1 ⟨rfl, hA⟩
    go_wp2
    go_ret
    exact ⟨rfl, belT (belA (belA (bel0 _) _) _) hA⟩
  · have h2 : 200 < nm := by omega
    clear h
    go_enter Try.func4, Try.ntmps4
    go_wp2_with fail
    refine (alive07 _).mono ?_
    rintro _ w1 ⟨rfl, hA⟩
    go_wp2
    go_ret
    exact ⟨rfl, belT (belA (belA (bel0 _) _) _) hA⟩

set_option maxRecDepth 100000 in
set_option maxHeartbeats 6400000 in
theorem mark_sums (vq vm : Value) (nq nm : Nat) (q : Nat → Int) (L : Nat → Mk) (a b c : Int) (s : Nat) (d e f : Int) (t : Nat) (w : World) (hnq : nq ≤ 200) (hnm : nm ≤ 200)
    (hSq : SliceAt w vq nq 1 (qC q)) (hSm : SliceAt w vm nm 3 (rC L)) (hL : ∀ k, k < nm → (L k).price < 18446744073709551616) (hs : s < 18446744073709551616) (ht : t < 18446744073709551616) :
    Calls Try.prog 4 #[vq, vm, .agg #[.int .i64 a, .int .i64 b, .int .i64 c, .int .u64 (s : Int)], .agg #[.int .i64 d, .int .i64 e, .int .i64 f, .int .u64 (t : Int)]] w fun r w' => r = .returned (.bool true) ∧ Below w.heap.size w w' := by
  have hSq2 := hSq
  have hSm2 := hSm
  obtain ⟨aq, cq, rfl, _, _, _⟩ := hSq
  obtain ⟨am, cm, rfl, _, _, _⟩ := hSm
  go_enter Try.func4, Try.ntmps4
  go_wp2_with fail
  refine wp_region_words mixed 11 ([] :: [20] :: [] :: [22] :: [] :: [24] :: [] :: [26] :: [27] :: [21, 23, 25, 28] :: [] :: []) (isV (.pointer (some ⟨w.heap.size, 0, none⟩)) :: isV (.int .i64 a) :: isV (.pointer (some ⟨w.heap.size, 1, none⟩)) :: isV (.int .i64 b) :: isV (.pointer (some ⟨w.heap.size, 2, none⟩)) :: isV (.int .i64 c) :: isV (.pointer (some ⟨w.heap.size, 3, none⟩)) :: isV (.int .u64 (s : Int)) :: isV (.float .f64 s) :: isV (.agg #[.int .i64 a, .int .i64 b, .int .i64 c, .float .f64 s]) :: isVar 47 (#[.int .i64 0, .int .i64 0, .int .i64 0, .float .f64 0]) :: []) (by decide) (by kernel_rfl)
    ⟨stab_isV _, stab_isV _, stab_isV _, stab_isV _, stab_isV _, stab_isV _, stab_isV _, stab_isV _, stab_isV _, stab_isV _, stab_isVar _ _, trivial⟩ ⟨?_, ?_, ?_, ?_, ?_, ?_, ?_, ?_, ?_, ?_, ?_, trivial⟩ ?_
  · intro vs wq hB hm
    clear hm
    simp only [fill]
    go_wp2
    exact ⟨_, rfl, rfl, Below.refl _ _, trivial⟩
  · intro vs wq hB hm
    have hl : look wq (w.heap.size) = some (.cells (#[.int .i64 a, .int .i64 b, .int .i64 c, .int .u64 (s : Int)]) 45 (0, 0)) := by rw [look_below hB (by first | omega | (simp only [World.size_alloc]; omega) | exact look_lt (by assumption) | (simp only [World.size_alloc, World.size_setCell]; omega) | (simp; omega))]; first | assumption | go_simp
    have hc : World.cell? wq ⟨w.heap.size, 0, none⟩ = some (.int .i64 a) := by rw [look_cell hl]; rfl
    have h20 : vs 20 = .pointer (some ⟨w.heap.size, 0, none⟩) := meets_get hm 0 rfl rfl rfl rfl
    clear hm
    simp only [fill, h20]
    go_wp2
    exact ⟨_, rfl, rfl, Below.refl _ _, trivial⟩
  · intro vs wq hB hm
    clear hm
    simp only [fill]
    go_wp2
    exact ⟨_, rfl, rfl, Below.refl _ _, trivial⟩
  · intro vs wq hB hm
    have hl : look wq (w.heap.size) = some (.cells (#[.int .i64 a, .int .i64 b, .int .i64 c, .int .u64 (s : Int)]) 45 (0, 0)) := by rw [look_below hB (by first | omega | (simp only [World.size_alloc]; omega) | exact look_lt (by assumption) | (simp only [World.size_alloc, World.size_setCell]; omega) | (simp; omega))]; first | assumption | go_simp
    have hc : World.cell? wq ⟨w.heap.size, 1, none⟩ = some (.int .i64 b) := by rw [look_cell hl]; rfl
    have h22 : vs 22 = .pointer (some ⟨w.heap.size, 1, none⟩) := meets_get hm 2 rfl rfl rfl rfl
    clear hm
    simp only [fill, h22]
    go_wp2
    exact ⟨_, rfl, rfl, Below.refl _ _, trivial⟩
  · intro vs wq hB hm
    clear hm
    simp only [fill]
    go_wp2
    exact ⟨_, rfl, rfl, Below.refl _ _, trivial⟩
  · intro vs wq hB hm
    have hl : look wq (w.heap.size) = some (.cells (#[.int .i64 a, .int .i64 b, .int .i64 c, .int .u64 (s : Int)]) 45 (0, 0)) := by rw [look_below hB (by first | omega | (simp only [World.size_alloc]; omega) | exact look_lt (by assumption) | (simp only [World.size_alloc, World.size_setCell]; omega) | (simp; omega))]; first | assumption | go_simp
    have hc : World.cell? wq ⟨w.heap.size, 2, none⟩ = some (.int .i64 c) := by rw [look_cell hl]; rfl
    have h24 : vs 24 = .pointer (some ⟨w.heap.size, 2, none⟩) := meets_get hm 4 rfl rfl rfl rfl
    clear hm
    simp only [fill, h24]
    go_wp2
    exact ⟨_, rfl, rfl, Below.refl _ _, trivial⟩
  · intro vs wq hB hm
    clear hm
    simp only [fill]
    go_wp2
    exact ⟨_, rfl, rfl, Below.refl _ _, trivial⟩
  · intro vs wq hB hm
    have hl : look wq (w.heap.size) = some (.cells (#[.int .i64 a, .int .i64 b, .int .i64 c, .int .u64 (s : Int)]) 45 (0, 0)) := by rw [look_below hB (by first | omega | (simp only [World.size_alloc]; omega) | exact look_lt (by assumption) | (simp only [World.size_alloc, World.size_setCell]; omega) | (simp; omega))]; first | assumption | go_simp
    have hc : World.cell? wq ⟨w.heap.size, 3, none⟩ = some (.int .u64 (s : Int)) := by rw [look_cell hl]; rfl
    have h26 : vs 26 = .pointer (some ⟨w.heap.size, 3, none⟩) := meets_get hm 6 rfl rfl rfl rfl
    clear hm
    simp only [fill, h26]
    go_wp2
    exact ⟨_, rfl, rfl, Below.refl _ _, trivial⟩
  · intro vs wq hB hm
    have h27 : vs 27 = .int .u64 (s : Int) := meets_get hm 7 rfl rfl rfl rfl
    clear hm
    simp only [fill, h27]
    go_wp2
    exact ⟨_, rfl, rfl, Below.refl _ _, trivial⟩
  · intro vs wq hB hm
    have h21 : vs 21 = .int .i64 a := meets_get hm 1 rfl rfl rfl rfl
    have h23 : vs 23 = .int .i64 b := meets_get hm 3 rfl rfl rfl rfl
    have h25 : vs 25 = .int .i64 c := meets_get hm 5 rfl rfl rfl rfl
    have h28 : vs 28 = .float .f64 s := meets_get hm 8 rfl rfl rfl rfl
    clear hm
    simp only [fill, h21, h23, h25, h28]
    go_wp2
    exact ⟨_, rfl, rfl, Below.refl _ _, trivial⟩
  · intro vs wq hB hm
    clear hm
    simp only [fill]
    go_wp2
    exact ⟨_, rfl, ⟨_, rfl, look_alloc_at _ _ _ rfl⟩, (Below.refl _ _).alloc (Nat.le_refl _) _, fun b hb => by cases hb; exact ⟨Nat.le_refl _, by simp⟩⟩
  intro vs wq hB hm hne hlo
  have h20 : vs 20 = .pointer (some ⟨w.heap.size, 0, none⟩) := hm 0 _ _ _ rfl rfl rfl
  have h21 : vs 21 = .int .i64 a := hm 1 _ _ _ rfl rfl rfl
  have h22 : vs 22 = .pointer (some ⟨w.heap.size, 1, none⟩) := hm 2 _ _ _ rfl rfl rfl
  have h23 : vs 23 = .int .i64 b := hm 3 _ _ _ rfl rfl rfl
  have h24 : vs 24 = .pointer (some ⟨w.heap.size, 2, none⟩) := hm 4 _ _ _ rfl rfl rfl
  have h25 : vs 25 = .int .i64 c := hm 5 _ _ _ rfl rfl rfl
  have h26 : vs 26 = .pointer (some ⟨w.heap.size, 3, none⟩) := hm 6 _ _ _ rfl rfl rfl
  have h27 : vs 27 = .int .u64 (s : Int) := hm 7 _ _ _ rfl rfl rfl
  have h28 : vs 28 = .float .f64 s := hm 8 _ _ _ rfl rfl rfl
  have h29 : vs 29 = .agg #[.int .i64 a, .int .i64 b, .int .i64 c, .float .f64 s] := hm 9 _ _ _ rfl rfl rfl
  obtain ⟨b9, h9, l9⟩ := hm 10 _ _ _ rfl rfl rfl
  have lo9 : _ ≤ b9 ∧ b9 < wq.heap.size := hlo 10 _ _ rfl rfl rfl b9 (by rw [h9]; rfl)
  clear hne hlo
  simp only [fill, List.filterMap, List.take, List.drop, List.setIfInBounds_toArray, List.set_cons_zero, List.set_cons_succ, h20, h21, h22, h23, h24, h25, h26, h27, h28, h29, h9]
  clear hm h20 h21 h22 h23 h24 h25 h26 h27 h28 h29 h9
  have la : look wq w.heap.size = some (.cells #[.int .i64 a, .int .i64 b, .int .i64 c, .int .u64 (s : Int)] 45 (0, 0)) := by rw [look_below hB (by simp only [World.size_alloc]; omega)]; go_simp
  have lb : look wq (w.heap.size + 1) = some (.cells #[.int .i64 d, .int .i64 e, .int .i64 f, .int .u64 (t : Int)] 45 (0, 0)) := by rw [look_below hB (by simp only [World.size_alloc]; omega)]; go_simp
  have hb1 := belT (belA (belA (bel0 w) (.cells #[.int .i64 a, .int .i64 b, .int .i64 c, .int .u64 (s : Int)] 45)) (.cells #[.int .i64 d, .int .i64 e, .int .i64 f, .int .u64 (t : Int)] 45)) hB
  rw [World.size_alloc, World.size_alloc] at lo9
  clear hB
  go_wp2_with fail
  obtain ⟨W, hW⟩ : ∃ x, wq.setRow b9 #[.int .i64 a, .int .i64 b, .int .i64 c, .float .f64 s] = x := ⟨_, rfl⟩
  replace la : look W w.heap.size = some (.cells #[.int .i64 a, .int .i64 b, .int .i64 c, .int .u64 (s : Int)] 45 (0, 0)) := by rw [← hW, look_setRow, if_neg (by omega)]; exact la
  replace lb : look W (w.heap.size + 1) = some (.cells #[.int .i64 d, .int .i64 e, .int .i64 f, .int .u64 (t : Int)] 45 (0, 0)) := by rw [← hW, look_setRow, if_neg (by omega)]; exact lb
  replace l9 : look W b9 = some (.cells #[.int .i64 a, .int .i64 b, .int .i64 c, .float .f64 s] 47 (0, 0)) := by rw [← hW, look_setRow, if_pos rfl, l9]; rfl
  have hb2 : Below w.heap.size w W := by rw [← hW]; exact belR hb1 (by omega) _
  rw [hW]
  clear hW hb1
  have sa := look_lt la
  have sb := look_lt lb
  have s9 := look_lt l9
  refine wp_region_words mixed 11 ([] :: [30] :: [] :: [32] :: [] :: [34] :: [] :: [36] :: [37] :: [31, 33, 35, 38] :: [] :: []) (isV (.pointer (some ⟨w.heap.size + 1, 0, none⟩)) :: isV (.int .i64 d) :: isV (.pointer (some ⟨w.heap.size + 1, 1, none⟩)) :: isV (.int .i64 e) :: isV (.pointer (some ⟨w.heap.size + 1, 2, none⟩)) :: isV (.int .i64 f) :: isV (.pointer (some ⟨w.heap.size + 1, 3, none⟩)) :: isV (.int .u64 (t : Int)) :: isV (.float .f64 t) :: isV (.agg #[.int .i64 d, .int .i64 e, .int .i64 f, .float .f64 t]) :: isVar 47 (#[.int .i64 0, .int .i64 0, .int .i64 0, .float .f64 0]) :: []) (by decide) (by kernel_rfl)
    ⟨stab_isV _, stab_isV _, stab_isV _, stab_isV _, stab_isV _, stab_isV _, stab_isV _, stab_isV _, stab_isV _, stab_isV _, stab_isVar _ _, trivial⟩ ⟨?_, ?_, ?_, ?_, ?_, ?_, ?_, ?_, ?_, ?_, ?_, trivial⟩ ?_
  · intro vs wq hB hm
    clear hm
    simp only [fill]
    go_wp2
    exact ⟨_, rfl, rfl, Below.refl _ _, trivial⟩
  · intro vs wq hB hm
    have hl : look wq (w.heap.size + 1) = some (.cells (#[.int .i64 d, .int .i64 e, .int .i64 f, .int .u64 (t : Int)]) 45 (0, 0)) := by rw [look_below hB (by first | omega | (simp only [World.size_alloc]; omega) | exact look_lt (by assumption) | (simp only [World.size_alloc, World.size_setCell]; omega) | (simp; omega))]; first | assumption | go_simp
    have hc : World.cell? wq ⟨w.heap.size + 1, 0, none⟩ = some (.int .i64 d) := by rw [look_cell hl]; rfl
    have h30 : vs 30 = .pointer (some ⟨w.heap.size + 1, 0, none⟩) := meets_get hm 0 rfl rfl rfl rfl
    clear hm
    simp only [fill, h30]
    go_wp2
    exact ⟨_, rfl, rfl, Below.refl _ _, trivial⟩
  · intro vs wq hB hm
    clear hm
    simp only [fill]
    go_wp2
    exact ⟨_, rfl, rfl, Below.refl _ _, trivial⟩
  · intro vs wq hB hm
    have hl : look wq (w.heap.size + 1) = some (.cells (#[.int .i64 d, .int .i64 e, .int .i64 f, .int .u64 (t : Int)]) 45 (0, 0)) := by rw [look_below hB (by first | omega | (simp only [World.size_alloc]; omega) | exact look_lt (by assumption) | (simp only [World.size_alloc, World.size_setCell]; omega) | (simp; omega))]; first | assumption | go_simp
    have hc : World.cell? wq ⟨w.heap.size + 1, 1, none⟩ = some (.int .i64 e) := by rw [look_cell hl]; rfl
    have h32 : vs 32 = .pointer (some ⟨w.heap.size + 1, 1, none⟩) := meets_get hm 2 rfl rfl rfl rfl
    clear hm
    simp only [fill, h32]
    go_wp2
    exact ⟨_, rfl, rfl, Below.refl _ _, trivial⟩
  · intro vs wq hB hm
    clear hm
    simp only [fill]
    go_wp2
    exact ⟨_, rfl, rfl, Below.refl _ _, trivial⟩
  · intro vs wq hB hm
    have hl : look wq (w.heap.size + 1) = some (.cells (#[.int .i64 d, .int .i64 e, .int .i64 f, .int .u64 (t : Int)]) 45 (0, 0)) := by rw [look_below hB (by first | omega | (simp only [World.size_alloc]; omega) | exact look_lt (by assumption) | (simp only [World.size_alloc, World.size_setCell]; omega) | (simp; omega))]; first | assumption | go_simp
    have hc : World.cell? wq ⟨w.heap.size + 1, 2, none⟩ = some (.int .i64 f) := by rw [look_cell hl]; rfl
    have h34 : vs 34 = .pointer (some ⟨w.heap.size + 1, 2, none⟩) := meets_get hm 4 rfl rfl rfl rfl
    clear hm
    simp only [fill, h34]
    go_wp2
    exact ⟨_, rfl, rfl, Below.refl _ _, trivial⟩
  · intro vs wq hB hm
    clear hm
    simp only [fill]
    go_wp2
    exact ⟨_, rfl, rfl, Below.refl _ _, trivial⟩
  · intro vs wq hB hm
    have hl : look wq (w.heap.size + 1) = some (.cells (#[.int .i64 d, .int .i64 e, .int .i64 f, .int .u64 (t : Int)]) 45 (0, 0)) := by rw [look_below hB (by first | omega | (simp only [World.size_alloc]; omega) | exact look_lt (by assumption) | (simp only [World.size_alloc, World.size_setCell]; omega) | (simp; omega))]; first | assumption | go_simp
    have hc : World.cell? wq ⟨w.heap.size + 1, 3, none⟩ = some (.int .u64 (t : Int)) := by rw [look_cell hl]; rfl
    have h36 : vs 36 = .pointer (some ⟨w.heap.size + 1, 3, none⟩) := meets_get hm 6 rfl rfl rfl rfl
    clear hm
    simp only [fill, h36]
    go_wp2
    exact ⟨_, rfl, rfl, Below.refl _ _, trivial⟩
  · intro vs wq hB hm
    have h37 : vs 37 = .int .u64 (t : Int) := meets_get hm 7 rfl rfl rfl rfl
    clear hm
    simp only [fill, h37]
    go_wp2
    exact ⟨_, rfl, rfl, Below.refl _ _, trivial⟩
  · intro vs wq hB hm
    have h31 : vs 31 = .int .i64 d := meets_get hm 1 rfl rfl rfl rfl
    have h33 : vs 33 = .int .i64 e := meets_get hm 3 rfl rfl rfl rfl
    have h35 : vs 35 = .int .i64 f := meets_get hm 5 rfl rfl rfl rfl
    have h38 : vs 38 = .float .f64 t := meets_get hm 8 rfl rfl rfl rfl
    clear hm
    simp only [fill, h31, h33, h35, h38]
    go_wp2
    exact ⟨_, rfl, rfl, Below.refl _ _, trivial⟩
  · intro vs wq hB hm
    clear hm
    simp only [fill]
    go_wp2
    exact ⟨_, rfl, ⟨_, rfl, look_alloc_at _ _ _ rfl⟩, (Below.refl _ _).alloc (Nat.le_refl _) _, fun b hb => by cases hb; exact ⟨Nat.le_refl _, by simp⟩⟩
  intro vs wq hB hm hne hlo
  have h30 : vs 30 = .pointer (some ⟨w.heap.size + 1, 0, none⟩) := hm 0 _ _ _ rfl rfl rfl
  have h31 : vs 31 = .int .i64 d := hm 1 _ _ _ rfl rfl rfl
  have h32 : vs 32 = .pointer (some ⟨w.heap.size + 1, 1, none⟩) := hm 2 _ _ _ rfl rfl rfl
  have h33 : vs 33 = .int .i64 e := hm 3 _ _ _ rfl rfl rfl
  have h34 : vs 34 = .pointer (some ⟨w.heap.size + 1, 2, none⟩) := hm 4 _ _ _ rfl rfl rfl
  have h35 : vs 35 = .int .i64 f := hm 5 _ _ _ rfl rfl rfl
  have h36 : vs 36 = .pointer (some ⟨w.heap.size + 1, 3, none⟩) := hm 6 _ _ _ rfl rfl rfl
  have h37 : vs 37 = .int .u64 (t : Int) := hm 7 _ _ _ rfl rfl rfl
  have h38 : vs 38 = .float .f64 t := hm 8 _ _ _ rfl rfl rfl
  have h39 : vs 39 = .agg #[.int .i64 d, .int .i64 e, .int .i64 f, .float .f64 t] := hm 9 _ _ _ rfl rfl rfl
  obtain ⟨b10, h10, l10⟩ := hm 10 _ _ _ rfl rfl rfl
  have lo10 : _ ≤ b10 ∧ b10 < wq.heap.size := hlo 10 _ _ rfl rfl rfl b10 (by rw [h10]; rfl)
  clear hne hlo
  simp only [fill, List.filterMap, List.take, List.drop, List.setIfInBounds_toArray, List.set_cons_zero, List.set_cons_succ, h30, h31, h32, h33, h34, h35, h36, h37, h38, h39, h10]
  clear hm h30 h31 h32 h33 h34 h35 h36 h37 h38 h39 h10
  replace la : look wq w.heap.size = some (.cells #[.int .i64 a, .int .i64 b, .int .i64 c, .int .u64 (s : Int)] 45 (0, 0)) := by rw [look_below hB sa]; exact la
  replace lb : look wq (w.heap.size + 1) = some (.cells #[.int .i64 d, .int .i64 e, .int .i64 f, .int .u64 (t : Int)] 45 (0, 0)) := by rw [look_below hB sb]; exact lb
  replace l9 : look wq b9 = some (.cells #[.int .i64 a, .int .i64 b, .int .i64 c, .float .f64 s] 47 (0, 0)) := by rw [look_below hB s9]; exact l9
  have hb3 := belT hb2 hB
  clear hB hb2
  go_wp2_with fail
  obtain ⟨V, hV⟩ : ∃ x, wq.setRow b10 #[.int .i64 d, .int .i64 e, .int .i64 f, .float .f64 t] = x := ⟨_, rfl⟩
  replace la : look V w.heap.size = some (.cells #[.int .i64 a, .int .i64 b, .int .i64 c, .int .u64 (s : Int)] 45 (0, 0)) := by rw [← hV, look_setRow, if_neg (by omega)]; exact la
  replace lb : look V (w.heap.size + 1) = some (.cells #[.int .i64 d, .int .i64 e, .int .i64 f, .int .u64 (t : Int)] 45 (0, 0)) := by rw [← hV, look_setRow, if_neg (by omega)]; exact lb
  replace l9 : look V b9 = some (.cells #[.int .i64 a, .int .i64 b, .int .i64 c, .float .f64 s] 47 (0, 0)) := by rw [← hV, look_setRow, if_neg (by omega)]; exact l9
  replace l10 : look V b10 = some (.cells #[.int .i64 d, .int .i64 e, .int .i64 f, .float .f64 t] 47 (0, 0)) := by rw [← hV, look_setRow, if_pos rfl, l10]; rfl
  have hb4 : Below w.heap.size w V := by rw [← hV]; exact belR hb3 (by omega) _
  rw [hV]
  clear hV hb3
  have sa := look_lt la
  have sb := look_lt lb
  have s9 := look_lt l9
  have s10 := look_lt l10
  have hqV := hSq2.below hb4
  have hmV := hSm2.below hb4
  refine wp_region_words mixed 21 ([] :: [40] :: [41] :: [41] :: [43, 41] :: [42, 44, 41] :: [45, 41] :: [41] :: [41] :: [47, 48, 41] :: [46, 49, 41] :: [41, 50] :: [51] :: [52] :: [52] :: [53, 54, 52] :: [52] :: [52] :: [56, 57, 52] :: [55, 58, 52] :: [52, 59] :: []) (isV (.bool true) :: isV (.bool true) :: isV (.slice aq nq cq) :: isV (.slice am nm cm) :: isSl nm 3 (mC L) :: isV (.agg #[.int .i64 ((totF q L (min nm nq)).lines : Nat), .int .i64 ((totF q L (min nm nq)).pieces : Nat), .int .i64 ((totF q L (min nm nq)).free : Nat), .float .f64 (sumL (totF q L (min nm nq)).prices)]) :: isV (.agg #[.int .i64 ((totF q L (min nm nq)).lines : Nat), .int .i64 ((totF q L (min nm nq)).pieces : Nat), .int .i64 ((totF q L (min nm nq)).free : Nat), .int .u64 ((sumL (totF q L (min nm nq)).prices : Nat) : Int)]) :: isV (.slice aq nq cq) :: isV (.slice am nm cm) :: isV (.agg #[.int .i64 ((totF q L (min nm nq)).lines : Nat), .int .i64 ((totF q L (min nm nq)).pieces : Nat), .int .i64 ((totF q L (min nm nq)).free : Nat), .int .u64 ((sumL (totF q L (min nm nq)).prices : Nat) : Int)]) :: isV (.bool true) :: isV (.bool true) :: isV (.bool true) :: isV (.agg (#[.int .i64 a, .int .i64 b, .int .i64 c, .float .f64 s])) :: isV (.agg (#[.int .i64 d, .int .i64 e, .int .i64 f, .float .f64 t])) :: isV (.bool (sameTB a b c s d e f t)) :: isV (.agg (#[.int .i64 a, .int .i64 b, .int .i64 c, .int .u64 (s : Int)])) :: isV (.agg (#[.int .i64 d, .int .i64 e, .int .i64 f, .int .u64 (t : Int)])) :: isV (.bool (sameTB a b c s d e f t)) :: isV (.bool true) :: isV (.bool true) :: []) (by decide) (by kernel_rfl)
    ⟨stab_isV _, stab_isV _, stab_isV _, stab_isV _, stab_isSl _ _ _, stab_isV _, stab_isV _, stab_isV _, stab_isV _, stab_isV _, stab_isV _, stab_isV _, stab_isV _, stab_isV _, stab_isV _, stab_isV _, stab_isV _, stab_isV _, stab_isV _, stab_isV _, stab_isV _, trivial⟩ ⟨?_, ?_, ?_, ?_, ?_, ?_, ?_, ?_, ?_, ?_, ?_, ?_, ?_, ?_, ?_, ?_, ?_, ?_, ?_, ?_, ?_, trivial⟩ ?_
  · intro vs wq hB hm
    clear hm
    simp only [fill]
    go_wp2_with fail
    refine (alive07 _).mono ?_
    rintro e w1 ⟨rfl, hb1⟩
    go_wp2
    exact ⟨_, rfl, rfl, hb1, trivial⟩
  · intro vs wq hB hm
    have h40 : vs 40 = .bool true := meets_get hm 0 rfl rfl rfl rfl
    clear hm
    simp only [fill, h40]
    go_wp2
    exact ⟨_, rfl, rfl, Below.refl _ _, trivial⟩
  · intro vs wq hB hm
    have h41 : vs 41 = .bool true := meets_get hm 1 rfl rfl rfl rfl
    clear hm
    simp only [fill, h41]
    go_wp2
    exact ⟨_, rfl, rfl, Below.refl _ _, trivial⟩
  · intro vs wq hB hm
    have h41 : vs 41 = .bool true := meets_get hm 1 rfl rfl rfl rfl
    clear hm
    simp only [fill, h41]
    go_wp2
    exact ⟨_, rfl, rfl, Below.refl _ _, trivial⟩
  · intro vs wq hB hm
    have h43 : vs 43 = .slice am nm cm := meets_get hm 3 rfl rfl rfl rfl
    have h41 : vs 41 = .bool true := meets_get hm 1 rfl rfl rfl rfl
    clear hm
    simp only [fill, h43, h41]
    go_wp2_with fail
    refine (marks_any (.slice am nm cm) nm L _ (by omega) (hmV.below hB)).mono ?_
    rintro e w1 ⟨v, rfl, hW, hb1⟩
    go_wp2
    exact ⟨_, rfl, hW, hb1, trivial⟩
  · intro vs wq hB hm
    have h42 : vs 42 = .slice aq nq cq := meets_get hm 2 rfl rfl rfl rfl
    have h44 := meets_get hm 4 rfl rfl rfl rfl
    have h41 : vs 41 = .bool true := meets_get hm 1 rfl rfl rfl rfl
    clear hm
    simp only [fill, h42, h41]
    go_wp2_with fail
    refine (msum_any (.slice aq nq cq) _ nq nm q L _ (by omega) (by omega) (hqV.below hB) h44 hL).mono ?_
    rintro e w1 ⟨rfl, hb1⟩
    go_wp2
    exact ⟨_, rfl, rfl, hb1, trivial⟩
  · intro vs wq hB hm
    have h45 : vs 45 = .agg #[.int .i64 ((totF q L (min nm nq)).lines : Nat), .int .i64 ((totF q L (min nm nq)).pieces : Nat), .int .i64 ((totF q L (min nm nq)).free : Nat), .float .f64 (sumL (totF q L (min nm nq)).prices)] := meets_get hm 5 rfl rfl rfl rfl
    have h41 : vs 41 = .bool true := meets_get hm 1 rfl rfl rfl rfl
    clear hm
    simp only [fill, h45, h41]
    go_wp2_with fail
    refine (astotal_any _ _ _ _ _).mono ?_
    rintro e w1 ⟨rfl, hb1⟩
    go_wp2
    exact ⟨_, rfl, rfl, hb1, trivial⟩
  · intro vs wq hB hm
    have h41 : vs 41 = .bool true := meets_get hm 1 rfl rfl rfl rfl
    clear hm
    simp only [fill, h41]
    go_wp2
    exact ⟨_, rfl, rfl, Below.refl _ _, trivial⟩
  · intro vs wq hB hm
    have h41 : vs 41 = .bool true := meets_get hm 1 rfl rfl rfl rfl
    clear hm
    simp only [fill, h41]
    go_wp2
    exact ⟨_, rfl, rfl, Below.refl _ _, trivial⟩
  · intro vs wq hB hm
    have h47 : vs 47 = .slice aq nq cq := meets_get hm 7 rfl rfl rfl rfl
    have h48 : vs 48 = .slice am nm cm := meets_get hm 8 rfl rfl rfl rfl
    have h41 : vs 41 = .bool true := meets_get hm 1 rfl rfl rfl rfl
    clear hm
    simp only [fill, h47, h48, h41]
    go_wp2_with fail
    refine (rsum_any (.slice aq nq cq) (.slice am nm cm) nq nm q L _ (by omega) (by omega) (hqV.below hB) (hmV.below hB) hL).mono ?_
    rintro e w1 ⟨rfl, hb1⟩
    go_wp2
    exact ⟨_, rfl, rfl, hb1, trivial⟩
  · intro vs wq hB hm
    have h46 : vs 46 = .agg #[.int .i64 ((totF q L (min nm nq)).lines : Nat), .int .i64 ((totF q L (min nm nq)).pieces : Nat), .int .i64 ((totF q L (min nm nq)).free : Nat), .int .u64 ((sumL (totF q L (min nm nq)).prices : Nat) : Int)] := meets_get hm 6 rfl rfl rfl rfl
    have h49 : vs 49 = .agg #[.int .i64 ((totF q L (min nm nq)).lines : Nat), .int .i64 ((totF q L (min nm nq)).pieces : Nat), .int .i64 ((totF q L (min nm nq)).free : Nat), .int .u64 ((sumL (totF q L (min nm nq)).prices : Nat) : Int)] := meets_get hm 9 rfl rfl rfl rfl
    have h41 : vs 41 = .bool true := meets_get hm 1 rfl rfl rfl rfl
    clear hm
    simp only [fill, h46, h49, h41]
    go_wp2
    exact ⟨_, rfl, (by simp [isV, sameTB]), Below.refl _ _, trivial⟩
  · intro vs wq hB hm
    have h41 : vs 41 = .bool true := meets_get hm 1 rfl rfl rfl rfl
    have h50 : vs 50 = .bool true := meets_get hm 10 rfl rfl rfl rfl
    clear hm
    simp only [fill, h41, h50]
    go_wp2
    exact ⟨_, rfl, rfl, Below.refl _ _, trivial⟩
  · intro vs wq hB hm
    have h51 : vs 51 = .bool true := meets_get hm 11 rfl rfl rfl rfl
    clear hm
    simp only [fill, h51]
    go_wp2
    exact ⟨_, rfl, rfl, Below.refl _ _, trivial⟩
  · intro vs wq hB hm
    have hl : look wq (b9) = some (.cells (#[.int .i64 a, .int .i64 b, .int .i64 c, .float .f64 s]) 47 (0, 0)) := by rw [look_below hB (by first | omega | (simp only [World.size_alloc]; omega) | exact look_lt (by assumption) | (simp only [World.size_alloc, World.size_setCell]; omega) | (simp; omega))]; first | assumption | go_simp
    have hc0 : World.cell? wq ⟨b9, 0, none⟩ = some (.int .i64 a) := by rw [look_cell hl]; rfl
    have hc1 : World.cell? wq ⟨b9, 1, none⟩ = some (.int .i64 b) := by rw [look_cell hl]; rfl
    have hc2 : World.cell? wq ⟨b9, 2, none⟩ = some (.int .i64 c) := by rw [look_cell hl]; rfl
    have hc3 : World.cell? wq ⟨b9, 3, none⟩ = some (.float .f64 s) := by rw [look_cell hl]; rfl
    have h52 : vs 52 = .bool true := meets_get hm 12 rfl rfl rfl rfl
    clear hm
    simp only [fill, h52]
    go_wp2
    exact ⟨_, rfl, rfl, Below.refl _ _, trivial⟩
  · intro vs wq hB hm
    have hl : look wq (b10) = some (.cells (#[.int .i64 d, .int .i64 e, .int .i64 f, .float .f64 t]) 47 (0, 0)) := by rw [look_below hB (by first | omega | (simp only [World.size_alloc]; omega) | exact look_lt (by assumption) | (simp only [World.size_alloc, World.size_setCell]; omega) | (simp; omega))]; first | assumption | go_simp
    have hc0 : World.cell? wq ⟨b10, 0, none⟩ = some (.int .i64 d) := by rw [look_cell hl]; rfl
    have hc1 : World.cell? wq ⟨b10, 1, none⟩ = some (.int .i64 e) := by rw [look_cell hl]; rfl
    have hc2 : World.cell? wq ⟨b10, 2, none⟩ = some (.int .i64 f) := by rw [look_cell hl]; rfl
    have hc3 : World.cell? wq ⟨b10, 3, none⟩ = some (.float .f64 t) := by rw [look_cell hl]; rfl
    have h52 : vs 52 = .bool true := meets_get hm 12 rfl rfl rfl rfl
    clear hm
    simp only [fill, h52]
    go_wp2
    exact ⟨_, rfl, rfl, Below.refl _ _, trivial⟩
  · intro vs wq hB hm
    have h53 : vs 53 = .agg (#[.int .i64 a, .int .i64 b, .int .i64 c, .float .f64 s]) := meets_get hm 13 rfl rfl rfl rfl
    have h54 : vs 54 = .agg (#[.int .i64 d, .int .i64 e, .int .i64 f, .float .f64 t]) := meets_get hm 14 rfl rfl rfl rfl
    have h52 : vs 52 = .bool true := meets_get hm 12 rfl rfl rfl rfl
    clear hm
    simp only [fill, h53, h54, h52]
    go_wp2_with fail
    refine (sametotal_any a b c s d e f t hs ht _).mono ?_
    rintro e w1 ⟨rfl, hb1⟩
    go_wp2
    exact ⟨_, rfl, rfl, hb1, trivial⟩
  · intro vs wq hB hm
    have hl : look wq (w.heap.size) = some (.cells (#[.int .i64 a, .int .i64 b, .int .i64 c, .int .u64 (s : Int)]) 45 (0, 0)) := by rw [look_below hB (by first | omega | (simp only [World.size_alloc]; omega) | exact look_lt (by assumption) | (simp only [World.size_alloc, World.size_setCell]; omega) | (simp; omega))]; first | assumption | go_simp
    have hc0 : World.cell? wq ⟨w.heap.size, 0, none⟩ = some (.int .i64 a) := by rw [look_cell hl]; rfl
    have hc1 : World.cell? wq ⟨w.heap.size, 1, none⟩ = some (.int .i64 b) := by rw [look_cell hl]; rfl
    have hc2 : World.cell? wq ⟨w.heap.size, 2, none⟩ = some (.int .i64 c) := by rw [look_cell hl]; rfl
    have hc3 : World.cell? wq ⟨w.heap.size, 3, none⟩ = some (.int .u64 (s : Int)) := by rw [look_cell hl]; rfl
    have h52 : vs 52 = .bool true := meets_get hm 12 rfl rfl rfl rfl
    clear hm
    simp only [fill, h52]
    go_wp2
    exact ⟨_, rfl, rfl, Below.refl _ _, trivial⟩
  · intro vs wq hB hm
    have hl : look wq (w.heap.size + 1) = some (.cells (#[.int .i64 d, .int .i64 e, .int .i64 f, .int .u64 (t : Int)]) 45 (0, 0)) := by rw [look_below hB (by first | omega | (simp only [World.size_alloc]; omega) | exact look_lt (by assumption) | (simp only [World.size_alloc, World.size_setCell]; omega) | (simp; omega))]; first | assumption | go_simp
    have hc0 : World.cell? wq ⟨w.heap.size + 1, 0, none⟩ = some (.int .i64 d) := by rw [look_cell hl]; rfl
    have hc1 : World.cell? wq ⟨w.heap.size + 1, 1, none⟩ = some (.int .i64 e) := by rw [look_cell hl]; rfl
    have hc2 : World.cell? wq ⟨w.heap.size + 1, 2, none⟩ = some (.int .i64 f) := by rw [look_cell hl]; rfl
    have hc3 : World.cell? wq ⟨w.heap.size + 1, 3, none⟩ = some (.int .u64 (t : Int)) := by rw [look_cell hl]; rfl
    have h52 : vs 52 = .bool true := meets_get hm 12 rfl rfl rfl rfl
    clear hm
    simp only [fill, h52]
    go_wp2
    exact ⟨_, rfl, rfl, Below.refl _ _, trivial⟩
  · intro vs wq hB hm
    have h56 : vs 56 = .agg (#[.int .i64 a, .int .i64 b, .int .i64 c, .int .u64 (s : Int)]) := meets_get hm 16 rfl rfl rfl rfl
    have h57 : vs 57 = .agg (#[.int .i64 d, .int .i64 e, .int .i64 f, .int .u64 (t : Int)]) := meets_get hm 17 rfl rfl rfl rfl
    have h52 : vs 52 = .bool true := meets_get hm 12 rfl rfl rfl rfl
    clear hm
    simp only [fill, h56, h57, h52]
    go_wp2
    exact ⟨_, rfl, rfl, Below.refl _ _, trivial⟩
  · intro vs wq hB hm
    have h55 : vs 55 = .bool (sameTB a b c s d e f t) := meets_get hm 15 rfl rfl rfl rfl
    have h58 : vs 58 = .bool (sameTB a b c s d e f t) := meets_get hm 18 rfl rfl rfl rfl
    have h52 : vs 52 = .bool true := meets_get hm 12 rfl rfl rfl rfl
    clear hm
    simp only [fill, h55, h58, h52]
    go_wp2
    exact ⟨_, rfl, (by simp [isV]), Below.refl _ _, trivial⟩
  · intro vs wq hB hm
    have h52 : vs 52 = .bool true := meets_get hm 12 rfl rfl rfl rfl
    have h59 : vs 59 = .bool true := meets_get hm 19 rfl rfl rfl rfl
    clear hm
    simp only [fill, h52, h59]
    go_wp2
    exact ⟨_, rfl, rfl, Below.refl _ _, trivial⟩
  intro vs wq hB hm hne hlo
  have h40 : vs 40 = .bool true := hm 0 _ _ _ rfl rfl rfl
  have h41 : vs 41 = .bool true := hm 1 _ _ _ rfl rfl rfl
  have h42 : vs 42 = .slice aq nq cq := hm 2 _ _ _ rfl rfl rfl
  have h43 : vs 43 = .slice am nm cm := hm 3 _ _ _ rfl rfl rfl
  have h44 := hm 4 _ _ _ rfl rfl rfl
  have h45 : vs 45 = .agg #[.int .i64 ((totF q L (min nm nq)).lines : Nat), .int .i64 ((totF q L (min nm nq)).pieces : Nat), .int .i64 ((totF q L (min nm nq)).free : Nat), .float .f64 (sumL (totF q L (min nm nq)).prices)] := hm 5 _ _ _ rfl rfl rfl
  have h46 : vs 46 = .agg #[.int .i64 ((totF q L (min nm nq)).lines : Nat), .int .i64 ((totF q L (min nm nq)).pieces : Nat), .int .i64 ((totF q L (min nm nq)).free : Nat), .int .u64 ((sumL (totF q L (min nm nq)).prices : Nat) : Int)] := hm 6 _ _ _ rfl rfl rfl
  have h47 : vs 47 = .slice aq nq cq := hm 7 _ _ _ rfl rfl rfl
  have h48 : vs 48 = .slice am nm cm := hm 8 _ _ _ rfl rfl rfl
  have h49 : vs 49 = .agg #[.int .i64 ((totF q L (min nm nq)).lines : Nat), .int .i64 ((totF q L (min nm nq)).pieces : Nat), .int .i64 ((totF q L (min nm nq)).free : Nat), .int .u64 ((sumL (totF q L (min nm nq)).prices : Nat) : Int)] := hm 9 _ _ _ rfl rfl rfl
  have h50 : vs 50 = .bool true := hm 10 _ _ _ rfl rfl rfl
  have h51 : vs 51 = .bool true := hm 11 _ _ _ rfl rfl rfl
  have h52 : vs 52 = .bool true := hm 12 _ _ _ rfl rfl rfl
  have h53 : vs 53 = .agg (#[.int .i64 a, .int .i64 b, .int .i64 c, .float .f64 s]) := hm 13 _ _ _ rfl rfl rfl
  have h54 : vs 54 = .agg (#[.int .i64 d, .int .i64 e, .int .i64 f, .float .f64 t]) := hm 14 _ _ _ rfl rfl rfl
  have h55 : vs 55 = .bool (sameTB a b c s d e f t) := hm 15 _ _ _ rfl rfl rfl
  have h56 : vs 56 = .agg (#[.int .i64 a, .int .i64 b, .int .i64 c, .int .u64 (s : Int)]) := hm 16 _ _ _ rfl rfl rfl
  have h57 : vs 57 = .agg (#[.int .i64 d, .int .i64 e, .int .i64 f, .int .u64 (t : Int)]) := hm 17 _ _ _ rfl rfl rfl
  have h58 : vs 58 = .bool (sameTB a b c s d e f t) := hm 18 _ _ _ rfl rfl rfl
  have h59 : vs 59 = .bool true := hm 19 _ _ _ rfl rfl rfl
  have h60 : vs 60 = .bool true := hm 20 _ _ _ rfl rfl rfl
  clear hne hlo
  simp only [fill, List.filterMap, List.take, List.drop, List.setIfInBounds_toArray, List.set_cons_zero, List.set_cons_succ, h40, h41, h42, h43, h45, h46, h47, h48, h49, h50, h51, h52, h53, h54, h55, h56, h57, h58, h59, h60]
  clear hm h40 h41 h42 h43 h45 h46 h47 h48 h49 h50 h51 h52 h53 h54 h55 h56 h57 h58 h59 h60
  go_wp2
  go_ret
  exact ⟨rfl, belT hb4 hB⟩
end Go.Proofs.Ytniphfkipjpikaa
