/- Contracts: marks and the document's marks; the join of two; whether one covers another. -/
import Derived.Test.YtniphfkipjpikaaMkA
namespace Go.Proofs.Ytniphfkipjpikaa
open Go.RowKit Flt

theorem mixed : Try.prog.follows .mixedOrders = true := by kernel_rfl

theorem of_any (F : Int) (H : Bool) (p : Nat) (w : World) :
    Calls Try.prog 14 #[.agg #[.int .i64 F, .bool H, .int .u64 (p : Int)]] w fun e w' => e = .returned (.agg #[.int .i64 F, .bool H, .float .f64 p]) ∧ Below w.heap.size w w' := by
  go_enter Try.func14, Try.ntmps14
  go_wp2
  refine wp_region_words mixed 8 ([] :: [3] :: [] :: [5] :: [] :: [7] :: [8] :: [4, 6, 9] :: []) (isV (.pointer (some ⟨w.heap.size, 0, none⟩)) :: isV (.int .i64 F) :: isV (.pointer (some ⟨w.heap.size, 1, none⟩)) :: isV (.bool H) :: isV (.pointer (some ⟨w.heap.size, 2, none⟩)) :: isV (.int .u64 (p : Int)) :: isV (.float .f64 p) :: isV (.agg #[.int .i64 F, .bool H, .float .f64 p]) :: []) (by decide) (by kernel_rfl)
    ⟨stab_isV _, stab_isV _, stab_isV _, stab_isV _, stab_isV _, stab_isV _, stab_isV _, stab_isV _, trivial⟩ ⟨?_, ?_, ?_, ?_, ?_, ?_, ?_, ?_, trivial⟩ ?_
  · intro vs wq hB hm
    clear hm
    simp only [fill]
    go_wp2
    exact ⟨_, rfl, rfl, Below.refl _ _, trivial⟩
  · intro vs wq hB hm
    have hl : look wq (w.heap.size) = some (.cells (#[.int .i64 F, .bool H, .int .u64 (p : Int)]) 25 (0, 0)) := by rw [look_below hB (by first | omega | (simp only [World.size_alloc]; omega) | exact look_lt (by assumption) | (simp only [World.size_alloc, World.size_setCell]; omega) | (simp; omega))]; first | assumption | go_simp
    have hc : World.cell? wq ⟨w.heap.size, 0, none⟩ = some (.int .i64 F) := by rw [look_cell hl]; rfl
    have h3 : vs 3 = .pointer (some ⟨w.heap.size, 0, none⟩) := meets_get hm 0 rfl rfl rfl rfl
    clear hm
    simp only [fill, h3]
    go_wp2
    exact ⟨_, rfl, rfl, Below.refl _ _, trivial⟩
  · intro vs wq hB hm
    clear hm
    simp only [fill]
    go_wp2
    exact ⟨_, rfl, rfl, Below.refl _ _, trivial⟩
  · intro vs wq hB hm
    have hl : look wq (w.heap.size) = some (.cells (#[.int .i64 F, .bool H, .int .u64 (p : Int)]) 25 (0, 0)) := by rw [look_below hB (by first | omega | (simp only [World.size_alloc]; omega) | exact look_lt (by assumption) | (simp only [World.size_alloc, World.size_setCell]; omega) | (simp; omega))]; first | assumption | go_simp
    have hc : World.cell? wq ⟨w.heap.size, 1, none⟩ = some (.bool H) := by rw [look_cell hl]; rfl
    have h5 : vs 5 = .pointer (some ⟨w.heap.size, 1, none⟩) := meets_get hm 2 rfl rfl rfl rfl
    clear hm
    simp only [fill, h5]
    go_wp2
    exact ⟨_, rfl, rfl, Below.refl _ _, trivial⟩
  · intro vs wq hB hm
    clear hm
    simp only [fill]
    go_wp2
    exact ⟨_, rfl, rfl, Below.refl _ _, trivial⟩
  · intro vs wq hB hm
    have hl : look wq (w.heap.size) = some (.cells (#[.int .i64 F, .bool H, .int .u64 (p : Int)]) 25 (0, 0)) := by rw [look_below hB (by first | omega | (simp only [World.size_alloc]; omega) | exact look_lt (by assumption) | (simp only [World.size_alloc, World.size_setCell]; omega) | (simp; omega))]; first | assumption | go_simp
    have hc : World.cell? wq ⟨w.heap.size, 2, none⟩ = some (.int .u64 (p : Int)) := by rw [look_cell hl]; rfl
    have h7 : vs 7 = .pointer (some ⟨w.heap.size, 2, none⟩) := meets_get hm 4 rfl rfl rfl rfl
    clear hm
    simp only [fill, h7]
    go_wp2
    exact ⟨_, rfl, rfl, Below.refl _ _, trivial⟩
  · intro vs wq hB hm
    have h8 : vs 8 = .int .u64 (p : Int) := meets_get hm 5 rfl rfl rfl rfl
    clear hm
    simp only [fill, h8]
    go_wp2
    exact ⟨_, rfl, rfl, Below.refl _ _, trivial⟩
  · intro vs wq hB hm
    have h4 : vs 4 = .int .i64 F := meets_get hm 1 rfl rfl rfl rfl
    have h6 : vs 6 = .bool H := meets_get hm 3 rfl rfl rfl rfl
    have h9 : vs 9 = .float .f64 p := meets_get hm 6 rfl rfl rfl rfl
    clear hm
    simp only [fill, h4, h6, h9]
    go_wp2
    exact ⟨_, rfl, rfl, Below.refl _ _, trivial⟩
  intro vs wq hB hm hne hlo
  have h3 : vs 3 = .pointer (some ⟨w.heap.size, 0, none⟩) := hm 0 _ _ _ rfl rfl rfl
  have h4 : vs 4 = .int .i64 F := hm 1 _ _ _ rfl rfl rfl
  have h5 : vs 5 = .pointer (some ⟨w.heap.size, 1, none⟩) := hm 2 _ _ _ rfl rfl rfl
  have h6 : vs 6 = .bool H := hm 3 _ _ _ rfl rfl rfl
  have h7 : vs 7 = .pointer (some ⟨w.heap.size, 2, none⟩) := hm 4 _ _ _ rfl rfl rfl
  have h8 : vs 8 = .int .u64 (p : Int) := hm 5 _ _ _ rfl rfl rfl
  have h9 : vs 9 = .float .f64 p := hm 6 _ _ _ rfl rfl rfl
  have h10 : vs 10 = .agg #[.int .i64 F, .bool H, .float .f64 p] := hm 7 _ _ _ rfl rfl rfl
  clear hne hlo
  simp only [fill, List.filterMap, List.take, List.drop, List.setIfInBounds_toArray, List.set_cons_zero, List.set_cons_succ, h3, h4, h5, h6, h7, h8, h9, h10]
  clear hm h3 h4 h5 h6 h7 h8 h9 h10
  replace lr : look wq (w.heap.size + 1) = some (.cells (#[.int .i64 0, .bool false, .float .f64 0]) 29 (0, 0)) := by rw [look_below hB (by first | omega | (simp only [World.size_alloc]; omega) | exact look_lt (by assumption) | (simp only [World.size_alloc, World.size_setCell]; omega) | (simp; omega))]; first | assumption | go_simp
  replace cr0 : World.cell? wq ⟨w.heap.size + 1, 0, none⟩ = some (.int .i64 0) := by rw [look_cell lr]; rfl
  replace cr1 : World.cell? wq ⟨w.heap.size + 1, 1, none⟩ = some (.bool false) := by rw [look_cell lr]; rfl
  replace cr2 : World.cell? wq ⟨w.heap.size + 1, 2, none⟩ = some (.float .f64 0) := by rw [look_cell lr]; rfl
  replace fr := look_frozen lr
  replace sr := look_lt lr
  go_wp2
  exact ret_mk (g := w.heap.size + 1) (t := 29) (fr := (0, 0)) Try.results14 rfl (by go_simp) rfl rfl ⟨rfl, belR (belT (belA (belA (bel0 _) _) _) hB) (by omega) _⟩
theorem as_any (F : Int) (H : Bool) (p : Nat) (w : World) :
    Calls Try.prog 17 #[.agg #[.int .i64 F, .bool H, .float .f64 p]] w fun e w' => e = .returned (.agg #[.int .i64 F, .bool H, .int .u64 (p : Int)]) ∧ Below w.heap.size w w' := by
  go_enter Try.func17, Try.ntmps17
  go_wp2
  refine wp_region_words mixed 8 ([] :: [3] :: [] :: [5] :: [] :: [7] :: [8] :: [4, 6, 9] :: []) (isV (.pointer (some ⟨w.heap.size, 0, none⟩)) :: isV (.int .i64 F) :: isV (.pointer (some ⟨w.heap.size, 1, none⟩)) :: isV (.bool H) :: isV (.pointer (some ⟨w.heap.size, 2, none⟩)) :: isV (.float .f64 p) :: isV (.int .u64 (p : Int)) :: isV (.agg #[.int .i64 F, .bool H, .int .u64 (p : Int)]) :: []) (by decide) (by kernel_rfl)
    ⟨stab_isV _, stab_isV _, stab_isV _, stab_isV _, stab_isV _, stab_isV _, stab_isV _, stab_isV _, trivial⟩ ⟨?_, ?_, ?_, ?_, ?_, ?_, ?_, ?_, trivial⟩ ?_
  · intro vs wq hB hm
    clear hm
    simp only [fill]
    go_wp2
    exact ⟨_, rfl, rfl, Below.refl _ _, trivial⟩
  · intro vs wq hB hm
    have hl : look wq (w.heap.size) = some (.cells (#[.int .i64 F, .bool H, .float .f64 p]) 29 (0, 0)) := by rw [look_below hB (by first | omega | (simp only [World.size_alloc]; omega) | exact look_lt (by assumption) | (simp only [World.size_alloc, World.size_setCell]; omega) | (simp; omega))]; first | assumption | go_simp
    have hc : World.cell? wq ⟨w.heap.size, 0, none⟩ = some (.int .i64 F) := by rw [look_cell hl]; rfl
    have h3 : vs 3 = .pointer (some ⟨w.heap.size, 0, none⟩) := meets_get hm 0 rfl rfl rfl rfl
    clear hm
    simp only [fill, h3]
    go_wp2
    exact ⟨_, rfl, rfl, Below.refl _ _, trivial⟩
  · intro vs wq hB hm
    clear hm
    simp only [fill]
    go_wp2
    exact ⟨_, rfl, rfl, Below.refl _ _, trivial⟩
  · intro vs wq hB hm
    have hl : look wq (w.heap.size) = some (.cells (#[.int .i64 F, .bool H, .float .f64 p]) 29 (0, 0)) := by rw [look_below hB (by first | omega | (simp only [World.size_alloc]; omega) | exact look_lt (by assumption) | (simp only [World.size_alloc, World.size_setCell]; omega) | (simp; omega))]; first | assumption | go_simp
    have hc : World.cell? wq ⟨w.heap.size, 1, none⟩ = some (.bool H) := by rw [look_cell hl]; rfl
    have h5 : vs 5 = .pointer (some ⟨w.heap.size, 1, none⟩) := meets_get hm 2 rfl rfl rfl rfl
    clear hm
    simp only [fill, h5]
    go_wp2
    exact ⟨_, rfl, rfl, Below.refl _ _, trivial⟩
  · intro vs wq hB hm
    clear hm
    simp only [fill]
    go_wp2
    exact ⟨_, rfl, rfl, Below.refl _ _, trivial⟩
  · intro vs wq hB hm
    have hl : look wq (w.heap.size) = some (.cells (#[.int .i64 F, .bool H, .float .f64 p]) 29 (0, 0)) := by rw [look_below hB (by first | omega | (simp only [World.size_alloc]; omega) | exact look_lt (by assumption) | (simp only [World.size_alloc, World.size_setCell]; omega) | (simp; omega))]; first | assumption | go_simp
    have hc : World.cell? wq ⟨w.heap.size, 2, none⟩ = some (.float .f64 p) := by rw [look_cell hl]; rfl
    have h7 : vs 7 = .pointer (some ⟨w.heap.size, 2, none⟩) := meets_get hm 4 rfl rfl rfl rfl
    clear hm
    simp only [fill, h7]
    go_wp2
    exact ⟨_, rfl, rfl, Below.refl _ _, trivial⟩
  · intro vs wq hB hm
    have h8 : vs 8 = .float .f64 p := meets_get hm 5 rfl rfl rfl rfl
    clear hm
    simp only [fill, h8]
    go_wp2
    exact ⟨_, rfl, rfl, Below.refl _ _, trivial⟩
  · intro vs wq hB hm
    have h4 : vs 4 = .int .i64 F := meets_get hm 1 rfl rfl rfl rfl
    have h6 : vs 6 = .bool H := meets_get hm 3 rfl rfl rfl rfl
    have h9 : vs 9 = .int .u64 (p : Int) := meets_get hm 6 rfl rfl rfl rfl
    clear hm
    simp only [fill, h4, h6, h9]
    go_wp2
    exact ⟨_, rfl, rfl, Below.refl _ _, trivial⟩
  intro vs wq hB hm hne hlo
  have h3 : vs 3 = .pointer (some ⟨w.heap.size, 0, none⟩) := hm 0 _ _ _ rfl rfl rfl
  have h4 : vs 4 = .int .i64 F := hm 1 _ _ _ rfl rfl rfl
  have h5 : vs 5 = .pointer (some ⟨w.heap.size, 1, none⟩) := hm 2 _ _ _ rfl rfl rfl
  have h6 : vs 6 = .bool H := hm 3 _ _ _ rfl rfl rfl
  have h7 : vs 7 = .pointer (some ⟨w.heap.size, 2, none⟩) := hm 4 _ _ _ rfl rfl rfl
  have h8 : vs 8 = .float .f64 p := hm 5 _ _ _ rfl rfl rfl
  have h9 : vs 9 = .int .u64 (p : Int) := hm 6 _ _ _ rfl rfl rfl
  have h10 : vs 10 = .agg #[.int .i64 F, .bool H, .int .u64 (p : Int)] := hm 7 _ _ _ rfl rfl rfl
  clear hne hlo
  simp only [fill, List.filterMap, List.take, List.drop, List.setIfInBounds_toArray, List.set_cons_zero, List.set_cons_succ, h3, h4, h5, h6, h7, h8, h9, h10]
  clear hm h3 h4 h5 h6 h7 h8 h9 h10
  replace lr : look wq (w.heap.size + 1) = some (.cells (#[.int .i64 0, .bool false, .int .u64 0]) 25 (0, 0)) := by rw [look_below hB (by first | omega | (simp only [World.size_alloc]; omega) | exact look_lt (by assumption) | (simp only [World.size_alloc, World.size_setCell]; omega) | (simp; omega))]; first | assumption | go_simp
  replace cr0 : World.cell? wq ⟨w.heap.size + 1, 0, none⟩ = some (.int .i64 0) := by rw [look_cell lr]; rfl
  replace cr1 : World.cell? wq ⟨w.heap.size + 1, 1, none⟩ = some (.bool false) := by rw [look_cell lr]; rfl
  replace cr2 : World.cell? wq ⟨w.heap.size + 1, 2, none⟩ = some (.int .u64 0) := by rw [look_cell lr]; rfl
  replace fr := look_frozen lr
  replace sr := look_lt lr
  go_wp2
  exact ret_rk (g := w.heap.size + 1) (t := 25) (fr := (0, 0)) Try.results17 rfl (by go_simp) rfl rfl ⟨rfl, belR (belT (belA (belA (bel0 _) _) _) hB) (by omega) _⟩

set_option maxHeartbeats 800000 in
theorem join_any (F : Int) (H : Bool) (p : Nat) (G : Int) (I : Bool) (q : Nat) (hp : p < 18446744073709551616) (hq : q < 18446744073709551616) (w : World) :
    Calls Try.prog 63 #[.agg #[.int .i64 F, .bool H, .float .f64 p], .agg #[.int .i64 G, .bool I, .float .f64 q]] w fun e w' => e = .returned (.agg #[.int .i64 (max F G), .bool (H || I), .float .f64 (priceJ H p I q)]) ∧ Below w.heap.size w w' := by
  by_cases hFG : F < G
  · rw [show max F G = G by omega]
    cases H
    · cases I
      · go_enter Try.func63, Try.ntmps63
        go_wp2
        exact ret_mk (cs := #[.int .i64 G, .bool false, .float .f64 0]) (g := w.heap.size + 1 + 1) (t := 29) (fr := (0, 0)) Try.results63 rfl (by go_simp) rfl rfl ⟨rfl, belA (belA (belA (belA (bel0 _) _) _) _) _⟩
      · go_enter Try.func63, Try.ntmps63
        go_wp2
        exact ret_mk (cs := #[.int .i64 G, .bool true, .float .f64 q]) (g := w.heap.size + 1 + 1) (t := 29) (fr := (0, 0)) Try.results63 rfl (by go_simp) rfl rfl ⟨rfl, belA (belA (belA (belA (bel0 _) _) _) _) _⟩
    · cases I
      · go_enter Try.func63, Try.ntmps63
        go_wp2
        exact ret_mk (cs := #[.int .i64 G, .bool true, .float .f64 p]) (g := w.heap.size + 1 + 1) (t := 29) (fr := (0, 0)) Try.results63 rfl (by go_simp) rfl rfl ⟨rfl, belA (belA (belA (belA (bel0 _) _) _) _) _⟩
      · go_enter Try.func63, Try.ntmps63
        go_wp2_with fail
        refine (total_join p q hp hq _).mono ?_
        rintro _ _ ⟨rfl, rfl⟩
        go_wp2
        exact ret_mk (cs := #[.int .i64 G, .bool true, .float .f64 (joinF p q)]) (g := w.heap.size + 1 + 1) (t := 29) (fr := (0, 0)) Try.results63 rfl (by go_simp) rfl rfl ⟨rfl, belA (belA (belA (belA (bel0 _) _) _) _) _⟩
  · rw [show max F G = F by omega]
    cases H
    · cases I
      · go_enter Try.func63, Try.ntmps63
        go_wp2
        exact ret_mk (cs := #[.int .i64 F, .bool false, .float .f64 0]) (g := w.heap.size + 1 + 1) (t := 29) (fr := (0, 0)) Try.results63 rfl (by go_simp) rfl rfl ⟨rfl, belA (belA (belA (belA (bel0 _) _) _) _) _⟩
      · go_enter Try.func63, Try.ntmps63
        go_wp2
        exact ret_mk (cs := #[.int .i64 F, .bool true, .float .f64 q]) (g := w.heap.size + 1 + 1) (t := 29) (fr := (0, 0)) Try.results63 rfl (by go_simp) rfl rfl ⟨rfl, belA (belA (belA (belA (bel0 _) _) _) _) _⟩
    · cases I
      · go_enter Try.func63, Try.ntmps63
        go_wp2
        exact ret_mk (cs := #[.int .i64 F, .bool true, .float .f64 p]) (g := w.heap.size + 1 + 1) (t := 29) (fr := (0, 0)) Try.results63 rfl (by go_simp) rfl rfl ⟨rfl, belA (belA (belA (belA (bel0 _) _) _) _) _⟩
      · go_enter Try.func63, Try.ntmps63
        go_wp2_with fail
        refine (total_join p q hp hq _).mono ?_
        rintro _ _ ⟨rfl, rfl⟩
        go_wp2
        exact ret_mk (cs := #[.int .i64 F, .bool true, .float .f64 (joinF p q)]) (g := w.heap.size + 1 + 1) (t := 29) (fr := (0, 0)) Try.results63 rfl (by go_simp) rfl rfl ⟨rfl, belA (belA (belA (belA (bel0 _) _) _) _) _⟩
end Go.Proofs.Ytniphfkipjpikaa
