/- Labels: dots, places, which may be, their order, pasts. -/
import Derived.Test.YtniphfkipjpikaaLbA
namespace Go.Proofs.Ytniphfkipjpikaa
open Go.RowKit

theorem ldot_any (l : Lb) (w : World) :
    Calls Try.prog 58 #[.agg (LA l)] w fun e w' => e = .returned (.agg #[.int .i64 l.node, .int .u32 (l.n : Int)]) ∧ Below w.heap.size w w' := by
  have hb := belA (belA (bel0 w) (.cells (LA l) 87)) (.cells #[.int .i64 l.node, .int .u32 (l.n : Int)] 99)
  have hlx : look ((w.alloc (.cells (LA l) 87)).alloc (.cells #[.int .i64 0, .int .u32 0] 99)) w.heap.size = some (.cells (LA l) 87 (0, 0)) := by rw [look_alloc_past _ _ _ (by simp)]; exact look_alloc_at _ _ _ rfl
  have c0 : World.cell? ((w.alloc (.cells (LA l) 87)).alloc (.cells #[.int .i64 0, .int .u32 0] 99)) ⟨w.heap.size, 0, none⟩ = some (.int .u64 (l.time : Int)) := by rw [look_cell hlx]; exact LA_get0 _
  have c1 : World.cell? ((w.alloc (.cells (LA l) 87)).alloc (.cells #[.int .i64 0, .int .u32 0] 99)) ⟨w.heap.size, 1, none⟩ = some (.int .i64 l.node) := by rw [look_cell hlx]; exact LA_get1 _
  have c2 : World.cell? ((w.alloc (.cells (LA l) 87)).alloc (.cells #[.int .i64 0, .int .u32 0] 99)) ⟨w.heap.size, 2, none⟩ = some (.int .u32 (l.n : Int)) := by rw [look_cell hlx]; exact LA_get2 _
  have c3 : World.cell? ((w.alloc (.cells (LA l) 87)).alloc (.cells #[.int .i64 0, .int .u32 0] 99)) ⟨w.heap.size, 3, none⟩ = some (.int .i64 l.cart) := by rw [look_cell hlx]; exact LA_get3 _
  go_enter Try.func58, Try.ntmps58
  go_wp2
  refine bodyPost_ret (v := .agg #[.int .i64 l.node, .int .u32 (l.n : Int)]) (by simp [results, Try.results58, go_sem]) rfl ?_
  exact ⟨rfl, hb⟩

theorem lof_any (l : Lb) (w : World) :
    Calls Try.prog 88 #[.agg (LA l)] w fun e w' => e = .returned (.agg #[.int .u64 (l.time : Int), .int .i64 l.node, .int .i64 l.cart, .int .u32 (l.n : Int)]) ∧ Below w.heap.size w w' := by
  have hb := belA (belA (bel0 w) (.cells (LA l) 87)) (.cells #[.int .u64 (l.time : Int), .int .i64 l.node, .int .i64 l.cart, .int .u32 (l.n : Int)] 128)
  have hlx : look ((w.alloc (.cells (LA l) 87)).alloc (.cells #[.int .u64 0, .int .i64 0, .int .i64 0, .int .u32 0] 128)) w.heap.size = some (.cells (LA l) 87 (0, 0)) := by rw [look_alloc_past _ _ _ (by simp)]; exact look_alloc_at _ _ _ rfl
  have c0 : World.cell? ((w.alloc (.cells (LA l) 87)).alloc (.cells #[.int .u64 0, .int .i64 0, .int .i64 0, .int .u32 0] 128)) ⟨w.heap.size, 0, none⟩ = some (.int .u64 (l.time : Int)) := by rw [look_cell hlx]; exact LA_get0 _
  have c1 : World.cell? ((w.alloc (.cells (LA l) 87)).alloc (.cells #[.int .u64 0, .int .i64 0, .int .i64 0, .int .u32 0] 128)) ⟨w.heap.size, 1, none⟩ = some (.int .i64 l.node) := by rw [look_cell hlx]; exact LA_get1 _
  have c2 : World.cell? ((w.alloc (.cells (LA l) 87)).alloc (.cells #[.int .u64 0, .int .i64 0, .int .i64 0, .int .u32 0] 128)) ⟨w.heap.size, 2, none⟩ = some (.int .u32 (l.n : Int)) := by rw [look_cell hlx]; exact LA_get2 _
  have c3 : World.cell? ((w.alloc (.cells (LA l) 87)).alloc (.cells #[.int .u64 0, .int .i64 0, .int .i64 0, .int .u32 0] 128)) ⟨w.heap.size, 3, none⟩ = some (.int .i64 l.cart) := by rw [look_cell hlx]; exact LA_get3 _
  go_enter Try.func88, Try.ntmps88
  go_wp2
  refine bodyPost_ret (v := .agg #[.int .u64 (l.time : Int), .int .i64 l.node, .int .i64 l.cart, .int .u32 (l.n : Int)]) (by simp [results, Try.results88, go_sem]) rfl ⟨rfl, ?_⟩
  exact hb

/-- May the first m numbers of a vector be? -/
def cntTo (f : Nat → Nat) (m : Nat) : Bool := (List.range m).all fun i => decide (f i ≤ 1048576)
theorem cntTo_succ (f : Nat → Nat) (m : Nat) : cntTo f (m + 1) = (cntTo f m && decide (f m ≤ 1048576)) := by
  unfold cntTo
  rw [List.range_succ, List.all_append]
  simp
theorem cntTo_mono (f : Nat → Nat) (m : Nat) (h : ¬ f m ≤ 1048576) : ∀ n, m < n → cntTo f n = false
  | 0, hn => by omega
  | n + 1, hn => by
    rw [cntTo_succ]
    by_cases e : m = n
    · subst e; rw [decide_eq_false h, Bool.and_false]
    · rw [cntTo_mono f m h n (by omega), Bool.false_and]
theorem cntTo_iff (f : Nat → Nat) (m : Nat) : cntTo f m = true ↔ ∀ i, i < m → f i ≤ 1048576 := by
  unfold cntTo
  rw [List.all_eq_true]
  simp

set_option maxRecDepth 100000 in
set_option maxHeartbeats 800000 in
theorem lcounts_any (f : Nat → Nat) (w : World) :
    Calls Try.prog 91 #[.agg (VA f)] w fun e w' => e = .returned (.bool (cntTo f 12)) ∧ Below w.heap.size w w' := by
  have hb := belA (bel0 w) (.cells (VA f) 65)
  go_enter Try.func91, Try.ntmps91
  go_wp2
  go_loop [6] (fun i => ∃ m : Nat, m ≤ 12 ∧ i = .int .i64 m ∧ cntTo f m = true) (fun i => 12 - (intOf i).toNat)
  case atStart => exact ⟨0, Nat.zero_le _, rfl, rfl⟩
  case round =>
    obtain ⟨m, hm, rfl, hc⟩ := hrel
    by_cases hml : m < 12
    · by_cases hg : f m ≤ 1048576
      · have hc2 : cntTo f (m + 1) = true := by rw [cntTo_succ, hc, decide_eq_true hg]; rfl
        have hd : decide ((1048576 : Int) < (f m : Int)) = false := decide_eq_false (by omega)
        have hch := hidP hc2
        clear hc hc2 hg
        go_wp2
        exact ⟨⟨m + 1, by omega, by go_num, hch.out⟩, by simp [intOf]; omega⟩
      · have hc2 := cntTo_mono f m hg 12 hml
        have hd : decide ((1048576 : Int) < (f m : Int)) = true := decide_eq_true (by omega)
        have hch := hidP hc2
        clear hc hc2 hg
        go_wp2
        go_ret
        exact ⟨ret_bool hch.out.symm, hb⟩
    · obtain rfl : m = 12 := by omega
      have hch := hidP hc
      clear hc
      go_wp2
      go_ret
      exact ⟨ret_bool hch.out.symm, hb⟩

/-- May a label be? -/
def rightL (l : Lb) : Bool := decide (1 ≤ l.time ∧ l.time ≤ 1099511627776 ∧ 1 ≤ l.cart ∧ l.cart ≤ 12 ∧ 0 ≤ l.seller ∧ l.seller ≤ 12) && (rightB l.node l.n && (decide (getN l.deps l.node = l.n - 1) && cntTo l.deps 12))
theorem rightL_no {l : Lb} (h : ¬ (1 ≤ l.time ∧ l.time ≤ 1099511627776 ∧ 1 ≤ l.cart ∧ l.cart ≤ 12 ∧ 0 ≤ l.seller ∧ l.seller ≤ 12)) : rightL l = false := by
  unfold rightL
  rw [decide_eq_false h, Bool.false_and]
theorem rightL_at {l : Lb} (h : 1 ≤ l.time ∧ l.time ≤ 1099511627776 ∧ 1 ≤ l.cart ∧ l.cart ≤ 12 ∧ 0 ≤ l.seller ∧ l.seller ≤ 12) : rightL l = (rightB l.node l.n && (decide (getN l.deps l.node = l.n - 1) && cntTo l.deps 12)) := by
  unfold rightL
  rw [decide_eq_true h, Bool.true_and]

set_option maxRecDepth 100000 in
set_option maxHeartbeats 3200000 in
theorem lright_any (l : Lb) (w : World) (hn : l.n < 4294967296) :
    Calls Try.prog 53 #[.agg (LA l)] w fun e w' => e = .returned (.bool (rightL l)) ∧ Below w.heap.size w w' := by
  have hb := belA (bel0 w) (.cells (LA l) 87)
  have hlx : look (w.alloc (.cells (LA l) 87)) w.heap.size = some (.cells (LA l) 87 (0, 0)) := look_alloc_at _ _ _ rfl
  have c0 : World.cell? (w.alloc (.cells (LA l) 87)) ⟨w.heap.size, 0, none⟩ = some (.int .u64 (l.time : Int)) := by rw [look_cell hlx]; exact LA_get0 _
  have c1 : World.cell? (w.alloc (.cells (LA l) 87)) ⟨w.heap.size, 1, none⟩ = some (.int .i64 l.node) := by rw [look_cell hlx]; exact LA_get1 _
  have c2 : World.cell? (w.alloc (.cells (LA l) 87)) ⟨w.heap.size, 2, none⟩ = some (.int .u32 (l.n : Int)) := by rw [look_cell hlx]; exact LA_get2 _
  have c3 : World.cell? (w.alloc (.cells (LA l) 87)) ⟨w.heap.size, 3, none⟩ = some (.int .i64 l.cart) := by rw [look_cell hlx]; exact LA_get3 _
  have c4 : World.cell? (w.alloc (.cells (LA l) 87)) ⟨w.heap.size, 4, none⟩ = some (.int .i64 l.seller) := by rw [look_cell hlx]; exact LA_get4 _
  by_cases h1 : 1 ≤ l.time
  · by_cases h2 : l.time ≤ 1099511627776
    · by_cases h3 : 1 ≤ l.cart
      · by_cases h4 : l.cart ≤ 12
        · by_cases h5 : 0 ≤ l.seller
          · by_cases h6 : l.seller ≤ 12
            · have hall := rightL_at (l := l) ⟨h1, h2, h3, h4, h5, h6⟩
              rw [hall]
              clear hall
              have d1 : decide ((l.time : Int) < 1) = false := decide_eq_false (by omega)
              have d2 : decide ((1099511627776 : Int) < (l.time : Int)) = false := decide_eq_false (by omega)
              have d3 : decide (l.cart < 1) = false := decide_eq_false (by omega)
              have d4 : decide (12 < l.cart) = false := decide_eq_false (by omega)
              have d5 : decide (l.seller < 0) = false := decide_eq_false (by omega)
              have d6 : decide (12 < l.seller) = false := decide_eq_false (by omega)
              clear h1 h2 h3 h4 h5 h6
              cases hr : rightB l.node l.n
              · go_enter Try.func53, Try.ntmps53
                go_wp2
                clear c0 c1 c2 c3 c4 d1 d2 d3 d4 d5 d6
                refine wp_region_words mixed 19 ([] :: [31] :: [32] :: [33] :: [34] :: [35, 34] :: [34] :: [37, 34] :: [36, 38, 34] :: [34] :: [40, 34] :: [41, 34] :: [39, 42, 34] :: [34, 43] :: [44] :: [45] :: [46, 45] :: [47, 45] :: [45, 48] :: []) (isV (.agg (LA l)) :: isV (.agg #[.int .i64 l.node, .int .u32 (l.n : Int)]) :: isV (.bool false) :: isV (.bool false) :: isV (undef) :: isV (undef) :: isV (undef) :: isV (undef) :: isV (undef) :: isV (undef) :: isV (undef) :: isV (undef) :: isV (undef) :: isV (.bool false) :: isV (.bool false) :: isV (undef) :: isV (undef) :: isV (undef) :: isV (.bool false) :: []) (by decide) (by kernel_rfl)
                  ⟨stab_isV _, stab_isV _, stab_isV _, stab_isV _, stab_isV _, stab_isV _, stab_isV _, stab_isV _, stab_isV _, stab_isV _, stab_isV _, stab_isV _, stab_isV _, stab_isV _, stab_isV _, stab_isV _, stab_isV _, stab_isV _, stab_isV _, trivial⟩ ⟨?_, ?_, ?_, ?_, ?_, ?_, ?_, ?_, ?_, ?_, ?_, ?_, ?_, ?_, ?_, ?_, ?_, ?_, ?_, trivial⟩ ?_
                · intro vs wq hB hm
                  have hl : look wq (w.heap.size) = some (.cells (LA l) 87 (0, 0)) := by rw [look_below hB (by first | omega | (simp only [World.size_alloc]; omega) | exact look_lt (by assumption) | (simp only [World.size_alloc, World.size_setCell]; omega) | (simp; omega))]; first | assumption | go_simp
                  clear hm
                  simp only [fill]
                  go_wp2
                  exact ⟨_, rfl, rfl, Below.refl _ _, trivial⟩
                · intro vs wq hB hm
                  have h31 : vs 31 = .agg (LA l) := meets_get hm 0 rfl rfl rfl rfl
                  clear hm
                  simp only [fill, h31]
                  go_wp2_with fail
                  refine (ldot_any l _).mono ?_
                  rintro e w1 ⟨rfl, hb1⟩
                  go_wp2
                  exact ⟨_, rfl, rfl, hb1, trivial⟩
                · intro vs wq hB hm
                  have h32 : vs 32 = .agg #[.int .i64 l.node, .int .u32 (l.n : Int)] := meets_get hm 1 rfl rfl rfl rfl
                  clear hm
                  simp only [fill, h32]
                  go_wp2_with fail
                  refine (right_any l.node l.n _).mono ?_
                  rintro e w1 ⟨rfl, hb1⟩
                  go_wp2
                  exact ⟨_, rfl, rfl, hb1, trivial⟩
                · intro vs wq hB hm
                  have h33 : vs 33 = .bool false := meets_get hm 2 rfl rfl rfl rfl
                  clear hm
                  simp only [fill, h33]
                  go_wp2
                  exact ⟨_, rfl, rfl, Below.refl _ _, trivial⟩
                · intro vs wq hB hm
                  have h34 : vs 34 = .bool false := meets_get hm 3 rfl rfl rfl rfl
                  clear hm
                  simp only [fill, h34]
                  refine wpList_skip (by rfl) ?_
                  exact ⟨_, rfl, rfl, Below.refl _ _, trivial⟩
                · intro vs wq hB hm
                  have h35 : vs 35 = undef := meets_get hm 4 rfl rfl rfl rfl
                  have h34 : vs 34 = .bool false := meets_get hm 3 rfl rfl rfl rfl
                  clear hm
                  simp only [fill, h35, h34]
                  refine wpList_skip (by rfl) ?_
                  exact ⟨_, rfl, rfl, Below.refl _ _, trivial⟩
                · intro vs wq hB hm
                  have h34 : vs 34 = .bool false := meets_get hm 3 rfl rfl rfl rfl
                  clear hm
                  simp only [fill, h34]
                  refine wpList_skip (by rfl) ?_
                  exact ⟨_, rfl, rfl, Below.refl _ _, trivial⟩
                · intro vs wq hB hm
                  have h37 : vs 37 = undef := meets_get hm 6 rfl rfl rfl rfl
                  have h34 : vs 34 = .bool false := meets_get hm 3 rfl rfl rfl rfl
                  clear hm
                  simp only [fill, h37, h34]
                  refine wpList_skip (by rfl) ?_
                  exact ⟨_, rfl, rfl, Below.refl _ _, trivial⟩
                · intro vs wq hB hm
                  have h36 : vs 36 = undef := meets_get hm 5 rfl rfl rfl rfl
                  have h38 : vs 38 = undef := meets_get hm 7 rfl rfl rfl rfl
                  have h34 : vs 34 = .bool false := meets_get hm 3 rfl rfl rfl rfl
                  clear hm
                  simp only [fill, h36, h38, h34]
                  refine wpList_skip (by rfl) ?_
                  exact ⟨_, rfl, rfl, Below.refl _ _, trivial⟩
                · intro vs wq hB hm
                  have h34 : vs 34 = .bool false := meets_get hm 3 rfl rfl rfl rfl
                  clear hm
                  simp only [fill, h34]
                  refine wpList_skip (by rfl) ?_
                  exact ⟨_, rfl, rfl, Below.refl _ _, trivial⟩
                · intro vs wq hB hm
                  have h40 : vs 40 = undef := meets_get hm 9 rfl rfl rfl rfl
                  have h34 : vs 34 = .bool false := meets_get hm 3 rfl rfl rfl rfl
                  clear hm
                  simp only [fill, h40, h34]
                  refine wpList_skip (by rfl) ?_
                  exact ⟨_, rfl, rfl, Below.refl _ _, trivial⟩
                · intro vs wq hB hm
                  have h41 : vs 41 = undef := meets_get hm 10 rfl rfl rfl rfl
                  have h34 : vs 34 = .bool false := meets_get hm 3 rfl rfl rfl rfl
                  clear hm
                  simp only [fill, h41, h34]
                  refine wpList_skip (by rfl) ?_
                  exact ⟨_, rfl, rfl, Below.refl _ _, trivial⟩
                · intro vs wq hB hm
                  have h39 : vs 39 = undef := meets_get hm 8 rfl rfl rfl rfl
                  have h42 : vs 42 = undef := meets_get hm 11 rfl rfl rfl rfl
                  have h34 : vs 34 = .bool false := meets_get hm 3 rfl rfl rfl rfl
                  clear hm
                  simp only [fill, h39, h42, h34]
                  refine wpList_skip (by rfl) ?_
                  exact ⟨_, rfl, rfl, Below.refl _ _, trivial⟩
                · intro vs wq hB hm
                  have h34 : vs 34 = .bool false := meets_get hm 3 rfl rfl rfl rfl
                  have h43 : vs 43 = undef := meets_get hm 12 rfl rfl rfl rfl
                  clear hm
                  simp only [fill, h34, h43]
                  go_wp2
                  exact ⟨_, rfl, rfl, Below.refl _ _, trivial⟩
                · intro vs wq hB hm
                  have h44 : vs 44 = .bool false := meets_get hm 13 rfl rfl rfl rfl
                  clear hm
                  simp only [fill, h44]
                  go_wp2
                  exact ⟨_, rfl, rfl, Below.refl _ _, trivial⟩
                · intro vs wq hB hm
                  have h45 : vs 45 = .bool false := meets_get hm 14 rfl rfl rfl rfl
                  clear hm
                  simp only [fill, h45]
                  refine wpList_skip (by rfl) ?_
                  exact ⟨_, rfl, rfl, Below.refl _ _, trivial⟩
                · intro vs wq hB hm
                  have h46 : vs 46 = undef := meets_get hm 15 rfl rfl rfl rfl
                  have h45 : vs 45 = .bool false := meets_get hm 14 rfl rfl rfl rfl
                  clear hm
                  simp only [fill, h46, h45]
                  refine wpList_skip (by rfl) ?_
                  exact ⟨_, rfl, rfl, Below.refl _ _, trivial⟩
                · intro vs wq hB hm
                  have h47 : vs 47 = undef := meets_get hm 16 rfl rfl rfl rfl
                  have h45 : vs 45 = .bool false := meets_get hm 14 rfl rfl rfl rfl
                  clear hm
                  simp only [fill, h47, h45]
                  refine wpList_skip (by rfl) ?_
                  exact ⟨_, rfl, rfl, Below.refl _ _, trivial⟩
                · intro vs wq hB hm
                  have h45 : vs 45 = .bool false := meets_get hm 14 rfl rfl rfl rfl
                  have h48 : vs 48 = undef := meets_get hm 17 rfl rfl rfl rfl
                  clear hm
                  simp only [fill, h45, h48]
                  go_wp2
                  exact ⟨_, rfl, rfl, Below.refl _ _, trivial⟩
                intro vs wq hB hm hne hlo
                have h31 : vs 31 = .agg (LA l) := hm 0 _ _ _ rfl rfl rfl
                have h32 : vs 32 = .agg #[.int .i64 l.node, .int .u32 (l.n : Int)] := hm 1 _ _ _ rfl rfl rfl
                have h33 : vs 33 = .bool false := hm 2 _ _ _ rfl rfl rfl
                have h34 : vs 34 = .bool false := hm 3 _ _ _ rfl rfl rfl
                have h35 : vs 35 = undef := hm 4 _ _ _ rfl rfl rfl
                have h36 : vs 36 = undef := hm 5 _ _ _ rfl rfl rfl
                have h37 : vs 37 = undef := hm 6 _ _ _ rfl rfl rfl
                have h38 : vs 38 = undef := hm 7 _ _ _ rfl rfl rfl
                have h39 : vs 39 = undef := hm 8 _ _ _ rfl rfl rfl
                have h40 : vs 40 = undef := hm 9 _ _ _ rfl rfl rfl
                have h41 : vs 41 = undef := hm 10 _ _ _ rfl rfl rfl
                have h42 : vs 42 = undef := hm 11 _ _ _ rfl rfl rfl
                have h43 : vs 43 = undef := hm 12 _ _ _ rfl rfl rfl
                have h44 : vs 44 = .bool false := hm 13 _ _ _ rfl rfl rfl
                have h45 : vs 45 = .bool false := hm 14 _ _ _ rfl rfl rfl
                have h46 : vs 46 = undef := hm 15 _ _ _ rfl rfl rfl
                have h47 : vs 47 = undef := hm 16 _ _ _ rfl rfl rfl
                have h48 : vs 48 = undef := hm 17 _ _ _ rfl rfl rfl
                have h49 : vs 49 = .bool false := hm 18 _ _ _ rfl rfl rfl
                clear hne hlo
                simp only [fill, List.filterMap, List.take, List.drop, List.setIfInBounds_toArray, List.set_cons_zero, List.set_cons_succ, h31, h32, h33, h34, h35, h36, h37, h38, h39, h40, h41, h42, h43, h44, h45, h46, h47, h48, h49]
                clear hm h31 h32 h33 h34 h35 h36 h37 h38 h39 h40 h41 h42 h43 h44 h45 h46 h47 h48 h49
                go_wp2
                go_ret
                exact ⟨rfl, belT hb hB⟩
              · have hp : 1 ≤ l.n := by
                  unfold rightB at hr
                  have := of_decide_eq_true hr
                  omega
                have hw : IntKind.u32.wrap ((l.n : Int) - 1) = (l.n : Int) - 1 := IntWalk.u32_in _ (by omega)
                by_cases hq : getN l.deps l.node = l.n - 1
                · have hq2 : (getN l.deps l.node : Int) = (l.n : Int) - 1 := by omega
                  rw [decide_eq_true hq]
                  clear hp hq hn
                  go_enter Try.func53, Try.ntmps53
                  go_wp2
                  clear c0 c1 c2 c3 c4 d1 d2 d3 d4 d5 d6
                  refine wp_region_words mixed 19 ([] :: [31] :: [32] :: [33] :: [34] :: [35, 34] :: [34] :: [37, 34] :: [36, 38, 34] :: [34] :: [40, 34] :: [41, 34] :: [39, 42, 34] :: [34, 43] :: [44] :: [45] :: [46, 45] :: [47, 45] :: [45, 48] :: []) (isV (.agg (LA l)) :: isV (.agg #[.int .i64 l.node, .int .u32 (l.n : Int)]) :: isV (.bool true) :: isV (.bool true) :: isV (.pointer (some ⟨w.heap.size, 5, none⟩)) :: isV (.agg (VA l.deps)) :: isV (.pointer (some ⟨w.heap.size, 1, none⟩)) :: isV (.int .i64 l.node) :: isV (.int .u32 ((l.n : Int) - 1)) :: isV (.pointer (some ⟨w.heap.size, 2, none⟩)) :: isV (.int .u32 (l.n : Int)) :: isV (.int .u32 ((l.n : Int) - 1)) :: isV (.bool true) :: isV (.bool true) :: isV (.bool true) :: isV (.pointer (some ⟨w.heap.size, 5, none⟩)) :: isV (.agg (VA l.deps)) :: isV (.bool (cntTo l.deps 12)) :: isV (.bool (cntTo l.deps 12)) :: []) (by decide) (by kernel_rfl)
                    ⟨stab_isV _, stab_isV _, stab_isV _, stab_isV _, stab_isV _, stab_isV _, stab_isV _, stab_isV _, stab_isV _, stab_isV _, stab_isV _, stab_isV _, stab_isV _, stab_isV _, stab_isV _, stab_isV _, stab_isV _, stab_isV _, stab_isV _, trivial⟩ ⟨?_, ?_, ?_, ?_, ?_, ?_, ?_, ?_, ?_, ?_, ?_, ?_, ?_, ?_, ?_, ?_, ?_, ?_, ?_, trivial⟩ ?_
                  · intro vs wq hB hm
                    have hl : look wq (w.heap.size) = some (.cells (LA l) 87 (0, 0)) := by rw [look_below hB (by first | omega | (simp only [World.size_alloc]; omega) | exact look_lt (by assumption) | (simp only [World.size_alloc, World.size_setCell]; omega) | (simp; omega))]; first | assumption | go_simp
                    clear hm
                    simp only [fill]
                    go_wp2
                    exact ⟨_, rfl, rfl, Below.refl _ _, trivial⟩
                  · intro vs wq hB hm
                    have h31 : vs 31 = .agg (LA l) := meets_get hm 0 rfl rfl rfl rfl
                    clear hm
                    simp only [fill, h31]
                    go_wp2_with fail
                    refine (ldot_any l _).mono ?_
                    rintro e w1 ⟨rfl, hb1⟩
                    go_wp2
                    exact ⟨_, rfl, rfl, hb1, trivial⟩
                  · intro vs wq hB hm
                    have h32 : vs 32 = .agg #[.int .i64 l.node, .int .u32 (l.n : Int)] := meets_get hm 1 rfl rfl rfl rfl
                    clear hm
                    simp only [fill, h32]
                    go_wp2_with fail
                    refine (right_any l.node l.n _).mono ?_
                    rintro e w1 ⟨rfl, hb1⟩
                    go_wp2
                    exact ⟨_, rfl, rfl, hb1, trivial⟩
                  · intro vs wq hB hm
                    have h33 : vs 33 = .bool true := meets_get hm 2 rfl rfl rfl rfl
                    clear hm
                    simp only [fill, h33]
                    go_wp2
                    exact ⟨_, rfl, rfl, Below.refl _ _, trivial⟩
                  · intro vs wq hB hm
                    have h34 : vs 34 = .bool true := meets_get hm 3 rfl rfl rfl rfl
                    clear hm
                    simp only [fill, h34]
                    go_wp2
                    exact ⟨_, rfl, rfl, Below.refl _ _, trivial⟩
                  · intro vs wq hB hm
                    have hl : look wq (w.heap.size) = some (.cells (LA l) 87 (0, 0)) := by rw [look_below hB (by first | omega | (simp only [World.size_alloc]; omega) | exact look_lt (by assumption) | (simp only [World.size_alloc, World.size_setCell]; omega) | (simp; omega))]; first | assumption | go_simp
                    have h35 : vs 35 = .pointer (some ⟨w.heap.size, 5, none⟩) := meets_get hm 4 rfl rfl rfl rfl
                    have h34 : vs 34 = .bool true := meets_get hm 3 rfl rfl rfl rfl
                    clear hm
                    simp only [fill, h35, h34]
                    go_wp2
                    exact ⟨_, rfl, rfl, Below.refl _ _, trivial⟩
                  · intro vs wq hB hm
                    have h34 : vs 34 = .bool true := meets_get hm 3 rfl rfl rfl rfl
                    clear hm
                    simp only [fill, h34]
                    go_wp2
                    exact ⟨_, rfl, rfl, Below.refl _ _, trivial⟩
                  · intro vs wq hB hm
                    have hl : look wq (w.heap.size) = some (.cells (LA l) 87 (0, 0)) := by rw [look_below hB (by first | omega | (simp only [World.size_alloc]; omega) | exact look_lt (by assumption) | (simp only [World.size_alloc, World.size_setCell]; omega) | (simp; omega))]; first | assumption | go_simp
                    have hc : World.cell? wq ⟨w.heap.size, 1, none⟩ = some (.int .i64 l.node) := by rw [look_cell hl]; exact LA_get1 _
                    have h37 : vs 37 = .pointer (some ⟨w.heap.size, 1, none⟩) := meets_get hm 6 rfl rfl rfl rfl
                    have h34 : vs 34 = .bool true := meets_get hm 3 rfl rfl rfl rfl
                    clear hm
                    simp only [fill, h37, h34]
                    go_wp2
                    exact ⟨_, rfl, rfl, Below.refl _ _, trivial⟩
                  · intro vs wq hB hm
                    have h36 : vs 36 = .agg (VA l.deps) := meets_get hm 5 rfl rfl rfl rfl
                    have h38 : vs 38 = .int .i64 l.node := meets_get hm 7 rfl rfl rfl rfl
                    have h34 : vs 34 = .bool true := meets_get hm 3 rfl rfl rfl rfl
                    clear hm
                    simp only [fill, h36, h38, h34]
                    go_wp2_with fail
                    refine (get_any l.deps l.node _).mono ?_
                    rintro e w1 ⟨rfl, hb1⟩
                    go_wp2
                    exact ⟨_, rfl, rfl, hb1, trivial⟩
                  · intro vs wq hB hm
                    have h34 : vs 34 = .bool true := meets_get hm 3 rfl rfl rfl rfl
                    clear hm
                    simp only [fill, h34]
                    go_wp2
                    exact ⟨_, rfl, rfl, Below.refl _ _, trivial⟩
                  · intro vs wq hB hm
                    have hl : look wq (w.heap.size) = some (.cells (LA l) 87 (0, 0)) := by rw [look_below hB (by first | omega | (simp only [World.size_alloc]; omega) | exact look_lt (by assumption) | (simp only [World.size_alloc, World.size_setCell]; omega) | (simp; omega))]; first | assumption | go_simp
                    have hc : World.cell? wq ⟨w.heap.size, 2, none⟩ = some (.int .u32 (l.n : Int)) := by rw [look_cell hl]; exact LA_get2 _
                    have h40 : vs 40 = .pointer (some ⟨w.heap.size, 2, none⟩) := meets_get hm 9 rfl rfl rfl rfl
                    have h34 : vs 34 = .bool true := meets_get hm 3 rfl rfl rfl rfl
                    clear hm
                    simp only [fill, h40, h34]
                    go_wp2
                    exact ⟨_, rfl, rfl, Below.refl _ _, trivial⟩
                  · intro vs wq hB hm
                    have h41 : vs 41 = .int .u32 (l.n : Int) := meets_get hm 10 rfl rfl rfl rfl
                    have h34 : vs 34 = .bool true := meets_get hm 3 rfl rfl rfl rfl
                    clear hm
                    simp only [fill, h41, h34]
                    go_wp2
                    exact ⟨_, rfl, rfl, Below.refl _ _, trivial⟩
                  · intro vs wq hB hm
                    have h39 : vs 39 = .int .u32 ((l.n : Int) - 1) := meets_get hm 8 rfl rfl rfl rfl
                    have h42 : vs 42 = .int .u32 ((l.n : Int) - 1) := meets_get hm 11 rfl rfl rfl rfl
                    have h34 : vs 34 = .bool true := meets_get hm 3 rfl rfl rfl rfl
                    clear hm
                    simp only [fill, h39, h42, h34]
                    go_wp2
                    exact ⟨_, rfl, (by first | rfl | simp [hq2]), Below.refl _ _, trivial⟩
                  · intro vs wq hB hm
                    have h34 : vs 34 = .bool true := meets_get hm 3 rfl rfl rfl rfl
                    have h43 : vs 43 = .bool true := meets_get hm 12 rfl rfl rfl rfl
                    clear hm
                    simp only [fill, h34, h43]
                    go_wp2
                    exact ⟨_, rfl, rfl, Below.refl _ _, trivial⟩
                  · intro vs wq hB hm
                    have h44 : vs 44 = .bool true := meets_get hm 13 rfl rfl rfl rfl
                    clear hm
                    simp only [fill, h44]
                    go_wp2
                    exact ⟨_, rfl, rfl, Below.refl _ _, trivial⟩
                  · intro vs wq hB hm
                    have h45 : vs 45 = .bool true := meets_get hm 14 rfl rfl rfl rfl
                    clear hm
                    simp only [fill, h45]
                    go_wp2
                    exact ⟨_, rfl, rfl, Below.refl _ _, trivial⟩
                  · intro vs wq hB hm
                    have hl : look wq (w.heap.size) = some (.cells (LA l) 87 (0, 0)) := by rw [look_below hB (by first | omega | (simp only [World.size_alloc]; omega) | exact look_lt (by assumption) | (simp only [World.size_alloc, World.size_setCell]; omega) | (simp; omega))]; first | assumption | go_simp
                    have h46 : vs 46 = .pointer (some ⟨w.heap.size, 5, none⟩) := meets_get hm 15 rfl rfl rfl rfl
                    have h45 : vs 45 = .bool true := meets_get hm 14 rfl rfl rfl rfl
                    clear hm
                    simp only [fill, h46, h45]
                    go_wp2
                    exact ⟨_, rfl, rfl, Below.refl _ _, trivial⟩
                  · intro vs wq hB hm
                    have h47 : vs 47 = .agg (VA l.deps) := meets_get hm 16 rfl rfl rfl rfl
                    have h45 : vs 45 = .bool true := meets_get hm 14 rfl rfl rfl rfl
                    clear hm
                    simp only [fill, h47, h45]
                    go_wp2_with fail
                    refine (lcounts_any l.deps _).mono ?_
                    rintro e w1 ⟨rfl, hb1⟩
                    go_wp2
                    exact ⟨_, rfl, rfl, hb1, trivial⟩
                  · intro vs wq hB hm
                    have h45 : vs 45 = .bool true := meets_get hm 14 rfl rfl rfl rfl
                    have h48 : vs 48 = .bool (cntTo l.deps 12) := meets_get hm 17 rfl rfl rfl rfl
                    clear hm
                    simp only [fill, h45, h48]
                    go_wp2
                    exact ⟨_, rfl, rfl, Below.refl _ _, trivial⟩
                  intro vs wq hB hm hne hlo
                  have h31 : vs 31 = .agg (LA l) := hm 0 _ _ _ rfl rfl rfl
                  have h32 : vs 32 = .agg #[.int .i64 l.node, .int .u32 (l.n : Int)] := hm 1 _ _ _ rfl rfl rfl
                  have h33 : vs 33 = .bool true := hm 2 _ _ _ rfl rfl rfl
                  have h34 : vs 34 = .bool true := hm 3 _ _ _ rfl rfl rfl
                  have h35 : vs 35 = .pointer (some ⟨w.heap.size, 5, none⟩) := hm 4 _ _ _ rfl rfl rfl
                  have h36 : vs 36 = .agg (VA l.deps) := hm 5 _ _ _ rfl rfl rfl
                  have h37 : vs 37 = .pointer (some ⟨w.heap.size, 1, none⟩) := hm 6 _ _ _ rfl rfl rfl
                  have h38 : vs 38 = .int .i64 l.node := hm 7 _ _ _ rfl rfl rfl
                  have h39 : vs 39 = .int .u32 ((l.n : Int) - 1) := hm 8 _ _ _ rfl rfl rfl
                  have h40 : vs 40 = .pointer (some ⟨w.heap.size, 2, none⟩) := hm 9 _ _ _ rfl rfl rfl
                  have h41 : vs 41 = .int .u32 (l.n : Int) := hm 10 _ _ _ rfl rfl rfl
                  have h42 : vs 42 = .int .u32 ((l.n : Int) - 1) := hm 11 _ _ _ rfl rfl rfl
                  have h43 : vs 43 = .bool true := hm 12 _ _ _ rfl rfl rfl
                  have h44 : vs 44 = .bool true := hm 13 _ _ _ rfl rfl rfl
                  have h45 : vs 45 = .bool true := hm 14 _ _ _ rfl rfl rfl
                  have h46 : vs 46 = .pointer (some ⟨w.heap.size, 5, none⟩) := hm 15 _ _ _ rfl rfl rfl
                  have h47 : vs 47 = .agg (VA l.deps) := hm 16 _ _ _ rfl rfl rfl
                  have h48 : vs 48 = .bool (cntTo l.deps 12) := hm 17 _ _ _ rfl rfl rfl
                  have h49 : vs 49 = .bool (cntTo l.deps 12) := hm 18 _ _ _ rfl rfl rfl
                  clear hne hlo
                  simp only [fill, List.filterMap, List.take, List.drop, List.setIfInBounds_toArray, List.set_cons_zero, List.set_cons_succ, h31, h32, h33, h34, h35, h36, h37, h38, h39, h40, h41, h42, h43, h44, h45, h46, h47, h48, h49]
                  clear hm h31 h32 h33 h34 h35 h36 h37 h38 h39 h40 h41 h42 h43 h44 h45 h46 h47 h48 h49
                  go_wp2
                  go_ret
                  exact ⟨rfl, belT hb hB⟩
                · have hq2 : ¬ ((getN l.deps l.node : Int) = (l.n : Int) - 1) := by omega
                  rw [decide_eq_false hq]
                  clear hp hq hn
                  go_enter Try.func53, Try.ntmps53
                  go_wp2
                  clear c0 c1 c2 c3 c4 d1 d2 d3 d4 d5 d6
                  refine wp_region_words mixed 19 ([] :: [31] :: [32] :: [33] :: [34] :: [35, 34] :: [34] :: [37, 34] :: [36, 38, 34] :: [34] :: [40, 34] :: [41, 34] :: [39, 42, 34] :: [34, 43] :: [44] :: [45] :: [46, 45] :: [47, 45] :: [45, 48] :: []) (isV (.agg (LA l)) :: isV (.agg #[.int .i64 l.node, .int .u32 (l.n : Int)]) :: isV (.bool true) :: isV (.bool true) :: isV (.pointer (some ⟨w.heap.size, 5, none⟩)) :: isV (.agg (VA l.deps)) :: isV (.pointer (some ⟨w.heap.size, 1, none⟩)) :: isV (.int .i64 l.node) :: isV (.int .u32 (getN l.deps l.node : Int)) :: isV (.pointer (some ⟨w.heap.size, 2, none⟩)) :: isV (.int .u32 (l.n : Int)) :: isV (.int .u32 ((l.n : Int) - 1)) :: isV (.bool false) :: isV (.bool false) :: isV (.bool false) :: isV (undef) :: isV (undef) :: isV (undef) :: isV (.bool false) :: []) (by decide) (by kernel_rfl)
                    ⟨stab_isV _, stab_isV _, stab_isV _, stab_isV _, stab_isV _, stab_isV _, stab_isV _, stab_isV _, stab_isV _, stab_isV _, stab_isV _, stab_isV _, stab_isV _, stab_isV _, stab_isV _, stab_isV _, stab_isV _, stab_isV _, stab_isV _, trivial⟩ ⟨?_, ?_, ?_, ?_, ?_, ?_, ?_, ?_, ?_, ?_, ?_, ?_, ?_, ?_, ?_, ?_, ?_, ?_, ?_, trivial⟩ ?_
                  · intro vs wq hB hm
                    have hl : look wq (w.heap.size) = some (.cells (LA l) 87 (0, 0)) := by rw [look_below hB (by first | omega | (simp only [World.size_alloc]; omega) | exact look_lt (by assumption) | (simp only [World.size_alloc, World.size_setCell]; omega) | (simp; omega))]; first | assumption | go_simp
                    clear hm
                    simp only [fill]
                    go_wp2
                    exact ⟨_, rfl, rfl, Below.refl _ _, trivial⟩
                  · intro vs wq hB hm
                    have h31 : vs 31 = .agg (LA l) := meets_get hm 0 rfl rfl rfl rfl
                    clear hm
                    simp only [fill, h31]
                    go_wp2_with fail
                    refine (ldot_any l _).mono ?_
                    rintro e w1 ⟨rfl, hb1⟩
                    go_wp2
                    exact ⟨_, rfl, rfl, hb1, trivial⟩
                  · intro vs wq hB hm
                    have h32 : vs 32 = .agg #[.int .i64 l.node, .int .u32 (l.n : Int)] := meets_get hm 1 rfl rfl rfl rfl
                    clear hm
                    simp only [fill, h32]
                    go_wp2_with fail
                    refine (right_any l.node l.n _).mono ?_
                    rintro e w1 ⟨rfl, hb1⟩
                    go_wp2
                    exact ⟨_, rfl, rfl, hb1, trivial⟩
                  · intro vs wq hB hm
                    have h33 : vs 33 = .bool true := meets_get hm 2 rfl rfl rfl rfl
                    clear hm
                    simp only [fill, h33]
                    go_wp2
                    exact ⟨_, rfl, rfl, Below.refl _ _, trivial⟩
                  · intro vs wq hB hm
                    have h34 : vs 34 = .bool true := meets_get hm 3 rfl rfl rfl rfl
                    clear hm
                    simp only [fill, h34]
                    go_wp2
                    exact ⟨_, rfl, rfl, Below.refl _ _, trivial⟩
                  · intro vs wq hB hm
                    have hl : look wq (w.heap.size) = some (.cells (LA l) 87 (0, 0)) := by rw [look_below hB (by first | omega | (simp only [World.size_alloc]; omega) | exact look_lt (by assumption) | (simp only [World.size_alloc, World.size_setCell]; omega) | (simp; omega))]; first | assumption | go_simp
                    have h35 : vs 35 = .pointer (some ⟨w.heap.size, 5, none⟩) := meets_get hm 4 rfl rfl rfl rfl
                    have h34 : vs 34 = .bool true := meets_get hm 3 rfl rfl rfl rfl
                    clear hm
                    simp only [fill, h35, h34]
                    go_wp2
                    exact ⟨_, rfl, rfl, Below.refl _ _, trivial⟩
                  · intro vs wq hB hm
                    have h34 : vs 34 = .bool true := meets_get hm 3 rfl rfl rfl rfl
                    clear hm
                    simp only [fill, h34]
                    go_wp2
                    exact ⟨_, rfl, rfl, Below.refl _ _, trivial⟩
                  · intro vs wq hB hm
                    have hl : look wq (w.heap.size) = some (.cells (LA l) 87 (0, 0)) := by rw [look_below hB (by first | omega | (simp only [World.size_alloc]; omega) | exact look_lt (by assumption) | (simp only [World.size_alloc, World.size_setCell]; omega) | (simp; omega))]; first | assumption | go_simp
                    have hc : World.cell? wq ⟨w.heap.size, 1, none⟩ = some (.int .i64 l.node) := by rw [look_cell hl]; exact LA_get1 _
                    have h37 : vs 37 = .pointer (some ⟨w.heap.size, 1, none⟩) := meets_get hm 6 rfl rfl rfl rfl
                    have h34 : vs 34 = .bool true := meets_get hm 3 rfl rfl rfl rfl
                    clear hm
                    simp only [fill, h37, h34]
                    go_wp2
                    exact ⟨_, rfl, rfl, Below.refl _ _, trivial⟩
                  · intro vs wq hB hm
                    have h36 : vs 36 = .agg (VA l.deps) := meets_get hm 5 rfl rfl rfl rfl
                    have h38 : vs 38 = .int .i64 l.node := meets_get hm 7 rfl rfl rfl rfl
                    have h34 : vs 34 = .bool true := meets_get hm 3 rfl rfl rfl rfl
                    clear hm
                    simp only [fill, h36, h38, h34]
                    go_wp2_with fail
                    refine (get_any l.deps l.node _).mono ?_
                    rintro e w1 ⟨rfl, hb1⟩
                    go_wp2
                    exact ⟨_, rfl, rfl, hb1, trivial⟩
                  · intro vs wq hB hm
                    have h34 : vs 34 = .bool true := meets_get hm 3 rfl rfl rfl rfl
                    clear hm
                    simp only [fill, h34]
                    go_wp2
                    exact ⟨_, rfl, rfl, Below.refl _ _, trivial⟩
                  · intro vs wq hB hm
                    have hl : look wq (w.heap.size) = some (.cells (LA l) 87 (0, 0)) := by rw [look_below hB (by first | omega | (simp only [World.size_alloc]; omega) | exact look_lt (by assumption) | (simp only [World.size_alloc, World.size_setCell]; omega) | (simp; omega))]; first | assumption | go_simp
                    have hc : World.cell? wq ⟨w.heap.size, 2, none⟩ = some (.int .u32 (l.n : Int)) := by rw [look_cell hl]; exact LA_get2 _
                    have h40 : vs 40 = .pointer (some ⟨w.heap.size, 2, none⟩) := meets_get hm 9 rfl rfl rfl rfl
                    have h34 : vs 34 = .bool true := meets_get hm 3 rfl rfl rfl rfl
                    clear hm
                    simp only [fill, h40, h34]
                    go_wp2
                    exact ⟨_, rfl, rfl, Below.refl _ _, trivial⟩
                  · intro vs wq hB hm
                    have h41 : vs 41 = .int .u32 (l.n : Int) := meets_get hm 10 rfl rfl rfl rfl
                    have h34 : vs 34 = .bool true := meets_get hm 3 rfl rfl rfl rfl
                    clear hm
                    simp only [fill, h41, h34]
                    go_wp2
                    exact ⟨_, rfl, rfl, Below.refl _ _, trivial⟩
                  · intro vs wq hB hm
                    have h39 : vs 39 = .int .u32 (getN l.deps l.node : Int) := meets_get hm 8 rfl rfl rfl rfl
                    have h42 : vs 42 = .int .u32 ((l.n : Int) - 1) := meets_get hm 11 rfl rfl rfl rfl
                    have h34 : vs 34 = .bool true := meets_get hm 3 rfl rfl rfl rfl
                    clear hm
                    simp only [fill, h39, h42, h34]
                    go_wp2
                    exact ⟨_, rfl, (by show (_ : Value) = _; first | rfl | exact congrArg Value.bool (decide_eq_false hq2) | (trace_state; simp; omega)), Below.refl _ _, trivial⟩
                  · intro vs wq hB hm
                    have h34 : vs 34 = .bool true := meets_get hm 3 rfl rfl rfl rfl
                    have h43 : vs 43 = .bool false := meets_get hm 12 rfl rfl rfl rfl
                    clear hm
                    simp only [fill, h34, h43]
                    go_wp2
                    exact ⟨_, rfl, rfl, Below.refl _ _, trivial⟩
                  · intro vs wq hB hm
                    have h44 : vs 44 = .bool false := meets_get hm 13 rfl rfl rfl rfl
                    clear hm
                    simp only [fill, h44]
                    go_wp2
                    exact ⟨_, rfl, rfl, Below.refl _ _, trivial⟩
                  · intro vs wq hB hm
                    have h45 : vs 45 = .bool false := meets_get hm 14 rfl rfl rfl rfl
                    clear hm
                    simp only [fill, h45]
                    refine wpList_skip (by rfl) ?_
                    exact ⟨_, rfl, rfl, Below.refl _ _, trivial⟩
                  · intro vs wq hB hm
                    have h46 : vs 46 = undef := meets_get hm 15 rfl rfl rfl rfl
                    have h45 : vs 45 = .bool false := meets_get hm 14 rfl rfl rfl rfl
                    clear hm
                    simp only [fill, h46, h45]
                    refine wpList_skip (by rfl) ?_
                    exact ⟨_, rfl, rfl, Below.refl _ _, trivial⟩
                  · intro vs wq hB hm
                    have h47 : vs 47 = undef := meets_get hm 16 rfl rfl rfl rfl
                    have h45 : vs 45 = .bool false := meets_get hm 14 rfl rfl rfl rfl
                    clear hm
                    simp only [fill, h47, h45]
                    refine wpList_skip (by rfl) ?_
                    exact ⟨_, rfl, rfl, Below.refl _ _, trivial⟩
                  · intro vs wq hB hm
                    have h45 : vs 45 = .bool false := meets_get hm 14 rfl rfl rfl rfl
                    have h48 : vs 48 = undef := meets_get hm 17 rfl rfl rfl rfl
                    clear hm
                    simp only [fill, h45, h48]
                    go_wp2
                    exact ⟨_, rfl, rfl, Below.refl _ _, trivial⟩
                  intro vs wq hB hm hne hlo
                  have h31 : vs 31 = .agg (LA l) := hm 0 _ _ _ rfl rfl rfl
                  have h32 : vs 32 = .agg #[.int .i64 l.node, .int .u32 (l.n : Int)] := hm 1 _ _ _ rfl rfl rfl
                  have h33 : vs 33 = .bool true := hm 2 _ _ _ rfl rfl rfl
                  have h34 : vs 34 = .bool true := hm 3 _ _ _ rfl rfl rfl
                  have h35 : vs 35 = .pointer (some ⟨w.heap.size, 5, none⟩) := hm 4 _ _ _ rfl rfl rfl
                  have h36 : vs 36 = .agg (VA l.deps) := hm 5 _ _ _ rfl rfl rfl
                  have h37 : vs 37 = .pointer (some ⟨w.heap.size, 1, none⟩) := hm 6 _ _ _ rfl rfl rfl
                  have h38 : vs 38 = .int .i64 l.node := hm 7 _ _ _ rfl rfl rfl
                  have h39 : vs 39 = .int .u32 (getN l.deps l.node : Int) := hm 8 _ _ _ rfl rfl rfl
                  have h40 : vs 40 = .pointer (some ⟨w.heap.size, 2, none⟩) := hm 9 _ _ _ rfl rfl rfl
                  have h41 : vs 41 = .int .u32 (l.n : Int) := hm 10 _ _ _ rfl rfl rfl
                  have h42 : vs 42 = .int .u32 ((l.n : Int) - 1) := hm 11 _ _ _ rfl rfl rfl
                  have h43 : vs 43 = .bool false := hm 12 _ _ _ rfl rfl rfl
                  have h44 : vs 44 = .bool false := hm 13 _ _ _ rfl rfl rfl
                  have h45 : vs 45 = .bool false := hm 14 _ _ _ rfl rfl rfl
                  have h46 : vs 46 = undef := hm 15 _ _ _ rfl rfl rfl
                  have h47 : vs 47 = undef := hm 16 _ _ _ rfl rfl rfl
                  have h48 : vs 48 = undef := hm 17 _ _ _ rfl rfl rfl
                  have h49 : vs 49 = .bool false := hm 18 _ _ _ rfl rfl rfl
                  clear hne hlo
                  simp only [fill, List.filterMap, List.take, List.drop, List.setIfInBounds_toArray, List.set_cons_zero, List.set_cons_succ, h31, h32, h33, h34, h35, h36, h37, h38, h39, h40, h41, h42, h43, h44, h45, h46, h47, h48, h49]
                  clear hm h31 h32 h33 h34 h35 h36 h37 h38 h39 h40 h41 h42 h43 h44 h45 h46 h47 h48 h49
                  go_wp2
                  go_ret
                  exact ⟨rfl, belT hb hB⟩
            · rw [rightL_no (fun h => h6 h.2.2.2.2.2)]
              have d1 : decide ((l.time : Int) < 1) = false := decide_eq_false (by omega)
              have d2 : decide ((1099511627776 : Int) < (l.time : Int)) = false := decide_eq_false (by omega)
              have d3 : decide (l.cart < 1) = false := decide_eq_false (by omega)
              have d4 : decide (12 < l.cart) = false := decide_eq_false (by omega)
              have d5 : decide (l.seller < 0) = false := decide_eq_false (by omega)
              have d6 : decide (12 < l.seller) = true := decide_eq_true (by omega)
              clear h1 h2 h3 h4 h5 h6
              go_enter Try.func53, Try.ntmps53
              go_wp2
              go_ret
              exact ⟨rfl, hb⟩
          · rw [rightL_no (fun h => h5 h.2.2.2.2.1)]
            have d1 : decide ((l.time : Int) < 1) = false := decide_eq_false (by omega)
            have d2 : decide ((1099511627776 : Int) < (l.time : Int)) = false := decide_eq_false (by omega)
            have d3 : decide (l.cart < 1) = false := decide_eq_false (by omega)
            have d4 : decide (12 < l.cart) = false := decide_eq_false (by omega)
            have d5 : decide (l.seller < 0) = true := decide_eq_true (by omega)
            clear h1 h2 h3 h4 h5
            go_enter Try.func53, Try.ntmps53
            go_wp2
            go_ret
            exact ⟨rfl, hb⟩
        · rw [rightL_no (fun h => h4 h.2.2.2.1)]
          have d1 : decide ((l.time : Int) < 1) = false := decide_eq_false (by omega)
          have d2 : decide ((1099511627776 : Int) < (l.time : Int)) = false := decide_eq_false (by omega)
          have d3 : decide (l.cart < 1) = false := decide_eq_false (by omega)
          have d4 : decide (12 < l.cart) = true := decide_eq_true (by omega)
          clear h1 h2 h3 h4
          go_enter Try.func53, Try.ntmps53
          go_wp2
          go_ret
          exact ⟨rfl, hb⟩
      · rw [rightL_no (fun h => h3 h.2.2.1)]
        have d1 : decide ((l.time : Int) < 1) = false := decide_eq_false (by omega)
        have d2 : decide ((1099511627776 : Int) < (l.time : Int)) = false := decide_eq_false (by omega)
        have d3 : decide (l.cart < 1) = true := decide_eq_true (by omega)
        clear h1 h2 h3
        go_enter Try.func53, Try.ntmps53
        go_wp2
        go_ret
        exact ⟨rfl, hb⟩
    · rw [rightL_no (fun h => h2 h.2.1)]
      have d1 : decide ((l.time : Int) < 1) = false := decide_eq_false (by omega)
      have d2 : decide ((1099511627776 : Int) < (l.time : Int)) = true := decide_eq_true (by omega)
      clear h1 h2
      go_enter Try.func53, Try.ntmps53
      go_wp2
      go_ret
      exact ⟨rfl, hb⟩
  · rw [rightL_no (fun h => h1 h.1)]
    have d1 : decide ((l.time : Int) < 1) = true := decide_eq_true (by omega)
    clear h1
    go_enter Try.func53, Try.ntmps53
    go_wp2
    go_ret
    exact ⟨rfl, hb⟩
end Go.Proofs.Ytniphfkipjpikaa
