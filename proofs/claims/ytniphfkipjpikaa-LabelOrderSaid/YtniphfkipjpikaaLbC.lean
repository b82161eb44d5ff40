/- Labels: their order, pasts, what depends on what. -/
import Derived.Test.YtniphfkipjpikaaLbB
namespace Go.Proofs.Ytniphfkipjpikaa
open Go.RowKit

set_option maxRecDepth 100000 in
set_option maxHeartbeats 1600000 in
theorem lpast_any (l : Lb) (w : World) :
    Calls Try.prog 55 #[.agg (LA l)] w fun e w' => e = .returned (.agg (VA (withN l.deps l.node l.n))) ∧ Below w.heap.size w w' := by
  have hb := belA (belA (bel0 w) (.cells (LA l) 87)) (.cells (VA fun _ => 0) 65)
  go_enter Try.func55, Try.ntmps55
  go_wp2
  refine wp_region_words mixed 4 ([] :: [3] :: [] :: [5] :: []) (isV (.pointer (some ⟨w.heap.size, 5, none⟩)) :: isV (.agg (VA l.deps)) :: isV (.agg (LA l)) :: isV (.agg #[.int .i64 l.node, .int .u32 (l.n : Int)]) :: []) (by decide) (by kernel_rfl)
    ⟨stab_isV _, stab_isV _, stab_isV _, stab_isV _, trivial⟩ ⟨?_, ?_, ?_, ?_, trivial⟩ ?_
  · intro vs wq hB hm
    clear hm
    simp only [fill]
    go_wp2
    exact ⟨_, rfl, rfl, Below.refl _ _, trivial⟩
  · intro vs wq hB hm
    have hl : look wq (w.heap.size) = some (.cells (LA l) 87 (0, 0)) := by rw [look_below hB (by first | omega | (simp only [World.size_alloc]; omega) | exact look_lt (by assumption) | (simp only [World.size_alloc, World.size_setCell]; omega) | (simp; omega))]; first | assumption | go_simp
    have h3 : vs 3 = .pointer (some ⟨w.heap.size, 5, none⟩) := meets_get hm 0 rfl rfl rfl rfl
    clear hm
    simp only [fill, h3]
    go_wp2
    exact ⟨_, rfl, rfl, Below.refl _ _, trivial⟩
  · intro vs wq hB hm
    have hl : look wq (w.heap.size) = some (.cells (LA l) 87 (0, 0)) := by rw [look_below hB (by first | omega | (simp only [World.size_alloc]; omega) | exact look_lt (by assumption) | (simp only [World.size_alloc, World.size_setCell]; omega) | (simp; omega))]; first | assumption | go_simp
    clear hm
    simp only [fill]
    go_wp2
    exact ⟨_, rfl, rfl, Below.refl _ _, trivial⟩
  · intro vs wq hB hm
    have h5 : vs 5 = .agg (LA l) := meets_get hm 2 rfl rfl rfl rfl
    clear hm
    simp only [fill, h5]
    go_wp2_with fail
    refine (ldot_any l _).mono ?_
    rintro e w1 ⟨rfl, hb1⟩
    go_wp2
    exact ⟨_, rfl, rfl, hb1, trivial⟩
  intro vs wq hB hm hne hlo
  have h3 : vs 3 = .pointer (some ⟨w.heap.size, 5, none⟩) := hm 0 _ _ _ rfl rfl rfl
  have h4 : vs 4 = .agg (VA l.deps) := hm 1 _ _ _ rfl rfl rfl
  have h5 : vs 5 = .agg (LA l) := hm 2 _ _ _ rfl rfl rfl
  have h6 : vs 6 = .agg #[.int .i64 l.node, .int .u32 (l.n : Int)] := hm 3 _ _ _ rfl rfl rfl
  clear hne hlo
  simp only [fill, List.filterMap, List.take, List.drop, List.setIfInBounds_toArray, List.set_cons_zero, List.set_cons_succ, h3, h4, h5, h6]
  clear hm h3 h4 h5 h6
  go_wp2_with fail
  refine (with_any l.deps l.node l.n _).mono ?_
  rintro _ w1 ⟨rfl, hb1⟩
  have hB1 := belT hB hb1
  have hl2 : look w1 (w.heap.size + 1) = some (.cells (VA fun _ => 0) 65 (0, 0)) := by
    rw [look_below hB1 (by simp)]
    exact look_alloc_at _ _ _ (by simp)
  have hfin := belR (belT hb hB1) (g := w.heap.size + 1) (by omega) (VA (withN l.deps l.node l.n))
  go_wp2
  refine ret_vec (g := w.heap.size + 1) (f := withN l.deps l.node l.n) (t := 65) (fr := (0, 0)) Try.results55 rfl ?_ rfl ?_
  · rw [look_setRow, if_pos rfl, hl2]; rfl
  · exact ⟨rfl, hfin⟩

/-- Does a label's event depend on another one's? -/
def beforeL (a b : Lb) : Bool := decide (a.cart = b.cart) && hasB b.deps a.node a.n

set_option maxRecDepth 100000 in
set_option maxHeartbeats 1600000 in
theorem lbefore_any (a b : Lb) (w : World) :
    Calls Try.prog 56 #[.agg (LA a), .agg (LA b)] w fun e w' => e = .returned (.bool (beforeL a b)) ∧ Below w.heap.size w w' := by
  have hb := belA (belA (bel0 w) (.cells (LA a) 87)) (.cells (LA b) 87)
  by_cases hc : a.cart = b.cart
  · go_enter Try.func56, Try.ntmps56
    go_wp2
    refine wp_region_words mixed 12 ([] :: [5] :: [] :: [7] :: [6, 8] :: [9] :: [10] :: [11, 10] :: [10] :: [13, 10] :: [12, 14, 10] :: [10, 15] :: []) (isV (.pointer (some ⟨w.heap.size, 3, none⟩)) :: isV (.int .i64 b.cart) :: isV (.pointer (some ⟨w.heap.size + 1, 3, none⟩)) :: isV (.int .i64 b.cart) :: isV (.bool true) :: isV (.bool true) :: isV (.pointer (some ⟨w.heap.size + 1, 5, none⟩)) :: isV (.agg (VA b.deps)) :: isV (.agg (LA a)) :: isV (.agg #[.int .i64 a.node, .int .u32 (a.n : Int)]) :: isV (.bool (hasB b.deps a.node a.n)) :: isV (.bool (hasB b.deps a.node a.n)) :: []) (by decide) (by kernel_rfl)
      ⟨stab_isV _, stab_isV _, stab_isV _, stab_isV _, stab_isV _, stab_isV _, stab_isV _, stab_isV _, stab_isV _, stab_isV _, stab_isV _, stab_isV _, trivial⟩ ⟨?_, ?_, ?_, ?_, ?_, ?_, ?_, ?_, ?_, ?_, ?_, ?_, trivial⟩ ?_
    · intro vs wq hB hm
      clear hm
      simp only [fill]
      go_wp2
      exact ⟨_, rfl, rfl, Below.refl _ _, trivial⟩
    · intro vs wq hB hm
      have hl : look wq (w.heap.size) = some (.cells (LA a) 87 (0, 0)) := by rw [look_below hB (by first | omega | (simp only [World.size_alloc]; omega) | exact look_lt (by assumption) | (simp only [World.size_alloc, World.size_setCell]; omega) | (simp; omega))]; first | assumption | go_simp
      have hc : World.cell? wq ⟨w.heap.size, 3, none⟩ = some (.int .i64 a.cart) := by rw [look_cell hl]; exact LA_get3 _
      have h5 : vs 5 = .pointer (some ⟨w.heap.size, 3, none⟩) := meets_get hm 0 rfl rfl rfl rfl
      clear hm
      simp only [fill, h5]
      go_wp2
      exact ⟨_, rfl, (by show (_ : Value) = _; first | rfl | exact congrArg _ hc), Below.refl _ _, trivial⟩
    · intro vs wq hB hm
      clear hm
      simp only [fill]
      go_wp2
      exact ⟨_, rfl, rfl, Below.refl _ _, trivial⟩
    · intro vs wq hB hm
      have hl : look wq (w.heap.size + 1) = some (.cells (LA b) 87 (0, 0)) := by rw [look_below hB (by first | omega | (simp only [World.size_alloc]; omega) | exact look_lt (by assumption) | (simp only [World.size_alloc, World.size_setCell]; omega) | (simp; omega))]; first | assumption | go_simp
      have hc : World.cell? wq ⟨w.heap.size + 1, 3, none⟩ = some (.int .i64 b.cart) := by rw [look_cell hl]; exact LA_get3 _
      have h7 : vs 7 = .pointer (some ⟨w.heap.size + 1, 3, none⟩) := meets_get hm 2 rfl rfl rfl rfl
      clear hm
      simp only [fill, h7]
      go_wp2
      exact ⟨_, rfl, rfl, Below.refl _ _, trivial⟩
    · intro vs wq hB hm
      have h6 : vs 6 = .int .i64 b.cart := meets_get hm 1 rfl rfl rfl rfl
      have h8 : vs 8 = .int .i64 b.cart := meets_get hm 3 rfl rfl rfl rfl
      clear hm
      simp only [fill, h6, h8]
      go_wp2
      exact ⟨_, rfl, rfl, Below.refl _ _, trivial⟩
    · intro vs wq hB hm
      have h9 : vs 9 = .bool true := meets_get hm 4 rfl rfl rfl rfl
      clear hm
      simp only [fill, h9]
      go_wp2
      exact ⟨_, rfl, rfl, Below.refl _ _, trivial⟩
    · intro vs wq hB hm
      have h10 : vs 10 = .bool true := meets_get hm 5 rfl rfl rfl rfl
      clear hm
      simp only [fill, h10]
      go_wp2
      exact ⟨_, rfl, rfl, Below.refl _ _, trivial⟩
    · intro vs wq hB hm
      have hl : look wq (w.heap.size + 1) = some (.cells (LA b) 87 (0, 0)) := by rw [look_below hB (by first | omega | (simp only [World.size_alloc]; omega) | exact look_lt (by assumption) | (simp only [World.size_alloc, World.size_setCell]; omega) | (simp; omega))]; first | assumption | go_simp
      have h11 : vs 11 = .pointer (some ⟨w.heap.size + 1, 5, none⟩) := meets_get hm 6 rfl rfl rfl rfl
      have h10 : vs 10 = .bool true := meets_get hm 5 rfl rfl rfl rfl
      clear hm
      simp only [fill, h11, h10]
      go_wp2
      exact ⟨_, rfl, rfl, Below.refl _ _, trivial⟩
    · intro vs wq hB hm
      have hl : look wq (w.heap.size) = some (.cells (LA a) 87 (0, 0)) := by rw [look_below hB (by first | omega | (simp only [World.size_alloc]; omega) | exact look_lt (by assumption) | (simp only [World.size_alloc, World.size_setCell]; omega) | (simp; omega))]; first | assumption | go_simp
      have h10 : vs 10 = .bool true := meets_get hm 5 rfl rfl rfl rfl
      clear hm
      simp only [fill, h10]
      go_wp2
      exact ⟨_, rfl, rfl, Below.refl _ _, trivial⟩
    · intro vs wq hB hm
      have h13 : vs 13 = .agg (LA a) := meets_get hm 8 rfl rfl rfl rfl
      have h10 : vs 10 = .bool true := meets_get hm 5 rfl rfl rfl rfl
      clear hm
      simp only [fill, h13, h10]
      go_wp2_with fail
      refine (ldot_any a _).mono ?_
      rintro e w1 ⟨rfl, hb1⟩
      go_wp2
      exact ⟨_, rfl, rfl, hb1, trivial⟩
    · intro vs wq hB hm
      have h12 : vs 12 = .agg (VA b.deps) := meets_get hm 7 rfl rfl rfl rfl
      have h14 : vs 14 = .agg #[.int .i64 a.node, .int .u32 (a.n : Int)] := meets_get hm 9 rfl rfl rfl rfl
      have h10 : vs 10 = .bool true := meets_get hm 5 rfl rfl rfl rfl
      clear hm
      simp only [fill, h12, h14, h10]
      go_wp2_with fail
      refine (has_any b.deps a.node a.n _).mono ?_
      rintro e w1 ⟨rfl, hb1⟩
      go_wp2
      exact ⟨_, rfl, rfl, hb1, trivial⟩
    · intro vs wq hB hm
      have h10 : vs 10 = .bool true := meets_get hm 5 rfl rfl rfl rfl
      have h15 : vs 15 = .bool (hasB b.deps a.node a.n) := meets_get hm 10 rfl rfl rfl rfl
      clear hm
      simp only [fill, h10, h15]
      go_wp2
      exact ⟨_, rfl, rfl, Below.refl _ _, trivial⟩
    intro vs wq hB hm hne hlo
    have h5 : vs 5 = .pointer (some ⟨w.heap.size, 3, none⟩) := hm 0 _ _ _ rfl rfl rfl
    have h6 : vs 6 = .int .i64 b.cart := hm 1 _ _ _ rfl rfl rfl
    have h7 : vs 7 = .pointer (some ⟨w.heap.size + 1, 3, none⟩) := hm 2 _ _ _ rfl rfl rfl
    have h8 : vs 8 = .int .i64 b.cart := hm 3 _ _ _ rfl rfl rfl
    have h9 : vs 9 = .bool true := hm 4 _ _ _ rfl rfl rfl
    have h10 : vs 10 = .bool true := hm 5 _ _ _ rfl rfl rfl
    have h11 : vs 11 = .pointer (some ⟨w.heap.size + 1, 5, none⟩) := hm 6 _ _ _ rfl rfl rfl
    have h12 : vs 12 = .agg (VA b.deps) := hm 7 _ _ _ rfl rfl rfl
    have h13 : vs 13 = .agg (LA a) := hm 8 _ _ _ rfl rfl rfl
    have h14 : vs 14 = .agg #[.int .i64 a.node, .int .u32 (a.n : Int)] := hm 9 _ _ _ rfl rfl rfl
    have h15 : vs 15 = .bool (hasB b.deps a.node a.n) := hm 10 _ _ _ rfl rfl rfl
    have h16 : vs 16 = .bool (hasB b.deps a.node a.n) := hm 11 _ _ _ rfl rfl rfl
    clear hne hlo
    simp only [fill, List.filterMap, List.take, List.drop, List.setIfInBounds_toArray, List.set_cons_zero, List.set_cons_succ, h5, h6, h7, h8, h9, h10, h11, h12, h13, h14, h15, h16]
    clear hm h5 h6 h7 h8 h9 h10 h11 h12 h13 h14 h15 h16
    go_wp2
    go_ret
    exact ⟨ret_bool (by unfold beforeL; rw [decide_eq_true hc, Bool.true_and]), belT hb hB⟩
  · go_enter Try.func56, Try.ntmps56
    go_wp2
    refine wp_region_words mixed 12 ([] :: [5] :: [] :: [7] :: [6, 8] :: [9] :: [10] :: [11, 10] :: [10] :: [13, 10] :: [12, 14, 10] :: [10, 15] :: []) (isV (.pointer (some ⟨w.heap.size, 3, none⟩)) :: isV (.int .i64 a.cart) :: isV (.pointer (some ⟨w.heap.size + 1, 3, none⟩)) :: isV (.int .i64 b.cart) :: isV (.bool false) :: isV (.bool false) :: isV (undef) :: isV (undef) :: isV (undef) :: isV (undef) :: isV (undef) :: isV (.bool false) :: []) (by decide) (by kernel_rfl)
      ⟨stab_isV _, stab_isV _, stab_isV _, stab_isV _, stab_isV _, stab_isV _, stab_isV _, stab_isV _, stab_isV _, stab_isV _, stab_isV _, stab_isV _, trivial⟩ ⟨?_, ?_, ?_, ?_, ?_, ?_, ?_, ?_, ?_, ?_, ?_, ?_, trivial⟩ ?_
    · intro vs wq hB hm
      clear hm
      simp only [fill]
      go_wp2
      exact ⟨_, rfl, rfl, Below.refl _ _, trivial⟩
    · intro vs wq hB hm
      have hl : look wq (w.heap.size) = some (.cells (LA a) 87 (0, 0)) := by rw [look_below hB (by first | omega | (simp only [World.size_alloc]; omega) | exact look_lt (by assumption) | (simp only [World.size_alloc, World.size_setCell]; omega) | (simp; omega))]; first | assumption | go_simp
      have hc : World.cell? wq ⟨w.heap.size, 3, none⟩ = some (.int .i64 a.cart) := by rw [look_cell hl]; exact LA_get3 _
      have h5 : vs 5 = .pointer (some ⟨w.heap.size, 3, none⟩) := meets_get hm 0 rfl rfl rfl rfl
      clear hm
      simp only [fill, h5]
      go_wp2
      exact ⟨_, rfl, rfl, Below.refl _ _, trivial⟩
    · intro vs wq hB hm
      clear hm
      simp only [fill]
      go_wp2
      exact ⟨_, rfl, rfl, Below.refl _ _, trivial⟩
    · intro vs wq hB hm
      have hl : look wq (w.heap.size + 1) = some (.cells (LA b) 87 (0, 0)) := by rw [look_below hB (by first | omega | (simp only [World.size_alloc]; omega) | exact look_lt (by assumption) | (simp only [World.size_alloc, World.size_setCell]; omega) | (simp; omega))]; first | assumption | go_simp
      have hc : World.cell? wq ⟨w.heap.size + 1, 3, none⟩ = some (.int .i64 b.cart) := by rw [look_cell hl]; exact LA_get3 _
      have h7 : vs 7 = .pointer (some ⟨w.heap.size + 1, 3, none⟩) := meets_get hm 2 rfl rfl rfl rfl
      clear hm
      simp only [fill, h7]
      go_wp2
      exact ⟨_, rfl, rfl, Below.refl _ _, trivial⟩
    · intro vs wq hB hm
      have h6 : vs 6 = .int .i64 a.cart := meets_get hm 1 rfl rfl rfl rfl
      have h8 : vs 8 = .int .i64 b.cart := meets_get hm 3 rfl rfl rfl rfl
      clear hm
      simp only [fill, h6, h8]
      go_wp2
      exact ⟨_, rfl, (by show (_ : Value) = _; first | rfl | exact congrArg Value.bool (decide_eq_false hc)), Below.refl _ _, trivial⟩
    · intro vs wq hB hm
      have h9 : vs 9 = .bool false := meets_get hm 4 rfl rfl rfl rfl
      clear hm
      simp only [fill, h9]
      go_wp2
      exact ⟨_, rfl, rfl, Below.refl _ _, trivial⟩
    · intro vs wq hB hm
      have h10 : vs 10 = .bool false := meets_get hm 5 rfl rfl rfl rfl
      clear hm
      simp only [fill, h10]
      refine wpList_skip (by rfl) ?_
      exact ⟨_, rfl, rfl, Below.refl _ _, trivial⟩
    · intro vs wq hB hm
      have h11 : vs 11 = undef := meets_get hm 6 rfl rfl rfl rfl
      have h10 : vs 10 = .bool false := meets_get hm 5 rfl rfl rfl rfl
      clear hm
      simp only [fill, h11, h10]
      refine wpList_skip (by rfl) ?_
      exact ⟨_, rfl, rfl, Below.refl _ _, trivial⟩
    · intro vs wq hB hm
      have h10 : vs 10 = .bool false := meets_get hm 5 rfl rfl rfl rfl
      clear hm
      simp only [fill, h10]
      refine wpList_skip (by rfl) ?_
      exact ⟨_, rfl, rfl, Below.refl _ _, trivial⟩
    · intro vs wq hB hm
      have h13 : vs 13 = undef := meets_get hm 8 rfl rfl rfl rfl
      have h10 : vs 10 = .bool false := meets_get hm 5 rfl rfl rfl rfl
      clear hm
      simp only [fill, h13, h10]
      refine wpList_skip (by rfl) ?_
      exact ⟨_, rfl, rfl, Below.refl _ _, trivial⟩
    · intro vs wq hB hm
      have h12 : vs 12 = undef := meets_get hm 7 rfl rfl rfl rfl
      have h14 : vs 14 = undef := meets_get hm 9 rfl rfl rfl rfl
      have h10 : vs 10 = .bool false := meets_get hm 5 rfl rfl rfl rfl
      clear hm
      simp only [fill, h12, h14, h10]
      refine wpList_skip (by rfl) ?_
      exact ⟨_, rfl, rfl, Below.refl _ _, trivial⟩
    · intro vs wq hB hm
      have h10 : vs 10 = .bool false := meets_get hm 5 rfl rfl rfl rfl
      have h15 : vs 15 = undef := meets_get hm 10 rfl rfl rfl rfl
      clear hm
      simp only [fill, h10, h15]
      go_wp2
      exact ⟨_, rfl, rfl, Below.refl _ _, trivial⟩
    intro vs wq hB hm hne hlo
    have h5 : vs 5 = .pointer (some ⟨w.heap.size, 3, none⟩) := hm 0 _ _ _ rfl rfl rfl
    have h6 : vs 6 = .int .i64 a.cart := hm 1 _ _ _ rfl rfl rfl
    have h7 : vs 7 = .pointer (some ⟨w.heap.size + 1, 3, none⟩) := hm 2 _ _ _ rfl rfl rfl
    have h8 : vs 8 = .int .i64 b.cart := hm 3 _ _ _ rfl rfl rfl
    have h9 : vs 9 = .bool false := hm 4 _ _ _ rfl rfl rfl
    have h10 : vs 10 = .bool false := hm 5 _ _ _ rfl rfl rfl
    have h11 : vs 11 = undef := hm 6 _ _ _ rfl rfl rfl
    have h12 : vs 12 = undef := hm 7 _ _ _ rfl rfl rfl
    have h13 : vs 13 = undef := hm 8 _ _ _ rfl rfl rfl
    have h14 : vs 14 = undef := hm 9 _ _ _ rfl rfl rfl
    have h15 : vs 15 = undef := hm 10 _ _ _ rfl rfl rfl
    have h16 : vs 16 = .bool false := hm 11 _ _ _ rfl rfl rfl
    clear hne hlo
    simp only [fill, List.filterMap, List.take, List.drop, List.setIfInBounds_toArray, List.set_cons_zero, List.set_cons_succ, h5, h6, h7, h8, h9, h10, h11, h12, h13, h14, h15, h16]
    clear hm h5 h6 h7 h8 h9 h10 h11 h12 h13 h14 h15 h16
    go_wp2
    go_ret
    exact ⟨ret_bool (by unfold beforeL; rw [decide_eq_false hc, Bool.false_and]), belT hb hB⟩

/-- Is a label ahead of another one? -/
def lessL (a b : Lb) : Bool := if a.time = b.time then (if a.node = b.node then (if a.cart = b.cart then decide (a.n < b.n) else decide (a.cart < b.cart)) else decide (a.node < b.node)) else decide (a.time < b.time)
/-- Do two labels stand at one place? -/
def samePl (a b : Lb) : Bool := decide (a.time = b.time) && (decide (a.node = b.node) && (decide (a.cart = b.cart) && decide (a.n = b.n)))
/-- A label's place. -/
abbrev PA (a : Lb) : Array Value := #[.int .u64 (a.time : Int), .int .i64 a.node, .int .i64 a.cart, .int .u32 (a.n : Int)]
theorem run_eql_pl (d : Nat) (l m : Lb) (w : World) : (Op.equalIn (d + 3) 128 (.agg (PA l)) (.agg (PA m))).run Try.prog w = .ok (samePl l m) w := by
  obtain ⟨fs, hfs⟩ : ∃ fs, fs = (Try.prog.fieldsOf 128).toList := ⟨_, rfl⟩
  rw [run_equalIn_struct w (d + 2) 128 (PA l) (PA m) (by kernel_rfl) (by kernel_rfl), ← hfs]
  have e : fs = [(Try.prog.fieldsOf 128)[0]!, (Try.prog.fieldsOf 128)[1]!, (Try.prog.fieldsOf 128)[2]!, (Try.prog.fieldsOf 128)[3]!] := by rw [hfs]; kernel_rfl
  have i64 : (isAgg 23).run Try.prog w = .ok false w := by kernel_rfl
  have ii : (isAgg 3).run Try.prog w = .ok false w := by kernel_rfl
  have i32 : (isAgg 63).run Try.prog w = .ok false w := by kernel_rfl
  rw [e, eqF_step _ _ _ _ _ w "time" _ 0 _ _ _ ⟨by kernel_rfl, by kernel_rfl, by kernel_rfl⟩ (by decide) (part_one _ _ _ _ w i64 rfl) (part_one _ _ _ _ w i64 rfl) (run_equalIn_int w _ _ _ _ _ _ Try.underlying23),
    eqF_step _ _ _ _ _ w "node" _ 1 _ _ _ ⟨by kernel_rfl, by kernel_rfl, by kernel_rfl⟩ (by decide) (part_one _ _ _ _ w ii rfl) (part_one _ _ _ _ w ii rfl) (run_equalIn_int w _ _ _ _ _ _ Try.underlying3),
    eqF_step _ _ _ _ _ w "cart" _ 2 _ _ _ ⟨by kernel_rfl, by kernel_rfl, by kernel_rfl⟩ (by decide) (part_one _ _ _ _ w ii rfl) (part_one _ _ _ _ w ii rfl) (run_equalIn_int w _ _ _ _ _ _ Try.underlying3),
    eqF_step _ _ _ _ _ w "n" _ 3 _ _ _ ⟨by kernel_rfl, by kernel_rfl, by kernel_rfl⟩ (by decide) (part_one _ _ _ _ w i32 rfl) (part_one _ _ _ _ w i32 rfl) (run_equalIn_int w _ _ _ _ _ _ Try.underlying63)]
  simp only [dec_cast]
  simp only [dec_int, samePl, Op.eqFields, Sem.run_pure]
  by_cases h1 : l.time = m.time
  · by_cases h2 : l.node = m.node
    · by_cases h3 : l.cart = m.cart
      · by_cases h4 : l.n = m.n
        · simp [h1, h2, h3, h4]
        · simp [h1, h2, h3, h4]
      · simp [h1, h2, h3]
    · simp [h1, h2]
  · simp [h1]
@[go_sem ↓] theorem eql_pl (l m : Lb) (w : World) : (binOp .eql 128 (.agg (PA l)) (.agg (PA m))).run Try.prog w = .ok (.bool (samePl l m)) w := by
  rw [run_eql_struct, run_eql_pl]
  rfl

set_option maxRecDepth 100000 in
set_option maxHeartbeats 3200000 in
theorem lless_any (a b : Lb) (w : World) :
    Calls Try.prog 52 #[.agg (LA a), .agg (LA b)] w fun e w' => e = .returned (.bool (lessL a b)) ∧ Below w.heap.size w w' := by
  have hb := belA (belA (bel0 w) (.cells (LA a) 87)) (.cells (LA b) 87)
  go_enter Try.func52, Try.ntmps52
  go_wp2
  refine wp_region_words mixed 6 ([] :: [7] :: [] :: [9] :: [] :: [] :: []) (isV (.agg (LA a)) :: isV (.agg (PA a)) :: isV (.agg (LA b)) :: isV (.agg (PA b)) :: isVar 128 (#[.int .u64 0, .int .i64 0, .int .i64 0, .int .u32 0]) :: isVar 128 (#[.int .u64 0, .int .i64 0, .int .i64 0, .int .u32 0]) :: []) (by decide) (by kernel_rfl)
    ⟨stab_isV _, stab_isV _, stab_isV _, stab_isV _, stab_isVar _ _, stab_isVar _ _, trivial⟩ ⟨?_, ?_, ?_, ?_, ?_, ?_, trivial⟩ ?_
  · intro vs wq hB hm
    have hl : look wq (w.heap.size) = some (.cells (LA a) 87 (0, 0)) := by rw [look_below hB (by first | omega | (simp only [World.size_alloc]; omega) | exact look_lt (by assumption) | (simp only [World.size_alloc, World.size_setCell]; omega) | (simp; omega))]; first | assumption | go_simp
    clear hm
    simp only [fill]
    go_wp2
    exact ⟨_, rfl, rfl, Below.refl _ _, trivial⟩
  · intro vs wq hB hm
    have h7 : vs 7 = .agg (LA a) := meets_get hm 0 rfl rfl rfl rfl
    clear hm
    simp only [fill, h7]
    go_wp2_with fail
    refine (lof_any a _).mono ?_
    rintro e w1 ⟨rfl, hb1⟩
    go_wp2
    exact ⟨_, rfl, rfl, hb1, trivial⟩
  · intro vs wq hB hm
    have hl : look wq (w.heap.size + 1) = some (.cells (LA b) 87 (0, 0)) := by rw [look_below hB (by first | omega | (simp only [World.size_alloc]; omega) | exact look_lt (by assumption) | (simp only [World.size_alloc, World.size_setCell]; omega) | (simp; omega))]; first | assumption | go_simp
    clear hm
    simp only [fill]
    go_wp2
    exact ⟨_, rfl, rfl, Below.refl _ _, trivial⟩
  · intro vs wq hB hm
    have h9 : vs 9 = .agg (LA b) := meets_get hm 2 rfl rfl rfl rfl
    clear hm
    simp only [fill, h9]
    go_wp2_with fail
    refine (lof_any b _).mono ?_
    rintro e w1 ⟨rfl, hb1⟩
    go_wp2
    exact ⟨_, rfl, rfl, hb1, trivial⟩
  · intro vs wq hB hm
    clear hm
    simp only [fill]
    go_wp2
    exact ⟨_, rfl, ⟨_, rfl, look_alloc_at _ _ _ rfl⟩, (Below.refl _ _).alloc (Nat.le_refl _) _, fun b hb => by cases hb; exact ⟨Nat.le_refl _, by simp⟩⟩
  · intro vs wq hB hm
    clear hm
    simp only [fill]
    go_wp2
    exact ⟨_, rfl, ⟨_, rfl, look_alloc_at _ _ _ rfl⟩, (Below.refl _ _).alloc (Nat.le_refl _) _, fun b hb => by cases hb; exact ⟨Nat.le_refl _, by simp⟩⟩
  intro vs wq hB hm hne hlo
  have h7 : vs 7 = .agg (LA a) := hm 0 _ _ _ rfl rfl rfl
  have h8 : vs 8 = .agg (PA a) := hm 1 _ _ _ rfl rfl rfl
  have h9 : vs 9 = .agg (LA b) := hm 2 _ _ _ rfl rfl rfl
  have h10 : vs 10 = .agg (PA b) := hm 3 _ _ _ rfl rfl rfl
  obtain ⟨b5, h5, l5⟩ := hm 4 _ _ _ rfl rfl rfl
  obtain ⟨b6, h6, l6⟩ := hm 5 _ _ _ rfl rfl rfl
  have lo5 : _ ≤ b5 ∧ b5 < wq.heap.size := hlo 4 _ _ rfl rfl rfl b5 (by rw [h5]; rfl)
  have lo6 : _ ≤ b6 ∧ b6 < wq.heap.size := hlo 5 _ _ rfl rfl rfl b6 (by rw [h6]; rfl)
  have ne5_6 : b5 ≠ b6 := fun h => hne 4 5 _ _ _ _ (by omega) rfl rfl rfl rfl rfl rfl b5 (by rw [h5]; rfl) (by rw [h6, h]; rfl)
  clear hne hlo
  simp only [fill, List.filterMap, List.take, List.drop, List.setIfInBounds_toArray, List.set_cons_zero, List.set_cons_succ, h7, h8, h9, h10, h5, h6]
  clear hm h7 h8 h9 h10 h5 h6
  have hbw := belT hb hB
  have hfin := belR (belR hbw (g := b5) (by simp at lo5; omega) (PA a)) (g := b6) (by simp at lo6; omega) (PA b)
  have n5 : look ((wq.setRow b5 (PA a)).setRow b6 (PA b)) b5 = some (.cells (PA a) 128 (0, 0)) := by rw [look_setRow, if_neg ne5_6, look_setRow, if_pos rfl, l5]; rfl
  have n6 : look ((wq.setRow b5 (PA a)).setRow b6 (PA b)) b6 = some (.cells (PA b) 128 (0, 0)) := by rw [look_setRow, if_pos rfl, look_setRow, if_neg (Ne.symm ne5_6), l6]; rfl
  have c5_0 : World.cell? ((wq.setRow b5 (PA a)).setRow b6 (PA b)) ⟨b5, 0, none⟩ = some (.int .u64 (a.time : Int)) := by rw [look_cell n5]; rfl
  have c5_1 : World.cell? ((wq.setRow b5 (PA a)).setRow b6 (PA b)) ⟨b5, 1, none⟩ = some (.int .i64 a.node) := by rw [look_cell n5]; rfl
  have c5_2 : World.cell? ((wq.setRow b5 (PA a)).setRow b6 (PA b)) ⟨b5, 2, none⟩ = some (.int .i64 a.cart) := by rw [look_cell n5]; rfl
  have c5_3 : World.cell? ((wq.setRow b5 (PA a)).setRow b6 (PA b)) ⟨b5, 3, none⟩ = some (.int .u32 (a.n : Int)) := by rw [look_cell n5]; rfl
  have c6_0 : World.cell? ((wq.setRow b5 (PA a)).setRow b6 (PA b)) ⟨b6, 0, none⟩ = some (.int .u64 (b.time : Int)) := by rw [look_cell n6]; rfl
  have c6_1 : World.cell? ((wq.setRow b5 (PA a)).setRow b6 (PA b)) ⟨b6, 1, none⟩ = some (.int .i64 b.node) := by rw [look_cell n6]; rfl
  have c6_2 : World.cell? ((wq.setRow b5 (PA a)).setRow b6 (PA b)) ⟨b6, 2, none⟩ = some (.int .i64 b.cart) := by rw [look_cell n6]; rfl
  have c6_3 : World.cell? ((wq.setRow b5 (PA a)).setRow b6 (PA b)) ⟨b6, 3, none⟩ = some (.int .u32 (b.n : Int)) := by rw [look_cell n6]; rfl
  clear n5 n6
  by_cases h1 : a.time = b.time
  · by_cases h2 : a.node = b.node
    · by_cases h3 : a.cart = b.cart
      · by_cases h4 : a.n = b.n
        · have hs : samePl a b = true := by unfold samePl; simp [h1, h2, h3, h4]
          have hv : Hid (lessL a b = false) := hidP (by unfold lessL; simp [h1, h2, h3, h4])
          clear h1 h2 h3 h4
          go_wp2
          go_ret
          exact ⟨ret_bool (by rw [hv.out] <;> first | rfl | simp), hfin⟩
        · have hs : samePl a b = false := by unfold samePl; simp [h4]
          have hv : Hid (lessL a b = decide ((a.n : Int) < (b.n : Int))) := hidP (by unfold lessL; simp [h1, h2, h3])
          go_wp2
          go_ret
          exact ⟨ret_bool (by rw [hv.out] <;> first | rfl | simp), hfin⟩
      · have hs : samePl a b = false := by unfold samePl; simp [h3]
        have hv : Hid (lessL a b = decide (a.cart < b.cart)) := hidP (by unfold lessL; simp [h1, h2, h3])
        go_wp2
        go_ret
        exact ⟨ret_bool (by rw [hv.out] <;> first | rfl | simp), hfin⟩
    · have hs : samePl a b = false := by unfold samePl; simp [h2]
      have hv : Hid (lessL a b = decide (a.node < b.node)) := hidP (by unfold lessL; simp [h1, h2])
      go_wp2
      go_ret
      exact ⟨ret_bool (by rw [hv.out] <;> first | rfl | simp), hfin⟩
  · have hs : samePl a b = false := by unfold samePl; simp [h1]
    have hv : Hid (lessL a b = decide (a.time < b.time)) := hidP (by unfold lessL; simp [h1])
    go_wp2
    go_ret
    exact ⟨ret_bool (by rw [hv.out] <;> first | rfl | simp), hfin⟩
end Go.Proofs.Ytniphfkipjpikaa
