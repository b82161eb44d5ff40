/- Links: a new one; whether it was made; its numbers; what is taken, and acknowledged. -/
import Derived.Test.YtnpofcnibgdjhaaLkB
import Derived.ArgAppend
namespace Go.Proofs.Ytnpofcnibgdjhaa
open Go.RowKit

theorem infoT : (Try.prog.info? 30).map (fun i => (i.zero, i.size, i.bytes)) = some (some (.slice none 0 0), 1, 24) := by kernel_rfl
theorem lk_info : (Try.prog.info? 51).map (·.size) = some 3 := by kernel_rfl
@[go_sem ↓] theorem wp_load_lk (dst : Option Tmp) (x : Operand) (ty : TypeId) (pos : String) (after : Array Edge) (gd : Option (Nat × Bool)) (a : Act) (w : World) (K : Act → World → Prop) (Q : Exit → Act → World → Prop) :
    Oper.wp Try.prog ⟨dst, .load 51 x, ty, pos, after, gd⟩ a w K Q = match a.eval x with
      | .pointer (some ⟨g, 0, none⟩) => (match look w g with
        | some (.cells cs _ _) => if cs.size = 3 then K (a.put dst (.agg cs)) w else wpRest Try.prog ⟨dst, .load 51 x, ty, pos, after, gd⟩ a w K Q
        | _ => wpRest Try.prog ⟨dst, .load 51 x, ty, pos, after, gd⟩ a w K Q)
      | _ => wpRest Try.prog ⟨dst, .load 51 x, ty, pos, after, gd⟩ a w K Q :=
  wp_load_look (P := Try.prog) 51 3 _ Try.underlying51 rfl lk_info dst x ty pos after gd a w K Q
@[go_sem ↓] theorem wp_store_lk (dst : Option Tmp) (x y : Operand) (ty : TypeId) (pos : String) (after : Array Edge) (gd : Option (Nat × Bool)) (a : Act) (w : World) (K : Act → World → Prop) (Q : Exit → Act → World → Prop) :
    Oper.wp Try.prog ⟨dst, .store 51 x y, ty, pos, after, gd⟩ a w K Q = match a.eval x, a.eval y with
      | .pointer (some ⟨g, 0, none⟩), .agg vs => (match look w g with
        | some (.cells cs _ (0, 0)) => if cs.size = 3 ∧ vs.size = 3 ∧ vs.all (·.oneCell') = true then K (a.put dst undef) (w.setRow g vs) else wpRest Try.prog ⟨dst, .store 51 x y, ty, pos, after, gd⟩ a w K Q
        | _ => wpRest Try.prog ⟨dst, .store 51 x y, ty, pos, after, gd⟩ a w K Q)
      | _, _ => wpRest Try.prog ⟨dst, .store 51 x y, ty, pos, after, gd⟩ a w K Q :=
  wp_store_look (P := Try.prog) 51 3 lk_info dst x y ty pos after gd a w K Q
theorem ret_lk {fn : Func} {R : Ending → World → Prop} {a : Act} {w : World} {p g : Nat} {cs : Array Value} {t : TypeId} {fr : Nat × Nat} (h : fn.results = #[.cell p 51])
    (hp : a.tmps.getD p undef = .pointer (some ⟨g, 0, none⟩)) (hg : look w g = some (.cells cs t fr)) (hn : cs.size = 3) (hd : a.defers = []) (hR : R (.returned (.agg cs)) w) : bodyPost Try.prog fn R .ret a w :=
  bodyPost_ret (results_cell_row h _ _ g t cs fr _ hp hg Try.underlying51 rfl (by rw [hn]; exact lk_info)) hd hR

@[go_sem ↓] theorem eql_texts_nil (a : Option Addr) (n c : Nat) (w : World) : (binOp .eql 49 (.slice a n c) (.slice none 0 0)).run Try.prog w = .ok (.bool a.isNone) w := by
  have h : (Op.equalIn 10000 49 (.slice a n c) (.slice none 0 0)).run Try.prog w = .ok a.isNone w := by
    rw [Op.equalIn]
    cases a <;> simp [run_underlying Try.underlying49]
  simp only [binOp]
  simp [Op.equal, Op.maxDepth, h]
theorem rowsL_ones_lt {C : Nat → List Value} {n : Nat} (h : ∀ k, k < n → ∀ u ∈ C k, u.oneCell' = true) : ∀ u ∈ rowsL C n, u.oneCell' = true := by
  intro u hu
  obtain ⟨k, hk, hk2⟩ := List.mem_flatMap.1 hu
  exact h k (List.mem_range.1 hk) u hk2

set_option maxRecDepth 100000 in
set_option maxHeartbeats 1600000 in
theorem clone2_any (v : Value) (n : Nat) (C : Nat → List Value) (w : World) (hn : n ≤ 100000) (hC : ∀ k, (C k).length = 1) (h1 : ∀ k, k < n → ∀ u ∈ C k, u.oneCell' = true) (hS : SliceAt w v n 1 C) :
    Calls Try.prog 68 #[v] w fun e w' => ∃ u, e = .returned u ∧ w'.ownsRow w.heap.size 30 1 u n (rowsL C n) ∧ Below w.heap.size w w' := by
  obtain ⟨i0, hi, hz0, hz1, hz2⟩ := info_parts infoT
  rcases hS.news (by decide) hC with ⟨rfl, rfl⟩ | ⟨ad, c, rfl, hc⟩
  · go_enter Try.func68, Try.ntmps68
    go_wp2
    go_ret
    exact ⟨_, rfl, World.ownsRow_nil _ _ _ _, bel0 _⟩
  · go_enter Try.func68, Try.ntmps68
    go_wp2_with (at_builtin; refine stop_here ?_)
    refine hidP ?_
    have hc2 : ∀ j u, (rowsL C n)[j]? = some u → (w.alloc (.cells #[] 30)).cell? (ad.add j) = some u := by
      intro j u hu
      have h1 := hc j u hu
      have h2 : ((w.alloc (.cells #[] 30)).cell? (ad.add j)) = w.cell? (ad.add j) := (belA (bel0 w) _).cell (World.block_lt_of_cell? w _ h1)
      rw [h2]; exact h1
    refine append_fresh rfl _ _ 49 rfl w.heap.size 30 i0 (.slice none 0 0) 1 24 Try.underlying49 hi hz0 hz1 hz2 rfl (by decide) w.heap.size rfl (look_alloc_at _ _ _ rfl) (Nat.le_refl _) (belA (bel0 w) _).size _ n (rowsL C n) rfl (by rw [rowsL_len hC]) (rowsL_ones_lt h1) ?c1 (by unfold maxLen; omega) (by omega) ?_
    case c1 => exact .inr ⟨ad, c, rfl, hc2⟩
    intro v' w' h1 h2
    go_wp2
    go_ret
    exact ⟨_, rfl, h1, (belT (belA (bel0 w) _) h2)⟩

theorem lnew_any (w : World) :
    Calls Try.prog 13 #[] w fun e w' => e = .returned (.pointer (some ⟨w.heap.size, 0, none⟩)) ∧ w' = w.alloc (.cells #[.int .u64 1, .slice none 0 0, .int .u64 1] 51) := by
  go_enter Try.func13, Try.ntmps13
  go_wp2
  go_ret
  exact ⟨rfl, rfl⟩
theorem link_new (w : World) : LinkAt (fun _ => False) (w.alloc (.cells #[.int .u64 1, .slice none 0 0, .int .u64 1] 51)) w.heap.size newL :=
  ⟨.slice none 0 0, fun _ => .slice none 0 0, look_alloc_at _ _ _ rfl, SliceAt.nil _ _ _, fun b hb => (by cases hb), fun k hk => absurd hk (by simp [newL]), fun b hb => hb.elim⟩

set_option maxRecDepth 100000 in
theorem lmade_any (p : Nat) (nx : Nat) (v e : Value) (w : World) (hl : look w p = some (.cells #[.int .u64 (nx : Int), v, e] 51 (0, 0))) :
    Calls Try.prog 64 #[.pointer (some ⟨p, 0, none⟩)] w fun e w' => e = .returned (.bool (decide (0 < nx))) ∧ w = w' := by
  have hc0 : w.cell? ⟨p, 0, none⟩ = some (.int .u64 (nx : Int)) := by rw [look_cell hl]; rfl
  go_enter Try.func64, Try.ntmps64
  by_cases h : 0 < nx
  · rw [decide_eq_true h]
    go_wp2
    go_ret
    exact ⟨rfl, rfl⟩
  · have h0 : nx = 0 := by omega
    subst h0
    go_wp2
    go_ret
    exact ⟨rfl, rfl⟩
theorem lmade_nil (w : World) :
    Calls Try.prog 64 #[.pointer none] w fun e w' => e = .returned (.bool false) ∧ w = w' := by
  go_enter Try.func64, Try.ntmps64
  go_wp2
  go_ret
  exact ⟨rfl, rfl⟩

set_option maxRecDepth 100000 in
theorem istext_any (ad : Option Addr) (cap : Nat) (bs : List Nat) (w : World) (hlen : bs.length ≤ 9223372036854775807) :
    Calls Try.prog 65 #[.slice ad bs.length cap] w fun e w' => e = .returned (.bool (txt bs)) ∧ w = w' := by
  unfold txt
  go_enter Try.func65, Try.ntmps65
  by_cases h1 : 1 ≤ bs.length
  · by_cases h2 : bs.length ≤ 1800
    · rw [decide_eq_true ⟨h1, h2⟩]
      have d2 : decide ((bs.length : Int) ≤ 1800) = true := decide_eq_true (by omega)
      go_wp2
      go_ret
      exact ⟨rfl, rfl⟩
    · rw [decide_eq_false (fun h => h2 h.2)]
      have d2 : decide ((bs.length : Int) ≤ 1800) = false := decide_eq_false (by omega)
      go_wp2
      go_ret
      exact ⟨rfl, rfl⟩
  · rw [decide_eq_false (fun h => h1 h.1)]
    go_wp2
    go_ret
    exact ⟨rfl, rfl⟩

set_option maxRecDepth 100000 in
theorem lnext_any (p : Nat) (nx : Nat) (v e : Value) (w : World) (hl : look w p = some (.cells #[.int .u64 (nx : Int), v, e] 51 (0, 0))) :
    Calls Try.prog 22 #[.pointer (some ⟨p, 0, none⟩)] w fun e w' => e = .returned (.int .u64 (nx : Int)) ∧ w = w' := by
  have hc0 : w.cell? ⟨p, 0, none⟩ = some (.int .u64 (nx : Int)) := by rw [look_cell hl]; rfl
  go_enter Try.func22, Try.ntmps22
  go_wp2
  go_ret
  exact ⟨rfl, rfl⟩
set_option maxRecDepth 100000 in
theorem lexpect_any (p : Nat) (ex : Nat) (v e : Value) (w : World) (hl : look w p = some (.cells #[e, v, .int .u64 (ex : Int)] 51 (0, 0))) :
    Calls Try.prog 23 #[.pointer (some ⟨p, 0, none⟩)] w fun e w' => e = .returned (.int .u64 (ex : Int)) ∧ w = w' := by
  have hc2 : w.cell? ⟨p, 2, none⟩ = some (.int .u64 (ex : Int)) := by rw [look_cell hl]; rfl
  go_enter Try.func23, Try.ntmps23
  go_wp2
  go_ret
  exact ⟨rfl, rfl⟩
theorem lnext_nil (w : World) :
    Calls Try.prog 22 #[.pointer none] w fun e w' => e = .returned (.int .u64 0) ∧ w = w' := by
  go_enter Try.func22, Try.ntmps22
  go_wp2
  go_ret
  exact ⟨rfl, rfl⟩
theorem lexpect_nil (w : World) :
    Calls Try.prog 23 #[.pointer none] w fun e w' => e = .returned (.int .u64 0) ∧ w = w' := by
  go_enter Try.func23, Try.ntmps23
  go_wp2
  go_ret
  exact ⟨rfl, rfl⟩

set_option maxRecDepth 100000 in
set_option maxHeartbeats 1600000 in
theorem lfirst_any (p nx n : Nat) (ad : Option Addr) (cap : Nat) (e : Value) (w : World) (hl : look w p = some (.cells #[.int .u64 (nx : Int), .slice ad n cap, e] 51 (0, 0))) (hn : n ≤ nx) (hx : nx < 18446744073709551616) :
    Calls Try.prog 67 #[.pointer (some ⟨p, 0, none⟩)] w fun e w' => e = .returned (.int .u64 ((nx - n : Nat) : Int)) ∧ Below w.heap.size w w' := by
  have hp := look_lt hl
  have hw : IntKind.u64.wrap (n : Int) = (n : Int) := IntWalk.u64_in _ (by omega)
  have hs : IntKind.u64.wrap ((nx : Int) - (n : Int)) = ((nx - n : Nat) : Int) := by rw [IntWalk.u64_in _ (by omega)]; omega
  go_enter Try.func67, Try.ntmps67
  go_wp2_with fail
  refine wp_region_words wmixed 11 ([] :: [3] :: [4] :: [5] :: [] :: [7] :: [8] :: [9] :: [10] :: [11] :: [6, 12] :: []) (isV (.pointer (some ⟨p, 0, none⟩)) :: isV (.pointer (some ⟨p, 0, none⟩)) :: isV (.pointer (some ⟨p, 0, none⟩)) :: isV (.int .u64 (nx : Int)) :: isV (.pointer (some ⟨p, 0, none⟩)) :: isV (.pointer (some ⟨p, 0, none⟩)) :: isV (.pointer (some ⟨p, 1, none⟩)) :: isV (.slice ad n cap) :: isV (.int .i64 (n : Int)) :: isV (.int .u64 (n : Int)) :: isV (.int .u64 ((nx - n : Nat) : Int)) :: []) (by decide) (by kernel_rfl)
    ⟨stab_isV _, stab_isV _, stab_isV _, stab_isV _, stab_isV _, stab_isV _, stab_isV _, stab_isV _, stab_isV _, stab_isV _, stab_isV _, trivial⟩ ⟨?_, ?_, ?_, ?_, ?_, ?_, ?_, ?_, ?_, ?_, ?_, trivial⟩ ?_
  · intro vs wq hB hm
    clear hm
    simp only [fill]
    go_wp2
    exact ⟨_, rfl, rfl, Below.refl _ _, trivial⟩
  · intro vs wq hB hm
    have h3 : vs 3 = .pointer (some ⟨p, 0, none⟩) := meets_get hm 0 rfl rfl rfl rfl
    clear hm
    simp only [fill, h3]
    go_wp2
    exact ⟨_, rfl, rfl, Below.refl _ _, trivial⟩
  · intro vs wq hB hm
    have h4 : vs 4 = .pointer (some ⟨p, 0, none⟩) := meets_get hm 1 rfl rfl rfl rfl
    clear hm
    simp only [fill, h4]
    go_wp2
    exact ⟨_, rfl, rfl, Below.refl _ _, trivial⟩
  · intro vs wq hB hm
    have hl : look wq (p) = some (.cells (#[.int .u64 (nx : Int), .slice ad n cap, e]) 51 (0, 0)) := by rw [look_below hB (by first | omega | (simp only [World.size_alloc]; omega) | exact look_lt (by assumption) | (simp only [World.size_alloc, World.size_setCell]; omega) | (simp; omega))]; first | assumption | go_simp
    have hc : World.cell? wq ⟨p, 0, none⟩ = some (.int .u64 (nx : Int)) := by rw [look_cell hl]; rfl
    have h5 : vs 5 = .pointer (some ⟨p, 0, none⟩) := meets_get hm 2 rfl rfl rfl rfl
    clear hm
    simp only [fill, h5]
    go_wp2
    exact ⟨_, rfl, rfl, Below.refl _ _, trivial⟩
  · intro vs wq hB hm
    clear hm
    simp only [fill]
    go_wp2
    exact ⟨_, rfl, rfl, Below.refl _ _, trivial⟩
  · intro vs wq hB hm
    have h7 : vs 7 = .pointer (some ⟨p, 0, none⟩) := meets_get hm 4 rfl rfl rfl rfl
    clear hm
    simp only [fill, h7]
    go_wp2
    exact ⟨_, rfl, rfl, Below.refl _ _, trivial⟩
  · intro vs wq hB hm
    have h8 : vs 8 = .pointer (some ⟨p, 0, none⟩) := meets_get hm 5 rfl rfl rfl rfl
    clear hm
    simp only [fill, h8]
    go_wp2
    exact ⟨_, rfl, rfl, Below.refl _ _, trivial⟩
  · intro vs wq hB hm
    have hl : look wq (p) = some (.cells (#[.int .u64 (nx : Int), .slice ad n cap, e]) 51 (0, 0)) := by rw [look_below hB (by first | omega | (simp only [World.size_alloc]; omega) | exact look_lt (by assumption) | (simp only [World.size_alloc, World.size_setCell]; omega) | (simp; omega))]; first | assumption | go_simp
    have hc : World.cell? wq ⟨p, 1, none⟩ = some (.slice ad n cap) := by rw [look_cell hl]; rfl
    have h9 : vs 9 = .pointer (some ⟨p, 1, none⟩) := meets_get hm 6 rfl rfl rfl rfl
    clear hm
    simp only [fill, h9]
    go_wp2
    exact ⟨_, rfl, rfl, Below.refl _ _, trivial⟩
  · intro vs wq hB hm
    have h10 : vs 10 = .slice ad n cap := meets_get hm 7 rfl rfl rfl rfl
    clear hm
    simp only [fill, h10]
    go_wp2
    exact ⟨_, rfl, rfl, Below.refl _ _, trivial⟩
  · intro vs wq hB hm
    have h11 : vs 11 = .int .i64 (n : Int) := meets_get hm 8 rfl rfl rfl rfl
    clear hm
    simp only [fill, h11]
    go_wp2
    exact ⟨_, rfl, rfl, Below.refl _ _, trivial⟩
  · intro vs wq hB hm
    have h6 : vs 6 = .int .u64 (nx : Int) := meets_get hm 3 rfl rfl rfl rfl
    have h12 : vs 12 = .int .u64 (n : Int) := meets_get hm 9 rfl rfl rfl rfl
    clear hm
    simp only [fill, h6, h12]
    go_wp2
    exact ⟨_, rfl, rfl, Below.refl _ _, trivial⟩
  intro vs wq hB hm hne hlo
  have h3 : vs 3 = .pointer (some ⟨p, 0, none⟩) := hm 0 _ _ _ rfl rfl rfl
  have h4 : vs 4 = .pointer (some ⟨p, 0, none⟩) := hm 1 _ _ _ rfl rfl rfl
  have h5 : vs 5 = .pointer (some ⟨p, 0, none⟩) := hm 2 _ _ _ rfl rfl rfl
  have h6 : vs 6 = .int .u64 (nx : Int) := hm 3 _ _ _ rfl rfl rfl
  have h7 : vs 7 = .pointer (some ⟨p, 0, none⟩) := hm 4 _ _ _ rfl rfl rfl
  have h8 : vs 8 = .pointer (some ⟨p, 0, none⟩) := hm 5 _ _ _ rfl rfl rfl
  have h9 : vs 9 = .pointer (some ⟨p, 1, none⟩) := hm 6 _ _ _ rfl rfl rfl
  have h10 : vs 10 = .slice ad n cap := hm 7 _ _ _ rfl rfl rfl
  have h11 : vs 11 = .int .i64 (n : Int) := hm 8 _ _ _ rfl rfl rfl
  have h12 : vs 12 = .int .u64 (n : Int) := hm 9 _ _ _ rfl rfl rfl
  have h13 : vs 13 = .int .u64 ((nx - n : Nat) : Int) := hm 10 _ _ _ rfl rfl rfl
  clear hne hlo
  simp only [fill, List.filterMap, List.take, List.drop, List.setIfInBounds_toArray, List.set_cons_zero, List.set_cons_succ, h3, h4, h5, h6, h7, h8, h9, h10, h11, h12, h13]
  clear hm h3 h4 h5 h6 h7 h8 h9 h10 h11 h12 h13
  go_wp2
  go_ret
  exact ⟨rfl, hB⟩
end Go.Proofs.Ytnpofcnibgdjhaa
