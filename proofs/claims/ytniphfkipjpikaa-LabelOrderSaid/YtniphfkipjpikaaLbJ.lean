/- LabelPast: a label's past is its Deps and one more; nothing that it depends on depends on it. No condition but that the numbers are such as their types hold. -/
import Derived.Test.YtniphfkipjpikaaLbI
namespace Go.Proofs.Ytniphfkipjpikaa
open Go.RowKit

theorem cntN_upd (f : Nat → Nat) (i : Nat) : ∀ m, cntN (upd f i (f i + 1)) m = cntN f m + (if i < m then 1 else 0)
  | 0 => by simp [cntN]
  | m + 1 => by
    rw [cntN, cntN, cntN_upd f i m]
    by_cases h : m = i
    · subst h
      rw [upd_same, if_neg (by omega), if_pos (by omega)]
      omega
    · rw [upd_other _ _ _ _ h]
      by_cases h2 : i < m
      · rw [if_pos h2, if_pos (by omega)]; omega
      · rw [if_neg h2, if_neg (by omega)]; omega
/-- The past of a label that may be: one more of its node. -/
theorem past_is {a : Lb} (hr : rightL a = true) : ∃ i, i < 12 ∧ (a.node - 1).toNat = i ∧ a.deps i + 1 = a.n ∧ withN a.deps a.node a.n = upd a.deps i (a.deps i + 1) := by
  obtain ⟨_, ⟨r7, r8, r9, r10⟩, r11, r12⟩ := (rightL_iff a).1 hr
  unfold getN at r11
  rw [if_pos ⟨r7, r8⟩] at r11
  refine ⟨(a.node - 1).toNat, by omega, rfl, by omega, ?_⟩
  unfold withN
  rw [if_pos ⟨r7, r8, r9, r10⟩]
  congr 1
  omega
theorem past_count {a : Lb} (hr : rightL a = true) : cntN (withN a.deps a.node a.n) 12 = cntN a.deps 12 + 1 := by
  obtain ⟨i, hi, _, _, h⟩ := past_is hr
  rw [h, cntN_upd, if_pos hi]
theorem upd_ge (f : Nat → Nat) (i : Nat) : ∀ k, f k ≤ upd f i (f i + 1) k := by
  intro k
  unfold upd
  split
  · rename_i h; subst h; omega
  · exact Nat.le_refl _
theorem past_order {a : Lb} (hr : rightL a = true) : ordN (withN a.deps a.node a.n) a.deps = 1 := by
  obtain ⟨i, hi, _, _, h⟩ := past_is hr
  rw [h]
  unfold ordN
  rw [veq_false _ _ i hi (by rw [upd_same]; omega), if_neg (by decide), if_pos]
  rw [covB_iff]
  intro k _
  exact upd_ge _ _ _
theorem with_le {f : Nat → Nat} (hf : ∀ k, f k ≤ 4294967295) (d : Int) (k : Nat) : ∀ j, withN f d k j ≤ 4294967295 := by
  intro j
  unfold withN
  split
  · unfold upd
    split
    · have := hf (d - 1).toNat
      omega
    · exact hf j
  · exact hf j
theorem cnt_small {a : Lb} (hr : rightL a = true) : cntN a.deps 12 ≤ 12582912 := by
  have h12 := ((rightL_iff a).1 hr).2.2.2
  have : ∀ m, m ≤ 12 → cntN a.deps m ≤ m * 1048576 := by
    intro m
    induction m with
    | zero => intro _; simp [cntN]
    | succ m ih =>
      intro hm
      have h1 := ih (by omega)
      have h2 := h12 m (by omega)
      rw [cntN]
      omega
  exact this 12 (by omega)
theorem count_is (f : Nat → Nat) (x : Int) (hf : ∀ i, f i ≤ 4294967295) (w : World) (h : (cntN f 12 : Int) = x) :
    Calls Try.prog 59 #[.agg (VA f)] w fun e w' => e = .returned (.int .u64 x) ∧ Below w.heap.size w w' := by
  subst h
  exact count_any f hf w
theorem order_is (f g : Nat → Nat) (x : Int) (w : World) (h : ordN f g = x) :
    Calls Try.prog 60 #[.agg (VA f), .agg (VA g)] w fun e w' => e = .returned (.int .i64 x) ∧ Below w.heap.size w w' := by
  subst h
  exact order_any f g w
/-- What depends on a label, and covers its past. -/
theorem before_yes {a b : Lb} (ha : rightL a = true) (hc : covB b.deps (withN a.deps a.node a.n) = true) (he : a.cart = b.cart) : beforeL a b = true := by
  obtain ⟨i, hi, h1, h2, h⟩ := past_is ha
  obtain ⟨_, ⟨r7, r8, r9, r10⟩, _, _⟩ := (rightL_iff a).1 ha
  rw [h, covB_iff] at hc
  have h3 := hc i hi
  rw [upd_same] at h3
  unfold beforeL hasB
  rw [decide_eq_true he, rightB_yes ⟨r7, r8, r9, r10⟩, Bool.true_and, Bool.true_and]
  apply decide_eq_true
  unfold getN
  rw [if_pos ⟨r7, r8⟩, h1]
  omega
theorem before_no {a b : Lb} (ha : rightL a = true) (hb : rightL b = true) (hc : covB b.deps (withN a.deps a.node a.n) = true) : beforeL b a = false := by
  obtain ⟨i, hi, h1, h2, h⟩ := past_is ha
  obtain ⟨j, hj, k1, k2, _⟩ := past_is hb
  obtain ⟨_, ⟨r7, r8, r9, r10⟩, _, _⟩ := (rightL_iff b).1 hb
  rw [h, covB_iff] at hc
  have h3 := hc j hj
  have h4 := upd_ge a.deps i j
  unfold beforeL hasB
  have : decide (b.n ≤ getN a.deps b.node) = false := by
    apply decide_eq_false
    unfold getN
    rw [if_pos ⟨r7, r8⟩, k1]
    omega
  rw [this, Bool.and_false, Bool.and_false]

set_option maxRecDepth 100000 in
set_option maxHeartbeats 6400000 in
theorem labelPast_any (a b : Lb) (w : World) (ta : Typed a) (tb : Typed b) (da : vok a.deps) :
    Calls Try.prog 12 #[.agg (LA a), .agg (LA b)] w fun e w' => e = .returned (.bool true) ∧ Below w.heap.size w w' := by
  have hb0 := belA (belA (bel0 w) (.cells (LA a) 87)) (.cells (LA b) 87)
  have la0 : look ((w.alloc (.cells (LA a) 87)).alloc (.cells (LA b) 87)) w.heap.size = some (.cells (LA a) 87 (0, 0)) := by
    rw [look_alloc_past _ _ _ (by simp)]
    exact look_alloc_at _ _ _ rfl
  have lb0 : look ((w.alloc (.cells (LA a) 87)).alloc (.cells (LA b) 87)) (w.heap.size + 1) = some (.cells (LA b) 87 (0, 0)) := look_alloc_at _ _ _ (by simp)
  cases ra : rightL a
  · go_enter Try.func12, Try.ntmps12
    go_wp2_with fail
    refine (lright_any a _ ta.n).mono ?_
    rintro _ w1 ⟨rfl, hb1⟩
    rw [ra]
    have hB1 := belT hb0 hb1
    go_wp2_with fail
    refine (alive05 _).mono ?_
    rintro _ w2 ⟨rfl, hb2⟩
    have hB2 := belT hB1 hb2
    go_wp2
    go_ret
    exact ⟨rfl, hB2⟩
  · cases rb : rightL b
    · go_enter Try.func12, Try.ntmps12
      go_wp2_with fail
      refine (lright_any a _ ta.n).mono ?_
      rintro _ w1 ⟨rfl, hb1⟩
      rw [ra]
      have hB1 := belT hb0 hb1
      have lb1 : look w1 (w.heap.size + 1) = some (.cells (LA b) 87 (0, 0)) := by rw [look_below hb1 (look_lt lb0)]; exact lb0
      go_wp2_with fail
      refine (lright_any b _ tb.n).mono ?_
      rintro _ w2 ⟨rfl, hb2⟩
      rw [rb]
      have hB2 := belT hB1 hb2
      go_wp2_with fail
      refine (alive05 _).mono ?_
      rintro _ w3 ⟨rfl, hb3⟩
      have hB3 := belT hB2 hb3
      go_wp2
      go_ret
      exact ⟨rfl, hB3⟩
    · have hcn := past_count ra
      have hon := past_order ra
      have hsm := cnt_small ra
      have hPf := with_le da.1 a.node a.n
      obtain ⟨P, hP⟩ : ∃ P, Hid (P = withN a.deps a.node a.n) := ⟨_, hidP rfl⟩
      rw [← hP.out] at hcn hon hPf
      obtain ⟨c, hc⟩ : ∃ c : Nat, cntN a.deps 12 = c := ⟨_, rfl⟩
      rw [hc] at hcn hsm
      have hc1 : (cntN P 12 : Int) = (c : Int) + 1 := by omega
      have hc2 : (cntN a.deps 12 : Int) = (c : Int) := by omega
      have hw : IntKind.u64.wrap ((c : Int) + 1) = (c : Int) + 1 := IntWalk.u64_in _ (by omega)
      have hhid := hidP (And.intro hc1 (And.intro hc2 hon))
      clear hc hcn hsm hc1 hc2 hon
      have hda := da.1
      go_enter Try.func12, Try.ntmps12
      go_wp2_with fail
      refine (lright_any a _ ta.n).mono ?_
      rintro _ w1 ⟨rfl, hb1⟩
      rw [ra]
      have hB1 := belT hb0 hb1
      have la1 : look w1 w.heap.size = some (.cells (LA a) 87 (0, 0)) := by rw [look_below hb1 (look_lt la0)]; exact la0
      have lb1 : look w1 (w.heap.size + 1) = some (.cells (LA b) 87 (0, 0)) := by rw [look_below hb1 (look_lt lb0)]; exact lb0
      go_wp2_with fail
      refine (lright_any b _ tb.n).mono ?_
      rintro _ w2 ⟨rfl, hb2⟩
      rw [rb]
      have hB2 := belT hB1 hb2
      have la2 : look w2 w.heap.size = some (.cells (LA a) 87 (0, 0)) := by rw [look_below hb2 (look_lt la1)]; exact la1
      have lb2 : look w2 (w.heap.size + 1) = some (.cells (LA b) 87 (0, 0)) := by rw [look_below hb2 (look_lt lb1)]; exact lb1
      go_wp2_with fail
      refine (lpast_any a _).mono ?_
      rintro _ w3 ⟨rfl, hb3⟩
      rw [← hP.out]
      have hb4 := belA hb3 (.cells (VA P) 65)
      have hB4 := belT hB2 hb4
      have la4 : look (w3.alloc (.cells (VA P) 65)) w.heap.size = some (.cells (LA a) 87 (0, 0)) := by rw [look_below hb4 (look_lt la2)]; exact la2
      have lb4 : look (w3.alloc (.cells (VA P) 65)) (w.heap.size + 1) = some (.cells (LA b) 87 (0, 0)) := by rw [look_below hb4 (look_lt lb2)]; exact lb2
      have lp4 : look (w3.alloc (.cells (VA P) 65)) w3.heap.size = some (.cells (VA P) 65 (0, 0)) := look_alloc_at _ _ _ rfl
      clear hb1 hb2 hb3 hb4 hB1 hB2 la0 la1 la2 lb0 lb1 lb2 hb0
      go_wp2_with fail
      refine wp_region_words mixed 14 ([] :: [18] :: [] :: [20] :: [21] :: [22] :: [19, 23] :: [24] :: [25] :: [25] :: [27, 25] :: [26, 28, 25] :: [29, 25] :: [25, 30] :: []) (isV (.agg (VA P)) :: isV (.int .u64 ((c : Int) + 1)) :: isV (.pointer (some ⟨w.heap.size, 5, none⟩)) :: isV (.agg (VA a.deps)) :: isV (.int .u64 (c : Int)) :: isV (.int .u64 ((c : Int) + 1)) :: isV (.bool false) :: isV (.bool false) :: isV (.agg (VA P)) :: isV (.pointer (some ⟨w.heap.size, 5, none⟩)) :: isV (.agg (VA a.deps)) :: isV (.int .i64 1) :: isV (.bool false) :: isV (.bool false) :: []) (by decide) (by kernel_rfl)
        ⟨stab_isV _, stab_isV _, stab_isV _, stab_isV _, stab_isV _, stab_isV _, stab_isV _, stab_isV _, stab_isV _, stab_isV _, stab_isV _, stab_isV _, stab_isV _, stab_isV _, trivial⟩ ⟨?_, ?_, ?_, ?_, ?_, ?_, ?_, ?_, ?_, ?_, ?_, ?_, ?_, ?_, trivial⟩ ?_
      · intro vs wq hB hm
        have hl : look wq (w3.heap.size) = some (.cells (VA P) 65 (0, 0)) := by rw [look_below hB (by first | omega | (simp only [World.size_alloc]; omega) | exact look_lt (by assumption) | (simp only [World.size_alloc, World.size_setCell]; omega) | (simp; omega))]; first | assumption | go_simp
        clear hm
        simp only [fill]
        go_wp2
        exact ⟨_, rfl, rfl, Below.refl _ _, trivial⟩
      · intro vs wq hB hm
        have h18 : vs 18 = .agg (VA P) := meets_get hm 0 rfl rfl rfl rfl
        clear hm
        simp only [fill, h18]
        go_wp2_with fail
        refine (count_is P ((c : Int) + 1) hPf _ hhid.out.1).mono ?_
        rintro e w1 ⟨rfl, hb1⟩
        go_wp2
        exact ⟨_, rfl, rfl, hb1, trivial⟩
      · intro vs wq hB hm
        clear hm
        simp only [fill]
        go_wp2
        exact ⟨_, rfl, rfl, Below.refl _ _, trivial⟩
      · intro vs wq hB hm
        have hl : look wq (w.heap.size) = some (.cells (LA a) 87 (0, 0)) := by rw [look_below hB (by first | omega | (simp only [World.size_alloc]; omega) | exact look_lt (by assumption) | (simp only [World.size_alloc, World.size_setCell]; omega) | (simp; omega))]; first | assumption | go_simp
        have h20 : vs 20 = .pointer (some ⟨w.heap.size, 5, none⟩) := meets_get hm 2 rfl rfl rfl rfl
        clear hm
        simp only [fill, h20]
        go_wp2
        exact ⟨_, rfl, rfl, Below.refl _ _, trivial⟩
      · intro vs wq hB hm
        have h21 : vs 21 = .agg (VA a.deps) := meets_get hm 3 rfl rfl rfl rfl
        clear hm
        simp only [fill, h21]
        go_wp2_with fail
        refine (count_is a.deps (c : Int) hda _ hhid.out.2.1).mono ?_
        rintro e w1 ⟨rfl, hb1⟩
        go_wp2
        exact ⟨_, rfl, rfl, hb1, trivial⟩
      · intro vs wq hB hm
        have h22 : vs 22 = .int .u64 (c : Int) := meets_get hm 4 rfl rfl rfl rfl
        clear hm
        simp only [fill, h22]
        go_wp2
        exact ⟨_, rfl, rfl, Below.refl _ _, trivial⟩
      · intro vs wq hB hm
        have h19 : vs 19 = .int .u64 ((c : Int) + 1) := meets_get hm 1 rfl rfl rfl rfl
        have h23 : vs 23 = .int .u64 ((c : Int) + 1) := meets_get hm 5 rfl rfl rfl rfl
        clear hm
        simp only [fill, h19, h23]
        go_wp2
        exact ⟨_, rfl, rfl, Below.refl _ _, trivial⟩
      · intro vs wq hB hm
        have h24 : vs 24 = .bool false := meets_get hm 6 rfl rfl rfl rfl
        clear hm
        simp only [fill, h24]
        go_wp2
        exact ⟨_, rfl, rfl, Below.refl _ _, trivial⟩
      · intro vs wq hB hm
        have hl : look wq (w3.heap.size) = some (.cells (VA P) 65 (0, 0)) := by rw [look_below hB (by first | omega | (simp only [World.size_alloc]; omega) | exact look_lt (by assumption) | (simp only [World.size_alloc, World.size_setCell]; omega) | (simp; omega))]; first | assumption | go_simp
        have h25 : vs 25 = .bool false := meets_get hm 7 rfl rfl rfl rfl
        clear hm
        simp only [fill, h25]
        go_wp2
        exact ⟨_, rfl, rfl, Below.refl _ _, trivial⟩
      · intro vs wq hB hm
        have h25 : vs 25 = .bool false := meets_get hm 7 rfl rfl rfl rfl
        clear hm
        simp only [fill, h25]
        go_wp2
        exact ⟨_, rfl, rfl, Below.refl _ _, trivial⟩
      · intro vs wq hB hm
        have hl : look wq (w.heap.size) = some (.cells (LA a) 87 (0, 0)) := by rw [look_below hB (by first | omega | (simp only [World.size_alloc]; omega) | exact look_lt (by assumption) | (simp only [World.size_alloc, World.size_setCell]; omega) | (simp; omega))]; first | assumption | go_simp
        have h27 : vs 27 = .pointer (some ⟨w.heap.size, 5, none⟩) := meets_get hm 9 rfl rfl rfl rfl
        have h25 : vs 25 = .bool false := meets_get hm 7 rfl rfl rfl rfl
        clear hm
        simp only [fill, h27, h25]
        go_wp2
        exact ⟨_, rfl, rfl, Below.refl _ _, trivial⟩
      · intro vs wq hB hm
        have h26 : vs 26 = .agg (VA P) := meets_get hm 8 rfl rfl rfl rfl
        have h28 : vs 28 = .agg (VA a.deps) := meets_get hm 10 rfl rfl rfl rfl
        have h25 : vs 25 = .bool false := meets_get hm 7 rfl rfl rfl rfl
        clear hm
        simp only [fill, h26, h28, h25]
        go_wp2_with fail
        refine (order_is P a.deps 1 _ hhid.out.2.2).mono ?_
        rintro e w1 ⟨rfl, hb1⟩
        go_wp2
        exact ⟨_, rfl, rfl, hb1, trivial⟩
      · intro vs wq hB hm
        have h29 : vs 29 = .int .i64 1 := meets_get hm 11 rfl rfl rfl rfl
        have h25 : vs 25 = .bool false := meets_get hm 7 rfl rfl rfl rfl
        clear hm
        simp only [fill, h29, h25]
        go_wp2
        exact ⟨_, rfl, rfl, Below.refl _ _, trivial⟩
      · intro vs wq hB hm
        have h25 : vs 25 = .bool false := meets_get hm 7 rfl rfl rfl rfl
        have h30 : vs 30 = .bool false := meets_get hm 12 rfl rfl rfl rfl
        clear hm
        simp only [fill, h25, h30]
        go_wp2
        exact ⟨_, rfl, rfl, Below.refl _ _, trivial⟩
      intro vs wq hB hm hne hlo
      have h18 : vs 18 = .agg (VA P) := hm 0 _ _ _ rfl rfl rfl
      have h19 : vs 19 = .int .u64 ((c : Int) + 1) := hm 1 _ _ _ rfl rfl rfl
      have h20 : vs 20 = .pointer (some ⟨w.heap.size, 5, none⟩) := hm 2 _ _ _ rfl rfl rfl
      have h21 : vs 21 = .agg (VA a.deps) := hm 3 _ _ _ rfl rfl rfl
      have h22 : vs 22 = .int .u64 (c : Int) := hm 4 _ _ _ rfl rfl rfl
      have h23 : vs 23 = .int .u64 ((c : Int) + 1) := hm 5 _ _ _ rfl rfl rfl
      have h24 : vs 24 = .bool false := hm 6 _ _ _ rfl rfl rfl
      have h25 : vs 25 = .bool false := hm 7 _ _ _ rfl rfl rfl
      have h26 : vs 26 = .agg (VA P) := hm 8 _ _ _ rfl rfl rfl
      have h27 : vs 27 = .pointer (some ⟨w.heap.size, 5, none⟩) := hm 9 _ _ _ rfl rfl rfl
      have h28 : vs 28 = .agg (VA a.deps) := hm 10 _ _ _ rfl rfl rfl
      have h29 : vs 29 = .int .i64 1 := hm 11 _ _ _ rfl rfl rfl
      have h30 : vs 30 = .bool false := hm 12 _ _ _ rfl rfl rfl
      have h31 : vs 31 = .bool false := hm 13 _ _ _ rfl rfl rfl
      clear hne hlo
      simp only [fill, List.filterMap, List.take, List.drop, List.setIfInBounds_toArray, List.set_cons_zero, List.set_cons_succ, h18, h19, h20, h21, h22, h23, h24, h25, h26, h27, h28, h29, h30, h31]
      clear hm h18 h19 h20 h21 h22 h23 h24 h25 h26 h27 h28 h29 h30 h31
      have hB5 := belT hB4 hB
      have la5 : look wq w.heap.size = some (.cells (LA a) 87 (0, 0)) := by rw [look_below hB (look_lt la4)]; exact la4
      have lb5 : look wq (w.heap.size + 1) = some (.cells (LA b) 87 (0, 0)) := by rw [look_below hB (look_lt lb4)]; exact lb4
      have lp5 : look wq w3.heap.size = some (.cells (VA P) 65 (0, 0)) := by rw [look_below hB (look_lt lp4)]; exact lp4
      clear la4 lb4 lp4 hB4 hB
      go_wp2_with fail
      refine (covers_any b.deps P _).mono ?_
      rintro _ w6 ⟨rfl, hb6⟩
      have hB6 := belT hB5 hb6
      have la6 : look w6 w.heap.size = some (.cells (LA a) 87 (0, 0)) := by rw [look_below hb6 (look_lt la5)]; exact la5
      have lb6 : look w6 (w.heap.size + 1) = some (.cells (LA b) 87 (0, 0)) := by rw [look_below hb6 (look_lt lb5)]; exact lb5
      clear hb6 hB5 la5 lb5 lp5
      go_wp2_with fail
      refine (alive05 _).mono ?_
      rintro _ w7 ⟨rfl, hb7⟩
      have hB7 := belT hB6 hb7
      have la7 : look w7 w.heap.size = some (.cells (LA a) 87 (0, 0)) := by rw [look_below hb7 (look_lt la6)]; exact la6
      have lb7 : look w7 (w.heap.size + 1) = some (.cells (LA b) 87 (0, 0)) := by rw [look_below hb7 (look_lt lb6)]; exact lb6
      clear hb7 hB6 la6 lb6
      have ca7 : World.cell? w7 ⟨w.heap.size, 3, none⟩ = some (.int .i64 a.cart) := by rw [look_cell la7]; exact LA_get3 _
      have cb7 : World.cell? w7 ⟨w.heap.size + 1, 3, none⟩ = some (.int .i64 b.cart) := by rw [look_cell lb7]; exact LA_get3 _
      cases hcl : covB b.deps P
      · go_wp2
        go_ret
        exact ⟨rfl, hB7⟩
      · by_cases he : a.cart = b.cart
        · have hcl2 : covB b.deps (withN a.deps a.node a.n) = true := by rw [← hP.out]; exact hcl
          have k1 := before_yes ra hcl2 he
          have k2 := before_no ra rb hcl2
          clear hcl2
          go_wp2_with fail
          refine (lbefore_any a b _).mono ?_
          rintro _ w8 ⟨rfl, hb8⟩
          rw [k1]
          have hB8 := belT hB7 hb8
          have la8 : look w8 w.heap.size = some (.cells (LA a) 87 (0, 0)) := by rw [look_below hb8 (look_lt la7)]; exact la7
          have lb8 : look w8 (w.heap.size + 1) = some (.cells (LA b) 87 (0, 0)) := by rw [look_below hb8 (look_lt lb7)]; exact lb7
          go_wp2_with fail
          refine (lbefore_any b a _).mono ?_
          rintro _ w9 ⟨rfl, hb9⟩
          rw [k2]
          have hB9 := belT hB8 hb9
          go_wp2
          go_ret
          exact ⟨rfl, hB9⟩
        · go_wp2
          go_ret
          exact ⟨rfl, hB7⟩
end Go.Proofs.Ytniphfkipjpikaa
