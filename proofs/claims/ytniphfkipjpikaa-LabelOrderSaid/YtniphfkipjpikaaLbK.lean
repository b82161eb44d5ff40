/- LabelOrder: of two labels that are not at one place just one is ahead; of three the order goes on; what depends on an event whose past it covers depends on that past. No condition but that the numbers are such as their types hold. -/
import Derived.Test.YtniphfkipjpikaaLbJ
import Derived.Deep.CutRange
import Derived.Test.YtniphfkipjpikaaRegT
namespace Go.Proofs.Ytniphfkipjpikaa
open Go.RowKit

theorem lessL_iff (a b : Lb) : lessL a b = true ↔ a.time < b.time ∨ (a.time = b.time ∧ (a.node < b.node ∨ (a.node = b.node ∧ (a.cart < b.cart ∨ (a.cart = b.cart ∧ a.n < b.n))))) := by
  unfold lessL
  by_cases h1 : a.time = b.time
  · rw [if_pos h1]
    by_cases h2 : a.node = b.node
    · rw [if_pos h2]
      by_cases h3 : a.cart = b.cart
      · rw [if_pos h3, decide_eq_true_eq]; omega
      · rw [if_neg h3, decide_eq_true_eq]; omega
    · rw [if_neg h2, decide_eq_true_eq]; omega
  · rw [if_neg h1, decide_eq_true_eq]; omega
theorem samePl_iff (a b : Lb) : samePl a b = true ↔ a.time = b.time ∧ a.node = b.node ∧ a.cart = b.cart ∧ a.n = b.n := by
  unfold samePl
  simp only [Bool.and_eq_true, decide_eq_true_eq]
theorem bool_iff {p : Prop} {b : Bool} (h : b = true ↔ p) (hn : ¬ p) : b = false := by
  cases b
  · rfl
  · exact absurd (h.1 rfl) hn
theorem less_one {a b : Lb} (h : lessL a b = true) : lessL b a = false ∧ samePl a b = false := by
  have h1 := (lessL_iff a b).1 h
  exact ⟨bool_iff (lessL_iff b a) (by omega), bool_iff (samePl_iff a b) (by omega)⟩
theorem less_none {a b : Lb} (h : lessL a b = false) (h2 : lessL b a = false) : samePl a b = true := by
  have h1 : ¬ _ := fun e => by have := (lessL_iff a b).2 e; rw [h] at this; cases this
  have h3 : ¬ _ := fun e => by have := (lessL_iff b a).2 e; rw [h2] at this; cases this
  exact (samePl_iff a b).2 (by omega)
theorem samePl_comm (a b : Lb) : samePl b a = samePl a b := by
  cases h : samePl a b
  · refine bool_iff (samePl_iff b a) fun e => ?_
    have := (samePl_iff a b).2 ⟨e.1.symm, e.2.1.symm, e.2.2.1.symm, e.2.2.2.symm⟩
    rw [h] at this
    cases this
  · have := (samePl_iff a b).1 h
    exact (samePl_iff b a).2 ⟨this.1.symm, this.2.1.symm, this.2.2.1.symm, this.2.2.2.symm⟩
theorem less_on {a b c : Lb} (h1 : lessL a b = true) (h2 : lessL b c = true) : lessL a c = true := by
  have k1 := (lessL_iff a b).1 h1
  have k2 := (lessL_iff b c).1 h2
  exact (lessL_iff a c).2 (by omega)
theorem cov_past {a : Lb} (hr : rightL a = true) : covB (withN a.deps a.node a.n) a.deps = true := by
  obtain ⟨i, hi, _, _, h⟩ := past_is hr
  rw [h, covB_iff]
  intro k _
  exact upd_ge _ _ _
theorem has_past {a : Lb} (hr : rightL a = true) : hasB (withN a.deps a.node a.n) a.node a.n = true := by
  obtain ⟨i, hi, h1, h2, h⟩ := past_is hr
  obtain ⟨_, ⟨r7, r8, r9, r10⟩, _, _⟩ := (rightL_iff a).1 hr
  unfold hasB
  rw [rightB_yes ⟨r7, r8, r9, r10⟩, Bool.true_and]
  apply decide_eq_true
  unfold getN
  rw [if_pos ⟨r7, r8⟩, h1, h, upd_same]
  omega
theorem before_self {a : Lb} (hr : rightL a = true) : beforeL a a = false := by
  obtain ⟨_, ⟨r7, r8, r9, r10⟩, r11, _⟩ := (rightL_iff a).1 hr
  unfold beforeL hasB
  have : decide (a.n ≤ getN a.deps a.node) = false := decide_eq_false (by omega)
  rw [this, Bool.and_false, Bool.and_false]
/-- Is what depends on b's event closed over its past? -/
def closedL (b c : Lb) : Bool := covB c.deps (withN b.deps b.node b.n) || !beforeL b c
theorem before_on {a b c : Lb} (hb : rightL b = true) (hcl : closedL b c = true) (h1 : beforeL a b = true) (h2 : beforeL b c = true) : beforeL a c = true := by
  unfold closedL at hcl
  rw [h2] at hcl
  have hcov : covB c.deps (withN b.deps b.node b.n) = true := by simpa using hcl
  obtain ⟨i, hi, _, _, h⟩ := past_is hb
  rw [h, covB_iff] at hcov
  unfold beforeL at h1 h2 ⊢
  rw [Bool.and_eq_true, decide_eq_true_eq] at h1 h2
  have hc : a.cart = c.cart := h1.1.trans h2.1
  rw [decide_eq_true hc, Bool.true_and]
  have h3 := h1.2
  unfold hasB at h3 ⊢
  rw [Bool.and_eq_true, decide_eq_true_eq] at h3
  rw [h3.1, Bool.true_and]
  apply decide_eq_true
  have h4 := h3.1
  unfold rightB at h4
  have h5 := of_decide_eq_true h4
  have h6 := h3.2
  unfold getN at h6 ⊢
  rw [if_pos ⟨h5.1, h5.2.1⟩] at h6 ⊢
  have h7 := hcov (a.node - 1).toNat (by omega)
  have h8 := upd_ge b.deps i (a.node - 1).toNat
  omega

theorem lpast_is (l : Lb) (P : Nat → Nat) (h : withN l.deps l.node l.n = P) (w : World) :
    Calls Try.prog 55 #[.agg (LA l)] w fun e w' => e = .returned (.agg (VA P)) ∧ Below w.heap.size w w' := by
  subst h
  exact lpast_any l w

set_option maxRecDepth 100000 in
set_option maxHeartbeats 12800000 in
theorem labelOrder_any (a b c : Lb) (w : World) (ta : Typed a) (tb : Typed b) (tc : Typed c) :
    Calls Try.prog 11 #[.agg (LA a), .agg (LA b), .agg (LA c)] w fun e w' => e = .returned (.bool true) ∧ Below w.heap.size w w' := by
  have hb0 := belA (belA (belA (bel0 w) (.cells (LA a) 87)) (.cells (LA b) 87)) (.cells (LA c) 87)
  have la0 : look (((w.alloc (.cells (LA a) 87)).alloc (.cells (LA b) 87)).alloc (.cells (LA c) 87)) w.heap.size = some (.cells (LA a) 87 (0, 0)) := by
    rw [look_alloc_past _ _ _ (by simp; omega), look_alloc_past _ _ _ (by simp)]
    exact look_alloc_at _ _ _ rfl
  have lb0 : look (((w.alloc (.cells (LA a) 87)).alloc (.cells (LA b) 87)).alloc (.cells (LA c) 87)) (w.heap.size + 1) = some (.cells (LA b) 87 (0, 0)) := by
    rw [look_alloc_past _ _ _ (by simp)]
    exact look_alloc_at _ _ _ (by simp)
  have lc0 : look (((w.alloc (.cells (LA a) 87)).alloc (.cells (LA b) 87)).alloc (.cells (LA c) 87)) (w.heap.size + 1 + 1) = some (.cells (LA c) 87 (0, 0)) := look_alloc_at _ _ _ (by simp)
  go_enter Try.func11, Try.ntmps11
  go_upto_region 1 with fail
  obtain ⟨W, hW⟩ : ∃ W, W = ((w.alloc (.cells (LA a) 87)).alloc (.cells (LA b) 87)).alloc (.cells (LA c) 87) := ⟨_, rfl⟩
  rw [← hW] at hb0 la0 lb0 lc0 ⊢
  clear hW
  go_cut [7] from 7 (fun s7 wc => s7 = .bool (samePl a b) ∧ wc = W)
  case first =>
    have ca0 : World.cell? W ⟨w.heap.size, 0, none⟩ = some (.int .u64 (a.time : Int)) := by rw [look_cell la0]; exact LA_get0 _
    have ca1 : World.cell? W ⟨w.heap.size, 1, none⟩ = some (.int .i64 a.node) := by rw [look_cell la0]; exact LA_get1 _
    have ca2 : World.cell? W ⟨w.heap.size, 2, none⟩ = some (.int .u32 (a.n : Int)) := by rw [look_cell la0]; exact LA_get2 _
    have ca3 : World.cell? W ⟨w.heap.size, 3, none⟩ = some (.int .i64 a.cart) := by rw [look_cell la0]; exact LA_get3 _
    have cb0 : World.cell? W ⟨w.heap.size + 1, 0, none⟩ = some (.int .u64 (b.time : Int)) := by rw [look_cell lb0]; exact LA_get0 _
    have cb1 : World.cell? W ⟨w.heap.size + 1, 1, none⟩ = some (.int .i64 b.node) := by rw [look_cell lb0]; exact LA_get1 _
    have cb2 : World.cell? W ⟨w.heap.size + 1, 2, none⟩ = some (.int .u32 (b.n : Int)) := by rw [look_cell lb0]; exact LA_get2 _
    have cb3 : World.cell? W ⟨w.heap.size + 1, 3, none⟩ = some (.int .i64 b.cart) := by rw [look_cell lb0]; exact LA_get3 _
    by_cases h1 : a.time = b.time
    · by_cases h2 : a.node = b.node
      · by_cases h3 : a.cart = b.cart
        · by_cases h4 : a.n = b.n
          · have hs := hidP (show samePl a b = true by unfold samePl; simp [h1, h2, h3, h4])
            go_wp2_with fail
            go_meet
            case rel => exact ⟨by rw [hs.out] <;> exact congrArg Value.bool (by first | rfl | (simp; omega)), rfl⟩
          · have hs := hidP (show samePl a b = false by unfold samePl; simp [h1, h2, h3, h4])
            go_wp2_with fail
            go_meet
            case rel => exact ⟨by rw [hs.out] <;> exact congrArg Value.bool (by first | rfl | (simp; omega)), rfl⟩
        · have hs := hidP (show samePl a b = false by unfold samePl; simp [h1, h2, h3])
          go_wp2_with fail
          go_meet
          case rel => exact ⟨by rw [hs.out] <;> exact congrArg Value.bool (by first | rfl | (simp; omega)), rfl⟩
      · have hs := hidP (show samePl a b = false by unfold samePl; simp [h1, h2])
        go_wp2_with fail
        go_meet
        case rel => exact ⟨by rw [hs.out] <;> exact congrArg Value.bool (by first | rfl | (simp; omega)), rfl⟩
    · have hs := hidP (show samePl a b = false by unfold samePl; simp [h1])
      go_wp2_with fail
      go_meet
      case rel => exact ⟨by rw [hs.out] <;> exact congrArg Value.bool (by first | rfl | (simp; omega)), rfl⟩
  case rest =>
    obtain ⟨rfl, rfl⟩ := hcut
    go_wp2_with fail
    refine wp_region_wordsT mixed 5 ([] :: [] :: [37, 38] :: [] :: [] :: []) (isV (.agg (LA a)) :: isV (.agg (LA b)) :: isV (.bool (lessL a b)) :: isV (.agg (LA b)) :: isV (.agg (LA a)) :: []) (by decide) (by kernel_rfl)
      ⟨stab_isV _, stab_isV _, stab_isV _, stab_isV _, stab_isV _, trivial⟩ (fun T hTs hTk => ⟨?_, ?_, ?_, ?_, ?_, trivial⟩) ?_
    · intro vs wq hB hm
      replace hTs : T.size = 138 := hTs
      have hl : look wq (w.heap.size) = some (.cells (LA a) 87 (0, 0)) := by rw [look_below hB (by first | omega | (simp only [World.size_alloc]; omega) | exact look_lt (by assumption) | (simp only [World.size_alloc, World.size_setCell]; omega) | (simp; omega))]; first | assumption | go_simp
      clear hm
      have q3 : (fill T vs [])[3]? = some (.pointer (some ⟨w.heap.size, 0, none⟩)) := fill_out hTs (by decide) (by decide) (hTk 3)
      generalize fill T vs [] = F at q3 ⊢
      go_wp2
      exact ⟨_, rfl, rfl, Below.refl _ _, trivial⟩
    · intro vs wq hB hm
      replace hTs : T.size = 138 := hTs
      have hl : look wq (w.heap.size + 1) = some (.cells (LA b) 87 (0, 0)) := by rw [look_below hB (by first | omega | (simp only [World.size_alloc]; omega) | exact look_lt (by assumption) | (simp only [World.size_alloc, World.size_setCell]; omega) | (simp; omega))]; first | assumption | go_simp
      clear hm
      have q4 : (fill T vs [])[4]? = some (.pointer (some ⟨w.heap.size + 1, 0, none⟩)) := fill_out hTs (by decide) (by decide) (hTk 4)
      generalize fill T vs [] = F at q4 ⊢
      go_wp2
      exact ⟨_, rfl, rfl, Below.refl _ _, trivial⟩
    · intro vs wq hB hm
      replace hTs : T.size = 138 := hTs
      have h37 : vs 37 = .agg (LA a) := meets_get hm 0 rfl rfl rfl rfl
      have h38 : vs 38 = .agg (LA b) := meets_get hm 1 rfl rfl rfl rfl
      clear hm
      have q37 : (fill T vs [37, 38])[37]? = some (.agg (LA a)) := fill_in hTs (by decide) (by decide) h37
      have q38 : (fill T vs [37, 38])[38]? = some (.agg (LA b)) := fill_in hTs (by decide) (by decide) h38
      generalize fill T vs [37, 38] = F at q37 q38 ⊢
      go_wp2_with fail
      refine (lless_any a b _).mono ?_
      rintro e w1 ⟨rfl, hb1⟩
      go_wp2
      exact ⟨_, rfl, rfl, hb1, trivial⟩
    · intro vs wq hB hm
      replace hTs : T.size = 138 := hTs
      have hl : look wq (w.heap.size + 1) = some (.cells (LA b) 87 (0, 0)) := by rw [look_below hB (by first | omega | (simp only [World.size_alloc]; omega) | exact look_lt (by assumption) | (simp only [World.size_alloc, World.size_setCell]; omega) | (simp; omega))]; first | assumption | go_simp
      clear hm
      have q4 : (fill T vs [])[4]? = some (.pointer (some ⟨w.heap.size + 1, 0, none⟩)) := fill_out hTs (by decide) (by decide) (hTk 4)
      generalize fill T vs [] = F at q4 ⊢
      go_wp2
      exact ⟨_, rfl, rfl, Below.refl _ _, trivial⟩
    · intro vs wq hB hm
      replace hTs : T.size = 138 := hTs
      have hl : look wq (w.heap.size) = some (.cells (LA a) 87 (0, 0)) := by rw [look_below hB (by first | omega | (simp only [World.size_alloc]; omega) | exact look_lt (by assumption) | (simp only [World.size_alloc, World.size_setCell]; omega) | (simp; omega))]; first | assumption | go_simp
      clear hm
      have q3 : (fill T vs [])[3]? = some (.pointer (some ⟨w.heap.size, 0, none⟩)) := fill_out hTs (by decide) (by decide) (hTk 3)
      generalize fill T vs [] = F at q3 ⊢
      go_wp2
      exact ⟨_, rfl, rfl, Below.refl _ _, trivial⟩
    intro vs wq hB hm hne hlo
    have h37 : vs 37 = .agg (LA a) := hm 0 _ _ _ rfl rfl rfl
    have h38 : vs 38 = .agg (LA b) := hm 1 _ _ _ rfl rfl rfl
    have h39 : vs 39 = .bool (lessL a b) := hm 2 _ _ _ rfl rfl rfl
    have h40 : vs 40 = .agg (LA b) := hm 3 _ _ _ rfl rfl rfl
    have h41 : vs 41 = .agg (LA a) := hm 4 _ _ _ rfl rfl rfl
    clear hne hlo
    simp only [fill, List.filterMap, List.take, List.drop, List.setIfInBounds_toArray, List.set_cons_zero, List.set_cons_succ, h37, h38, h39, h40, h41]
    clear hm h37 h38 h39 h40 h41
    go_wp2_with fail
    refine (lless_any b a _).mono ?_
    rintro _ w2 ⟨rfl, hb2⟩
    have hB := belT hB hb2
    have hB2 := belT hb0 hB
    have la2 : look w2 w.heap.size = some (.cells (LA a) 87 (0, 0)) := by rw [look_below hB (look_lt la0)]; exact la0
    have lb2 : look w2 (w.heap.size + 1) = some (.cells (LA b) 87 (0, 0)) := by rw [look_below hB (look_lt lb0)]; exact lb0
    have lc2 : look w2 (w.heap.size + 1 + 1) = some (.cells (LA c) 87 (0, 0)) := by rw [look_below hB (look_lt lc0)]; exact lc0
    clear hB hb0 la0 lb0 lc0
    go_upto_region 3 with fail
    go_cut [70] from 7 (fun s70 wc => s70 = .bool false ∧ Below w.heap.size w wc ∧ look wc w.heap.size = some (.cells (LA a) 87 (0, 0)) ∧ look wc (w.heap.size + 1) = some (.cells (LA b) 87 (0, 0)) ∧ look wc (w.heap.size + 1 + 1) = some (.cells (LA c) 87 (0, 0)))
    case first =>
      cases hx : lessL a b
      · have hs : samePl a b = !lessL b a := by
          cases hy : lessL b a
          · rw [less_none hx hy]; rfl
          · rw [← samePl_comm, (less_one hy).2]; rfl
        cases hy : lessL b a
        all_goals
          rw [hy] at hs
          go_wp2_with fail
          refine (lless_any a b _).mono ?_
          rintro _ w3 ⟨rfl, hb3⟩
          rw [hx]
          go_wp2_with fail
          go_meet
          case rel => exact ⟨rfl, belT hB2 hb3, by rw [look_below hb3 (look_lt la2)]; exact la2, by rw [look_below hb3 (look_lt lb2)]; exact lb2, by rw [look_below hb3 (look_lt lc2)]; exact lc2⟩
      · obtain ⟨hy, hs⟩ := less_one hx
        cases hz : lessL b c
        · go_wp2_with fail
          refine (lless_any a b _).mono ?_
          rintro _ w3 ⟨rfl, hb3⟩
          rw [hx]
          have la3 : look w3 w.heap.size = some (.cells (LA a) 87 (0, 0)) := by rw [look_below hb3 (look_lt la2)]; exact la2
          have lb3 : look w3 (w.heap.size + 1) = some (.cells (LA b) 87 (0, 0)) := by rw [look_below hb3 (look_lt lb2)]; exact lb2
          have lc3 : look w3 (w.heap.size + 1 + 1) = some (.cells (LA c) 87 (0, 0)) := by rw [look_below hb3 (look_lt lc2)]; exact lc2
          have hB3 := belT hB2 hb3
          go_wp2_with fail
          refine (lless_any b c _).mono ?_
          rintro _ w4 ⟨rfl, hb4⟩
          rw [hz]
          go_wp2_with fail
          go_meet
          case rel => exact ⟨rfl, belT hB3 hb4, by rw [look_below hb4 (look_lt la3)]; exact la3, by rw [look_below hb4 (look_lt lb3)]; exact lb3, by rw [look_below hb4 (look_lt lc3)]; exact lc3⟩
        · have hxz := less_on hx hz
          go_wp2_with fail
          refine (lless_any a b _).mono ?_
          rintro _ w3 ⟨rfl, hb3⟩
          rw [hx]
          have la3 : look w3 w.heap.size = some (.cells (LA a) 87 (0, 0)) := by rw [look_below hb3 (look_lt la2)]; exact la2
          have lb3 : look w3 (w.heap.size + 1) = some (.cells (LA b) 87 (0, 0)) := by rw [look_below hb3 (look_lt lb2)]; exact lb2
          have lc3 : look w3 (w.heap.size + 1 + 1) = some (.cells (LA c) 87 (0, 0)) := by rw [look_below hb3 (look_lt lc2)]; exact lc2
          have hB3 := belT hB2 hb3
          go_wp2_with fail
          refine (lless_any b c _).mono ?_
          rintro _ w4 ⟨rfl, hb4⟩
          rw [hz]
          have la4 : look w4 w.heap.size = some (.cells (LA a) 87 (0, 0)) := by rw [look_below hb4 (look_lt la3)]; exact la3
          have lb4 : look w4 (w.heap.size + 1) = some (.cells (LA b) 87 (0, 0)) := by rw [look_below hb4 (look_lt lb3)]; exact lb3
          have lc4 : look w4 (w.heap.size + 1 + 1) = some (.cells (LA c) 87 (0, 0)) := by rw [look_below hb4 (look_lt lc3)]; exact lc3
          have hB4 := belT hB3 hb4
          go_wp2_with fail
          refine (lless_any a c _).mono ?_
          rintro _ w5 ⟨rfl, hb5⟩
          rw [hxz]
          go_wp2_with fail
          go_meet
          case rel => exact ⟨rfl, belT hB4 hb5, by rw [look_below hb5 (look_lt la4)]; exact la4, by rw [look_below hb5 (look_lt lb4)]; exact lb4, by rw [look_below hb5 (look_lt lc4)]; exact lc4⟩
    case rest =>
      clear hB2 la2 lb2 lc2
      obtain ⟨rfl, hB5, la5, lb5, lc5⟩ := hcut
      go_upto_region 5 with fail
      cases ra : rightL a
      · skip
        go_wp2_with fail
        refine (lright_any a _ ta.n).mono ?_
        rintro _ w6 ⟨rfl, hb6⟩
        rw [ra]
        have hB6 := belT hB5 hb6
        go_wp2_with fail
        refine (alive05 _).mono ?_
        rintro _ w7 ⟨rfl, hb7⟩
        have hB7 := belT hB6 hb7
        go_wp2
        go_ret
        exact ⟨rfl, hB7⟩
      · cases rb : rightL b
        · skip
          go_wp2_with fail
          refine (lright_any a _ ta.n).mono ?_
          rintro _ w6 ⟨rfl, hb6⟩
          rw [ra]
          have hB6 := belT hB5 hb6
          have lb6 : look w6 (w.heap.size + 1) = some (.cells (LA b) 87 (0, 0)) := by rw [look_below hb6 (look_lt lb5)]; exact lb5
          have lc6 : look w6 (w.heap.size + 1 + 1) = some (.cells (LA c) 87 (0, 0)) := by rw [look_below hb6 (look_lt lc5)]; exact lc5
          go_wp2_with fail
          refine (lright_any b _ tb.n).mono ?_
          rintro _ w7 ⟨rfl, hb7⟩
          rw [rb]
          have hB7 := belT hB6 hb7
          go_wp2_with fail
          refine (alive05 _).mono ?_
          rintro _ w8 ⟨rfl, hb8⟩
          have hB8 := belT hB7 hb8
          go_wp2
          go_ret
          exact ⟨rfl, hB8⟩
        · cases rc : rightL c
          · skip
            go_wp2_with fail
            refine (lright_any a _ ta.n).mono ?_
            rintro _ w6 ⟨rfl, hb6⟩
            rw [ra]
            have hB6 := belT hB5 hb6
            have lb6 : look w6 (w.heap.size + 1) = some (.cells (LA b) 87 (0, 0)) := by rw [look_below hb6 (look_lt lb5)]; exact lb5
            have lc6 : look w6 (w.heap.size + 1 + 1) = some (.cells (LA c) 87 (0, 0)) := by rw [look_below hb6 (look_lt lc5)]; exact lc5
            go_wp2_with fail
            refine (lright_any b _ tb.n).mono ?_
            rintro _ w7 ⟨rfl, hb7⟩
            rw [rb]
            have hB7 := belT hB6 hb7
            have lc7 : look w7 (w.heap.size + 1 + 1) = some (.cells (LA c) 87 (0, 0)) := by rw [look_below hb7 (look_lt lc6)]; exact lc6
            go_wp2_with fail
            refine (lright_any c _ tc.n).mono ?_
            rintro _ w8 ⟨rfl, hb8⟩
            rw [rc]
            have hB8 := belT hB7 hb8
            go_wp2_with fail
            refine (alive05 _).mono ?_
            rintro _ w9 ⟨rfl, hb9⟩
            have hB9 := belT hB8 hb9
            go_wp2
            go_ret
            exact ⟨rfl, hB9⟩
          · skip
            go_wp2_with fail
            refine (lright_any a _ ta.n).mono ?_
            rintro _ w6 ⟨rfl, hb6⟩
            rw [ra]
            have hB6 := belT hB5 hb6
            have la6 : look w6 (w.heap.size) = some (.cells (LA a) 87 (0, 0)) := by rw [look_below hb6 (look_lt la5)]; exact la5
            have lb6 : look w6 (w.heap.size + 1) = some (.cells (LA b) 87 (0, 0)) := by rw [look_below hb6 (look_lt lb5)]; exact lb5
            have lc6 : look w6 (w.heap.size + 1 + 1) = some (.cells (LA c) 87 (0, 0)) := by rw [look_below hb6 (look_lt lc5)]; exact lc5
            go_wp2_with fail
            refine (lright_any b _ tb.n).mono ?_
            rintro _ w7 ⟨rfl, hb7⟩
            rw [rb]
            have hB7 := belT hB6 hb7
            have la7 : look w7 (w.heap.size) = some (.cells (LA a) 87 (0, 0)) := by rw [look_below hb7 (look_lt la6)]; exact la6
            have lb7 : look w7 (w.heap.size + 1) = some (.cells (LA b) 87 (0, 0)) := by rw [look_below hb7 (look_lt lb6)]; exact lb6
            have lc7 : look w7 (w.heap.size + 1 + 1) = some (.cells (LA c) 87 (0, 0)) := by rw [look_below hb7 (look_lt lc6)]; exact lc6
            go_wp2_with fail
            refine (lright_any c _ tc.n).mono ?_
            rintro _ w8 ⟨rfl, hb8⟩
            rw [rc]
            have hB8 := belT hB7 hb8
            have la8 : look w8 (w.heap.size) = some (.cells (LA a) 87 (0, 0)) := by rw [look_below hb8 (look_lt la7)]; exact la7
            have lb8 : look w8 (w.heap.size + 1) = some (.cells (LA b) 87 (0, 0)) := by rw [look_below hb8 (look_lt lb7)]; exact lb7
            have lc8 : look w8 (w.heap.size + 1 + 1) = some (.cells (LA c) 87 (0, 0)) := by rw [look_below hb8 (look_lt lc7)]; exact lc7
            clear hb6 hb7 hb8 hB5 hB6 hB7 la5 lb5 lc5 la6 lb6 lc6 la7 lb7 lc7
            go_upto_region 7 with fail
            go_cut [10] from 71 (fun s10 wc => s10 = .bool (closedL b c) ∧ Below w.heap.size w wc ∧ look wc w.heap.size = some (.cells (LA a) 87 (0, 0)) ∧ look wc (w.heap.size + 1) = some (.cells (LA b) 87 (0, 0)) ∧ look wc (w.heap.size + 1 + 1) = some (.cells (LA c) 87 (0, 0)))
            case first =>
              obtain ⟨PB, hPB⟩ : ∃ P, withN b.deps b.node b.n = P := ⟨_, rfl⟩
              have hPh := hidP hPB
              clear hPB
              cases hcv : covB c.deps PB
              · skip
                refine wp_region_wordsT mixed 11 ([] :: [85] :: [] :: [87] :: [86, 88] :: [89] :: [90] :: [90] :: [91, 92, 90] :: [93, 90] :: [90, 94] :: []) (isV (.pointer (some ⟨w.heap.size + 1 + 1, 5, none⟩)) :: isV (.agg (VA c.deps)) :: isV (.agg (LA b)) :: isV (.agg (VA PB)) :: isV (.bool false) :: isV (.bool false) :: isV (.agg (LA b)) :: isV (.agg (LA c)) :: isV (.bool (beforeL b c)) :: isV (.bool (!beforeL b c)) :: isV (.bool (!beforeL b c)) :: []) (by decide) (by kernel_rfl)
                  ⟨stab_isV _, stab_isV _, stab_isV _, stab_isV _, stab_isV _, stab_isV _, stab_isV _, stab_isV _, stab_isV _, stab_isV _, stab_isV _, trivial⟩ (fun T hTs hTk => ⟨?_, ?_, ?_, ?_, ?_, ?_, ?_, ?_, ?_, ?_, ?_, trivial⟩) ?_
                · intro vs wq hB hm
                  replace hTs : T.size = 138 := hTs
                  clear hm
                  have q5 : (fill T vs [])[5]? = some (.pointer (some ⟨w.heap.size + 1 + 1, 0, none⟩)) := fill_out hTs (by decide) (by decide) (hTk 5)
                  generalize fill T vs [] = F at q5 ⊢
                  go_wp2
                  exact ⟨_, rfl, rfl, Below.refl _ _, trivial⟩
                · intro vs wq hB hm
                  replace hTs : T.size = 138 := hTs
                  have hl : look wq (w.heap.size + 1 + 1) = some (.cells (LA c) 87 (0, 0)) := by rw [look_below hB (by first | omega | (simp only [World.size_alloc]; omega) | exact look_lt (by assumption) | (simp only [World.size_alloc, World.size_setCell]; omega) | (simp; omega))]; first | assumption | go_simp
                  have h85 : vs 85 = .pointer (some ⟨w.heap.size + 1 + 1, 5, none⟩) := meets_get hm 0 rfl rfl rfl rfl
                  clear hm
                  have q85 : (fill T vs [85])[85]? = some (.pointer (some ⟨w.heap.size + 1 + 1, 5, none⟩)) := fill_in hTs (by decide) (by decide) h85
                  generalize fill T vs [85] = F at q85 ⊢
                  go_wp2
                  exact ⟨_, rfl, rfl, Below.refl _ _, trivial⟩
                · intro vs wq hB hm
                  replace hTs : T.size = 138 := hTs
                  have hl : look wq (w.heap.size + 1) = some (.cells (LA b) 87 (0, 0)) := by rw [look_below hB (by first | omega | (simp only [World.size_alloc]; omega) | exact look_lt (by assumption) | (simp only [World.size_alloc, World.size_setCell]; omega) | (simp; omega))]; first | assumption | go_simp
                  clear hm
                  have q4 : (fill T vs [])[4]? = some (.pointer (some ⟨w.heap.size + 1, 0, none⟩)) := fill_out hTs (by decide) (by decide) (hTk 4)
                  generalize fill T vs [] = F at q4 ⊢
                  go_wp2
                  exact ⟨_, rfl, rfl, Below.refl _ _, trivial⟩
                · intro vs wq hB hm
                  replace hTs : T.size = 138 := hTs
                  have h87 : vs 87 = .agg (LA b) := meets_get hm 2 rfl rfl rfl rfl
                  clear hm
                  have q87 : (fill T vs [87])[87]? = some (.agg (LA b)) := fill_in hTs (by decide) (by decide) h87
                  generalize fill T vs [87] = F at q87 ⊢
                  go_wp2_with fail
                  refine (lpast_is b PB hPh.out _).mono ?_
                  rintro e w1 ⟨rfl, hb1⟩
                  go_wp2
                  exact ⟨_, rfl, rfl, hb1, trivial⟩
                · intro vs wq hB hm
                  replace hTs : T.size = 138 := hTs
                  have h86 : vs 86 = .agg (VA c.deps) := meets_get hm 1 rfl rfl rfl rfl
                  have h88 : vs 88 = .agg (VA PB) := meets_get hm 3 rfl rfl rfl rfl
                  clear hm
                  have q86 : (fill T vs [86, 88])[86]? = some (.agg (VA c.deps)) := fill_in hTs (by decide) (by decide) h86
                  have q88 : (fill T vs [86, 88])[88]? = some (.agg (VA PB)) := fill_in hTs (by decide) (by decide) h88
                  generalize fill T vs [86, 88] = F at q86 q88 ⊢
                  go_wp2_with fail
                  refine (covers_any c.deps PB _).mono ?_
                  rintro e w1 ⟨rfl, hb1⟩
                  go_wp2
                  exact ⟨_, rfl, rfl, hb1, trivial⟩
                · intro vs wq hB hm
                  replace hTs : T.size = 138 := hTs
                  have h89 : vs 89 = .bool false := meets_get hm 4 rfl rfl rfl rfl
                  clear hm
                  have q89 : (fill T vs [89])[89]? = some (.bool false) := fill_in hTs (by decide) (by decide) h89
                  generalize fill T vs [89] = F at q89 ⊢
                  go_wp2
                  exact ⟨_, rfl, rfl, Below.refl _ _, trivial⟩
                · intro vs wq hB hm
                  replace hTs : T.size = 138 := hTs
                  have hl : look wq (w.heap.size + 1) = some (.cells (LA b) 87 (0, 0)) := by rw [look_below hB (by first | omega | (simp only [World.size_alloc]; omega) | exact look_lt (by assumption) | (simp only [World.size_alloc, World.size_setCell]; omega) | (simp; omega))]; first | assumption | go_simp
                  have h90 : vs 90 = .bool false := meets_get hm 5 rfl rfl rfl rfl
                  clear hm
                  have q4 : (fill T vs [90])[4]? = some (.pointer (some ⟨w.heap.size + 1, 0, none⟩)) := fill_out hTs (by decide) (by decide) (hTk 4)
                  have q90 : (fill T vs [90])[90]? = some (.bool false) := fill_in hTs (by decide) (by decide) h90
                  generalize fill T vs [90] = F at q4 q90 ⊢
                  go_wp2
                  exact ⟨_, rfl, rfl, Below.refl _ _, trivial⟩
                · intro vs wq hB hm
                  replace hTs : T.size = 138 := hTs
                  have hl : look wq (w.heap.size + 1 + 1) = some (.cells (LA c) 87 (0, 0)) := by rw [look_below hB (by first | omega | (simp only [World.size_alloc]; omega) | exact look_lt (by assumption) | (simp only [World.size_alloc, World.size_setCell]; omega) | (simp; omega))]; first | assumption | go_simp
                  have h90 : vs 90 = .bool false := meets_get hm 5 rfl rfl rfl rfl
                  clear hm
                  have q5 : (fill T vs [90])[5]? = some (.pointer (some ⟨w.heap.size + 1 + 1, 0, none⟩)) := fill_out hTs (by decide) (by decide) (hTk 5)
                  have q90 : (fill T vs [90])[90]? = some (.bool false) := fill_in hTs (by decide) (by decide) h90
                  generalize fill T vs [90] = F at q5 q90 ⊢
                  go_wp2
                  exact ⟨_, rfl, rfl, Below.refl _ _, trivial⟩
                · intro vs wq hB hm
                  replace hTs : T.size = 138 := hTs
                  have h91 : vs 91 = .agg (LA b) := meets_get hm 6 rfl rfl rfl rfl
                  have h92 : vs 92 = .agg (LA c) := meets_get hm 7 rfl rfl rfl rfl
                  have h90 : vs 90 = .bool false := meets_get hm 5 rfl rfl rfl rfl
                  clear hm
                  have q91 : (fill T vs [91, 92, 90])[91]? = some (.agg (LA b)) := fill_in hTs (by decide) (by decide) h91
                  have q92 : (fill T vs [91, 92, 90])[92]? = some (.agg (LA c)) := fill_in hTs (by decide) (by decide) h92
                  have q90 : (fill T vs [91, 92, 90])[90]? = some (.bool false) := fill_in hTs (by decide) (by decide) h90
                  generalize fill T vs [91, 92, 90] = F at q91 q92 q90 ⊢
                  go_wp2_with fail
                  refine (lbefore_any b c _).mono ?_
                  rintro e w1 ⟨rfl, hb1⟩
                  go_wp2
                  exact ⟨_, rfl, rfl, hb1, trivial⟩
                · intro vs wq hB hm
                  replace hTs : T.size = 138 := hTs
                  have h93 : vs 93 = .bool (beforeL b c) := meets_get hm 8 rfl rfl rfl rfl
                  have h90 : vs 90 = .bool false := meets_get hm 5 rfl rfl rfl rfl
                  clear hm
                  have q93 : (fill T vs [93, 90])[93]? = some (.bool (beforeL b c)) := fill_in hTs (by decide) (by decide) h93
                  have q90 : (fill T vs [93, 90])[90]? = some (.bool false) := fill_in hTs (by decide) (by decide) h90
                  generalize fill T vs [93, 90] = F at q93 q90 ⊢
                  go_wp2
                  exact ⟨_, rfl, rfl, Below.refl _ _, trivial⟩
                · intro vs wq hB hm
                  replace hTs : T.size = 138 := hTs
                  have h90 : vs 90 = .bool false := meets_get hm 5 rfl rfl rfl rfl
                  have h94 : vs 94 = .bool (!beforeL b c) := meets_get hm 9 rfl rfl rfl rfl
                  clear hm
                  have q90 : (fill T vs [90, 94])[90]? = some (.bool false) := fill_in hTs (by decide) (by decide) h90
                  have q94 : (fill T vs [90, 94])[94]? = some (.bool (!beforeL b c)) := fill_in hTs (by decide) (by decide) h94
                  generalize fill T vs [90, 94] = F at q90 q94 ⊢
                  go_wp2
                  exact ⟨_, rfl, rfl, Below.refl _ _, trivial⟩
                intro vs wq hB hm hne hlo
                have h85 : vs 85 = .pointer (some ⟨w.heap.size + 1 + 1, 5, none⟩) := hm 0 _ _ _ rfl rfl rfl
                have h86 : vs 86 = .agg (VA c.deps) := hm 1 _ _ _ rfl rfl rfl
                have h87 : vs 87 = .agg (LA b) := hm 2 _ _ _ rfl rfl rfl
                have h88 : vs 88 = .agg (VA PB) := hm 3 _ _ _ rfl rfl rfl
                have h89 : vs 89 = .bool false := hm 4 _ _ _ rfl rfl rfl
                have h90 : vs 90 = .bool false := hm 5 _ _ _ rfl rfl rfl
                have h91 : vs 91 = .agg (LA b) := hm 6 _ _ _ rfl rfl rfl
                have h92 : vs 92 = .agg (LA c) := hm 7 _ _ _ rfl rfl rfl
                have h93 : vs 93 = .bool (beforeL b c) := hm 8 _ _ _ rfl rfl rfl
                have h94 : vs 94 = .bool (!beforeL b c) := hm 9 _ _ _ rfl rfl rfl
                have h95 : vs 95 = .bool (!beforeL b c) := hm 10 _ _ _ rfl rfl rfl
                clear hne hlo
                simp only [fill, List.filterMap, List.take, List.drop, List.setIfInBounds_toArray, List.set_cons_zero, List.set_cons_succ, h85, h86, h87, h88, h89, h90, h91, h92, h93, h94, h95]
                clear hm h85 h86 h87 h88 h89 h90 h91 h92 h93 h94 h95
                have hcl : Hid (closedL b c = (!beforeL b c)) := hidP (by unfold closedL; rw [hPh.out, hcv]; simp)
                have hB9 := belT hB8 hB
                have la9 : look wq (w.heap.size) = some (.cells (LA a) 87 (0, 0)) := by rw [look_below hB (look_lt la8)]; exact la8
                have lb9 : look wq (w.heap.size + 1) = some (.cells (LA b) 87 (0, 0)) := by rw [look_below hB (look_lt lb8)]; exact lb8
                have lc9 : look wq (w.heap.size + 1 + 1) = some (.cells (LA c) 87 (0, 0)) := by rw [look_below hB (look_lt lc8)]; exact lc8
                go_wp2_with fail
                go_meet
                case rel => exact ⟨by rw [hcl.out], hB9, la9, lb9, lc9⟩
              · skip
                refine wp_region_wordsT mixed 11 ([] :: [85] :: [] :: [87] :: [86, 88] :: [89] :: [90] :: [90] :: [91, 92, 90] :: [93, 90] :: [90, 94] :: []) (isV (.pointer (some ⟨w.heap.size + 1 + 1, 5, none⟩)) :: isV (.agg (VA c.deps)) :: isV (.agg (LA b)) :: isV (.agg (VA PB)) :: isV (.bool true) :: isV (.bool true) :: isV (undef) :: isV (undef) :: isV (undef) :: isV (undef) :: isV (.bool true) :: []) (by decide) (by kernel_rfl)
                  ⟨stab_isV _, stab_isV _, stab_isV _, stab_isV _, stab_isV _, stab_isV _, stab_isV _, stab_isV _, stab_isV _, stab_isV _, stab_isV _, trivial⟩ (fun T hTs hTk => ⟨?_, ?_, ?_, ?_, ?_, ?_, ?_, ?_, ?_, ?_, ?_, trivial⟩) ?_
                · intro vs wq hB hm
                  replace hTs : T.size = 138 := hTs
                  clear hm
                  have q5 : (fill T vs [])[5]? = some (.pointer (some ⟨w.heap.size + 1 + 1, 0, none⟩)) := fill_out hTs (by decide) (by decide) (hTk 5)
                  generalize fill T vs [] = F at q5 ⊢
                  go_wp2
                  exact ⟨_, rfl, rfl, Below.refl _ _, trivial⟩
                · intro vs wq hB hm
                  replace hTs : T.size = 138 := hTs
                  have hl : look wq (w.heap.size + 1 + 1) = some (.cells (LA c) 87 (0, 0)) := by rw [look_below hB (by first | omega | (simp only [World.size_alloc]; omega) | exact look_lt (by assumption) | (simp only [World.size_alloc, World.size_setCell]; omega) | (simp; omega))]; first | assumption | go_simp
                  have h85 : vs 85 = .pointer (some ⟨w.heap.size + 1 + 1, 5, none⟩) := meets_get hm 0 rfl rfl rfl rfl
                  clear hm
                  have q85 : (fill T vs [85])[85]? = some (.pointer (some ⟨w.heap.size + 1 + 1, 5, none⟩)) := fill_in hTs (by decide) (by decide) h85
                  generalize fill T vs [85] = F at q85 ⊢
                  go_wp2
                  exact ⟨_, rfl, rfl, Below.refl _ _, trivial⟩
                · intro vs wq hB hm
                  replace hTs : T.size = 138 := hTs
                  have hl : look wq (w.heap.size + 1) = some (.cells (LA b) 87 (0, 0)) := by rw [look_below hB (by first | omega | (simp only [World.size_alloc]; omega) | exact look_lt (by assumption) | (simp only [World.size_alloc, World.size_setCell]; omega) | (simp; omega))]; first | assumption | go_simp
                  clear hm
                  have q4 : (fill T vs [])[4]? = some (.pointer (some ⟨w.heap.size + 1, 0, none⟩)) := fill_out hTs (by decide) (by decide) (hTk 4)
                  generalize fill T vs [] = F at q4 ⊢
                  go_wp2
                  exact ⟨_, rfl, rfl, Below.refl _ _, trivial⟩
                · intro vs wq hB hm
                  replace hTs : T.size = 138 := hTs
                  have h87 : vs 87 = .agg (LA b) := meets_get hm 2 rfl rfl rfl rfl
                  clear hm
                  have q87 : (fill T vs [87])[87]? = some (.agg (LA b)) := fill_in hTs (by decide) (by decide) h87
                  generalize fill T vs [87] = F at q87 ⊢
                  go_wp2_with fail
                  refine (lpast_is b PB hPh.out _).mono ?_
                  rintro e w1 ⟨rfl, hb1⟩
                  go_wp2
                  exact ⟨_, rfl, rfl, hb1, trivial⟩
                · intro vs wq hB hm
                  replace hTs : T.size = 138 := hTs
                  have h86 : vs 86 = .agg (VA c.deps) := meets_get hm 1 rfl rfl rfl rfl
                  have h88 : vs 88 = .agg (VA PB) := meets_get hm 3 rfl rfl rfl rfl
                  clear hm
                  have q86 : (fill T vs [86, 88])[86]? = some (.agg (VA c.deps)) := fill_in hTs (by decide) (by decide) h86
                  have q88 : (fill T vs [86, 88])[88]? = some (.agg (VA PB)) := fill_in hTs (by decide) (by decide) h88
                  generalize fill T vs [86, 88] = F at q86 q88 ⊢
                  go_wp2_with fail
                  refine (covers_any c.deps PB _).mono ?_
                  rintro e w1 ⟨rfl, hb1⟩
                  go_wp2
                  exact ⟨_, rfl, rfl, hb1, trivial⟩
                · intro vs wq hB hm
                  replace hTs : T.size = 138 := hTs
                  have h89 : vs 89 = .bool true := meets_get hm 4 rfl rfl rfl rfl
                  clear hm
                  have q89 : (fill T vs [89])[89]? = some (.bool true) := fill_in hTs (by decide) (by decide) h89
                  generalize fill T vs [89] = F at q89 ⊢
                  go_wp2
                  exact ⟨_, rfl, rfl, Below.refl _ _, trivial⟩
                · intro vs wq hB hm
                  replace hTs : T.size = 138 := hTs
                  have h90 : vs 90 = .bool true := meets_get hm 5 rfl rfl rfl rfl
                  clear hm
                  have q4 : (fill T vs [90])[4]? = some (.pointer (some ⟨w.heap.size + 1, 0, none⟩)) := fill_out hTs (by decide) (by decide) (hTk 4)
                  have q90 : (fill T vs [90])[90]? = some (.bool true) := fill_in hTs (by decide) (by decide) h90
                  generalize fill T vs [90] = F at q4 q90 ⊢
                  refine wpList_skip (skip_at q90 rfl rfl rfl (by rfl)) ?_
                  exact ⟨_, rfl, rfl, Below.refl _ _, trivial⟩
                · intro vs wq hB hm
                  replace hTs : T.size = 138 := hTs
                  have h90 : vs 90 = .bool true := meets_get hm 5 rfl rfl rfl rfl
                  clear hm
                  have q5 : (fill T vs [90])[5]? = some (.pointer (some ⟨w.heap.size + 1 + 1, 0, none⟩)) := fill_out hTs (by decide) (by decide) (hTk 5)
                  have q90 : (fill T vs [90])[90]? = some (.bool true) := fill_in hTs (by decide) (by decide) h90
                  generalize fill T vs [90] = F at q5 q90 ⊢
                  refine wpList_skip (skip_at q90 rfl rfl rfl (by rfl)) ?_
                  exact ⟨_, rfl, rfl, Below.refl _ _, trivial⟩
                · intro vs wq hB hm
                  replace hTs : T.size = 138 := hTs
                  have h91 : vs 91 = undef := meets_get hm 6 rfl rfl rfl rfl
                  have h92 : vs 92 = undef := meets_get hm 7 rfl rfl rfl rfl
                  have h90 : vs 90 = .bool true := meets_get hm 5 rfl rfl rfl rfl
                  clear hm
                  have q91 : (fill T vs [91, 92, 90])[91]? = some (undef) := fill_in hTs (by decide) (by decide) h91
                  have q92 : (fill T vs [91, 92, 90])[92]? = some (undef) := fill_in hTs (by decide) (by decide) h92
                  have q90 : (fill T vs [91, 92, 90])[90]? = some (.bool true) := fill_in hTs (by decide) (by decide) h90
                  generalize fill T vs [91, 92, 90] = F at q91 q92 q90 ⊢
                  refine wpList_skip (skip_at q90 rfl rfl rfl (by rfl)) ?_
                  exact ⟨_, rfl, rfl, Below.refl _ _, trivial⟩
                · intro vs wq hB hm
                  replace hTs : T.size = 138 := hTs
                  have h93 : vs 93 = undef := meets_get hm 8 rfl rfl rfl rfl
                  have h90 : vs 90 = .bool true := meets_get hm 5 rfl rfl rfl rfl
                  clear hm
                  have q93 : (fill T vs [93, 90])[93]? = some (undef) := fill_in hTs (by decide) (by decide) h93
                  have q90 : (fill T vs [93, 90])[90]? = some (.bool true) := fill_in hTs (by decide) (by decide) h90
                  generalize fill T vs [93, 90] = F at q93 q90 ⊢
                  refine wpList_skip (skip_at q90 rfl rfl rfl (by rfl)) ?_
                  exact ⟨_, rfl, rfl, Below.refl _ _, trivial⟩
                · intro vs wq hB hm
                  replace hTs : T.size = 138 := hTs
                  have h90 : vs 90 = .bool true := meets_get hm 5 rfl rfl rfl rfl
                  have h94 : vs 94 = undef := meets_get hm 9 rfl rfl rfl rfl
                  clear hm
                  have q90 : (fill T vs [90, 94])[90]? = some (.bool true) := fill_in hTs (by decide) (by decide) h90
                  have q94 : (fill T vs [90, 94])[94]? = some (undef) := fill_in hTs (by decide) (by decide) h94
                  generalize fill T vs [90, 94] = F at q90 q94 ⊢
                  go_wp2
                  exact ⟨_, rfl, rfl, Below.refl _ _, trivial⟩
                intro vs wq hB hm hne hlo
                have h85 : vs 85 = .pointer (some ⟨w.heap.size + 1 + 1, 5, none⟩) := hm 0 _ _ _ rfl rfl rfl
                have h86 : vs 86 = .agg (VA c.deps) := hm 1 _ _ _ rfl rfl rfl
                have h87 : vs 87 = .agg (LA b) := hm 2 _ _ _ rfl rfl rfl
                have h88 : vs 88 = .agg (VA PB) := hm 3 _ _ _ rfl rfl rfl
                have h89 : vs 89 = .bool true := hm 4 _ _ _ rfl rfl rfl
                have h90 : vs 90 = .bool true := hm 5 _ _ _ rfl rfl rfl
                have h91 : vs 91 = undef := hm 6 _ _ _ rfl rfl rfl
                have h92 : vs 92 = undef := hm 7 _ _ _ rfl rfl rfl
                have h93 : vs 93 = undef := hm 8 _ _ _ rfl rfl rfl
                have h94 : vs 94 = undef := hm 9 _ _ _ rfl rfl rfl
                have h95 : vs 95 = .bool true := hm 10 _ _ _ rfl rfl rfl
                clear hne hlo
                simp only [fill, List.filterMap, List.take, List.drop, List.setIfInBounds_toArray, List.set_cons_zero, List.set_cons_succ, h85, h86, h87, h88, h89, h90, h91, h92, h93, h94, h95]
                clear hm h85 h86 h87 h88 h89 h90 h91 h92 h93 h94 h95
                have hcl : Hid (closedL b c = true) := hidP (by unfold closedL; rw [hPh.out, hcv]; simp)
                have hB9 := belT hB8 hB
                have la9 : look wq (w.heap.size) = some (.cells (LA a) 87 (0, 0)) := by rw [look_below hB (look_lt la8)]; exact la8
                have lb9 : look wq (w.heap.size + 1) = some (.cells (LA b) 87 (0, 0)) := by rw [look_below hB (look_lt lb8)]; exact lb8
                have lc9 : look wq (w.heap.size + 1 + 1) = some (.cells (LA c) 87 (0, 0)) := by rw [look_below hB (look_lt lc8)]; exact lc8
                go_wp2_with fail
                go_meet
                case rel => exact ⟨by rw [hcl.out], hB9, la9, lb9, lc9⟩
            case rest =>
              clear hB8 la8 lb8 lc8
              obtain ⟨rfl, hB9, la9, lb9, lc9⟩ := hcut
              have f1 := cov_past ra
              have f2 := has_past ra
              have f3 := before_self ra
              have hon := hidP (fun h1 h2 h3 => before_on (a := a) (b := b) (c := c) rb h1 h2 h3)
              obtain ⟨P, hP⟩ : ∃ P, withN a.deps a.node a.n = P := ⟨_, rfl⟩
              rw [hP] at f1 f2
              have hPh := hidP hP
              clear hP
              go_upto_region 8 with fail
              cases hcl : closedL b c
              · skip
                refine wp_region_wordsT mixed 42 ([] :: [96] :: [97] :: [98, 97] :: [99, 97] :: [100] :: [100] :: [101, 102, 100] :: [103, 100] :: [100, 104, 97] :: [105, 97] :: [106] :: [106] :: [107, 108, 106] :: [109, 106] :: [106, 110, 97] :: [111, 97] :: [112] :: [112] :: [113, 114, 112] :: [112, 115, 97] :: [97, 116] :: [117] :: [118] :: [119, 118] :: [118] :: [121, 118] :: [120, 122, 118] :: [118, 123] :: [124] :: [125] :: [126, 125] :: [125] :: [128, 125] :: [127, 129, 125] :: [125, 130] :: [131] :: [132] :: [132] :: [133, 134, 132] :: [135, 132] :: [132, 136] :: []) (isV (.bool true) :: isV (.bool true) :: isV (.bool false) :: isV (.bool true) :: isV (.bool true) :: isV (undef) :: isV (undef) :: isV (undef) :: isV (undef) :: isV (.bool true) :: isV (.bool true) :: isV (undef) :: isV (undef) :: isV (undef) :: isV (undef) :: isV (.bool true) :: isV (.bool true) :: isV (undef) :: isV (undef) :: isV (undef) :: isV (.bool true) :: isV (.bool true) :: isV (.bool true) :: isV (.agg (LA a)) :: isV (.agg (VA P)) :: isV (.pointer (some ⟨w.heap.size, 5, none⟩)) :: isV (.agg (VA a.deps)) :: isV (.bool true) :: isV (.bool true) :: isV (.bool true) :: isV (.agg (LA a)) :: isV (.agg (VA P)) :: isV (.agg (LA a)) :: isV (.agg #[.int .i64 a.node, .int .u32 (a.n : Int)]) :: isV (.bool true) :: isV (.bool true) :: isV (.bool true) :: isV (.agg (LA a)) :: isV (.agg (LA a)) :: isV (.bool false) :: isV (.bool true) :: isV (.bool true) :: []) (by decide) (by kernel_rfl)
                  ⟨stab_isV _, stab_isV _, stab_isV _, stab_isV _, stab_isV _, stab_isV _, stab_isV _, stab_isV _, stab_isV _, stab_isV _, stab_isV _, stab_isV _, stab_isV _, stab_isV _, stab_isV _, stab_isV _, stab_isV _, stab_isV _, stab_isV _, stab_isV _, stab_isV _, stab_isV _, stab_isV _, stab_isV _, stab_isV _, stab_isV _, stab_isV _, stab_isV _, stab_isV _, stab_isV _, stab_isV _, stab_isV _, stab_isV _, stab_isV _, stab_isV _, stab_isV _, stab_isV _, stab_isV _, stab_isV _, stab_isV _, stab_isV _, stab_isV _, trivial⟩ (fun T hTs hTk => ⟨?_, ?_, ?_, ?_, ?_, ?_, ?_, ?_, ?_, ?_, ?_, ?_, ?_, ?_, ?_, ?_, ?_, ?_, ?_, ?_, ?_, ?_, ?_, ?_, ?_, ?_, ?_, ?_, ?_, ?_, ?_, ?_, ?_, ?_, ?_, ?_, ?_, ?_, ?_, ?_, ?_, ?_, trivial⟩) ?_
                · intro vs wq hB hm
                  replace hTs : T.size = 138 := hTs
                  clear hm
                  generalize fill T vs [] = F at ⊢
                  go_wp2_with fail
                  refine (alive05 _).mono ?_
                  rintro e w1 ⟨rfl, hb1⟩
                  go_wp2
                  exact ⟨_, rfl, rfl, hb1, trivial⟩
                · intro vs wq hB hm
                  replace hTs : T.size = 138 := hTs
                  have h96 : vs 96 = .bool true := meets_get hm 0 rfl rfl rfl rfl
                  clear hm
                  have q96 : (fill T vs [96])[96]? = some (.bool true) := fill_in hTs (by decide) (by decide) h96
                  generalize fill T vs [96] = F at q96 ⊢
                  go_wp2
                  exact ⟨_, rfl, rfl, Below.refl _ _, trivial⟩
                · intro vs wq hB hm
                  replace hTs : T.size = 138 := hTs
                  have h97 : vs 97 = .bool true := meets_get hm 1 rfl rfl rfl rfl
                  clear hm
                  have q10 : (fill T vs [97])[10]? = some (.bool false) := fill_out hTs (by decide) (by decide) (hTk 10)
                  have q97 : (fill T vs [97])[97]? = some (.bool true) := fill_in hTs (by decide) (by decide) h97
                  generalize fill T vs [97] = F at q10 q97 ⊢
                  go_wp2
                  exact ⟨_, rfl, rfl, Below.refl _ _, trivial⟩
                · intro vs wq hB hm
                  replace hTs : T.size = 138 := hTs
                  have h98 : vs 98 = .bool false := meets_get hm 2 rfl rfl rfl rfl
                  have h97 : vs 97 = .bool true := meets_get hm 1 rfl rfl rfl rfl
                  clear hm
                  have q98 : (fill T vs [98, 97])[98]? = some (.bool false) := fill_in hTs (by decide) (by decide) h98
                  have q97 : (fill T vs [98, 97])[97]? = some (.bool true) := fill_in hTs (by decide) (by decide) h97
                  generalize fill T vs [98, 97] = F at q98 q97 ⊢
                  go_wp2
                  exact ⟨_, rfl, rfl, Below.refl _ _, trivial⟩
                · intro vs wq hB hm
                  replace hTs : T.size = 138 := hTs
                  have h99 : vs 99 = .bool true := meets_get hm 3 rfl rfl rfl rfl
                  have h97 : vs 97 = .bool true := meets_get hm 1 rfl rfl rfl rfl
                  clear hm
                  have q99 : (fill T vs [99, 97])[99]? = some (.bool true) := fill_in hTs (by decide) (by decide) h99
                  have q97 : (fill T vs [99, 97])[97]? = some (.bool true) := fill_in hTs (by decide) (by decide) h97
                  generalize fill T vs [99, 97] = F at q99 q97 ⊢
                  go_wp2
                  exact ⟨_, rfl, rfl, Below.refl _ _, trivial⟩
                · intro vs wq hB hm
                  replace hTs : T.size = 138 := hTs
                  have h100 : vs 100 = .bool true := meets_get hm 4 rfl rfl rfl rfl
                  clear hm
                  have q3 : (fill T vs [100])[3]? = some (.pointer (some ⟨w.heap.size, 0, none⟩)) := fill_out hTs (by decide) (by decide) (hTk 3)
                  have q100 : (fill T vs [100])[100]? = some (.bool true) := fill_in hTs (by decide) (by decide) h100
                  generalize fill T vs [100] = F at q3 q100 ⊢
                  refine wpList_skip (skip_at q100 rfl rfl rfl (by rfl)) ?_
                  exact ⟨_, rfl, rfl, Below.refl _ _, trivial⟩
                · intro vs wq hB hm
                  replace hTs : T.size = 138 := hTs
                  have h100 : vs 100 = .bool true := meets_get hm 4 rfl rfl rfl rfl
                  clear hm
                  have q4 : (fill T vs [100])[4]? = some (.pointer (some ⟨w.heap.size + 1, 0, none⟩)) := fill_out hTs (by decide) (by decide) (hTk 4)
                  have q100 : (fill T vs [100])[100]? = some (.bool true) := fill_in hTs (by decide) (by decide) h100
                  generalize fill T vs [100] = F at q4 q100 ⊢
                  refine wpList_skip (skip_at q100 rfl rfl rfl (by rfl)) ?_
                  exact ⟨_, rfl, rfl, Below.refl _ _, trivial⟩
                · intro vs wq hB hm
                  replace hTs : T.size = 138 := hTs
                  have h101 : vs 101 = undef := meets_get hm 5 rfl rfl rfl rfl
                  have h102 : vs 102 = undef := meets_get hm 6 rfl rfl rfl rfl
                  have h100 : vs 100 = .bool true := meets_get hm 4 rfl rfl rfl rfl
                  clear hm
                  have q101 : (fill T vs [101, 102, 100])[101]? = some (undef) := fill_in hTs (by decide) (by decide) h101
                  have q102 : (fill T vs [101, 102, 100])[102]? = some (undef) := fill_in hTs (by decide) (by decide) h102
                  have q100 : (fill T vs [101, 102, 100])[100]? = some (.bool true) := fill_in hTs (by decide) (by decide) h100
                  generalize fill T vs [101, 102, 100] = F at q101 q102 q100 ⊢
                  refine wpList_skip (skip_at q100 rfl rfl rfl (by rfl)) ?_
                  exact ⟨_, rfl, rfl, Below.refl _ _, trivial⟩
                · intro vs wq hB hm
                  replace hTs : T.size = 138 := hTs
                  have h103 : vs 103 = undef := meets_get hm 7 rfl rfl rfl rfl
                  have h100 : vs 100 = .bool true := meets_get hm 4 rfl rfl rfl rfl
                  clear hm
                  have q103 : (fill T vs [103, 100])[103]? = some (undef) := fill_in hTs (by decide) (by decide) h103
                  have q100 : (fill T vs [103, 100])[100]? = some (.bool true) := fill_in hTs (by decide) (by decide) h100
                  generalize fill T vs [103, 100] = F at q103 q100 ⊢
                  refine wpList_skip (skip_at q100 rfl rfl rfl (by rfl)) ?_
                  exact ⟨_, rfl, rfl, Below.refl _ _, trivial⟩
                · intro vs wq hB hm
                  replace hTs : T.size = 138 := hTs
                  have h100 : vs 100 = .bool true := meets_get hm 4 rfl rfl rfl rfl
                  have h104 : vs 104 = undef := meets_get hm 8 rfl rfl rfl rfl
                  have h97 : vs 97 = .bool true := meets_get hm 1 rfl rfl rfl rfl
                  clear hm
                  have q100 : (fill T vs [100, 104, 97])[100]? = some (.bool true) := fill_in hTs (by decide) (by decide) h100
                  have q104 : (fill T vs [100, 104, 97])[104]? = some (undef) := fill_in hTs (by decide) (by decide) h104
                  have q97 : (fill T vs [100, 104, 97])[97]? = some (.bool true) := fill_in hTs (by decide) (by decide) h97
                  generalize fill T vs [100, 104, 97] = F at q100 q104 q97 ⊢
                  go_wp2
                  exact ⟨_, rfl, rfl, Below.refl _ _, trivial⟩
                · intro vs wq hB hm
                  replace hTs : T.size = 138 := hTs
                  have h105 : vs 105 = .bool true := meets_get hm 9 rfl rfl rfl rfl
                  have h97 : vs 97 = .bool true := meets_get hm 1 rfl rfl rfl rfl
                  clear hm
                  have q105 : (fill T vs [105, 97])[105]? = some (.bool true) := fill_in hTs (by decide) (by decide) h105
                  have q97 : (fill T vs [105, 97])[97]? = some (.bool true) := fill_in hTs (by decide) (by decide) h97
                  generalize fill T vs [105, 97] = F at q105 q97 ⊢
                  go_wp2
                  exact ⟨_, rfl, rfl, Below.refl _ _, trivial⟩
                · intro vs wq hB hm
                  replace hTs : T.size = 138 := hTs
                  have h106 : vs 106 = .bool true := meets_get hm 10 rfl rfl rfl rfl
                  clear hm
                  have q4 : (fill T vs [106])[4]? = some (.pointer (some ⟨w.heap.size + 1, 0, none⟩)) := fill_out hTs (by decide) (by decide) (hTk 4)
                  have q106 : (fill T vs [106])[106]? = some (.bool true) := fill_in hTs (by decide) (by decide) h106
                  generalize fill T vs [106] = F at q4 q106 ⊢
                  refine wpList_skip (skip_at q106 rfl rfl rfl (by rfl)) ?_
                  exact ⟨_, rfl, rfl, Below.refl _ _, trivial⟩
                · intro vs wq hB hm
                  replace hTs : T.size = 138 := hTs
                  have h106 : vs 106 = .bool true := meets_get hm 10 rfl rfl rfl rfl
                  clear hm
                  have q5 : (fill T vs [106])[5]? = some (.pointer (some ⟨w.heap.size + 1 + 1, 0, none⟩)) := fill_out hTs (by decide) (by decide) (hTk 5)
                  have q106 : (fill T vs [106])[106]? = some (.bool true) := fill_in hTs (by decide) (by decide) h106
                  generalize fill T vs [106] = F at q5 q106 ⊢
                  refine wpList_skip (skip_at q106 rfl rfl rfl (by rfl)) ?_
                  exact ⟨_, rfl, rfl, Below.refl _ _, trivial⟩
                · intro vs wq hB hm
                  replace hTs : T.size = 138 := hTs
                  have h107 : vs 107 = undef := meets_get hm 11 rfl rfl rfl rfl
                  have h108 : vs 108 = undef := meets_get hm 12 rfl rfl rfl rfl
                  have h106 : vs 106 = .bool true := meets_get hm 10 rfl rfl rfl rfl
                  clear hm
                  have q107 : (fill T vs [107, 108, 106])[107]? = some (undef) := fill_in hTs (by decide) (by decide) h107
                  have q108 : (fill T vs [107, 108, 106])[108]? = some (undef) := fill_in hTs (by decide) (by decide) h108
                  have q106 : (fill T vs [107, 108, 106])[106]? = some (.bool true) := fill_in hTs (by decide) (by decide) h106
                  generalize fill T vs [107, 108, 106] = F at q107 q108 q106 ⊢
                  refine wpList_skip (skip_at q106 rfl rfl rfl (by rfl)) ?_
                  exact ⟨_, rfl, rfl, Below.refl _ _, trivial⟩
                · intro vs wq hB hm
                  replace hTs : T.size = 138 := hTs
                  have h109 : vs 109 = undef := meets_get hm 13 rfl rfl rfl rfl
                  have h106 : vs 106 = .bool true := meets_get hm 10 rfl rfl rfl rfl
                  clear hm
                  have q109 : (fill T vs [109, 106])[109]? = some (undef) := fill_in hTs (by decide) (by decide) h109
                  have q106 : (fill T vs [109, 106])[106]? = some (.bool true) := fill_in hTs (by decide) (by decide) h106
                  generalize fill T vs [109, 106] = F at q109 q106 ⊢
                  refine wpList_skip (skip_at q106 rfl rfl rfl (by rfl)) ?_
                  exact ⟨_, rfl, rfl, Below.refl _ _, trivial⟩
                · intro vs wq hB hm
                  replace hTs : T.size = 138 := hTs
                  have h106 : vs 106 = .bool true := meets_get hm 10 rfl rfl rfl rfl
                  have h110 : vs 110 = undef := meets_get hm 14 rfl rfl rfl rfl
                  have h97 : vs 97 = .bool true := meets_get hm 1 rfl rfl rfl rfl
                  clear hm
                  have q106 : (fill T vs [106, 110, 97])[106]? = some (.bool true) := fill_in hTs (by decide) (by decide) h106
                  have q110 : (fill T vs [106, 110, 97])[110]? = some (undef) := fill_in hTs (by decide) (by decide) h110
                  have q97 : (fill T vs [106, 110, 97])[97]? = some (.bool true) := fill_in hTs (by decide) (by decide) h97
                  generalize fill T vs [106, 110, 97] = F at q106 q110 q97 ⊢
                  go_wp2
                  exact ⟨_, rfl, rfl, Below.refl _ _, trivial⟩
                · intro vs wq hB hm
                  replace hTs : T.size = 138 := hTs
                  have h111 : vs 111 = .bool true := meets_get hm 15 rfl rfl rfl rfl
                  have h97 : vs 97 = .bool true := meets_get hm 1 rfl rfl rfl rfl
                  clear hm
                  have q111 : (fill T vs [111, 97])[111]? = some (.bool true) := fill_in hTs (by decide) (by decide) h111
                  have q97 : (fill T vs [111, 97])[97]? = some (.bool true) := fill_in hTs (by decide) (by decide) h97
                  generalize fill T vs [111, 97] = F at q111 q97 ⊢
                  go_wp2
                  exact ⟨_, rfl, rfl, Below.refl _ _, trivial⟩
                · intro vs wq hB hm
                  replace hTs : T.size = 138 := hTs
                  have h112 : vs 112 = .bool true := meets_get hm 16 rfl rfl rfl rfl
                  clear hm
                  have q3 : (fill T vs [112])[3]? = some (.pointer (some ⟨w.heap.size, 0, none⟩)) := fill_out hTs (by decide) (by decide) (hTk 3)
                  have q112 : (fill T vs [112])[112]? = some (.bool true) := fill_in hTs (by decide) (by decide) h112
                  generalize fill T vs [112] = F at q3 q112 ⊢
                  refine wpList_skip (skip_at q112 rfl rfl rfl (by rfl)) ?_
                  exact ⟨_, rfl, rfl, Below.refl _ _, trivial⟩
                · intro vs wq hB hm
                  replace hTs : T.size = 138 := hTs
                  have h112 : vs 112 = .bool true := meets_get hm 16 rfl rfl rfl rfl
                  clear hm
                  have q5 : (fill T vs [112])[5]? = some (.pointer (some ⟨w.heap.size + 1 + 1, 0, none⟩)) := fill_out hTs (by decide) (by decide) (hTk 5)
                  have q112 : (fill T vs [112])[112]? = some (.bool true) := fill_in hTs (by decide) (by decide) h112
                  generalize fill T vs [112] = F at q5 q112 ⊢
                  refine wpList_skip (skip_at q112 rfl rfl rfl (by rfl)) ?_
                  exact ⟨_, rfl, rfl, Below.refl _ _, trivial⟩
                · intro vs wq hB hm
                  replace hTs : T.size = 138 := hTs
                  have h113 : vs 113 = undef := meets_get hm 17 rfl rfl rfl rfl
                  have h114 : vs 114 = undef := meets_get hm 18 rfl rfl rfl rfl
                  have h112 : vs 112 = .bool true := meets_get hm 16 rfl rfl rfl rfl
                  clear hm
                  have q113 : (fill T vs [113, 114, 112])[113]? = some (undef) := fill_in hTs (by decide) (by decide) h113
                  have q114 : (fill T vs [113, 114, 112])[114]? = some (undef) := fill_in hTs (by decide) (by decide) h114
                  have q112 : (fill T vs [113, 114, 112])[112]? = some (.bool true) := fill_in hTs (by decide) (by decide) h112
                  generalize fill T vs [113, 114, 112] = F at q113 q114 q112 ⊢
                  refine wpList_skip (skip_at q112 rfl rfl rfl (by rfl)) ?_
                  exact ⟨_, rfl, rfl, Below.refl _ _, trivial⟩
                · intro vs wq hB hm
                  replace hTs : T.size = 138 := hTs
                  have h112 : vs 112 = .bool true := meets_get hm 16 rfl rfl rfl rfl
                  have h115 : vs 115 = undef := meets_get hm 19 rfl rfl rfl rfl
                  have h97 : vs 97 = .bool true := meets_get hm 1 rfl rfl rfl rfl
                  clear hm
                  have q112 : (fill T vs [112, 115, 97])[112]? = some (.bool true) := fill_in hTs (by decide) (by decide) h112
                  have q115 : (fill T vs [112, 115, 97])[115]? = some (undef) := fill_in hTs (by decide) (by decide) h115
                  have q97 : (fill T vs [112, 115, 97])[97]? = some (.bool true) := fill_in hTs (by decide) (by decide) h97
                  generalize fill T vs [112, 115, 97] = F at q112 q115 q97 ⊢
                  go_wp2
                  exact ⟨_, rfl, rfl, Below.refl _ _, trivial⟩
                · intro vs wq hB hm
                  replace hTs : T.size = 138 := hTs
                  have h97 : vs 97 = .bool true := meets_get hm 1 rfl rfl rfl rfl
                  have h116 : vs 116 = .bool true := meets_get hm 20 rfl rfl rfl rfl
                  clear hm
                  have q97 : (fill T vs [97, 116])[97]? = some (.bool true) := fill_in hTs (by decide) (by decide) h97
                  have q116 : (fill T vs [97, 116])[116]? = some (.bool true) := fill_in hTs (by decide) (by decide) h116
                  generalize fill T vs [97, 116] = F at q97 q116 ⊢
                  go_wp2
                  exact ⟨_, rfl, rfl, Below.refl _ _, trivial⟩
                · intro vs wq hB hm
                  replace hTs : T.size = 138 := hTs
                  have h117 : vs 117 = .bool true := meets_get hm 21 rfl rfl rfl rfl
                  clear hm
                  have q117 : (fill T vs [117])[117]? = some (.bool true) := fill_in hTs (by decide) (by decide) h117
                  generalize fill T vs [117] = F at q117 ⊢
                  go_wp2
                  exact ⟨_, rfl, rfl, Below.refl _ _, trivial⟩
                · intro vs wq hB hm
                  replace hTs : T.size = 138 := hTs
                  have hl : look wq (w.heap.size) = some (.cells (LA a) 87 (0, 0)) := by rw [look_below hB (by first | omega | (simp only [World.size_alloc]; omega) | exact look_lt (by assumption) | (simp only [World.size_alloc, World.size_setCell]; omega) | (simp; omega))]; first | assumption | go_simp
                  have h118 : vs 118 = .bool true := meets_get hm 22 rfl rfl rfl rfl
                  clear hm
                  have q3 : (fill T vs [118])[3]? = some (.pointer (some ⟨w.heap.size, 0, none⟩)) := fill_out hTs (by decide) (by decide) (hTk 3)
                  have q118 : (fill T vs [118])[118]? = some (.bool true) := fill_in hTs (by decide) (by decide) h118
                  generalize fill T vs [118] = F at q3 q118 ⊢
                  go_wp2
                  exact ⟨_, rfl, rfl, Below.refl _ _, trivial⟩
                · intro vs wq hB hm
                  replace hTs : T.size = 138 := hTs
                  have h119 : vs 119 = .agg (LA a) := meets_get hm 23 rfl rfl rfl rfl
                  have h118 : vs 118 = .bool true := meets_get hm 22 rfl rfl rfl rfl
                  clear hm
                  have q119 : (fill T vs [119, 118])[119]? = some (.agg (LA a)) := fill_in hTs (by decide) (by decide) h119
                  have q118 : (fill T vs [119, 118])[118]? = some (.bool true) := fill_in hTs (by decide) (by decide) h118
                  generalize fill T vs [119, 118] = F at q119 q118 ⊢
                  go_wp2_with fail
                  refine (lpast_is a P hPh.out _).mono ?_
                  rintro e w1 ⟨rfl, hb1⟩
                  go_wp2
                  exact ⟨_, rfl, rfl, hb1, trivial⟩
                · intro vs wq hB hm
                  replace hTs : T.size = 138 := hTs
                  have h118 : vs 118 = .bool true := meets_get hm 22 rfl rfl rfl rfl
                  clear hm
                  have q3 : (fill T vs [118])[3]? = some (.pointer (some ⟨w.heap.size, 0, none⟩)) := fill_out hTs (by decide) (by decide) (hTk 3)
                  have q118 : (fill T vs [118])[118]? = some (.bool true) := fill_in hTs (by decide) (by decide) h118
                  generalize fill T vs [118] = F at q3 q118 ⊢
                  go_wp2
                  exact ⟨_, rfl, rfl, Below.refl _ _, trivial⟩
                · intro vs wq hB hm
                  replace hTs : T.size = 138 := hTs
                  have hl : look wq (w.heap.size) = some (.cells (LA a) 87 (0, 0)) := by rw [look_below hB (by first | omega | (simp only [World.size_alloc]; omega) | exact look_lt (by assumption) | (simp only [World.size_alloc, World.size_setCell]; omega) | (simp; omega))]; first | assumption | go_simp
                  have h121 : vs 121 = .pointer (some ⟨w.heap.size, 5, none⟩) := meets_get hm 25 rfl rfl rfl rfl
                  have h118 : vs 118 = .bool true := meets_get hm 22 rfl rfl rfl rfl
                  clear hm
                  have q121 : (fill T vs [121, 118])[121]? = some (.pointer (some ⟨w.heap.size, 5, none⟩)) := fill_in hTs (by decide) (by decide) h121
                  have q118 : (fill T vs [121, 118])[118]? = some (.bool true) := fill_in hTs (by decide) (by decide) h118
                  generalize fill T vs [121, 118] = F at q121 q118 ⊢
                  go_wp2
                  exact ⟨_, rfl, rfl, Below.refl _ _, trivial⟩
                · intro vs wq hB hm
                  replace hTs : T.size = 138 := hTs
                  have h120 : vs 120 = .agg (VA P) := meets_get hm 24 rfl rfl rfl rfl
                  have h122 : vs 122 = .agg (VA a.deps) := meets_get hm 26 rfl rfl rfl rfl
                  have h118 : vs 118 = .bool true := meets_get hm 22 rfl rfl rfl rfl
                  clear hm
                  have q120 : (fill T vs [120, 122, 118])[120]? = some (.agg (VA P)) := fill_in hTs (by decide) (by decide) h120
                  have q122 : (fill T vs [120, 122, 118])[122]? = some (.agg (VA a.deps)) := fill_in hTs (by decide) (by decide) h122
                  have q118 : (fill T vs [120, 122, 118])[118]? = some (.bool true) := fill_in hTs (by decide) (by decide) h118
                  generalize fill T vs [120, 122, 118] = F at q120 q122 q118 ⊢
                  go_wp2_with fail
                  refine (covers_any P a.deps _).mono ?_
                  rintro e w1 ⟨rfl, hb1⟩
                  go_wp2
                  exact ⟨_, rfl, rfl, hb1, trivial⟩
                · intro vs wq hB hm
                  replace hTs : T.size = 138 := hTs
                  have h118 : vs 118 = .bool true := meets_get hm 22 rfl rfl rfl rfl
                  have h123 : vs 123 = .bool true := meets_get hm 27 rfl rfl rfl rfl
                  clear hm
                  have q118 : (fill T vs [118, 123])[118]? = some (.bool true) := fill_in hTs (by decide) (by decide) h118
                  have q123 : (fill T vs [118, 123])[123]? = some (.bool true) := fill_in hTs (by decide) (by decide) h123
                  generalize fill T vs [118, 123] = F at q118 q123 ⊢
                  go_wp2
                  exact ⟨_, rfl, rfl, Below.refl _ _, trivial⟩
                · intro vs wq hB hm
                  replace hTs : T.size = 138 := hTs
                  have h124 : vs 124 = .bool true := meets_get hm 28 rfl rfl rfl rfl
                  clear hm
                  have q124 : (fill T vs [124])[124]? = some (.bool true) := fill_in hTs (by decide) (by decide) h124
                  generalize fill T vs [124] = F at q124 ⊢
                  go_wp2
                  exact ⟨_, rfl, rfl, Below.refl _ _, trivial⟩
                · intro vs wq hB hm
                  replace hTs : T.size = 138 := hTs
                  have hl : look wq (w.heap.size) = some (.cells (LA a) 87 (0, 0)) := by rw [look_below hB (by first | omega | (simp only [World.size_alloc]; omega) | exact look_lt (by assumption) | (simp only [World.size_alloc, World.size_setCell]; omega) | (simp; omega))]; first | assumption | go_simp
                  have h125 : vs 125 = .bool true := meets_get hm 29 rfl rfl rfl rfl
                  clear hm
                  have q3 : (fill T vs [125])[3]? = some (.pointer (some ⟨w.heap.size, 0, none⟩)) := fill_out hTs (by decide) (by decide) (hTk 3)
                  have q125 : (fill T vs [125])[125]? = some (.bool true) := fill_in hTs (by decide) (by decide) h125
                  generalize fill T vs [125] = F at q3 q125 ⊢
                  go_wp2
                  exact ⟨_, rfl, rfl, Below.refl _ _, trivial⟩
                · intro vs wq hB hm
                  replace hTs : T.size = 138 := hTs
                  have h126 : vs 126 = .agg (LA a) := meets_get hm 30 rfl rfl rfl rfl
                  have h125 : vs 125 = .bool true := meets_get hm 29 rfl rfl rfl rfl
                  clear hm
                  have q126 : (fill T vs [126, 125])[126]? = some (.agg (LA a)) := fill_in hTs (by decide) (by decide) h126
                  have q125 : (fill T vs [126, 125])[125]? = some (.bool true) := fill_in hTs (by decide) (by decide) h125
                  generalize fill T vs [126, 125] = F at q126 q125 ⊢
                  go_wp2_with fail
                  refine (lpast_is a P hPh.out _).mono ?_
                  rintro e w1 ⟨rfl, hb1⟩
                  go_wp2
                  exact ⟨_, rfl, rfl, hb1, trivial⟩
                · intro vs wq hB hm
                  replace hTs : T.size = 138 := hTs
                  have hl : look wq (w.heap.size) = some (.cells (LA a) 87 (0, 0)) := by rw [look_below hB (by first | omega | (simp only [World.size_alloc]; omega) | exact look_lt (by assumption) | (simp only [World.size_alloc, World.size_setCell]; omega) | (simp; omega))]; first | assumption | go_simp
                  have h125 : vs 125 = .bool true := meets_get hm 29 rfl rfl rfl rfl
                  clear hm
                  have q3 : (fill T vs [125])[3]? = some (.pointer (some ⟨w.heap.size, 0, none⟩)) := fill_out hTs (by decide) (by decide) (hTk 3)
                  have q125 : (fill T vs [125])[125]? = some (.bool true) := fill_in hTs (by decide) (by decide) h125
                  generalize fill T vs [125] = F at q3 q125 ⊢
                  go_wp2
                  exact ⟨_, rfl, rfl, Below.refl _ _, trivial⟩
                · intro vs wq hB hm
                  replace hTs : T.size = 138 := hTs
                  have h128 : vs 128 = .agg (LA a) := meets_get hm 32 rfl rfl rfl rfl
                  have h125 : vs 125 = .bool true := meets_get hm 29 rfl rfl rfl rfl
                  clear hm
                  have q128 : (fill T vs [128, 125])[128]? = some (.agg (LA a)) := fill_in hTs (by decide) (by decide) h128
                  have q125 : (fill T vs [128, 125])[125]? = some (.bool true) := fill_in hTs (by decide) (by decide) h125
                  generalize fill T vs [128, 125] = F at q128 q125 ⊢
                  go_wp2_with fail
                  refine (ldot_any a _).mono ?_
                  rintro e w1 ⟨rfl, hb1⟩
                  go_wp2
                  exact ⟨_, rfl, rfl, hb1, trivial⟩
                · intro vs wq hB hm
                  replace hTs : T.size = 138 := hTs
                  have h127 : vs 127 = .agg (VA P) := meets_get hm 31 rfl rfl rfl rfl
                  have h129 : vs 129 = .agg #[.int .i64 a.node, .int .u32 (a.n : Int)] := meets_get hm 33 rfl rfl rfl rfl
                  have h125 : vs 125 = .bool true := meets_get hm 29 rfl rfl rfl rfl
                  clear hm
                  have q127 : (fill T vs [127, 129, 125])[127]? = some (.agg (VA P)) := fill_in hTs (by decide) (by decide) h127
                  have q129 : (fill T vs [127, 129, 125])[129]? = some (.agg #[.int .i64 a.node, .int .u32 (a.n : Int)]) := fill_in hTs (by decide) (by decide) h129
                  have q125 : (fill T vs [127, 129, 125])[125]? = some (.bool true) := fill_in hTs (by decide) (by decide) h125
                  generalize fill T vs [127, 129, 125] = F at q127 q129 q125 ⊢
                  go_wp2_with fail
                  refine (has_any P a.node a.n _).mono ?_
                  rintro e w1 ⟨rfl, hb1⟩
                  go_wp2
                  exact ⟨_, rfl, rfl, hb1, trivial⟩
                · intro vs wq hB hm
                  replace hTs : T.size = 138 := hTs
                  have h125 : vs 125 = .bool true := meets_get hm 29 rfl rfl rfl rfl
                  have h130 : vs 130 = .bool true := meets_get hm 34 rfl rfl rfl rfl
                  clear hm
                  have q125 : (fill T vs [125, 130])[125]? = some (.bool true) := fill_in hTs (by decide) (by decide) h125
                  have q130 : (fill T vs [125, 130])[130]? = some (.bool true) := fill_in hTs (by decide) (by decide) h130
                  generalize fill T vs [125, 130] = F at q125 q130 ⊢
                  go_wp2
                  exact ⟨_, rfl, rfl, Below.refl _ _, trivial⟩
                · intro vs wq hB hm
                  replace hTs : T.size = 138 := hTs
                  have h131 : vs 131 = .bool true := meets_get hm 35 rfl rfl rfl rfl
                  clear hm
                  have q131 : (fill T vs [131])[131]? = some (.bool true) := fill_in hTs (by decide) (by decide) h131
                  generalize fill T vs [131] = F at q131 ⊢
                  go_wp2
                  exact ⟨_, rfl, rfl, Below.refl _ _, trivial⟩
                · intro vs wq hB hm
                  replace hTs : T.size = 138 := hTs
                  have hl : look wq (w.heap.size) = some (.cells (LA a) 87 (0, 0)) := by rw [look_below hB (by first | omega | (simp only [World.size_alloc]; omega) | exact look_lt (by assumption) | (simp only [World.size_alloc, World.size_setCell]; omega) | (simp; omega))]; first | assumption | go_simp
                  have h132 : vs 132 = .bool true := meets_get hm 36 rfl rfl rfl rfl
                  clear hm
                  have q3 : (fill T vs [132])[3]? = some (.pointer (some ⟨w.heap.size, 0, none⟩)) := fill_out hTs (by decide) (by decide) (hTk 3)
                  have q132 : (fill T vs [132])[132]? = some (.bool true) := fill_in hTs (by decide) (by decide) h132
                  generalize fill T vs [132] = F at q3 q132 ⊢
                  go_wp2
                  exact ⟨_, rfl, rfl, Below.refl _ _, trivial⟩
                · intro vs wq hB hm
                  replace hTs : T.size = 138 := hTs
                  have hl : look wq (w.heap.size) = some (.cells (LA a) 87 (0, 0)) := by rw [look_below hB (by first | omega | (simp only [World.size_alloc]; omega) | exact look_lt (by assumption) | (simp only [World.size_alloc, World.size_setCell]; omega) | (simp; omega))]; first | assumption | go_simp
                  have h132 : vs 132 = .bool true := meets_get hm 36 rfl rfl rfl rfl
                  clear hm
                  have q3 : (fill T vs [132])[3]? = some (.pointer (some ⟨w.heap.size, 0, none⟩)) := fill_out hTs (by decide) (by decide) (hTk 3)
                  have q132 : (fill T vs [132])[132]? = some (.bool true) := fill_in hTs (by decide) (by decide) h132
                  generalize fill T vs [132] = F at q3 q132 ⊢
                  go_wp2
                  exact ⟨_, rfl, rfl, Below.refl _ _, trivial⟩
                · intro vs wq hB hm
                  replace hTs : T.size = 138 := hTs
                  have h133 : vs 133 = .agg (LA a) := meets_get hm 37 rfl rfl rfl rfl
                  have h134 : vs 134 = .agg (LA a) := meets_get hm 38 rfl rfl rfl rfl
                  have h132 : vs 132 = .bool true := meets_get hm 36 rfl rfl rfl rfl
                  clear hm
                  have q133 : (fill T vs [133, 134, 132])[133]? = some (.agg (LA a)) := fill_in hTs (by decide) (by decide) h133
                  have q134 : (fill T vs [133, 134, 132])[134]? = some (.agg (LA a)) := fill_in hTs (by decide) (by decide) h134
                  have q132 : (fill T vs [133, 134, 132])[132]? = some (.bool true) := fill_in hTs (by decide) (by decide) h132
                  generalize fill T vs [133, 134, 132] = F at q133 q134 q132 ⊢
                  go_wp2_with fail
                  refine (lbefore_any a a _).mono ?_
                  rintro e w1 ⟨rfl, hb1⟩
                  go_wp2
                  exact ⟨_, rfl, rfl, hb1, trivial⟩
                · intro vs wq hB hm
                  replace hTs : T.size = 138 := hTs
                  have h135 : vs 135 = .bool false := meets_get hm 39 rfl rfl rfl rfl
                  have h132 : vs 132 = .bool true := meets_get hm 36 rfl rfl rfl rfl
                  clear hm
                  have q135 : (fill T vs [135, 132])[135]? = some (.bool false) := fill_in hTs (by decide) (by decide) h135
                  have q132 : (fill T vs [135, 132])[132]? = some (.bool true) := fill_in hTs (by decide) (by decide) h132
                  generalize fill T vs [135, 132] = F at q135 q132 ⊢
                  go_wp2
                  exact ⟨_, rfl, rfl, Below.refl _ _, trivial⟩
                · intro vs wq hB hm
                  replace hTs : T.size = 138 := hTs
                  have h132 : vs 132 = .bool true := meets_get hm 36 rfl rfl rfl rfl
                  have h136 : vs 136 = .bool true := meets_get hm 40 rfl rfl rfl rfl
                  clear hm
                  have q132 : (fill T vs [132, 136])[132]? = some (.bool true) := fill_in hTs (by decide) (by decide) h132
                  have q136 : (fill T vs [132, 136])[136]? = some (.bool true) := fill_in hTs (by decide) (by decide) h136
                  generalize fill T vs [132, 136] = F at q132 q136 ⊢
                  go_wp2
                  exact ⟨_, rfl, rfl, Below.refl _ _, trivial⟩
                intro vs wq hB hm hne hlo
                have h96 : vs 96 = .bool true := hm 0 _ _ _ rfl rfl rfl
                have h97 : vs 97 = .bool true := hm 1 _ _ _ rfl rfl rfl
                have h98 : vs 98 = .bool false := hm 2 _ _ _ rfl rfl rfl
                have h99 : vs 99 = .bool true := hm 3 _ _ _ rfl rfl rfl
                have h100 : vs 100 = .bool true := hm 4 _ _ _ rfl rfl rfl
                have h101 : vs 101 = undef := hm 5 _ _ _ rfl rfl rfl
                have h102 : vs 102 = undef := hm 6 _ _ _ rfl rfl rfl
                have h103 : vs 103 = undef := hm 7 _ _ _ rfl rfl rfl
                have h104 : vs 104 = undef := hm 8 _ _ _ rfl rfl rfl
                have h105 : vs 105 = .bool true := hm 9 _ _ _ rfl rfl rfl
                have h106 : vs 106 = .bool true := hm 10 _ _ _ rfl rfl rfl
                have h107 : vs 107 = undef := hm 11 _ _ _ rfl rfl rfl
                have h108 : vs 108 = undef := hm 12 _ _ _ rfl rfl rfl
                have h109 : vs 109 = undef := hm 13 _ _ _ rfl rfl rfl
                have h110 : vs 110 = undef := hm 14 _ _ _ rfl rfl rfl
                have h111 : vs 111 = .bool true := hm 15 _ _ _ rfl rfl rfl
                have h112 : vs 112 = .bool true := hm 16 _ _ _ rfl rfl rfl
                have h113 : vs 113 = undef := hm 17 _ _ _ rfl rfl rfl
                have h114 : vs 114 = undef := hm 18 _ _ _ rfl rfl rfl
                have h115 : vs 115 = undef := hm 19 _ _ _ rfl rfl rfl
                have h116 : vs 116 = .bool true := hm 20 _ _ _ rfl rfl rfl
                have h117 : vs 117 = .bool true := hm 21 _ _ _ rfl rfl rfl
                have h118 : vs 118 = .bool true := hm 22 _ _ _ rfl rfl rfl
                have h119 : vs 119 = .agg (LA a) := hm 23 _ _ _ rfl rfl rfl
                have h120 : vs 120 = .agg (VA P) := hm 24 _ _ _ rfl rfl rfl
                have h121 : vs 121 = .pointer (some ⟨w.heap.size, 5, none⟩) := hm 25 _ _ _ rfl rfl rfl
                have h122 : vs 122 = .agg (VA a.deps) := hm 26 _ _ _ rfl rfl rfl
                have h123 : vs 123 = .bool true := hm 27 _ _ _ rfl rfl rfl
                have h124 : vs 124 = .bool true := hm 28 _ _ _ rfl rfl rfl
                have h125 : vs 125 = .bool true := hm 29 _ _ _ rfl rfl rfl
                have h126 : vs 126 = .agg (LA a) := hm 30 _ _ _ rfl rfl rfl
                have h127 : vs 127 = .agg (VA P) := hm 31 _ _ _ rfl rfl rfl
                have h128 : vs 128 = .agg (LA a) := hm 32 _ _ _ rfl rfl rfl
                have h129 : vs 129 = .agg #[.int .i64 a.node, .int .u32 (a.n : Int)] := hm 33 _ _ _ rfl rfl rfl
                have h130 : vs 130 = .bool true := hm 34 _ _ _ rfl rfl rfl
                have h131 : vs 131 = .bool true := hm 35 _ _ _ rfl rfl rfl
                have h132 : vs 132 = .bool true := hm 36 _ _ _ rfl rfl rfl
                have h133 : vs 133 = .agg (LA a) := hm 37 _ _ _ rfl rfl rfl
                have h134 : vs 134 = .agg (LA a) := hm 38 _ _ _ rfl rfl rfl
                have h135 : vs 135 = .bool false := hm 39 _ _ _ rfl rfl rfl
                have h136 : vs 136 = .bool true := hm 40 _ _ _ rfl rfl rfl
                have h137 : vs 137 = .bool true := hm 41 _ _ _ rfl rfl rfl
                clear hne hlo
                simp only [fill, List.filterMap, List.take, List.drop, List.setIfInBounds_toArray, List.set_cons_zero, List.set_cons_succ, h96, h97, h98, h99, h100, h101, h102, h103, h104, h105, h106, h107, h108, h109, h110, h111, h112, h113, h114, h115, h116, h117, h118, h119, h120, h121, h122, h123, h124, h125, h126, h127, h128, h129, h130, h131, h132, h133, h134, h135, h136, h137]
                clear hm h96 h97 h98 h99 h100 h101 h102 h103 h104 h105 h106 h107 h108 h109 h110 h111 h112 h113 h114 h115 h116 h117 h118 h119 h120 h121 h122 h123 h124 h125 h126 h127 h128 h129 h130 h131 h132 h133 h134 h135 h136 h137
                have hB10 := belT hB9 hB
                go_wp2
                go_ret
                exact ⟨rfl, hB10⟩
              · cases hab : beforeL a b
                · skip
                  refine wp_region_wordsT mixed 42 ([] :: [96] :: [97] :: [98, 97] :: [99, 97] :: [100] :: [100] :: [101, 102, 100] :: [103, 100] :: [100, 104, 97] :: [105, 97] :: [106] :: [106] :: [107, 108, 106] :: [109, 106] :: [106, 110, 97] :: [111, 97] :: [112] :: [112] :: [113, 114, 112] :: [112, 115, 97] :: [97, 116] :: [117] :: [118] :: [119, 118] :: [118] :: [121, 118] :: [120, 122, 118] :: [118, 123] :: [124] :: [125] :: [126, 125] :: [125] :: [128, 125] :: [127, 129, 125] :: [125, 130] :: [131] :: [132] :: [132] :: [133, 134, 132] :: [135, 132] :: [132, 136] :: []) (isV (.bool true) :: isV (.bool true) :: isV (.bool true) :: isV (.bool false) :: isV (.bool false) :: isV (.agg (LA a)) :: isV (.agg (LA b)) :: isV (.bool false) :: isV (.bool true) :: isV (.bool true) :: isV (.bool true) :: isV (undef) :: isV (undef) :: isV (undef) :: isV (undef) :: isV (.bool true) :: isV (.bool true) :: isV (undef) :: isV (undef) :: isV (undef) :: isV (.bool true) :: isV (.bool true) :: isV (.bool true) :: isV (.agg (LA a)) :: isV (.agg (VA P)) :: isV (.pointer (some ⟨w.heap.size, 5, none⟩)) :: isV (.agg (VA a.deps)) :: isV (.bool true) :: isV (.bool true) :: isV (.bool true) :: isV (.agg (LA a)) :: isV (.agg (VA P)) :: isV (.agg (LA a)) :: isV (.agg #[.int .i64 a.node, .int .u32 (a.n : Int)]) :: isV (.bool true) :: isV (.bool true) :: isV (.bool true) :: isV (.agg (LA a)) :: isV (.agg (LA a)) :: isV (.bool false) :: isV (.bool true) :: isV (.bool true) :: []) (by decide) (by kernel_rfl)
                    ⟨stab_isV _, stab_isV _, stab_isV _, stab_isV _, stab_isV _, stab_isV _, stab_isV _, stab_isV _, stab_isV _, stab_isV _, stab_isV _, stab_isV _, stab_isV _, stab_isV _, stab_isV _, stab_isV _, stab_isV _, stab_isV _, stab_isV _, stab_isV _, stab_isV _, stab_isV _, stab_isV _, stab_isV _, stab_isV _, stab_isV _, stab_isV _, stab_isV _, stab_isV _, stab_isV _, stab_isV _, stab_isV _, stab_isV _, stab_isV _, stab_isV _, stab_isV _, stab_isV _, stab_isV _, stab_isV _, stab_isV _, stab_isV _, stab_isV _, trivial⟩ (fun T hTs hTk => ⟨?_, ?_, ?_, ?_, ?_, ?_, ?_, ?_, ?_, ?_, ?_, ?_, ?_, ?_, ?_, ?_, ?_, ?_, ?_, ?_, ?_, ?_, ?_, ?_, ?_, ?_, ?_, ?_, ?_, ?_, ?_, ?_, ?_, ?_, ?_, ?_, ?_, ?_, ?_, ?_, ?_, ?_, trivial⟩) ?_
                  · intro vs wq hB hm
                    replace hTs : T.size = 138 := hTs
                    clear hm
                    generalize fill T vs [] = F at ⊢
                    go_wp2_with fail
                    refine (alive05 _).mono ?_
                    rintro e w1 ⟨rfl, hb1⟩
                    go_wp2
                    exact ⟨_, rfl, rfl, hb1, trivial⟩
                  · intro vs wq hB hm
                    replace hTs : T.size = 138 := hTs
                    have h96 : vs 96 = .bool true := meets_get hm 0 rfl rfl rfl rfl
                    clear hm
                    have q96 : (fill T vs [96])[96]? = some (.bool true) := fill_in hTs (by decide) (by decide) h96
                    generalize fill T vs [96] = F at q96 ⊢
                    go_wp2
                    exact ⟨_, rfl, rfl, Below.refl _ _, trivial⟩
                  · intro vs wq hB hm
                    replace hTs : T.size = 138 := hTs
                    have h97 : vs 97 = .bool true := meets_get hm 1 rfl rfl rfl rfl
                    clear hm
                    have q10 : (fill T vs [97])[10]? = some (.bool true) := fill_out hTs (by decide) (by decide) (hTk 10)
                    have q97 : (fill T vs [97])[97]? = some (.bool true) := fill_in hTs (by decide) (by decide) h97
                    generalize fill T vs [97] = F at q10 q97 ⊢
                    go_wp2
                    exact ⟨_, rfl, rfl, Below.refl _ _, trivial⟩
                  · intro vs wq hB hm
                    replace hTs : T.size = 138 := hTs
                    have h98 : vs 98 = .bool true := meets_get hm 2 rfl rfl rfl rfl
                    have h97 : vs 97 = .bool true := meets_get hm 1 rfl rfl rfl rfl
                    clear hm
                    have q98 : (fill T vs [98, 97])[98]? = some (.bool true) := fill_in hTs (by decide) (by decide) h98
                    have q97 : (fill T vs [98, 97])[97]? = some (.bool true) := fill_in hTs (by decide) (by decide) h97
                    generalize fill T vs [98, 97] = F at q98 q97 ⊢
                    go_wp2
                    exact ⟨_, rfl, rfl, Below.refl _ _, trivial⟩
                  · intro vs wq hB hm
                    replace hTs : T.size = 138 := hTs
                    have h99 : vs 99 = .bool false := meets_get hm 3 rfl rfl rfl rfl
                    have h97 : vs 97 = .bool true := meets_get hm 1 rfl rfl rfl rfl
                    clear hm
                    have q99 : (fill T vs [99, 97])[99]? = some (.bool false) := fill_in hTs (by decide) (by decide) h99
                    have q97 : (fill T vs [99, 97])[97]? = some (.bool true) := fill_in hTs (by decide) (by decide) h97
                    generalize fill T vs [99, 97] = F at q99 q97 ⊢
                    go_wp2
                    exact ⟨_, rfl, rfl, Below.refl _ _, trivial⟩
                  · intro vs wq hB hm
                    replace hTs : T.size = 138 := hTs
                    have hl : look wq (w.heap.size) = some (.cells (LA a) 87 (0, 0)) := by rw [look_below hB (by first | omega | (simp only [World.size_alloc]; omega) | exact look_lt (by assumption) | (simp only [World.size_alloc, World.size_setCell]; omega) | (simp; omega))]; first | assumption | go_simp
                    have h100 : vs 100 = .bool false := meets_get hm 4 rfl rfl rfl rfl
                    clear hm
                    have q3 : (fill T vs [100])[3]? = some (.pointer (some ⟨w.heap.size, 0, none⟩)) := fill_out hTs (by decide) (by decide) (hTk 3)
                    have q100 : (fill T vs [100])[100]? = some (.bool false) := fill_in hTs (by decide) (by decide) h100
                    generalize fill T vs [100] = F at q3 q100 ⊢
                    go_wp2
                    exact ⟨_, rfl, rfl, Below.refl _ _, trivial⟩
                  · intro vs wq hB hm
                    replace hTs : T.size = 138 := hTs
                    have hl : look wq (w.heap.size + 1) = some (.cells (LA b) 87 (0, 0)) := by rw [look_below hB (by first | omega | (simp only [World.size_alloc]; omega) | exact look_lt (by assumption) | (simp only [World.size_alloc, World.size_setCell]; omega) | (simp; omega))]; first | assumption | go_simp
                    have h100 : vs 100 = .bool false := meets_get hm 4 rfl rfl rfl rfl
                    clear hm
                    have q4 : (fill T vs [100])[4]? = some (.pointer (some ⟨w.heap.size + 1, 0, none⟩)) := fill_out hTs (by decide) (by decide) (hTk 4)
                    have q100 : (fill T vs [100])[100]? = some (.bool false) := fill_in hTs (by decide) (by decide) h100
                    generalize fill T vs [100] = F at q4 q100 ⊢
                    go_wp2
                    exact ⟨_, rfl, rfl, Below.refl _ _, trivial⟩
                  · intro vs wq hB hm
                    replace hTs : T.size = 138 := hTs
                    have h101 : vs 101 = .agg (LA a) := meets_get hm 5 rfl rfl rfl rfl
                    have h102 : vs 102 = .agg (LA b) := meets_get hm 6 rfl rfl rfl rfl
                    have h100 : vs 100 = .bool false := meets_get hm 4 rfl rfl rfl rfl
                    clear hm
                    have q101 : (fill T vs [101, 102, 100])[101]? = some (.agg (LA a)) := fill_in hTs (by decide) (by decide) h101
                    have q102 : (fill T vs [101, 102, 100])[102]? = some (.agg (LA b)) := fill_in hTs (by decide) (by decide) h102
                    have q100 : (fill T vs [101, 102, 100])[100]? = some (.bool false) := fill_in hTs (by decide) (by decide) h100
                    generalize fill T vs [101, 102, 100] = F at q101 q102 q100 ⊢
                    go_wp2_with fail
                    refine (lbefore_any a b _).mono ?_
                    rintro e w1 ⟨rfl, hb1⟩
                    go_wp2
                    exact ⟨_, rfl, rfl, hb1, trivial⟩
                  · intro vs wq hB hm
                    replace hTs : T.size = 138 := hTs
                    have h103 : vs 103 = .bool false := meets_get hm 7 rfl rfl rfl rfl
                    have h100 : vs 100 = .bool false := meets_get hm 4 rfl rfl rfl rfl
                    clear hm
                    have q103 : (fill T vs [103, 100])[103]? = some (.bool false) := fill_in hTs (by decide) (by decide) h103
                    have q100 : (fill T vs [103, 100])[100]? = some (.bool false) := fill_in hTs (by decide) (by decide) h100
                    generalize fill T vs [103, 100] = F at q103 q100 ⊢
                    go_wp2
                    exact ⟨_, rfl, rfl, Below.refl _ _, trivial⟩
                  · intro vs wq hB hm
                    replace hTs : T.size = 138 := hTs
                    have h100 : vs 100 = .bool false := meets_get hm 4 rfl rfl rfl rfl
                    have h104 : vs 104 = .bool true := meets_get hm 8 rfl rfl rfl rfl
                    have h97 : vs 97 = .bool true := meets_get hm 1 rfl rfl rfl rfl
                    clear hm
                    have q100 : (fill T vs [100, 104, 97])[100]? = some (.bool false) := fill_in hTs (by decide) (by decide) h100
                    have q104 : (fill T vs [100, 104, 97])[104]? = some (.bool true) := fill_in hTs (by decide) (by decide) h104
                    have q97 : (fill T vs [100, 104, 97])[97]? = some (.bool true) := fill_in hTs (by decide) (by decide) h97
                    generalize fill T vs [100, 104, 97] = F at q100 q104 q97 ⊢
                    go_wp2
                    exact ⟨_, rfl, rfl, Below.refl _ _, trivial⟩
                  · intro vs wq hB hm
                    replace hTs : T.size = 138 := hTs
                    have h105 : vs 105 = .bool true := meets_get hm 9 rfl rfl rfl rfl
                    have h97 : vs 97 = .bool true := meets_get hm 1 rfl rfl rfl rfl
                    clear hm
                    have q105 : (fill T vs [105, 97])[105]? = some (.bool true) := fill_in hTs (by decide) (by decide) h105
                    have q97 : (fill T vs [105, 97])[97]? = some (.bool true) := fill_in hTs (by decide) (by decide) h97
                    generalize fill T vs [105, 97] = F at q105 q97 ⊢
                    go_wp2
                    exact ⟨_, rfl, rfl, Below.refl _ _, trivial⟩
                  · intro vs wq hB hm
                    replace hTs : T.size = 138 := hTs
                    have h106 : vs 106 = .bool true := meets_get hm 10 rfl rfl rfl rfl
                    clear hm
                    have q4 : (fill T vs [106])[4]? = some (.pointer (some ⟨w.heap.size + 1, 0, none⟩)) := fill_out hTs (by decide) (by decide) (hTk 4)
                    have q106 : (fill T vs [106])[106]? = some (.bool true) := fill_in hTs (by decide) (by decide) h106
                    generalize fill T vs [106] = F at q4 q106 ⊢
                    refine wpList_skip (skip_at q106 rfl rfl rfl (by rfl)) ?_
                    exact ⟨_, rfl, rfl, Below.refl _ _, trivial⟩
                  · intro vs wq hB hm
                    replace hTs : T.size = 138 := hTs
                    have h106 : vs 106 = .bool true := meets_get hm 10 rfl rfl rfl rfl
                    clear hm
                    have q5 : (fill T vs [106])[5]? = some (.pointer (some ⟨w.heap.size + 1 + 1, 0, none⟩)) := fill_out hTs (by decide) (by decide) (hTk 5)
                    have q106 : (fill T vs [106])[106]? = some (.bool true) := fill_in hTs (by decide) (by decide) h106
                    generalize fill T vs [106] = F at q5 q106 ⊢
                    refine wpList_skip (skip_at q106 rfl rfl rfl (by rfl)) ?_
                    exact ⟨_, rfl, rfl, Below.refl _ _, trivial⟩
                  · intro vs wq hB hm
                    replace hTs : T.size = 138 := hTs
                    have h107 : vs 107 = undef := meets_get hm 11 rfl rfl rfl rfl
                    have h108 : vs 108 = undef := meets_get hm 12 rfl rfl rfl rfl
                    have h106 : vs 106 = .bool true := meets_get hm 10 rfl rfl rfl rfl
                    clear hm
                    have q107 : (fill T vs [107, 108, 106])[107]? = some (undef) := fill_in hTs (by decide) (by decide) h107
                    have q108 : (fill T vs [107, 108, 106])[108]? = some (undef) := fill_in hTs (by decide) (by decide) h108
                    have q106 : (fill T vs [107, 108, 106])[106]? = some (.bool true) := fill_in hTs (by decide) (by decide) h106
                    generalize fill T vs [107, 108, 106] = F at q107 q108 q106 ⊢
                    refine wpList_skip (skip_at q106 rfl rfl rfl (by rfl)) ?_
                    exact ⟨_, rfl, rfl, Below.refl _ _, trivial⟩
                  · intro vs wq hB hm
                    replace hTs : T.size = 138 := hTs
                    have h109 : vs 109 = undef := meets_get hm 13 rfl rfl rfl rfl
                    have h106 : vs 106 = .bool true := meets_get hm 10 rfl rfl rfl rfl
                    clear hm
                    have q109 : (fill T vs [109, 106])[109]? = some (undef) := fill_in hTs (by decide) (by decide) h109
                    have q106 : (fill T vs [109, 106])[106]? = some (.bool true) := fill_in hTs (by decide) (by decide) h106
                    generalize fill T vs [109, 106] = F at q109 q106 ⊢
                    refine wpList_skip (skip_at q106 rfl rfl rfl (by rfl)) ?_
                    exact ⟨_, rfl, rfl, Below.refl _ _, trivial⟩
                  · intro vs wq hB hm
                    replace hTs : T.size = 138 := hTs
                    have h106 : vs 106 = .bool true := meets_get hm 10 rfl rfl rfl rfl
                    have h110 : vs 110 = undef := meets_get hm 14 rfl rfl rfl rfl
                    have h97 : vs 97 = .bool true := meets_get hm 1 rfl rfl rfl rfl
                    clear hm
                    have q106 : (fill T vs [106, 110, 97])[106]? = some (.bool true) := fill_in hTs (by decide) (by decide) h106
                    have q110 : (fill T vs [106, 110, 97])[110]? = some (undef) := fill_in hTs (by decide) (by decide) h110
                    have q97 : (fill T vs [106, 110, 97])[97]? = some (.bool true) := fill_in hTs (by decide) (by decide) h97
                    generalize fill T vs [106, 110, 97] = F at q106 q110 q97 ⊢
                    go_wp2
                    exact ⟨_, rfl, rfl, Below.refl _ _, trivial⟩
                  · intro vs wq hB hm
                    replace hTs : T.size = 138 := hTs
                    have h111 : vs 111 = .bool true := meets_get hm 15 rfl rfl rfl rfl
                    have h97 : vs 97 = .bool true := meets_get hm 1 rfl rfl rfl rfl
                    clear hm
                    have q111 : (fill T vs [111, 97])[111]? = some (.bool true) := fill_in hTs (by decide) (by decide) h111
                    have q97 : (fill T vs [111, 97])[97]? = some (.bool true) := fill_in hTs (by decide) (by decide) h97
                    generalize fill T vs [111, 97] = F at q111 q97 ⊢
                    go_wp2
                    exact ⟨_, rfl, rfl, Below.refl _ _, trivial⟩
                  · intro vs wq hB hm
                    replace hTs : T.size = 138 := hTs
                    have h112 : vs 112 = .bool true := meets_get hm 16 rfl rfl rfl rfl
                    clear hm
                    have q3 : (fill T vs [112])[3]? = some (.pointer (some ⟨w.heap.size, 0, none⟩)) := fill_out hTs (by decide) (by decide) (hTk 3)
                    have q112 : (fill T vs [112])[112]? = some (.bool true) := fill_in hTs (by decide) (by decide) h112
                    generalize fill T vs [112] = F at q3 q112 ⊢
                    refine wpList_skip (skip_at q112 rfl rfl rfl (by rfl)) ?_
                    exact ⟨_, rfl, rfl, Below.refl _ _, trivial⟩
                  · intro vs wq hB hm
                    replace hTs : T.size = 138 := hTs
                    have h112 : vs 112 = .bool true := meets_get hm 16 rfl rfl rfl rfl
                    clear hm
                    have q5 : (fill T vs [112])[5]? = some (.pointer (some ⟨w.heap.size + 1 + 1, 0, none⟩)) := fill_out hTs (by decide) (by decide) (hTk 5)
                    have q112 : (fill T vs [112])[112]? = some (.bool true) := fill_in hTs (by decide) (by decide) h112
                    generalize fill T vs [112] = F at q5 q112 ⊢
                    refine wpList_skip (skip_at q112 rfl rfl rfl (by rfl)) ?_
                    exact ⟨_, rfl, rfl, Below.refl _ _, trivial⟩
                  · intro vs wq hB hm
                    replace hTs : T.size = 138 := hTs
                    have h113 : vs 113 = undef := meets_get hm 17 rfl rfl rfl rfl
                    have h114 : vs 114 = undef := meets_get hm 18 rfl rfl rfl rfl
                    have h112 : vs 112 = .bool true := meets_get hm 16 rfl rfl rfl rfl
                    clear hm
                    have q113 : (fill T vs [113, 114, 112])[113]? = some (undef) := fill_in hTs (by decide) (by decide) h113
                    have q114 : (fill T vs [113, 114, 112])[114]? = some (undef) := fill_in hTs (by decide) (by decide) h114
                    have q112 : (fill T vs [113, 114, 112])[112]? = some (.bool true) := fill_in hTs (by decide) (by decide) h112
                    generalize fill T vs [113, 114, 112] = F at q113 q114 q112 ⊢
                    refine wpList_skip (skip_at q112 rfl rfl rfl (by rfl)) ?_
                    exact ⟨_, rfl, rfl, Below.refl _ _, trivial⟩
                  · intro vs wq hB hm
                    replace hTs : T.size = 138 := hTs
                    have h112 : vs 112 = .bool true := meets_get hm 16 rfl rfl rfl rfl
                    have h115 : vs 115 = undef := meets_get hm 19 rfl rfl rfl rfl
                    have h97 : vs 97 = .bool true := meets_get hm 1 rfl rfl rfl rfl
                    clear hm
                    have q112 : (fill T vs [112, 115, 97])[112]? = some (.bool true) := fill_in hTs (by decide) (by decide) h112
                    have q115 : (fill T vs [112, 115, 97])[115]? = some (undef) := fill_in hTs (by decide) (by decide) h115
                    have q97 : (fill T vs [112, 115, 97])[97]? = some (.bool true) := fill_in hTs (by decide) (by decide) h97
                    generalize fill T vs [112, 115, 97] = F at q112 q115 q97 ⊢
                    go_wp2
                    exact ⟨_, rfl, rfl, Below.refl _ _, trivial⟩
                  · intro vs wq hB hm
                    replace hTs : T.size = 138 := hTs
                    have h97 : vs 97 = .bool true := meets_get hm 1 rfl rfl rfl rfl
                    have h116 : vs 116 = .bool true := meets_get hm 20 rfl rfl rfl rfl
                    clear hm
                    have q97 : (fill T vs [97, 116])[97]? = some (.bool true) := fill_in hTs (by decide) (by decide) h97
                    have q116 : (fill T vs [97, 116])[116]? = some (.bool true) := fill_in hTs (by decide) (by decide) h116
                    generalize fill T vs [97, 116] = F at q97 q116 ⊢
                    go_wp2
                    exact ⟨_, rfl, rfl, Below.refl _ _, trivial⟩
                  · intro vs wq hB hm
                    replace hTs : T.size = 138 := hTs
                    have h117 : vs 117 = .bool true := meets_get hm 21 rfl rfl rfl rfl
                    clear hm
                    have q117 : (fill T vs [117])[117]? = some (.bool true) := fill_in hTs (by decide) (by decide) h117
                    generalize fill T vs [117] = F at q117 ⊢
                    go_wp2
                    exact ⟨_, rfl, rfl, Below.refl _ _, trivial⟩
                  · intro vs wq hB hm
                    replace hTs : T.size = 138 := hTs
                    have hl : look wq (w.heap.size) = some (.cells (LA a) 87 (0, 0)) := by rw [look_below hB (by first | omega | (simp only [World.size_alloc]; omega) | exact look_lt (by assumption) | (simp only [World.size_alloc, World.size_setCell]; omega) | (simp; omega))]; first | assumption | go_simp
                    have h118 : vs 118 = .bool true := meets_get hm 22 rfl rfl rfl rfl
                    clear hm
                    have q3 : (fill T vs [118])[3]? = some (.pointer (some ⟨w.heap.size, 0, none⟩)) := fill_out hTs (by decide) (by decide) (hTk 3)
                    have q118 : (fill T vs [118])[118]? = some (.bool true) := fill_in hTs (by decide) (by decide) h118
                    generalize fill T vs [118] = F at q3 q118 ⊢
                    go_wp2
                    exact ⟨_, rfl, rfl, Below.refl _ _, trivial⟩
                  · intro vs wq hB hm
                    replace hTs : T.size = 138 := hTs
                    have h119 : vs 119 = .agg (LA a) := meets_get hm 23 rfl rfl rfl rfl
                    have h118 : vs 118 = .bool true := meets_get hm 22 rfl rfl rfl rfl
                    clear hm
                    have q119 : (fill T vs [119, 118])[119]? = some (.agg (LA a)) := fill_in hTs (by decide) (by decide) h119
                    have q118 : (fill T vs [119, 118])[118]? = some (.bool true) := fill_in hTs (by decide) (by decide) h118
                    generalize fill T vs [119, 118] = F at q119 q118 ⊢
                    go_wp2_with fail
                    refine (lpast_is a P hPh.out _).mono ?_
                    rintro e w1 ⟨rfl, hb1⟩
                    go_wp2
                    exact ⟨_, rfl, rfl, hb1, trivial⟩
                  · intro vs wq hB hm
                    replace hTs : T.size = 138 := hTs
                    have h118 : vs 118 = .bool true := meets_get hm 22 rfl rfl rfl rfl
                    clear hm
                    have q3 : (fill T vs [118])[3]? = some (.pointer (some ⟨w.heap.size, 0, none⟩)) := fill_out hTs (by decide) (by decide) (hTk 3)
                    have q118 : (fill T vs [118])[118]? = some (.bool true) := fill_in hTs (by decide) (by decide) h118
                    generalize fill T vs [118] = F at q3 q118 ⊢
                    go_wp2
                    exact ⟨_, rfl, rfl, Below.refl _ _, trivial⟩
                  · intro vs wq hB hm
                    replace hTs : T.size = 138 := hTs
                    have hl : look wq (w.heap.size) = some (.cells (LA a) 87 (0, 0)) := by rw [look_below hB (by first | omega | (simp only [World.size_alloc]; omega) | exact look_lt (by assumption) | (simp only [World.size_alloc, World.size_setCell]; omega) | (simp; omega))]; first | assumption | go_simp
                    have h121 : vs 121 = .pointer (some ⟨w.heap.size, 5, none⟩) := meets_get hm 25 rfl rfl rfl rfl
                    have h118 : vs 118 = .bool true := meets_get hm 22 rfl rfl rfl rfl
                    clear hm
                    have q121 : (fill T vs [121, 118])[121]? = some (.pointer (some ⟨w.heap.size, 5, none⟩)) := fill_in hTs (by decide) (by decide) h121
                    have q118 : (fill T vs [121, 118])[118]? = some (.bool true) := fill_in hTs (by decide) (by decide) h118
                    generalize fill T vs [121, 118] = F at q121 q118 ⊢
                    go_wp2
                    exact ⟨_, rfl, rfl, Below.refl _ _, trivial⟩
                  · intro vs wq hB hm
                    replace hTs : T.size = 138 := hTs
                    have h120 : vs 120 = .agg (VA P) := meets_get hm 24 rfl rfl rfl rfl
                    have h122 : vs 122 = .agg (VA a.deps) := meets_get hm 26 rfl rfl rfl rfl
                    have h118 : vs 118 = .bool true := meets_get hm 22 rfl rfl rfl rfl
                    clear hm
                    have q120 : (fill T vs [120, 122, 118])[120]? = some (.agg (VA P)) := fill_in hTs (by decide) (by decide) h120
                    have q122 : (fill T vs [120, 122, 118])[122]? = some (.agg (VA a.deps)) := fill_in hTs (by decide) (by decide) h122
                    have q118 : (fill T vs [120, 122, 118])[118]? = some (.bool true) := fill_in hTs (by decide) (by decide) h118
                    generalize fill T vs [120, 122, 118] = F at q120 q122 q118 ⊢
                    go_wp2_with fail
                    refine (covers_any P a.deps _).mono ?_
                    rintro e w1 ⟨rfl, hb1⟩
                    go_wp2
                    exact ⟨_, rfl, rfl, hb1, trivial⟩
                  · intro vs wq hB hm
                    replace hTs : T.size = 138 := hTs
                    have h118 : vs 118 = .bool true := meets_get hm 22 rfl rfl rfl rfl
                    have h123 : vs 123 = .bool true := meets_get hm 27 rfl rfl rfl rfl
                    clear hm
                    have q118 : (fill T vs [118, 123])[118]? = some (.bool true) := fill_in hTs (by decide) (by decide) h118
                    have q123 : (fill T vs [118, 123])[123]? = some (.bool true) := fill_in hTs (by decide) (by decide) h123
                    generalize fill T vs [118, 123] = F at q118 q123 ⊢
                    go_wp2
                    exact ⟨_, rfl, rfl, Below.refl _ _, trivial⟩
                  · intro vs wq hB hm
                    replace hTs : T.size = 138 := hTs
                    have h124 : vs 124 = .bool true := meets_get hm 28 rfl rfl rfl rfl
                    clear hm
                    have q124 : (fill T vs [124])[124]? = some (.bool true) := fill_in hTs (by decide) (by decide) h124
                    generalize fill T vs [124] = F at q124 ⊢
                    go_wp2
                    exact ⟨_, rfl, rfl, Below.refl _ _, trivial⟩
                  · intro vs wq hB hm
                    replace hTs : T.size = 138 := hTs
                    have hl : look wq (w.heap.size) = some (.cells (LA a) 87 (0, 0)) := by rw [look_below hB (by first | omega | (simp only [World.size_alloc]; omega) | exact look_lt (by assumption) | (simp only [World.size_alloc, World.size_setCell]; omega) | (simp; omega))]; first | assumption | go_simp
                    have h125 : vs 125 = .bool true := meets_get hm 29 rfl rfl rfl rfl
                    clear hm
                    have q3 : (fill T vs [125])[3]? = some (.pointer (some ⟨w.heap.size, 0, none⟩)) := fill_out hTs (by decide) (by decide) (hTk 3)
                    have q125 : (fill T vs [125])[125]? = some (.bool true) := fill_in hTs (by decide) (by decide) h125
                    generalize fill T vs [125] = F at q3 q125 ⊢
                    go_wp2
                    exact ⟨_, rfl, rfl, Below.refl _ _, trivial⟩
                  · intro vs wq hB hm
                    replace hTs : T.size = 138 := hTs
                    have h126 : vs 126 = .agg (LA a) := meets_get hm 30 rfl rfl rfl rfl
                    have h125 : vs 125 = .bool true := meets_get hm 29 rfl rfl rfl rfl
                    clear hm
                    have q126 : (fill T vs [126, 125])[126]? = some (.agg (LA a)) := fill_in hTs (by decide) (by decide) h126
                    have q125 : (fill T vs [126, 125])[125]? = some (.bool true) := fill_in hTs (by decide) (by decide) h125
                    generalize fill T vs [126, 125] = F at q126 q125 ⊢
                    go_wp2_with fail
                    refine (lpast_is a P hPh.out _).mono ?_
                    rintro e w1 ⟨rfl, hb1⟩
                    go_wp2
                    exact ⟨_, rfl, rfl, hb1, trivial⟩
                  · intro vs wq hB hm
                    replace hTs : T.size = 138 := hTs
                    have hl : look wq (w.heap.size) = some (.cells (LA a) 87 (0, 0)) := by rw [look_below hB (by first | omega | (simp only [World.size_alloc]; omega) | exact look_lt (by assumption) | (simp only [World.size_alloc, World.size_setCell]; omega) | (simp; omega))]; first | assumption | go_simp
                    have h125 : vs 125 = .bool true := meets_get hm 29 rfl rfl rfl rfl
                    clear hm
                    have q3 : (fill T vs [125])[3]? = some (.pointer (some ⟨w.heap.size, 0, none⟩)) := fill_out hTs (by decide) (by decide) (hTk 3)
                    have q125 : (fill T vs [125])[125]? = some (.bool true) := fill_in hTs (by decide) (by decide) h125
                    generalize fill T vs [125] = F at q3 q125 ⊢
                    go_wp2
                    exact ⟨_, rfl, rfl, Below.refl _ _, trivial⟩
                  · intro vs wq hB hm
                    replace hTs : T.size = 138 := hTs
                    have h128 : vs 128 = .agg (LA a) := meets_get hm 32 rfl rfl rfl rfl
                    have h125 : vs 125 = .bool true := meets_get hm 29 rfl rfl rfl rfl
                    clear hm
                    have q128 : (fill T vs [128, 125])[128]? = some (.agg (LA a)) := fill_in hTs (by decide) (by decide) h128
                    have q125 : (fill T vs [128, 125])[125]? = some (.bool true) := fill_in hTs (by decide) (by decide) h125
                    generalize fill T vs [128, 125] = F at q128 q125 ⊢
                    go_wp2_with fail
                    refine (ldot_any a _).mono ?_
                    rintro e w1 ⟨rfl, hb1⟩
                    go_wp2
                    exact ⟨_, rfl, rfl, hb1, trivial⟩
                  · intro vs wq hB hm
                    replace hTs : T.size = 138 := hTs
                    have h127 : vs 127 = .agg (VA P) := meets_get hm 31 rfl rfl rfl rfl
                    have h129 : vs 129 = .agg #[.int .i64 a.node, .int .u32 (a.n : Int)] := meets_get hm 33 rfl rfl rfl rfl
                    have h125 : vs 125 = .bool true := meets_get hm 29 rfl rfl rfl rfl
                    clear hm
                    have q127 : (fill T vs [127, 129, 125])[127]? = some (.agg (VA P)) := fill_in hTs (by decide) (by decide) h127
                    have q129 : (fill T vs [127, 129, 125])[129]? = some (.agg #[.int .i64 a.node, .int .u32 (a.n : Int)]) := fill_in hTs (by decide) (by decide) h129
                    have q125 : (fill T vs [127, 129, 125])[125]? = some (.bool true) := fill_in hTs (by decide) (by decide) h125
                    generalize fill T vs [127, 129, 125] = F at q127 q129 q125 ⊢
                    go_wp2_with fail
                    refine (has_any P a.node a.n _).mono ?_
                    rintro e w1 ⟨rfl, hb1⟩
                    go_wp2
                    exact ⟨_, rfl, rfl, hb1, trivial⟩
                  · intro vs wq hB hm
                    replace hTs : T.size = 138 := hTs
                    have h125 : vs 125 = .bool true := meets_get hm 29 rfl rfl rfl rfl
                    have h130 : vs 130 = .bool true := meets_get hm 34 rfl rfl rfl rfl
                    clear hm
                    have q125 : (fill T vs [125, 130])[125]? = some (.bool true) := fill_in hTs (by decide) (by decide) h125
                    have q130 : (fill T vs [125, 130])[130]? = some (.bool true) := fill_in hTs (by decide) (by decide) h130
                    generalize fill T vs [125, 130] = F at q125 q130 ⊢
                    go_wp2
                    exact ⟨_, rfl, rfl, Below.refl _ _, trivial⟩
                  · intro vs wq hB hm
                    replace hTs : T.size = 138 := hTs
                    have h131 : vs 131 = .bool true := meets_get hm 35 rfl rfl rfl rfl
                    clear hm
                    have q131 : (fill T vs [131])[131]? = some (.bool true) := fill_in hTs (by decide) (by decide) h131
                    generalize fill T vs [131] = F at q131 ⊢
                    go_wp2
                    exact ⟨_, rfl, rfl, Below.refl _ _, trivial⟩
                  · intro vs wq hB hm
                    replace hTs : T.size = 138 := hTs
                    have hl : look wq (w.heap.size) = some (.cells (LA a) 87 (0, 0)) := by rw [look_below hB (by first | omega | (simp only [World.size_alloc]; omega) | exact look_lt (by assumption) | (simp only [World.size_alloc, World.size_setCell]; omega) | (simp; omega))]; first | assumption | go_simp
                    have h132 : vs 132 = .bool true := meets_get hm 36 rfl rfl rfl rfl
                    clear hm
                    have q3 : (fill T vs [132])[3]? = some (.pointer (some ⟨w.heap.size, 0, none⟩)) := fill_out hTs (by decide) (by decide) (hTk 3)
                    have q132 : (fill T vs [132])[132]? = some (.bool true) := fill_in hTs (by decide) (by decide) h132
                    generalize fill T vs [132] = F at q3 q132 ⊢
                    go_wp2
                    exact ⟨_, rfl, rfl, Below.refl _ _, trivial⟩
                  · intro vs wq hB hm
                    replace hTs : T.size = 138 := hTs
                    have hl : look wq (w.heap.size) = some (.cells (LA a) 87 (0, 0)) := by rw [look_below hB (by first | omega | (simp only [World.size_alloc]; omega) | exact look_lt (by assumption) | (simp only [World.size_alloc, World.size_setCell]; omega) | (simp; omega))]; first | assumption | go_simp
                    have h132 : vs 132 = .bool true := meets_get hm 36 rfl rfl rfl rfl
                    clear hm
                    have q3 : (fill T vs [132])[3]? = some (.pointer (some ⟨w.heap.size, 0, none⟩)) := fill_out hTs (by decide) (by decide) (hTk 3)
                    have q132 : (fill T vs [132])[132]? = some (.bool true) := fill_in hTs (by decide) (by decide) h132
                    generalize fill T vs [132] = F at q3 q132 ⊢
                    go_wp2
                    exact ⟨_, rfl, rfl, Below.refl _ _, trivial⟩
                  · intro vs wq hB hm
                    replace hTs : T.size = 138 := hTs
                    have h133 : vs 133 = .agg (LA a) := meets_get hm 37 rfl rfl rfl rfl
                    have h134 : vs 134 = .agg (LA a) := meets_get hm 38 rfl rfl rfl rfl
                    have h132 : vs 132 = .bool true := meets_get hm 36 rfl rfl rfl rfl
                    clear hm
                    have q133 : (fill T vs [133, 134, 132])[133]? = some (.agg (LA a)) := fill_in hTs (by decide) (by decide) h133
                    have q134 : (fill T vs [133, 134, 132])[134]? = some (.agg (LA a)) := fill_in hTs (by decide) (by decide) h134
                    have q132 : (fill T vs [133, 134, 132])[132]? = some (.bool true) := fill_in hTs (by decide) (by decide) h132
                    generalize fill T vs [133, 134, 132] = F at q133 q134 q132 ⊢
                    go_wp2_with fail
                    refine (lbefore_any a a _).mono ?_
                    rintro e w1 ⟨rfl, hb1⟩
                    go_wp2
                    exact ⟨_, rfl, rfl, hb1, trivial⟩
                  · intro vs wq hB hm
                    replace hTs : T.size = 138 := hTs
                    have h135 : vs 135 = .bool false := meets_get hm 39 rfl rfl rfl rfl
                    have h132 : vs 132 = .bool true := meets_get hm 36 rfl rfl rfl rfl
                    clear hm
                    have q135 : (fill T vs [135, 132])[135]? = some (.bool false) := fill_in hTs (by decide) (by decide) h135
                    have q132 : (fill T vs [135, 132])[132]? = some (.bool true) := fill_in hTs (by decide) (by decide) h132
                    generalize fill T vs [135, 132] = F at q135 q132 ⊢
                    go_wp2
                    exact ⟨_, rfl, rfl, Below.refl _ _, trivial⟩
                  · intro vs wq hB hm
                    replace hTs : T.size = 138 := hTs
                    have h132 : vs 132 = .bool true := meets_get hm 36 rfl rfl rfl rfl
                    have h136 : vs 136 = .bool true := meets_get hm 40 rfl rfl rfl rfl
                    clear hm
                    have q132 : (fill T vs [132, 136])[132]? = some (.bool true) := fill_in hTs (by decide) (by decide) h132
                    have q136 : (fill T vs [132, 136])[136]? = some (.bool true) := fill_in hTs (by decide) (by decide) h136
                    generalize fill T vs [132, 136] = F at q132 q136 ⊢
                    go_wp2
                    exact ⟨_, rfl, rfl, Below.refl _ _, trivial⟩
                  intro vs wq hB hm hne hlo
                  have h96 : vs 96 = .bool true := hm 0 _ _ _ rfl rfl rfl
                  have h97 : vs 97 = .bool true := hm 1 _ _ _ rfl rfl rfl
                  have h98 : vs 98 = .bool true := hm 2 _ _ _ rfl rfl rfl
                  have h99 : vs 99 = .bool false := hm 3 _ _ _ rfl rfl rfl
                  have h100 : vs 100 = .bool false := hm 4 _ _ _ rfl rfl rfl
                  have h101 : vs 101 = .agg (LA a) := hm 5 _ _ _ rfl rfl rfl
                  have h102 : vs 102 = .agg (LA b) := hm 6 _ _ _ rfl rfl rfl
                  have h103 : vs 103 = .bool false := hm 7 _ _ _ rfl rfl rfl
                  have h104 : vs 104 = .bool true := hm 8 _ _ _ rfl rfl rfl
                  have h105 : vs 105 = .bool true := hm 9 _ _ _ rfl rfl rfl
                  have h106 : vs 106 = .bool true := hm 10 _ _ _ rfl rfl rfl
                  have h107 : vs 107 = undef := hm 11 _ _ _ rfl rfl rfl
                  have h108 : vs 108 = undef := hm 12 _ _ _ rfl rfl rfl
                  have h109 : vs 109 = undef := hm 13 _ _ _ rfl rfl rfl
                  have h110 : vs 110 = undef := hm 14 _ _ _ rfl rfl rfl
                  have h111 : vs 111 = .bool true := hm 15 _ _ _ rfl rfl rfl
                  have h112 : vs 112 = .bool true := hm 16 _ _ _ rfl rfl rfl
                  have h113 : vs 113 = undef := hm 17 _ _ _ rfl rfl rfl
                  have h114 : vs 114 = undef := hm 18 _ _ _ rfl rfl rfl
                  have h115 : vs 115 = undef := hm 19 _ _ _ rfl rfl rfl
                  have h116 : vs 116 = .bool true := hm 20 _ _ _ rfl rfl rfl
                  have h117 : vs 117 = .bool true := hm 21 _ _ _ rfl rfl rfl
                  have h118 : vs 118 = .bool true := hm 22 _ _ _ rfl rfl rfl
                  have h119 : vs 119 = .agg (LA a) := hm 23 _ _ _ rfl rfl rfl
                  have h120 : vs 120 = .agg (VA P) := hm 24 _ _ _ rfl rfl rfl
                  have h121 : vs 121 = .pointer (some ⟨w.heap.size, 5, none⟩) := hm 25 _ _ _ rfl rfl rfl
                  have h122 : vs 122 = .agg (VA a.deps) := hm 26 _ _ _ rfl rfl rfl
                  have h123 : vs 123 = .bool true := hm 27 _ _ _ rfl rfl rfl
                  have h124 : vs 124 = .bool true := hm 28 _ _ _ rfl rfl rfl
                  have h125 : vs 125 = .bool true := hm 29 _ _ _ rfl rfl rfl
                  have h126 : vs 126 = .agg (LA a) := hm 30 _ _ _ rfl rfl rfl
                  have h127 : vs 127 = .agg (VA P) := hm 31 _ _ _ rfl rfl rfl
                  have h128 : vs 128 = .agg (LA a) := hm 32 _ _ _ rfl rfl rfl
                  have h129 : vs 129 = .agg #[.int .i64 a.node, .int .u32 (a.n : Int)] := hm 33 _ _ _ rfl rfl rfl
                  have h130 : vs 130 = .bool true := hm 34 _ _ _ rfl rfl rfl
                  have h131 : vs 131 = .bool true := hm 35 _ _ _ rfl rfl rfl
                  have h132 : vs 132 = .bool true := hm 36 _ _ _ rfl rfl rfl
                  have h133 : vs 133 = .agg (LA a) := hm 37 _ _ _ rfl rfl rfl
                  have h134 : vs 134 = .agg (LA a) := hm 38 _ _ _ rfl rfl rfl
                  have h135 : vs 135 = .bool false := hm 39 _ _ _ rfl rfl rfl
                  have h136 : vs 136 = .bool true := hm 40 _ _ _ rfl rfl rfl
                  have h137 : vs 137 = .bool true := hm 41 _ _ _ rfl rfl rfl
                  clear hne hlo
                  simp only [fill, List.filterMap, List.take, List.drop, List.setIfInBounds_toArray, List.set_cons_zero, List.set_cons_succ, h96, h97, h98, h99, h100, h101, h102, h103, h104, h105, h106, h107, h108, h109, h110, h111, h112, h113, h114, h115, h116, h117, h118, h119, h120, h121, h122, h123, h124, h125, h126, h127, h128, h129, h130, h131, h132, h133, h134, h135, h136, h137]
                  clear hm h96 h97 h98 h99 h100 h101 h102 h103 h104 h105 h106 h107 h108 h109 h110 h111 h112 h113 h114 h115 h116 h117 h118 h119 h120 h121 h122 h123 h124 h125 h126 h127 h128 h129 h130 h131 h132 h133 h134 h135 h136 h137
                  have hB10 := belT hB9 hB
                  go_wp2
                  go_ret
                  exact ⟨rfl, hB10⟩
                · cases hbc : beforeL b c
                  · skip
                    refine wp_region_wordsT mixed 42 ([] :: [96] :: [97] :: [98, 97] :: [99, 97] :: [100] :: [100] :: [101, 102, 100] :: [103, 100] :: [100, 104, 97] :: [105, 97] :: [106] :: [106] :: [107, 108, 106] :: [109, 106] :: [106, 110, 97] :: [111, 97] :: [112] :: [112] :: [113, 114, 112] :: [112, 115, 97] :: [97, 116] :: [117] :: [118] :: [119, 118] :: [118] :: [121, 118] :: [120, 122, 118] :: [118, 123] :: [124] :: [125] :: [126, 125] :: [125] :: [128, 125] :: [127, 129, 125] :: [125, 130] :: [131] :: [132] :: [132] :: [133, 134, 132] :: [135, 132] :: [132, 136] :: []) (isV (.bool true) :: isV (.bool true) :: isV (.bool true) :: isV (.bool false) :: isV (.bool false) :: isV (.agg (LA a)) :: isV (.agg (LA b)) :: isV (.bool true) :: isV (.bool false) :: isV (.bool false) :: isV (.bool false) :: isV (.agg (LA b)) :: isV (.agg (LA c)) :: isV (.bool false) :: isV (.bool true) :: isV (.bool true) :: isV (.bool true) :: isV (undef) :: isV (undef) :: isV (undef) :: isV (.bool true) :: isV (.bool true) :: isV (.bool true) :: isV (.agg (LA a)) :: isV (.agg (VA P)) :: isV (.pointer (some ⟨w.heap.size, 5, none⟩)) :: isV (.agg (VA a.deps)) :: isV (.bool true) :: isV (.bool true) :: isV (.bool true) :: isV (.agg (LA a)) :: isV (.agg (VA P)) :: isV (.agg (LA a)) :: isV (.agg #[.int .i64 a.node, .int .u32 (a.n : Int)]) :: isV (.bool true) :: isV (.bool true) :: isV (.bool true) :: isV (.agg (LA a)) :: isV (.agg (LA a)) :: isV (.bool false) :: isV (.bool true) :: isV (.bool true) :: []) (by decide) (by kernel_rfl)
                      ⟨stab_isV _, stab_isV _, stab_isV _, stab_isV _, stab_isV _, stab_isV _, stab_isV _, stab_isV _, stab_isV _, stab_isV _, stab_isV _, stab_isV _, stab_isV _, stab_isV _, stab_isV _, stab_isV _, stab_isV _, stab_isV _, stab_isV _, stab_isV _, stab_isV _, stab_isV _, stab_isV _, stab_isV _, stab_isV _, stab_isV _, stab_isV _, stab_isV _, stab_isV _, stab_isV _, stab_isV _, stab_isV _, stab_isV _, stab_isV _, stab_isV _, stab_isV _, stab_isV _, stab_isV _, stab_isV _, stab_isV _, stab_isV _, stab_isV _, trivial⟩ (fun T hTs hTk => ⟨?_, ?_, ?_, ?_, ?_, ?_, ?_, ?_, ?_, ?_, ?_, ?_, ?_, ?_, ?_, ?_, ?_, ?_, ?_, ?_, ?_, ?_, ?_, ?_, ?_, ?_, ?_, ?_, ?_, ?_, ?_, ?_, ?_, ?_, ?_, ?_, ?_, ?_, ?_, ?_, ?_, ?_, trivial⟩) ?_
                    · intro vs wq hB hm
                      replace hTs : T.size = 138 := hTs
                      clear hm
                      generalize fill T vs [] = F at ⊢
                      go_wp2_with fail
                      refine (alive05 _).mono ?_
                      rintro e w1 ⟨rfl, hb1⟩
                      go_wp2
                      exact ⟨_, rfl, rfl, hb1, trivial⟩
                    · intro vs wq hB hm
                      replace hTs : T.size = 138 := hTs
                      have h96 : vs 96 = .bool true := meets_get hm 0 rfl rfl rfl rfl
                      clear hm
                      have q96 : (fill T vs [96])[96]? = some (.bool true) := fill_in hTs (by decide) (by decide) h96
                      generalize fill T vs [96] = F at q96 ⊢
                      go_wp2
                      exact ⟨_, rfl, rfl, Below.refl _ _, trivial⟩
                    · intro vs wq hB hm
                      replace hTs : T.size = 138 := hTs
                      have h97 : vs 97 = .bool true := meets_get hm 1 rfl rfl rfl rfl
                      clear hm
                      have q10 : (fill T vs [97])[10]? = some (.bool true) := fill_out hTs (by decide) (by decide) (hTk 10)
                      have q97 : (fill T vs [97])[97]? = some (.bool true) := fill_in hTs (by decide) (by decide) h97
                      generalize fill T vs [97] = F at q10 q97 ⊢
                      go_wp2
                      exact ⟨_, rfl, rfl, Below.refl _ _, trivial⟩
                    · intro vs wq hB hm
                      replace hTs : T.size = 138 := hTs
                      have h98 : vs 98 = .bool true := meets_get hm 2 rfl rfl rfl rfl
                      have h97 : vs 97 = .bool true := meets_get hm 1 rfl rfl rfl rfl
                      clear hm
                      have q98 : (fill T vs [98, 97])[98]? = some (.bool true) := fill_in hTs (by decide) (by decide) h98
                      have q97 : (fill T vs [98, 97])[97]? = some (.bool true) := fill_in hTs (by decide) (by decide) h97
                      generalize fill T vs [98, 97] = F at q98 q97 ⊢
                      go_wp2
                      exact ⟨_, rfl, rfl, Below.refl _ _, trivial⟩
                    · intro vs wq hB hm
                      replace hTs : T.size = 138 := hTs
                      have h99 : vs 99 = .bool false := meets_get hm 3 rfl rfl rfl rfl
                      have h97 : vs 97 = .bool true := meets_get hm 1 rfl rfl rfl rfl
                      clear hm
                      have q99 : (fill T vs [99, 97])[99]? = some (.bool false) := fill_in hTs (by decide) (by decide) h99
                      have q97 : (fill T vs [99, 97])[97]? = some (.bool true) := fill_in hTs (by decide) (by decide) h97
                      generalize fill T vs [99, 97] = F at q99 q97 ⊢
                      go_wp2
                      exact ⟨_, rfl, rfl, Below.refl _ _, trivial⟩
                    · intro vs wq hB hm
                      replace hTs : T.size = 138 := hTs
                      have hl : look wq (w.heap.size) = some (.cells (LA a) 87 (0, 0)) := by rw [look_below hB (by first | omega | (simp only [World.size_alloc]; omega) | exact look_lt (by assumption) | (simp only [World.size_alloc, World.size_setCell]; omega) | (simp; omega))]; first | assumption | go_simp
                      have h100 : vs 100 = .bool false := meets_get hm 4 rfl rfl rfl rfl
                      clear hm
                      have q3 : (fill T vs [100])[3]? = some (.pointer (some ⟨w.heap.size, 0, none⟩)) := fill_out hTs (by decide) (by decide) (hTk 3)
                      have q100 : (fill T vs [100])[100]? = some (.bool false) := fill_in hTs (by decide) (by decide) h100
                      generalize fill T vs [100] = F at q3 q100 ⊢
                      go_wp2
                      exact ⟨_, rfl, rfl, Below.refl _ _, trivial⟩
                    · intro vs wq hB hm
                      replace hTs : T.size = 138 := hTs
                      have hl : look wq (w.heap.size + 1) = some (.cells (LA b) 87 (0, 0)) := by rw [look_below hB (by first | omega | (simp only [World.size_alloc]; omega) | exact look_lt (by assumption) | (simp only [World.size_alloc, World.size_setCell]; omega) | (simp; omega))]; first | assumption | go_simp
                      have h100 : vs 100 = .bool false := meets_get hm 4 rfl rfl rfl rfl
                      clear hm
                      have q4 : (fill T vs [100])[4]? = some (.pointer (some ⟨w.heap.size + 1, 0, none⟩)) := fill_out hTs (by decide) (by decide) (hTk 4)
                      have q100 : (fill T vs [100])[100]? = some (.bool false) := fill_in hTs (by decide) (by decide) h100
                      generalize fill T vs [100] = F at q4 q100 ⊢
                      go_wp2
                      exact ⟨_, rfl, rfl, Below.refl _ _, trivial⟩
                    · intro vs wq hB hm
                      replace hTs : T.size = 138 := hTs
                      have h101 : vs 101 = .agg (LA a) := meets_get hm 5 rfl rfl rfl rfl
                      have h102 : vs 102 = .agg (LA b) := meets_get hm 6 rfl rfl rfl rfl
                      have h100 : vs 100 = .bool false := meets_get hm 4 rfl rfl rfl rfl
                      clear hm
                      have q101 : (fill T vs [101, 102, 100])[101]? = some (.agg (LA a)) := fill_in hTs (by decide) (by decide) h101
                      have q102 : (fill T vs [101, 102, 100])[102]? = some (.agg (LA b)) := fill_in hTs (by decide) (by decide) h102
                      have q100 : (fill T vs [101, 102, 100])[100]? = some (.bool false) := fill_in hTs (by decide) (by decide) h100
                      generalize fill T vs [101, 102, 100] = F at q101 q102 q100 ⊢
                      go_wp2_with fail
                      refine (lbefore_any a b _).mono ?_
                      rintro e w1 ⟨rfl, hb1⟩
                      go_wp2
                      exact ⟨_, rfl, rfl, hb1, trivial⟩
                    · intro vs wq hB hm
                      replace hTs : T.size = 138 := hTs
                      have h103 : vs 103 = .bool true := meets_get hm 7 rfl rfl rfl rfl
                      have h100 : vs 100 = .bool false := meets_get hm 4 rfl rfl rfl rfl
                      clear hm
                      have q103 : (fill T vs [103, 100])[103]? = some (.bool true) := fill_in hTs (by decide) (by decide) h103
                      have q100 : (fill T vs [103, 100])[100]? = some (.bool false) := fill_in hTs (by decide) (by decide) h100
                      generalize fill T vs [103, 100] = F at q103 q100 ⊢
                      go_wp2
                      exact ⟨_, rfl, rfl, Below.refl _ _, trivial⟩
                    · intro vs wq hB hm
                      replace hTs : T.size = 138 := hTs
                      have h100 : vs 100 = .bool false := meets_get hm 4 rfl rfl rfl rfl
                      have h104 : vs 104 = .bool false := meets_get hm 8 rfl rfl rfl rfl
                      have h97 : vs 97 = .bool true := meets_get hm 1 rfl rfl rfl rfl
                      clear hm
                      have q100 : (fill T vs [100, 104, 97])[100]? = some (.bool false) := fill_in hTs (by decide) (by decide) h100
                      have q104 : (fill T vs [100, 104, 97])[104]? = some (.bool false) := fill_in hTs (by decide) (by decide) h104
                      have q97 : (fill T vs [100, 104, 97])[97]? = some (.bool true) := fill_in hTs (by decide) (by decide) h97
                      generalize fill T vs [100, 104, 97] = F at q100 q104 q97 ⊢
                      go_wp2
                      exact ⟨_, rfl, rfl, Below.refl _ _, trivial⟩
                    · intro vs wq hB hm
                      replace hTs : T.size = 138 := hTs
                      have h105 : vs 105 = .bool false := meets_get hm 9 rfl rfl rfl rfl
                      have h97 : vs 97 = .bool true := meets_get hm 1 rfl rfl rfl rfl
                      clear hm
                      have q105 : (fill T vs [105, 97])[105]? = some (.bool false) := fill_in hTs (by decide) (by decide) h105
                      have q97 : (fill T vs [105, 97])[97]? = some (.bool true) := fill_in hTs (by decide) (by decide) h97
                      generalize fill T vs [105, 97] = F at q105 q97 ⊢
                      go_wp2
                      exact ⟨_, rfl, rfl, Below.refl _ _, trivial⟩
                    · intro vs wq hB hm
                      replace hTs : T.size = 138 := hTs
                      have hl : look wq (w.heap.size + 1) = some (.cells (LA b) 87 (0, 0)) := by rw [look_below hB (by first | omega | (simp only [World.size_alloc]; omega) | exact look_lt (by assumption) | (simp only [World.size_alloc, World.size_setCell]; omega) | (simp; omega))]; first | assumption | go_simp
                      have h106 : vs 106 = .bool false := meets_get hm 10 rfl rfl rfl rfl
                      clear hm
                      have q4 : (fill T vs [106])[4]? = some (.pointer (some ⟨w.heap.size + 1, 0, none⟩)) := fill_out hTs (by decide) (by decide) (hTk 4)
                      have q106 : (fill T vs [106])[106]? = some (.bool false) := fill_in hTs (by decide) (by decide) h106
                      generalize fill T vs [106] = F at q4 q106 ⊢
                      go_wp2
                      exact ⟨_, rfl, rfl, Below.refl _ _, trivial⟩
                    · intro vs wq hB hm
                      replace hTs : T.size = 138 := hTs
                      have hl : look wq (w.heap.size + 1 + 1) = some (.cells (LA c) 87 (0, 0)) := by rw [look_below hB (by first | omega | (simp only [World.size_alloc]; omega) | exact look_lt (by assumption) | (simp only [World.size_alloc, World.size_setCell]; omega) | (simp; omega))]; first | assumption | go_simp
                      have h106 : vs 106 = .bool false := meets_get hm 10 rfl rfl rfl rfl
                      clear hm
                      have q5 : (fill T vs [106])[5]? = some (.pointer (some ⟨w.heap.size + 1 + 1, 0, none⟩)) := fill_out hTs (by decide) (by decide) (hTk 5)
                      have q106 : (fill T vs [106])[106]? = some (.bool false) := fill_in hTs (by decide) (by decide) h106
                      generalize fill T vs [106] = F at q5 q106 ⊢
                      go_wp2
                      exact ⟨_, rfl, rfl, Below.refl _ _, trivial⟩
                    · intro vs wq hB hm
                      replace hTs : T.size = 138 := hTs
                      have h107 : vs 107 = .agg (LA b) := meets_get hm 11 rfl rfl rfl rfl
                      have h108 : vs 108 = .agg (LA c) := meets_get hm 12 rfl rfl rfl rfl
                      have h106 : vs 106 = .bool false := meets_get hm 10 rfl rfl rfl rfl
                      clear hm
                      have q107 : (fill T vs [107, 108, 106])[107]? = some (.agg (LA b)) := fill_in hTs (by decide) (by decide) h107
                      have q108 : (fill T vs [107, 108, 106])[108]? = some (.agg (LA c)) := fill_in hTs (by decide) (by decide) h108
                      have q106 : (fill T vs [107, 108, 106])[106]? = some (.bool false) := fill_in hTs (by decide) (by decide) h106
                      generalize fill T vs [107, 108, 106] = F at q107 q108 q106 ⊢
                      go_wp2_with fail
                      refine (lbefore_any b c _).mono ?_
                      rintro e w1 ⟨rfl, hb1⟩
                      go_wp2
                      exact ⟨_, rfl, rfl, hb1, trivial⟩
                    · intro vs wq hB hm
                      replace hTs : T.size = 138 := hTs
                      have h109 : vs 109 = .bool false := meets_get hm 13 rfl rfl rfl rfl
                      have h106 : vs 106 = .bool false := meets_get hm 10 rfl rfl rfl rfl
                      clear hm
                      have q109 : (fill T vs [109, 106])[109]? = some (.bool false) := fill_in hTs (by decide) (by decide) h109
                      have q106 : (fill T vs [109, 106])[106]? = some (.bool false) := fill_in hTs (by decide) (by decide) h106
                      generalize fill T vs [109, 106] = F at q109 q106 ⊢
                      go_wp2
                      exact ⟨_, rfl, rfl, Below.refl _ _, trivial⟩
                    · intro vs wq hB hm
                      replace hTs : T.size = 138 := hTs
                      have h106 : vs 106 = .bool false := meets_get hm 10 rfl rfl rfl rfl
                      have h110 : vs 110 = .bool true := meets_get hm 14 rfl rfl rfl rfl
                      have h97 : vs 97 = .bool true := meets_get hm 1 rfl rfl rfl rfl
                      clear hm
                      have q106 : (fill T vs [106, 110, 97])[106]? = some (.bool false) := fill_in hTs (by decide) (by decide) h106
                      have q110 : (fill T vs [106, 110, 97])[110]? = some (.bool true) := fill_in hTs (by decide) (by decide) h110
                      have q97 : (fill T vs [106, 110, 97])[97]? = some (.bool true) := fill_in hTs (by decide) (by decide) h97
                      generalize fill T vs [106, 110, 97] = F at q106 q110 q97 ⊢
                      go_wp2
                      exact ⟨_, rfl, rfl, Below.refl _ _, trivial⟩
                    · intro vs wq hB hm
                      replace hTs : T.size = 138 := hTs
                      have h111 : vs 111 = .bool true := meets_get hm 15 rfl rfl rfl rfl
                      have h97 : vs 97 = .bool true := meets_get hm 1 rfl rfl rfl rfl
                      clear hm
                      have q111 : (fill T vs [111, 97])[111]? = some (.bool true) := fill_in hTs (by decide) (by decide) h111
                      have q97 : (fill T vs [111, 97])[97]? = some (.bool true) := fill_in hTs (by decide) (by decide) h97
                      generalize fill T vs [111, 97] = F at q111 q97 ⊢
                      go_wp2
                      exact ⟨_, rfl, rfl, Below.refl _ _, trivial⟩
                    · intro vs wq hB hm
                      replace hTs : T.size = 138 := hTs
                      have h112 : vs 112 = .bool true := meets_get hm 16 rfl rfl rfl rfl
                      clear hm
                      have q3 : (fill T vs [112])[3]? = some (.pointer (some ⟨w.heap.size, 0, none⟩)) := fill_out hTs (by decide) (by decide) (hTk 3)
                      have q112 : (fill T vs [112])[112]? = some (.bool true) := fill_in hTs (by decide) (by decide) h112
                      generalize fill T vs [112] = F at q3 q112 ⊢
                      refine wpList_skip (skip_at q112 rfl rfl rfl (by rfl)) ?_
                      exact ⟨_, rfl, rfl, Below.refl _ _, trivial⟩
                    · intro vs wq hB hm
                      replace hTs : T.size = 138 := hTs
                      have h112 : vs 112 = .bool true := meets_get hm 16 rfl rfl rfl rfl
                      clear hm
                      have q5 : (fill T vs [112])[5]? = some (.pointer (some ⟨w.heap.size + 1 + 1, 0, none⟩)) := fill_out hTs (by decide) (by decide) (hTk 5)
                      have q112 : (fill T vs [112])[112]? = some (.bool true) := fill_in hTs (by decide) (by decide) h112
                      generalize fill T vs [112] = F at q5 q112 ⊢
                      refine wpList_skip (skip_at q112 rfl rfl rfl (by rfl)) ?_
                      exact ⟨_, rfl, rfl, Below.refl _ _, trivial⟩
                    · intro vs wq hB hm
                      replace hTs : T.size = 138 := hTs
                      have h113 : vs 113 = undef := meets_get hm 17 rfl rfl rfl rfl
                      have h114 : vs 114 = undef := meets_get hm 18 rfl rfl rfl rfl
                      have h112 : vs 112 = .bool true := meets_get hm 16 rfl rfl rfl rfl
                      clear hm
                      have q113 : (fill T vs [113, 114, 112])[113]? = some (undef) := fill_in hTs (by decide) (by decide) h113
                      have q114 : (fill T vs [113, 114, 112])[114]? = some (undef) := fill_in hTs (by decide) (by decide) h114
                      have q112 : (fill T vs [113, 114, 112])[112]? = some (.bool true) := fill_in hTs (by decide) (by decide) h112
                      generalize fill T vs [113, 114, 112] = F at q113 q114 q112 ⊢
                      refine wpList_skip (skip_at q112 rfl rfl rfl (by rfl)) ?_
                      exact ⟨_, rfl, rfl, Below.refl _ _, trivial⟩
                    · intro vs wq hB hm
                      replace hTs : T.size = 138 := hTs
                      have h112 : vs 112 = .bool true := meets_get hm 16 rfl rfl rfl rfl
                      have h115 : vs 115 = undef := meets_get hm 19 rfl rfl rfl rfl
                      have h97 : vs 97 = .bool true := meets_get hm 1 rfl rfl rfl rfl
                      clear hm
                      have q112 : (fill T vs [112, 115, 97])[112]? = some (.bool true) := fill_in hTs (by decide) (by decide) h112
                      have q115 : (fill T vs [112, 115, 97])[115]? = some (undef) := fill_in hTs (by decide) (by decide) h115
                      have q97 : (fill T vs [112, 115, 97])[97]? = some (.bool true) := fill_in hTs (by decide) (by decide) h97
                      generalize fill T vs [112, 115, 97] = F at q112 q115 q97 ⊢
                      go_wp2
                      exact ⟨_, rfl, rfl, Below.refl _ _, trivial⟩
                    · intro vs wq hB hm
                      replace hTs : T.size = 138 := hTs
                      have h97 : vs 97 = .bool true := meets_get hm 1 rfl rfl rfl rfl
                      have h116 : vs 116 = .bool true := meets_get hm 20 rfl rfl rfl rfl
                      clear hm
                      have q97 : (fill T vs [97, 116])[97]? = some (.bool true) := fill_in hTs (by decide) (by decide) h97
                      have q116 : (fill T vs [97, 116])[116]? = some (.bool true) := fill_in hTs (by decide) (by decide) h116
                      generalize fill T vs [97, 116] = F at q97 q116 ⊢
                      go_wp2
                      exact ⟨_, rfl, rfl, Below.refl _ _, trivial⟩
                    · intro vs wq hB hm
                      replace hTs : T.size = 138 := hTs
                      have h117 : vs 117 = .bool true := meets_get hm 21 rfl rfl rfl rfl
                      clear hm
                      have q117 : (fill T vs [117])[117]? = some (.bool true) := fill_in hTs (by decide) (by decide) h117
                      generalize fill T vs [117] = F at q117 ⊢
                      go_wp2
                      exact ⟨_, rfl, rfl, Below.refl _ _, trivial⟩
                    · intro vs wq hB hm
                      replace hTs : T.size = 138 := hTs
                      have hl : look wq (w.heap.size) = some (.cells (LA a) 87 (0, 0)) := by rw [look_below hB (by first | omega | (simp only [World.size_alloc]; omega) | exact look_lt (by assumption) | (simp only [World.size_alloc, World.size_setCell]; omega) | (simp; omega))]; first | assumption | go_simp
                      have h118 : vs 118 = .bool true := meets_get hm 22 rfl rfl rfl rfl
                      clear hm
                      have q3 : (fill T vs [118])[3]? = some (.pointer (some ⟨w.heap.size, 0, none⟩)) := fill_out hTs (by decide) (by decide) (hTk 3)
                      have q118 : (fill T vs [118])[118]? = some (.bool true) := fill_in hTs (by decide) (by decide) h118
                      generalize fill T vs [118] = F at q3 q118 ⊢
                      go_wp2
                      exact ⟨_, rfl, rfl, Below.refl _ _, trivial⟩
                    · intro vs wq hB hm
                      replace hTs : T.size = 138 := hTs
                      have h119 : vs 119 = .agg (LA a) := meets_get hm 23 rfl rfl rfl rfl
                      have h118 : vs 118 = .bool true := meets_get hm 22 rfl rfl rfl rfl
                      clear hm
                      have q119 : (fill T vs [119, 118])[119]? = some (.agg (LA a)) := fill_in hTs (by decide) (by decide) h119
                      have q118 : (fill T vs [119, 118])[118]? = some (.bool true) := fill_in hTs (by decide) (by decide) h118
                      generalize fill T vs [119, 118] = F at q119 q118 ⊢
                      go_wp2_with fail
                      refine (lpast_is a P hPh.out _).mono ?_
                      rintro e w1 ⟨rfl, hb1⟩
                      go_wp2
                      exact ⟨_, rfl, rfl, hb1, trivial⟩
                    · intro vs wq hB hm
                      replace hTs : T.size = 138 := hTs
                      have h118 : vs 118 = .bool true := meets_get hm 22 rfl rfl rfl rfl
                      clear hm
                      have q3 : (fill T vs [118])[3]? = some (.pointer (some ⟨w.heap.size, 0, none⟩)) := fill_out hTs (by decide) (by decide) (hTk 3)
                      have q118 : (fill T vs [118])[118]? = some (.bool true) := fill_in hTs (by decide) (by decide) h118
                      generalize fill T vs [118] = F at q3 q118 ⊢
                      go_wp2
                      exact ⟨_, rfl, rfl, Below.refl _ _, trivial⟩
                    · intro vs wq hB hm
                      replace hTs : T.size = 138 := hTs
                      have hl : look wq (w.heap.size) = some (.cells (LA a) 87 (0, 0)) := by rw [look_below hB (by first | omega | (simp only [World.size_alloc]; omega) | exact look_lt (by assumption) | (simp only [World.size_alloc, World.size_setCell]; omega) | (simp; omega))]; first | assumption | go_simp
                      have h121 : vs 121 = .pointer (some ⟨w.heap.size, 5, none⟩) := meets_get hm 25 rfl rfl rfl rfl
                      have h118 : vs 118 = .bool true := meets_get hm 22 rfl rfl rfl rfl
                      clear hm
                      have q121 : (fill T vs [121, 118])[121]? = some (.pointer (some ⟨w.heap.size, 5, none⟩)) := fill_in hTs (by decide) (by decide) h121
                      have q118 : (fill T vs [121, 118])[118]? = some (.bool true) := fill_in hTs (by decide) (by decide) h118
                      generalize fill T vs [121, 118] = F at q121 q118 ⊢
                      go_wp2
                      exact ⟨_, rfl, rfl, Below.refl _ _, trivial⟩
                    · intro vs wq hB hm
                      replace hTs : T.size = 138 := hTs
                      have h120 : vs 120 = .agg (VA P) := meets_get hm 24 rfl rfl rfl rfl
                      have h122 : vs 122 = .agg (VA a.deps) := meets_get hm 26 rfl rfl rfl rfl
                      have h118 : vs 118 = .bool true := meets_get hm 22 rfl rfl rfl rfl
                      clear hm
                      have q120 : (fill T vs [120, 122, 118])[120]? = some (.agg (VA P)) := fill_in hTs (by decide) (by decide) h120
                      have q122 : (fill T vs [120, 122, 118])[122]? = some (.agg (VA a.deps)) := fill_in hTs (by decide) (by decide) h122
                      have q118 : (fill T vs [120, 122, 118])[118]? = some (.bool true) := fill_in hTs (by decide) (by decide) h118
                      generalize fill T vs [120, 122, 118] = F at q120 q122 q118 ⊢
                      go_wp2_with fail
                      refine (covers_any P a.deps _).mono ?_
                      rintro e w1 ⟨rfl, hb1⟩
                      go_wp2
                      exact ⟨_, rfl, rfl, hb1, trivial⟩
                    · intro vs wq hB hm
                      replace hTs : T.size = 138 := hTs
                      have h118 : vs 118 = .bool true := meets_get hm 22 rfl rfl rfl rfl
                      have h123 : vs 123 = .bool true := meets_get hm 27 rfl rfl rfl rfl
                      clear hm
                      have q118 : (fill T vs [118, 123])[118]? = some (.bool true) := fill_in hTs (by decide) (by decide) h118
                      have q123 : (fill T vs [118, 123])[123]? = some (.bool true) := fill_in hTs (by decide) (by decide) h123
                      generalize fill T vs [118, 123] = F at q118 q123 ⊢
                      go_wp2
                      exact ⟨_, rfl, rfl, Below.refl _ _, trivial⟩
                    · intro vs wq hB hm
                      replace hTs : T.size = 138 := hTs
                      have h124 : vs 124 = .bool true := meets_get hm 28 rfl rfl rfl rfl
                      clear hm
                      have q124 : (fill T vs [124])[124]? = some (.bool true) := fill_in hTs (by decide) (by decide) h124
                      generalize fill T vs [124] = F at q124 ⊢
                      go_wp2
                      exact ⟨_, rfl, rfl, Below.refl _ _, trivial⟩
                    · intro vs wq hB hm
                      replace hTs : T.size = 138 := hTs
                      have hl : look wq (w.heap.size) = some (.cells (LA a) 87 (0, 0)) := by rw [look_below hB (by first | omega | (simp only [World.size_alloc]; omega) | exact look_lt (by assumption) | (simp only [World.size_alloc, World.size_setCell]; omega) | (simp; omega))]; first | assumption | go_simp
                      have h125 : vs 125 = .bool true := meets_get hm 29 rfl rfl rfl rfl
                      clear hm
                      have q3 : (fill T vs [125])[3]? = some (.pointer (some ⟨w.heap.size, 0, none⟩)) := fill_out hTs (by decide) (by decide) (hTk 3)
                      have q125 : (fill T vs [125])[125]? = some (.bool true) := fill_in hTs (by decide) (by decide) h125
                      generalize fill T vs [125] = F at q3 q125 ⊢
                      go_wp2
                      exact ⟨_, rfl, rfl, Below.refl _ _, trivial⟩
                    · intro vs wq hB hm
                      replace hTs : T.size = 138 := hTs
                      have h126 : vs 126 = .agg (LA a) := meets_get hm 30 rfl rfl rfl rfl
                      have h125 : vs 125 = .bool true := meets_get hm 29 rfl rfl rfl rfl
                      clear hm
                      have q126 : (fill T vs [126, 125])[126]? = some (.agg (LA a)) := fill_in hTs (by decide) (by decide) h126
                      have q125 : (fill T vs [126, 125])[125]? = some (.bool true) := fill_in hTs (by decide) (by decide) h125
                      generalize fill T vs [126, 125] = F at q126 q125 ⊢
                      go_wp2_with fail
                      refine (lpast_is a P hPh.out _).mono ?_
                      rintro e w1 ⟨rfl, hb1⟩
                      go_wp2
                      exact ⟨_, rfl, rfl, hb1, trivial⟩
                    · intro vs wq hB hm
                      replace hTs : T.size = 138 := hTs
                      have hl : look wq (w.heap.size) = some (.cells (LA a) 87 (0, 0)) := by rw [look_below hB (by first | omega | (simp only [World.size_alloc]; omega) | exact look_lt (by assumption) | (simp only [World.size_alloc, World.size_setCell]; omega) | (simp; omega))]; first | assumption | go_simp
                      have h125 : vs 125 = .bool true := meets_get hm 29 rfl rfl rfl rfl
                      clear hm
                      have q3 : (fill T vs [125])[3]? = some (.pointer (some ⟨w.heap.size, 0, none⟩)) := fill_out hTs (by decide) (by decide) (hTk 3)
                      have q125 : (fill T vs [125])[125]? = some (.bool true) := fill_in hTs (by decide) (by decide) h125
                      generalize fill T vs [125] = F at q3 q125 ⊢
                      go_wp2
                      exact ⟨_, rfl, rfl, Below.refl _ _, trivial⟩
                    · intro vs wq hB hm
                      replace hTs : T.size = 138 := hTs
                      have h128 : vs 128 = .agg (LA a) := meets_get hm 32 rfl rfl rfl rfl
                      have h125 : vs 125 = .bool true := meets_get hm 29 rfl rfl rfl rfl
                      clear hm
                      have q128 : (fill T vs [128, 125])[128]? = some (.agg (LA a)) := fill_in hTs (by decide) (by decide) h128
                      have q125 : (fill T vs [128, 125])[125]? = some (.bool true) := fill_in hTs (by decide) (by decide) h125
                      generalize fill T vs [128, 125] = F at q128 q125 ⊢
                      go_wp2_with fail
                      refine (ldot_any a _).mono ?_
                      rintro e w1 ⟨rfl, hb1⟩
                      go_wp2
                      exact ⟨_, rfl, rfl, hb1, trivial⟩
                    · intro vs wq hB hm
                      replace hTs : T.size = 138 := hTs
                      have h127 : vs 127 = .agg (VA P) := meets_get hm 31 rfl rfl rfl rfl
                      have h129 : vs 129 = .agg #[.int .i64 a.node, .int .u32 (a.n : Int)] := meets_get hm 33 rfl rfl rfl rfl
                      have h125 : vs 125 = .bool true := meets_get hm 29 rfl rfl rfl rfl
                      clear hm
                      have q127 : (fill T vs [127, 129, 125])[127]? = some (.agg (VA P)) := fill_in hTs (by decide) (by decide) h127
                      have q129 : (fill T vs [127, 129, 125])[129]? = some (.agg #[.int .i64 a.node, .int .u32 (a.n : Int)]) := fill_in hTs (by decide) (by decide) h129
                      have q125 : (fill T vs [127, 129, 125])[125]? = some (.bool true) := fill_in hTs (by decide) (by decide) h125
                      generalize fill T vs [127, 129, 125] = F at q127 q129 q125 ⊢
                      go_wp2_with fail
                      refine (has_any P a.node a.n _).mono ?_
                      rintro e w1 ⟨rfl, hb1⟩
                      go_wp2
                      exact ⟨_, rfl, rfl, hb1, trivial⟩
                    · intro vs wq hB hm
                      replace hTs : T.size = 138 := hTs
                      have h125 : vs 125 = .bool true := meets_get hm 29 rfl rfl rfl rfl
                      have h130 : vs 130 = .bool true := meets_get hm 34 rfl rfl rfl rfl
                      clear hm
                      have q125 : (fill T vs [125, 130])[125]? = some (.bool true) := fill_in hTs (by decide) (by decide) h125
                      have q130 : (fill T vs [125, 130])[130]? = some (.bool true) := fill_in hTs (by decide) (by decide) h130
                      generalize fill T vs [125, 130] = F at q125 q130 ⊢
                      go_wp2
                      exact ⟨_, rfl, rfl, Below.refl _ _, trivial⟩
                    · intro vs wq hB hm
                      replace hTs : T.size = 138 := hTs
                      have h131 : vs 131 = .bool true := meets_get hm 35 rfl rfl rfl rfl
                      clear hm
                      have q131 : (fill T vs [131])[131]? = some (.bool true) := fill_in hTs (by decide) (by decide) h131
                      generalize fill T vs [131] = F at q131 ⊢
                      go_wp2
                      exact ⟨_, rfl, rfl, Below.refl _ _, trivial⟩
                    · intro vs wq hB hm
                      replace hTs : T.size = 138 := hTs
                      have hl : look wq (w.heap.size) = some (.cells (LA a) 87 (0, 0)) := by rw [look_below hB (by first | omega | (simp only [World.size_alloc]; omega) | exact look_lt (by assumption) | (simp only [World.size_alloc, World.size_setCell]; omega) | (simp; omega))]; first | assumption | go_simp
                      have h132 : vs 132 = .bool true := meets_get hm 36 rfl rfl rfl rfl
                      clear hm
                      have q3 : (fill T vs [132])[3]? = some (.pointer (some ⟨w.heap.size, 0, none⟩)) := fill_out hTs (by decide) (by decide) (hTk 3)
                      have q132 : (fill T vs [132])[132]? = some (.bool true) := fill_in hTs (by decide) (by decide) h132
                      generalize fill T vs [132] = F at q3 q132 ⊢
                      go_wp2
                      exact ⟨_, rfl, rfl, Below.refl _ _, trivial⟩
                    · intro vs wq hB hm
                      replace hTs : T.size = 138 := hTs
                      have hl : look wq (w.heap.size) = some (.cells (LA a) 87 (0, 0)) := by rw [look_below hB (by first | omega | (simp only [World.size_alloc]; omega) | exact look_lt (by assumption) | (simp only [World.size_alloc, World.size_setCell]; omega) | (simp; omega))]; first | assumption | go_simp
                      have h132 : vs 132 = .bool true := meets_get hm 36 rfl rfl rfl rfl
                      clear hm
                      have q3 : (fill T vs [132])[3]? = some (.pointer (some ⟨w.heap.size, 0, none⟩)) := fill_out hTs (by decide) (by decide) (hTk 3)
                      have q132 : (fill T vs [132])[132]? = some (.bool true) := fill_in hTs (by decide) (by decide) h132
                      generalize fill T vs [132] = F at q3 q132 ⊢
                      go_wp2
                      exact ⟨_, rfl, rfl, Below.refl _ _, trivial⟩
                    · intro vs wq hB hm
                      replace hTs : T.size = 138 := hTs
                      have h133 : vs 133 = .agg (LA a) := meets_get hm 37 rfl rfl rfl rfl
                      have h134 : vs 134 = .agg (LA a) := meets_get hm 38 rfl rfl rfl rfl
                      have h132 : vs 132 = .bool true := meets_get hm 36 rfl rfl rfl rfl
                      clear hm
                      have q133 : (fill T vs [133, 134, 132])[133]? = some (.agg (LA a)) := fill_in hTs (by decide) (by decide) h133
                      have q134 : (fill T vs [133, 134, 132])[134]? = some (.agg (LA a)) := fill_in hTs (by decide) (by decide) h134
                      have q132 : (fill T vs [133, 134, 132])[132]? = some (.bool true) := fill_in hTs (by decide) (by decide) h132
                      generalize fill T vs [133, 134, 132] = F at q133 q134 q132 ⊢
                      go_wp2_with fail
                      refine (lbefore_any a a _).mono ?_
                      rintro e w1 ⟨rfl, hb1⟩
                      go_wp2
                      exact ⟨_, rfl, rfl, hb1, trivial⟩
                    · intro vs wq hB hm
                      replace hTs : T.size = 138 := hTs
                      have h135 : vs 135 = .bool false := meets_get hm 39 rfl rfl rfl rfl
                      have h132 : vs 132 = .bool true := meets_get hm 36 rfl rfl rfl rfl
                      clear hm
                      have q135 : (fill T vs [135, 132])[135]? = some (.bool false) := fill_in hTs (by decide) (by decide) h135
                      have q132 : (fill T vs [135, 132])[132]? = some (.bool true) := fill_in hTs (by decide) (by decide) h132
                      generalize fill T vs [135, 132] = F at q135 q132 ⊢
                      go_wp2
                      exact ⟨_, rfl, rfl, Below.refl _ _, trivial⟩
                    · intro vs wq hB hm
                      replace hTs : T.size = 138 := hTs
                      have h132 : vs 132 = .bool true := meets_get hm 36 rfl rfl rfl rfl
                      have h136 : vs 136 = .bool true := meets_get hm 40 rfl rfl rfl rfl
                      clear hm
                      have q132 : (fill T vs [132, 136])[132]? = some (.bool true) := fill_in hTs (by decide) (by decide) h132
                      have q136 : (fill T vs [132, 136])[136]? = some (.bool true) := fill_in hTs (by decide) (by decide) h136
                      generalize fill T vs [132, 136] = F at q132 q136 ⊢
                      go_wp2
                      exact ⟨_, rfl, rfl, Below.refl _ _, trivial⟩
                    intro vs wq hB hm hne hlo
                    have h96 : vs 96 = .bool true := hm 0 _ _ _ rfl rfl rfl
                    have h97 : vs 97 = .bool true := hm 1 _ _ _ rfl rfl rfl
                    have h98 : vs 98 = .bool true := hm 2 _ _ _ rfl rfl rfl
                    have h99 : vs 99 = .bool false := hm 3 _ _ _ rfl rfl rfl
                    have h100 : vs 100 = .bool false := hm 4 _ _ _ rfl rfl rfl
                    have h101 : vs 101 = .agg (LA a) := hm 5 _ _ _ rfl rfl rfl
                    have h102 : vs 102 = .agg (LA b) := hm 6 _ _ _ rfl rfl rfl
                    have h103 : vs 103 = .bool true := hm 7 _ _ _ rfl rfl rfl
                    have h104 : vs 104 = .bool false := hm 8 _ _ _ rfl rfl rfl
                    have h105 : vs 105 = .bool false := hm 9 _ _ _ rfl rfl rfl
                    have h106 : vs 106 = .bool false := hm 10 _ _ _ rfl rfl rfl
                    have h107 : vs 107 = .agg (LA b) := hm 11 _ _ _ rfl rfl rfl
                    have h108 : vs 108 = .agg (LA c) := hm 12 _ _ _ rfl rfl rfl
                    have h109 : vs 109 = .bool false := hm 13 _ _ _ rfl rfl rfl
                    have h110 : vs 110 = .bool true := hm 14 _ _ _ rfl rfl rfl
                    have h111 : vs 111 = .bool true := hm 15 _ _ _ rfl rfl rfl
                    have h112 : vs 112 = .bool true := hm 16 _ _ _ rfl rfl rfl
                    have h113 : vs 113 = undef := hm 17 _ _ _ rfl rfl rfl
                    have h114 : vs 114 = undef := hm 18 _ _ _ rfl rfl rfl
                    have h115 : vs 115 = undef := hm 19 _ _ _ rfl rfl rfl
                    have h116 : vs 116 = .bool true := hm 20 _ _ _ rfl rfl rfl
                    have h117 : vs 117 = .bool true := hm 21 _ _ _ rfl rfl rfl
                    have h118 : vs 118 = .bool true := hm 22 _ _ _ rfl rfl rfl
                    have h119 : vs 119 = .agg (LA a) := hm 23 _ _ _ rfl rfl rfl
                    have h120 : vs 120 = .agg (VA P) := hm 24 _ _ _ rfl rfl rfl
                    have h121 : vs 121 = .pointer (some ⟨w.heap.size, 5, none⟩) := hm 25 _ _ _ rfl rfl rfl
                    have h122 : vs 122 = .agg (VA a.deps) := hm 26 _ _ _ rfl rfl rfl
                    have h123 : vs 123 = .bool true := hm 27 _ _ _ rfl rfl rfl
                    have h124 : vs 124 = .bool true := hm 28 _ _ _ rfl rfl rfl
                    have h125 : vs 125 = .bool true := hm 29 _ _ _ rfl rfl rfl
                    have h126 : vs 126 = .agg (LA a) := hm 30 _ _ _ rfl rfl rfl
                    have h127 : vs 127 = .agg (VA P) := hm 31 _ _ _ rfl rfl rfl
                    have h128 : vs 128 = .agg (LA a) := hm 32 _ _ _ rfl rfl rfl
                    have h129 : vs 129 = .agg #[.int .i64 a.node, .int .u32 (a.n : Int)] := hm 33 _ _ _ rfl rfl rfl
                    have h130 : vs 130 = .bool true := hm 34 _ _ _ rfl rfl rfl
                    have h131 : vs 131 = .bool true := hm 35 _ _ _ rfl rfl rfl
                    have h132 : vs 132 = .bool true := hm 36 _ _ _ rfl rfl rfl
                    have h133 : vs 133 = .agg (LA a) := hm 37 _ _ _ rfl rfl rfl
                    have h134 : vs 134 = .agg (LA a) := hm 38 _ _ _ rfl rfl rfl
                    have h135 : vs 135 = .bool false := hm 39 _ _ _ rfl rfl rfl
                    have h136 : vs 136 = .bool true := hm 40 _ _ _ rfl rfl rfl
                    have h137 : vs 137 = .bool true := hm 41 _ _ _ rfl rfl rfl
                    clear hne hlo
                    simp only [fill, List.filterMap, List.take, List.drop, List.setIfInBounds_toArray, List.set_cons_zero, List.set_cons_succ, h96, h97, h98, h99, h100, h101, h102, h103, h104, h105, h106, h107, h108, h109, h110, h111, h112, h113, h114, h115, h116, h117, h118, h119, h120, h121, h122, h123, h124, h125, h126, h127, h128, h129, h130, h131, h132, h133, h134, h135, h136, h137]
                    clear hm h96 h97 h98 h99 h100 h101 h102 h103 h104 h105 h106 h107 h108 h109 h110 h111 h112 h113 h114 h115 h116 h117 h118 h119 h120 h121 h122 h123 h124 h125 h126 h127 h128 h129 h130 h131 h132 h133 h134 h135 h136 h137
                    have hB10 := belT hB9 hB
                    go_wp2
                    go_ret
                    exact ⟨rfl, hB10⟩
                  · skip
                    have hac := hon.out hcl hab hbc
                    refine wp_region_wordsT mixed 42 ([] :: [96] :: [97] :: [98, 97] :: [99, 97] :: [100] :: [100] :: [101, 102, 100] :: [103, 100] :: [100, 104, 97] :: [105, 97] :: [106] :: [106] :: [107, 108, 106] :: [109, 106] :: [106, 110, 97] :: [111, 97] :: [112] :: [112] :: [113, 114, 112] :: [112, 115, 97] :: [97, 116] :: [117] :: [118] :: [119, 118] :: [118] :: [121, 118] :: [120, 122, 118] :: [118, 123] :: [124] :: [125] :: [126, 125] :: [125] :: [128, 125] :: [127, 129, 125] :: [125, 130] :: [131] :: [132] :: [132] :: [133, 134, 132] :: [135, 132] :: [132, 136] :: []) (isV (.bool true) :: isV (.bool true) :: isV (.bool true) :: isV (.bool false) :: isV (.bool false) :: isV (.agg (LA a)) :: isV (.agg (LA b)) :: isV (.bool true) :: isV (.bool false) :: isV (.bool false) :: isV (.bool false) :: isV (.agg (LA b)) :: isV (.agg (LA c)) :: isV (.bool true) :: isV (.bool false) :: isV (.bool false) :: isV (.bool false) :: isV (.agg (LA a)) :: isV (.agg (LA c)) :: isV (.bool true) :: isV (.bool true) :: isV (.bool true) :: isV (.bool true) :: isV (.agg (LA a)) :: isV (.agg (VA P)) :: isV (.pointer (some ⟨w.heap.size, 5, none⟩)) :: isV (.agg (VA a.deps)) :: isV (.bool true) :: isV (.bool true) :: isV (.bool true) :: isV (.agg (LA a)) :: isV (.agg (VA P)) :: isV (.agg (LA a)) :: isV (.agg #[.int .i64 a.node, .int .u32 (a.n : Int)]) :: isV (.bool true) :: isV (.bool true) :: isV (.bool true) :: isV (.agg (LA a)) :: isV (.agg (LA a)) :: isV (.bool false) :: isV (.bool true) :: isV (.bool true) :: []) (by decide) (by kernel_rfl)
                      ⟨stab_isV _, stab_isV _, stab_isV _, stab_isV _, stab_isV _, stab_isV _, stab_isV _, stab_isV _, stab_isV _, stab_isV _, stab_isV _, stab_isV _, stab_isV _, stab_isV _, stab_isV _, stab_isV _, stab_isV _, stab_isV _, stab_isV _, stab_isV _, stab_isV _, stab_isV _, stab_isV _, stab_isV _, stab_isV _, stab_isV _, stab_isV _, stab_isV _, stab_isV _, stab_isV _, stab_isV _, stab_isV _, stab_isV _, stab_isV _, stab_isV _, stab_isV _, stab_isV _, stab_isV _, stab_isV _, stab_isV _, stab_isV _, stab_isV _, trivial⟩ (fun T hTs hTk => ⟨?_, ?_, ?_, ?_, ?_, ?_, ?_, ?_, ?_, ?_, ?_, ?_, ?_, ?_, ?_, ?_, ?_, ?_, ?_, ?_, ?_, ?_, ?_, ?_, ?_, ?_, ?_, ?_, ?_, ?_, ?_, ?_, ?_, ?_, ?_, ?_, ?_, ?_, ?_, ?_, ?_, ?_, trivial⟩) ?_
                    · intro vs wq hB hm
                      replace hTs : T.size = 138 := hTs
                      clear hm
                      generalize fill T vs [] = F at ⊢
                      go_wp2_with fail
                      refine (alive05 _).mono ?_
                      rintro e w1 ⟨rfl, hb1⟩
                      go_wp2
                      exact ⟨_, rfl, rfl, hb1, trivial⟩
                    · intro vs wq hB hm
                      replace hTs : T.size = 138 := hTs
                      have h96 : vs 96 = .bool true := meets_get hm 0 rfl rfl rfl rfl
                      clear hm
                      have q96 : (fill T vs [96])[96]? = some (.bool true) := fill_in hTs (by decide) (by decide) h96
                      generalize fill T vs [96] = F at q96 ⊢
                      go_wp2
                      exact ⟨_, rfl, rfl, Below.refl _ _, trivial⟩
                    · intro vs wq hB hm
                      replace hTs : T.size = 138 := hTs
                      have h97 : vs 97 = .bool true := meets_get hm 1 rfl rfl rfl rfl
                      clear hm
                      have q10 : (fill T vs [97])[10]? = some (.bool true) := fill_out hTs (by decide) (by decide) (hTk 10)
                      have q97 : (fill T vs [97])[97]? = some (.bool true) := fill_in hTs (by decide) (by decide) h97
                      generalize fill T vs [97] = F at q10 q97 ⊢
                      go_wp2
                      exact ⟨_, rfl, rfl, Below.refl _ _, trivial⟩
                    · intro vs wq hB hm
                      replace hTs : T.size = 138 := hTs
                      have h98 : vs 98 = .bool true := meets_get hm 2 rfl rfl rfl rfl
                      have h97 : vs 97 = .bool true := meets_get hm 1 rfl rfl rfl rfl
                      clear hm
                      have q98 : (fill T vs [98, 97])[98]? = some (.bool true) := fill_in hTs (by decide) (by decide) h98
                      have q97 : (fill T vs [98, 97])[97]? = some (.bool true) := fill_in hTs (by decide) (by decide) h97
                      generalize fill T vs [98, 97] = F at q98 q97 ⊢
                      go_wp2
                      exact ⟨_, rfl, rfl, Below.refl _ _, trivial⟩
                    · intro vs wq hB hm
                      replace hTs : T.size = 138 := hTs
                      have h99 : vs 99 = .bool false := meets_get hm 3 rfl rfl rfl rfl
                      have h97 : vs 97 = .bool true := meets_get hm 1 rfl rfl rfl rfl
                      clear hm
                      have q99 : (fill T vs [99, 97])[99]? = some (.bool false) := fill_in hTs (by decide) (by decide) h99
                      have q97 : (fill T vs [99, 97])[97]? = some (.bool true) := fill_in hTs (by decide) (by decide) h97
                      generalize fill T vs [99, 97] = F at q99 q97 ⊢
                      go_wp2
                      exact ⟨_, rfl, rfl, Below.refl _ _, trivial⟩
                    · intro vs wq hB hm
                      replace hTs : T.size = 138 := hTs
                      have hl : look wq (w.heap.size) = some (.cells (LA a) 87 (0, 0)) := by rw [look_below hB (by first | omega | (simp only [World.size_alloc]; omega) | exact look_lt (by assumption) | (simp only [World.size_alloc, World.size_setCell]; omega) | (simp; omega))]; first | assumption | go_simp
                      have h100 : vs 100 = .bool false := meets_get hm 4 rfl rfl rfl rfl
                      clear hm
                      have q3 : (fill T vs [100])[3]? = some (.pointer (some ⟨w.heap.size, 0, none⟩)) := fill_out hTs (by decide) (by decide) (hTk 3)
                      have q100 : (fill T vs [100])[100]? = some (.bool false) := fill_in hTs (by decide) (by decide) h100
                      generalize fill T vs [100] = F at q3 q100 ⊢
                      go_wp2
                      exact ⟨_, rfl, rfl, Below.refl _ _, trivial⟩
                    · intro vs wq hB hm
                      replace hTs : T.size = 138 := hTs
                      have hl : look wq (w.heap.size + 1) = some (.cells (LA b) 87 (0, 0)) := by rw [look_below hB (by first | omega | (simp only [World.size_alloc]; omega) | exact look_lt (by assumption) | (simp only [World.size_alloc, World.size_setCell]; omega) | (simp; omega))]; first | assumption | go_simp
                      have h100 : vs 100 = .bool false := meets_get hm 4 rfl rfl rfl rfl
                      clear hm
                      have q4 : (fill T vs [100])[4]? = some (.pointer (some ⟨w.heap.size + 1, 0, none⟩)) := fill_out hTs (by decide) (by decide) (hTk 4)
                      have q100 : (fill T vs [100])[100]? = some (.bool false) := fill_in hTs (by decide) (by decide) h100
                      generalize fill T vs [100] = F at q4 q100 ⊢
                      go_wp2
                      exact ⟨_, rfl, rfl, Below.refl _ _, trivial⟩
                    · intro vs wq hB hm
                      replace hTs : T.size = 138 := hTs
                      have h101 : vs 101 = .agg (LA a) := meets_get hm 5 rfl rfl rfl rfl
                      have h102 : vs 102 = .agg (LA b) := meets_get hm 6 rfl rfl rfl rfl
                      have h100 : vs 100 = .bool false := meets_get hm 4 rfl rfl rfl rfl
                      clear hm
                      have q101 : (fill T vs [101, 102, 100])[101]? = some (.agg (LA a)) := fill_in hTs (by decide) (by decide) h101
                      have q102 : (fill T vs [101, 102, 100])[102]? = some (.agg (LA b)) := fill_in hTs (by decide) (by decide) h102
                      have q100 : (fill T vs [101, 102, 100])[100]? = some (.bool false) := fill_in hTs (by decide) (by decide) h100
                      generalize fill T vs [101, 102, 100] = F at q101 q102 q100 ⊢
                      go_wp2_with fail
                      refine (lbefore_any a b _).mono ?_
                      rintro e w1 ⟨rfl, hb1⟩
                      go_wp2
                      exact ⟨_, rfl, rfl, hb1, trivial⟩
                    · intro vs wq hB hm
                      replace hTs : T.size = 138 := hTs
                      have h103 : vs 103 = .bool true := meets_get hm 7 rfl rfl rfl rfl
                      have h100 : vs 100 = .bool false := meets_get hm 4 rfl rfl rfl rfl
                      clear hm
                      have q103 : (fill T vs [103, 100])[103]? = some (.bool true) := fill_in hTs (by decide) (by decide) h103
                      have q100 : (fill T vs [103, 100])[100]? = some (.bool false) := fill_in hTs (by decide) (by decide) h100
                      generalize fill T vs [103, 100] = F at q103 q100 ⊢
                      go_wp2
                      exact ⟨_, rfl, rfl, Below.refl _ _, trivial⟩
                    · intro vs wq hB hm
                      replace hTs : T.size = 138 := hTs
                      have h100 : vs 100 = .bool false := meets_get hm 4 rfl rfl rfl rfl
                      have h104 : vs 104 = .bool false := meets_get hm 8 rfl rfl rfl rfl
                      have h97 : vs 97 = .bool true := meets_get hm 1 rfl rfl rfl rfl
                      clear hm
                      have q100 : (fill T vs [100, 104, 97])[100]? = some (.bool false) := fill_in hTs (by decide) (by decide) h100
                      have q104 : (fill T vs [100, 104, 97])[104]? = some (.bool false) := fill_in hTs (by decide) (by decide) h104
                      have q97 : (fill T vs [100, 104, 97])[97]? = some (.bool true) := fill_in hTs (by decide) (by decide) h97
                      generalize fill T vs [100, 104, 97] = F at q100 q104 q97 ⊢
                      go_wp2
                      exact ⟨_, rfl, rfl, Below.refl _ _, trivial⟩
                    · intro vs wq hB hm
                      replace hTs : T.size = 138 := hTs
                      have h105 : vs 105 = .bool false := meets_get hm 9 rfl rfl rfl rfl
                      have h97 : vs 97 = .bool true := meets_get hm 1 rfl rfl rfl rfl
                      clear hm
                      have q105 : (fill T vs [105, 97])[105]? = some (.bool false) := fill_in hTs (by decide) (by decide) h105
                      have q97 : (fill T vs [105, 97])[97]? = some (.bool true) := fill_in hTs (by decide) (by decide) h97
                      generalize fill T vs [105, 97] = F at q105 q97 ⊢
                      go_wp2
                      exact ⟨_, rfl, rfl, Below.refl _ _, trivial⟩
                    · intro vs wq hB hm
                      replace hTs : T.size = 138 := hTs
                      have hl : look wq (w.heap.size + 1) = some (.cells (LA b) 87 (0, 0)) := by rw [look_below hB (by first | omega | (simp only [World.size_alloc]; omega) | exact look_lt (by assumption) | (simp only [World.size_alloc, World.size_setCell]; omega) | (simp; omega))]; first | assumption | go_simp
                      have h106 : vs 106 = .bool false := meets_get hm 10 rfl rfl rfl rfl
                      clear hm
                      have q4 : (fill T vs [106])[4]? = some (.pointer (some ⟨w.heap.size + 1, 0, none⟩)) := fill_out hTs (by decide) (by decide) (hTk 4)
                      have q106 : (fill T vs [106])[106]? = some (.bool false) := fill_in hTs (by decide) (by decide) h106
                      generalize fill T vs [106] = F at q4 q106 ⊢
                      go_wp2
                      exact ⟨_, rfl, rfl, Below.refl _ _, trivial⟩
                    · intro vs wq hB hm
                      replace hTs : T.size = 138 := hTs
                      have hl : look wq (w.heap.size + 1 + 1) = some (.cells (LA c) 87 (0, 0)) := by rw [look_below hB (by first | omega | (simp only [World.size_alloc]; omega) | exact look_lt (by assumption) | (simp only [World.size_alloc, World.size_setCell]; omega) | (simp; omega))]; first | assumption | go_simp
                      have h106 : vs 106 = .bool false := meets_get hm 10 rfl rfl rfl rfl
                      clear hm
                      have q5 : (fill T vs [106])[5]? = some (.pointer (some ⟨w.heap.size + 1 + 1, 0, none⟩)) := fill_out hTs (by decide) (by decide) (hTk 5)
                      have q106 : (fill T vs [106])[106]? = some (.bool false) := fill_in hTs (by decide) (by decide) h106
                      generalize fill T vs [106] = F at q5 q106 ⊢
                      go_wp2
                      exact ⟨_, rfl, rfl, Below.refl _ _, trivial⟩
                    · intro vs wq hB hm
                      replace hTs : T.size = 138 := hTs
                      have h107 : vs 107 = .agg (LA b) := meets_get hm 11 rfl rfl rfl rfl
                      have h108 : vs 108 = .agg (LA c) := meets_get hm 12 rfl rfl rfl rfl
                      have h106 : vs 106 = .bool false := meets_get hm 10 rfl rfl rfl rfl
                      clear hm
                      have q107 : (fill T vs [107, 108, 106])[107]? = some (.agg (LA b)) := fill_in hTs (by decide) (by decide) h107
                      have q108 : (fill T vs [107, 108, 106])[108]? = some (.agg (LA c)) := fill_in hTs (by decide) (by decide) h108
                      have q106 : (fill T vs [107, 108, 106])[106]? = some (.bool false) := fill_in hTs (by decide) (by decide) h106
                      generalize fill T vs [107, 108, 106] = F at q107 q108 q106 ⊢
                      go_wp2_with fail
                      refine (lbefore_any b c _).mono ?_
                      rintro e w1 ⟨rfl, hb1⟩
                      go_wp2
                      exact ⟨_, rfl, rfl, hb1, trivial⟩
                    · intro vs wq hB hm
                      replace hTs : T.size = 138 := hTs
                      have h109 : vs 109 = .bool true := meets_get hm 13 rfl rfl rfl rfl
                      have h106 : vs 106 = .bool false := meets_get hm 10 rfl rfl rfl rfl
                      clear hm
                      have q109 : (fill T vs [109, 106])[109]? = some (.bool true) := fill_in hTs (by decide) (by decide) h109
                      have q106 : (fill T vs [109, 106])[106]? = some (.bool false) := fill_in hTs (by decide) (by decide) h106
                      generalize fill T vs [109, 106] = F at q109 q106 ⊢
                      go_wp2
                      exact ⟨_, rfl, rfl, Below.refl _ _, trivial⟩
                    · intro vs wq hB hm
                      replace hTs : T.size = 138 := hTs
                      have h106 : vs 106 = .bool false := meets_get hm 10 rfl rfl rfl rfl
                      have h110 : vs 110 = .bool false := meets_get hm 14 rfl rfl rfl rfl
                      have h97 : vs 97 = .bool true := meets_get hm 1 rfl rfl rfl rfl
                      clear hm
                      have q106 : (fill T vs [106, 110, 97])[106]? = some (.bool false) := fill_in hTs (by decide) (by decide) h106
                      have q110 : (fill T vs [106, 110, 97])[110]? = some (.bool false) := fill_in hTs (by decide) (by decide) h110
                      have q97 : (fill T vs [106, 110, 97])[97]? = some (.bool true) := fill_in hTs (by decide) (by decide) h97
                      generalize fill T vs [106, 110, 97] = F at q106 q110 q97 ⊢
                      go_wp2
                      exact ⟨_, rfl, rfl, Below.refl _ _, trivial⟩
                    · intro vs wq hB hm
                      replace hTs : T.size = 138 := hTs
                      have h111 : vs 111 = .bool false := meets_get hm 15 rfl rfl rfl rfl
                      have h97 : vs 97 = .bool true := meets_get hm 1 rfl rfl rfl rfl
                      clear hm
                      have q111 : (fill T vs [111, 97])[111]? = some (.bool false) := fill_in hTs (by decide) (by decide) h111
                      have q97 : (fill T vs [111, 97])[97]? = some (.bool true) := fill_in hTs (by decide) (by decide) h97
                      generalize fill T vs [111, 97] = F at q111 q97 ⊢
                      go_wp2
                      exact ⟨_, rfl, rfl, Below.refl _ _, trivial⟩
                    · intro vs wq hB hm
                      replace hTs : T.size = 138 := hTs
                      have hl : look wq (w.heap.size) = some (.cells (LA a) 87 (0, 0)) := by rw [look_below hB (by first | omega | (simp only [World.size_alloc]; omega) | exact look_lt (by assumption) | (simp only [World.size_alloc, World.size_setCell]; omega) | (simp; omega))]; first | assumption | go_simp
                      have h112 : vs 112 = .bool false := meets_get hm 16 rfl rfl rfl rfl
                      clear hm
                      have q3 : (fill T vs [112])[3]? = some (.pointer (some ⟨w.heap.size, 0, none⟩)) := fill_out hTs (by decide) (by decide) (hTk 3)
                      have q112 : (fill T vs [112])[112]? = some (.bool false) := fill_in hTs (by decide) (by decide) h112
                      generalize fill T vs [112] = F at q3 q112 ⊢
                      go_wp2
                      exact ⟨_, rfl, rfl, Below.refl _ _, trivial⟩
                    · intro vs wq hB hm
                      replace hTs : T.size = 138 := hTs
                      have hl : look wq (w.heap.size + 1 + 1) = some (.cells (LA c) 87 (0, 0)) := by rw [look_below hB (by first | omega | (simp only [World.size_alloc]; omega) | exact look_lt (by assumption) | (simp only [World.size_alloc, World.size_setCell]; omega) | (simp; omega))]; first | assumption | go_simp
                      have h112 : vs 112 = .bool false := meets_get hm 16 rfl rfl rfl rfl
                      clear hm
                      have q5 : (fill T vs [112])[5]? = some (.pointer (some ⟨w.heap.size + 1 + 1, 0, none⟩)) := fill_out hTs (by decide) (by decide) (hTk 5)
                      have q112 : (fill T vs [112])[112]? = some (.bool false) := fill_in hTs (by decide) (by decide) h112
                      generalize fill T vs [112] = F at q5 q112 ⊢
                      go_wp2
                      exact ⟨_, rfl, rfl, Below.refl _ _, trivial⟩
                    · intro vs wq hB hm
                      replace hTs : T.size = 138 := hTs
                      have h113 : vs 113 = .agg (LA a) := meets_get hm 17 rfl rfl rfl rfl
                      have h114 : vs 114 = .agg (LA c) := meets_get hm 18 rfl rfl rfl rfl
                      have h112 : vs 112 = .bool false := meets_get hm 16 rfl rfl rfl rfl
                      clear hm
                      have q113 : (fill T vs [113, 114, 112])[113]? = some (.agg (LA a)) := fill_in hTs (by decide) (by decide) h113
                      have q114 : (fill T vs [113, 114, 112])[114]? = some (.agg (LA c)) := fill_in hTs (by decide) (by decide) h114
                      have q112 : (fill T vs [113, 114, 112])[112]? = some (.bool false) := fill_in hTs (by decide) (by decide) h112
                      generalize fill T vs [113, 114, 112] = F at q113 q114 q112 ⊢
                      go_wp2_with fail
                      refine (lbefore_any a c _).mono ?_
                      rintro e w1 ⟨rfl, hb1⟩
                      go_wp2
                      exact ⟨_, rfl, rfl, hb1, trivial⟩
                    · intro vs wq hB hm
                      replace hTs : T.size = 138 := hTs
                      have h112 : vs 112 = .bool false := meets_get hm 16 rfl rfl rfl rfl
                      have h115 : vs 115 = .bool true := meets_get hm 19 rfl rfl rfl rfl
                      have h97 : vs 97 = .bool true := meets_get hm 1 rfl rfl rfl rfl
                      clear hm
                      have q112 : (fill T vs [112, 115, 97])[112]? = some (.bool false) := fill_in hTs (by decide) (by decide) h112
                      have q115 : (fill T vs [112, 115, 97])[115]? = some (.bool true) := fill_in hTs (by decide) (by decide) h115
                      have q97 : (fill T vs [112, 115, 97])[97]? = some (.bool true) := fill_in hTs (by decide) (by decide) h97
                      generalize fill T vs [112, 115, 97] = F at q112 q115 q97 ⊢
                      go_wp2
                      exact ⟨_, rfl, rfl, Below.refl _ _, trivial⟩
                    · intro vs wq hB hm
                      replace hTs : T.size = 138 := hTs
                      have h97 : vs 97 = .bool true := meets_get hm 1 rfl rfl rfl rfl
                      have h116 : vs 116 = .bool true := meets_get hm 20 rfl rfl rfl rfl
                      clear hm
                      have q97 : (fill T vs [97, 116])[97]? = some (.bool true) := fill_in hTs (by decide) (by decide) h97
                      have q116 : (fill T vs [97, 116])[116]? = some (.bool true) := fill_in hTs (by decide) (by decide) h116
                      generalize fill T vs [97, 116] = F at q97 q116 ⊢
                      go_wp2
                      exact ⟨_, rfl, rfl, Below.refl _ _, trivial⟩
                    · intro vs wq hB hm
                      replace hTs : T.size = 138 := hTs
                      have h117 : vs 117 = .bool true := meets_get hm 21 rfl rfl rfl rfl
                      clear hm
                      have q117 : (fill T vs [117])[117]? = some (.bool true) := fill_in hTs (by decide) (by decide) h117
                      generalize fill T vs [117] = F at q117 ⊢
                      go_wp2
                      exact ⟨_, rfl, rfl, Below.refl _ _, trivial⟩
                    · intro vs wq hB hm
                      replace hTs : T.size = 138 := hTs
                      have hl : look wq (w.heap.size) = some (.cells (LA a) 87 (0, 0)) := by rw [look_below hB (by first | omega | (simp only [World.size_alloc]; omega) | exact look_lt (by assumption) | (simp only [World.size_alloc, World.size_setCell]; omega) | (simp; omega))]; first | assumption | go_simp
                      have h118 : vs 118 = .bool true := meets_get hm 22 rfl rfl rfl rfl
                      clear hm
                      have q3 : (fill T vs [118])[3]? = some (.pointer (some ⟨w.heap.size, 0, none⟩)) := fill_out hTs (by decide) (by decide) (hTk 3)
                      have q118 : (fill T vs [118])[118]? = some (.bool true) := fill_in hTs (by decide) (by decide) h118
                      generalize fill T vs [118] = F at q3 q118 ⊢
                      go_wp2
                      exact ⟨_, rfl, rfl, Below.refl _ _, trivial⟩
                    · intro vs wq hB hm
                      replace hTs : T.size = 138 := hTs
                      have h119 : vs 119 = .agg (LA a) := meets_get hm 23 rfl rfl rfl rfl
                      have h118 : vs 118 = .bool true := meets_get hm 22 rfl rfl rfl rfl
                      clear hm
                      have q119 : (fill T vs [119, 118])[119]? = some (.agg (LA a)) := fill_in hTs (by decide) (by decide) h119
                      have q118 : (fill T vs [119, 118])[118]? = some (.bool true) := fill_in hTs (by decide) (by decide) h118
                      generalize fill T vs [119, 118] = F at q119 q118 ⊢
                      go_wp2_with fail
                      refine (lpast_is a P hPh.out _).mono ?_
                      rintro e w1 ⟨rfl, hb1⟩
                      go_wp2
                      exact ⟨_, rfl, rfl, hb1, trivial⟩
                    · intro vs wq hB hm
                      replace hTs : T.size = 138 := hTs
                      have h118 : vs 118 = .bool true := meets_get hm 22 rfl rfl rfl rfl
                      clear hm
                      have q3 : (fill T vs [118])[3]? = some (.pointer (some ⟨w.heap.size, 0, none⟩)) := fill_out hTs (by decide) (by decide) (hTk 3)
                      have q118 : (fill T vs [118])[118]? = some (.bool true) := fill_in hTs (by decide) (by decide) h118
                      generalize fill T vs [118] = F at q3 q118 ⊢
                      go_wp2
                      exact ⟨_, rfl, rfl, Below.refl _ _, trivial⟩
                    · intro vs wq hB hm
                      replace hTs : T.size = 138 := hTs
                      have hl : look wq (w.heap.size) = some (.cells (LA a) 87 (0, 0)) := by rw [look_below hB (by first | omega | (simp only [World.size_alloc]; omega) | exact look_lt (by assumption) | (simp only [World.size_alloc, World.size_setCell]; omega) | (simp; omega))]; first | assumption | go_simp
                      have h121 : vs 121 = .pointer (some ⟨w.heap.size, 5, none⟩) := meets_get hm 25 rfl rfl rfl rfl
                      have h118 : vs 118 = .bool true := meets_get hm 22 rfl rfl rfl rfl
                      clear hm
                      have q121 : (fill T vs [121, 118])[121]? = some (.pointer (some ⟨w.heap.size, 5, none⟩)) := fill_in hTs (by decide) (by decide) h121
                      have q118 : (fill T vs [121, 118])[118]? = some (.bool true) := fill_in hTs (by decide) (by decide) h118
                      generalize fill T vs [121, 118] = F at q121 q118 ⊢
                      go_wp2
                      exact ⟨_, rfl, rfl, Below.refl _ _, trivial⟩
                    · intro vs wq hB hm
                      replace hTs : T.size = 138 := hTs
                      have h120 : vs 120 = .agg (VA P) := meets_get hm 24 rfl rfl rfl rfl
                      have h122 : vs 122 = .agg (VA a.deps) := meets_get hm 26 rfl rfl rfl rfl
                      have h118 : vs 118 = .bool true := meets_get hm 22 rfl rfl rfl rfl
                      clear hm
                      have q120 : (fill T vs [120, 122, 118])[120]? = some (.agg (VA P)) := fill_in hTs (by decide) (by decide) h120
                      have q122 : (fill T vs [120, 122, 118])[122]? = some (.agg (VA a.deps)) := fill_in hTs (by decide) (by decide) h122
                      have q118 : (fill T vs [120, 122, 118])[118]? = some (.bool true) := fill_in hTs (by decide) (by decide) h118
                      generalize fill T vs [120, 122, 118] = F at q120 q122 q118 ⊢
                      go_wp2_with fail
                      refine (covers_any P a.deps _).mono ?_
                      rintro e w1 ⟨rfl, hb1⟩
                      go_wp2
                      exact ⟨_, rfl, rfl, hb1, trivial⟩
                    · intro vs wq hB hm
                      replace hTs : T.size = 138 := hTs
                      have h118 : vs 118 = .bool true := meets_get hm 22 rfl rfl rfl rfl
                      have h123 : vs 123 = .bool true := meets_get hm 27 rfl rfl rfl rfl
                      clear hm
                      have q118 : (fill T vs [118, 123])[118]? = some (.bool true) := fill_in hTs (by decide) (by decide) h118
                      have q123 : (fill T vs [118, 123])[123]? = some (.bool true) := fill_in hTs (by decide) (by decide) h123
                      generalize fill T vs [118, 123] = F at q118 q123 ⊢
                      go_wp2
                      exact ⟨_, rfl, rfl, Below.refl _ _, trivial⟩
                    · intro vs wq hB hm
                      replace hTs : T.size = 138 := hTs
                      have h124 : vs 124 = .bool true := meets_get hm 28 rfl rfl rfl rfl
                      clear hm
                      have q124 : (fill T vs [124])[124]? = some (.bool true) := fill_in hTs (by decide) (by decide) h124
                      generalize fill T vs [124] = F at q124 ⊢
                      go_wp2
                      exact ⟨_, rfl, rfl, Below.refl _ _, trivial⟩
                    · intro vs wq hB hm
                      replace hTs : T.size = 138 := hTs
                      have hl : look wq (w.heap.size) = some (.cells (LA a) 87 (0, 0)) := by rw [look_below hB (by first | omega | (simp only [World.size_alloc]; omega) | exact look_lt (by assumption) | (simp only [World.size_alloc, World.size_setCell]; omega) | (simp; omega))]; first | assumption | go_simp
                      have h125 : vs 125 = .bool true := meets_get hm 29 rfl rfl rfl rfl
                      clear hm
                      have q3 : (fill T vs [125])[3]? = some (.pointer (some ⟨w.heap.size, 0, none⟩)) := fill_out hTs (by decide) (by decide) (hTk 3)
                      have q125 : (fill T vs [125])[125]? = some (.bool true) := fill_in hTs (by decide) (by decide) h125
                      generalize fill T vs [125] = F at q3 q125 ⊢
                      go_wp2
                      exact ⟨_, rfl, rfl, Below.refl _ _, trivial⟩
                    · intro vs wq hB hm
                      replace hTs : T.size = 138 := hTs
                      have h126 : vs 126 = .agg (LA a) := meets_get hm 30 rfl rfl rfl rfl
                      have h125 : vs 125 = .bool true := meets_get hm 29 rfl rfl rfl rfl
                      clear hm
                      have q126 : (fill T vs [126, 125])[126]? = some (.agg (LA a)) := fill_in hTs (by decide) (by decide) h126
                      have q125 : (fill T vs [126, 125])[125]? = some (.bool true) := fill_in hTs (by decide) (by decide) h125
                      generalize fill T vs [126, 125] = F at q126 q125 ⊢
                      go_wp2_with fail
                      refine (lpast_is a P hPh.out _).mono ?_
                      rintro e w1 ⟨rfl, hb1⟩
                      go_wp2
                      exact ⟨_, rfl, rfl, hb1, trivial⟩
                    · intro vs wq hB hm
                      replace hTs : T.size = 138 := hTs
                      have hl : look wq (w.heap.size) = some (.cells (LA a) 87 (0, 0)) := by rw [look_below hB (by first | omega | (simp only [World.size_alloc]; omega) | exact look_lt (by assumption) | (simp only [World.size_alloc, World.size_setCell]; omega) | (simp; omega))]; first | assumption | go_simp
                      have h125 : vs 125 = .bool true := meets_get hm 29 rfl rfl rfl rfl
                      clear hm
                      have q3 : (fill T vs [125])[3]? = some (.pointer (some ⟨w.heap.size, 0, none⟩)) := fill_out hTs (by decide) (by decide) (hTk 3)
                      have q125 : (fill T vs [125])[125]? = some (.bool true) := fill_in hTs (by decide) (by decide) h125
                      generalize fill T vs [125] = F at q3 q125 ⊢
                      go_wp2
                      exact ⟨_, rfl, rfl, Below.refl _ _, trivial⟩
                    · intro vs wq hB hm
                      replace hTs : T.size = 138 := hTs
                      have h128 : vs 128 = .agg (LA a) := meets_get hm 32 rfl rfl rfl rfl
                      have h125 : vs 125 = .bool true := meets_get hm 29 rfl rfl rfl rfl
                      clear hm
                      have q128 : (fill T vs [128, 125])[128]? = some (.agg (LA a)) := fill_in hTs (by decide) (by decide) h128
                      have q125 : (fill T vs [128, 125])[125]? = some (.bool true) := fill_in hTs (by decide) (by decide) h125
                      generalize fill T vs [128, 125] = F at q128 q125 ⊢
                      go_wp2_with fail
                      refine (ldot_any a _).mono ?_
                      rintro e w1 ⟨rfl, hb1⟩
                      go_wp2
                      exact ⟨_, rfl, rfl, hb1, trivial⟩
                    · intro vs wq hB hm
                      replace hTs : T.size = 138 := hTs
                      have h127 : vs 127 = .agg (VA P) := meets_get hm 31 rfl rfl rfl rfl
                      have h129 : vs 129 = .agg #[.int .i64 a.node, .int .u32 (a.n : Int)] := meets_get hm 33 rfl rfl rfl rfl
                      have h125 : vs 125 = .bool true := meets_get hm 29 rfl rfl rfl rfl
                      clear hm
                      have q127 : (fill T vs [127, 129, 125])[127]? = some (.agg (VA P)) := fill_in hTs (by decide) (by decide) h127
                      have q129 : (fill T vs [127, 129, 125])[129]? = some (.agg #[.int .i64 a.node, .int .u32 (a.n : Int)]) := fill_in hTs (by decide) (by decide) h129
                      have q125 : (fill T vs [127, 129, 125])[125]? = some (.bool true) := fill_in hTs (by decide) (by decide) h125
                      generalize fill T vs [127, 129, 125] = F at q127 q129 q125 ⊢
                      go_wp2_with fail
                      refine (has_any P a.node a.n _).mono ?_
                      rintro e w1 ⟨rfl, hb1⟩
                      go_wp2
                      exact ⟨_, rfl, rfl, hb1, trivial⟩
                    · intro vs wq hB hm
                      replace hTs : T.size = 138 := hTs
                      have h125 : vs 125 = .bool true := meets_get hm 29 rfl rfl rfl rfl
                      have h130 : vs 130 = .bool true := meets_get hm 34 rfl rfl rfl rfl
                      clear hm
                      have q125 : (fill T vs [125, 130])[125]? = some (.bool true) := fill_in hTs (by decide) (by decide) h125
                      have q130 : (fill T vs [125, 130])[130]? = some (.bool true) := fill_in hTs (by decide) (by decide) h130
                      generalize fill T vs [125, 130] = F at q125 q130 ⊢
                      go_wp2
                      exact ⟨_, rfl, rfl, Below.refl _ _, trivial⟩
                    · intro vs wq hB hm
                      replace hTs : T.size = 138 := hTs
                      have h131 : vs 131 = .bool true := meets_get hm 35 rfl rfl rfl rfl
                      clear hm
                      have q131 : (fill T vs [131])[131]? = some (.bool true) := fill_in hTs (by decide) (by decide) h131
                      generalize fill T vs [131] = F at q131 ⊢
                      go_wp2
                      exact ⟨_, rfl, rfl, Below.refl _ _, trivial⟩
                    · intro vs wq hB hm
                      replace hTs : T.size = 138 := hTs
                      have hl : look wq (w.heap.size) = some (.cells (LA a) 87 (0, 0)) := by rw [look_below hB (by first | omega | (simp only [World.size_alloc]; omega) | exact look_lt (by assumption) | (simp only [World.size_alloc, World.size_setCell]; omega) | (simp; omega))]; first | assumption | go_simp
                      have h132 : vs 132 = .bool true := meets_get hm 36 rfl rfl rfl rfl
                      clear hm
                      have q3 : (fill T vs [132])[3]? = some (.pointer (some ⟨w.heap.size, 0, none⟩)) := fill_out hTs (by decide) (by decide) (hTk 3)
                      have q132 : (fill T vs [132])[132]? = some (.bool true) := fill_in hTs (by decide) (by decide) h132
                      generalize fill T vs [132] = F at q3 q132 ⊢
                      go_wp2
                      exact ⟨_, rfl, rfl, Below.refl _ _, trivial⟩
                    · intro vs wq hB hm
                      replace hTs : T.size = 138 := hTs
                      have hl : look wq (w.heap.size) = some (.cells (LA a) 87 (0, 0)) := by rw [look_below hB (by first | omega | (simp only [World.size_alloc]; omega) | exact look_lt (by assumption) | (simp only [World.size_alloc, World.size_setCell]; omega) | (simp; omega))]; first | assumption | go_simp
                      have h132 : vs 132 = .bool true := meets_get hm 36 rfl rfl rfl rfl
                      clear hm
                      have q3 : (fill T vs [132])[3]? = some (.pointer (some ⟨w.heap.size, 0, none⟩)) := fill_out hTs (by decide) (by decide) (hTk 3)
                      have q132 : (fill T vs [132])[132]? = some (.bool true) := fill_in hTs (by decide) (by decide) h132
                      generalize fill T vs [132] = F at q3 q132 ⊢
                      go_wp2
                      exact ⟨_, rfl, rfl, Below.refl _ _, trivial⟩
                    · intro vs wq hB hm
                      replace hTs : T.size = 138 := hTs
                      have h133 : vs 133 = .agg (LA a) := meets_get hm 37 rfl rfl rfl rfl
                      have h134 : vs 134 = .agg (LA a) := meets_get hm 38 rfl rfl rfl rfl
                      have h132 : vs 132 = .bool true := meets_get hm 36 rfl rfl rfl rfl
                      clear hm
                      have q133 : (fill T vs [133, 134, 132])[133]? = some (.agg (LA a)) := fill_in hTs (by decide) (by decide) h133
                      have q134 : (fill T vs [133, 134, 132])[134]? = some (.agg (LA a)) := fill_in hTs (by decide) (by decide) h134
                      have q132 : (fill T vs [133, 134, 132])[132]? = some (.bool true) := fill_in hTs (by decide) (by decide) h132
                      generalize fill T vs [133, 134, 132] = F at q133 q134 q132 ⊢
                      go_wp2_with fail
                      refine (lbefore_any a a _).mono ?_
                      rintro e w1 ⟨rfl, hb1⟩
                      go_wp2
                      exact ⟨_, rfl, rfl, hb1, trivial⟩
                    · intro vs wq hB hm
                      replace hTs : T.size = 138 := hTs
                      have h135 : vs 135 = .bool false := meets_get hm 39 rfl rfl rfl rfl
                      have h132 : vs 132 = .bool true := meets_get hm 36 rfl rfl rfl rfl
                      clear hm
                      have q135 : (fill T vs [135, 132])[135]? = some (.bool false) := fill_in hTs (by decide) (by decide) h135
                      have q132 : (fill T vs [135, 132])[132]? = some (.bool true) := fill_in hTs (by decide) (by decide) h132
                      generalize fill T vs [135, 132] = F at q135 q132 ⊢
                      go_wp2
                      exact ⟨_, rfl, rfl, Below.refl _ _, trivial⟩
                    · intro vs wq hB hm
                      replace hTs : T.size = 138 := hTs
                      have h132 : vs 132 = .bool true := meets_get hm 36 rfl rfl rfl rfl
                      have h136 : vs 136 = .bool true := meets_get hm 40 rfl rfl rfl rfl
                      clear hm
                      have q132 : (fill T vs [132, 136])[132]? = some (.bool true) := fill_in hTs (by decide) (by decide) h132
                      have q136 : (fill T vs [132, 136])[136]? = some (.bool true) := fill_in hTs (by decide) (by decide) h136
                      generalize fill T vs [132, 136] = F at q132 q136 ⊢
                      go_wp2
                      exact ⟨_, rfl, rfl, Below.refl _ _, trivial⟩
                    intro vs wq hB hm hne hlo
                    have h96 : vs 96 = .bool true := hm 0 _ _ _ rfl rfl rfl
                    have h97 : vs 97 = .bool true := hm 1 _ _ _ rfl rfl rfl
                    have h98 : vs 98 = .bool true := hm 2 _ _ _ rfl rfl rfl
                    have h99 : vs 99 = .bool false := hm 3 _ _ _ rfl rfl rfl
                    have h100 : vs 100 = .bool false := hm 4 _ _ _ rfl rfl rfl
                    have h101 : vs 101 = .agg (LA a) := hm 5 _ _ _ rfl rfl rfl
                    have h102 : vs 102 = .agg (LA b) := hm 6 _ _ _ rfl rfl rfl
                    have h103 : vs 103 = .bool true := hm 7 _ _ _ rfl rfl rfl
                    have h104 : vs 104 = .bool false := hm 8 _ _ _ rfl rfl rfl
                    have h105 : vs 105 = .bool false := hm 9 _ _ _ rfl rfl rfl
                    have h106 : vs 106 = .bool false := hm 10 _ _ _ rfl rfl rfl
                    have h107 : vs 107 = .agg (LA b) := hm 11 _ _ _ rfl rfl rfl
                    have h108 : vs 108 = .agg (LA c) := hm 12 _ _ _ rfl rfl rfl
                    have h109 : vs 109 = .bool true := hm 13 _ _ _ rfl rfl rfl
                    have h110 : vs 110 = .bool false := hm 14 _ _ _ rfl rfl rfl
                    have h111 : vs 111 = .bool false := hm 15 _ _ _ rfl rfl rfl
                    have h112 : vs 112 = .bool false := hm 16 _ _ _ rfl rfl rfl
                    have h113 : vs 113 = .agg (LA a) := hm 17 _ _ _ rfl rfl rfl
                    have h114 : vs 114 = .agg (LA c) := hm 18 _ _ _ rfl rfl rfl
                    have h115 : vs 115 = .bool true := hm 19 _ _ _ rfl rfl rfl
                    have h116 : vs 116 = .bool true := hm 20 _ _ _ rfl rfl rfl
                    have h117 : vs 117 = .bool true := hm 21 _ _ _ rfl rfl rfl
                    have h118 : vs 118 = .bool true := hm 22 _ _ _ rfl rfl rfl
                    have h119 : vs 119 = .agg (LA a) := hm 23 _ _ _ rfl rfl rfl
                    have h120 : vs 120 = .agg (VA P) := hm 24 _ _ _ rfl rfl rfl
                    have h121 : vs 121 = .pointer (some ⟨w.heap.size, 5, none⟩) := hm 25 _ _ _ rfl rfl rfl
                    have h122 : vs 122 = .agg (VA a.deps) := hm 26 _ _ _ rfl rfl rfl
                    have h123 : vs 123 = .bool true := hm 27 _ _ _ rfl rfl rfl
                    have h124 : vs 124 = .bool true := hm 28 _ _ _ rfl rfl rfl
                    have h125 : vs 125 = .bool true := hm 29 _ _ _ rfl rfl rfl
                    have h126 : vs 126 = .agg (LA a) := hm 30 _ _ _ rfl rfl rfl
                    have h127 : vs 127 = .agg (VA P) := hm 31 _ _ _ rfl rfl rfl
                    have h128 : vs 128 = .agg (LA a) := hm 32 _ _ _ rfl rfl rfl
                    have h129 : vs 129 = .agg #[.int .i64 a.node, .int .u32 (a.n : Int)] := hm 33 _ _ _ rfl rfl rfl
                    have h130 : vs 130 = .bool true := hm 34 _ _ _ rfl rfl rfl
                    have h131 : vs 131 = .bool true := hm 35 _ _ _ rfl rfl rfl
                    have h132 : vs 132 = .bool true := hm 36 _ _ _ rfl rfl rfl
                    have h133 : vs 133 = .agg (LA a) := hm 37 _ _ _ rfl rfl rfl
                    have h134 : vs 134 = .agg (LA a) := hm 38 _ _ _ rfl rfl rfl
                    have h135 : vs 135 = .bool false := hm 39 _ _ _ rfl rfl rfl
                    have h136 : vs 136 = .bool true := hm 40 _ _ _ rfl rfl rfl
                    have h137 : vs 137 = .bool true := hm 41 _ _ _ rfl rfl rfl
                    clear hne hlo
                    simp only [fill, List.filterMap, List.take, List.drop, List.setIfInBounds_toArray, List.set_cons_zero, List.set_cons_succ, h96, h97, h98, h99, h100, h101, h102, h103, h104, h105, h106, h107, h108, h109, h110, h111, h112, h113, h114, h115, h116, h117, h118, h119, h120, h121, h122, h123, h124, h125, h126, h127, h128, h129, h130, h131, h132, h133, h134, h135, h136, h137]
                    clear hm h96 h97 h98 h99 h100 h101 h102 h103 h104 h105 h106 h107 h108 h109 h110 h111 h112 h113 h114 h115 h116 h117 h118 h119 h120 h121 h122 h123 h124 h125 h126 h127 h128 h129 h130 h131 h132 h133 h134 h135 h136 h137
                    have hB10 := belT hB9 hB
                    go_wp2
                    go_ret
                    exact ⟨rfl, hB10⟩
end Go.Proofs.Ytniphfkipjpikaa
