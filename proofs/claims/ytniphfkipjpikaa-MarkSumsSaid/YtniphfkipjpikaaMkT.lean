/- The document's own sum of rows. -/
import Derived.Test.YtniphfkipjpikaaMkF
import Derived.Test.YtniphfkipjpikaaSlf
namespace Go.Proofs.Ytniphfkipjpikaa
open Go.RowKit Flt

theorem msum_step_no {t : Tot} {q0 : Int} {m : Mk} (h : playB q0 m = false) : stepT t q0 m = t := by unfold stepT; rw [h]; rfl

set_option maxRecDepth 100000 in
set_option maxHeartbeats 6400000 in
theorem rsum_any (vq vm : Value) (nq nm : Nat) (q : Nat → Int) (L : Nat → Mk) (w : World) (hnq : nq ≤ 1000) (hnm : nm ≤ 1000) (hSq : SliceAt w vq nq 1 (qC q)) (hSm : SliceAt w vm nm 3 (rC L)) (hL : ∀ k, k < nm → (L k).price < 18446744073709551616) :
    Calls Try.prog 28 #[vq, vm] w fun e w' => e = .returned (.agg #[.int .i64 ((totF q L (min nm nq)).lines : Nat), .int .i64 ((totF q L (min nm nq)).pieces : Nat), .int .i64 ((totF q L (min nm nq)).free : Nat), .int .u64 ((sumL (totF q L (min nm nq)).prices : Nat) : Int)]) ∧ Below w.heap.size w w' := by
  obtain ⟨aq, cq, rfl, _, _, hRq⟩ := hSq
  obtain ⟨am, cm, rfl, _, hcm, hRm⟩ := hSm
  obtain ⟨m, hm⟩ : ∃ m, min nm nq = m := ⟨_, rfl⟩
  rw [hm]
  have hm1 : m ≤ nm := by omega
  have hm2 : m ≤ nq := by omega
  have hm3 : m = nm ∨ m = nq := by omega
  clear hm
  obtain ⟨i0, hi, hz0, hz1, hz2⟩ := info_parts infoF
  go_enter Try.func28, Try.ntmps28
  go_wp2
  go_loopw [6, 7] (fun p i wr => ∃ (k : Nat) (l : List Nat), k ≤ m ∧ i = .int .i64 k ∧ AlikeL l (totF q L k).prices ∧ wr.ownsRow (w.heap.size + 2) 27 1 p l.length (l.map (Value.float .f64)) ∧ Below w.heap.size w wr ∧
      look wr w.heap.size = some (.cells #[.int .i64 0, .int .i64 0, .int .i64 0, .int .u64 0] 45 (0, 0)) ∧
      look wr (w.heap.size + 1) = some (.cells #[.int .i64 ((totF q L k).lines : Nat), .int .i64 ((totF q L k).pieces : Nat), .int .i64 ((totF q L k).free : Nat), .int .u64 0] 45 (0, 0)))
    (fun _ i _ => m - (intOf i).toNat)
  case atStart => exact ⟨0, [], Nat.zero_le _, rfl, AlikeL.nil, World.ownsRow_nil _ _ _ _, belA (belA (bel0 _) _) _, by go_simp, by simp only [totF, tot0]; go_simp⟩
  case round =>
    obtain ⟨k, l, hk, rfl, hl, hown, hB, h0, h1⟩ := hrel
    have hs0 := look_lt h1
    have hs1 := look_lt h0
    by_cases hlt : k < m
    · have tb := tot_bounds q L k
      have tn := hidP (show totF q L (k + 1) = stepT (totF q L k) (q k) (L k) from rfl)
      obtain ⟨bq, oq, rfl, hbq, hcq⟩ := SliceAt.cell hRq (show k < nq by omega) hB
      obtain ⟨bm, om, rfl, hbm, hcm2⟩ := SliceAt.cell hRm (show k < nm by omega) hB
      have hp := hL k (by omega)
      have hlm : k < nm := by omega
      have hlq : k < nq := by omega
      obtain ⟨⟨A, B, C, Ps⟩, hT⟩ : ∃ t, totF q L k = t := ⟨_, rfl⟩
      rw [hT] at tn hl h1 tb
      simp only at hl h1 tb
      obtain ⟨q0, hq0⟩ : ∃ x, q k = x := ⟨_, rfl⟩
      have c0 : wr.cell? ⟨bq, oq + k, none⟩ = some (.int .i64 q0) := by
        have := hcq 0 _ rfl
        rw [Nat.mul_one, Nat.add_zero, hq0] at this
        exact this
      have hbq2 : bq < wr.heap.size := Nat.lt_of_lt_of_le hbq hB.size
      have hbm2 : bm < wr.heap.size := Nat.lt_of_lt_of_le hbm hB.size
      clear hRq hRm hm3
      obtain ⟨r, hr0⟩ : ∃ r, (L k).right = r := ⟨_, rfl⟩
      obtain ⟨N, hN⟩ : ∃ x, qtyN q0 = x := ⟨_, rfl⟩
      have hN2 : N ≤ 100000 := by rw [← hN]; exact qtyN_le _
      have hN3 : q0 < 1 → N < 1 := by intro h; rw [← hN]; unfold qtyN; split <;> omega
      have hN4 : 1 ≤ q0 → 1 ≤ N := by intro h; rw [← hN]; unfold qtyN; split <;> omega
      have hN5 : 100000 < q0 → N = 100000 := by intro h; rw [← hN]; unfold qtyN; rw [if_pos h]
      have hN6 : ¬ 100000 < q0 → N = q0 := by intro h; rw [← hN]; unfold qtyN; rw [if_neg h]
      have kA := fun w => calls_is (rright_any (L k).flag (L k).has (L k).price w) (u := .bool r) (by rw [← hr0]; rfl)
      have hstep := tn.out
      rw [hq0] at hstep
      unfold stepT playB at hstep
      rw [hr0, hN] at hstep
      obtain ⟨⟨F, H, p⟩, hM⟩ : ∃ x, L k = x := ⟨_, rfl⟩
      have e1 : wr.cell? ⟨bm, om + k * 3 + 1, none⟩ = some (.bool H) := by
        have := hcm2 1 _ rfl
        rw [hM] at this
        exact this
      have e2 : wr.cell? ⟨bm, om + k * 3 + 2, none⟩ = some (.int .u64 (p : Int)) := by
        have := hcm2 2 _ rfl
        rw [hM] at this
        exact this
      unfold rC at hcm2
      rw [hM] at kA hcm2 hp hstep
      simp only at kA hcm2 hp hstep
      clear hq0 hr0 hT hcq hM tn hN
      have hdm : decide ((k : Int) < (nm : Int)) = true := decide_eq_true (by omega)
      have hdq : decide ((k : Int) < (nq : Int)) = true := decide_eq_true (by omega)
      by_cases h1q : q0 < 1
      · rw [decide_eq_false (by omega), Bool.false_and, if_neg (by decide)] at hstep
        have hst := hidP hstep
        have hd1 : decide (100000 < q0) = false := decide_eq_false (by omega)
        clear hN3 hN4 hN5 hN6 hstep
        go_wp2
        go_roundw
        case rel => exact ⟨k + 1, l, by omega, by go_num, by rw [hst.out]; exact hl, hown, hB, h0, by rw [hst.out]; exact h1⟩
        case measure => simp [intOf]; omega
      · rw [decide_eq_true (by omega), Bool.true_and] at hstep
        by_cases h2q : 100000 < q0
        · obtain rfl := hN5 h2q
          have hd1 : decide (100000 < q0) = true := decide_eq_true h2q
          clear hN3 hN4 hN5 hN6 hN2
          have wA : IntKind.i64.wrap ((A : Int) + 1) = ((A + 1 : Nat) : Int) := by rw [IntWalk.i64_in _ (by omega)]; omega
          have wB : IntKind.i64.wrap ((B : Int) + 100000) = ((B + ((100000 : Int)).toNat : Nat) : Int) := by rw [IntWalk.i64_in _ (by omega)]; omega
          have wC : IntKind.i64.wrap ((C : Int) + 1) = ((C + 1 : Nat) : Int) := by rw [IntWalk.i64_in _ (by omega)]; omega
          obtain ⟨B2, hB2⟩ : ∃ x, B + ((100000 : Int)).toNat = x := ⟨_, rfl⟩
          rw [hB2] at hstep wB
          clear hB2
          cases r
          · rw [if_neg (by decide)] at hstep
            have hst := hidP hstep
            clear hstep
            go_wp2_with (show wpList _ _ _ (⟨_, .load 25 _, _, _, _, some _⟩ :: _) _ _; refine load_mid_if (by rfl) 25 _ rfl bm (om + k * 3) rfl _ _ hcm2 Try.underlying25 rfl rk_info ?_)
            refine (kA _).mono ?_
            rintro _ w1 ⟨rfl, hB1⟩
            replace l0 : look w1 (w.heap.size) = some (.cells (#[.int .i64 0, .int .i64 0, .int .i64 0, .int .u64 0]) 45 (0, 0)) := by rw [look_below hB1 (look_lt h0)]; exact h0
            replace c00 : World.cell? w1 ⟨w.heap.size, 0, none⟩ = some (.int .i64 0) := by rw [look_cell l0]; rfl
            replace c01 : World.cell? w1 ⟨w.heap.size, 1, none⟩ = some (.int .i64 0) := by rw [look_cell l0]; rfl
            replace c02 : World.cell? w1 ⟨w.heap.size, 2, none⟩ = some (.int .i64 0) := by rw [look_cell l0]; rfl
            replace c03 : World.cell? w1 ⟨w.heap.size, 3, none⟩ = some (.int .u64 0) := by rw [look_cell l0]; rfl
            replace f0 := look_frozen l0
            replace s0 := look_lt l0
            replace l1 : look w1 (w.heap.size + 1) = some (.cells (#[.int .i64 (A : Nat), .int .i64 (B : Nat), .int .i64 (C : Nat), .int .u64 0]) 45 (0, 0)) := by rw [look_below hB1 (look_lt h1)]; exact h1
            replace c10 : World.cell? w1 ⟨w.heap.size + 1, 0, none⟩ = some (.int .i64 (A : Nat)) := by rw [look_cell l1]; rfl
            replace c11 : World.cell? w1 ⟨w.heap.size + 1, 1, none⟩ = some (.int .i64 (B : Nat)) := by rw [look_cell l1]; rfl
            replace c12 : World.cell? w1 ⟨w.heap.size + 1, 2, none⟩ = some (.int .i64 (C : Nat)) := by rw [look_cell l1]; rfl
            replace c13 : World.cell? w1 ⟨w.heap.size + 1, 3, none⟩ = some (.int .u64 0) := by rw [look_cell l1]; rfl
            replace f1 := look_frozen l1
            replace s1 := look_lt l1
            replace e1 := (hB1.cell hbm2).trans e1
            replace e2 := (hB1.cell hbm2).trans e2
            have hne : ¬ bm = w.heap.size + 1 := by omega
            have hbm3 : bm < w1.heap.size := Nat.lt_of_lt_of_le hbm2 hB1.size
            go_wp2
            go_roundw
            case rel => exact ⟨k + 1, l, by omega, by go_num, by rw [hst.out]; exact hl, own_below hown hB1, belT hB hB1, l0, by rw [hst.out]; exact l1⟩
            case measure => simp [intOf]; omega
          · rw [if_pos rfl] at hstep
            cases H
            · simp only [if_neg (show ¬ (false = true) by decide)] at hstep
              have hst := hidP hstep
              clear hstep
              go_wp2_with (show wpList _ _ _ (⟨_, .load 25 _, _, _, _, some _⟩ :: _) _ _; refine load_mid_if (by rfl) 25 _ rfl bm (om + k * 3) rfl _ _ hcm2 Try.underlying25 rfl rk_info ?_)
              refine (kA _).mono ?_
              rintro _ w1 ⟨rfl, hB1⟩
              have hBx := belT hB hB1
              replace l0 : look w1 (w.heap.size) = some (.cells (#[.int .i64 0, .int .i64 0, .int .i64 0, .int .u64 0]) 45 (0, 0)) := by rw [look_below hB1 (look_lt h0)]; exact h0
              replace c00 : World.cell? w1 ⟨w.heap.size, 0, none⟩ = some (.int .i64 0) := by rw [look_cell l0]; rfl
              replace c01 : World.cell? w1 ⟨w.heap.size, 1, none⟩ = some (.int .i64 0) := by rw [look_cell l0]; rfl
              replace c02 : World.cell? w1 ⟨w.heap.size, 2, none⟩ = some (.int .i64 0) := by rw [look_cell l0]; rfl
              replace c03 : World.cell? w1 ⟨w.heap.size, 3, none⟩ = some (.int .u64 0) := by rw [look_cell l0]; rfl
              replace f0 := look_frozen l0
              replace s0 := look_lt l0
              replace l1 : look w1 (w.heap.size + 1) = some (.cells (#[.int .i64 (A : Nat), .int .i64 (B : Nat), .int .i64 (C : Nat), .int .u64 0]) 45 (0, 0)) := by rw [look_below hB1 (look_lt h1)]; exact h1
              replace c10 : World.cell? w1 ⟨w.heap.size + 1, 0, none⟩ = some (.int .i64 (A : Nat)) := by rw [look_cell l1]; rfl
              replace c11 : World.cell? w1 ⟨w.heap.size + 1, 1, none⟩ = some (.int .i64 (B : Nat)) := by rw [look_cell l1]; rfl
              replace c12 : World.cell? w1 ⟨w.heap.size + 1, 2, none⟩ = some (.int .i64 (C : Nat)) := by rw [look_cell l1]; rfl
              replace c13 : World.cell? w1 ⟨w.heap.size + 1, 3, none⟩ = some (.int .u64 0) := by rw [look_cell l1]; rfl
              replace f1 := look_frozen l1
              replace s1 := look_lt l1
              replace e1 := (hB1.cell hbm2).trans e1
              replace e2 := (hB1.cell hbm2).trans e2
              have hne : ¬ bm = w.heap.size + 1 := by omega
              have hbm3 : bm < w1.heap.size := Nat.lt_of_lt_of_le hbm2 hB1.size
              go_wp2
              go_roundw
              case rel => exact ⟨k + 1, l, by omega, by go_num, by rw [hst.out]; exact hl, own_setCell (own_setCell (own_setCell (own_below hown hB1) (by omega)) (by omega)) (by omega), by repeat (first | exact hBx | refine belS ?_ (by simp) _), by go_simp, by rw [hst.out]; go_simp⟩
              case measure => simp [intOf]; omega
            · simp only [if_pos] at hstep
              have hst := hidP hstep
              clear hstep
              go_wp2_with (show wpList _ _ _ (⟨_, .load 25 _, _, _, _, some _⟩ :: _) _ _; refine load_mid_if (by rfl) 25 _ rfl bm (om + k * 3) rfl _ _ hcm2 Try.underlying25 rfl rk_info ?_)
              refine (kA _).mono ?_
              rintro _ w1 ⟨rfl, hB1⟩
              have hBx := belT hB hB1
              have hownx := own_below hown hB1
              replace l0 : look w1 (w.heap.size) = some (.cells (#[.int .i64 0, .int .i64 0, .int .i64 0, .int .u64 0]) 45 (0, 0)) := by rw [look_below hB1 (look_lt h0)]; exact h0
              replace c00 : World.cell? w1 ⟨w.heap.size, 0, none⟩ = some (.int .i64 0) := by rw [look_cell l0]; rfl
              replace c01 : World.cell? w1 ⟨w.heap.size, 1, none⟩ = some (.int .i64 0) := by rw [look_cell l0]; rfl
              replace c02 : World.cell? w1 ⟨w.heap.size, 2, none⟩ = some (.int .i64 0) := by rw [look_cell l0]; rfl
              replace c03 : World.cell? w1 ⟨w.heap.size, 3, none⟩ = some (.int .u64 0) := by rw [look_cell l0]; rfl
              replace f0 := look_frozen l0
              replace s0 := look_lt l0
              replace l1 : look w1 (w.heap.size + 1) = some (.cells (#[.int .i64 (A : Nat), .int .i64 (B : Nat), .int .i64 (C : Nat), .int .u64 0]) 45 (0, 0)) := by rw [look_below hB1 (look_lt h1)]; exact h1
              replace c10 : World.cell? w1 ⟨w.heap.size + 1, 0, none⟩ = some (.int .i64 (A : Nat)) := by rw [look_cell l1]; rfl
              replace c11 : World.cell? w1 ⟨w.heap.size + 1, 1, none⟩ = some (.int .i64 (B : Nat)) := by rw [look_cell l1]; rfl
              replace c12 : World.cell? w1 ⟨w.heap.size + 1, 2, none⟩ = some (.int .i64 (C : Nat)) := by rw [look_cell l1]; rfl
              replace c13 : World.cell? w1 ⟨w.heap.size + 1, 3, none⟩ = some (.int .u64 0) := by rw [look_cell l1]; rfl
              replace f1 := look_frozen l1
              replace s1 := look_lt l1
              replace e1 := (hB1.cell hbm2).trans e1
              replace e2 := (hB1.cell hbm2).trans e2
              have hne : ¬ bm = w.heap.size + 1 := by omega
              have hbm3 : bm < w1.heap.size := Nat.lt_of_lt_of_le hbm2 hB1.size
              go_wp2_with (at_builtin; refine stop_here ?_)
              refine hidP ?_
              obtain ⟨W1, hW1⟩ : ∃ x, (w1.setCell ⟨w.heap.size + 1, 0, none⟩ (.int .i64 ((A : Int) + 1))).setCell ⟨w.heap.size + 1, 1, none⟩ (.int .i64 (B2 : Int)) = x := ⟨_, rfl⟩
              have ho1 : W1.ownsRow (w.heap.size + 2) 27 1 u6 l.length (l.map (Value.float .f64)) := by rw [← hW1]; exact own_setCell (own_setCell hownx (by omega)) (by omega)
              have hb1 : Below w.heap.size w W1 := by rw [← hW1]; exact belS (belS hBx (by simp) _) (by simp) _
              have hz : W1.heap.size = w1.heap.size := by rw [← hW1]; simp
              replace l0 : look W1 w.heap.size = some (.cells #[.int .i64 0, .int .i64 0, .int .i64 0, .int .u64 0] 45 (0, 0)) := by rw [← hW1, look_set_other (by simp), look_set_other (by simp)]; exact l0
              replace l1 : look W1 (w.heap.size + 1) = some (.cells #[.int .i64 ((A + 1 : Nat) : Int), .int .i64 (B2 : Int), .int .i64 (C : Int), .int .u64 0] 45 (0, 0)) := by rw [← hW1, look_set_same (look_set_same l1 _ _)]; rfl
              rw [hW1]
              clear hW1 c00 c01 c02 c03 c10 c11 c12 c13 f0 f1 wA wB wC
              refine wpList_append_own_at _ rfl _ _ 108 rfl (w.heap.size + 2) 27 i0 (.float .f64 0) 1 8 Try.underlying108 hi hz0 hz1 hz2 rfl (by decide) _ _ _ rfl ((own_mulW ho1).alloc _) ⟨_, 0, none⟩ 1 1 [.float .f64 (mulR (cvtF 100000) p W1)] rfl rfl ?c1 ?c2 ?c3 ?c4 ?c5 ?_
              case c1 =>
                have := cell_one_new (mulW (cvtF 100000) p W1) (.float .f64 (mulR (cvtF 100000) p W1)) 27
                rw [size_mulW] at this
                first | exact this | (rw [hz] at this; exact this)
              case c2 => exact one_one _ rfl
              case c3 => have := hl.1; unfold maxLen; omega
              case c4 => have := hl.1; omega
              case c5 => have := hBx.size; rw [World.size_alloc, size_mulW, hz]; omega
              intro v' w2 hown' hgrow _ _
              have hBg : Below w.heap.size w ((mulW (cvtF 100000) p W1).alloc (.cells #[.float .f64 (mulR (cvtF 100000) p W1)] 27)) := belA (below_mulW hb1 _ _) _
              have hBe := hBg.grown hgrow hBg.size (fun g e => by have := (ho1.lt g e).1; omega)
              replace l0 : look w2 w.heap.size = some (.cells #[.int .i64 0, .int .i64 0, .int .i64 0, .int .u64 0] 45 (0, 0)) := by
                rw [grown_look hgrow (by rw [World.size_alloc, size_mulW, hz]; omega) (fun g e => by have := (ho1.lt g e).1; omega), look_alloc_past _ _ _ (by rw [size_mulW, hz]; exact s0), look_mulW]; exact l0
              replace l1 : look w2 (w.heap.size + 1) = some (.cells #[.int .i64 ((A + 1 : Nat) : Int), .int .i64 (B2 : Int), .int .i64 (C : Int), .int .u64 0] 45 (0, 0)) := by
                rw [grown_look hgrow (by rw [World.size_alloc, size_mulW, hz]; omega) (fun g e => by have := (ho1.lt g e).1; omega), look_alloc_past _ _ _ (by rw [size_mulW, hz]; exact s1), look_mulW]; exact l1
              go_wp2
              go_roundw
              case rel => exact ⟨k + 1, l ++ [mulR (cvtF 100000) p W1], by omega, by go_num, by rw [hst.out]; exact hl.snoc (mulR_alike _ _ _), by rw [List.length_append, List.map_append]; exact hown', hBe, l0, by rw [hst.out]; exact l1⟩
              case measure => simp [intOf]; omega
        · have hNq := hN6 h2q
          subst hNq
          have hd1 : decide (100000 < N) = false := decide_eq_false h2q
          have hNd : ¬ N < 1 := h1q
          clear hN3 hN4 hN5 hN6
          have wA : IntKind.i64.wrap ((A : Int) + 1) = ((A + 1 : Nat) : Int) := by rw [IntWalk.i64_in _ (by omega)]; omega
          have wB : IntKind.i64.wrap ((B : Int) + N) = ((B + ((N : Int)).toNat : Nat) : Int) := by rw [IntWalk.i64_in _ (by omega)]; omega
          have wC : IntKind.i64.wrap ((C : Int) + 1) = ((C + 1 : Nat) : Int) := by rw [IntWalk.i64_in _ (by omega)]; omega
          obtain ⟨B2, hB2⟩ : ∃ x, B + ((N : Int)).toNat = x := ⟨_, rfl⟩
          rw [hB2] at hstep wB
          clear hB2
          cases r
          · rw [if_neg (by decide)] at hstep
            have hst := hidP hstep
            clear hstep
            go_wp2_with (show wpList _ _ _ (⟨_, .load 25 _, _, _, _, some _⟩ :: _) _ _; refine load_mid_if (by rfl) 25 _ rfl bm (om + k * 3) rfl _ _ hcm2 Try.underlying25 rfl rk_info ?_)
            refine (kA _).mono ?_
            rintro _ w1 ⟨rfl, hB1⟩
            replace l0 : look w1 (w.heap.size) = some (.cells (#[.int .i64 0, .int .i64 0, .int .i64 0, .int .u64 0]) 45 (0, 0)) := by rw [look_below hB1 (look_lt h0)]; exact h0
            replace c00 : World.cell? w1 ⟨w.heap.size, 0, none⟩ = some (.int .i64 0) := by rw [look_cell l0]; rfl
            replace c01 : World.cell? w1 ⟨w.heap.size, 1, none⟩ = some (.int .i64 0) := by rw [look_cell l0]; rfl
            replace c02 : World.cell? w1 ⟨w.heap.size, 2, none⟩ = some (.int .i64 0) := by rw [look_cell l0]; rfl
            replace c03 : World.cell? w1 ⟨w.heap.size, 3, none⟩ = some (.int .u64 0) := by rw [look_cell l0]; rfl
            replace f0 := look_frozen l0
            replace s0 := look_lt l0
            replace l1 : look w1 (w.heap.size + 1) = some (.cells (#[.int .i64 (A : Nat), .int .i64 (B : Nat), .int .i64 (C : Nat), .int .u64 0]) 45 (0, 0)) := by rw [look_below hB1 (look_lt h1)]; exact h1
            replace c10 : World.cell? w1 ⟨w.heap.size + 1, 0, none⟩ = some (.int .i64 (A : Nat)) := by rw [look_cell l1]; rfl
            replace c11 : World.cell? w1 ⟨w.heap.size + 1, 1, none⟩ = some (.int .i64 (B : Nat)) := by rw [look_cell l1]; rfl
            replace c12 : World.cell? w1 ⟨w.heap.size + 1, 2, none⟩ = some (.int .i64 (C : Nat)) := by rw [look_cell l1]; rfl
            replace c13 : World.cell? w1 ⟨w.heap.size + 1, 3, none⟩ = some (.int .u64 0) := by rw [look_cell l1]; rfl
            replace f1 := look_frozen l1
            replace s1 := look_lt l1
            replace e1 := (hB1.cell hbm2).trans e1
            replace e2 := (hB1.cell hbm2).trans e2
            have hne : ¬ bm = w.heap.size + 1 := by omega
            have hbm3 : bm < w1.heap.size := Nat.lt_of_lt_of_le hbm2 hB1.size
            go_wp2
            go_roundw
            case rel => exact ⟨k + 1, l, by omega, by go_num, by rw [hst.out]; exact hl, own_below hown hB1, belT hB hB1, l0, by rw [hst.out]; exact l1⟩
            case measure => simp [intOf]; omega
          · rw [if_pos rfl] at hstep
            cases H
            · simp only [if_neg (show ¬ (false = true) by decide)] at hstep
              have hst := hidP hstep
              clear hstep
              go_wp2_with (show wpList _ _ _ (⟨_, .load 25 _, _, _, _, some _⟩ :: _) _ _; refine load_mid_if (by rfl) 25 _ rfl bm (om + k * 3) rfl _ _ hcm2 Try.underlying25 rfl rk_info ?_)
              refine (kA _).mono ?_
              rintro _ w1 ⟨rfl, hB1⟩
              have hBx := belT hB hB1
              replace l0 : look w1 (w.heap.size) = some (.cells (#[.int .i64 0, .int .i64 0, .int .i64 0, .int .u64 0]) 45 (0, 0)) := by rw [look_below hB1 (look_lt h0)]; exact h0
              replace c00 : World.cell? w1 ⟨w.heap.size, 0, none⟩ = some (.int .i64 0) := by rw [look_cell l0]; rfl
              replace c01 : World.cell? w1 ⟨w.heap.size, 1, none⟩ = some (.int .i64 0) := by rw [look_cell l0]; rfl
              replace c02 : World.cell? w1 ⟨w.heap.size, 2, none⟩ = some (.int .i64 0) := by rw [look_cell l0]; rfl
              replace c03 : World.cell? w1 ⟨w.heap.size, 3, none⟩ = some (.int .u64 0) := by rw [look_cell l0]; rfl
              replace f0 := look_frozen l0
              replace s0 := look_lt l0
              replace l1 : look w1 (w.heap.size + 1) = some (.cells (#[.int .i64 (A : Nat), .int .i64 (B : Nat), .int .i64 (C : Nat), .int .u64 0]) 45 (0, 0)) := by rw [look_below hB1 (look_lt h1)]; exact h1
              replace c10 : World.cell? w1 ⟨w.heap.size + 1, 0, none⟩ = some (.int .i64 (A : Nat)) := by rw [look_cell l1]; rfl
              replace c11 : World.cell? w1 ⟨w.heap.size + 1, 1, none⟩ = some (.int .i64 (B : Nat)) := by rw [look_cell l1]; rfl
              replace c12 : World.cell? w1 ⟨w.heap.size + 1, 2, none⟩ = some (.int .i64 (C : Nat)) := by rw [look_cell l1]; rfl
              replace c13 : World.cell? w1 ⟨w.heap.size + 1, 3, none⟩ = some (.int .u64 0) := by rw [look_cell l1]; rfl
              replace f1 := look_frozen l1
              replace s1 := look_lt l1
              replace e1 := (hB1.cell hbm2).trans e1
              replace e2 := (hB1.cell hbm2).trans e2
              have hne : ¬ bm = w.heap.size + 1 := by omega
              have hbm3 : bm < w1.heap.size := Nat.lt_of_lt_of_le hbm2 hB1.size
              go_wp2
              go_roundw
              case rel => exact ⟨k + 1, l, by omega, by go_num, by rw [hst.out]; exact hl, own_setCell (own_setCell (own_setCell (own_below hown hB1) (by omega)) (by omega)) (by omega), by repeat (first | exact hBx | refine belS ?_ (by simp) _), by go_simp, by rw [hst.out]; go_simp⟩
              case measure => simp [intOf]; omega
            · simp only [if_pos] at hstep
              have hst := hidP hstep
              clear hstep
              go_wp2_with (show wpList _ _ _ (⟨_, .load 25 _, _, _, _, some _⟩ :: _) _ _; refine load_mid_if (by rfl) 25 _ rfl bm (om + k * 3) rfl _ _ hcm2 Try.underlying25 rfl rk_info ?_)
              refine (kA _).mono ?_
              rintro _ w1 ⟨rfl, hB1⟩
              have hBx := belT hB hB1
              have hownx := own_below hown hB1
              replace l0 : look w1 (w.heap.size) = some (.cells (#[.int .i64 0, .int .i64 0, .int .i64 0, .int .u64 0]) 45 (0, 0)) := by rw [look_below hB1 (look_lt h0)]; exact h0
              replace c00 : World.cell? w1 ⟨w.heap.size, 0, none⟩ = some (.int .i64 0) := by rw [look_cell l0]; rfl
              replace c01 : World.cell? w1 ⟨w.heap.size, 1, none⟩ = some (.int .i64 0) := by rw [look_cell l0]; rfl
              replace c02 : World.cell? w1 ⟨w.heap.size, 2, none⟩ = some (.int .i64 0) := by rw [look_cell l0]; rfl
              replace c03 : World.cell? w1 ⟨w.heap.size, 3, none⟩ = some (.int .u64 0) := by rw [look_cell l0]; rfl
              replace f0 := look_frozen l0
              replace s0 := look_lt l0
              replace l1 : look w1 (w.heap.size + 1) = some (.cells (#[.int .i64 (A : Nat), .int .i64 (B : Nat), .int .i64 (C : Nat), .int .u64 0]) 45 (0, 0)) := by rw [look_below hB1 (look_lt h1)]; exact h1
              replace c10 : World.cell? w1 ⟨w.heap.size + 1, 0, none⟩ = some (.int .i64 (A : Nat)) := by rw [look_cell l1]; rfl
              replace c11 : World.cell? w1 ⟨w.heap.size + 1, 1, none⟩ = some (.int .i64 (B : Nat)) := by rw [look_cell l1]; rfl
              replace c12 : World.cell? w1 ⟨w.heap.size + 1, 2, none⟩ = some (.int .i64 (C : Nat)) := by rw [look_cell l1]; rfl
              replace c13 : World.cell? w1 ⟨w.heap.size + 1, 3, none⟩ = some (.int .u64 0) := by rw [look_cell l1]; rfl
              replace f1 := look_frozen l1
              replace s1 := look_lt l1
              replace e1 := (hB1.cell hbm2).trans e1
              replace e2 := (hB1.cell hbm2).trans e2
              have hne : ¬ bm = w.heap.size + 1 := by omega
              have hbm3 : bm < w1.heap.size := Nat.lt_of_lt_of_le hbm2 hB1.size
              go_wp2_with (at_builtin; refine stop_here ?_)
              refine hidP ?_
              obtain ⟨W1, hW1⟩ : ∃ x, (w1.setCell ⟨w.heap.size + 1, 0, none⟩ (.int .i64 ((A : Int) + 1))).setCell ⟨w.heap.size + 1, 1, none⟩ (.int .i64 (B2 : Int)) = x := ⟨_, rfl⟩
              have ho1 : W1.ownsRow (w.heap.size + 2) 27 1 u6 l.length (l.map (Value.float .f64)) := by rw [← hW1]; exact own_setCell (own_setCell hownx (by omega)) (by omega)
              have hb1 : Below w.heap.size w W1 := by rw [← hW1]; exact belS (belS hBx (by simp) _) (by simp) _
              have hz : W1.heap.size = w1.heap.size := by rw [← hW1]; simp
              replace l0 : look W1 w.heap.size = some (.cells #[.int .i64 0, .int .i64 0, .int .i64 0, .int .u64 0] 45 (0, 0)) := by rw [← hW1, look_set_other (by simp), look_set_other (by simp)]; exact l0
              replace l1 : look W1 (w.heap.size + 1) = some (.cells #[.int .i64 ((A + 1 : Nat) : Int), .int .i64 (B2 : Int), .int .i64 (C : Int), .int .u64 0] 45 (0, 0)) := by rw [← hW1, look_set_same (look_set_same l1 _ _)]; rfl
              rw [hW1]
              clear hW1 c00 c01 c02 c03 c10 c11 c12 c13 f0 f1 wA wB wC
              refine wpList_append_own_at _ rfl _ _ 108 rfl (w.heap.size + 2) 27 i0 (.float .f64 0) 1 8 Try.underlying108 hi hz0 hz1 hz2 rfl (by decide) _ _ _ rfl ((own_mulW ho1).alloc _) ⟨_, 0, none⟩ 1 1 [.float .f64 (mulR (cvtF N) p W1)] rfl rfl ?c1 ?c2 ?c3 ?c4 ?c5 ?_
              case c1 =>
                have := cell_one_new (mulW (cvtF N) p W1) (.float .f64 (mulR (cvtF N) p W1)) 27
                rw [size_mulW] at this
                first | exact this | (rw [hz] at this; exact this)
              case c2 => exact one_one _ rfl
              case c3 => have := hl.1; unfold maxLen; omega
              case c4 => have := hl.1; omega
              case c5 => have := hBx.size; rw [World.size_alloc, size_mulW, hz]; omega
              intro v' w2 hown' hgrow _ _
              have hBg : Below w.heap.size w ((mulW (cvtF N) p W1).alloc (.cells #[.float .f64 (mulR (cvtF N) p W1)] 27)) := belA (below_mulW hb1 _ _) _
              have hBe := hBg.grown hgrow hBg.size (fun g e => by have := (ho1.lt g e).1; omega)
              replace l0 : look w2 w.heap.size = some (.cells #[.int .i64 0, .int .i64 0, .int .i64 0, .int .u64 0] 45 (0, 0)) := by
                rw [grown_look hgrow (by rw [World.size_alloc, size_mulW, hz]; omega) (fun g e => by have := (ho1.lt g e).1; omega), look_alloc_past _ _ _ (by rw [size_mulW, hz]; exact s0), look_mulW]; exact l0
              replace l1 : look w2 (w.heap.size + 1) = some (.cells #[.int .i64 ((A + 1 : Nat) : Int), .int .i64 (B2 : Int), .int .i64 (C : Int), .int .u64 0] 45 (0, 0)) := by
                rw [grown_look hgrow (by rw [World.size_alloc, size_mulW, hz]; omega) (fun g e => by have := (ho1.lt g e).1; omega), look_alloc_past _ _ _ (by rw [size_mulW, hz]; exact s1), look_mulW]; exact l1
              go_wp2
              go_roundw
              case rel => exact ⟨k + 1, l ++ [mulR (cvtF N) p W1], by omega, by go_num, by rw [hst.out]; exact hl.snoc (mulR_alike _ _ _), by rw [List.length_append, List.map_append]; exact hown', hBe, l0, by rw [hst.out]; exact l1⟩
              case measure => simp [intOf]; omega
    · obtain rfl : k = m := by omega
      have tb := (tot_bounds q L k).2.2.2
      have hll := hl.1
      rcases hm3 with rfl | rfl
      · have hdm : decide ((k : Int) < (k : Int)) = false := decide_eq_false (by omega)
        go_wp2_with fail
        refine (ref_sum_any _ l.length (nthF l) _ (by omega) (isF_list hown hl)).mono ?_
        rintro _ w1 ⟨rfl, hB1⟩
        have hS : sumF (nthF l) l.length = sumL (totF q L k).prices := hl.sum
        rw [hS]
        clear hS hll tb
        have hBx := belT hB hB1
        replace l0 : look w1 (w.heap.size) = some (.cells (#[.int .i64 0, .int .i64 0, .int .i64 0, .int .u64 0]) 45 (0, 0)) := by rw [look_below hB1 (by first | omega | (simp only [World.size_alloc]; omega) | exact look_lt (by assumption) | (simp only [World.size_alloc, World.size_setCell]; omega) | (simp; omega))]; first | assumption | go_simp
        replace c00 : World.cell? w1 ⟨w.heap.size, 0, none⟩ = some (.int .i64 0) := by rw [look_cell l0]; rfl
        replace c01 : World.cell? w1 ⟨w.heap.size, 1, none⟩ = some (.int .i64 0) := by rw [look_cell l0]; rfl
        replace c02 : World.cell? w1 ⟨w.heap.size, 2, none⟩ = some (.int .i64 0) := by rw [look_cell l0]; rfl
        replace c03 : World.cell? w1 ⟨w.heap.size, 3, none⟩ = some (.int .u64 0) := by rw [look_cell l0]; rfl
        replace f0 := look_frozen l0
        replace s0 := look_lt l0
        replace l1 : look w1 (w.heap.size + 1) = some (.cells (#[.int .i64 ((totF q L k).lines : Nat), .int .i64 ((totF q L k).pieces : Nat), .int .i64 ((totF q L k).free : Nat), .int .u64 0]) 45 (0, 0)) := by rw [look_below hB1 (by first | omega | (simp only [World.size_alloc]; omega) | exact look_lt (by assumption) | (simp only [World.size_alloc, World.size_setCell]; omega) | (simp; omega))]; first | assumption | go_simp
        replace c10 : World.cell? w1 ⟨w.heap.size + 1, 0, none⟩ = some (.int .i64 ((totF q L k).lines : Nat)) := by rw [look_cell l1]; rfl
        replace c11 : World.cell? w1 ⟨w.heap.size + 1, 1, none⟩ = some (.int .i64 ((totF q L k).pieces : Nat)) := by rw [look_cell l1]; rfl
        replace c12 : World.cell? w1 ⟨w.heap.size + 1, 2, none⟩ = some (.int .i64 ((totF q L k).free : Nat)) := by rw [look_cell l1]; rfl
        replace c13 : World.cell? w1 ⟨w.heap.size + 1, 3, none⟩ = some (.int .u64 0) := by rw [look_cell l1]; rfl
        replace f1 := look_frozen l1
        replace s1 := look_lt l1
        go_wp2
        exact ret_rt (g := w.heap.size) (t := 45) (fr := (0, 0)) Try.results28 rfl (by go_simp) rfl rfl ⟨rfl, belR (belS hBx (by simp) _) (Nat.le_refl _) _⟩
      · by_cases hkn : k < nm
        · have hdm : decide ((k : Int) < (nm : Int)) = true := decide_eq_true (by omega)
          have hdq : decide ((k : Int) < (k : Int)) = false := decide_eq_false (by omega)
          go_wp2_with fail
          refine (ref_sum_any _ l.length (nthF l) _ (by omega) (isF_list hown hl)).mono ?_
          rintro _ w1 ⟨rfl, hB1⟩
          have hS : sumF (nthF l) l.length = sumL (totF q L k).prices := hl.sum
          rw [hS]
          clear hS hll tb
          have hBx := belT hB hB1
          replace l0 : look w1 (w.heap.size) = some (.cells (#[.int .i64 0, .int .i64 0, .int .i64 0, .int .u64 0]) 45 (0, 0)) := by rw [look_below hB1 (by first | omega | (simp only [World.size_alloc]; omega) | exact look_lt (by assumption) | (simp only [World.size_alloc, World.size_setCell]; omega) | (simp; omega))]; first | assumption | go_simp
          replace c00 : World.cell? w1 ⟨w.heap.size, 0, none⟩ = some (.int .i64 0) := by rw [look_cell l0]; rfl
          replace c01 : World.cell? w1 ⟨w.heap.size, 1, none⟩ = some (.int .i64 0) := by rw [look_cell l0]; rfl
          replace c02 : World.cell? w1 ⟨w.heap.size, 2, none⟩ = some (.int .i64 0) := by rw [look_cell l0]; rfl
          replace c03 : World.cell? w1 ⟨w.heap.size, 3, none⟩ = some (.int .u64 0) := by rw [look_cell l0]; rfl
          replace f0 := look_frozen l0
          replace s0 := look_lt l0
          replace l1 : look w1 (w.heap.size + 1) = some (.cells (#[.int .i64 ((totF q L k).lines : Nat), .int .i64 ((totF q L k).pieces : Nat), .int .i64 ((totF q L k).free : Nat), .int .u64 0]) 45 (0, 0)) := by rw [look_below hB1 (by first | omega | (simp only [World.size_alloc]; omega) | exact look_lt (by assumption) | (simp only [World.size_alloc, World.size_setCell]; omega) | (simp; omega))]; first | assumption | go_simp
          replace c10 : World.cell? w1 ⟨w.heap.size + 1, 0, none⟩ = some (.int .i64 ((totF q L k).lines : Nat)) := by rw [look_cell l1]; rfl
          replace c11 : World.cell? w1 ⟨w.heap.size + 1, 1, none⟩ = some (.int .i64 ((totF q L k).pieces : Nat)) := by rw [look_cell l1]; rfl
          replace c12 : World.cell? w1 ⟨w.heap.size + 1, 2, none⟩ = some (.int .i64 ((totF q L k).free : Nat)) := by rw [look_cell l1]; rfl
          replace c13 : World.cell? w1 ⟨w.heap.size + 1, 3, none⟩ = some (.int .u64 0) := by rw [look_cell l1]; rfl
          replace f1 := look_frozen l1
          replace s1 := look_lt l1
          go_wp2
          exact ret_rt (g := w.heap.size) (t := 45) (fr := (0, 0)) Try.results28 rfl (by go_simp) rfl rfl ⟨rfl, belR (belS hBx (by simp) _) (Nat.le_refl _) _⟩
        · have hdm : decide ((k : Int) < (nm : Int)) = false := decide_eq_false (by omega)
          go_wp2_with fail
          refine (ref_sum_any _ l.length (nthF l) _ (by omega) (isF_list hown hl)).mono ?_
          rintro _ w1 ⟨rfl, hB1⟩
          have hS : sumF (nthF l) l.length = sumL (totF q L k).prices := hl.sum
          rw [hS]
          clear hS hll tb
          have hBx := belT hB hB1
          replace l0 : look w1 (w.heap.size) = some (.cells (#[.int .i64 0, .int .i64 0, .int .i64 0, .int .u64 0]) 45 (0, 0)) := by rw [look_below hB1 (by first | omega | (simp only [World.size_alloc]; omega) | exact look_lt (by assumption) | (simp only [World.size_alloc, World.size_setCell]; omega) | (simp; omega))]; first | assumption | go_simp
          replace c00 : World.cell? w1 ⟨w.heap.size, 0, none⟩ = some (.int .i64 0) := by rw [look_cell l0]; rfl
          replace c01 : World.cell? w1 ⟨w.heap.size, 1, none⟩ = some (.int .i64 0) := by rw [look_cell l0]; rfl
          replace c02 : World.cell? w1 ⟨w.heap.size, 2, none⟩ = some (.int .i64 0) := by rw [look_cell l0]; rfl
          replace c03 : World.cell? w1 ⟨w.heap.size, 3, none⟩ = some (.int .u64 0) := by rw [look_cell l0]; rfl
          replace f0 := look_frozen l0
          replace s0 := look_lt l0
          replace l1 : look w1 (w.heap.size + 1) = some (.cells (#[.int .i64 ((totF q L k).lines : Nat), .int .i64 ((totF q L k).pieces : Nat), .int .i64 ((totF q L k).free : Nat), .int .u64 0]) 45 (0, 0)) := by rw [look_below hB1 (by first | omega | (simp only [World.size_alloc]; omega) | exact look_lt (by assumption) | (simp only [World.size_alloc, World.size_setCell]; omega) | (simp; omega))]; first | assumption | go_simp
          replace c10 : World.cell? w1 ⟨w.heap.size + 1, 0, none⟩ = some (.int .i64 ((totF q L k).lines : Nat)) := by rw [look_cell l1]; rfl
          replace c11 : World.cell? w1 ⟨w.heap.size + 1, 1, none⟩ = some (.int .i64 ((totF q L k).pieces : Nat)) := by rw [look_cell l1]; rfl
          replace c12 : World.cell? w1 ⟨w.heap.size + 1, 2, none⟩ = some (.int .i64 ((totF q L k).free : Nat)) := by rw [look_cell l1]; rfl
          replace c13 : World.cell? w1 ⟨w.heap.size + 1, 3, none⟩ = some (.int .u64 0) := by rw [look_cell l1]; rfl
          replace f1 := look_frozen l1
          replace s1 := look_lt l1
          go_wp2
          exact ret_rt (g := w.heap.size) (t := 45) (fr := (0, 0)) Try.results28 rfl (by go_simp) rfl rfl ⟨rfl, belR (belS hBx (by simp) _) (Nat.le_refl _) _⟩
end Go.Proofs.Ytniphfkipjpikaa
