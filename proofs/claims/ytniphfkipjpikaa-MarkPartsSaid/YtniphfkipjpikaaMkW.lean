/- MarkParts: the walk of the law. -/
import Derived.Test.YtniphfkipjpikaaMkF
import Derived.Test.YtniphfkipjpikaaMkN
import Derived.Deep.Cut
import Derived.Deep.CutRange
namespace Go.Proofs.Ytniphfkipjpikaa
open Go.RowKit Flt

theorem infoI : (Try.prog.info? 3).map (fun i => (i.zero, i.size, i.bytes)) = some (some (.int .i64 0), 1, 8) := by kernel_rfl
theorem infoRk : (Try.prog.info? 25).map (fun i => (i.zero, i.size, i.bytes)) = some (some (.agg #[.int .i64 0, .bool false, .int .u64 0]), 3, 24) := by kernel_rfl
theorem qC_ones (q : Nat → Int) (k : Nat) : ∀ u ∈ qC q k, u.oneCell' = true := by intro u hu; simp [qC] at hu; subst hu; rfl
theorem qC_then (A B : Nat → Int) (n k : Nat) : thenC (qC A) n (qC B) k = qC (thenC A n B) k := by
  by_cases h : k < n
  · simp only [thenC, qC, if_pos h]
  · simp only [thenC, qC, if_neg h]
theorem rC_then (A B : Nat → Mk) (n k : Nat) : thenC (rC A) n (rC B) k = rC (thenC A n B) k := by
  by_cases h : k < n
  · simp only [thenC, rC, if_pos h]
  · simp only [thenC, rC, if_neg h]

theorem sumF_lt (L : Nat → Nat) (n : Nat) : sumF L n < 18446744073709551616 := by
  unfold sumF
  cases hf : foldF L n with
  | none => decide
  | some r => exact (fold_not_minus hf).2.1
theorem parts_bad (a1 : Option Addr) (n1 c1 : Nat) (a2 : Option Addr) (n2 c2 : Nat) (a3 : Option Addr) (n3 c3 : Nat) (a4 : Option Addr) (n4 c4 : Nat) (w : World) (b1 : n1 ≤ 9223372036854775807) (b2 : n2 ≤ 9223372036854775807) (b3 : n3 ≤ 9223372036854775807) (b4 : n4 ≤ 9223372036854775807)
    (h : ¬ (n3 ≤ 60 ∧ n4 ≤ 60 ∧ n1 = n3 ∧ n2 = n4)) :
    Calls Try.prog 6 #[.slice a1 n1 c1, .slice a2 n2 c2, .slice a3 n3 c3, .slice a4 n4 c4] w fun e w' => e = .returned (.bool true) ∧ Below w.heap.size w w' := by
  by_cases h1 : 60 < n3
  · clear h
    go_enter Try.func6, Try.ntmps6
    go_wp2_with fail
    refine (alive07 _).mono ?_
    rintro _ w1 ⟨rfl, hA⟩
    go_wp2
    go_ret
    exact ⟨rfl, hA⟩
  · by_cases h2 : 60 < n4
    · clear h
      go_enter Try.func6, Try.ntmps6
      go_wp2_with fail
      refine (alive07 _).mono ?_
      rintro _ w1 ⟨rfl, hA⟩
      go_wp2
      go_ret
      exact ⟨rfl, hA⟩
    · by_cases h3 : n1 = n3
      · have h4 : ¬ (n2 : Int) = (n4 : Int) := fun e => h ⟨by omega, by omega, h3, by omega⟩
        have h5 : ((n2 : Int) != (n4 : Int)) = true := by simp [h4]
        clear h
        subst h3
        go_enter Try.func6, Try.ntmps6
        go_wp2_with fail
        refine (alive07 _).mono ?_
        rintro _ w1 ⟨rfl, hA⟩
        go_wp2
        go_ret
        exact ⟨rfl, hA⟩
      · have h4 : ¬ (n1 : Int) = (n3 : Int) := by omega
        have h5 : ((n1 : Int) != (n3 : Int)) = true := by simp [h4]
        clear h
        go_enter Try.func6, Try.ntmps6
        go_wp2_with fail
        refine (alive07 _).mono ?_
        rintro _ w1 ⟨rfl, hA⟩
        go_wp2
        go_ret
        exact ⟨rfl, hA⟩

set_option maxRecDepth 100000 in
set_option maxHeartbeats 12800000 in
theorem mark_parts (v1 v2 v3 v4 : Value) (n m : Nat) (q1 q2 : Nat → Int) (L1 L2 : Nat → Mk) (w : World) (hn : n ≤ 60) (hm : m ≤ 60)
    (hS1 : SliceAt w v1 n 1 (qC q1)) (hS2 : SliceAt w v2 m 1 (qC q2)) (hS3 : SliceAt w v3 n 3 (rC L1)) (hS4 : SliceAt w v4 m 3 (rC L2))
    (hL1 : ∀ k, k < n → (L1 k).price < 18446744073709551616) (hL2 : ∀ k, k < m → (L2 k).price < 18446744073709551616) :
    Calls Try.prog 6 #[v1, v2, v3, v4] w fun e w' => e = .returned (.bool true) ∧ Below w.heap.size w w' := by
  have hL : ∀ k, k < n + m → (thenC L1 n L2 k).price < 18446744073709551616 := by
    intro k hk
    unfold thenC
    split
    · exact hL1 _ (by omega)
    · exact hL2 _ (by omega)
  obtain ⟨i1, hi1, hy1, hy2, hy3⟩ := info_parts infoI
  obtain ⟨i2, hi2, hw1, hw2, hw3⟩ := info_parts infoRk
  have tA := tot_bounds q1 L1 n
  have tB := tot_bounds q2 L2 m
  have tC := tot_then q1 L1 n q2 L2 m
  obtain ⟨⟨A1, A2, A3, AP⟩, hTA⟩ : ∃ t, totF q1 L1 n = t := ⟨_, rfl⟩
  obtain ⟨⟨B1, B2, B3, BP⟩, hTB⟩ : ∃ t, totF q2 L2 m = t := ⟨_, rfl⟩
  have kA := fun v u w h1 h2 => calls_is (msum_any v u n n q1 L1 w (by omega) (by omega) h1 h2 hL1) (u := .agg #[.int .i64 (A1 : Nat), .int .i64 (A2 : Nat), .int .i64 (A3 : Nat), .float .f64 (sumL AP)]) (by rw [Nat.min_self, hTA])
  have kB := fun v u w h1 h2 => calls_is (msum_any v u m m q2 L2 w (by omega) (by omega) h1 h2 hL2) (u := .agg #[.int .i64 (B1 : Nat), .int .i64 (B2 : Nat), .int .i64 (B3 : Nat), .float .f64 (sumL BP)]) (by rw [Nat.min_self, hTB])
  rw [hTA] at tA tC
  rw [hTB] at tB tC
  simp only [Tot.plus] at tA tB tC
  have kC := fun v u w h1 h2 => calls_is (msum_any v u (n + m) (n + m) (thenC q1 n q2) (thenC L1 n L2) w (by omega) (by omega) h1 h2 hL) (u := .agg #[.int .i64 ((A1 : Int) + (B1 : Int)), .int .i64 ((A2 : Int) + (B2 : Int)), .int .i64 ((A3 : Int) + (B3 : Int)), .float .f64 (sumL (AP ++ BP))]) (by rw [Nat.min_self, tC]; rfl)
  have kT : ∀ (s : Nat), s < 18446744073709551616 → ∀ w, _ := fun s hs w => calls_is (sametotal_any ((A1 : Int) + (B1 : Int)) ((A2 : Int) + (B2 : Int)) ((A3 : Int) + (B3 : Int)) s ((A1 : Int) + (B1 : Int)) ((A2 : Int) + (B2 : Int)) ((A3 : Int) + (B3 : Int)) s hs hs w) (u := .bool true) (by simp [sameTB])
  have tCh := hidP tC
  clear hTA hTB tC
  have hs10 := hS1
  have hs20 := hS2
  have hs30 := hS3
  have hs40 := hS4
  obtain ⟨a1, c1, rfl, _, _, _⟩ := hS1
  obtain ⟨a2, c2, rfl, _, _, _⟩ := hS2
  obtain ⟨a3, c3, rfl, _, _, _⟩ := hS3
  obtain ⟨a4, c4, rfl, _, _, _⟩ := hS4
  go_enter Try.func6, Try.ntmps6
  go_wp2_with fail
  refine (marks_any _ n L1 _ (by omega) hs30).mono ?_
  rintro _ w1 ⟨x1, rfl, hX1, hb1⟩
  go_wp2_with fail
  refine (kA _ _ _ (hs10.below hb1) hX1).mono ?_
  rintro _ w2 ⟨rfl, hA⟩
  have hb2 := belT hb1 hA
  clear hA hb1 hX1
  go_wp2_with fail
  refine (marks_any _ m L2 _ (by omega) (hs40.below hb2)).mono ?_
  rintro _ w3 ⟨x2, rfl, hX2, hA⟩
  have hb3 := belT hb2 hA
  go_wp2_with fail
  refine (kB _ _ _ (hs20.below hb3) hX2).mono ?_
  rintro _ w4 ⟨rfl, hA2⟩
  have hb4 := belT hb3 hA2
  clear hA hA2 hb3 hb2 hX2
  go_upto_region 4 with fail
  obtain ⟨W, hW⟩ : ∃ x, (w4.alloc (.cells #[.int .i64 (A1 : Nat), .int .i64 (A2 : Nat), .int .i64 (A3 : Nat), .float .f64 (sumL AP)] 47)).alloc (.cells #[.int .i64 (B1 : Nat), .int .i64 (B2 : Nat), .int .i64 (B3 : Nat), .float .f64 (sumL BP)] 47) = x := ⟨_, rfl⟩
  have l9 : look W w4.heap.size = some (.cells #[.int .i64 (A1 : Nat), .int .i64 (A2 : Nat), .int .i64 (A3 : Nat), .float .f64 (sumL AP)] 47 (0, 0)) := by rw [← hW, look_alloc_past _ _ _ (by simp only [World.size_alloc]; omega), look_alloc_at _ _ _ rfl]
  have l10 : look W (w4.heap.size + 1) = some (.cells #[.int .i64 (B1 : Nat), .int .i64 (B2 : Nat), .int .i64 (B3 : Nat), .float .f64 (sumL BP)] 47 (0, 0)) := by rw [← hW, look_alloc_at _ _ _ (by simp only [World.size_alloc])]
  have hbW : Below w.heap.size w W := by rw [← hW]; exact belA (belA hb4 _) _
  rw [hW]
  clear hW hb4
  have s9 := look_lt l9
  have s10 := look_lt l10
  have hz1 : (W.alloc (.cells #[] 3)).ownsRow W.heap.size 3 1 (.slice (some ⟨W.heap.size, 0, none⟩) 0 0) 0 [] := World.ownsRow_made W #[] 0 (Nat.le_refl _) (by decide) rfl
  have hBa := belA (bel0 W) (.cells #[] 3)
  go_wp2_with (at_builtin; refine stop_here ?_)
  refine hidP ?_
  refine append_any _ rfl _ _ 43 rfl W.heap.size 3 i1 (.int .i64 0) 1 8 Try.underlying43 hi1 hy1 hy2 hy3 rfl (by decide) _ _ _ rfl hz1 _ n (rowsL (qC q1) n) rfl ?a1 ?a2 ?a3 ?a4 ?a5 ?a6 ?_
  case a1 => exact rowsL_len (qC_len _) _
  case a2 => exact rowsL_ones (qC_ones _) _
  case a3 => exact SliceAt.news (by decide) (qC_len _) (hs10.below (belT hbW hBa))
  case a4 => unfold maxLen; omega
  case a5 => omega
  case a6 => exact hBa.size
  intro y1 w5 ho5 hg5
  rw [Nat.zero_add, List.nil_append] at ho5
  have hB5 : Below W.heap.size W w5 := hBa.grown hg5 hBa.size (fun g e => (hz1.lt g e).1)
  clear hg5 hBa hz1
  go_wp2_with (at_builtin; refine stop_here ?_)
  refine hidP ?_
  refine append_any _ rfl _ _ 43 rfl W.heap.size 3 i1 (.int .i64 0) 1 8 Try.underlying43 hi1 hy1 hy2 hy3 rfl (by decide) _ _ _ rfl ho5 _ m (rowsL (qC q2) m) rfl ?b1 ?b2 ?b3 ?b4 ?b5 ?b6 ?_
  case b1 => exact rowsL_len (qC_len _) _
  case b2 => exact rowsL_ones (qC_ones _) _
  case b3 => exact SliceAt.news (by decide) (qC_len _) (hs20.below (belT hbW hB5))
  case b4 => unfold maxLen; omega
  case b5 => omega
  case b6 => exact hB5.size
  intro y2 w6 ho6 hg6
  rw [rowsL_then] at ho6
  have hB6 : Below W.heap.size W w6 := hB5.grown hg6 hB5.size (fun g e => (ho5.lt g e).1)
  have hsQ : SliceAt w6 y2 (n + m) 1 (qC (thenC q1 n q2)) := (SliceAt.own (fun i => by rw [qC_then]; rfl) ho6).same (fun i _ => qC_then _ _ _ i)
  clear hg6 ho5 ho6 hB5
  have hz2 : (w6.alloc (.cells #[] 25)).ownsRow w6.heap.size 25 3 (.slice (some ⟨w6.heap.size, 0, none⟩) 0 0) 0 [] := World.ownsRow_made w6 #[] 0 (Nat.le_refl _) (by decide) rfl
  have hBa := belA (bel0 w6) (.cells #[] 25)
  have hb6 := belT hbW hB6
  go_wp2_with (at_builtin; refine stop_here ?_)
  refine hidP ?_
  refine append_any _ rfl _ _ 22 rfl w6.heap.size 25 i2 (.agg #[.int .i64 0, .bool false, .int .u64 0]) 3 24 Try.underlying22 hi2 hw1 hw2 hw3 rfl (by decide) _ _ _ rfl hz2 _ n (rowsL (rC L1) n) rfl ?c1 ?c2 ?c3 ?c4 ?c5 ?c6 ?_
  case c1 => exact rowsL_len (rC_len _) _
  case c2 => exact rowsL_ones (rC_ones _) _
  case c3 => exact SliceAt.news (by decide) (rC_len _) (hs30.below (belT hb6 hBa))
  case c4 => unfold maxLen; omega
  case c5 => omega
  case c6 => exact hBa.size
  intro y3 w7 ho7 hg7
  rw [Nat.zero_add, List.nil_append] at ho7
  have hB7 : Below w6.heap.size w6 w7 := hBa.grown hg7 hBa.size (fun g e => (hz2.lt g e).1)
  clear hg7 hBa hz2
  go_wp2_with (at_builtin; refine stop_here ?_)
  refine hidP ?_
  refine append_any _ rfl _ _ 22 rfl w6.heap.size 25 i2 (.agg #[.int .i64 0, .bool false, .int .u64 0]) 3 24 Try.underlying22 hi2 hw1 hw2 hw3 rfl (by decide) _ _ _ rfl ho7 _ m (rowsL (rC L2) m) rfl ?d1 ?d2 ?d3 ?d4 ?d5 ?d6 ?_
  case d1 => exact rowsL_len (rC_len _) _
  case d2 => exact rowsL_ones (rC_ones _) _
  case d3 => exact SliceAt.news (by decide) (rC_len _) (hs40.below (belT hb6 hB7))
  case d4 => unfold maxLen; omega
  case d5 => omega
  case d6 => exact hB7.size
  intro y4 w8 ho8 hg8
  rw [rowsL_then] at ho8
  have hB8 : Below w6.heap.size w6 w8 := hB7.grown hg8 hB7.size (fun g e => (ho7.lt g e).1)
  have hsL : SliceAt w8 y4 (n + m) 3 (rC (thenC L1 n L2)) := (SliceAt.own (fun i => by rw [rC_then]; rfl) ho8).same (fun i _ => rC_then _ _ _ i)
  clear hg8 ho7 ho8 hB7
  replace l9 : look w8 w4.heap.size = some (.cells #[.int .i64 (A1 : Nat), .int .i64 (A2 : Nat), .int .i64 (A3 : Nat), .float .f64 (sumL AP)] 47 (0, 0)) := by rw [look_below hB8 (Nat.lt_of_lt_of_le s9 hB6.size), look_below hB6 s9]; exact l9
  replace l10 : look w8 (w4.heap.size + 1) = some (.cells #[.int .i64 (B1 : Nat), .int .i64 (B2 : Nat), .int .i64 (B3 : Nat), .float .f64 (sumL BP)] 47 (0, 0)) := by rw [look_below hB8 (Nat.lt_of_lt_of_le s10 hB6.size), look_below hB6 s10]; exact l10
  have hb8 := belT hb6 hB8
  replace hsQ := hsQ.below hB8
  clear hB8 hB6 hb6 hbW s9 s10
  go_wp2_with fail
  refine (marks_any _ (n + m) (thenC L1 n L2) _ (by omega) hsL).mono ?_
  rintro _ w9 ⟨x3, rfl, hX3, hA⟩
  go_wp2_with fail
  refine (kC _ _ _ (hsQ.below hA) hX3).mono ?_
  rintro _ w10 ⟨rfl, hA2⟩
  have hA3 := belT hA hA2
  replace l9 : look w10 w4.heap.size = some (.cells #[.int .i64 (A1 : Nat), .int .i64 (A2 : Nat), .int .i64 (A3 : Nat), .float .f64 (sumL AP)] 47 (0, 0)) := by rw [look_below hA3 (look_lt l9)]; exact l9
  replace l10 : look w10 (w4.heap.size + 1) = some (.cells #[.int .i64 (B1 : Nat), .int .i64 (B2 : Nat), .int .i64 (B3 : Nat), .float .f64 (sumL BP)] 47 (0, 0)) := by rw [look_below hA3 (look_lt l10)]; exact l10
  have hb10 := belT hb8 hA3
  replace hsQ := hsQ.below hA3
  replace hsL := hsL.below hA3
  clear hA hA2 hA3 hb8 hX3
  have s9 := look_lt l9
  have s10 := look_lt l10
  go_upto_region 7 with fail
  obtain ⟨V, hV⟩ : ∃ x, w10.alloc (.cells #[.int .i64 ((A1 : Int) + (B1 : Int)), .int .i64 ((A2 : Int) + (B2 : Int)), .int .i64 ((A3 : Int) + (B3 : Int)), .float .f64 (sumL (AP ++ BP))] 47) = x := ⟨_, rfl⟩
  have hBV : Below w10.heap.size w10 V := by rw [← hV]; exact belA (bel0 _) _
  replace l9 : look V w4.heap.size = some (.cells #[.int .i64 (A1 : Nat), .int .i64 (A2 : Nat), .int .i64 (A3 : Nat), .float .f64 (sumL AP)] 47 (0, 0)) := by rw [look_below hBV s9]; exact l9
  replace l10 : look V (w4.heap.size + 1) = some (.cells #[.int .i64 (B1 : Nat), .int .i64 (B2 : Nat), .int .i64 (B3 : Nat), .float .f64 (sumL BP)] 47 (0, 0)) := by rw [look_below hBV s10]; exact l10
  have l13 : look V w10.heap.size = some (.cells #[.int .i64 ((A1 : Int) + (B1 : Int)), .int .i64 ((A2 : Int) + (B2 : Int)), .int .i64 ((A3 : Int) + (B3 : Int)), .float .f64 (sumL (AP ++ BP))] 47 (0, 0)) := by rw [← hV, look_alloc_at _ _ _ rfl]
  have hbV := belT hb10 hBV
  replace hsQ := hsQ.below hBV
  replace hsL := hsL.below hBV
  rw [hV]
  clear hV hBV hb10
  have s9 := look_lt l9
  have s10 := look_lt l10
  have s13 := look_lt l13
  have hsQ0 := hsQ
  have hsL0 := hsL
  obtain ⟨aq, cq, rfl, _, _, hRq⟩ := hsQ
  obtain ⟨al, cl, rfl, _, _, hRl⟩ := hsL
  have hN2 : n + m ≤ 120 := by omega
  obtain ⟨N, hN⟩ : ∃ N, n + m = N := ⟨_, rfl⟩
  rw [hN] at hN2 hRq hRl hsQ0 hsL0 hL tCh ⊢
  clear hN kA kB kC
  go_wp2_with fail
  go_loopw [14, 15, 16] (fun s p i wr => ∃ (k c : Nat) (S : Nat → Int) (K : Nat → Mk), k ≤ N ∧ c ≤ k ∧ i = .int .i64 k ∧ wr.ownsRow V.heap.size 3 1 s c (rowsL (qC S) c) ∧ wr.ownsRow V.heap.size 25 3 p c (rowsL (rC K) c) ∧ Below V.heap.size V wr ∧ totF S K c = totF (thenC q1 n q2) (thenC L1 n L2) k ∧ ∀ j, j < c → (K j).price < 18446744073709551616) (fun _ _ i _ => N - (intOf i).toNat)
  case atStart => exact ⟨0, 0, fun _ => 0, fun _ => mk0, Nat.zero_le _, Nat.le_refl _, rfl, World.ownsRow_nil _ _ _ _, World.ownsRow_nil _ _ _ _, bel0 _, rfl, fun j hj => by omega⟩
  case round =>
    obtain ⟨k, c, S, K, hk, hc, rfl, ho14, ho15, hB0, htot, hK⟩ := hrel
    by_cases hlt : k < N
    · have hp := hL k hlt
      obtain ⟨bq, oq, rfl, hbq, hcq⟩ := SliceAt.cell hRq hlt hB0
      obtain ⟨bl, ol, rfl, hbl, hcl⟩ := SliceAt.cell hRl hlt hB0
      obtain ⟨q0, hq0⟩ : ∃ x, thenC q1 n q2 k = x := ⟨_, rfl⟩
      have hbq2 : bq < wr.heap.size := Nat.lt_of_lt_of_le hbq hB0.size
      have hbl2 : bl < wr.heap.size := Nat.lt_of_lt_of_le hbl hB0.size
      have cq0 : V.cell? ⟨bq, oq + k, none⟩ = some (.int .i64 q0) := by
        have := hcq 0 _ rfl
        rw [Nat.mul_one, Nat.add_zero, hq0] at this
        rw [← this, hB0.cell hbq]
      have c0 : wr.cell? ⟨bq, oq + k, none⟩ = some (.int .i64 q0) := by rw [hB0.cell hbq]; exact cq0
      have tn := hidP (show totF (thenC q1 n q2) (thenC L1 n L2) (k + 1) = stepT (totF (thenC q1 n q2) (thenC L1 n L2) k) (thenC q1 n q2 k) (thenC L1 n L2 k) from rfl)
      obtain ⟨r, hr0⟩ : ∃ r, (thenC L1 n L2 k).right = r := ⟨_, rfl⟩
      have hstep := tn.out
      rw [hq0, ← htot] at hstep
      have hs1 := hstep
      unfold stepT playB at hstep
      rw [hr0] at hstep
      have kR := fun w => calls_is (rright_any (thenC L1 n L2 k).flag (thenC L1 n L2 k).has (thenC L1 n L2 k).price w) (u := .bool r) (by rw [← hr0]; rfl)
      have hcV : V.rangeAt bl (ol + k * 3) (rC (thenC L1 n L2) k) := fun j u hu => by rw [← hB0.cell hbl]; exact hcl j u hu
      unfold rC at hcl hcV
      obtain ⟨⟨F, H, p⟩, hM⟩ : ∃ x, thenC L1 n L2 k = x := ⟨_, rfl⟩
      rw [hM] at kR hcl hcV hp hstep hs1
      have hs0 := hidP hs1
      clear hs1
      simp only at kR hcl hcV hp
      have hstp := hidP hstep
      clear hstep tn hcq hRq hRl hr0 hq0 hM
      have hqd : decide ((0 : Int) < q0) = decide (1 ≤ q0) := decide_eq_decide.2 (by omega)
      by_cases h1q : 1 ≤ q0
      · have hd0 : decide ((0 : Int) < q0) = true := decide_eq_true (by omega)
        have h1p : (0 : Int) < q0 := by omega
        cases r
        · have hst := hstp.out
          rw [Bool.and_false, if_neg (by decide)] at hst
          have hst2 := hidP hst
          clear hst hstp
          go_upto_region 12 with fail
          refine wp_region_words_text 12 ([] :: [] :: [68, 69] :: [70] :: [71] :: [72] :: [73] :: [73] :: [74, 75, 73] :: [76, 73] :: [77, 73] :: [73, 78] :: []) (isV (.slice (some ⟨bq, oq, none⟩) N cq) :: isV (.int .i64 (k : Int)) :: isV (.pointer (some ⟨bq, oq + k, none⟩)) :: isV (.int .i64 q0) :: isV (.bool true) :: isV (.bool true) :: isV (.slice (some ⟨bl, ol, none⟩) N cl) :: isV (.int .i64 (k : Int)) :: isV (.pointer (some ⟨bl, ol + k * 3, none⟩)) :: isV (.agg #[.int .i64 F, .bool H, .int .u64 (p : Int)]) :: isV (.bool false) :: isV (.bool false) :: []) (by decide) (by kernel_rfl)
            ⟨stab_isV _, stab_isV _, stab_isV _, stab_isV _, stab_isV _, stab_isV _, stab_isV _, stab_isV _, stab_isV _, stab_isV _, stab_isV _, stab_isV _, trivial⟩ ⟨?_, ?_, ?_, ?_, ?_, ?_, ?_, ?_, ?_, ?_, ?_, ?_, trivial⟩ ?_
          · intro vs wq hB hm
            clear hm
            simp only [fill]
            go_wp2
            exact ⟨_, rfl, rfl, Below.refl _ _, trivial⟩
          · intro vs wq hB hm
            clear hm
            simp only [fill]
            go_wp2
            exact ⟨_, rfl, rfl, Below.refl _ _, trivial⟩
          · intro vs wq hB hm
            have h68 : vs 68 = .slice (some ⟨bq, oq, none⟩) N cq := meets_get hm 0 rfl rfl rfl rfl
            have h69 : vs 69 = .int .i64 (k : Int) := meets_get hm 1 rfl rfl rfl rfl
            clear hm
            simp only [fill, h68, h69]
            go_wp2
            exact ⟨_, rfl, rfl, Below.refl _ _, trivial⟩
          · intro vs wq hB hm
            have h70 : vs 70 = .pointer (some ⟨bq, oq + k, none⟩) := meets_get hm 2 rfl rfl rfl rfl
            clear hm
            have hc1 := (hB.cell hbq2).trans c0
            simp only [fill, h70]
            go_wp2
            exact ⟨_, rfl, rfl, Below.refl _ _, trivial⟩
          · intro vs wq hB hm
            have h71 : vs 71 = .int .i64 q0 := meets_get hm 3 rfl rfl rfl rfl
            clear hm
            simp only [fill, h71]
            go_wp2
            exact ⟨_, rfl, rfl, Below.refl _ _, trivial⟩
          · intro vs wq hB hm
            have h72 : vs 72 = .bool true := meets_get hm 4 rfl rfl rfl rfl
            clear hm
            simp only [fill, h72]
            go_wp2
            exact ⟨_, rfl, rfl, Below.refl _ _, trivial⟩
          · intro vs wq hB hm
            have h73 : vs 73 = .bool true := meets_get hm 5 rfl rfl rfl rfl
            clear hm
            simp only [fill, h73]
            go_wp2
            exact ⟨_, rfl, rfl, Below.refl _ _, trivial⟩
          · intro vs wq hB hm
            have h73 : vs 73 = .bool true := meets_get hm 5 rfl rfl rfl rfl
            clear hm
            simp only [fill, h73]
            go_wp2
            exact ⟨_, rfl, rfl, Below.refl _ _, trivial⟩
          · intro vs wq hB hm
            have h74 : vs 74 = .slice (some ⟨bl, ol, none⟩) N cl := meets_get hm 6 rfl rfl rfl rfl
            have h75 : vs 75 = .int .i64 (k : Int) := meets_get hm 7 rfl rfl rfl rfl
            have h73 : vs 73 = .bool true := meets_get hm 5 rfl rfl rfl rfl
            clear hm
            simp only [fill, h74, h75, h73]
            go_wp2
            exact ⟨_, rfl, rfl, Below.refl _ _, trivial⟩
          · intro vs wq hB hm
            have h76 : vs 76 = .pointer (some ⟨bl, ol + k * 3, none⟩) := meets_get hm 8 rfl rfl rfl rfl
            have h73 : vs 73 = .bool true := meets_get hm 5 rfl rfl rfl rfl
            clear hm
            have hm1 : wq.rangeAt bl (ol + k * 3) [.int .i64 F, .bool H, .int .u64 (p : Int)] := fun j v hv => by rw [hB.cell (by first | assumption | exact Nat.lt_of_lt_of_le (by assumption) (Below.size (by assumption)) | omega)]; exact hcl j v hv
            simp only [fill, h76, h73]
            refine load_mid_if (by rfl) 25 _ rfl bl (ol + k * 3) rfl _ _ hm1 Try.underlying25 rfl rk_info ?_
            go_wp2
            exact ⟨_, rfl, rfl, Below.refl _ _, trivial⟩
          · intro vs wq hB hm
            have h77 : vs 77 = .agg #[.int .i64 F, .bool H, .int .u64 (p : Int)] := meets_get hm 9 rfl rfl rfl rfl
            have h73 : vs 73 = .bool true := meets_get hm 5 rfl rfl rfl rfl
            clear hm
            simp only [fill, h77, h73]
            go_wp2_with fail
            refine (kR _).mono ?_
            rintro e w1 ⟨rfl, hb1⟩
            go_wp2
            exact ⟨_, rfl, rfl, hb1, trivial⟩
          · intro vs wq hB hm
            have h73 : vs 73 = .bool true := meets_get hm 5 rfl rfl rfl rfl
            have h78 : vs 78 = .bool false := meets_get hm 10 rfl rfl rfl rfl
            clear hm
            simp only [fill, h73, h78]
            go_wp2
            exact ⟨_, rfl, rfl, Below.refl _ _, trivial⟩
          intro vs wq hB hm hne hlo
          have h68 : vs 68 = .slice (some ⟨bq, oq, none⟩) N cq := hm 0 _ _ _ rfl rfl rfl
          have h69 : vs 69 = .int .i64 (k : Int) := hm 1 _ _ _ rfl rfl rfl
          have h70 : vs 70 = .pointer (some ⟨bq, oq + k, none⟩) := hm 2 _ _ _ rfl rfl rfl
          have h71 : vs 71 = .int .i64 q0 := hm 3 _ _ _ rfl rfl rfl
          have h72 : vs 72 = .bool true := hm 4 _ _ _ rfl rfl rfl
          have h73 : vs 73 = .bool true := hm 5 _ _ _ rfl rfl rfl
          have h74 : vs 74 = .slice (some ⟨bl, ol, none⟩) N cl := hm 6 _ _ _ rfl rfl rfl
          have h75 : vs 75 = .int .i64 (k : Int) := hm 7 _ _ _ rfl rfl rfl
          have h76 : vs 76 = .pointer (some ⟨bl, ol + k * 3, none⟩) := hm 8 _ _ _ rfl rfl rfl
          have h77 : vs 77 = .agg #[.int .i64 F, .bool H, .int .u64 (p : Int)] := hm 9 _ _ _ rfl rfl rfl
          have h78 : vs 78 = .bool false := hm 10 _ _ _ rfl rfl rfl
          have h79 : vs 79 = .bool false := hm 11 _ _ _ rfl rfl rfl
          clear hne hlo
          simp only [fill, List.filterMap, List.take, List.drop, List.setIfInBounds_toArray, List.set_cons_zero, List.set_cons_succ, h68, h69, h70, h71, h72, h73, h74, h75, h76, h77, h78, h79]
          clear hm h68 h69 h70 h71 h72 h73 h74 h75 h76 h77 h78 h79
          have hA := hB
          go_wp2
          go_roundw
          case rel => exact ⟨k + 1, c, S, K, by omega, by omega, by go_num, own_below ho14 hA, own_below ho15 hA, belT hB0 hA, by rw [hst2.out], hK⟩
          case measure => simp [intOf]; omega
        · have hst := hstp.out
          rw [decide_eq_true h1q, Bool.and_true, if_pos rfl] at hst
          have hst3 : totF (snocF S c q0) (snocF K c ⟨F, H, p⟩) (c + 1) = totF (thenC q1 n q2) (thenC L1 n L2) (k + 1) := by rw [tot_snoc]; exact hs0.out.symm
          have hst2 := hidP hst3
          clear hst hstp hst3
          go_upto_region 12 with fail
          refine wp_region_words_text 12 ([] :: [] :: [68, 69] :: [70] :: [71] :: [72] :: [73] :: [73] :: [74, 75, 73] :: [76, 73] :: [77, 73] :: [73, 78] :: []) (isV (.slice (some ⟨bq, oq, none⟩) N cq) :: isV (.int .i64 (k : Int)) :: isV (.pointer (some ⟨bq, oq + k, none⟩)) :: isV (.int .i64 q0) :: isV (.bool true) :: isV (.bool true) :: isV (.slice (some ⟨bl, ol, none⟩) N cl) :: isV (.int .i64 (k : Int)) :: isV (.pointer (some ⟨bl, ol + k * 3, none⟩)) :: isV (.agg #[.int .i64 F, .bool H, .int .u64 (p : Int)]) :: isV (.bool true) :: isV (.bool true) :: []) (by decide) (by kernel_rfl)
            ⟨stab_isV _, stab_isV _, stab_isV _, stab_isV _, stab_isV _, stab_isV _, stab_isV _, stab_isV _, stab_isV _, stab_isV _, stab_isV _, stab_isV _, trivial⟩ ⟨?_, ?_, ?_, ?_, ?_, ?_, ?_, ?_, ?_, ?_, ?_, ?_, trivial⟩ ?_
          · intro vs wq hB hm
            clear hm
            simp only [fill]
            go_wp2
            exact ⟨_, rfl, rfl, Below.refl _ _, trivial⟩
          · intro vs wq hB hm
            clear hm
            simp only [fill]
            go_wp2
            exact ⟨_, rfl, rfl, Below.refl _ _, trivial⟩
          · intro vs wq hB hm
            have h68 : vs 68 = .slice (some ⟨bq, oq, none⟩) N cq := meets_get hm 0 rfl rfl rfl rfl
            have h69 : vs 69 = .int .i64 (k : Int) := meets_get hm 1 rfl rfl rfl rfl
            clear hm
            simp only [fill, h68, h69]
            go_wp2
            exact ⟨_, rfl, rfl, Below.refl _ _, trivial⟩
          · intro vs wq hB hm
            have h70 : vs 70 = .pointer (some ⟨bq, oq + k, none⟩) := meets_get hm 2 rfl rfl rfl rfl
            clear hm
            have hc1 := (hB.cell hbq2).trans c0
            simp only [fill, h70]
            go_wp2
            exact ⟨_, rfl, rfl, Below.refl _ _, trivial⟩
          · intro vs wq hB hm
            have h71 : vs 71 = .int .i64 q0 := meets_get hm 3 rfl rfl rfl rfl
            clear hm
            simp only [fill, h71]
            go_wp2
            exact ⟨_, rfl, rfl, Below.refl _ _, trivial⟩
          · intro vs wq hB hm
            have h72 : vs 72 = .bool true := meets_get hm 4 rfl rfl rfl rfl
            clear hm
            simp only [fill, h72]
            go_wp2
            exact ⟨_, rfl, rfl, Below.refl _ _, trivial⟩
          · intro vs wq hB hm
            have h73 : vs 73 = .bool true := meets_get hm 5 rfl rfl rfl rfl
            clear hm
            simp only [fill, h73]
            go_wp2
            exact ⟨_, rfl, rfl, Below.refl _ _, trivial⟩
          · intro vs wq hB hm
            have h73 : vs 73 = .bool true := meets_get hm 5 rfl rfl rfl rfl
            clear hm
            simp only [fill, h73]
            go_wp2
            exact ⟨_, rfl, rfl, Below.refl _ _, trivial⟩
          · intro vs wq hB hm
            have h74 : vs 74 = .slice (some ⟨bl, ol, none⟩) N cl := meets_get hm 6 rfl rfl rfl rfl
            have h75 : vs 75 = .int .i64 (k : Int) := meets_get hm 7 rfl rfl rfl rfl
            have h73 : vs 73 = .bool true := meets_get hm 5 rfl rfl rfl rfl
            clear hm
            simp only [fill, h74, h75, h73]
            go_wp2
            exact ⟨_, rfl, rfl, Below.refl _ _, trivial⟩
          · intro vs wq hB hm
            have h76 : vs 76 = .pointer (some ⟨bl, ol + k * 3, none⟩) := meets_get hm 8 rfl rfl rfl rfl
            have h73 : vs 73 = .bool true := meets_get hm 5 rfl rfl rfl rfl
            clear hm
            have hm1 : wq.rangeAt bl (ol + k * 3) [.int .i64 F, .bool H, .int .u64 (p : Int)] := fun j v hv => by rw [hB.cell (by first | assumption | exact Nat.lt_of_lt_of_le (by assumption) (Below.size (by assumption)) | omega)]; exact hcl j v hv
            simp only [fill, h76, h73]
            refine load_mid_if (by rfl) 25 _ rfl bl (ol + k * 3) rfl _ _ hm1 Try.underlying25 rfl rk_info ?_
            go_wp2
            exact ⟨_, rfl, rfl, Below.refl _ _, trivial⟩
          · intro vs wq hB hm
            have h77 : vs 77 = .agg #[.int .i64 F, .bool H, .int .u64 (p : Int)] := meets_get hm 9 rfl rfl rfl rfl
            have h73 : vs 73 = .bool true := meets_get hm 5 rfl rfl rfl rfl
            clear hm
            simp only [fill, h77, h73]
            go_wp2_with fail
            refine (kR _).mono ?_
            rintro e w1 ⟨rfl, hb1⟩
            go_wp2
            exact ⟨_, rfl, rfl, hb1, trivial⟩
          · intro vs wq hB hm
            have h73 : vs 73 = .bool true := meets_get hm 5 rfl rfl rfl rfl
            have h78 : vs 78 = .bool true := meets_get hm 10 rfl rfl rfl rfl
            clear hm
            simp only [fill, h73, h78]
            go_wp2
            exact ⟨_, rfl, rfl, Below.refl _ _, trivial⟩
          intro vs wq hB hm hne hlo
          have h68 : vs 68 = .slice (some ⟨bq, oq, none⟩) N cq := hm 0 _ _ _ rfl rfl rfl
          have h69 : vs 69 = .int .i64 (k : Int) := hm 1 _ _ _ rfl rfl rfl
          have h70 : vs 70 = .pointer (some ⟨bq, oq + k, none⟩) := hm 2 _ _ _ rfl rfl rfl
          have h71 : vs 71 = .int .i64 q0 := hm 3 _ _ _ rfl rfl rfl
          have h72 : vs 72 = .bool true := hm 4 _ _ _ rfl rfl rfl
          have h73 : vs 73 = .bool true := hm 5 _ _ _ rfl rfl rfl
          have h74 : vs 74 = .slice (some ⟨bl, ol, none⟩) N cl := hm 6 _ _ _ rfl rfl rfl
          have h75 : vs 75 = .int .i64 (k : Int) := hm 7 _ _ _ rfl rfl rfl
          have h76 : vs 76 = .pointer (some ⟨bl, ol + k * 3, none⟩) := hm 8 _ _ _ rfl rfl rfl
          have h77 : vs 77 = .agg #[.int .i64 F, .bool H, .int .u64 (p : Int)] := hm 9 _ _ _ rfl rfl rfl
          have h78 : vs 78 = .bool true := hm 10 _ _ _ rfl rfl rfl
          have h79 : vs 79 = .bool true := hm 11 _ _ _ rfl rfl rfl
          clear hne hlo
          simp only [fill, List.filterMap, List.take, List.drop, List.setIfInBounds_toArray, List.set_cons_zero, List.set_cons_succ, h68, h69, h70, h71, h72, h73, h74, h75, h76, h77, h78, h79]
          clear hm h68 h69 h70 h71 h72 h73 h74 h75 h76 h77 h78 h79
          have hA := hB
          have hBa := belT hB0 hA
          replace ho14 := own_below ho14 hA
          replace ho15 := own_below ho15 hA
          go_wp2_with fail
          refine wp_region_rel mixed (fun u => Below V.heap.size V u ∧ wq.heap.size ≤ u.heap.size ∧ u.ownsRow V.heap.size 3 1 u14 c (rowsL (qC S) c) ∧ u.ownsRow V.heap.size 25 3 u15 c (rowsL (rC K) c)) (rowR u14.ownBlock u15.ownBlock 3 25 wq.heap.size) ⟨hBa.drew, Nat.le_refl _, ho14, ho15⟩ 14 ([] :: [] :: [] :: [81, 82] :: [83] :: [84] :: [80, 85] :: [] :: [] :: [] :: [88, 89] :: [90] :: [91] :: [87, 92] :: []) (isV (u14) :: isV (.slice (some ⟨bq, oq, none⟩) N cq) :: isV (.int .i64 (k : Int)) :: isV (.pointer (some ⟨bq, oq + k, none⟩)) :: isV (.int .i64 q0) :: isNewRow 3 1 #[.int .i64 q0] wq.heap.size :: isOwn V.heap.size 3 1 (c + 1) (rowsL (qC S) c ++ [.int .i64 q0]) :: isV (u15) :: isV (.slice (some ⟨bl, ol, none⟩) N cl) :: isV (.int .i64 (k : Int)) :: isV (.pointer (some ⟨bl, ol + k * 3, none⟩)) :: isV (.agg #[.int .i64 F, .bool H, .int .u64 (p : Int)]) :: isNewRow 25 1 #[.int .i64 F, .bool H, .int .u64 (p : Int)] wq.heap.size :: isOwn V.heap.size 25 3 (c + 1) (rowsL (rC K) c ++ [.int .i64 F, .bool H, .int .u64 (p : Int)]) :: []) (by decide) (by kernel_rfl) ?_
            ⟨?_, ?_, ?_, ?_, ?_, ?_, ?_, ?_, ?_, ?_, ?_, ?_, ?_, ?_, trivial⟩ ?_
          · intro i j Sw hij hSw v u u' hv hR
            match j, hSw with
            | 0, e => cases e; exact hv
            | 1, e => cases e; exact hv
            | 2, e => cases e; exact hv
            | 3, e => cases e; exact hv
            | 4, e => cases e; exact hv
            | 5, e => cases e; exact stab_newRow hv hR
            | 6, e => cases e; exact stab_own2 (by unfold row2 ty2; rw [if_neg hij]; by_cases h13 : i = 13 <;> simp [h13, hij]) hv hR
            | 7, e => cases e; exact hv
            | 8, e => cases e; exact hv
            | 9, e => cases e; exact hv
            | 10, e => cases e; exact hv
            | 11, e => cases e; exact hv
            | 12, e => cases e; exact stab_newRow hv hR
            | 13, e => cases e; exact stab_own2 (by unfold row2 ty2; by_cases h6 : i = 6 <;> simp [h6, hij]) hv hR
            | n + 14, e => simp at e
          · intro vs u hJu hm
            clear hm
            simp only [fill]
            go_wp2
            exact ⟨_, rfl, rfl, ⟨rowR_below (by decide) (by decide) (Below.refl _ _), hJu, Nat.le_refl _⟩, trivial⟩
          · intro vs u hJu hm
            clear hm
            simp only [fill]
            go_wp2
            exact ⟨_, rfl, rfl, ⟨rowR_below (by decide) (by decide) (Below.refl _ _), hJu, Nat.le_refl _⟩, trivial⟩
          · intro vs u hJu hm
            clear hm
            simp only [fill]
            go_wp2
            exact ⟨_, rfl, rfl, ⟨rowR_below (by decide) (by decide) (Below.refl _ _), hJu, Nat.le_refl _⟩, trivial⟩
          · intro vs u hJu hm
            have h81 : vs 81 = .slice (some ⟨bq, oq, none⟩) N cq := meets_get hm 1 rfl rfl rfl rfl
            have h82 : vs 82 = .int .i64 (k : Int) := meets_get hm 2 rfl rfl rfl rfl
            clear hm
            simp only [fill, h81, h82]
            go_wp2
            exact ⟨_, rfl, rfl, ⟨rowR_below (by decide) (by decide) (Below.refl _ _), hJu, Nat.le_refl _⟩, trivial⟩
          · intro vs u hJu hm
            have h83 : vs 83 = .pointer (some ⟨bq, oq + k, none⟩) := meets_get hm 3 rfl rfl rfl rfl
            clear hm
            simp only [fill, h83]
            have hc1 := (hJu.1.cell hbq).trans cq0
            go_wp2
            exact ⟨_, rfl, rfl, ⟨rowR_below (by decide) (by decide) (Below.refl _ _), hJu, Nat.le_refl _⟩, trivial⟩
          · intro vs u hJu hm
            have h84 : vs 84 = .int .i64 q0 := meets_get hm 4 rfl rfl rfl rfl
            clear hm
            simp only [fill, h84]
            go_wp2
            exact ⟨_, rfl, ⟨_, rfl, look_alloc_at _ _ _ rfl, hJu.2.1⟩, ⟨rowR_below (by decide) (by decide) (belA (bel0 _) _), ⟨belA hJu.1 _, Nat.le_trans hJu.2.1 (belA (bel0 _) _).size, hJu.2.2.1.alloc _, hJu.2.2.2.alloc _⟩, (belA (bel0 _) _).size⟩, fun b hb => by cases hb; exact ⟨Nat.le_refl _, by simp⟩⟩
          · intro vs u hJu hm
            have h80 : vs 80 = u14 := meets_get hm 0 rfl rfl rfl rfl
            obtain ⟨b85, h85, l85, g85⟩ := meets_get hm 5 rfl rfl rfl rfl
            clear hm
            simp only [fill, h80, h85]
            refine append_keep rfl _ _ 43 rfl V.heap.size 3 i1 (.int .i64 0) 1 8 Try.underlying43 hi1 hy1 hy2 hy3 rfl (by decide) u14 c (rowsL (qC S) c) rfl hJu.2.2.1 ⟨b85, 0, none⟩ 1 1 [.int .i64 q0] rfl rfl (fun j x hx => by rw [Addr.add_lit, look_cell l85, Nat.zero_add, ← hx, ← Array.getElem?_toList]) (one_one _ rfl) (by omega) (by unfold maxLen; omega) (by omega) hJu.1.size ?_
            intro v' w' h1 h2 h3
            go_wp2
            exact ⟨_, rfl, h1, ⟨rowR_own rfl hJu.2.2.1 (fun g e => (ho14.lt g e).2) h2, ⟨hJu.1.grown h2 hJu.1.size (fun g e => (hJu.2.2.1.lt g e).1), Nat.le_trans hJu.2.1 h2.size, h3, hJu.2.2.2.kept h2 (own_apart hJu.2.2.1 hJu.2.2.2 (by decide))⟩, h2.size⟩, trivial⟩
          · intro vs u hJu hm
            clear hm
            simp only [fill]
            go_wp2
            exact ⟨_, rfl, rfl, ⟨rowR_below (by decide) (by decide) (Below.refl _ _), hJu, Nat.le_refl _⟩, trivial⟩
          · intro vs u hJu hm
            clear hm
            simp only [fill]
            go_wp2
            exact ⟨_, rfl, rfl, ⟨rowR_below (by decide) (by decide) (Below.refl _ _), hJu, Nat.le_refl _⟩, trivial⟩
          · intro vs u hJu hm
            clear hm
            simp only [fill]
            go_wp2
            exact ⟨_, rfl, rfl, ⟨rowR_below (by decide) (by decide) (Below.refl _ _), hJu, Nat.le_refl _⟩, trivial⟩
          · intro vs u hJu hm
            have h88 : vs 88 = .slice (some ⟨bl, ol, none⟩) N cl := meets_get hm 8 rfl rfl rfl rfl
            have h89 : vs 89 = .int .i64 (k : Int) := meets_get hm 9 rfl rfl rfl rfl
            clear hm
            simp only [fill, h88, h89]
            go_wp2
            exact ⟨_, rfl, rfl, ⟨rowR_below (by decide) (by decide) (Below.refl _ _), hJu, Nat.le_refl _⟩, trivial⟩
          · intro vs u hJu hm
            have h90 : vs 90 = .pointer (some ⟨bl, ol + k * 3, none⟩) := meets_get hm 10 rfl rfl rfl rfl
            clear hm
            simp only [fill, h90]
            have hm1 : u.rangeAt bl (ol + k * 3) [.int .i64 F, .bool H, .int .u64 (p : Int)] := fun j v hv => by rw [hJu.1.cell hbl]; exact hcV j v hv
            go_wp2_with (refine wpList_load_mid rfl 25 _ rfl bl (ol + k * 3) rfl _ _ hm1 Try.underlying25 rfl rk_info ?_)
            exact ⟨_, rfl, rfl, ⟨rowR_below (by decide) (by decide) (Below.refl _ _), hJu, Nat.le_refl _⟩, trivial⟩
          · intro vs u hJu hm
            have h91 : vs 91 = .agg #[.int .i64 F, .bool H, .int .u64 (p : Int)] := meets_get hm 11 rfl rfl rfl rfl
            clear hm
            simp only [fill, h91]
            go_wp2
            exact ⟨_, rfl, ⟨_, rfl, look_alloc_at _ _ _ rfl, hJu.2.1⟩, ⟨rowR_below (by decide) (by decide) (belA (bel0 _) _), ⟨belA hJu.1 _, Nat.le_trans hJu.2.1 (belA (bel0 _) _).size, hJu.2.2.1.alloc _, hJu.2.2.2.alloc _⟩, (belA (bel0 _) _).size⟩, fun b hb => by cases hb; exact ⟨Nat.le_refl _, by simp⟩⟩
          · intro vs u hJu hm
            have h87 : vs 87 = u15 := meets_get hm 7 rfl rfl rfl rfl
            obtain ⟨b92, h92, l92, g92⟩ := meets_get hm 12 rfl rfl rfl rfl
            clear hm
            simp only [fill, h87, h92]
            refine append_keep rfl _ _ 22 rfl V.heap.size 25 i2 (.agg #[.int .i64 0, .bool false, .int .u64 0]) 3 24 Try.underlying22 hi2 hw1 hw2 hw3 rfl (by decide) u15 c (rowsL (rC K) c) rfl hJu.2.2.2 ⟨b92, 0, none⟩ 1 1 [.int .i64 F, .bool H, .int .u64 (p : Int)] rfl rfl (fun j x hx => by rw [Addr.add_lit, look_cell l92, Nat.zero_add, ← hx, ← Array.getElem?_toList]) (rC_ones (fun _ => ⟨F, H, p⟩) 0) (by omega) (by unfold maxLen; omega) (by omega) hJu.1.size ?_
            intro v' w' h1 h2 h3
            go_wp2
            exact ⟨_, rfl, h1, ⟨rowR_own rfl hJu.2.2.2 (fun g e => (ho15.lt g e).2) h2, ⟨hJu.1.grown h2 hJu.1.size (fun g e => (hJu.2.2.2.lt g e).1), Nat.le_trans hJu.2.1 h2.size, hJu.2.2.1.kept h2 (own_apart hJu.2.2.2 hJu.2.2.1 (by decide)), h3⟩, h2.size⟩, trivial⟩
          intro vs ws hJw hsz hm hne hlo
          have h80 : vs 80 = u14 := hm 0 _ _ _ rfl rfl rfl
          have h81 : vs 81 = .slice (some ⟨bq, oq, none⟩) N cq := hm 1 _ _ _ rfl rfl rfl
          have h82 : vs 82 = .int .i64 (k : Int) := hm 2 _ _ _ rfl rfl rfl
          have h83 : vs 83 = .pointer (some ⟨bq, oq + k, none⟩) := hm 3 _ _ _ rfl rfl rfl
          have h84 : vs 84 = .int .i64 q0 := hm 4 _ _ _ rfl rfl rfl
          obtain ⟨b85, h85, _, _⟩ := hm 5 _ _ _ rfl rfl rfl
          have h86 := hm 6 _ _ _ rfl rfl rfl
          have h87 : vs 87 = u15 := hm 7 _ _ _ rfl rfl rfl
          have h88 : vs 88 = .slice (some ⟨bl, ol, none⟩) N cl := hm 8 _ _ _ rfl rfl rfl
          have h89 : vs 89 = .int .i64 (k : Int) := hm 9 _ _ _ rfl rfl rfl
          have h90 : vs 90 = .pointer (some ⟨bl, ol + k * 3, none⟩) := hm 10 _ _ _ rfl rfl rfl
          have h91 : vs 91 = .agg #[.int .i64 F, .bool H, .int .u64 (p : Int)] := hm 11 _ _ _ rfl rfl rfl
          obtain ⟨b92, h92, _, _⟩ := hm 12 _ _ _ rfl rfl rfl
          have h93 := hm 13 _ _ _ rfl rfl rfl
          clear hne hlo hm
          simp only [fill, List.filterMap, List.take, List.drop, List.setIfInBounds_toArray, List.set_cons_zero, List.set_cons_succ, h80, h81, h82, h83, h84, h85, h87, h88, h89, h90, h91, h92]
          clear h80 h81 h82 h83 h84 h85 h87 h88 h89 h90 h91 h92
          go_wp2
          go_roundw
          case rel => exact ⟨k + 1, c + 1, snocF S c q0, snocF K c ⟨F, H, p⟩, by omega, by omega, by go_num, by have e := rows_snoc qC (fun f g k h => by unfold qC; rw [h]) S c q0; rw [← e]; exact h86, by have e := rows_snoc rC (fun f g k h => by unfold rC; rw [h]) K c ⟨F, H, p⟩; rw [← e]; exact h93, hJw.1, hst2.out, fun j hj => by unfold snocF; split <;> first | exact hp | exact hK j (by omega)⟩
          case measure => simp [intOf]; omega
      · have hd0 : decide ((0 : Int) < q0) = false := decide_eq_false (by omega)
        have hst := hstp.out
        rw [decide_eq_false h1q, Bool.false_and, if_neg (by decide)] at hst
        have hst2 := hidP hst
        clear hst hstp
        go_wp2
        go_roundw
        case rel => exact ⟨k + 1, c, S, K, by omega, by omega, by go_num, ho14, ho15, hB0, by rw [hst2.out], hK⟩
        case measure => simp [intOf]; omega
    · obtain rfl : k = N := by omega
      have hsS : SliceAt wr u14 c 1 (qC S) := SliceAt.own (qC_len _) ho14
      have hsK : SliceAt wr u15 c 3 (rC K) := SliceAt.own (rC_len _) ho15
      have kF := fun v u w h1 h2 => calls_is (msum_any v u c c S K w (by omega) (by omega) h1 h2 hK) (u := .agg #[.int .i64 ((A1 : Int) + (B1 : Int)), .int .i64 ((A2 : Int) + (B2 : Int)), .int .i64 ((A3 : Int) + (B3 : Int)), .float .f64 (sumL (AP ++ BP))]) (by rw [Nat.min_self, htot, tCh.out]; rfl)
      have kZ := kT (sumL (AP ++ BP)) (sumF_lt _ _)
      replace l9 : look wr w4.heap.size = some (.cells #[.int .i64 (A1 : Nat), .int .i64 (A2 : Nat), .int .i64 (A3 : Nat), .float .f64 (sumL AP)] 47 (0, 0)) := by rw [look_below hB0 s9]; exact l9
      replace l10 : look wr (w4.heap.size + 1) = some (.cells #[.int .i64 (B1 : Nat), .int .i64 (B2 : Nat), .int .i64 (B3 : Nat), .float .f64 (sumL BP)] 47 (0, 0)) := by rw [look_below hB0 s10]; exact l10
      replace l13 : look wr w10.heap.size = some (.cells #[.int .i64 ((A1 : Int) + (B1 : Int)), .int .i64 ((A2 : Int) + (B2 : Int)), .int .i64 ((A3 : Int) + (B3 : Int)), .float .f64 (sumL (AP ++ BP))] 47 (0, 0)) := by rw [look_below hB0 s13]; exact l13
      have s9 := look_lt l9
      have s10 := look_lt l10
      have s13 := look_lt l13
      have wA1 : IntKind.i64.wrap ((A1 : Int) + (B1 : Int)) = (A1 : Int) + (B1 : Int) := IntWalk.i64_in _ (by omega)
      have wA2 : IntKind.i64.wrap ((A2 : Int) + (B2 : Int)) = (A2 : Int) + (B2 : Int) := IntWalk.i64_in _ (by omega)
      have wA3 : IntKind.i64.wrap ((A3 : Int) + (B3 : Int)) = (A3 : Int) + (B3 : Int) := IntWalk.i64_in _ (by omega)
      clear htot tCh kT
      go_wp2_with fail
      go_upto_region 14 with fail
      refine wp_region_words mixed 39 ([] :: [94] :: [95] :: [96, 95] :: [95] :: [98, 95] :: [95] :: [100, 95] :: [99, 101, 95] :: [97, 102, 95] :: [95, 103] :: [104] :: [105] :: [106, 105] :: [105] :: [108, 105] :: [105] :: [110, 105] :: [109, 111, 105] :: [107, 112, 105] :: [105, 113] :: [114] :: [115] :: [116, 115] :: [115] :: [118, 115] :: [115] :: [120, 115] :: [119, 121, 115] :: [117, 122, 115] :: [115, 123] :: [124] :: [125] :: [125] :: [125] :: [128, 125] :: [127, 129, 125] :: [126, 130, 125] :: [125, 131] :: []) (isV (.bool true) :: isV (.bool true) :: isV (.pointer (some ⟨w10.heap.size, 0, none⟩)) :: isV (.int .i64 ((A1 : Int) + (B1 : Int))) :: isV (.pointer (some ⟨w4.heap.size, 0, none⟩)) :: isV (.int .i64 (A1 : Nat)) :: isV (.pointer (some ⟨w4.heap.size + 1, 0, none⟩)) :: isV (.int .i64 (B1 : Nat)) :: isV (.int .i64 ((A1 : Int) + (B1 : Int))) :: isV (.bool true) :: isV (.bool true) :: isV (.bool true) :: isV (.pointer (some ⟨w10.heap.size, 1, none⟩)) :: isV (.int .i64 ((A2 : Int) + (B2 : Int))) :: isV (.pointer (some ⟨w4.heap.size, 1, none⟩)) :: isV (.int .i64 (A2 : Nat)) :: isV (.pointer (some ⟨w4.heap.size + 1, 1, none⟩)) :: isV (.int .i64 (B2 : Nat)) :: isV (.int .i64 ((A2 : Int) + (B2 : Int))) :: isV (.bool true) :: isV (.bool true) :: isV (.bool true) :: isV (.pointer (some ⟨w10.heap.size, 2, none⟩)) :: isV (.int .i64 ((A3 : Int) + (B3 : Int))) :: isV (.pointer (some ⟨w4.heap.size, 2, none⟩)) :: isV (.int .i64 (A3 : Nat)) :: isV (.pointer (some ⟨w4.heap.size + 1, 2, none⟩)) :: isV (.int .i64 (B3 : Nat)) :: isV (.int .i64 ((A3 : Int) + (B3 : Int))) :: isV (.bool true) :: isV (.bool true) :: isV (.bool true) :: isV (.agg (#[.int .i64 ((A1 : Int) + (B1 : Int)), .int .i64 ((A2 : Int) + (B2 : Int)), .int .i64 ((A3 : Int) + (B3 : Int)), .float .f64 (sumL (AP ++ BP))])) :: isV (u14) :: isV (u15) :: isSl c 3 (mC K) :: isV (.agg #[.int .i64 ((A1 : Int) + (B1 : Int)), .int .i64 ((A2 : Int) + (B2 : Int)), .int .i64 ((A3 : Int) + (B3 : Int)), .float .f64 (sumL (AP ++ BP))]) :: isV (.bool true) :: isV (.bool true) :: []) (by decide) (by kernel_rfl)
        ⟨stab_isV _, stab_isV _, stab_isV _, stab_isV _, stab_isV _, stab_isV _, stab_isV _, stab_isV _, stab_isV _, stab_isV _, stab_isV _, stab_isV _, stab_isV _, stab_isV _, stab_isV _, stab_isV _, stab_isV _, stab_isV _, stab_isV _, stab_isV _, stab_isV _, stab_isV _, stab_isV _, stab_isV _, stab_isV _, stab_isV _, stab_isV _, stab_isV _, stab_isV _, stab_isV _, stab_isV _, stab_isV _, stab_isV _, stab_isV _, stab_isV _, stab_isSl _ _ _, stab_isV _, stab_isV _, stab_isV _, trivial⟩ ⟨?_, ?_, ?_, ?_, ?_, ?_, ?_, ?_, ?_, ?_, ?_, ?_, ?_, ?_, ?_, ?_, ?_, ?_, ?_, ?_, ?_, ?_, ?_, ?_, ?_, ?_, ?_, ?_, ?_, ?_, ?_, ?_, ?_, ?_, ?_, ?_, ?_, ?_, ?_, trivial⟩ ?_
      · intro vs wq hB hm
        clear hm
        simp only [fill]
        go_wp2_with fail
        refine (alive07 _).mono ?_
        rintro e w1 ⟨rfl, hb1⟩
        go_wp2
        exact ⟨_, rfl, rfl, hb1, trivial⟩
      · intro vs wq hB hm
        have h94 : vs 94 = .bool true := meets_get hm 0 rfl rfl rfl rfl
        clear hm
        simp only [fill, h94]
        go_wp2
        exact ⟨_, rfl, rfl, Below.refl _ _, trivial⟩
      · intro vs wq hB hm
        have h95 : vs 95 = .bool true := meets_get hm 1 rfl rfl rfl rfl
        clear hm
        simp only [fill, h95]
        go_wp2
        exact ⟨_, rfl, rfl, Below.refl _ _, trivial⟩
      · intro vs wq hB hm
        have hl : look wq (w10.heap.size) = some (.cells (#[.int .i64 ((A1 : Int) + (B1 : Int)), .int .i64 ((A2 : Int) + (B2 : Int)), .int .i64 ((A3 : Int) + (B3 : Int)), .float .f64 (sumL (AP ++ BP))]) 47 (0, 0)) := by rw [look_below hB (by first | omega | (simp only [World.size_alloc]; omega) | exact look_lt (by assumption) | (simp only [World.size_alloc, World.size_setCell]; omega) | (simp; omega))]; first | assumption | go_simp
        have hc : World.cell? wq ⟨w10.heap.size, 0, none⟩ = some (.int .i64 ((A1 : Int) + (B1 : Int))) := by rw [look_cell hl]; rfl
        have h96 : vs 96 = .pointer (some ⟨w10.heap.size, 0, none⟩) := meets_get hm 2 rfl rfl rfl rfl
        have h95 : vs 95 = .bool true := meets_get hm 1 rfl rfl rfl rfl
        clear hm
        simp only [fill, h96, h95]
        go_wp2
        exact ⟨_, rfl, rfl, Below.refl _ _, trivial⟩
      · intro vs wq hB hm
        have h95 : vs 95 = .bool true := meets_get hm 1 rfl rfl rfl rfl
        clear hm
        simp only [fill, h95]
        go_wp2
        exact ⟨_, rfl, rfl, Below.refl _ _, trivial⟩
      · intro vs wq hB hm
        have hl : look wq (w4.heap.size) = some (.cells (#[.int .i64 (A1 : Nat), .int .i64 (A2 : Nat), .int .i64 (A3 : Nat), .float .f64 (sumL AP)]) 47 (0, 0)) := by rw [look_below hB (by first | omega | (simp only [World.size_alloc]; omega) | exact look_lt (by assumption) | (simp only [World.size_alloc, World.size_setCell]; omega) | (simp; omega))]; first | assumption | go_simp
        have hc : World.cell? wq ⟨w4.heap.size, 0, none⟩ = some (.int .i64 (A1 : Nat)) := by rw [look_cell hl]; rfl
        have h98 : vs 98 = .pointer (some ⟨w4.heap.size, 0, none⟩) := meets_get hm 4 rfl rfl rfl rfl
        have h95 : vs 95 = .bool true := meets_get hm 1 rfl rfl rfl rfl
        clear hm
        simp only [fill, h98, h95]
        go_wp2
        exact ⟨_, rfl, rfl, Below.refl _ _, trivial⟩
      · intro vs wq hB hm
        have h95 : vs 95 = .bool true := meets_get hm 1 rfl rfl rfl rfl
        clear hm
        simp only [fill, h95]
        go_wp2
        exact ⟨_, rfl, rfl, Below.refl _ _, trivial⟩
      · intro vs wq hB hm
        have hl : look wq (w4.heap.size + 1) = some (.cells (#[.int .i64 (B1 : Nat), .int .i64 (B2 : Nat), .int .i64 (B3 : Nat), .float .f64 (sumL BP)]) 47 (0, 0)) := by rw [look_below hB (by first | omega | (simp only [World.size_alloc]; omega) | exact look_lt (by assumption) | (simp only [World.size_alloc, World.size_setCell]; omega) | (simp; omega))]; first | assumption | go_simp
        have hc : World.cell? wq ⟨w4.heap.size + 1, 0, none⟩ = some (.int .i64 (B1 : Nat)) := by rw [look_cell hl]; rfl
        have h100 : vs 100 = .pointer (some ⟨w4.heap.size + 1, 0, none⟩) := meets_get hm 6 rfl rfl rfl rfl
        have h95 : vs 95 = .bool true := meets_get hm 1 rfl rfl rfl rfl
        clear hm
        simp only [fill, h100, h95]
        go_wp2
        exact ⟨_, rfl, rfl, Below.refl _ _, trivial⟩
      · intro vs wq hB hm
        have h99 : vs 99 = .int .i64 (A1 : Nat) := meets_get hm 5 rfl rfl rfl rfl
        have h101 : vs 101 = .int .i64 (B1 : Nat) := meets_get hm 7 rfl rfl rfl rfl
        have h95 : vs 95 = .bool true := meets_get hm 1 rfl rfl rfl rfl
        clear hm
        simp only [fill, h99, h101, h95]
        go_wp2
        exact ⟨_, rfl, rfl, Below.refl _ _, trivial⟩
      · intro vs wq hB hm
        have h97 : vs 97 = .int .i64 ((A1 : Int) + (B1 : Int)) := meets_get hm 3 rfl rfl rfl rfl
        have h102 : vs 102 = .int .i64 ((A1 : Int) + (B1 : Int)) := meets_get hm 8 rfl rfl rfl rfl
        have h95 : vs 95 = .bool true := meets_get hm 1 rfl rfl rfl rfl
        clear hm
        simp only [fill, h97, h102, h95]
        go_wp2
        exact ⟨_, rfl, (by simp [isV]), Below.refl _ _, trivial⟩
      · intro vs wq hB hm
        have h95 : vs 95 = .bool true := meets_get hm 1 rfl rfl rfl rfl
        have h103 : vs 103 = .bool true := meets_get hm 9 rfl rfl rfl rfl
        clear hm
        simp only [fill, h95, h103]
        go_wp2
        exact ⟨_, rfl, rfl, Below.refl _ _, trivial⟩
      · intro vs wq hB hm
        have h104 : vs 104 = .bool true := meets_get hm 10 rfl rfl rfl rfl
        clear hm
        simp only [fill, h104]
        go_wp2
        exact ⟨_, rfl, rfl, Below.refl _ _, trivial⟩
      · intro vs wq hB hm
        have h105 : vs 105 = .bool true := meets_get hm 11 rfl rfl rfl rfl
        clear hm
        simp only [fill, h105]
        go_wp2
        exact ⟨_, rfl, rfl, Below.refl _ _, trivial⟩
      · intro vs wq hB hm
        have hl : look wq (w10.heap.size) = some (.cells (#[.int .i64 ((A1 : Int) + (B1 : Int)), .int .i64 ((A2 : Int) + (B2 : Int)), .int .i64 ((A3 : Int) + (B3 : Int)), .float .f64 (sumL (AP ++ BP))]) 47 (0, 0)) := by rw [look_below hB (by first | omega | (simp only [World.size_alloc]; omega) | exact look_lt (by assumption) | (simp only [World.size_alloc, World.size_setCell]; omega) | (simp; omega))]; first | assumption | go_simp
        have hc : World.cell? wq ⟨w10.heap.size, 1, none⟩ = some (.int .i64 ((A2 : Int) + (B2 : Int))) := by rw [look_cell hl]; rfl
        have h106 : vs 106 = .pointer (some ⟨w10.heap.size, 1, none⟩) := meets_get hm 12 rfl rfl rfl rfl
        have h105 : vs 105 = .bool true := meets_get hm 11 rfl rfl rfl rfl
        clear hm
        simp only [fill, h106, h105]
        go_wp2
        exact ⟨_, rfl, rfl, Below.refl _ _, trivial⟩
      · intro vs wq hB hm
        have h105 : vs 105 = .bool true := meets_get hm 11 rfl rfl rfl rfl
        clear hm
        simp only [fill, h105]
        go_wp2
        exact ⟨_, rfl, rfl, Below.refl _ _, trivial⟩
      · intro vs wq hB hm
        have hl : look wq (w4.heap.size) = some (.cells (#[.int .i64 (A1 : Nat), .int .i64 (A2 : Nat), .int .i64 (A3 : Nat), .float .f64 (sumL AP)]) 47 (0, 0)) := by rw [look_below hB (by first | omega | (simp only [World.size_alloc]; omega) | exact look_lt (by assumption) | (simp only [World.size_alloc, World.size_setCell]; omega) | (simp; omega))]; first | assumption | go_simp
        have hc : World.cell? wq ⟨w4.heap.size, 1, none⟩ = some (.int .i64 (A2 : Nat)) := by rw [look_cell hl]; rfl
        have h108 : vs 108 = .pointer (some ⟨w4.heap.size, 1, none⟩) := meets_get hm 14 rfl rfl rfl rfl
        have h105 : vs 105 = .bool true := meets_get hm 11 rfl rfl rfl rfl
        clear hm
        simp only [fill, h108, h105]
        go_wp2
        exact ⟨_, rfl, rfl, Below.refl _ _, trivial⟩
      · intro vs wq hB hm
        have h105 : vs 105 = .bool true := meets_get hm 11 rfl rfl rfl rfl
        clear hm
        simp only [fill, h105]
        go_wp2
        exact ⟨_, rfl, rfl, Below.refl _ _, trivial⟩
      · intro vs wq hB hm
        have hl : look wq (w4.heap.size + 1) = some (.cells (#[.int .i64 (B1 : Nat), .int .i64 (B2 : Nat), .int .i64 (B3 : Nat), .float .f64 (sumL BP)]) 47 (0, 0)) := by rw [look_below hB (by first | omega | (simp only [World.size_alloc]; omega) | exact look_lt (by assumption) | (simp only [World.size_alloc, World.size_setCell]; omega) | (simp; omega))]; first | assumption | go_simp
        have hc : World.cell? wq ⟨w4.heap.size + 1, 1, none⟩ = some (.int .i64 (B2 : Nat)) := by rw [look_cell hl]; rfl
        have h110 : vs 110 = .pointer (some ⟨w4.heap.size + 1, 1, none⟩) := meets_get hm 16 rfl rfl rfl rfl
        have h105 : vs 105 = .bool true := meets_get hm 11 rfl rfl rfl rfl
        clear hm
        simp only [fill, h110, h105]
        go_wp2
        exact ⟨_, rfl, rfl, Below.refl _ _, trivial⟩
      · intro vs wq hB hm
        have h109 : vs 109 = .int .i64 (A2 : Nat) := meets_get hm 15 rfl rfl rfl rfl
        have h111 : vs 111 = .int .i64 (B2 : Nat) := meets_get hm 17 rfl rfl rfl rfl
        have h105 : vs 105 = .bool true := meets_get hm 11 rfl rfl rfl rfl
        clear hm
        simp only [fill, h109, h111, h105]
        go_wp2
        exact ⟨_, rfl, rfl, Below.refl _ _, trivial⟩
      · intro vs wq hB hm
        have h107 : vs 107 = .int .i64 ((A2 : Int) + (B2 : Int)) := meets_get hm 13 rfl rfl rfl rfl
        have h112 : vs 112 = .int .i64 ((A2 : Int) + (B2 : Int)) := meets_get hm 18 rfl rfl rfl rfl
        have h105 : vs 105 = .bool true := meets_get hm 11 rfl rfl rfl rfl
        clear hm
        simp only [fill, h107, h112, h105]
        go_wp2
        exact ⟨_, rfl, (by simp [isV]), Below.refl _ _, trivial⟩
      · intro vs wq hB hm
        have h105 : vs 105 = .bool true := meets_get hm 11 rfl rfl rfl rfl
        have h113 : vs 113 = .bool true := meets_get hm 19 rfl rfl rfl rfl
        clear hm
        simp only [fill, h105, h113]
        go_wp2
        exact ⟨_, rfl, rfl, Below.refl _ _, trivial⟩
      · intro vs wq hB hm
        have h114 : vs 114 = .bool true := meets_get hm 20 rfl rfl rfl rfl
        clear hm
        simp only [fill, h114]
        go_wp2
        exact ⟨_, rfl, rfl, Below.refl _ _, trivial⟩
      · intro vs wq hB hm
        have h115 : vs 115 = .bool true := meets_get hm 21 rfl rfl rfl rfl
        clear hm
        simp only [fill, h115]
        go_wp2
        exact ⟨_, rfl, rfl, Below.refl _ _, trivial⟩
      · intro vs wq hB hm
        have hl : look wq (w10.heap.size) = some (.cells (#[.int .i64 ((A1 : Int) + (B1 : Int)), .int .i64 ((A2 : Int) + (B2 : Int)), .int .i64 ((A3 : Int) + (B3 : Int)), .float .f64 (sumL (AP ++ BP))]) 47 (0, 0)) := by rw [look_below hB (by first | omega | (simp only [World.size_alloc]; omega) | exact look_lt (by assumption) | (simp only [World.size_alloc, World.size_setCell]; omega) | (simp; omega))]; first | assumption | go_simp
        have hc : World.cell? wq ⟨w10.heap.size, 2, none⟩ = some (.int .i64 ((A3 : Int) + (B3 : Int))) := by rw [look_cell hl]; rfl
        have h116 : vs 116 = .pointer (some ⟨w10.heap.size, 2, none⟩) := meets_get hm 22 rfl rfl rfl rfl
        have h115 : vs 115 = .bool true := meets_get hm 21 rfl rfl rfl rfl
        clear hm
        simp only [fill, h116, h115]
        go_wp2
        exact ⟨_, rfl, rfl, Below.refl _ _, trivial⟩
      · intro vs wq hB hm
        have h115 : vs 115 = .bool true := meets_get hm 21 rfl rfl rfl rfl
        clear hm
        simp only [fill, h115]
        go_wp2
        exact ⟨_, rfl, rfl, Below.refl _ _, trivial⟩
      · intro vs wq hB hm
        have hl : look wq (w4.heap.size) = some (.cells (#[.int .i64 (A1 : Nat), .int .i64 (A2 : Nat), .int .i64 (A3 : Nat), .float .f64 (sumL AP)]) 47 (0, 0)) := by rw [look_below hB (by first | omega | (simp only [World.size_alloc]; omega) | exact look_lt (by assumption) | (simp only [World.size_alloc, World.size_setCell]; omega) | (simp; omega))]; first | assumption | go_simp
        have hc : World.cell? wq ⟨w4.heap.size, 2, none⟩ = some (.int .i64 (A3 : Nat)) := by rw [look_cell hl]; rfl
        have h118 : vs 118 = .pointer (some ⟨w4.heap.size, 2, none⟩) := meets_get hm 24 rfl rfl rfl rfl
        have h115 : vs 115 = .bool true := meets_get hm 21 rfl rfl rfl rfl
        clear hm
        simp only [fill, h118, h115]
        go_wp2
        exact ⟨_, rfl, rfl, Below.refl _ _, trivial⟩
      · intro vs wq hB hm
        have h115 : vs 115 = .bool true := meets_get hm 21 rfl rfl rfl rfl
        clear hm
        simp only [fill, h115]
        go_wp2
        exact ⟨_, rfl, rfl, Below.refl _ _, trivial⟩
      · intro vs wq hB hm
        have hl : look wq (w4.heap.size + 1) = some (.cells (#[.int .i64 (B1 : Nat), .int .i64 (B2 : Nat), .int .i64 (B3 : Nat), .float .f64 (sumL BP)]) 47 (0, 0)) := by rw [look_below hB (by first | omega | (simp only [World.size_alloc]; omega) | exact look_lt (by assumption) | (simp only [World.size_alloc, World.size_setCell]; omega) | (simp; omega))]; first | assumption | go_simp
        have hc : World.cell? wq ⟨w4.heap.size + 1, 2, none⟩ = some (.int .i64 (B3 : Nat)) := by rw [look_cell hl]; rfl
        have h120 : vs 120 = .pointer (some ⟨w4.heap.size + 1, 2, none⟩) := meets_get hm 26 rfl rfl rfl rfl
        have h115 : vs 115 = .bool true := meets_get hm 21 rfl rfl rfl rfl
        clear hm
        simp only [fill, h120, h115]
        go_wp2
        exact ⟨_, rfl, rfl, Below.refl _ _, trivial⟩
      · intro vs wq hB hm
        have h119 : vs 119 = .int .i64 (A3 : Nat) := meets_get hm 25 rfl rfl rfl rfl
        have h121 : vs 121 = .int .i64 (B3 : Nat) := meets_get hm 27 rfl rfl rfl rfl
        have h115 : vs 115 = .bool true := meets_get hm 21 rfl rfl rfl rfl
        clear hm
        simp only [fill, h119, h121, h115]
        go_wp2
        exact ⟨_, rfl, rfl, Below.refl _ _, trivial⟩
      · intro vs wq hB hm
        have h117 : vs 117 = .int .i64 ((A3 : Int) + (B3 : Int)) := meets_get hm 23 rfl rfl rfl rfl
        have h122 : vs 122 = .int .i64 ((A3 : Int) + (B3 : Int)) := meets_get hm 28 rfl rfl rfl rfl
        have h115 : vs 115 = .bool true := meets_get hm 21 rfl rfl rfl rfl
        clear hm
        simp only [fill, h117, h122, h115]
        go_wp2
        exact ⟨_, rfl, (by simp [isV]), Below.refl _ _, trivial⟩
      · intro vs wq hB hm
        have h115 : vs 115 = .bool true := meets_get hm 21 rfl rfl rfl rfl
        have h123 : vs 123 = .bool true := meets_get hm 29 rfl rfl rfl rfl
        clear hm
        simp only [fill, h115, h123]
        go_wp2
        exact ⟨_, rfl, rfl, Below.refl _ _, trivial⟩
      · intro vs wq hB hm
        have h124 : vs 124 = .bool true := meets_get hm 30 rfl rfl rfl rfl
        clear hm
        simp only [fill, h124]
        go_wp2
        exact ⟨_, rfl, rfl, Below.refl _ _, trivial⟩
      · intro vs wq hB hm
        have hl : look wq (w10.heap.size) = some (.cells (#[.int .i64 ((A1 : Int) + (B1 : Int)), .int .i64 ((A2 : Int) + (B2 : Int)), .int .i64 ((A3 : Int) + (B3 : Int)), .float .f64 (sumL (AP ++ BP))]) 47 (0, 0)) := by rw [look_below hB (by first | omega | (simp only [World.size_alloc]; omega) | exact look_lt (by assumption) | (simp only [World.size_alloc, World.size_setCell]; omega) | (simp; omega))]; first | assumption | go_simp
        have hc0 : World.cell? wq ⟨w10.heap.size, 0, none⟩ = some (.int .i64 ((A1 : Int) + (B1 : Int))) := by rw [look_cell hl]; rfl
        have hc1 : World.cell? wq ⟨w10.heap.size, 1, none⟩ = some (.int .i64 ((A2 : Int) + (B2 : Int))) := by rw [look_cell hl]; rfl
        have hc2 : World.cell? wq ⟨w10.heap.size, 2, none⟩ = some (.int .i64 ((A3 : Int) + (B3 : Int))) := by rw [look_cell hl]; rfl
        have hc3 : World.cell? wq ⟨w10.heap.size, 3, none⟩ = some (.float .f64 (sumL (AP ++ BP))) := by rw [look_cell hl]; rfl
        have h125 : vs 125 = .bool true := meets_get hm 31 rfl rfl rfl rfl
        clear hm
        simp only [fill, h125]
        go_wp2
        exact ⟨_, rfl, rfl, Below.refl _ _, trivial⟩
      · intro vs wq hB hm
        have h125 : vs 125 = .bool true := meets_get hm 31 rfl rfl rfl rfl
        clear hm
        simp only [fill, h125]
        go_wp2
        exact ⟨_, rfl, rfl, Below.refl _ _, trivial⟩
      · intro vs wq hB hm
        have h125 : vs 125 = .bool true := meets_get hm 31 rfl rfl rfl rfl
        clear hm
        simp only [fill, h125]
        go_wp2
        exact ⟨_, rfl, rfl, Below.refl _ _, trivial⟩
      · intro vs wq hB hm
        have h128 : vs 128 = u15 := meets_get hm 34 rfl rfl rfl rfl
        have h125 : vs 125 = .bool true := meets_get hm 31 rfl rfl rfl rfl
        clear hm
        simp only [fill, h128, h125]
        go_wp2_with fail
        refine (marks_any u15 c K _ (by omega) (hsK.below hB)).mono ?_
        rintro e w1 ⟨v, rfl, hW, hb1⟩
        go_wp2
        exact ⟨_, rfl, hW, hb1, trivial⟩
      · intro vs wq hB hm
        have h127 : vs 127 = u14 := meets_get hm 33 rfl rfl rfl rfl
        have h129 := meets_get hm 35 rfl rfl rfl rfl
        have h125 : vs 125 = .bool true := meets_get hm 31 rfl rfl rfl rfl
        clear hm
        simp only [fill, h127, h125]
        go_wp2_with fail
        refine (kF u14 _ _ (hsS.below hB) h129).mono ?_
        rintro e w1 ⟨rfl, hb1⟩
        go_wp2
        exact ⟨_, rfl, rfl, hb1, trivial⟩
      · intro vs wq hB hm
        have h126 : vs 126 = .agg (#[.int .i64 ((A1 : Int) + (B1 : Int)), .int .i64 ((A2 : Int) + (B2 : Int)), .int .i64 ((A3 : Int) + (B3 : Int)), .float .f64 (sumL (AP ++ BP))]) := meets_get hm 32 rfl rfl rfl rfl
        have h130 : vs 130 = .agg #[.int .i64 ((A1 : Int) + (B1 : Int)), .int .i64 ((A2 : Int) + (B2 : Int)), .int .i64 ((A3 : Int) + (B3 : Int)), .float .f64 (sumL (AP ++ BP))] := meets_get hm 36 rfl rfl rfl rfl
        have h125 : vs 125 = .bool true := meets_get hm 31 rfl rfl rfl rfl
        clear hm
        simp only [fill, h126, h130, h125]
        go_wp2_with fail
        refine (kZ _).mono ?_
        rintro e w1 ⟨rfl, hb1⟩
        go_wp2
        exact ⟨_, rfl, rfl, hb1, trivial⟩
      · intro vs wq hB hm
        have h125 : vs 125 = .bool true := meets_get hm 31 rfl rfl rfl rfl
        have h131 : vs 131 = .bool true := meets_get hm 37 rfl rfl rfl rfl
        clear hm
        simp only [fill, h125, h131]
        go_wp2
        exact ⟨_, rfl, rfl, Below.refl _ _, trivial⟩
      intro vs wq hB hm hne hlo
      have h94 : vs 94 = .bool true := hm 0 _ _ _ rfl rfl rfl
      have h95 : vs 95 = .bool true := hm 1 _ _ _ rfl rfl rfl
      have h96 : vs 96 = .pointer (some ⟨w10.heap.size, 0, none⟩) := hm 2 _ _ _ rfl rfl rfl
      have h97 : vs 97 = .int .i64 ((A1 : Int) + (B1 : Int)) := hm 3 _ _ _ rfl rfl rfl
      have h98 : vs 98 = .pointer (some ⟨w4.heap.size, 0, none⟩) := hm 4 _ _ _ rfl rfl rfl
      have h99 : vs 99 = .int .i64 (A1 : Nat) := hm 5 _ _ _ rfl rfl rfl
      have h100 : vs 100 = .pointer (some ⟨w4.heap.size + 1, 0, none⟩) := hm 6 _ _ _ rfl rfl rfl
      have h101 : vs 101 = .int .i64 (B1 : Nat) := hm 7 _ _ _ rfl rfl rfl
      have h102 : vs 102 = .int .i64 ((A1 : Int) + (B1 : Int)) := hm 8 _ _ _ rfl rfl rfl
      have h103 : vs 103 = .bool true := hm 9 _ _ _ rfl rfl rfl
      have h104 : vs 104 = .bool true := hm 10 _ _ _ rfl rfl rfl
      have h105 : vs 105 = .bool true := hm 11 _ _ _ rfl rfl rfl
      have h106 : vs 106 = .pointer (some ⟨w10.heap.size, 1, none⟩) := hm 12 _ _ _ rfl rfl rfl
      have h107 : vs 107 = .int .i64 ((A2 : Int) + (B2 : Int)) := hm 13 _ _ _ rfl rfl rfl
      have h108 : vs 108 = .pointer (some ⟨w4.heap.size, 1, none⟩) := hm 14 _ _ _ rfl rfl rfl
      have h109 : vs 109 = .int .i64 (A2 : Nat) := hm 15 _ _ _ rfl rfl rfl
      have h110 : vs 110 = .pointer (some ⟨w4.heap.size + 1, 1, none⟩) := hm 16 _ _ _ rfl rfl rfl
      have h111 : vs 111 = .int .i64 (B2 : Nat) := hm 17 _ _ _ rfl rfl rfl
      have h112 : vs 112 = .int .i64 ((A2 : Int) + (B2 : Int)) := hm 18 _ _ _ rfl rfl rfl
      have h113 : vs 113 = .bool true := hm 19 _ _ _ rfl rfl rfl
      have h114 : vs 114 = .bool true := hm 20 _ _ _ rfl rfl rfl
      have h115 : vs 115 = .bool true := hm 21 _ _ _ rfl rfl rfl
      have h116 : vs 116 = .pointer (some ⟨w10.heap.size, 2, none⟩) := hm 22 _ _ _ rfl rfl rfl
      have h117 : vs 117 = .int .i64 ((A3 : Int) + (B3 : Int)) := hm 23 _ _ _ rfl rfl rfl
      have h118 : vs 118 = .pointer (some ⟨w4.heap.size, 2, none⟩) := hm 24 _ _ _ rfl rfl rfl
      have h119 : vs 119 = .int .i64 (A3 : Nat) := hm 25 _ _ _ rfl rfl rfl
      have h120 : vs 120 = .pointer (some ⟨w4.heap.size + 1, 2, none⟩) := hm 26 _ _ _ rfl rfl rfl
      have h121 : vs 121 = .int .i64 (B3 : Nat) := hm 27 _ _ _ rfl rfl rfl
      have h122 : vs 122 = .int .i64 ((A3 : Int) + (B3 : Int)) := hm 28 _ _ _ rfl rfl rfl
      have h123 : vs 123 = .bool true := hm 29 _ _ _ rfl rfl rfl
      have h124 : vs 124 = .bool true := hm 30 _ _ _ rfl rfl rfl
      have h125 : vs 125 = .bool true := hm 31 _ _ _ rfl rfl rfl
      have h126 : vs 126 = .agg (#[.int .i64 ((A1 : Int) + (B1 : Int)), .int .i64 ((A2 : Int) + (B2 : Int)), .int .i64 ((A3 : Int) + (B3 : Int)), .float .f64 (sumL (AP ++ BP))]) := hm 32 _ _ _ rfl rfl rfl
      have h127 : vs 127 = u14 := hm 33 _ _ _ rfl rfl rfl
      have h128 : vs 128 = u15 := hm 34 _ _ _ rfl rfl rfl
      have h129 := hm 35 _ _ _ rfl rfl rfl
      have h130 : vs 130 = .agg #[.int .i64 ((A1 : Int) + (B1 : Int)), .int .i64 ((A2 : Int) + (B2 : Int)), .int .i64 ((A3 : Int) + (B3 : Int)), .float .f64 (sumL (AP ++ BP))] := hm 36 _ _ _ rfl rfl rfl
      have h131 : vs 131 = .bool true := hm 37 _ _ _ rfl rfl rfl
      have h132 : vs 132 = .bool true := hm 38 _ _ _ rfl rfl rfl
      clear hne hlo
      simp only [fill, List.filterMap, List.take, List.drop, List.setIfInBounds_toArray, List.set_cons_zero, List.set_cons_succ, h94, h95, h96, h97, h98, h99, h100, h101, h102, h103, h104, h105, h106, h107, h108, h109, h110, h111, h112, h113, h114, h115, h116, h117, h118, h119, h120, h121, h122, h123, h124, h125, h126, h127, h128, h130, h131, h132]
      clear hm h94 h95 h96 h97 h98 h99 h100 h101 h102 h103 h104 h105 h106 h107 h108 h109 h110 h111 h112 h113 h114 h115 h116 h117 h118 h119 h120 h121 h122 h123 h124 h125 h126 h127 h128 h130 h131 h132
      go_wp2
      go_ret
      exact ⟨rfl, belT (belT hbV hB0) hB⟩
end Go.Proofs.Ytniphfkipjpikaa
