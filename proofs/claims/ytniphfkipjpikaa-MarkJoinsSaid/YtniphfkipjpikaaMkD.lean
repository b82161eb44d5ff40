/- Contracts: the document's join of many marks; the document's marks as marks. -/
import Derived.Test.YtniphfkipjpikaaMkC
import Derived.RegionTactic
namespace Go.Proofs.Ytniphfkipjpikaa
open Go.RowKit Flt

theorem rj_none {a : Mk} (ha : a.right = true) (p : Nat) : priceJ a.has a.price false p = a.price := by
  have h := (right_iff a).1 ha
  obtain ⟨F, H, q⟩ := a
  cases H
  · simp at h; simp [priceJ, h.2]
  · simp [priceJ]
theorem rj_both {p q : Nat} (hp : p < 18446744073709551616) (hq : q < 18446744073709551616) : joinF q p = if keyF q < keyF p then p else q := by
  unfold joinF
  by_cases h1 : keyF p < keyF q
  · rw [if_pos h1, if_neg (by omega)]
  · rw [if_neg h1]
    by_cases h2 : keyF q < keyF p
    · rw [if_pos h2]
    · rw [if_neg h2]
      exact (key_inj hp hq).1 (by omega)

set_option maxHeartbeats 3200000 in
theorem rjoin_any (v : Value) (n : Nat) (L : Nat → Mk) (w : World) (hS : SliceAt w v n 3 (rC L)) (hL : ∀ k, k < n → (L k).price < 18446744073709551616) :
    Calls Try.prog 16 #[v] w fun e w' => e = .returned (.agg #[.int .i64 (foldM L n).flag, .bool (foldM L n).has, .int .u64 ((foldM L n).price : Int)]) ∧ Below w.heap.size w w' := by
  obtain ⟨ad, cap, rfl, _, hn, hR⟩ := hS
  go_enter Try.func16, Try.ntmps16
  go_wp2
  go_loopw [4] (fun i wr => ∃ k : Nat, k ≤ n ∧ i = .int .i64 k ∧ Below w.heap.size w wr ∧ look wr w.heap.size = some (.cells #[.int .i64 0, .bool false, .int .u64 0] 25 (0, 0)) ∧ look wr (w.heap.size + 1) = some (.cells #[.int .i64 (foldM L k).flag, .bool (foldM L k).has, .int .u64 ((foldM L k).price : Int)] 25 (0, 0))) (fun i _ => n - (intOf i).toNat)
  case atStart => exact ⟨0, Nat.zero_le _, rfl, belA (belA (bel0 _) _) _, by go_simp, by simp only [foldM, mk0]; go_simp⟩
  case round =>
    obtain ⟨k, hk, rfl, hBr, h0, h1⟩ := hrel
    have hs0 := look_lt h1
    have hs1 := look_lt h0
    by_cases hlt : k < n
    · obtain ⟨b, off, rfl, hbw, hR⟩ := hR.resolve_left (by omega)
      have hr : wr.rangeAt b (off + k * 3) (rC L k) := by
        intro j u hu
        rw [hBr.cell hbw]
        exact hR k hlt j u hu
      have hp := hL k hlt
      have hgood := fold_good (L := L) (k := k) (fun i hi => hL i (by omega))
      have hg := hgood.2
      obtain ⟨r, hr0⟩ : ∃ r, (L k).right = r := ⟨_, rfl⟩
      have kA := fun w => calls_is (rright_any (L k).flag (L k).has (L k).price w) (u := .bool r) (by rw [← hr0]; rfl)
      have hf := hidP (show foldM L (k + 1) = if r = true then (foldM L k).join (L k) else foldM L k by rw [← hr0]; rfl)
      clear hr0
      have c0 : wr.cell? ⟨b, off + k * 3, none⟩ = some (.int .i64 (L k).flag) := hr 0 _ rfl
      have c1 : wr.cell? ⟨b, off + k * 3 + 1, none⟩ = some (.bool (L k).has) := hr 1 _ rfl
      have c2 : wr.cell? ⟨b, off + k * 3 + 2, none⟩ = some (.int .u64 ((L k).price : Int)) := hr 2 _ rfl
      unfold rC at hr
      go_wp2_with (refine wpList_load_mid rfl 25 _ rfl b (off + k * 3) rfl _ _ hr Try.underlying25 rfl rk_info ?_)
      refine (kA _).mono ?_
      rintro _ w1 ⟨rfl, hB1⟩
      have hBn := belT hBr hB1
      have hbc : b < w1.heap.size := Nat.lt_of_lt_of_le hbw hBn.size
      have hbr : b < wr.heap.size := Nat.lt_of_lt_of_le hbw hBr.size
      replace l0 : look w1 (w.heap.size) = some (.cells (#[.int .i64 0, .bool false, .int .u64 0]) 25 (0, 0)) := by rw [look_below hB1 (by first | omega | (simp only [World.size_alloc]; omega) | exact look_lt (by assumption) | (simp only [World.size_alloc, World.size_setCell]; omega) | (simp; omega))]; first | assumption | go_simp
      replace c00 : World.cell? w1 ⟨w.heap.size, 0, none⟩ = some (.int .i64 0) := by rw [look_cell l0]; rfl
      replace c01 : World.cell? w1 ⟨w.heap.size, 1, none⟩ = some (.bool false) := by rw [look_cell l0]; rfl
      replace c02 : World.cell? w1 ⟨w.heap.size, 2, none⟩ = some (.int .u64 0) := by rw [look_cell l0]; rfl
      replace f0 := look_frozen l0
      replace s0 := look_lt l0
      replace l1 : look w1 (w.heap.size + 1) = some (.cells (#[.int .i64 (foldM L k).flag, .bool (foldM L k).has, .int .u64 ((foldM L k).price : Int)]) 25 (0, 0)) := by rw [look_below hB1 (by first | omega | (simp only [World.size_alloc]; omega) | exact look_lt (by assumption) | (simp only [World.size_alloc, World.size_setCell]; omega) | (simp; omega))]; first | assumption | go_simp
      replace c10 : World.cell? w1 ⟨w.heap.size + 1, 0, none⟩ = some (.int .i64 (foldM L k).flag) := by rw [look_cell l1]; rfl
      replace c11 : World.cell? w1 ⟨w.heap.size + 1, 1, none⟩ = some (.bool (foldM L k).has) := by rw [look_cell l1]; rfl
      replace c12 : World.cell? w1 ⟨w.heap.size + 1, 2, none⟩ = some (.int .u64 ((foldM L k).price : Int)) := by rw [look_cell l1]; rfl
      replace f1 := look_frozen l1
      replace s1 := look_lt l1
      replace c0 := (hB1.cell hbr).trans c0
      replace c1 := (hB1.cell hbr).trans c1
      replace c2 := (hB1.cell hbr).trans c2
      clear hr
      cases r
      · have hf' := hf.out
        rw [if_neg (by decide)] at hf'
        have hf2 := hidP hf'
        clear hf' hf
        go_wp2
        go_roundw
        case rel => exact ⟨k + 1, by omega, by go_num, hBn, l0, by rw [hf2.out]; exact l1⟩
        case measure => simp [intOf]; omega
      · have hf' := hf.out
        rw [if_pos rfl] at hf'
        have e1 : (foldM L (k + 1)).flag = max (foldM L k).flag (L k).flag := by rw [hf']; rfl
        have e2 : (foldM L (k + 1)).has = ((foldM L k).has || (L k).has) := by rw [hf']; rfl
        have e3 : (foldM L (k + 1)).price = priceJ (foldM L k).has (foldM L k).price (L k).has (L k).price := by rw [hf']; rfl
        have hnone0 := rj_none hgood.1 (L k).price
        have hboth0 := rj_both hp hg
        clear hf' hf hgood hR kA
        obtain ⟨F, hF⟩ : ∃ x, (L k).flag = x := ⟨_, rfl⟩
        obtain ⟨H, hH⟩ : ∃ x, (L k).has = x := ⟨_, rfl⟩
        obtain ⟨p, hpp⟩ : ∃ x, (L k).price = x := ⟨_, rfl⟩
        obtain ⟨Fo, hFo⟩ : ∃ x, (foldM L k).flag = x := ⟨_, rfl⟩
        obtain ⟨Ho, hHo⟩ : ∃ x, (foldM L k).has = x := ⟨_, rfl⟩
        obtain ⟨po, hpo⟩ : ∃ x, (foldM L k).price = x := ⟨_, rfl⟩
        rw [hF, hH, hpp]
        rw [hF] at c0 e1
        rw [hH] at c1 e2 e3
        rw [hpp] at c2 e3 hp hnone0 hboth0
        rw [hFo] at l1 e1
        rw [hHo] at l1 e2 e3 hnone0
        rw [hpo] at l1 e3 hg hnone0 hboth0
        obtain ⟨FN, hFN⟩ : ∃ x, max Fo F = x := ⟨_, rfl⟩
        rw [hFN] at e1
        have E := hidP (And.intro e1 (And.intro e2 e3))
        have hnone := hidP hnone0
        have hboth := hidP hboth0
        clear hnone0 hboth0 e1 e2 e3 hF hH hpp hFo hHo hpo c10 c11 c12 h0 h1 hR
        by_cases hD : Fo < F
        · obtain rfl : F = FN := by omega
          have hDd : decide (Fo < F) = true := decide_eq_true hD
          go_wp2_with fail
          refine wp_region_words mixed 8 ([] :: [] :: [18, 19] :: [20] :: [21] :: [] :: [23] :: [22, 24] :: []) (isV (.slice (some ⟨b, off, none⟩) n cap) :: isV (.int .i64 (k : Int)) :: isV (.pointer (some ⟨b, off + k * 3, none⟩)) :: isV (.pointer (some ⟨b, off + k * 3, none⟩)) :: isV (.int .i64 F) :: isV (.pointer (some ⟨w.heap.size + 1, 0, none⟩)) :: isV (.int .i64 Fo) :: isV (.bool true) :: []) (by decide) (by kernel_rfl)
            ⟨stab_isV _, stab_isV _, stab_isV _, stab_isV _, stab_isV _, stab_isV _, stab_isV _, stab_isV _, trivial⟩ ⟨?_, ?_, ?_, ?_, ?_, ?_, ?_, ?_, trivial⟩ ?_
          · intro vs wq hB hm
            clear hm
            simp only [fill]
            go_wp2
            exact ⟨_, rfl, rfl, Below.refl _ _, trivial⟩
          · intro vs wq hB hm
            clear hm
            simp only [fill]
            go_wp2
            exact ⟨_, rfl, rfl, Below.refl _ _, trivial⟩
          · intro vs wq hB hm
            have h18 : vs 18 = .slice (some ⟨b, off, none⟩) n cap := meets_get hm 0 rfl rfl rfl rfl
            have h19 : vs 19 = .int .i64 (k : Int) := meets_get hm 1 rfl rfl rfl rfl
            clear hm
            simp only [fill, h18, h19]
            go_wp2
            exact ⟨_, rfl, rfl, Below.refl _ _, trivial⟩
          · intro vs wq hB hm
            have h20 : vs 20 = .pointer (some ⟨b, off + k * 3, none⟩) := meets_get hm 2 rfl rfl rfl rfl
            clear hm
            simp only [fill, h20]
            go_wp2
            exact ⟨_, rfl, rfl, Below.refl _ _, trivial⟩
          · intro vs wq hB hm
            have h21 : vs 21 = .pointer (some ⟨b, off + k * 3, none⟩) := meets_get hm 3 rfl rfl rfl rfl
            clear hm
            have hc1 := (hB.cell hbc).trans c0
            simp only [fill, h21]
            go_wp2
            exact ⟨_, rfl, rfl, Below.refl _ _, trivial⟩
          · intro vs wq hB hm
            clear hm
            simp only [fill]
            go_wp2
            exact ⟨_, rfl, rfl, Below.refl _ _, trivial⟩
          · intro vs wq hB hm
            have hl : look wq (w.heap.size + 1) = some (.cells (#[.int .i64 Fo, .bool Ho, .int .u64 (po : Int)]) 25 (0, 0)) := by rw [look_below hB (by first | omega | (simp only [World.size_alloc]; omega) | exact look_lt (by assumption) | (simp only [World.size_alloc, World.size_setCell]; omega) | (simp; omega))]; first | assumption | go_simp
            have hc : World.cell? wq ⟨w.heap.size + 1, 0, none⟩ = some (.int .i64 Fo) := by rw [look_cell hl]; rfl
            have h23 : vs 23 = .pointer (some ⟨w.heap.size + 1, 0, none⟩) := meets_get hm 5 rfl rfl rfl rfl
            clear hm
            simp only [fill, h23]
            go_wp2
            exact ⟨_, rfl, rfl, Below.refl _ _, trivial⟩
          · intro vs wq hB hm
            have h22 : vs 22 = .int .i64 F := meets_get hm 4 rfl rfl rfl rfl
            have h24 : vs 24 = .int .i64 Fo := meets_get hm 6 rfl rfl rfl rfl
            clear hm
            simp only [fill, h22, h24]
            go_wp2
            exact ⟨_, rfl, rfl, Below.refl _ _, trivial⟩
          intro vs wq hB hm hne hlo
          have h18 : vs 18 = .slice (some ⟨b, off, none⟩) n cap := hm 0 _ _ _ rfl rfl rfl
          have h19 : vs 19 = .int .i64 (k : Int) := hm 1 _ _ _ rfl rfl rfl
          have h20 : vs 20 = .pointer (some ⟨b, off + k * 3, none⟩) := hm 2 _ _ _ rfl rfl rfl
          have h21 : vs 21 = .pointer (some ⟨b, off + k * 3, none⟩) := hm 3 _ _ _ rfl rfl rfl
          have h22 : vs 22 = .int .i64 F := hm 4 _ _ _ rfl rfl rfl
          have h23 : vs 23 = .pointer (some ⟨w.heap.size + 1, 0, none⟩) := hm 5 _ _ _ rfl rfl rfl
          have h24 : vs 24 = .int .i64 Fo := hm 6 _ _ _ rfl rfl rfl
          have h25 : vs 25 = .bool true := hm 7 _ _ _ rfl rfl rfl
          clear hne hlo
          simp only [fill, List.filterMap, List.take, List.drop, List.setIfInBounds_toArray, List.set_cons_zero, List.set_cons_succ, h18, h19, h20, h21, h22, h23, h24, h25]
          clear hm h18 h19 h20 h21 h22 h23 h24 h25
          replace l0 : look wq (w.heap.size) = some (.cells (#[.int .i64 0, .bool false, .int .u64 0]) 25 (0, 0)) := by rw [look_below hB (by first | omega | (simp only [World.size_alloc]; omega) | exact look_lt (by assumption) | (simp only [World.size_alloc, World.size_setCell]; omega) | (simp; omega))]; first | assumption | go_simp
          replace c00 : World.cell? wq ⟨w.heap.size, 0, none⟩ = some (.int .i64 0) := by rw [look_cell l0]; rfl
          replace c01 : World.cell? wq ⟨w.heap.size, 1, none⟩ = some (.bool false) := by rw [look_cell l0]; rfl
          replace c02 : World.cell? wq ⟨w.heap.size, 2, none⟩ = some (.int .u64 0) := by rw [look_cell l0]; rfl
          replace f0 := look_frozen l0
          replace s0 := look_lt l0
          replace l1 : look wq (w.heap.size + 1) = some (.cells (#[.int .i64 Fo, .bool Ho, .int .u64 (po : Int)]) 25 (0, 0)) := by rw [look_below hB (by first | omega | (simp only [World.size_alloc]; omega) | exact look_lt (by assumption) | (simp only [World.size_alloc, World.size_setCell]; omega) | (simp; omega))]; first | assumption | go_simp
          replace c10 : World.cell? wq ⟨w.heap.size + 1, 0, none⟩ = some (.int .i64 Fo) := by rw [look_cell l1]; rfl
          replace c11 : World.cell? wq ⟨w.heap.size + 1, 1, none⟩ = some (.bool Ho) := by rw [look_cell l1]; rfl
          replace c12 : World.cell? wq ⟨w.heap.size + 1, 2, none⟩ = some (.int .u64 (po : Int)) := by rw [look_cell l1]; rfl
          replace f1 := look_frozen l1
          replace s1 := look_lt l1
          replace c0 := (hB.cell hbc).trans c0
          replace c1 := (hB.cell hbc).trans c1
          replace c2 := (hB.cell hbc).trans c2
          go_wp2_with fail
          obtain ⟨w3, hw3⟩ : ∃ x, wq.setCell ⟨w.heap.size + 1, 0, none⟩ (.int .i64 F) = x := ⟨_, rfl⟩
          have hX : Below w.heap.size wq w3 := by rw [← hw3]; exact (Below.refl _ _).setCell (by simp) _
          have hB3 := (belT hBn hB).trans hX
          have hb3 : b < w3.heap.size := Nat.lt_of_lt_of_le hbw hB3.size
          replace l0 : look w3 w.heap.size = some (.cells #[.int .i64 0, .bool false, .int .u64 0] 25 (0, 0)) := by rw [← hw3, look_set_other (by simp)]; exact l0
          replace l1 : look w3 (w.heap.size + 1) = some (.cells #[.int .i64 F, .bool Ho, .int .u64 (po : Int)] 25 (0, 0)) := by rw [← hw3, look_set_same l1]; rfl
          have s0 := look_lt l0
          have s1 := look_lt l1
          replace c0 := (hX.cell hbw).trans c0
          replace c1 := (hX.cell hbw).trans c1
          replace c2 := (hX.cell hbw).trans c2
          rw [hw3]
          clear hw3 hB hbc
          have hbc := hb3
          cases H
          · skip
            refine wp_region_words mixed 22 ([] :: [] :: [32, 33] :: [34] :: [35] :: [36] :: [37] :: [38, 37] :: [39, 37] :: [40, 37] :: [41] :: [41] :: [42, 43, 41] :: [44, 41] :: [45, 41] :: [46, 41] :: [41] :: [48, 41] :: [49, 41] :: [47, 50, 41] :: [41, 51, 37] :: [37, 52] :: []) (isV (.slice (some ⟨b, off, none⟩) n cap) :: isV (.int .i64 (k : Int)) :: isV (.pointer (some ⟨b, off + k * 3, none⟩)) :: isV (.pointer (some ⟨b, off + k * 3 + 1, none⟩)) :: isV (.bool false) :: isV (.bool false) :: isV (undef) :: isV (undef) :: isV (undef) :: isV (undef) :: isV (undef) :: isV (undef) :: isV (undef) :: isV (undef) :: isV (undef) :: isV (undef) :: isV (undef) :: isV (undef) :: isV (undef) :: isV (undef) :: isV (undef) :: isV (.bool false) :: []) (by decide) (by kernel_rfl)
              ⟨stab_isV _, stab_isV _, stab_isV _, stab_isV _, stab_isV _, stab_isV _, stab_isV _, stab_isV _, stab_isV _, stab_isV _, stab_isV _, stab_isV _, stab_isV _, stab_isV _, stab_isV _, stab_isV _, stab_isV _, stab_isV _, stab_isV _, stab_isV _, stab_isV _, stab_isV _, trivial⟩ ⟨?_, ?_, ?_, ?_, ?_, ?_, ?_, ?_, ?_, ?_, ?_, ?_, ?_, ?_, ?_, ?_, ?_, ?_, ?_, ?_, ?_, ?_, trivial⟩ ?_
            · intro vs wq hB hm
              clear hm
              simp only [fill]
              go_wp2
              exact ⟨_, rfl, rfl, Below.refl _ _, trivial⟩
            · intro vs wq hB hm
              clear hm
              simp only [fill]
              go_wp2
              exact ⟨_, rfl, rfl, Below.refl _ _, trivial⟩
            · intro vs wq hB hm
              have h32 : vs 32 = .slice (some ⟨b, off, none⟩) n cap := meets_get hm 0 rfl rfl rfl rfl
              have h33 : vs 33 = .int .i64 (k : Int) := meets_get hm 1 rfl rfl rfl rfl
              clear hm
              simp only [fill, h32, h33]
              go_wp2
              exact ⟨_, rfl, rfl, Below.refl _ _, trivial⟩
            · intro vs wq hB hm
              have h34 : vs 34 = .pointer (some ⟨b, off + k * 3, none⟩) := meets_get hm 2 rfl rfl rfl rfl
              clear hm
              simp only [fill, h34]
              go_wp2
              exact ⟨_, rfl, rfl, Below.refl _ _, trivial⟩
            · intro vs wq hB hm
              have h35 : vs 35 = .pointer (some ⟨b, off + k * 3 + 1, none⟩) := meets_get hm 3 rfl rfl rfl rfl
              clear hm
              have hc1 := (hB.cell hbc).trans c1
              simp only [fill, h35]
              go_wp2
              exact ⟨_, rfl, rfl, Below.refl _ _, trivial⟩
            · intro vs wq hB hm
              have h36 : vs 36 = .bool false := meets_get hm 4 rfl rfl rfl rfl
              clear hm
              simp only [fill, h36]
              go_wp2
              exact ⟨_, rfl, rfl, Below.refl _ _, trivial⟩
            · intro vs wq hB hm
              have h37 : vs 37 = .bool false := meets_get hm 5 rfl rfl rfl rfl
              clear hm
              simp only [fill, h37]
              refine wpList_skip (by rfl) ?_
              exact ⟨_, rfl, rfl, Below.refl _ _, trivial⟩
            · intro vs wq hB hm
              have h38 : vs 38 = undef := meets_get hm 6 rfl rfl rfl rfl
              have h37 : vs 37 = .bool false := meets_get hm 5 rfl rfl rfl rfl
              clear hm
              simp only [fill, h38, h37]
              refine wpList_skip (by rfl) ?_
              exact ⟨_, rfl, rfl, Below.refl _ _, trivial⟩
            · intro vs wq hB hm
              have h39 : vs 39 = undef := meets_get hm 7 rfl rfl rfl rfl
              have h37 : vs 37 = .bool false := meets_get hm 5 rfl rfl rfl rfl
              clear hm
              simp only [fill, h39, h37]
              refine wpList_skip (by rfl) ?_
              exact ⟨_, rfl, rfl, Below.refl _ _, trivial⟩
            · intro vs wq hB hm
              have h40 : vs 40 = undef := meets_get hm 8 rfl rfl rfl rfl
              have h37 : vs 37 = .bool false := meets_get hm 5 rfl rfl rfl rfl
              clear hm
              simp only [fill, h40, h37]
              refine wpList_skip (by rfl) ?_
              exact ⟨_, rfl, rfl, Below.refl _ _, trivial⟩
            · intro vs wq hB hm
              have h41 : vs 41 = undef := meets_get hm 9 rfl rfl rfl rfl
              clear hm
              simp only [fill, h41]
              refine wpList_skip (by rfl) ?_
              exact ⟨_, rfl, rfl, Below.refl _ _, trivial⟩
            · intro vs wq hB hm
              have h41 : vs 41 = undef := meets_get hm 9 rfl rfl rfl rfl
              clear hm
              simp only [fill, h41]
              refine wpList_skip (by rfl) ?_
              exact ⟨_, rfl, rfl, Below.refl _ _, trivial⟩
            · intro vs wq hB hm
              have h42 : vs 42 = undef := meets_get hm 10 rfl rfl rfl rfl
              have h43 : vs 43 = undef := meets_get hm 11 rfl rfl rfl rfl
              have h41 : vs 41 = undef := meets_get hm 9 rfl rfl rfl rfl
              clear hm
              simp only [fill, h42, h43, h41]
              refine wpList_skip (by rfl) ?_
              exact ⟨_, rfl, rfl, Below.refl _ _, trivial⟩
            · intro vs wq hB hm
              have h44 : vs 44 = undef := meets_get hm 12 rfl rfl rfl rfl
              have h41 : vs 41 = undef := meets_get hm 9 rfl rfl rfl rfl
              clear hm
              simp only [fill, h44, h41]
              refine wpList_skip (by rfl) ?_
              exact ⟨_, rfl, rfl, Below.refl _ _, trivial⟩
            · intro vs wq hB hm
              have h45 : vs 45 = undef := meets_get hm 13 rfl rfl rfl rfl
              have h41 : vs 41 = undef := meets_get hm 9 rfl rfl rfl rfl
              clear hm
              simp only [fill, h45, h41]
              refine wpList_skip (by rfl) ?_
              exact ⟨_, rfl, rfl, Below.refl _ _, trivial⟩
            · intro vs wq hB hm
              have h46 : vs 46 = undef := meets_get hm 14 rfl rfl rfl rfl
              have h41 : vs 41 = undef := meets_get hm 9 rfl rfl rfl rfl
              clear hm
              simp only [fill, h46, h41]
              refine wpList_skip (by rfl) ?_
              exact ⟨_, rfl, rfl, Below.refl _ _, trivial⟩
            · intro vs wq hB hm
              have h41 : vs 41 = undef := meets_get hm 9 rfl rfl rfl rfl
              clear hm
              simp only [fill, h41]
              refine wpList_skip (by rfl) ?_
              exact ⟨_, rfl, rfl, Below.refl _ _, trivial⟩
            · intro vs wq hB hm
              have h48 : vs 48 = undef := meets_get hm 16 rfl rfl rfl rfl
              have h41 : vs 41 = undef := meets_get hm 9 rfl rfl rfl rfl
              clear hm
              simp only [fill, h48, h41]
              refine wpList_skip (by rfl) ?_
              exact ⟨_, rfl, rfl, Below.refl _ _, trivial⟩
            · intro vs wq hB hm
              have h49 : vs 49 = undef := meets_get hm 17 rfl rfl rfl rfl
              have h41 : vs 41 = undef := meets_get hm 9 rfl rfl rfl rfl
              clear hm
              simp only [fill, h49, h41]
              refine wpList_skip (by rfl) ?_
              exact ⟨_, rfl, rfl, Below.refl _ _, trivial⟩
            · intro vs wq hB hm
              have h47 : vs 47 = undef := meets_get hm 15 rfl rfl rfl rfl
              have h50 : vs 50 = undef := meets_get hm 18 rfl rfl rfl rfl
              have h41 : vs 41 = undef := meets_get hm 9 rfl rfl rfl rfl
              clear hm
              simp only [fill, h47, h50, h41]
              refine wpList_skip (by rfl) ?_
              exact ⟨_, rfl, rfl, Below.refl _ _, trivial⟩
            · intro vs wq hB hm
              have h41 : vs 41 = undef := meets_get hm 9 rfl rfl rfl rfl
              have h51 : vs 51 = undef := meets_get hm 19 rfl rfl rfl rfl
              have h37 : vs 37 = .bool false := meets_get hm 5 rfl rfl rfl rfl
              clear hm
              simp only [fill, h41, h51, h37]
              refine wpList_skip (by rfl) ?_
              exact ⟨_, rfl, rfl, Below.refl _ _, trivial⟩
            · intro vs wq hB hm
              have h37 : vs 37 = .bool false := meets_get hm 5 rfl rfl rfl rfl
              have h52 : vs 52 = undef := meets_get hm 20 rfl rfl rfl rfl
              clear hm
              simp only [fill, h37, h52]
              go_wp2
              exact ⟨_, rfl, rfl, Below.refl _ _, trivial⟩
            intro vs wq hB hm hne hlo
            have h32 : vs 32 = .slice (some ⟨b, off, none⟩) n cap := hm 0 _ _ _ rfl rfl rfl
            have h33 : vs 33 = .int .i64 (k : Int) := hm 1 _ _ _ rfl rfl rfl
            have h34 : vs 34 = .pointer (some ⟨b, off + k * 3, none⟩) := hm 2 _ _ _ rfl rfl rfl
            have h35 : vs 35 = .pointer (some ⟨b, off + k * 3 + 1, none⟩) := hm 3 _ _ _ rfl rfl rfl
            have h36 : vs 36 = .bool false := hm 4 _ _ _ rfl rfl rfl
            have h37 : vs 37 = .bool false := hm 5 _ _ _ rfl rfl rfl
            have h38 : vs 38 = undef := hm 6 _ _ _ rfl rfl rfl
            have h39 : vs 39 = undef := hm 7 _ _ _ rfl rfl rfl
            have h40 : vs 40 = undef := hm 8 _ _ _ rfl rfl rfl
            have h41 : vs 41 = undef := hm 9 _ _ _ rfl rfl rfl
            have h42 : vs 42 = undef := hm 10 _ _ _ rfl rfl rfl
            have h43 : vs 43 = undef := hm 11 _ _ _ rfl rfl rfl
            have h44 : vs 44 = undef := hm 12 _ _ _ rfl rfl rfl
            have h45 : vs 45 = undef := hm 13 _ _ _ rfl rfl rfl
            have h46 : vs 46 = undef := hm 14 _ _ _ rfl rfl rfl
            have h47 : vs 47 = undef := hm 15 _ _ _ rfl rfl rfl
            have h48 : vs 48 = undef := hm 16 _ _ _ rfl rfl rfl
            have h49 : vs 49 = undef := hm 17 _ _ _ rfl rfl rfl
            have h50 : vs 50 = undef := hm 18 _ _ _ rfl rfl rfl
            have h51 : vs 51 = undef := hm 19 _ _ _ rfl rfl rfl
            have h52 : vs 52 = undef := hm 20 _ _ _ rfl rfl rfl
            have h53 : vs 53 = .bool false := hm 21 _ _ _ rfl rfl rfl
            clear hne hlo
            simp only [fill, List.filterMap, List.take, List.drop, List.setIfInBounds_toArray, List.set_cons_zero, List.set_cons_succ, h32, h33, h34, h35, h36, h37, h38, h39, h40, h41, h42, h43, h44, h45, h46, h47, h48, h49, h50, h51, h52, h53]
            clear hm h32 h33 h34 h35 h36 h37 h38 h39 h40 h41 h42 h43 h44 h45 h46 h47 h48 h49 h50 h51 h52 h53
            replace l0 : look wq (w.heap.size) = some (.cells (#[.int .i64 0, .bool false, .int .u64 0]) 25 (0, 0)) := by rw [look_below hB (by first | omega | (simp only [World.size_alloc]; omega) | exact look_lt (by assumption) | (simp only [World.size_alloc, World.size_setCell]; omega) | (simp; omega))]; first | assumption | go_simp
            replace c00 : World.cell? wq ⟨w.heap.size, 0, none⟩ = some (.int .i64 0) := by rw [look_cell l0]; rfl
            replace c01 : World.cell? wq ⟨w.heap.size, 1, none⟩ = some (.bool false) := by rw [look_cell l0]; rfl
            replace c02 : World.cell? wq ⟨w.heap.size, 2, none⟩ = some (.int .u64 0) := by rw [look_cell l0]; rfl
            replace f0 := look_frozen l0
            replace s0 := look_lt l0
            replace l1 : look wq (w.heap.size + 1) = some (.cells (#[.int .i64 F, .bool Ho, .int .u64 (po : Int)]) 25 (0, 0)) := by rw [look_below hB (by first | omega | (simp only [World.size_alloc]; omega) | exact look_lt (by assumption) | (simp only [World.size_alloc, World.size_setCell]; omega) | (simp; omega))]; first | assumption | go_simp
            replace c10 : World.cell? wq ⟨w.heap.size + 1, 0, none⟩ = some (.int .i64 F) := by rw [look_cell l1]; rfl
            replace c11 : World.cell? wq ⟨w.heap.size + 1, 1, none⟩ = some (.bool Ho) := by rw [look_cell l1]; rfl
            replace c12 : World.cell? wq ⟨w.heap.size + 1, 2, none⟩ = some (.int .u64 (po : Int)) := by rw [look_cell l1]; rfl
            replace f1 := look_frozen l1
            replace s1 := look_lt l1
            replace c0 := (hB.cell hbc).trans c0
            replace c1 := (hB.cell hbc).trans c1
            replace c2 := (hB.cell hbc).trans c2
            have hBe := belT hB3 hB
            go_wp2
            go_roundw
            case rel => exact ⟨k + 1, by omega, by go_num, hBe, by first | exact l0 | go_simp, by rw [E.out.1, E.out.2.1, E.out.2.2, hnone.out, Bool.or_false]; exact l1⟩
            case measure => simp [intOf]; omega
          · cases Ho
            · skip
              refine wp_region_words mixed 22 ([] :: [] :: [32, 33] :: [34] :: [35] :: [36] :: [37] :: [38, 37] :: [39, 37] :: [40, 37] :: [41] :: [41] :: [42, 43, 41] :: [44, 41] :: [45, 41] :: [46, 41] :: [41] :: [48, 41] :: [49, 41] :: [47, 50, 41] :: [41, 51, 37] :: [37, 52] :: []) (isV (.slice (some ⟨b, off, none⟩) n cap) :: isV (.int .i64 (k : Int)) :: isV (.pointer (some ⟨b, off + k * 3, none⟩)) :: isV (.pointer (some ⟨b, off + k * 3 + 1, none⟩)) :: isV (.bool true) :: isV (.bool true) :: isV (.pointer (some ⟨w.heap.size + 1, 1, none⟩)) :: isV (.bool false) :: isV (.bool true) :: isV (.bool true) :: isV (undef) :: isV (undef) :: isV (undef) :: isV (undef) :: isV (undef) :: isV (undef) :: isV (undef) :: isV (undef) :: isV (undef) :: isV (undef) :: isV (.bool true) :: isV (.bool true) :: []) (by decide) (by kernel_rfl)
                ⟨stab_isV _, stab_isV _, stab_isV _, stab_isV _, stab_isV _, stab_isV _, stab_isV _, stab_isV _, stab_isV _, stab_isV _, stab_isV _, stab_isV _, stab_isV _, stab_isV _, stab_isV _, stab_isV _, stab_isV _, stab_isV _, stab_isV _, stab_isV _, stab_isV _, stab_isV _, trivial⟩ ⟨?_, ?_, ?_, ?_, ?_, ?_, ?_, ?_, ?_, ?_, ?_, ?_, ?_, ?_, ?_, ?_, ?_, ?_, ?_, ?_, ?_, ?_, trivial⟩ ?_
              · intro vs wq hB hm
                clear hm
                simp only [fill]
                go_wp2
                exact ⟨_, rfl, rfl, Below.refl _ _, trivial⟩
              · intro vs wq hB hm
                clear hm
                simp only [fill]
                go_wp2
                exact ⟨_, rfl, rfl, Below.refl _ _, trivial⟩
              · intro vs wq hB hm
                have h32 : vs 32 = .slice (some ⟨b, off, none⟩) n cap := meets_get hm 0 rfl rfl rfl rfl
                have h33 : vs 33 = .int .i64 (k : Int) := meets_get hm 1 rfl rfl rfl rfl
                clear hm
                simp only [fill, h32, h33]
                go_wp2
                exact ⟨_, rfl, rfl, Below.refl _ _, trivial⟩
              · intro vs wq hB hm
                have h34 : vs 34 = .pointer (some ⟨b, off + k * 3, none⟩) := meets_get hm 2 rfl rfl rfl rfl
                clear hm
                simp only [fill, h34]
                go_wp2
                exact ⟨_, rfl, rfl, Below.refl _ _, trivial⟩
              · intro vs wq hB hm
                have h35 : vs 35 = .pointer (some ⟨b, off + k * 3 + 1, none⟩) := meets_get hm 3 rfl rfl rfl rfl
                clear hm
                have hc1 := (hB.cell hbc).trans c1
                simp only [fill, h35]
                go_wp2
                exact ⟨_, rfl, rfl, Below.refl _ _, trivial⟩
              · intro vs wq hB hm
                have h36 : vs 36 = .bool true := meets_get hm 4 rfl rfl rfl rfl
                clear hm
                simp only [fill, h36]
                go_wp2
                exact ⟨_, rfl, rfl, Below.refl _ _, trivial⟩
              · intro vs wq hB hm
                have h37 : vs 37 = .bool true := meets_get hm 5 rfl rfl rfl rfl
                clear hm
                simp only [fill, h37]
                go_wp2
                exact ⟨_, rfl, rfl, Below.refl _ _, trivial⟩
              · intro vs wq hB hm
                have hl : look wq (w.heap.size + 1) = some (.cells (#[.int .i64 F, .bool false, .int .u64 (po : Int)]) 25 (0, 0)) := by rw [look_below hB (by first | omega | (simp only [World.size_alloc]; omega) | exact look_lt (by assumption) | (simp only [World.size_alloc, World.size_setCell]; omega) | (simp; omega))]; first | assumption | go_simp
                have hc : World.cell? wq ⟨w.heap.size + 1, 1, none⟩ = some (.bool false) := by rw [look_cell hl]; rfl
                have h38 : vs 38 = .pointer (some ⟨w.heap.size + 1, 1, none⟩) := meets_get hm 6 rfl rfl rfl rfl
                have h37 : vs 37 = .bool true := meets_get hm 5 rfl rfl rfl rfl
                clear hm
                simp only [fill, h38, h37]
                go_wp2
                exact ⟨_, rfl, rfl, Below.refl _ _, trivial⟩
              · intro vs wq hB hm
                have h39 : vs 39 = .bool false := meets_get hm 7 rfl rfl rfl rfl
                have h37 : vs 37 = .bool true := meets_get hm 5 rfl rfl rfl rfl
                clear hm
                simp only [fill, h39, h37]
                go_wp2
                exact ⟨_, rfl, rfl, Below.refl _ _, trivial⟩
              · intro vs wq hB hm
                have h40 : vs 40 = .bool true := meets_get hm 8 rfl rfl rfl rfl
                have h37 : vs 37 = .bool true := meets_get hm 5 rfl rfl rfl rfl
                clear hm
                simp only [fill, h40, h37]
                go_wp2
                exact ⟨_, rfl, rfl, Below.refl _ _, trivial⟩
              · intro vs wq hB hm
                have h41 : vs 41 = .bool true := meets_get hm 9 rfl rfl rfl rfl
                clear hm
                simp only [fill, h41]
                refine wpList_skip (by rfl) ?_
                exact ⟨_, rfl, rfl, Below.refl _ _, trivial⟩
              · intro vs wq hB hm
                have h41 : vs 41 = .bool true := meets_get hm 9 rfl rfl rfl rfl
                clear hm
                simp only [fill, h41]
                refine wpList_skip (by rfl) ?_
                exact ⟨_, rfl, rfl, Below.refl _ _, trivial⟩
              · intro vs wq hB hm
                have h42 : vs 42 = undef := meets_get hm 10 rfl rfl rfl rfl
                have h43 : vs 43 = undef := meets_get hm 11 rfl rfl rfl rfl
                have h41 : vs 41 = .bool true := meets_get hm 9 rfl rfl rfl rfl
                clear hm
                simp only [fill, h42, h43, h41]
                refine wpList_skip (by rfl) ?_
                exact ⟨_, rfl, rfl, Below.refl _ _, trivial⟩
              · intro vs wq hB hm
                have h44 : vs 44 = undef := meets_get hm 12 rfl rfl rfl rfl
                have h41 : vs 41 = .bool true := meets_get hm 9 rfl rfl rfl rfl
                clear hm
                simp only [fill, h44, h41]
                refine wpList_skip (by rfl) ?_
                exact ⟨_, rfl, rfl, Below.refl _ _, trivial⟩
              · intro vs wq hB hm
                have h45 : vs 45 = undef := meets_get hm 13 rfl rfl rfl rfl
                have h41 : vs 41 = .bool true := meets_get hm 9 rfl rfl rfl rfl
                clear hm
                simp only [fill, h45, h41]
                refine wpList_skip (by rfl) ?_
                exact ⟨_, rfl, rfl, Below.refl _ _, trivial⟩
              · intro vs wq hB hm
                have h46 : vs 46 = undef := meets_get hm 14 rfl rfl rfl rfl
                have h41 : vs 41 = .bool true := meets_get hm 9 rfl rfl rfl rfl
                clear hm
                simp only [fill, h46, h41]
                refine wpList_skip (by rfl) ?_
                exact ⟨_, rfl, rfl, Below.refl _ _, trivial⟩
              · intro vs wq hB hm
                have h41 : vs 41 = .bool true := meets_get hm 9 rfl rfl rfl rfl
                clear hm
                simp only [fill, h41]
                refine wpList_skip (by rfl) ?_
                exact ⟨_, rfl, rfl, Below.refl _ _, trivial⟩
              · intro vs wq hB hm
                have h48 : vs 48 = undef := meets_get hm 16 rfl rfl rfl rfl
                have h41 : vs 41 = .bool true := meets_get hm 9 rfl rfl rfl rfl
                clear hm
                simp only [fill, h48, h41]
                refine wpList_skip (by rfl) ?_
                exact ⟨_, rfl, rfl, Below.refl _ _, trivial⟩
              · intro vs wq hB hm
                have h49 : vs 49 = undef := meets_get hm 17 rfl rfl rfl rfl
                have h41 : vs 41 = .bool true := meets_get hm 9 rfl rfl rfl rfl
                clear hm
                simp only [fill, h49, h41]
                refine wpList_skip (by rfl) ?_
                exact ⟨_, rfl, rfl, Below.refl _ _, trivial⟩
              · intro vs wq hB hm
                have h47 : vs 47 = undef := meets_get hm 15 rfl rfl rfl rfl
                have h50 : vs 50 = undef := meets_get hm 18 rfl rfl rfl rfl
                have h41 : vs 41 = .bool true := meets_get hm 9 rfl rfl rfl rfl
                clear hm
                simp only [fill, h47, h50, h41]
                refine wpList_skip (by rfl) ?_
                exact ⟨_, rfl, rfl, Below.refl _ _, trivial⟩
              · intro vs wq hB hm
                have h41 : vs 41 = .bool true := meets_get hm 9 rfl rfl rfl rfl
                have h51 : vs 51 = undef := meets_get hm 19 rfl rfl rfl rfl
                have h37 : vs 37 = .bool true := meets_get hm 5 rfl rfl rfl rfl
                clear hm
                simp only [fill, h41, h51, h37]
                go_wp2
                exact ⟨_, rfl, rfl, Below.refl _ _, trivial⟩
              · intro vs wq hB hm
                have h37 : vs 37 = .bool true := meets_get hm 5 rfl rfl rfl rfl
                have h52 : vs 52 = .bool true := meets_get hm 20 rfl rfl rfl rfl
                clear hm
                simp only [fill, h37, h52]
                go_wp2
                exact ⟨_, rfl, rfl, Below.refl _ _, trivial⟩
              intro vs wq hB hm hne hlo
              have h32 : vs 32 = .slice (some ⟨b, off, none⟩) n cap := hm 0 _ _ _ rfl rfl rfl
              have h33 : vs 33 = .int .i64 (k : Int) := hm 1 _ _ _ rfl rfl rfl
              have h34 : vs 34 = .pointer (some ⟨b, off + k * 3, none⟩) := hm 2 _ _ _ rfl rfl rfl
              have h35 : vs 35 = .pointer (some ⟨b, off + k * 3 + 1, none⟩) := hm 3 _ _ _ rfl rfl rfl
              have h36 : vs 36 = .bool true := hm 4 _ _ _ rfl rfl rfl
              have h37 : vs 37 = .bool true := hm 5 _ _ _ rfl rfl rfl
              have h38 : vs 38 = .pointer (some ⟨w.heap.size + 1, 1, none⟩) := hm 6 _ _ _ rfl rfl rfl
              have h39 : vs 39 = .bool false := hm 7 _ _ _ rfl rfl rfl
              have h40 : vs 40 = .bool true := hm 8 _ _ _ rfl rfl rfl
              have h41 : vs 41 = .bool true := hm 9 _ _ _ rfl rfl rfl
              have h42 : vs 42 = undef := hm 10 _ _ _ rfl rfl rfl
              have h43 : vs 43 = undef := hm 11 _ _ _ rfl rfl rfl
              have h44 : vs 44 = undef := hm 12 _ _ _ rfl rfl rfl
              have h45 : vs 45 = undef := hm 13 _ _ _ rfl rfl rfl
              have h46 : vs 46 = undef := hm 14 _ _ _ rfl rfl rfl
              have h47 : vs 47 = undef := hm 15 _ _ _ rfl rfl rfl
              have h48 : vs 48 = undef := hm 16 _ _ _ rfl rfl rfl
              have h49 : vs 49 = undef := hm 17 _ _ _ rfl rfl rfl
              have h50 : vs 50 = undef := hm 18 _ _ _ rfl rfl rfl
              have h51 : vs 51 = undef := hm 19 _ _ _ rfl rfl rfl
              have h52 : vs 52 = .bool true := hm 20 _ _ _ rfl rfl rfl
              have h53 : vs 53 = .bool true := hm 21 _ _ _ rfl rfl rfl
              clear hne hlo
              simp only [fill, List.filterMap, List.take, List.drop, List.setIfInBounds_toArray, List.set_cons_zero, List.set_cons_succ, h32, h33, h34, h35, h36, h37, h38, h39, h40, h41, h42, h43, h44, h45, h46, h47, h48, h49, h50, h51, h52, h53]
              clear hm h32 h33 h34 h35 h36 h37 h38 h39 h40 h41 h42 h43 h44 h45 h46 h47 h48 h49 h50 h51 h52 h53
              replace l0 : look wq (w.heap.size) = some (.cells (#[.int .i64 0, .bool false, .int .u64 0]) 25 (0, 0)) := by rw [look_below hB (by first | omega | (simp only [World.size_alloc]; omega) | exact look_lt (by assumption) | (simp only [World.size_alloc, World.size_setCell]; omega) | (simp; omega))]; first | assumption | go_simp
              replace c00 : World.cell? wq ⟨w.heap.size, 0, none⟩ = some (.int .i64 0) := by rw [look_cell l0]; rfl
              replace c01 : World.cell? wq ⟨w.heap.size, 1, none⟩ = some (.bool false) := by rw [look_cell l0]; rfl
              replace c02 : World.cell? wq ⟨w.heap.size, 2, none⟩ = some (.int .u64 0) := by rw [look_cell l0]; rfl
              replace f0 := look_frozen l0
              replace s0 := look_lt l0
              replace l1 : look wq (w.heap.size + 1) = some (.cells (#[.int .i64 F, .bool false, .int .u64 (po : Int)]) 25 (0, 0)) := by rw [look_below hB (by first | omega | (simp only [World.size_alloc]; omega) | exact look_lt (by assumption) | (simp only [World.size_alloc, World.size_setCell]; omega) | (simp; omega))]; first | assumption | go_simp
              replace c10 : World.cell? wq ⟨w.heap.size + 1, 0, none⟩ = some (.int .i64 F) := by rw [look_cell l1]; rfl
              replace c11 : World.cell? wq ⟨w.heap.size + 1, 1, none⟩ = some (.bool false) := by rw [look_cell l1]; rfl
              replace c12 : World.cell? wq ⟨w.heap.size + 1, 2, none⟩ = some (.int .u64 (po : Int)) := by rw [look_cell l1]; rfl
              replace f1 := look_frozen l1
              replace s1 := look_lt l1
              replace c0 := (hB.cell hbc).trans c0
              replace c1 := (hB.cell hbc).trans c1
              replace c2 := (hB.cell hbc).trans c2
              have hBe := belT hB3 hB
              go_wp2_with fail
              go_region
              go_wp2
              go_roundw
              case rel => exact ⟨k + 1, by omega, by go_num, by repeat (first | exact hBe | apply belD | refine belS ?_ (by simp) _), by go_simp, by rw [E.out.1, E.out.2.1, E.out.2.2, show priceJ false po true p = p from rfl]; go_simp⟩
              case measure => simp [intOf]; omega
            · by_cases hK : keyF po < keyF p
              · have hK' : decide ((keyF po : Int) < (keyF p : Int)) = true := by exact decide_eq_true (by omega)
                have hK3 : decide (keyF po < keyF p) = true := by first | exact decide_eq_true hK | exact decide_eq_false hK
                have hK2 := hidP hK
                clear hK
                refine wp_region_words mixed 22 ([] :: [] :: [32, 33] :: [34] :: [35] :: [36] :: [37] :: [38, 37] :: [39, 37] :: [40, 37] :: [41] :: [41] :: [42, 43, 41] :: [44, 41] :: [45, 41] :: [46, 41] :: [41] :: [48, 41] :: [49, 41] :: [47, 50, 41] :: [41, 51, 37] :: [37, 52] :: []) (isV (.slice (some ⟨b, off, none⟩) n cap) :: isV (.int .i64 (k : Int)) :: isV (.pointer (some ⟨b, off + k * 3, none⟩)) :: isV (.pointer (some ⟨b, off + k * 3 + 1, none⟩)) :: isV (.bool true) :: isV (.bool true) :: isV (.pointer (some ⟨w.heap.size + 1, 1, none⟩)) :: isV (.bool true) :: isV (.bool false) :: isV (.bool false) :: isV (.slice (some ⟨b, off, none⟩) n cap) :: isV (.int .i64 (k : Int)) :: isV (.pointer (some ⟨b, off + k * 3, none⟩)) :: isV (.pointer (some ⟨b, off + k * 3 + 2, none⟩)) :: isV (.int .u64 (p : Int)) :: isV (.int .u64 ((keyF p : Nat) : Int)) :: isV (.pointer (some ⟨w.heap.size + 1, 2, none⟩)) :: isV (.int .u64 (po : Int)) :: isV (.int .u64 ((keyF po : Nat) : Int)) :: isV (.bool true) :: isV (.bool true) :: isV (.bool true) :: []) (by decide) (by kernel_rfl)
                  ⟨stab_isV _, stab_isV _, stab_isV _, stab_isV _, stab_isV _, stab_isV _, stab_isV _, stab_isV _, stab_isV _, stab_isV _, stab_isV _, stab_isV _, stab_isV _, stab_isV _, stab_isV _, stab_isV _, stab_isV _, stab_isV _, stab_isV _, stab_isV _, stab_isV _, stab_isV _, trivial⟩ ⟨?_, ?_, ?_, ?_, ?_, ?_, ?_, ?_, ?_, ?_, ?_, ?_, ?_, ?_, ?_, ?_, ?_, ?_, ?_, ?_, ?_, ?_, trivial⟩ ?_
                · intro vs wq hB hm
                  clear hm
                  simp only [fill]
                  go_wp2
                  exact ⟨_, rfl, rfl, Below.refl _ _, trivial⟩
                · intro vs wq hB hm
                  clear hm
                  simp only [fill]
                  go_wp2
                  exact ⟨_, rfl, rfl, Below.refl _ _, trivial⟩
                · intro vs wq hB hm
                  have h32 : vs 32 = .slice (some ⟨b, off, none⟩) n cap := meets_get hm 0 rfl rfl rfl rfl
                  have h33 : vs 33 = .int .i64 (k : Int) := meets_get hm 1 rfl rfl rfl rfl
                  clear hm
                  simp only [fill, h32, h33]
                  go_wp2
                  exact ⟨_, rfl, rfl, Below.refl _ _, trivial⟩
                · intro vs wq hB hm
                  have h34 : vs 34 = .pointer (some ⟨b, off + k * 3, none⟩) := meets_get hm 2 rfl rfl rfl rfl
                  clear hm
                  simp only [fill, h34]
                  go_wp2
                  exact ⟨_, rfl, rfl, Below.refl _ _, trivial⟩
                · intro vs wq hB hm
                  have h35 : vs 35 = .pointer (some ⟨b, off + k * 3 + 1, none⟩) := meets_get hm 3 rfl rfl rfl rfl
                  clear hm
                  have hc1 := (hB.cell hbc).trans c1
                  simp only [fill, h35]
                  go_wp2
                  exact ⟨_, rfl, rfl, Below.refl _ _, trivial⟩
                · intro vs wq hB hm
                  have h36 : vs 36 = .bool true := meets_get hm 4 rfl rfl rfl rfl
                  clear hm
                  simp only [fill, h36]
                  go_wp2
                  exact ⟨_, rfl, rfl, Below.refl _ _, trivial⟩
                · intro vs wq hB hm
                  have h37 : vs 37 = .bool true := meets_get hm 5 rfl rfl rfl rfl
                  clear hm
                  simp only [fill, h37]
                  go_wp2
                  exact ⟨_, rfl, rfl, Below.refl _ _, trivial⟩
                · intro vs wq hB hm
                  have hl : look wq (w.heap.size + 1) = some (.cells (#[.int .i64 F, .bool true, .int .u64 (po : Int)]) 25 (0, 0)) := by rw [look_below hB (by first | omega | (simp only [World.size_alloc]; omega) | exact look_lt (by assumption) | (simp only [World.size_alloc, World.size_setCell]; omega) | (simp; omega))]; first | assumption | go_simp
                  have hc : World.cell? wq ⟨w.heap.size + 1, 1, none⟩ = some (.bool true) := by rw [look_cell hl]; rfl
                  have h38 : vs 38 = .pointer (some ⟨w.heap.size + 1, 1, none⟩) := meets_get hm 6 rfl rfl rfl rfl
                  have h37 : vs 37 = .bool true := meets_get hm 5 rfl rfl rfl rfl
                  clear hm
                  simp only [fill, h38, h37]
                  go_wp2
                  exact ⟨_, rfl, rfl, Below.refl _ _, trivial⟩
                · intro vs wq hB hm
                  have h39 : vs 39 = .bool true := meets_get hm 7 rfl rfl rfl rfl
                  have h37 : vs 37 = .bool true := meets_get hm 5 rfl rfl rfl rfl
                  clear hm
                  simp only [fill, h39, h37]
                  go_wp2
                  exact ⟨_, rfl, rfl, Below.refl _ _, trivial⟩
                · intro vs wq hB hm
                  have h40 : vs 40 = .bool false := meets_get hm 8 rfl rfl rfl rfl
                  have h37 : vs 37 = .bool true := meets_get hm 5 rfl rfl rfl rfl
                  clear hm
                  simp only [fill, h40, h37]
                  go_wp2
                  exact ⟨_, rfl, rfl, Below.refl _ _, trivial⟩
                · intro vs wq hB hm
                  have h41 : vs 41 = .bool false := meets_get hm 9 rfl rfl rfl rfl
                  clear hm
                  simp only [fill, h41]
                  go_wp2
                  exact ⟨_, rfl, rfl, Below.refl _ _, trivial⟩
                · intro vs wq hB hm
                  have h41 : vs 41 = .bool false := meets_get hm 9 rfl rfl rfl rfl
                  clear hm
                  simp only [fill, h41]
                  go_wp2
                  exact ⟨_, rfl, rfl, Below.refl _ _, trivial⟩
                · intro vs wq hB hm
                  have h42 : vs 42 = .slice (some ⟨b, off, none⟩) n cap := meets_get hm 10 rfl rfl rfl rfl
                  have h43 : vs 43 = .int .i64 (k : Int) := meets_get hm 11 rfl rfl rfl rfl
                  have h41 : vs 41 = .bool false := meets_get hm 9 rfl rfl rfl rfl
                  clear hm
                  simp only [fill, h42, h43, h41]
                  go_wp2
                  exact ⟨_, rfl, rfl, Below.refl _ _, trivial⟩
                · intro vs wq hB hm
                  have h44 : vs 44 = .pointer (some ⟨b, off + k * 3, none⟩) := meets_get hm 12 rfl rfl rfl rfl
                  have h41 : vs 41 = .bool false := meets_get hm 9 rfl rfl rfl rfl
                  clear hm
                  simp only [fill, h44, h41]
                  go_wp2
                  exact ⟨_, rfl, rfl, Below.refl _ _, trivial⟩
                · intro vs wq hB hm
                  have h45 : vs 45 = .pointer (some ⟨b, off + k * 3 + 2, none⟩) := meets_get hm 13 rfl rfl rfl rfl
                  have h41 : vs 41 = .bool false := meets_get hm 9 rfl rfl rfl rfl
                  clear hm
                  have hc1 := (hB.cell hbc).trans c2
                  simp only [fill, h45, h41]
                  go_wp2
                  exact ⟨_, rfl, rfl, Below.refl _ _, trivial⟩
                · intro vs wq hB hm
                  have h46 : vs 46 = .int .u64 (p : Int) := meets_get hm 14 rfl rfl rfl rfl
                  have h41 : vs 41 = .bool false := meets_get hm 9 rfl rfl rfl rfl
                  clear hm
                  simp only [fill, h46, h41]
                  go_wp2_with fail
                  refine (mkey_any p hp _).mono ?_
                  rintro e w1 ⟨rfl, hb1⟩
                  go_wp2
                  exact ⟨_, rfl, rfl, hb1, trivial⟩
                · intro vs wq hB hm
                  have h41 : vs 41 = .bool false := meets_get hm 9 rfl rfl rfl rfl
                  clear hm
                  simp only [fill, h41]
                  go_wp2
                  exact ⟨_, rfl, rfl, Below.refl _ _, trivial⟩
                · intro vs wq hB hm
                  have hl : look wq (w.heap.size + 1) = some (.cells (#[.int .i64 F, .bool true, .int .u64 (po : Int)]) 25 (0, 0)) := by rw [look_below hB (by first | omega | (simp only [World.size_alloc]; omega) | exact look_lt (by assumption) | (simp only [World.size_alloc, World.size_setCell]; omega) | (simp; omega))]; first | assumption | go_simp
                  have hc : World.cell? wq ⟨w.heap.size + 1, 2, none⟩ = some (.int .u64 (po : Int)) := by rw [look_cell hl]; rfl
                  have h48 : vs 48 = .pointer (some ⟨w.heap.size + 1, 2, none⟩) := meets_get hm 16 rfl rfl rfl rfl
                  have h41 : vs 41 = .bool false := meets_get hm 9 rfl rfl rfl rfl
                  clear hm
                  simp only [fill, h48, h41]
                  go_wp2
                  exact ⟨_, rfl, rfl, Below.refl _ _, trivial⟩
                · intro vs wq hB hm
                  have h49 : vs 49 = .int .u64 (po : Int) := meets_get hm 17 rfl rfl rfl rfl
                  have h41 : vs 41 = .bool false := meets_get hm 9 rfl rfl rfl rfl
                  clear hm
                  simp only [fill, h49, h41]
                  go_wp2_with fail
                  refine (mkey_any po hg _).mono ?_
                  rintro e w1 ⟨rfl, hb1⟩
                  go_wp2
                  exact ⟨_, rfl, rfl, hb1, trivial⟩
                · intro vs wq hB hm
                  have h47 : vs 47 = .int .u64 ((keyF p : Nat) : Int) := meets_get hm 15 rfl rfl rfl rfl
                  have h50 : vs 50 = .int .u64 ((keyF po : Nat) : Int) := meets_get hm 18 rfl rfl rfl rfl
                  have h41 : vs 41 = .bool false := meets_get hm 9 rfl rfl rfl rfl
                  clear hm
                  simp only [fill, h47, h50, h41]
                  go_wp2
                  exact ⟨_, rfl, rfl, Below.refl _ _, trivial⟩
                · intro vs wq hB hm
                  have h41 : vs 41 = .bool false := meets_get hm 9 rfl rfl rfl rfl
                  have h51 : vs 51 = .bool true := meets_get hm 19 rfl rfl rfl rfl
                  have h37 : vs 37 = .bool true := meets_get hm 5 rfl rfl rfl rfl
                  clear hm
                  simp only [fill, h41, h51, h37]
                  go_wp2
                  exact ⟨_, rfl, rfl, Below.refl _ _, trivial⟩
                · intro vs wq hB hm
                  have h37 : vs 37 = .bool true := meets_get hm 5 rfl rfl rfl rfl
                  have h52 : vs 52 = .bool true := meets_get hm 20 rfl rfl rfl rfl
                  clear hm
                  simp only [fill, h37, h52]
                  go_wp2
                  exact ⟨_, rfl, rfl, Below.refl _ _, trivial⟩
                intro vs wq hB hm hne hlo
                have h32 : vs 32 = .slice (some ⟨b, off, none⟩) n cap := hm 0 _ _ _ rfl rfl rfl
                have h33 : vs 33 = .int .i64 (k : Int) := hm 1 _ _ _ rfl rfl rfl
                have h34 : vs 34 = .pointer (some ⟨b, off + k * 3, none⟩) := hm 2 _ _ _ rfl rfl rfl
                have h35 : vs 35 = .pointer (some ⟨b, off + k * 3 + 1, none⟩) := hm 3 _ _ _ rfl rfl rfl
                have h36 : vs 36 = .bool true := hm 4 _ _ _ rfl rfl rfl
                have h37 : vs 37 = .bool true := hm 5 _ _ _ rfl rfl rfl
                have h38 : vs 38 = .pointer (some ⟨w.heap.size + 1, 1, none⟩) := hm 6 _ _ _ rfl rfl rfl
                have h39 : vs 39 = .bool true := hm 7 _ _ _ rfl rfl rfl
                have h40 : vs 40 = .bool false := hm 8 _ _ _ rfl rfl rfl
                have h41 : vs 41 = .bool false := hm 9 _ _ _ rfl rfl rfl
                have h42 : vs 42 = .slice (some ⟨b, off, none⟩) n cap := hm 10 _ _ _ rfl rfl rfl
                have h43 : vs 43 = .int .i64 (k : Int) := hm 11 _ _ _ rfl rfl rfl
                have h44 : vs 44 = .pointer (some ⟨b, off + k * 3, none⟩) := hm 12 _ _ _ rfl rfl rfl
                have h45 : vs 45 = .pointer (some ⟨b, off + k * 3 + 2, none⟩) := hm 13 _ _ _ rfl rfl rfl
                have h46 : vs 46 = .int .u64 (p : Int) := hm 14 _ _ _ rfl rfl rfl
                have h47 : vs 47 = .int .u64 ((keyF p : Nat) : Int) := hm 15 _ _ _ rfl rfl rfl
                have h48 : vs 48 = .pointer (some ⟨w.heap.size + 1, 2, none⟩) := hm 16 _ _ _ rfl rfl rfl
                have h49 : vs 49 = .int .u64 (po : Int) := hm 17 _ _ _ rfl rfl rfl
                have h50 : vs 50 = .int .u64 ((keyF po : Nat) : Int) := hm 18 _ _ _ rfl rfl rfl
                have h51 : vs 51 = .bool true := hm 19 _ _ _ rfl rfl rfl
                have h52 : vs 52 = .bool true := hm 20 _ _ _ rfl rfl rfl
                have h53 : vs 53 = .bool true := hm 21 _ _ _ rfl rfl rfl
                clear hne hlo
                simp only [fill, List.filterMap, List.take, List.drop, List.setIfInBounds_toArray, List.set_cons_zero, List.set_cons_succ, h32, h33, h34, h35, h36, h37, h38, h39, h40, h41, h42, h43, h44, h45, h46, h47, h48, h49, h50, h51, h52, h53]
                clear hm h32 h33 h34 h35 h36 h37 h38 h39 h40 h41 h42 h43 h44 h45 h46 h47 h48 h49 h50 h51 h52 h53
                replace l0 : look wq (w.heap.size) = some (.cells (#[.int .i64 0, .bool false, .int .u64 0]) 25 (0, 0)) := by rw [look_below hB (by first | omega | (simp only [World.size_alloc]; omega) | exact look_lt (by assumption) | (simp only [World.size_alloc, World.size_setCell]; omega) | (simp; omega))]; first | assumption | go_simp
                replace c00 : World.cell? wq ⟨w.heap.size, 0, none⟩ = some (.int .i64 0) := by rw [look_cell l0]; rfl
                replace c01 : World.cell? wq ⟨w.heap.size, 1, none⟩ = some (.bool false) := by rw [look_cell l0]; rfl
                replace c02 : World.cell? wq ⟨w.heap.size, 2, none⟩ = some (.int .u64 0) := by rw [look_cell l0]; rfl
                replace f0 := look_frozen l0
                replace s0 := look_lt l0
                replace l1 : look wq (w.heap.size + 1) = some (.cells (#[.int .i64 F, .bool true, .int .u64 (po : Int)]) 25 (0, 0)) := by rw [look_below hB (by first | omega | (simp only [World.size_alloc]; omega) | exact look_lt (by assumption) | (simp only [World.size_alloc, World.size_setCell]; omega) | (simp; omega))]; first | assumption | go_simp
                replace c10 : World.cell? wq ⟨w.heap.size + 1, 0, none⟩ = some (.int .i64 F) := by rw [look_cell l1]; rfl
                replace c11 : World.cell? wq ⟨w.heap.size + 1, 1, none⟩ = some (.bool true) := by rw [look_cell l1]; rfl
                replace c12 : World.cell? wq ⟨w.heap.size + 1, 2, none⟩ = some (.int .u64 (po : Int)) := by rw [look_cell l1]; rfl
                replace f1 := look_frozen l1
                replace s1 := look_lt l1
                replace c0 := (hB.cell hbc).trans c0
                replace c1 := (hB.cell hbc).trans c1
                replace c2 := (hB.cell hbc).trans c2
                have hBe := belT hB3 hB
                go_wp2_with fail
                go_region
                go_wp2
                go_roundw
                case rel => exact ⟨k + 1, by omega, by go_num, by repeat (first | exact hBe | apply belD | refine belS ?_ (by simp) _), by go_simp, by rw [E.out.1, E.out.2.1, E.out.2.2, show priceJ true po true p = joinF po p from rfl, hboth.out, if_pos hK2.out]; go_simp⟩
                case measure => simp [intOf]; omega
              · have hK' : decide ((keyF po : Int) < (keyF p : Int)) = false := by exact decide_eq_false (by omega)
                have hK3 : decide (keyF po < keyF p) = false := by first | exact decide_eq_true hK | exact decide_eq_false hK
                have hK2 := hidP hK
                clear hK
                refine wp_region_words mixed 22 ([] :: [] :: [32, 33] :: [34] :: [35] :: [36] :: [37] :: [38, 37] :: [39, 37] :: [40, 37] :: [41] :: [41] :: [42, 43, 41] :: [44, 41] :: [45, 41] :: [46, 41] :: [41] :: [48, 41] :: [49, 41] :: [47, 50, 41] :: [41, 51, 37] :: [37, 52] :: []) (isV (.slice (some ⟨b, off, none⟩) n cap) :: isV (.int .i64 (k : Int)) :: isV (.pointer (some ⟨b, off + k * 3, none⟩)) :: isV (.pointer (some ⟨b, off + k * 3 + 1, none⟩)) :: isV (.bool true) :: isV (.bool true) :: isV (.pointer (some ⟨w.heap.size + 1, 1, none⟩)) :: isV (.bool true) :: isV (.bool false) :: isV (.bool false) :: isV (.slice (some ⟨b, off, none⟩) n cap) :: isV (.int .i64 (k : Int)) :: isV (.pointer (some ⟨b, off + k * 3, none⟩)) :: isV (.pointer (some ⟨b, off + k * 3 + 2, none⟩)) :: isV (.int .u64 (p : Int)) :: isV (.int .u64 ((keyF p : Nat) : Int)) :: isV (.pointer (some ⟨w.heap.size + 1, 2, none⟩)) :: isV (.int .u64 (po : Int)) :: isV (.int .u64 ((keyF po : Nat) : Int)) :: isV (.bool false) :: isV (.bool false) :: isV (.bool false) :: []) (by decide) (by kernel_rfl)
                  ⟨stab_isV _, stab_isV _, stab_isV _, stab_isV _, stab_isV _, stab_isV _, stab_isV _, stab_isV _, stab_isV _, stab_isV _, stab_isV _, stab_isV _, stab_isV _, stab_isV _, stab_isV _, stab_isV _, stab_isV _, stab_isV _, stab_isV _, stab_isV _, stab_isV _, stab_isV _, trivial⟩ ⟨?_, ?_, ?_, ?_, ?_, ?_, ?_, ?_, ?_, ?_, ?_, ?_, ?_, ?_, ?_, ?_, ?_, ?_, ?_, ?_, ?_, ?_, trivial⟩ ?_
                · intro vs wq hB hm
                  clear hm
                  simp only [fill]
                  go_wp2
                  exact ⟨_, rfl, rfl, Below.refl _ _, trivial⟩
                · intro vs wq hB hm
                  clear hm
                  simp only [fill]
                  go_wp2
                  exact ⟨_, rfl, rfl, Below.refl _ _, trivial⟩
                · intro vs wq hB hm
                  have h32 : vs 32 = .slice (some ⟨b, off, none⟩) n cap := meets_get hm 0 rfl rfl rfl rfl
                  have h33 : vs 33 = .int .i64 (k : Int) := meets_get hm 1 rfl rfl rfl rfl
                  clear hm
                  simp only [fill, h32, h33]
                  go_wp2
                  exact ⟨_, rfl, rfl, Below.refl _ _, trivial⟩
                · intro vs wq hB hm
                  have h34 : vs 34 = .pointer (some ⟨b, off + k * 3, none⟩) := meets_get hm 2 rfl rfl rfl rfl
                  clear hm
                  simp only [fill, h34]
                  go_wp2
                  exact ⟨_, rfl, rfl, Below.refl _ _, trivial⟩
                · intro vs wq hB hm
                  have h35 : vs 35 = .pointer (some ⟨b, off + k * 3 + 1, none⟩) := meets_get hm 3 rfl rfl rfl rfl
                  clear hm
                  have hc1 := (hB.cell hbc).trans c1
                  simp only [fill, h35]
                  go_wp2
                  exact ⟨_, rfl, rfl, Below.refl _ _, trivial⟩
                · intro vs wq hB hm
                  have h36 : vs 36 = .bool true := meets_get hm 4 rfl rfl rfl rfl
                  clear hm
                  simp only [fill, h36]
                  go_wp2
                  exact ⟨_, rfl, rfl, Below.refl _ _, trivial⟩
                · intro vs wq hB hm
                  have h37 : vs 37 = .bool true := meets_get hm 5 rfl rfl rfl rfl
                  clear hm
                  simp only [fill, h37]
                  go_wp2
                  exact ⟨_, rfl, rfl, Below.refl _ _, trivial⟩
                · intro vs wq hB hm
                  have hl : look wq (w.heap.size + 1) = some (.cells (#[.int .i64 F, .bool true, .int .u64 (po : Int)]) 25 (0, 0)) := by rw [look_below hB (by first | omega | (simp only [World.size_alloc]; omega) | exact look_lt (by assumption) | (simp only [World.size_alloc, World.size_setCell]; omega) | (simp; omega))]; first | assumption | go_simp
                  have hc : World.cell? wq ⟨w.heap.size + 1, 1, none⟩ = some (.bool true) := by rw [look_cell hl]; rfl
                  have h38 : vs 38 = .pointer (some ⟨w.heap.size + 1, 1, none⟩) := meets_get hm 6 rfl rfl rfl rfl
                  have h37 : vs 37 = .bool true := meets_get hm 5 rfl rfl rfl rfl
                  clear hm
                  simp only [fill, h38, h37]
                  go_wp2
                  exact ⟨_, rfl, rfl, Below.refl _ _, trivial⟩
                · intro vs wq hB hm
                  have h39 : vs 39 = .bool true := meets_get hm 7 rfl rfl rfl rfl
                  have h37 : vs 37 = .bool true := meets_get hm 5 rfl rfl rfl rfl
                  clear hm
                  simp only [fill, h39, h37]
                  go_wp2
                  exact ⟨_, rfl, rfl, Below.refl _ _, trivial⟩
                · intro vs wq hB hm
                  have h40 : vs 40 = .bool false := meets_get hm 8 rfl rfl rfl rfl
                  have h37 : vs 37 = .bool true := meets_get hm 5 rfl rfl rfl rfl
                  clear hm
                  simp only [fill, h40, h37]
                  go_wp2
                  exact ⟨_, rfl, rfl, Below.refl _ _, trivial⟩
                · intro vs wq hB hm
                  have h41 : vs 41 = .bool false := meets_get hm 9 rfl rfl rfl rfl
                  clear hm
                  simp only [fill, h41]
                  go_wp2
                  exact ⟨_, rfl, rfl, Below.refl _ _, trivial⟩
                · intro vs wq hB hm
                  have h41 : vs 41 = .bool false := meets_get hm 9 rfl rfl rfl rfl
                  clear hm
                  simp only [fill, h41]
                  go_wp2
                  exact ⟨_, rfl, rfl, Below.refl _ _, trivial⟩
                · intro vs wq hB hm
                  have h42 : vs 42 = .slice (some ⟨b, off, none⟩) n cap := meets_get hm 10 rfl rfl rfl rfl
                  have h43 : vs 43 = .int .i64 (k : Int) := meets_get hm 11 rfl rfl rfl rfl
                  have h41 : vs 41 = .bool false := meets_get hm 9 rfl rfl rfl rfl
                  clear hm
                  simp only [fill, h42, h43, h41]
                  go_wp2
                  exact ⟨_, rfl, rfl, Below.refl _ _, trivial⟩
                · intro vs wq hB hm
                  have h44 : vs 44 = .pointer (some ⟨b, off + k * 3, none⟩) := meets_get hm 12 rfl rfl rfl rfl
                  have h41 : vs 41 = .bool false := meets_get hm 9 rfl rfl rfl rfl
                  clear hm
                  simp only [fill, h44, h41]
                  go_wp2
                  exact ⟨_, rfl, rfl, Below.refl _ _, trivial⟩
                · intro vs wq hB hm
                  have h45 : vs 45 = .pointer (some ⟨b, off + k * 3 + 2, none⟩) := meets_get hm 13 rfl rfl rfl rfl
                  have h41 : vs 41 = .bool false := meets_get hm 9 rfl rfl rfl rfl
                  clear hm
                  have hc1 := (hB.cell hbc).trans c2
                  simp only [fill, h45, h41]
                  go_wp2
                  exact ⟨_, rfl, rfl, Below.refl _ _, trivial⟩
                · intro vs wq hB hm
                  have h46 : vs 46 = .int .u64 (p : Int) := meets_get hm 14 rfl rfl rfl rfl
                  have h41 : vs 41 = .bool false := meets_get hm 9 rfl rfl rfl rfl
                  clear hm
                  simp only [fill, h46, h41]
                  go_wp2_with fail
                  refine (mkey_any p hp _).mono ?_
                  rintro e w1 ⟨rfl, hb1⟩
                  go_wp2
                  exact ⟨_, rfl, rfl, hb1, trivial⟩
                · intro vs wq hB hm
                  have h41 : vs 41 = .bool false := meets_get hm 9 rfl rfl rfl rfl
                  clear hm
                  simp only [fill, h41]
                  go_wp2
                  exact ⟨_, rfl, rfl, Below.refl _ _, trivial⟩
                · intro vs wq hB hm
                  have hl : look wq (w.heap.size + 1) = some (.cells (#[.int .i64 F, .bool true, .int .u64 (po : Int)]) 25 (0, 0)) := by rw [look_below hB (by first | omega | (simp only [World.size_alloc]; omega) | exact look_lt (by assumption) | (simp only [World.size_alloc, World.size_setCell]; omega) | (simp; omega))]; first | assumption | go_simp
                  have hc : World.cell? wq ⟨w.heap.size + 1, 2, none⟩ = some (.int .u64 (po : Int)) := by rw [look_cell hl]; rfl
                  have h48 : vs 48 = .pointer (some ⟨w.heap.size + 1, 2, none⟩) := meets_get hm 16 rfl rfl rfl rfl
                  have h41 : vs 41 = .bool false := meets_get hm 9 rfl rfl rfl rfl
                  clear hm
                  simp only [fill, h48, h41]
                  go_wp2
                  exact ⟨_, rfl, rfl, Below.refl _ _, trivial⟩
                · intro vs wq hB hm
                  have h49 : vs 49 = .int .u64 (po : Int) := meets_get hm 17 rfl rfl rfl rfl
                  have h41 : vs 41 = .bool false := meets_get hm 9 rfl rfl rfl rfl
                  clear hm
                  simp only [fill, h49, h41]
                  go_wp2_with fail
                  refine (mkey_any po hg _).mono ?_
                  rintro e w1 ⟨rfl, hb1⟩
                  go_wp2
                  exact ⟨_, rfl, rfl, hb1, trivial⟩
                · intro vs wq hB hm
                  have h47 : vs 47 = .int .u64 ((keyF p : Nat) : Int) := meets_get hm 15 rfl rfl rfl rfl
                  have h50 : vs 50 = .int .u64 ((keyF po : Nat) : Int) := meets_get hm 18 rfl rfl rfl rfl
                  have h41 : vs 41 = .bool false := meets_get hm 9 rfl rfl rfl rfl
                  clear hm
                  simp only [fill, h47, h50, h41]
                  go_wp2
                  exact ⟨_, rfl, rfl, Below.refl _ _, trivial⟩
                · intro vs wq hB hm
                  have h41 : vs 41 = .bool false := meets_get hm 9 rfl rfl rfl rfl
                  have h51 : vs 51 = .bool false := meets_get hm 19 rfl rfl rfl rfl
                  have h37 : vs 37 = .bool true := meets_get hm 5 rfl rfl rfl rfl
                  clear hm
                  simp only [fill, h41, h51, h37]
                  go_wp2
                  exact ⟨_, rfl, rfl, Below.refl _ _, trivial⟩
                · intro vs wq hB hm
                  have h37 : vs 37 = .bool true := meets_get hm 5 rfl rfl rfl rfl
                  have h52 : vs 52 = .bool false := meets_get hm 20 rfl rfl rfl rfl
                  clear hm
                  simp only [fill, h37, h52]
                  go_wp2
                  exact ⟨_, rfl, rfl, Below.refl _ _, trivial⟩
                intro vs wq hB hm hne hlo
                have h32 : vs 32 = .slice (some ⟨b, off, none⟩) n cap := hm 0 _ _ _ rfl rfl rfl
                have h33 : vs 33 = .int .i64 (k : Int) := hm 1 _ _ _ rfl rfl rfl
                have h34 : vs 34 = .pointer (some ⟨b, off + k * 3, none⟩) := hm 2 _ _ _ rfl rfl rfl
                have h35 : vs 35 = .pointer (some ⟨b, off + k * 3 + 1, none⟩) := hm 3 _ _ _ rfl rfl rfl
                have h36 : vs 36 = .bool true := hm 4 _ _ _ rfl rfl rfl
                have h37 : vs 37 = .bool true := hm 5 _ _ _ rfl rfl rfl
                have h38 : vs 38 = .pointer (some ⟨w.heap.size + 1, 1, none⟩) := hm 6 _ _ _ rfl rfl rfl
                have h39 : vs 39 = .bool true := hm 7 _ _ _ rfl rfl rfl
                have h40 : vs 40 = .bool false := hm 8 _ _ _ rfl rfl rfl
                have h41 : vs 41 = .bool false := hm 9 _ _ _ rfl rfl rfl
                have h42 : vs 42 = .slice (some ⟨b, off, none⟩) n cap := hm 10 _ _ _ rfl rfl rfl
                have h43 : vs 43 = .int .i64 (k : Int) := hm 11 _ _ _ rfl rfl rfl
                have h44 : vs 44 = .pointer (some ⟨b, off + k * 3, none⟩) := hm 12 _ _ _ rfl rfl rfl
                have h45 : vs 45 = .pointer (some ⟨b, off + k * 3 + 2, none⟩) := hm 13 _ _ _ rfl rfl rfl
                have h46 : vs 46 = .int .u64 (p : Int) := hm 14 _ _ _ rfl rfl rfl
                have h47 : vs 47 = .int .u64 ((keyF p : Nat) : Int) := hm 15 _ _ _ rfl rfl rfl
                have h48 : vs 48 = .pointer (some ⟨w.heap.size + 1, 2, none⟩) := hm 16 _ _ _ rfl rfl rfl
                have h49 : vs 49 = .int .u64 (po : Int) := hm 17 _ _ _ rfl rfl rfl
                have h50 : vs 50 = .int .u64 ((keyF po : Nat) : Int) := hm 18 _ _ _ rfl rfl rfl
                have h51 : vs 51 = .bool false := hm 19 _ _ _ rfl rfl rfl
                have h52 : vs 52 = .bool false := hm 20 _ _ _ rfl rfl rfl
                have h53 : vs 53 = .bool false := hm 21 _ _ _ rfl rfl rfl
                clear hne hlo
                simp only [fill, List.filterMap, List.take, List.drop, List.setIfInBounds_toArray, List.set_cons_zero, List.set_cons_succ, h32, h33, h34, h35, h36, h37, h38, h39, h40, h41, h42, h43, h44, h45, h46, h47, h48, h49, h50, h51, h52, h53]
                clear hm h32 h33 h34 h35 h36 h37 h38 h39 h40 h41 h42 h43 h44 h45 h46 h47 h48 h49 h50 h51 h52 h53
                replace l0 : look wq (w.heap.size) = some (.cells (#[.int .i64 0, .bool false, .int .u64 0]) 25 (0, 0)) := by rw [look_below hB (by first | omega | (simp only [World.size_alloc]; omega) | exact look_lt (by assumption) | (simp only [World.size_alloc, World.size_setCell]; omega) | (simp; omega))]; first | assumption | go_simp
                replace c00 : World.cell? wq ⟨w.heap.size, 0, none⟩ = some (.int .i64 0) := by rw [look_cell l0]; rfl
                replace c01 : World.cell? wq ⟨w.heap.size, 1, none⟩ = some (.bool false) := by rw [look_cell l0]; rfl
                replace c02 : World.cell? wq ⟨w.heap.size, 2, none⟩ = some (.int .u64 0) := by rw [look_cell l0]; rfl
                replace f0 := look_frozen l0
                replace s0 := look_lt l0
                replace l1 : look wq (w.heap.size + 1) = some (.cells (#[.int .i64 F, .bool true, .int .u64 (po : Int)]) 25 (0, 0)) := by rw [look_below hB (by first | omega | (simp only [World.size_alloc]; omega) | exact look_lt (by assumption) | (simp only [World.size_alloc, World.size_setCell]; omega) | (simp; omega))]; first | assumption | go_simp
                replace c10 : World.cell? wq ⟨w.heap.size + 1, 0, none⟩ = some (.int .i64 F) := by rw [look_cell l1]; rfl
                replace c11 : World.cell? wq ⟨w.heap.size + 1, 1, none⟩ = some (.bool true) := by rw [look_cell l1]; rfl
                replace c12 : World.cell? wq ⟨w.heap.size + 1, 2, none⟩ = some (.int .u64 (po : Int)) := by rw [look_cell l1]; rfl
                replace f1 := look_frozen l1
                replace s1 := look_lt l1
                replace c0 := (hB.cell hbc).trans c0
                replace c1 := (hB.cell hbc).trans c1
                replace c2 := (hB.cell hbc).trans c2
                have hBe := belT hB3 hB
                go_wp2
                go_roundw
                case rel => exact ⟨k + 1, by omega, by go_num, hBe, by first | exact l0 | go_simp, by rw [E.out.1, E.out.2.1, E.out.2.2]; rw [show priceJ true po true p = joinF po p from rfl, hboth.out, if_neg hK2.out]; exact l1⟩
                case measure => simp [intOf]; omega
        · obtain rfl : Fo = FN := by omega
          have hDd : decide (Fo < F) = false := decide_eq_false hD
          go_wp2_with fail
          refine wp_region_words mixed 8 ([] :: [] :: [18, 19] :: [20] :: [21] :: [] :: [23] :: [22, 24] :: []) (isV (.slice (some ⟨b, off, none⟩) n cap) :: isV (.int .i64 (k : Int)) :: isV (.pointer (some ⟨b, off + k * 3, none⟩)) :: isV (.pointer (some ⟨b, off + k * 3, none⟩)) :: isV (.int .i64 F) :: isV (.pointer (some ⟨w.heap.size + 1, 0, none⟩)) :: isV (.int .i64 Fo) :: isV (.bool false) :: []) (by decide) (by kernel_rfl)
            ⟨stab_isV _, stab_isV _, stab_isV _, stab_isV _, stab_isV _, stab_isV _, stab_isV _, stab_isV _, trivial⟩ ⟨?_, ?_, ?_, ?_, ?_, ?_, ?_, ?_, trivial⟩ ?_
          · intro vs wq hB hm
            clear hm
            simp only [fill]
            go_wp2
            exact ⟨_, rfl, rfl, Below.refl _ _, trivial⟩
          · intro vs wq hB hm
            clear hm
            simp only [fill]
            go_wp2
            exact ⟨_, rfl, rfl, Below.refl _ _, trivial⟩
          · intro vs wq hB hm
            have h18 : vs 18 = .slice (some ⟨b, off, none⟩) n cap := meets_get hm 0 rfl rfl rfl rfl
            have h19 : vs 19 = .int .i64 (k : Int) := meets_get hm 1 rfl rfl rfl rfl
            clear hm
            simp only [fill, h18, h19]
            go_wp2
            exact ⟨_, rfl, rfl, Below.refl _ _, trivial⟩
          · intro vs wq hB hm
            have h20 : vs 20 = .pointer (some ⟨b, off + k * 3, none⟩) := meets_get hm 2 rfl rfl rfl rfl
            clear hm
            simp only [fill, h20]
            go_wp2
            exact ⟨_, rfl, rfl, Below.refl _ _, trivial⟩
          · intro vs wq hB hm
            have h21 : vs 21 = .pointer (some ⟨b, off + k * 3, none⟩) := meets_get hm 3 rfl rfl rfl rfl
            clear hm
            have hc1 := (hB.cell hbc).trans c0
            simp only [fill, h21]
            go_wp2
            exact ⟨_, rfl, rfl, Below.refl _ _, trivial⟩
          · intro vs wq hB hm
            clear hm
            simp only [fill]
            go_wp2
            exact ⟨_, rfl, rfl, Below.refl _ _, trivial⟩
          · intro vs wq hB hm
            have hl : look wq (w.heap.size + 1) = some (.cells (#[.int .i64 Fo, .bool Ho, .int .u64 (po : Int)]) 25 (0, 0)) := by rw [look_below hB (by first | omega | (simp only [World.size_alloc]; omega) | exact look_lt (by assumption) | (simp only [World.size_alloc, World.size_setCell]; omega) | (simp; omega))]; first | assumption | go_simp
            have hc : World.cell? wq ⟨w.heap.size + 1, 0, none⟩ = some (.int .i64 Fo) := by rw [look_cell hl]; rfl
            have h23 : vs 23 = .pointer (some ⟨w.heap.size + 1, 0, none⟩) := meets_get hm 5 rfl rfl rfl rfl
            clear hm
            simp only [fill, h23]
            go_wp2
            exact ⟨_, rfl, rfl, Below.refl _ _, trivial⟩
          · intro vs wq hB hm
            have h22 : vs 22 = .int .i64 F := meets_get hm 4 rfl rfl rfl rfl
            have h24 : vs 24 = .int .i64 Fo := meets_get hm 6 rfl rfl rfl rfl
            clear hm
            simp only [fill, h22, h24]
            go_wp2
            exact ⟨_, rfl, rfl, Below.refl _ _, trivial⟩
          intro vs wq hB hm hne hlo
          have h18 : vs 18 = .slice (some ⟨b, off, none⟩) n cap := hm 0 _ _ _ rfl rfl rfl
          have h19 : vs 19 = .int .i64 (k : Int) := hm 1 _ _ _ rfl rfl rfl
          have h20 : vs 20 = .pointer (some ⟨b, off + k * 3, none⟩) := hm 2 _ _ _ rfl rfl rfl
          have h21 : vs 21 = .pointer (some ⟨b, off + k * 3, none⟩) := hm 3 _ _ _ rfl rfl rfl
          have h22 : vs 22 = .int .i64 F := hm 4 _ _ _ rfl rfl rfl
          have h23 : vs 23 = .pointer (some ⟨w.heap.size + 1, 0, none⟩) := hm 5 _ _ _ rfl rfl rfl
          have h24 : vs 24 = .int .i64 Fo := hm 6 _ _ _ rfl rfl rfl
          have h25 : vs 25 = .bool false := hm 7 _ _ _ rfl rfl rfl
          clear hne hlo
          simp only [fill, List.filterMap, List.take, List.drop, List.setIfInBounds_toArray, List.set_cons_zero, List.set_cons_succ, h18, h19, h20, h21, h22, h23, h24, h25]
          clear hm h18 h19 h20 h21 h22 h23 h24 h25
          replace l0 : look wq (w.heap.size) = some (.cells (#[.int .i64 0, .bool false, .int .u64 0]) 25 (0, 0)) := by rw [look_below hB (by first | omega | (simp only [World.size_alloc]; omega) | exact look_lt (by assumption) | (simp only [World.size_alloc, World.size_setCell]; omega) | (simp; omega))]; first | assumption | go_simp
          replace c00 : World.cell? wq ⟨w.heap.size, 0, none⟩ = some (.int .i64 0) := by rw [look_cell l0]; rfl
          replace c01 : World.cell? wq ⟨w.heap.size, 1, none⟩ = some (.bool false) := by rw [look_cell l0]; rfl
          replace c02 : World.cell? wq ⟨w.heap.size, 2, none⟩ = some (.int .u64 0) := by rw [look_cell l0]; rfl
          replace f0 := look_frozen l0
          replace s0 := look_lt l0
          replace l1 : look wq (w.heap.size + 1) = some (.cells (#[.int .i64 Fo, .bool Ho, .int .u64 (po : Int)]) 25 (0, 0)) := by rw [look_below hB (by first | omega | (simp only [World.size_alloc]; omega) | exact look_lt (by assumption) | (simp only [World.size_alloc, World.size_setCell]; omega) | (simp; omega))]; first | assumption | go_simp
          replace c10 : World.cell? wq ⟨w.heap.size + 1, 0, none⟩ = some (.int .i64 Fo) := by rw [look_cell l1]; rfl
          replace c11 : World.cell? wq ⟨w.heap.size + 1, 1, none⟩ = some (.bool Ho) := by rw [look_cell l1]; rfl
          replace c12 : World.cell? wq ⟨w.heap.size + 1, 2, none⟩ = some (.int .u64 (po : Int)) := by rw [look_cell l1]; rfl
          replace f1 := look_frozen l1
          replace s1 := look_lt l1
          replace c0 := (hB.cell hbc).trans c0
          replace c1 := (hB.cell hbc).trans c1
          replace c2 := (hB.cell hbc).trans c2
          have hB3 := belT hBn hB
          have hb3 : b < wq.heap.size := Nat.lt_of_lt_of_le hbw hB3.size
          clear hB hbc
          have hbc := hb3
          go_wp2_with fail
          cases H
          · skip
            refine wp_region_words mixed 22 ([] :: [] :: [32, 33] :: [34] :: [35] :: [36] :: [37] :: [38, 37] :: [39, 37] :: [40, 37] :: [41] :: [41] :: [42, 43, 41] :: [44, 41] :: [45, 41] :: [46, 41] :: [41] :: [48, 41] :: [49, 41] :: [47, 50, 41] :: [41, 51, 37] :: [37, 52] :: []) (isV (.slice (some ⟨b, off, none⟩) n cap) :: isV (.int .i64 (k : Int)) :: isV (.pointer (some ⟨b, off + k * 3, none⟩)) :: isV (.pointer (some ⟨b, off + k * 3 + 1, none⟩)) :: isV (.bool false) :: isV (.bool false) :: isV (undef) :: isV (undef) :: isV (undef) :: isV (undef) :: isV (undef) :: isV (undef) :: isV (undef) :: isV (undef) :: isV (undef) :: isV (undef) :: isV (undef) :: isV (undef) :: isV (undef) :: isV (undef) :: isV (undef) :: isV (.bool false) :: []) (by decide) (by kernel_rfl)
              ⟨stab_isV _, stab_isV _, stab_isV _, stab_isV _, stab_isV _, stab_isV _, stab_isV _, stab_isV _, stab_isV _, stab_isV _, stab_isV _, stab_isV _, stab_isV _, stab_isV _, stab_isV _, stab_isV _, stab_isV _, stab_isV _, stab_isV _, stab_isV _, stab_isV _, stab_isV _, trivial⟩ ⟨?_, ?_, ?_, ?_, ?_, ?_, ?_, ?_, ?_, ?_, ?_, ?_, ?_, ?_, ?_, ?_, ?_, ?_, ?_, ?_, ?_, ?_, trivial⟩ ?_
            · intro vs wq hB hm
              clear hm
              simp only [fill]
              go_wp2
              exact ⟨_, rfl, rfl, Below.refl _ _, trivial⟩
            · intro vs wq hB hm
              clear hm
              simp only [fill]
              go_wp2
              exact ⟨_, rfl, rfl, Below.refl _ _, trivial⟩
            · intro vs wq hB hm
              have h32 : vs 32 = .slice (some ⟨b, off, none⟩) n cap := meets_get hm 0 rfl rfl rfl rfl
              have h33 : vs 33 = .int .i64 (k : Int) := meets_get hm 1 rfl rfl rfl rfl
              clear hm
              simp only [fill, h32, h33]
              go_wp2
              exact ⟨_, rfl, rfl, Below.refl _ _, trivial⟩
            · intro vs wq hB hm
              have h34 : vs 34 = .pointer (some ⟨b, off + k * 3, none⟩) := meets_get hm 2 rfl rfl rfl rfl
              clear hm
              simp only [fill, h34]
              go_wp2
              exact ⟨_, rfl, rfl, Below.refl _ _, trivial⟩
            · intro vs wq hB hm
              have h35 : vs 35 = .pointer (some ⟨b, off + k * 3 + 1, none⟩) := meets_get hm 3 rfl rfl rfl rfl
              clear hm
              have hc1 := (hB.cell hbc).trans c1
              simp only [fill, h35]
              go_wp2
              exact ⟨_, rfl, rfl, Below.refl _ _, trivial⟩
            · intro vs wq hB hm
              have h36 : vs 36 = .bool false := meets_get hm 4 rfl rfl rfl rfl
              clear hm
              simp only [fill, h36]
              go_wp2
              exact ⟨_, rfl, rfl, Below.refl _ _, trivial⟩
            · intro vs wq hB hm
              have h37 : vs 37 = .bool false := meets_get hm 5 rfl rfl rfl rfl
              clear hm
              simp only [fill, h37]
              refine wpList_skip (by rfl) ?_
              exact ⟨_, rfl, rfl, Below.refl _ _, trivial⟩
            · intro vs wq hB hm
              have h38 : vs 38 = undef := meets_get hm 6 rfl rfl rfl rfl
              have h37 : vs 37 = .bool false := meets_get hm 5 rfl rfl rfl rfl
              clear hm
              simp only [fill, h38, h37]
              refine wpList_skip (by rfl) ?_
              exact ⟨_, rfl, rfl, Below.refl _ _, trivial⟩
            · intro vs wq hB hm
              have h39 : vs 39 = undef := meets_get hm 7 rfl rfl rfl rfl
              have h37 : vs 37 = .bool false := meets_get hm 5 rfl rfl rfl rfl
              clear hm
              simp only [fill, h39, h37]
              refine wpList_skip (by rfl) ?_
              exact ⟨_, rfl, rfl, Below.refl _ _, trivial⟩
            · intro vs wq hB hm
              have h40 : vs 40 = undef := meets_get hm 8 rfl rfl rfl rfl
              have h37 : vs 37 = .bool false := meets_get hm 5 rfl rfl rfl rfl
              clear hm
              simp only [fill, h40, h37]
              refine wpList_skip (by rfl) ?_
              exact ⟨_, rfl, rfl, Below.refl _ _, trivial⟩
            · intro vs wq hB hm
              have h41 : vs 41 = undef := meets_get hm 9 rfl rfl rfl rfl
              clear hm
              simp only [fill, h41]
              refine wpList_skip (by rfl) ?_
              exact ⟨_, rfl, rfl, Below.refl _ _, trivial⟩
            · intro vs wq hB hm
              have h41 : vs 41 = undef := meets_get hm 9 rfl rfl rfl rfl
              clear hm
              simp only [fill, h41]
              refine wpList_skip (by rfl) ?_
              exact ⟨_, rfl, rfl, Below.refl _ _, trivial⟩
            · intro vs wq hB hm
              have h42 : vs 42 = undef := meets_get hm 10 rfl rfl rfl rfl
              have h43 : vs 43 = undef := meets_get hm 11 rfl rfl rfl rfl
              have h41 : vs 41 = undef := meets_get hm 9 rfl rfl rfl rfl
              clear hm
              simp only [fill, h42, h43, h41]
              refine wpList_skip (by rfl) ?_
              exact ⟨_, rfl, rfl, Below.refl _ _, trivial⟩
            · intro vs wq hB hm
              have h44 : vs 44 = undef := meets_get hm 12 rfl rfl rfl rfl
              have h41 : vs 41 = undef := meets_get hm 9 rfl rfl rfl rfl
              clear hm
              simp only [fill, h44, h41]
              refine wpList_skip (by rfl) ?_
              exact ⟨_, rfl, rfl, Below.refl _ _, trivial⟩
            · intro vs wq hB hm
              have h45 : vs 45 = undef := meets_get hm 13 rfl rfl rfl rfl
              have h41 : vs 41 = undef := meets_get hm 9 rfl rfl rfl rfl
              clear hm
              simp only [fill, h45, h41]
              refine wpList_skip (by rfl) ?_
              exact ⟨_, rfl, rfl, Below.refl _ _, trivial⟩
            · intro vs wq hB hm
              have h46 : vs 46 = undef := meets_get hm 14 rfl rfl rfl rfl
              have h41 : vs 41 = undef := meets_get hm 9 rfl rfl rfl rfl
              clear hm
              simp only [fill, h46, h41]
              refine wpList_skip (by rfl) ?_
              exact ⟨_, rfl, rfl, Below.refl _ _, trivial⟩
            · intro vs wq hB hm
              have h41 : vs 41 = undef := meets_get hm 9 rfl rfl rfl rfl
              clear hm
              simp only [fill, h41]
              refine wpList_skip (by rfl) ?_
              exact ⟨_, rfl, rfl, Below.refl _ _, trivial⟩
            · intro vs wq hB hm
              have h48 : vs 48 = undef := meets_get hm 16 rfl rfl rfl rfl
              have h41 : vs 41 = undef := meets_get hm 9 rfl rfl rfl rfl
              clear hm
              simp only [fill, h48, h41]
              refine wpList_skip (by rfl) ?_
              exact ⟨_, rfl, rfl, Below.refl _ _, trivial⟩
            · intro vs wq hB hm
              have h49 : vs 49 = undef := meets_get hm 17 rfl rfl rfl rfl
              have h41 : vs 41 = undef := meets_get hm 9 rfl rfl rfl rfl
              clear hm
              simp only [fill, h49, h41]
              refine wpList_skip (by rfl) ?_
              exact ⟨_, rfl, rfl, Below.refl _ _, trivial⟩
            · intro vs wq hB hm
              have h47 : vs 47 = undef := meets_get hm 15 rfl rfl rfl rfl
              have h50 : vs 50 = undef := meets_get hm 18 rfl rfl rfl rfl
              have h41 : vs 41 = undef := meets_get hm 9 rfl rfl rfl rfl
              clear hm
              simp only [fill, h47, h50, h41]
              refine wpList_skip (by rfl) ?_
              exact ⟨_, rfl, rfl, Below.refl _ _, trivial⟩
            · intro vs wq hB hm
              have h41 : vs 41 = undef := meets_get hm 9 rfl rfl rfl rfl
              have h51 : vs 51 = undef := meets_get hm 19 rfl rfl rfl rfl
              have h37 : vs 37 = .bool false := meets_get hm 5 rfl rfl rfl rfl
              clear hm
              simp only [fill, h41, h51, h37]
              refine wpList_skip (by rfl) ?_
              exact ⟨_, rfl, rfl, Below.refl _ _, trivial⟩
            · intro vs wq hB hm
              have h37 : vs 37 = .bool false := meets_get hm 5 rfl rfl rfl rfl
              have h52 : vs 52 = undef := meets_get hm 20 rfl rfl rfl rfl
              clear hm
              simp only [fill, h37, h52]
              go_wp2
              exact ⟨_, rfl, rfl, Below.refl _ _, trivial⟩
            intro vs wq hB hm hne hlo
            have h32 : vs 32 = .slice (some ⟨b, off, none⟩) n cap := hm 0 _ _ _ rfl rfl rfl
            have h33 : vs 33 = .int .i64 (k : Int) := hm 1 _ _ _ rfl rfl rfl
            have h34 : vs 34 = .pointer (some ⟨b, off + k * 3, none⟩) := hm 2 _ _ _ rfl rfl rfl
            have h35 : vs 35 = .pointer (some ⟨b, off + k * 3 + 1, none⟩) := hm 3 _ _ _ rfl rfl rfl
            have h36 : vs 36 = .bool false := hm 4 _ _ _ rfl rfl rfl
            have h37 : vs 37 = .bool false := hm 5 _ _ _ rfl rfl rfl
            have h38 : vs 38 = undef := hm 6 _ _ _ rfl rfl rfl
            have h39 : vs 39 = undef := hm 7 _ _ _ rfl rfl rfl
            have h40 : vs 40 = undef := hm 8 _ _ _ rfl rfl rfl
            have h41 : vs 41 = undef := hm 9 _ _ _ rfl rfl rfl
            have h42 : vs 42 = undef := hm 10 _ _ _ rfl rfl rfl
            have h43 : vs 43 = undef := hm 11 _ _ _ rfl rfl rfl
            have h44 : vs 44 = undef := hm 12 _ _ _ rfl rfl rfl
            have h45 : vs 45 = undef := hm 13 _ _ _ rfl rfl rfl
            have h46 : vs 46 = undef := hm 14 _ _ _ rfl rfl rfl
            have h47 : vs 47 = undef := hm 15 _ _ _ rfl rfl rfl
            have h48 : vs 48 = undef := hm 16 _ _ _ rfl rfl rfl
            have h49 : vs 49 = undef := hm 17 _ _ _ rfl rfl rfl
            have h50 : vs 50 = undef := hm 18 _ _ _ rfl rfl rfl
            have h51 : vs 51 = undef := hm 19 _ _ _ rfl rfl rfl
            have h52 : vs 52 = undef := hm 20 _ _ _ rfl rfl rfl
            have h53 : vs 53 = .bool false := hm 21 _ _ _ rfl rfl rfl
            clear hne hlo
            simp only [fill, List.filterMap, List.take, List.drop, List.setIfInBounds_toArray, List.set_cons_zero, List.set_cons_succ, h32, h33, h34, h35, h36, h37, h38, h39, h40, h41, h42, h43, h44, h45, h46, h47, h48, h49, h50, h51, h52, h53]
            clear hm h32 h33 h34 h35 h36 h37 h38 h39 h40 h41 h42 h43 h44 h45 h46 h47 h48 h49 h50 h51 h52 h53
            replace l0 : look wq (w.heap.size) = some (.cells (#[.int .i64 0, .bool false, .int .u64 0]) 25 (0, 0)) := by rw [look_below hB (by first | omega | (simp only [World.size_alloc]; omega) | exact look_lt (by assumption) | (simp only [World.size_alloc, World.size_setCell]; omega) | (simp; omega))]; first | assumption | go_simp
            replace c00 : World.cell? wq ⟨w.heap.size, 0, none⟩ = some (.int .i64 0) := by rw [look_cell l0]; rfl
            replace c01 : World.cell? wq ⟨w.heap.size, 1, none⟩ = some (.bool false) := by rw [look_cell l0]; rfl
            replace c02 : World.cell? wq ⟨w.heap.size, 2, none⟩ = some (.int .u64 0) := by rw [look_cell l0]; rfl
            replace f0 := look_frozen l0
            replace s0 := look_lt l0
            replace l1 : look wq (w.heap.size + 1) = some (.cells (#[.int .i64 Fo, .bool Ho, .int .u64 (po : Int)]) 25 (0, 0)) := by rw [look_below hB (by first | omega | (simp only [World.size_alloc]; omega) | exact look_lt (by assumption) | (simp only [World.size_alloc, World.size_setCell]; omega) | (simp; omega))]; first | assumption | go_simp
            replace c10 : World.cell? wq ⟨w.heap.size + 1, 0, none⟩ = some (.int .i64 Fo) := by rw [look_cell l1]; rfl
            replace c11 : World.cell? wq ⟨w.heap.size + 1, 1, none⟩ = some (.bool Ho) := by rw [look_cell l1]; rfl
            replace c12 : World.cell? wq ⟨w.heap.size + 1, 2, none⟩ = some (.int .u64 (po : Int)) := by rw [look_cell l1]; rfl
            replace f1 := look_frozen l1
            replace s1 := look_lt l1
            replace c0 := (hB.cell hbc).trans c0
            replace c1 := (hB.cell hbc).trans c1
            replace c2 := (hB.cell hbc).trans c2
            have hBe := belT hB3 hB
            go_wp2
            go_roundw
            case rel => exact ⟨k + 1, by omega, by go_num, hBe, by first | exact l0 | go_simp, by rw [E.out.1, E.out.2.1, E.out.2.2, hnone.out, Bool.or_false]; exact l1⟩
            case measure => simp [intOf]; omega
          · cases Ho
            · skip
              refine wp_region_words mixed 22 ([] :: [] :: [32, 33] :: [34] :: [35] :: [36] :: [37] :: [38, 37] :: [39, 37] :: [40, 37] :: [41] :: [41] :: [42, 43, 41] :: [44, 41] :: [45, 41] :: [46, 41] :: [41] :: [48, 41] :: [49, 41] :: [47, 50, 41] :: [41, 51, 37] :: [37, 52] :: []) (isV (.slice (some ⟨b, off, none⟩) n cap) :: isV (.int .i64 (k : Int)) :: isV (.pointer (some ⟨b, off + k * 3, none⟩)) :: isV (.pointer (some ⟨b, off + k * 3 + 1, none⟩)) :: isV (.bool true) :: isV (.bool true) :: isV (.pointer (some ⟨w.heap.size + 1, 1, none⟩)) :: isV (.bool false) :: isV (.bool true) :: isV (.bool true) :: isV (undef) :: isV (undef) :: isV (undef) :: isV (undef) :: isV (undef) :: isV (undef) :: isV (undef) :: isV (undef) :: isV (undef) :: isV (undef) :: isV (.bool true) :: isV (.bool true) :: []) (by decide) (by kernel_rfl)
                ⟨stab_isV _, stab_isV _, stab_isV _, stab_isV _, stab_isV _, stab_isV _, stab_isV _, stab_isV _, stab_isV _, stab_isV _, stab_isV _, stab_isV _, stab_isV _, stab_isV _, stab_isV _, stab_isV _, stab_isV _, stab_isV _, stab_isV _, stab_isV _, stab_isV _, stab_isV _, trivial⟩ ⟨?_, ?_, ?_, ?_, ?_, ?_, ?_, ?_, ?_, ?_, ?_, ?_, ?_, ?_, ?_, ?_, ?_, ?_, ?_, ?_, ?_, ?_, trivial⟩ ?_
              · intro vs wq hB hm
                clear hm
                simp only [fill]
                go_wp2
                exact ⟨_, rfl, rfl, Below.refl _ _, trivial⟩
              · intro vs wq hB hm
                clear hm
                simp only [fill]
                go_wp2
                exact ⟨_, rfl, rfl, Below.refl _ _, trivial⟩
              · intro vs wq hB hm
                have h32 : vs 32 = .slice (some ⟨b, off, none⟩) n cap := meets_get hm 0 rfl rfl rfl rfl
                have h33 : vs 33 = .int .i64 (k : Int) := meets_get hm 1 rfl rfl rfl rfl
                clear hm
                simp only [fill, h32, h33]
                go_wp2
                exact ⟨_, rfl, rfl, Below.refl _ _, trivial⟩
              · intro vs wq hB hm
                have h34 : vs 34 = .pointer (some ⟨b, off + k * 3, none⟩) := meets_get hm 2 rfl rfl rfl rfl
                clear hm
                simp only [fill, h34]
                go_wp2
                exact ⟨_, rfl, rfl, Below.refl _ _, trivial⟩
              · intro vs wq hB hm
                have h35 : vs 35 = .pointer (some ⟨b, off + k * 3 + 1, none⟩) := meets_get hm 3 rfl rfl rfl rfl
                clear hm
                have hc1 := (hB.cell hbc).trans c1
                simp only [fill, h35]
                go_wp2
                exact ⟨_, rfl, rfl, Below.refl _ _, trivial⟩
              · intro vs wq hB hm
                have h36 : vs 36 = .bool true := meets_get hm 4 rfl rfl rfl rfl
                clear hm
                simp only [fill, h36]
                go_wp2
                exact ⟨_, rfl, rfl, Below.refl _ _, trivial⟩
              · intro vs wq hB hm
                have h37 : vs 37 = .bool true := meets_get hm 5 rfl rfl rfl rfl
                clear hm
                simp only [fill, h37]
                go_wp2
                exact ⟨_, rfl, rfl, Below.refl _ _, trivial⟩
              · intro vs wq hB hm
                have hl : look wq (w.heap.size + 1) = some (.cells (#[.int .i64 Fo, .bool false, .int .u64 (po : Int)]) 25 (0, 0)) := by rw [look_below hB (by first | omega | (simp only [World.size_alloc]; omega) | exact look_lt (by assumption) | (simp only [World.size_alloc, World.size_setCell]; omega) | (simp; omega))]; first | assumption | go_simp
                have hc : World.cell? wq ⟨w.heap.size + 1, 1, none⟩ = some (.bool false) := by rw [look_cell hl]; rfl
                have h38 : vs 38 = .pointer (some ⟨w.heap.size + 1, 1, none⟩) := meets_get hm 6 rfl rfl rfl rfl
                have h37 : vs 37 = .bool true := meets_get hm 5 rfl rfl rfl rfl
                clear hm
                simp only [fill, h38, h37]
                go_wp2
                exact ⟨_, rfl, rfl, Below.refl _ _, trivial⟩
              · intro vs wq hB hm
                have h39 : vs 39 = .bool false := meets_get hm 7 rfl rfl rfl rfl
                have h37 : vs 37 = .bool true := meets_get hm 5 rfl rfl rfl rfl
                clear hm
                simp only [fill, h39, h37]
                go_wp2
                exact ⟨_, rfl, rfl, Below.refl _ _, trivial⟩
              · intro vs wq hB hm
                have h40 : vs 40 = .bool true := meets_get hm 8 rfl rfl rfl rfl
                have h37 : vs 37 = .bool true := meets_get hm 5 rfl rfl rfl rfl
                clear hm
                simp only [fill, h40, h37]
                go_wp2
                exact ⟨_, rfl, rfl, Below.refl _ _, trivial⟩
              · intro vs wq hB hm
                have h41 : vs 41 = .bool true := meets_get hm 9 rfl rfl rfl rfl
                clear hm
                simp only [fill, h41]
                refine wpList_skip (by rfl) ?_
                exact ⟨_, rfl, rfl, Below.refl _ _, trivial⟩
              · intro vs wq hB hm
                have h41 : vs 41 = .bool true := meets_get hm 9 rfl rfl rfl rfl
                clear hm
                simp only [fill, h41]
                refine wpList_skip (by rfl) ?_
                exact ⟨_, rfl, rfl, Below.refl _ _, trivial⟩
              · intro vs wq hB hm
                have h42 : vs 42 = undef := meets_get hm 10 rfl rfl rfl rfl
                have h43 : vs 43 = undef := meets_get hm 11 rfl rfl rfl rfl
                have h41 : vs 41 = .bool true := meets_get hm 9 rfl rfl rfl rfl
                clear hm
                simp only [fill, h42, h43, h41]
                refine wpList_skip (by rfl) ?_
                exact ⟨_, rfl, rfl, Below.refl _ _, trivial⟩
              · intro vs wq hB hm
                have h44 : vs 44 = undef := meets_get hm 12 rfl rfl rfl rfl
                have h41 : vs 41 = .bool true := meets_get hm 9 rfl rfl rfl rfl
                clear hm
                simp only [fill, h44, h41]
                refine wpList_skip (by rfl) ?_
                exact ⟨_, rfl, rfl, Below.refl _ _, trivial⟩
              · intro vs wq hB hm
                have h45 : vs 45 = undef := meets_get hm 13 rfl rfl rfl rfl
                have h41 : vs 41 = .bool true := meets_get hm 9 rfl rfl rfl rfl
                clear hm
                simp only [fill, h45, h41]
                refine wpList_skip (by rfl) ?_
                exact ⟨_, rfl, rfl, Below.refl _ _, trivial⟩
              · intro vs wq hB hm
                have h46 : vs 46 = undef := meets_get hm 14 rfl rfl rfl rfl
                have h41 : vs 41 = .bool true := meets_get hm 9 rfl rfl rfl rfl
                clear hm
                simp only [fill, h46, h41]
                refine wpList_skip (by rfl) ?_
                exact ⟨_, rfl, rfl, Below.refl _ _, trivial⟩
              · intro vs wq hB hm
                have h41 : vs 41 = .bool true := meets_get hm 9 rfl rfl rfl rfl
                clear hm
                simp only [fill, h41]
                refine wpList_skip (by rfl) ?_
                exact ⟨_, rfl, rfl, Below.refl _ _, trivial⟩
              · intro vs wq hB hm
                have h48 : vs 48 = undef := meets_get hm 16 rfl rfl rfl rfl
                have h41 : vs 41 = .bool true := meets_get hm 9 rfl rfl rfl rfl
                clear hm
                simp only [fill, h48, h41]
                refine wpList_skip (by rfl) ?_
                exact ⟨_, rfl, rfl, Below.refl _ _, trivial⟩
              · intro vs wq hB hm
                have h49 : vs 49 = undef := meets_get hm 17 rfl rfl rfl rfl
                have h41 : vs 41 = .bool true := meets_get hm 9 rfl rfl rfl rfl
                clear hm
                simp only [fill, h49, h41]
                refine wpList_skip (by rfl) ?_
                exact ⟨_, rfl, rfl, Below.refl _ _, trivial⟩
              · intro vs wq hB hm
                have h47 : vs 47 = undef := meets_get hm 15 rfl rfl rfl rfl
                have h50 : vs 50 = undef := meets_get hm 18 rfl rfl rfl rfl
                have h41 : vs 41 = .bool true := meets_get hm 9 rfl rfl rfl rfl
                clear hm
                simp only [fill, h47, h50, h41]
                refine wpList_skip (by rfl) ?_
                exact ⟨_, rfl, rfl, Below.refl _ _, trivial⟩
              · intro vs wq hB hm
                have h41 : vs 41 = .bool true := meets_get hm 9 rfl rfl rfl rfl
                have h51 : vs 51 = undef := meets_get hm 19 rfl rfl rfl rfl
                have h37 : vs 37 = .bool true := meets_get hm 5 rfl rfl rfl rfl
                clear hm
                simp only [fill, h41, h51, h37]
                go_wp2
                exact ⟨_, rfl, rfl, Below.refl _ _, trivial⟩
              · intro vs wq hB hm
                have h37 : vs 37 = .bool true := meets_get hm 5 rfl rfl rfl rfl
                have h52 : vs 52 = .bool true := meets_get hm 20 rfl rfl rfl rfl
                clear hm
                simp only [fill, h37, h52]
                go_wp2
                exact ⟨_, rfl, rfl, Below.refl _ _, trivial⟩
              intro vs wq hB hm hne hlo
              have h32 : vs 32 = .slice (some ⟨b, off, none⟩) n cap := hm 0 _ _ _ rfl rfl rfl
              have h33 : vs 33 = .int .i64 (k : Int) := hm 1 _ _ _ rfl rfl rfl
              have h34 : vs 34 = .pointer (some ⟨b, off + k * 3, none⟩) := hm 2 _ _ _ rfl rfl rfl
              have h35 : vs 35 = .pointer (some ⟨b, off + k * 3 + 1, none⟩) := hm 3 _ _ _ rfl rfl rfl
              have h36 : vs 36 = .bool true := hm 4 _ _ _ rfl rfl rfl
              have h37 : vs 37 = .bool true := hm 5 _ _ _ rfl rfl rfl
              have h38 : vs 38 = .pointer (some ⟨w.heap.size + 1, 1, none⟩) := hm 6 _ _ _ rfl rfl rfl
              have h39 : vs 39 = .bool false := hm 7 _ _ _ rfl rfl rfl
              have h40 : vs 40 = .bool true := hm 8 _ _ _ rfl rfl rfl
              have h41 : vs 41 = .bool true := hm 9 _ _ _ rfl rfl rfl
              have h42 : vs 42 = undef := hm 10 _ _ _ rfl rfl rfl
              have h43 : vs 43 = undef := hm 11 _ _ _ rfl rfl rfl
              have h44 : vs 44 = undef := hm 12 _ _ _ rfl rfl rfl
              have h45 : vs 45 = undef := hm 13 _ _ _ rfl rfl rfl
              have h46 : vs 46 = undef := hm 14 _ _ _ rfl rfl rfl
              have h47 : vs 47 = undef := hm 15 _ _ _ rfl rfl rfl
              have h48 : vs 48 = undef := hm 16 _ _ _ rfl rfl rfl
              have h49 : vs 49 = undef := hm 17 _ _ _ rfl rfl rfl
              have h50 : vs 50 = undef := hm 18 _ _ _ rfl rfl rfl
              have h51 : vs 51 = undef := hm 19 _ _ _ rfl rfl rfl
              have h52 : vs 52 = .bool true := hm 20 _ _ _ rfl rfl rfl
              have h53 : vs 53 = .bool true := hm 21 _ _ _ rfl rfl rfl
              clear hne hlo
              simp only [fill, List.filterMap, List.take, List.drop, List.setIfInBounds_toArray, List.set_cons_zero, List.set_cons_succ, h32, h33, h34, h35, h36, h37, h38, h39, h40, h41, h42, h43, h44, h45, h46, h47, h48, h49, h50, h51, h52, h53]
              clear hm h32 h33 h34 h35 h36 h37 h38 h39 h40 h41 h42 h43 h44 h45 h46 h47 h48 h49 h50 h51 h52 h53
              replace l0 : look wq (w.heap.size) = some (.cells (#[.int .i64 0, .bool false, .int .u64 0]) 25 (0, 0)) := by rw [look_below hB (by first | omega | (simp only [World.size_alloc]; omega) | exact look_lt (by assumption) | (simp only [World.size_alloc, World.size_setCell]; omega) | (simp; omega))]; first | assumption | go_simp
              replace c00 : World.cell? wq ⟨w.heap.size, 0, none⟩ = some (.int .i64 0) := by rw [look_cell l0]; rfl
              replace c01 : World.cell? wq ⟨w.heap.size, 1, none⟩ = some (.bool false) := by rw [look_cell l0]; rfl
              replace c02 : World.cell? wq ⟨w.heap.size, 2, none⟩ = some (.int .u64 0) := by rw [look_cell l0]; rfl
              replace f0 := look_frozen l0
              replace s0 := look_lt l0
              replace l1 : look wq (w.heap.size + 1) = some (.cells (#[.int .i64 Fo, .bool false, .int .u64 (po : Int)]) 25 (0, 0)) := by rw [look_below hB (by first | omega | (simp only [World.size_alloc]; omega) | exact look_lt (by assumption) | (simp only [World.size_alloc, World.size_setCell]; omega) | (simp; omega))]; first | assumption | go_simp
              replace c10 : World.cell? wq ⟨w.heap.size + 1, 0, none⟩ = some (.int .i64 Fo) := by rw [look_cell l1]; rfl
              replace c11 : World.cell? wq ⟨w.heap.size + 1, 1, none⟩ = some (.bool false) := by rw [look_cell l1]; rfl
              replace c12 : World.cell? wq ⟨w.heap.size + 1, 2, none⟩ = some (.int .u64 (po : Int)) := by rw [look_cell l1]; rfl
              replace f1 := look_frozen l1
              replace s1 := look_lt l1
              replace c0 := (hB.cell hbc).trans c0
              replace c1 := (hB.cell hbc).trans c1
              replace c2 := (hB.cell hbc).trans c2
              have hBe := belT hB3 hB
              go_wp2_with fail
              go_region
              go_wp2
              go_roundw
              case rel => exact ⟨k + 1, by omega, by go_num, by repeat (first | exact hBe | apply belD | refine belS ?_ (by simp) _), by go_simp, by rw [E.out.1, E.out.2.1, E.out.2.2, show priceJ false po true p = p from rfl]; go_simp⟩
              case measure => simp [intOf]; omega
            · by_cases hK : keyF po < keyF p
              · have hK' : decide ((keyF po : Int) < (keyF p : Int)) = true := by exact decide_eq_true (by omega)
                have hK3 : decide (keyF po < keyF p) = true := by first | exact decide_eq_true hK | exact decide_eq_false hK
                have hK2 := hidP hK
                clear hK
                refine wp_region_words mixed 22 ([] :: [] :: [32, 33] :: [34] :: [35] :: [36] :: [37] :: [38, 37] :: [39, 37] :: [40, 37] :: [41] :: [41] :: [42, 43, 41] :: [44, 41] :: [45, 41] :: [46, 41] :: [41] :: [48, 41] :: [49, 41] :: [47, 50, 41] :: [41, 51, 37] :: [37, 52] :: []) (isV (.slice (some ⟨b, off, none⟩) n cap) :: isV (.int .i64 (k : Int)) :: isV (.pointer (some ⟨b, off + k * 3, none⟩)) :: isV (.pointer (some ⟨b, off + k * 3 + 1, none⟩)) :: isV (.bool true) :: isV (.bool true) :: isV (.pointer (some ⟨w.heap.size + 1, 1, none⟩)) :: isV (.bool true) :: isV (.bool false) :: isV (.bool false) :: isV (.slice (some ⟨b, off, none⟩) n cap) :: isV (.int .i64 (k : Int)) :: isV (.pointer (some ⟨b, off + k * 3, none⟩)) :: isV (.pointer (some ⟨b, off + k * 3 + 2, none⟩)) :: isV (.int .u64 (p : Int)) :: isV (.int .u64 ((keyF p : Nat) : Int)) :: isV (.pointer (some ⟨w.heap.size + 1, 2, none⟩)) :: isV (.int .u64 (po : Int)) :: isV (.int .u64 ((keyF po : Nat) : Int)) :: isV (.bool true) :: isV (.bool true) :: isV (.bool true) :: []) (by decide) (by kernel_rfl)
                  ⟨stab_isV _, stab_isV _, stab_isV _, stab_isV _, stab_isV _, stab_isV _, stab_isV _, stab_isV _, stab_isV _, stab_isV _, stab_isV _, stab_isV _, stab_isV _, stab_isV _, stab_isV _, stab_isV _, stab_isV _, stab_isV _, stab_isV _, stab_isV _, stab_isV _, stab_isV _, trivial⟩ ⟨?_, ?_, ?_, ?_, ?_, ?_, ?_, ?_, ?_, ?_, ?_, ?_, ?_, ?_, ?_, ?_, ?_, ?_, ?_, ?_, ?_, ?_, trivial⟩ ?_
                · intro vs wq hB hm
                  clear hm
                  simp only [fill]
                  go_wp2
                  exact ⟨_, rfl, rfl, Below.refl _ _, trivial⟩
                · intro vs wq hB hm
                  clear hm
                  simp only [fill]
                  go_wp2
                  exact ⟨_, rfl, rfl, Below.refl _ _, trivial⟩
                · intro vs wq hB hm
                  have h32 : vs 32 = .slice (some ⟨b, off, none⟩) n cap := meets_get hm 0 rfl rfl rfl rfl
                  have h33 : vs 33 = .int .i64 (k : Int) := meets_get hm 1 rfl rfl rfl rfl
                  clear hm
                  simp only [fill, h32, h33]
                  go_wp2
                  exact ⟨_, rfl, rfl, Below.refl _ _, trivial⟩
                · intro vs wq hB hm
                  have h34 : vs 34 = .pointer (some ⟨b, off + k * 3, none⟩) := meets_get hm 2 rfl rfl rfl rfl
                  clear hm
                  simp only [fill, h34]
                  go_wp2
                  exact ⟨_, rfl, rfl, Below.refl _ _, trivial⟩
                · intro vs wq hB hm
                  have h35 : vs 35 = .pointer (some ⟨b, off + k * 3 + 1, none⟩) := meets_get hm 3 rfl rfl rfl rfl
                  clear hm
                  have hc1 := (hB.cell hbc).trans c1
                  simp only [fill, h35]
                  go_wp2
                  exact ⟨_, rfl, rfl, Below.refl _ _, trivial⟩
                · intro vs wq hB hm
                  have h36 : vs 36 = .bool true := meets_get hm 4 rfl rfl rfl rfl
                  clear hm
                  simp only [fill, h36]
                  go_wp2
                  exact ⟨_, rfl, rfl, Below.refl _ _, trivial⟩
                · intro vs wq hB hm
                  have h37 : vs 37 = .bool true := meets_get hm 5 rfl rfl rfl rfl
                  clear hm
                  simp only [fill, h37]
                  go_wp2
                  exact ⟨_, rfl, rfl, Below.refl _ _, trivial⟩
                · intro vs wq hB hm
                  have hl : look wq (w.heap.size + 1) = some (.cells (#[.int .i64 Fo, .bool true, .int .u64 (po : Int)]) 25 (0, 0)) := by rw [look_below hB (by first | omega | (simp only [World.size_alloc]; omega) | exact look_lt (by assumption) | (simp only [World.size_alloc, World.size_setCell]; omega) | (simp; omega))]; first | assumption | go_simp
                  have hc : World.cell? wq ⟨w.heap.size + 1, 1, none⟩ = some (.bool true) := by rw [look_cell hl]; rfl
                  have h38 : vs 38 = .pointer (some ⟨w.heap.size + 1, 1, none⟩) := meets_get hm 6 rfl rfl rfl rfl
                  have h37 : vs 37 = .bool true := meets_get hm 5 rfl rfl rfl rfl
                  clear hm
                  simp only [fill, h38, h37]
                  go_wp2
                  exact ⟨_, rfl, rfl, Below.refl _ _, trivial⟩
                · intro vs wq hB hm
                  have h39 : vs 39 = .bool true := meets_get hm 7 rfl rfl rfl rfl
                  have h37 : vs 37 = .bool true := meets_get hm 5 rfl rfl rfl rfl
                  clear hm
                  simp only [fill, h39, h37]
                  go_wp2
                  exact ⟨_, rfl, rfl, Below.refl _ _, trivial⟩
                · intro vs wq hB hm
                  have h40 : vs 40 = .bool false := meets_get hm 8 rfl rfl rfl rfl
                  have h37 : vs 37 = .bool true := meets_get hm 5 rfl rfl rfl rfl
                  clear hm
                  simp only [fill, h40, h37]
                  go_wp2
                  exact ⟨_, rfl, rfl, Below.refl _ _, trivial⟩
                · intro vs wq hB hm
                  have h41 : vs 41 = .bool false := meets_get hm 9 rfl rfl rfl rfl
                  clear hm
                  simp only [fill, h41]
                  go_wp2
                  exact ⟨_, rfl, rfl, Below.refl _ _, trivial⟩
                · intro vs wq hB hm
                  have h41 : vs 41 = .bool false := meets_get hm 9 rfl rfl rfl rfl
                  clear hm
                  simp only [fill, h41]
                  go_wp2
                  exact ⟨_, rfl, rfl, Below.refl _ _, trivial⟩
                · intro vs wq hB hm
                  have h42 : vs 42 = .slice (some ⟨b, off, none⟩) n cap := meets_get hm 10 rfl rfl rfl rfl
                  have h43 : vs 43 = .int .i64 (k : Int) := meets_get hm 11 rfl rfl rfl rfl
                  have h41 : vs 41 = .bool false := meets_get hm 9 rfl rfl rfl rfl
                  clear hm
                  simp only [fill, h42, h43, h41]
                  go_wp2
                  exact ⟨_, rfl, rfl, Below.refl _ _, trivial⟩
                · intro vs wq hB hm
                  have h44 : vs 44 = .pointer (some ⟨b, off + k * 3, none⟩) := meets_get hm 12 rfl rfl rfl rfl
                  have h41 : vs 41 = .bool false := meets_get hm 9 rfl rfl rfl rfl
                  clear hm
                  simp only [fill, h44, h41]
                  go_wp2
                  exact ⟨_, rfl, rfl, Below.refl _ _, trivial⟩
                · intro vs wq hB hm
                  have h45 : vs 45 = .pointer (some ⟨b, off + k * 3 + 2, none⟩) := meets_get hm 13 rfl rfl rfl rfl
                  have h41 : vs 41 = .bool false := meets_get hm 9 rfl rfl rfl rfl
                  clear hm
                  have hc1 := (hB.cell hbc).trans c2
                  simp only [fill, h45, h41]
                  go_wp2
                  exact ⟨_, rfl, rfl, Below.refl _ _, trivial⟩
                · intro vs wq hB hm
                  have h46 : vs 46 = .int .u64 (p : Int) := meets_get hm 14 rfl rfl rfl rfl
                  have h41 : vs 41 = .bool false := meets_get hm 9 rfl rfl rfl rfl
                  clear hm
                  simp only [fill, h46, h41]
                  go_wp2_with fail
                  refine (mkey_any p hp _).mono ?_
                  rintro e w1 ⟨rfl, hb1⟩
                  go_wp2
                  exact ⟨_, rfl, rfl, hb1, trivial⟩
                · intro vs wq hB hm
                  have h41 : vs 41 = .bool false := meets_get hm 9 rfl rfl rfl rfl
                  clear hm
                  simp only [fill, h41]
                  go_wp2
                  exact ⟨_, rfl, rfl, Below.refl _ _, trivial⟩
                · intro vs wq hB hm
                  have hl : look wq (w.heap.size + 1) = some (.cells (#[.int .i64 Fo, .bool true, .int .u64 (po : Int)]) 25 (0, 0)) := by rw [look_below hB (by first | omega | (simp only [World.size_alloc]; omega) | exact look_lt (by assumption) | (simp only [World.size_alloc, World.size_setCell]; omega) | (simp; omega))]; first | assumption | go_simp
                  have hc : World.cell? wq ⟨w.heap.size + 1, 2, none⟩ = some (.int .u64 (po : Int)) := by rw [look_cell hl]; rfl
                  have h48 : vs 48 = .pointer (some ⟨w.heap.size + 1, 2, none⟩) := meets_get hm 16 rfl rfl rfl rfl
                  have h41 : vs 41 = .bool false := meets_get hm 9 rfl rfl rfl rfl
                  clear hm
                  simp only [fill, h48, h41]
                  go_wp2
                  exact ⟨_, rfl, rfl, Below.refl _ _, trivial⟩
                · intro vs wq hB hm
                  have h49 : vs 49 = .int .u64 (po : Int) := meets_get hm 17 rfl rfl rfl rfl
                  have h41 : vs 41 = .bool false := meets_get hm 9 rfl rfl rfl rfl
                  clear hm
                  simp only [fill, h49, h41]
                  go_wp2_with fail
                  refine (mkey_any po hg _).mono ?_
                  rintro e w1 ⟨rfl, hb1⟩
                  go_wp2
                  exact ⟨_, rfl, rfl, hb1, trivial⟩
                · intro vs wq hB hm
                  have h47 : vs 47 = .int .u64 ((keyF p : Nat) : Int) := meets_get hm 15 rfl rfl rfl rfl
                  have h50 : vs 50 = .int .u64 ((keyF po : Nat) : Int) := meets_get hm 18 rfl rfl rfl rfl
                  have h41 : vs 41 = .bool false := meets_get hm 9 rfl rfl rfl rfl
                  clear hm
                  simp only [fill, h47, h50, h41]
                  go_wp2
                  exact ⟨_, rfl, rfl, Below.refl _ _, trivial⟩
                · intro vs wq hB hm
                  have h41 : vs 41 = .bool false := meets_get hm 9 rfl rfl rfl rfl
                  have h51 : vs 51 = .bool true := meets_get hm 19 rfl rfl rfl rfl
                  have h37 : vs 37 = .bool true := meets_get hm 5 rfl rfl rfl rfl
                  clear hm
                  simp only [fill, h41, h51, h37]
                  go_wp2
                  exact ⟨_, rfl, rfl, Below.refl _ _, trivial⟩
                · intro vs wq hB hm
                  have h37 : vs 37 = .bool true := meets_get hm 5 rfl rfl rfl rfl
                  have h52 : vs 52 = .bool true := meets_get hm 20 rfl rfl rfl rfl
                  clear hm
                  simp only [fill, h37, h52]
                  go_wp2
                  exact ⟨_, rfl, rfl, Below.refl _ _, trivial⟩
                intro vs wq hB hm hne hlo
                have h32 : vs 32 = .slice (some ⟨b, off, none⟩) n cap := hm 0 _ _ _ rfl rfl rfl
                have h33 : vs 33 = .int .i64 (k : Int) := hm 1 _ _ _ rfl rfl rfl
                have h34 : vs 34 = .pointer (some ⟨b, off + k * 3, none⟩) := hm 2 _ _ _ rfl rfl rfl
                have h35 : vs 35 = .pointer (some ⟨b, off + k * 3 + 1, none⟩) := hm 3 _ _ _ rfl rfl rfl
                have h36 : vs 36 = .bool true := hm 4 _ _ _ rfl rfl rfl
                have h37 : vs 37 = .bool true := hm 5 _ _ _ rfl rfl rfl
                have h38 : vs 38 = .pointer (some ⟨w.heap.size + 1, 1, none⟩) := hm 6 _ _ _ rfl rfl rfl
                have h39 : vs 39 = .bool true := hm 7 _ _ _ rfl rfl rfl
                have h40 : vs 40 = .bool false := hm 8 _ _ _ rfl rfl rfl
                have h41 : vs 41 = .bool false := hm 9 _ _ _ rfl rfl rfl
                have h42 : vs 42 = .slice (some ⟨b, off, none⟩) n cap := hm 10 _ _ _ rfl rfl rfl
                have h43 : vs 43 = .int .i64 (k : Int) := hm 11 _ _ _ rfl rfl rfl
                have h44 : vs 44 = .pointer (some ⟨b, off + k * 3, none⟩) := hm 12 _ _ _ rfl rfl rfl
                have h45 : vs 45 = .pointer (some ⟨b, off + k * 3 + 2, none⟩) := hm 13 _ _ _ rfl rfl rfl
                have h46 : vs 46 = .int .u64 (p : Int) := hm 14 _ _ _ rfl rfl rfl
                have h47 : vs 47 = .int .u64 ((keyF p : Nat) : Int) := hm 15 _ _ _ rfl rfl rfl
                have h48 : vs 48 = .pointer (some ⟨w.heap.size + 1, 2, none⟩) := hm 16 _ _ _ rfl rfl rfl
                have h49 : vs 49 = .int .u64 (po : Int) := hm 17 _ _ _ rfl rfl rfl
                have h50 : vs 50 = .int .u64 ((keyF po : Nat) : Int) := hm 18 _ _ _ rfl rfl rfl
                have h51 : vs 51 = .bool true := hm 19 _ _ _ rfl rfl rfl
                have h52 : vs 52 = .bool true := hm 20 _ _ _ rfl rfl rfl
                have h53 : vs 53 = .bool true := hm 21 _ _ _ rfl rfl rfl
                clear hne hlo
                simp only [fill, List.filterMap, List.take, List.drop, List.setIfInBounds_toArray, List.set_cons_zero, List.set_cons_succ, h32, h33, h34, h35, h36, h37, h38, h39, h40, h41, h42, h43, h44, h45, h46, h47, h48, h49, h50, h51, h52, h53]
                clear hm h32 h33 h34 h35 h36 h37 h38 h39 h40 h41 h42 h43 h44 h45 h46 h47 h48 h49 h50 h51 h52 h53
                replace l0 : look wq (w.heap.size) = some (.cells (#[.int .i64 0, .bool false, .int .u64 0]) 25 (0, 0)) := by rw [look_below hB (by first | omega | (simp only [World.size_alloc]; omega) | exact look_lt (by assumption) | (simp only [World.size_alloc, World.size_setCell]; omega) | (simp; omega))]; first | assumption | go_simp
                replace c00 : World.cell? wq ⟨w.heap.size, 0, none⟩ = some (.int .i64 0) := by rw [look_cell l0]; rfl
                replace c01 : World.cell? wq ⟨w.heap.size, 1, none⟩ = some (.bool false) := by rw [look_cell l0]; rfl
                replace c02 : World.cell? wq ⟨w.heap.size, 2, none⟩ = some (.int .u64 0) := by rw [look_cell l0]; rfl
                replace f0 := look_frozen l0
                replace s0 := look_lt l0
                replace l1 : look wq (w.heap.size + 1) = some (.cells (#[.int .i64 Fo, .bool true, .int .u64 (po : Int)]) 25 (0, 0)) := by rw [look_below hB (by first | omega | (simp only [World.size_alloc]; omega) | exact look_lt (by assumption) | (simp only [World.size_alloc, World.size_setCell]; omega) | (simp; omega))]; first | assumption | go_simp
                replace c10 : World.cell? wq ⟨w.heap.size + 1, 0, none⟩ = some (.int .i64 Fo) := by rw [look_cell l1]; rfl
                replace c11 : World.cell? wq ⟨w.heap.size + 1, 1, none⟩ = some (.bool true) := by rw [look_cell l1]; rfl
                replace c12 : World.cell? wq ⟨w.heap.size + 1, 2, none⟩ = some (.int .u64 (po : Int)) := by rw [look_cell l1]; rfl
                replace f1 := look_frozen l1
                replace s1 := look_lt l1
                replace c0 := (hB.cell hbc).trans c0
                replace c1 := (hB.cell hbc).trans c1
                replace c2 := (hB.cell hbc).trans c2
                have hBe := belT hB3 hB
                go_wp2_with fail
                go_region
                go_wp2
                go_roundw
                case rel => exact ⟨k + 1, by omega, by go_num, by repeat (first | exact hBe | apply belD | refine belS ?_ (by simp) _), by go_simp, by rw [E.out.1, E.out.2.1, E.out.2.2, show priceJ true po true p = joinF po p from rfl, hboth.out, if_pos hK2.out]; go_simp⟩
                case measure => simp [intOf]; omega
              · have hK' : decide ((keyF po : Int) < (keyF p : Int)) = false := by exact decide_eq_false (by omega)
                have hK3 : decide (keyF po < keyF p) = false := by first | exact decide_eq_true hK | exact decide_eq_false hK
                have hK2 := hidP hK
                clear hK
                refine wp_region_words mixed 22 ([] :: [] :: [32, 33] :: [34] :: [35] :: [36] :: [37] :: [38, 37] :: [39, 37] :: [40, 37] :: [41] :: [41] :: [42, 43, 41] :: [44, 41] :: [45, 41] :: [46, 41] :: [41] :: [48, 41] :: [49, 41] :: [47, 50, 41] :: [41, 51, 37] :: [37, 52] :: []) (isV (.slice (some ⟨b, off, none⟩) n cap) :: isV (.int .i64 (k : Int)) :: isV (.pointer (some ⟨b, off + k * 3, none⟩)) :: isV (.pointer (some ⟨b, off + k * 3 + 1, none⟩)) :: isV (.bool true) :: isV (.bool true) :: isV (.pointer (some ⟨w.heap.size + 1, 1, none⟩)) :: isV (.bool true) :: isV (.bool false) :: isV (.bool false) :: isV (.slice (some ⟨b, off, none⟩) n cap) :: isV (.int .i64 (k : Int)) :: isV (.pointer (some ⟨b, off + k * 3, none⟩)) :: isV (.pointer (some ⟨b, off + k * 3 + 2, none⟩)) :: isV (.int .u64 (p : Int)) :: isV (.int .u64 ((keyF p : Nat) : Int)) :: isV (.pointer (some ⟨w.heap.size + 1, 2, none⟩)) :: isV (.int .u64 (po : Int)) :: isV (.int .u64 ((keyF po : Nat) : Int)) :: isV (.bool false) :: isV (.bool false) :: isV (.bool false) :: []) (by decide) (by kernel_rfl)
                  ⟨stab_isV _, stab_isV _, stab_isV _, stab_isV _, stab_isV _, stab_isV _, stab_isV _, stab_isV _, stab_isV _, stab_isV _, stab_isV _, stab_isV _, stab_isV _, stab_isV _, stab_isV _, stab_isV _, stab_isV _, stab_isV _, stab_isV _, stab_isV _, stab_isV _, stab_isV _, trivial⟩ ⟨?_, ?_, ?_, ?_, ?_, ?_, ?_, ?_, ?_, ?_, ?_, ?_, ?_, ?_, ?_, ?_, ?_, ?_, ?_, ?_, ?_, ?_, trivial⟩ ?_
                · intro vs wq hB hm
                  clear hm
                  simp only [fill]
                  go_wp2
                  exact ⟨_, rfl, rfl, Below.refl _ _, trivial⟩
                · intro vs wq hB hm
                  clear hm
                  simp only [fill]
                  go_wp2
                  exact ⟨_, rfl, rfl, Below.refl _ _, trivial⟩
                · intro vs wq hB hm
                  have h32 : vs 32 = .slice (some ⟨b, off, none⟩) n cap := meets_get hm 0 rfl rfl rfl rfl
                  have h33 : vs 33 = .int .i64 (k : Int) := meets_get hm 1 rfl rfl rfl rfl
                  clear hm
                  simp only [fill, h32, h33]
                  go_wp2
                  exact ⟨_, rfl, rfl, Below.refl _ _, trivial⟩
                · intro vs wq hB hm
                  have h34 : vs 34 = .pointer (some ⟨b, off + k * 3, none⟩) := meets_get hm 2 rfl rfl rfl rfl
                  clear hm
                  simp only [fill, h34]
                  go_wp2
                  exact ⟨_, rfl, rfl, Below.refl _ _, trivial⟩
                · intro vs wq hB hm
                  have h35 : vs 35 = .pointer (some ⟨b, off + k * 3 + 1, none⟩) := meets_get hm 3 rfl rfl rfl rfl
                  clear hm
                  have hc1 := (hB.cell hbc).trans c1
                  simp only [fill, h35]
                  go_wp2
                  exact ⟨_, rfl, rfl, Below.refl _ _, trivial⟩
                · intro vs wq hB hm
                  have h36 : vs 36 = .bool true := meets_get hm 4 rfl rfl rfl rfl
                  clear hm
                  simp only [fill, h36]
                  go_wp2
                  exact ⟨_, rfl, rfl, Below.refl _ _, trivial⟩
                · intro vs wq hB hm
                  have h37 : vs 37 = .bool true := meets_get hm 5 rfl rfl rfl rfl
                  clear hm
                  simp only [fill, h37]
                  go_wp2
                  exact ⟨_, rfl, rfl, Below.refl _ _, trivial⟩
                · intro vs wq hB hm
                  have hl : look wq (w.heap.size + 1) = some (.cells (#[.int .i64 Fo, .bool true, .int .u64 (po : Int)]) 25 (0, 0)) := by rw [look_below hB (by first | omega | (simp only [World.size_alloc]; omega) | exact look_lt (by assumption) | (simp only [World.size_alloc, World.size_setCell]; omega) | (simp; omega))]; first | assumption | go_simp
                  have hc : World.cell? wq ⟨w.heap.size + 1, 1, none⟩ = some (.bool true) := by rw [look_cell hl]; rfl
                  have h38 : vs 38 = .pointer (some ⟨w.heap.size + 1, 1, none⟩) := meets_get hm 6 rfl rfl rfl rfl
                  have h37 : vs 37 = .bool true := meets_get hm 5 rfl rfl rfl rfl
                  clear hm
                  simp only [fill, h38, h37]
                  go_wp2
                  exact ⟨_, rfl, rfl, Below.refl _ _, trivial⟩
                · intro vs wq hB hm
                  have h39 : vs 39 = .bool true := meets_get hm 7 rfl rfl rfl rfl
                  have h37 : vs 37 = .bool true := meets_get hm 5 rfl rfl rfl rfl
                  clear hm
                  simp only [fill, h39, h37]
                  go_wp2
                  exact ⟨_, rfl, rfl, Below.refl _ _, trivial⟩
                · intro vs wq hB hm
                  have h40 : vs 40 = .bool false := meets_get hm 8 rfl rfl rfl rfl
                  have h37 : vs 37 = .bool true := meets_get hm 5 rfl rfl rfl rfl
                  clear hm
                  simp only [fill, h40, h37]
                  go_wp2
                  exact ⟨_, rfl, rfl, Below.refl _ _, trivial⟩
                · intro vs wq hB hm
                  have h41 : vs 41 = .bool false := meets_get hm 9 rfl rfl rfl rfl
                  clear hm
                  simp only [fill, h41]
                  go_wp2
                  exact ⟨_, rfl, rfl, Below.refl _ _, trivial⟩
                · intro vs wq hB hm
                  have h41 : vs 41 = .bool false := meets_get hm 9 rfl rfl rfl rfl
                  clear hm
                  simp only [fill, h41]
                  go_wp2
                  exact ⟨_, rfl, rfl, Below.refl _ _, trivial⟩
                · intro vs wq hB hm
                  have h42 : vs 42 = .slice (some ⟨b, off, none⟩) n cap := meets_get hm 10 rfl rfl rfl rfl
                  have h43 : vs 43 = .int .i64 (k : Int) := meets_get hm 11 rfl rfl rfl rfl
                  have h41 : vs 41 = .bool false := meets_get hm 9 rfl rfl rfl rfl
                  clear hm
                  simp only [fill, h42, h43, h41]
                  go_wp2
                  exact ⟨_, rfl, rfl, Below.refl _ _, trivial⟩
                · intro vs wq hB hm
                  have h44 : vs 44 = .pointer (some ⟨b, off + k * 3, none⟩) := meets_get hm 12 rfl rfl rfl rfl
                  have h41 : vs 41 = .bool false := meets_get hm 9 rfl rfl rfl rfl
                  clear hm
                  simp only [fill, h44, h41]
                  go_wp2
                  exact ⟨_, rfl, rfl, Below.refl _ _, trivial⟩
                · intro vs wq hB hm
                  have h45 : vs 45 = .pointer (some ⟨b, off + k * 3 + 2, none⟩) := meets_get hm 13 rfl rfl rfl rfl
                  have h41 : vs 41 = .bool false := meets_get hm 9 rfl rfl rfl rfl
                  clear hm
                  have hc1 := (hB.cell hbc).trans c2
                  simp only [fill, h45, h41]
                  go_wp2
                  exact ⟨_, rfl, rfl, Below.refl _ _, trivial⟩
                · intro vs wq hB hm
                  have h46 : vs 46 = .int .u64 (p : Int) := meets_get hm 14 rfl rfl rfl rfl
                  have h41 : vs 41 = .bool false := meets_get hm 9 rfl rfl rfl rfl
                  clear hm
                  simp only [fill, h46, h41]
                  go_wp2_with fail
                  refine (mkey_any p hp _).mono ?_
                  rintro e w1 ⟨rfl, hb1⟩
                  go_wp2
                  exact ⟨_, rfl, rfl, hb1, trivial⟩
                · intro vs wq hB hm
                  have h41 : vs 41 = .bool false := meets_get hm 9 rfl rfl rfl rfl
                  clear hm
                  simp only [fill, h41]
                  go_wp2
                  exact ⟨_, rfl, rfl, Below.refl _ _, trivial⟩
                · intro vs wq hB hm
                  have hl : look wq (w.heap.size + 1) = some (.cells (#[.int .i64 Fo, .bool true, .int .u64 (po : Int)]) 25 (0, 0)) := by rw [look_below hB (by first | omega | (simp only [World.size_alloc]; omega) | exact look_lt (by assumption) | (simp only [World.size_alloc, World.size_setCell]; omega) | (simp; omega))]; first | assumption | go_simp
                  have hc : World.cell? wq ⟨w.heap.size + 1, 2, none⟩ = some (.int .u64 (po : Int)) := by rw [look_cell hl]; rfl
                  have h48 : vs 48 = .pointer (some ⟨w.heap.size + 1, 2, none⟩) := meets_get hm 16 rfl rfl rfl rfl
                  have h41 : vs 41 = .bool false := meets_get hm 9 rfl rfl rfl rfl
                  clear hm
                  simp only [fill, h48, h41]
                  go_wp2
                  exact ⟨_, rfl, rfl, Below.refl _ _, trivial⟩
                · intro vs wq hB hm
                  have h49 : vs 49 = .int .u64 (po : Int) := meets_get hm 17 rfl rfl rfl rfl
                  have h41 : vs 41 = .bool false := meets_get hm 9 rfl rfl rfl rfl
                  clear hm
                  simp only [fill, h49, h41]
                  go_wp2_with fail
                  refine (mkey_any po hg _).mono ?_
                  rintro e w1 ⟨rfl, hb1⟩
                  go_wp2
                  exact ⟨_, rfl, rfl, hb1, trivial⟩
                · intro vs wq hB hm
                  have h47 : vs 47 = .int .u64 ((keyF p : Nat) : Int) := meets_get hm 15 rfl rfl rfl rfl
                  have h50 : vs 50 = .int .u64 ((keyF po : Nat) : Int) := meets_get hm 18 rfl rfl rfl rfl
                  have h41 : vs 41 = .bool false := meets_get hm 9 rfl rfl rfl rfl
                  clear hm
                  simp only [fill, h47, h50, h41]
                  go_wp2
                  exact ⟨_, rfl, rfl, Below.refl _ _, trivial⟩
                · intro vs wq hB hm
                  have h41 : vs 41 = .bool false := meets_get hm 9 rfl rfl rfl rfl
                  have h51 : vs 51 = .bool false := meets_get hm 19 rfl rfl rfl rfl
                  have h37 : vs 37 = .bool true := meets_get hm 5 rfl rfl rfl rfl
                  clear hm
                  simp only [fill, h41, h51, h37]
                  go_wp2
                  exact ⟨_, rfl, rfl, Below.refl _ _, trivial⟩
                · intro vs wq hB hm
                  have h37 : vs 37 = .bool true := meets_get hm 5 rfl rfl rfl rfl
                  have h52 : vs 52 = .bool false := meets_get hm 20 rfl rfl rfl rfl
                  clear hm
                  simp only [fill, h37, h52]
                  go_wp2
                  exact ⟨_, rfl, rfl, Below.refl _ _, trivial⟩
                intro vs wq hB hm hne hlo
                have h32 : vs 32 = .slice (some ⟨b, off, none⟩) n cap := hm 0 _ _ _ rfl rfl rfl
                have h33 : vs 33 = .int .i64 (k : Int) := hm 1 _ _ _ rfl rfl rfl
                have h34 : vs 34 = .pointer (some ⟨b, off + k * 3, none⟩) := hm 2 _ _ _ rfl rfl rfl
                have h35 : vs 35 = .pointer (some ⟨b, off + k * 3 + 1, none⟩) := hm 3 _ _ _ rfl rfl rfl
                have h36 : vs 36 = .bool true := hm 4 _ _ _ rfl rfl rfl
                have h37 : vs 37 = .bool true := hm 5 _ _ _ rfl rfl rfl
                have h38 : vs 38 = .pointer (some ⟨w.heap.size + 1, 1, none⟩) := hm 6 _ _ _ rfl rfl rfl
                have h39 : vs 39 = .bool true := hm 7 _ _ _ rfl rfl rfl
                have h40 : vs 40 = .bool false := hm 8 _ _ _ rfl rfl rfl
                have h41 : vs 41 = .bool false := hm 9 _ _ _ rfl rfl rfl
                have h42 : vs 42 = .slice (some ⟨b, off, none⟩) n cap := hm 10 _ _ _ rfl rfl rfl
                have h43 : vs 43 = .int .i64 (k : Int) := hm 11 _ _ _ rfl rfl rfl
                have h44 : vs 44 = .pointer (some ⟨b, off + k * 3, none⟩) := hm 12 _ _ _ rfl rfl rfl
                have h45 : vs 45 = .pointer (some ⟨b, off + k * 3 + 2, none⟩) := hm 13 _ _ _ rfl rfl rfl
                have h46 : vs 46 = .int .u64 (p : Int) := hm 14 _ _ _ rfl rfl rfl
                have h47 : vs 47 = .int .u64 ((keyF p : Nat) : Int) := hm 15 _ _ _ rfl rfl rfl
                have h48 : vs 48 = .pointer (some ⟨w.heap.size + 1, 2, none⟩) := hm 16 _ _ _ rfl rfl rfl
                have h49 : vs 49 = .int .u64 (po : Int) := hm 17 _ _ _ rfl rfl rfl
                have h50 : vs 50 = .int .u64 ((keyF po : Nat) : Int) := hm 18 _ _ _ rfl rfl rfl
                have h51 : vs 51 = .bool false := hm 19 _ _ _ rfl rfl rfl
                have h52 : vs 52 = .bool false := hm 20 _ _ _ rfl rfl rfl
                have h53 : vs 53 = .bool false := hm 21 _ _ _ rfl rfl rfl
                clear hne hlo
                simp only [fill, List.filterMap, List.take, List.drop, List.setIfInBounds_toArray, List.set_cons_zero, List.set_cons_succ, h32, h33, h34, h35, h36, h37, h38, h39, h40, h41, h42, h43, h44, h45, h46, h47, h48, h49, h50, h51, h52, h53]
                clear hm h32 h33 h34 h35 h36 h37 h38 h39 h40 h41 h42 h43 h44 h45 h46 h47 h48 h49 h50 h51 h52 h53
                replace l0 : look wq (w.heap.size) = some (.cells (#[.int .i64 0, .bool false, .int .u64 0]) 25 (0, 0)) := by rw [look_below hB (by first | omega | (simp only [World.size_alloc]; omega) | exact look_lt (by assumption) | (simp only [World.size_alloc, World.size_setCell]; omega) | (simp; omega))]; first | assumption | go_simp
                replace c00 : World.cell? wq ⟨w.heap.size, 0, none⟩ = some (.int .i64 0) := by rw [look_cell l0]; rfl
                replace c01 : World.cell? wq ⟨w.heap.size, 1, none⟩ = some (.bool false) := by rw [look_cell l0]; rfl
                replace c02 : World.cell? wq ⟨w.heap.size, 2, none⟩ = some (.int .u64 0) := by rw [look_cell l0]; rfl
                replace f0 := look_frozen l0
                replace s0 := look_lt l0
                replace l1 : look wq (w.heap.size + 1) = some (.cells (#[.int .i64 Fo, .bool true, .int .u64 (po : Int)]) 25 (0, 0)) := by rw [look_below hB (by first | omega | (simp only [World.size_alloc]; omega) | exact look_lt (by assumption) | (simp only [World.size_alloc, World.size_setCell]; omega) | (simp; omega))]; first | assumption | go_simp
                replace c10 : World.cell? wq ⟨w.heap.size + 1, 0, none⟩ = some (.int .i64 Fo) := by rw [look_cell l1]; rfl
                replace c11 : World.cell? wq ⟨w.heap.size + 1, 1, none⟩ = some (.bool true) := by rw [look_cell l1]; rfl
                replace c12 : World.cell? wq ⟨w.heap.size + 1, 2, none⟩ = some (.int .u64 (po : Int)) := by rw [look_cell l1]; rfl
                replace f1 := look_frozen l1
                replace s1 := look_lt l1
                replace c0 := (hB.cell hbc).trans c0
                replace c1 := (hB.cell hbc).trans c1
                replace c2 := (hB.cell hbc).trans c2
                have hBe := belT hB3 hB
                go_wp2
                go_roundw
                case rel => exact ⟨k + 1, by omega, by go_num, hBe, by first | exact l0 | go_simp, by rw [E.out.1, E.out.2.1, E.out.2.2]; rw [show priceJ true po true p = joinF po p from rfl, hboth.out, if_neg hK2.out]; exact l1⟩
                case measure => simp [intOf]; omega
    · obtain rfl : k = n := by omega
      go_wp2
      exact ret_rk (g := w.heap.size) (t := 25) (fr := (0, 0)) Try.results16 rfl (by go_simp) rfl rfl ⟨rfl, belR hBr (Nat.le_refl _) _⟩

end Go.Proofs.Ytniphfkipjpikaa
