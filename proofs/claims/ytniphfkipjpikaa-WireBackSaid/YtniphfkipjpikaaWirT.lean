/- Parts: written, by a writer or by none. -/
import Derived.Test.YtniphfkipjpikaaWirS
namespace Go.Proofs.Ytniphfkipjpikaa
open Go.RowKit

/-- A part's bytes. -/
def ptB (p : Pt) : List Nat :=
  if p.kind = 0 ∨ p.kind = 5 then numB p.n else if p.kind = 1 then intB p.i else if p.kind = 2 then numB p.bs.length ++ p.bs else if p.kind = 3 then fltB p.n else if p.kind = 4 then vecB p.v else []
/-- Its numbers are such as their types hold; its text lies in the world. -/
structure PtOk (w : World) (p : Pt) : Prop where
  i : -9223372036854775808 ≤ p.i ∧ p.i ≤ 9223372036854775807
  n : p.n < 18446744073709551616
  v : ∀ k, p.v k < 4294967296
  sl : SliceAt w p.sl p.bs.length 1 (bC p.bs)
theorem vecB_len3 (f : Nat → Nat) : (vecB f).length ≤ 130 := by
  have h1 := (numB_len (trimN f 12)).2
  have h2 := vbs_len f (trimN f 12)
  have h3 := trimN_le f 12
  unfold vecB
  rw [List.length_append]
  omega

theorem wrote_look {w u : World} {p : Nat} {g : Option Nat} {bs : List Nat} (h : Wrote w u p g bs) {k : Nat} {o : Obj} (hl : look w k = some o) (hp : k ≠ p) (hg : some k ≠ g) : look u k = some o := by
  obtain ⟨_, _, _, hk⟩ := h
  exact keeps_look hk hl hp hg
theorem wrote_drew {w : World} {p : Nat} {g : Option Nat} {bs : List Nat} (h : WrV w p g bs) : Wrote w w.drew p g bs :=
  ⟨g, wr_keeps h (belD (bel0 w)), .inl rfl, below_keeps (belD (bel0 w))⟩
/-- A text that lies apart from a writer. -/
theorem src_at {w u : World} {p : Nat} {g gq : Option Nat} {v : Value} {ts : List Nat} (hs : SliceAt w v ts.length 1 (bC ts)) (hk : KeepsG p g w u) (hn : newOr w g gq) (hB : ∀ b off n c, v = .slice (some ⟨b, off, none⟩) n c → 0 < ts.length → b ≠ p ∧ some b ≠ g) :
    (v = .slice none 0 0 ∧ ts.length = 0) ∨ ∃ ad c, v = .slice (some ad) ts.length c ∧ (0 < ts.length → ad.block < u.heap.size ∧ ad.block ≠ p ∧ some ad.block ≠ gq) ∧ ∀ j y, (bcells ts)[j]? = some y → u.cell? (ad.add j) = some y := by
  have h1 := slice_news hs
  obtain ⟨ad, cap, rfl, h2, h3, h4⟩ := hs
  rcases h1 with h1 | ⟨a, c, e, hc⟩
  · exact .inl h1
  · cases e
    refine .inr ⟨a, cap, rfl, fun hp => ?_, fun j y hy => ?_⟩
    · rcases h4 with h4 | ⟨b, off, e, hb, _⟩
      · omega
      · cases e
        obtain ⟨k1, k2⟩ := hB b off _ _ rfl hp
        refine ⟨Nat.lt_of_lt_of_le hb hk.size, k1, ?_⟩
        rcases hn with rfl | ⟨q, rfl, hq⟩
        · exact k2
        · intro e
          cases e
          exact absurd hq (by simpa using hb)
    · have hj := (List.getElem?_eq_some_iff.1 hy).1
      rw [bcells_len] at hj
      rcases h4 with h4 | ⟨b, off, e, hb, _⟩
      · omega
      · cases e
        obtain ⟨k1, k2⟩ := hB b off _ _ rfl (by omega)
        rw [← hc j y hy]
        exact World.cell?_of_block (by rw [add_block]; exact hk.block _ hb k1 k2)

/-- What lies apart from a writer stays. -/
theorem src_apart {w u : World} {p : Nat} {g : Option Nat} {v : Value} {ts : List Nat} (hs : SliceAt w v ts.length 1 (bC ts)) (hk : KeepsG p g w u) (hB : ∀ b off n c, v = .slice (some ⟨b, off, none⟩) n c → 0 < ts.length → b ≠ p ∧ some b ≠ g) : SliceAt u v ts.length 1 (bC ts) := by
  obtain ⟨ad, cap, rfl, h2, h3, h4⟩ := hs
  refine ⟨ad, cap, rfl, h2, h3, ?_⟩
  rcases h4 with h4 | ⟨b, off, rfl, hb, hR⟩
  · exact .inl h4
  · by_cases h0 : ts.length = 0
    · exact .inl h0
    · obtain ⟨k1, k2⟩ := hB b off _ _ rfl (by omega)
      refine .inr ⟨b, off, rfl, Nat.lt_of_lt_of_le hb hk.size, fun k hk2 j y hy => ?_⟩
      rw [← hR k hk2 j y hy]
      exact World.cell?_of_block (hk.block _ hb k1 k2)

set_option maxRecDepth 100000 in
set_option maxHeartbeats 6400000 in
theorem put_nil (pt : Pt) (w : World) (hok : PtOk w pt) (hlen : pt.bs.length ≤ 1000000) :
    Calls Try.prog 35 #[.pointer none, .agg (PTA pt)] w fun e w' => (∃ u, e = .returned (.tuple #[.pointer none, u])) ∧ Below w.heap.size w w' := by
  have hb0 := belA (bel0 w) (.cells (PTA pt) 67)
  have hlx : look (w.alloc (.cells (PTA pt) 67)) w.heap.size = some (.cells (PTA pt) 67 (0, 0)) := look_alloc_at _ _ _ rfl
  have c0 : World.cell? (w.alloc (.cells (PTA pt) 67)) ⟨w.heap.size, 0, none⟩ = some (.int .i64 pt.kind) := by rw [look_cell hlx]; exact PTA_get0 _
  have c3 : World.cell? (w.alloc (.cells (PTA pt) 67)) ⟨w.heap.size, 3, none⟩ = some (.int .u64 (pt.n : Int)) := by rw [look_cell hlx]; exact PTA_get3 _
  have hs0 := hok.sl.below hb0
  have hoi := hok.i
  have hon := hok.n
  have hov := hok.v
  by_cases hk0 : pt.kind = 0
  · go_enter Try.func35, Try.ntmps35
    go_wp2_with fail
    refine wp_region_wordsB wmixed 6 ([] :: [] :: [13] :: [12, 14] :: [] :: [16] :: []) (isV (.pointer none) :: isV (.pointer (some ⟨w.heap.size, 3, none⟩)) :: isV (.int .u64 (pt.n : Int)) :: isV (.pointer none) :: isV (.pointer (some ⟨w.heap.size, 3, none⟩)) :: isV (.int .u64 (pt.n : Int)) :: []) (by decide) (by kernel_rfl)
      ⟨stab_isV _, stab_isV _, stab_isV _, stab_isV _, stab_isV _, stab_isV _, trivial⟩ ⟨?_, ?_, ?_, ?_, ?_, ?_, trivial⟩ ?_
    · intro vs wq hB hm
      clear hm
      simp only [fill]
      go_wp2
      exact ⟨_, rfl, rfl, Below.refl _ _, trivial⟩
    · intro vs wq hB hm
      clear hm
      simp only [fill]
      go_wp2
      exact ⟨_, rfl, rfl, Below.refl _ _, trivial⟩
    · intro vs wq hB hm
      have hl : look wq (w.heap.size) = some (.cells (PTA pt) 67 (0, 0)) := by rw [look_below hB (by first | omega | (simp only [World.size_alloc]; omega) | exact look_lt (by assumption) | (simp only [World.size_alloc, World.size_setCell]; omega) | (simp; omega))]; first | assumption | go_simp
      have hc : World.cell? wq ⟨w.heap.size, 3, none⟩ = some (.int .u64 (pt.n : Int)) := by rw [look_cell hl]; exact PTA_get3 _
      have h13 : vs 13 = .pointer (some ⟨w.heap.size, 3, none⟩) := meets_get hm 1 rfl rfl rfl rfl
      clear hm
      simp only [fill, h13]
      go_wp2
      exact ⟨_, rfl, rfl, Below.refl _ _, trivial⟩
    · intro vs wq hB hm
      have h12 : vs 12 = .pointer none := meets_get hm 0 rfl rfl rfl rfl
      have h14 : vs 14 = .int .u64 (pt.n : Int) := meets_get hm 2 rfl rfl rfl rfl
      clear hm
      simp only [fill, h12, h14]
      go_wp2_with fail
      refine (num_nil pt.n _).mono ?_
      rintro e w1 ⟨rfl, hb1⟩
      go_wp2
      exact ⟨_, rfl, rfl, hb1, trivial⟩
    · intro vs wq hB hm
      clear hm
      simp only [fill]
      go_wp2
      exact ⟨_, rfl, rfl, Below.refl _ _, trivial⟩
    · intro vs wq hB hm
      have hl : look wq (w.heap.size) = some (.cells (PTA pt) 67 (0, 0)) := by rw [look_below hB (by first | omega | (simp only [World.size_alloc]; omega) | exact look_lt (by assumption) | (simp only [World.size_alloc, World.size_setCell]; omega) | (simp; omega))]; first | assumption | go_simp
      have hc : World.cell? wq ⟨w.heap.size, 3, none⟩ = some (.int .u64 (pt.n : Int)) := by rw [look_cell hl]; exact PTA_get3 _
      have h16 : vs 16 = .pointer (some ⟨w.heap.size, 3, none⟩) := meets_get hm 4 rfl rfl rfl rfl
      clear hm
      simp only [fill, h16]
      go_wp2
      exact ⟨_, rfl, rfl, Below.refl _ _, trivial⟩
    intro vs wq hB hm hne hlo
    have h12 : vs 12 = .pointer none := hm 0 _ _ _ rfl rfl rfl
    have h13 : vs 13 = .pointer (some ⟨w.heap.size, 3, none⟩) := hm 1 _ _ _ rfl rfl rfl
    have h14 : vs 14 = .int .u64 (pt.n : Int) := hm 2 _ _ _ rfl rfl rfl
    have h15 : vs 15 = .pointer none := hm 3 _ _ _ rfl rfl rfl
    have h16 : vs 16 = .pointer (some ⟨w.heap.size, 3, none⟩) := hm 4 _ _ _ rfl rfl rfl
    have h17 : vs 17 = .int .u64 (pt.n : Int) := hm 5 _ _ _ rfl rfl rfl
    clear hne hlo
    simp only [fill, List.filterMap, List.take, List.drop, List.setIfInBounds_toArray, List.set_cons_zero, List.set_cons_succ, h12, h13, h14, h15, h16, h17]
    clear hm h12 h13 h14 h15 h16 h17
    have hB2 := belT hb0 hB
    have hs2 := hs0.below hB
    go_wp2_with fail
    refine (refnum_any pt.n _ hon).mono ?_
    rintro _ w3 ⟨u, rfl, hu, hb3⟩
    have hB3 := belT hB2 hb3
    go_wp2
    refine bodyPost_ret (v := .tuple #[.pointer none, u]) (by simp [results, Try.results35, go_sem]) rfl ?_
    exact ⟨⟨u, rfl⟩, hB3⟩
  · by_cases hk5 : pt.kind = 5
    · go_enter Try.func35, Try.ntmps35
      go_wp2_with fail
      refine wp_region_wordsB wmixed 6 ([] :: [] :: [13] :: [12, 14] :: [] :: [16] :: []) (isV (.pointer none) :: isV (.pointer (some ⟨w.heap.size, 3, none⟩)) :: isV (.int .u64 (pt.n : Int)) :: isV (.pointer none) :: isV (.pointer (some ⟨w.heap.size, 3, none⟩)) :: isV (.int .u64 (pt.n : Int)) :: []) (by decide) (by kernel_rfl)
        ⟨stab_isV _, stab_isV _, stab_isV _, stab_isV _, stab_isV _, stab_isV _, trivial⟩ ⟨?_, ?_, ?_, ?_, ?_, ?_, trivial⟩ ?_
      · intro vs wq hB hm
        clear hm
        simp only [fill]
        go_wp2
        exact ⟨_, rfl, rfl, Below.refl _ _, trivial⟩
      · intro vs wq hB hm
        clear hm
        simp only [fill]
        go_wp2
        exact ⟨_, rfl, rfl, Below.refl _ _, trivial⟩
      · intro vs wq hB hm
        have hl : look wq (w.heap.size) = some (.cells (PTA pt) 67 (0, 0)) := by rw [look_below hB (by first | omega | (simp only [World.size_alloc]; omega) | exact look_lt (by assumption) | (simp only [World.size_alloc, World.size_setCell]; omega) | (simp; omega))]; first | assumption | go_simp
        have hc : World.cell? wq ⟨w.heap.size, 3, none⟩ = some (.int .u64 (pt.n : Int)) := by rw [look_cell hl]; exact PTA_get3 _
        have h13 : vs 13 = .pointer (some ⟨w.heap.size, 3, none⟩) := meets_get hm 1 rfl rfl rfl rfl
        clear hm
        simp only [fill, h13]
        go_wp2
        exact ⟨_, rfl, rfl, Below.refl _ _, trivial⟩
      · intro vs wq hB hm
        have h12 : vs 12 = .pointer none := meets_get hm 0 rfl rfl rfl rfl
        have h14 : vs 14 = .int .u64 (pt.n : Int) := meets_get hm 2 rfl rfl rfl rfl
        clear hm
        simp only [fill, h12, h14]
        go_wp2_with fail
        refine (num_nil pt.n _).mono ?_
        rintro e w1 ⟨rfl, hb1⟩
        go_wp2
        exact ⟨_, rfl, rfl, hb1, trivial⟩
      · intro vs wq hB hm
        clear hm
        simp only [fill]
        go_wp2
        exact ⟨_, rfl, rfl, Below.refl _ _, trivial⟩
      · intro vs wq hB hm
        have hl : look wq (w.heap.size) = some (.cells (PTA pt) 67 (0, 0)) := by rw [look_below hB (by first | omega | (simp only [World.size_alloc]; omega) | exact look_lt (by assumption) | (simp only [World.size_alloc, World.size_setCell]; omega) | (simp; omega))]; first | assumption | go_simp
        have hc : World.cell? wq ⟨w.heap.size, 3, none⟩ = some (.int .u64 (pt.n : Int)) := by rw [look_cell hl]; exact PTA_get3 _
        have h16 : vs 16 = .pointer (some ⟨w.heap.size, 3, none⟩) := meets_get hm 4 rfl rfl rfl rfl
        clear hm
        simp only [fill, h16]
        go_wp2
        exact ⟨_, rfl, rfl, Below.refl _ _, trivial⟩
      intro vs wq hB hm hne hlo
      have h12 : vs 12 = .pointer none := hm 0 _ _ _ rfl rfl rfl
      have h13 : vs 13 = .pointer (some ⟨w.heap.size, 3, none⟩) := hm 1 _ _ _ rfl rfl rfl
      have h14 : vs 14 = .int .u64 (pt.n : Int) := hm 2 _ _ _ rfl rfl rfl
      have h15 : vs 15 = .pointer none := hm 3 _ _ _ rfl rfl rfl
      have h16 : vs 16 = .pointer (some ⟨w.heap.size, 3, none⟩) := hm 4 _ _ _ rfl rfl rfl
      have h17 : vs 17 = .int .u64 (pt.n : Int) := hm 5 _ _ _ rfl rfl rfl
      clear hne hlo
      simp only [fill, List.filterMap, List.take, List.drop, List.setIfInBounds_toArray, List.set_cons_zero, List.set_cons_succ, h12, h13, h14, h15, h16, h17]
      clear hm h12 h13 h14 h15 h16 h17
      have hB2 := belT hb0 hB
      have hs2 := hs0.below hB
      go_wp2_with fail
      refine (refnum_any pt.n _ hon).mono ?_
      rintro _ w3 ⟨u, rfl, hu, hb3⟩
      have hB3 := belT hB2 hb3
      go_wp2
      refine bodyPost_ret (v := .tuple #[.pointer none, u]) (by simp [results, Try.results35, go_sem]) rfl ?_
      exact ⟨⟨u, rfl⟩, hB3⟩
    · by_cases hk1 : pt.kind = 1
      · go_enter Try.func35, Try.ntmps35
        go_wp2_with fail
        refine wp_region_wordsB wmixed 6 ([] :: [] :: [22] :: [21, 23] :: [] :: [25] :: []) (isV (.pointer none) :: isV (.pointer (some ⟨w.heap.size, 1, none⟩)) :: isV (.int .i64 pt.i) :: isV (.pointer none) :: isV (.pointer (some ⟨w.heap.size, 1, none⟩)) :: isV (.int .i64 pt.i) :: []) (by decide) (by kernel_rfl)
          ⟨stab_isV _, stab_isV _, stab_isV _, stab_isV _, stab_isV _, stab_isV _, trivial⟩ ⟨?_, ?_, ?_, ?_, ?_, ?_, trivial⟩ ?_
        · intro vs wq hB hm
          clear hm
          simp only [fill]
          go_wp2
          exact ⟨_, rfl, rfl, Below.refl _ _, trivial⟩
        · intro vs wq hB hm
          clear hm
          simp only [fill]
          go_wp2
          exact ⟨_, rfl, rfl, Below.refl _ _, trivial⟩
        · intro vs wq hB hm
          have hl : look wq (w.heap.size) = some (.cells (PTA pt) 67 (0, 0)) := by rw [look_below hB (by first | omega | (simp only [World.size_alloc]; omega) | exact look_lt (by assumption) | (simp only [World.size_alloc, World.size_setCell]; omega) | (simp; omega))]; first | assumption | go_simp
          have hc : World.cell? wq ⟨w.heap.size, 1, none⟩ = some (.int .i64 pt.i) := by rw [look_cell hl]; exact PTA_get1 _
          have h22 : vs 22 = .pointer (some ⟨w.heap.size, 1, none⟩) := meets_get hm 1 rfl rfl rfl rfl
          clear hm
          simp only [fill, h22]
          go_wp2
          exact ⟨_, rfl, rfl, Below.refl _ _, trivial⟩
        · intro vs wq hB hm
          have h21 : vs 21 = .pointer none := meets_get hm 0 rfl rfl rfl rfl
          have h23 : vs 23 = .int .i64 pt.i := meets_get hm 2 rfl rfl rfl rfl
          clear hm
          simp only [fill, h21, h23]
          go_wp2_with fail
          refine (int_nil pt.i _).mono ?_
          rintro e w1 ⟨rfl, hb1⟩
          go_wp2
          exact ⟨_, rfl, rfl, hb1, trivial⟩
        · intro vs wq hB hm
          clear hm
          simp only [fill]
          go_wp2
          exact ⟨_, rfl, rfl, Below.refl _ _, trivial⟩
        · intro vs wq hB hm
          have hl : look wq (w.heap.size) = some (.cells (PTA pt) 67 (0, 0)) := by rw [look_below hB (by first | omega | (simp only [World.size_alloc]; omega) | exact look_lt (by assumption) | (simp only [World.size_alloc, World.size_setCell]; omega) | (simp; omega))]; first | assumption | go_simp
          have hc : World.cell? wq ⟨w.heap.size, 1, none⟩ = some (.int .i64 pt.i) := by rw [look_cell hl]; exact PTA_get1 _
          have h25 : vs 25 = .pointer (some ⟨w.heap.size, 1, none⟩) := meets_get hm 4 rfl rfl rfl rfl
          clear hm
          simp only [fill, h25]
          go_wp2
          exact ⟨_, rfl, rfl, Below.refl _ _, trivial⟩
        intro vs wq hB hm hne hlo
        have h21 : vs 21 = .pointer none := hm 0 _ _ _ rfl rfl rfl
        have h22 : vs 22 = .pointer (some ⟨w.heap.size, 1, none⟩) := hm 1 _ _ _ rfl rfl rfl
        have h23 : vs 23 = .int .i64 pt.i := hm 2 _ _ _ rfl rfl rfl
        have h24 : vs 24 = .pointer none := hm 3 _ _ _ rfl rfl rfl
        have h25 : vs 25 = .pointer (some ⟨w.heap.size, 1, none⟩) := hm 4 _ _ _ rfl rfl rfl
        have h26 : vs 26 = .int .i64 pt.i := hm 5 _ _ _ rfl rfl rfl
        clear hne hlo
        simp only [fill, List.filterMap, List.take, List.drop, List.setIfInBounds_toArray, List.set_cons_zero, List.set_cons_succ, h21, h22, h23, h24, h25, h26]
        clear hm h21 h22 h23 h24 h25 h26
        have hB2 := belT hb0 hB
        have hs2 := hs0.below hB
        go_wp2_with fail
        refine (refint_any pt.i _ hoi).mono ?_
        rintro _ w3 ⟨u, rfl, hu, hb3⟩
        have hB3 := belT hB2 hb3
        go_wp2
        refine bodyPost_ret (v := .tuple #[.pointer none, u]) (by simp [results, Try.results35, go_sem]) rfl ?_
        exact ⟨⟨u, rfl⟩, hB3⟩
      · by_cases hk2 : pt.kind = 2
        · go_enter Try.func35, Try.ntmps35
          go_wp2_with fail
          refine wp_region_wordsB wmixed 6 ([] :: [] :: [31] :: [30, 32] :: [] :: [34] :: []) (isV (.pointer none) :: isV (.pointer (some ⟨w.heap.size, 4, none⟩)) :: isV (pt.sl) :: isV (.pointer none) :: isV (.pointer (some ⟨w.heap.size, 4, none⟩)) :: isV (pt.sl) :: []) (by decide) (by kernel_rfl)
            ⟨stab_isV _, stab_isV _, stab_isV _, stab_isV _, stab_isV _, stab_isV _, trivial⟩ ⟨?_, ?_, ?_, ?_, ?_, ?_, trivial⟩ ?_
          · intro vs wq hB hm
            clear hm
            simp only [fill]
            go_wp2
            exact ⟨_, rfl, rfl, Below.refl _ _, trivial⟩
          · intro vs wq hB hm
            clear hm
            simp only [fill]
            go_wp2
            exact ⟨_, rfl, rfl, Below.refl _ _, trivial⟩
          · intro vs wq hB hm
            have hl : look wq (w.heap.size) = some (.cells (PTA pt) 67 (0, 0)) := by rw [look_below hB (by first | omega | (simp only [World.size_alloc]; omega) | exact look_lt (by assumption) | (simp only [World.size_alloc, World.size_setCell]; omega) | (simp; omega))]; first | assumption | go_simp
            have hc : World.cell? wq ⟨w.heap.size, 4, none⟩ = some (pt.sl) := by rw [look_cell hl]; exact PTA_get4 _
            have h31 : vs 31 = .pointer (some ⟨w.heap.size, 4, none⟩) := meets_get hm 1 rfl rfl rfl rfl
            clear hm
            simp only [fill, h31]
            go_wp2
            exact ⟨_, rfl, rfl, Below.refl _ _, trivial⟩
          · intro vs wq hB hm
            have h30 : vs 30 = .pointer none := meets_get hm 0 rfl rfl rfl rfl
            have h32 : vs 32 = pt.sl := meets_get hm 2 rfl rfl rfl rfl
            clear hm
            simp only [fill, h30, h32]
            go_wp2_with fail
            refine (text_nil pt.sl _).mono ?_
            rintro e w1 ⟨rfl, hb1⟩
            go_wp2
            exact ⟨_, rfl, rfl, hb1, trivial⟩
          · intro vs wq hB hm
            clear hm
            simp only [fill]
            go_wp2
            exact ⟨_, rfl, rfl, Below.refl _ _, trivial⟩
          · intro vs wq hB hm
            have hl : look wq (w.heap.size) = some (.cells (PTA pt) 67 (0, 0)) := by rw [look_below hB (by first | omega | (simp only [World.size_alloc]; omega) | exact look_lt (by assumption) | (simp only [World.size_alloc, World.size_setCell]; omega) | (simp; omega))]; first | assumption | go_simp
            have hc : World.cell? wq ⟨w.heap.size, 4, none⟩ = some (pt.sl) := by rw [look_cell hl]; exact PTA_get4 _
            have h34 : vs 34 = .pointer (some ⟨w.heap.size, 4, none⟩) := meets_get hm 4 rfl rfl rfl rfl
            clear hm
            simp only [fill, h34]
            go_wp2
            exact ⟨_, rfl, rfl, Below.refl _ _, trivial⟩
          intro vs wq hB hm hne hlo
          have h30 : vs 30 = .pointer none := hm 0 _ _ _ rfl rfl rfl
          have h31 : vs 31 = .pointer (some ⟨w.heap.size, 4, none⟩) := hm 1 _ _ _ rfl rfl rfl
          have h32 : vs 32 = pt.sl := hm 2 _ _ _ rfl rfl rfl
          have h33 : vs 33 = .pointer none := hm 3 _ _ _ rfl rfl rfl
          have h34 : vs 34 = .pointer (some ⟨w.heap.size, 4, none⟩) := hm 4 _ _ _ rfl rfl rfl
          have h35 : vs 35 = pt.sl := hm 5 _ _ _ rfl rfl rfl
          clear hne hlo
          simp only [fill, List.filterMap, List.take, List.drop, List.setIfInBounds_toArray, List.set_cons_zero, List.set_cons_succ, h30, h31, h32, h33, h34, h35]
          clear hm h30 h31 h32 h33 h34 h35
          have hB2 := belT hb0 hB
          have hs2 := hs0.below hB
          go_wp2_with fail
          refine (reftext_any pt.bs pt.sl _ hlen hs2).mono ?_
          rintro _ w3 ⟨u, rfl, hu, hb3⟩
          have hB3 := belT hB2 hb3
          go_wp2
          refine bodyPost_ret (v := .tuple #[.pointer none, u]) (by simp [results, Try.results35, go_sem]) rfl ?_
          exact ⟨⟨u, rfl⟩, hB3⟩
        · by_cases hk3 : pt.kind = 3
          · go_enter Try.func35, Try.ntmps35
            go_wp2_with fail
            refine (float_nil _ _).mono ?_
            rintro _ w1 ⟨rfl, hb1⟩
            have hB2 := belT hb0 hb1
            go_wp2_with fail
            refine (reffloat_any pt.n _ hon).mono ?_
            rintro _ w3 ⟨u, rfl, hu, hb3⟩
            have hB3 := belT hB2 hb3
            go_wp2
            refine bodyPost_ret (v := .tuple #[.pointer none, u]) (by simp [results, Try.results35, go_sem]) rfl ?_
            exact ⟨⟨u, rfl⟩, hB3⟩
          · by_cases hk4 : pt.kind = 4
            · go_enter Try.func35, Try.ntmps35
              go_wp2_with fail
              refine wp_region_wordsB wmixed 6 ([] :: [] :: [50] :: [49, 51] :: [] :: [53] :: []) (isV (.pointer none) :: isV (.pointer (some ⟨w.heap.size, 5, none⟩)) :: isV (.agg (VA pt.v)) :: isV (.pointer none) :: isV (.pointer (some ⟨w.heap.size, 5, none⟩)) :: isV (.agg (VA pt.v)) :: []) (by decide) (by kernel_rfl)
                ⟨stab_isV _, stab_isV _, stab_isV _, stab_isV _, stab_isV _, stab_isV _, trivial⟩ ⟨?_, ?_, ?_, ?_, ?_, ?_, trivial⟩ ?_
              · intro vs wq hB hm
                clear hm
                simp only [fill]
                go_wp2
                exact ⟨_, rfl, rfl, Below.refl _ _, trivial⟩
              · intro vs wq hB hm
                clear hm
                simp only [fill]
                go_wp2
                exact ⟨_, rfl, rfl, Below.refl _ _, trivial⟩
              · intro vs wq hB hm
                have hl : look wq (w.heap.size) = some (.cells (PTA pt) 67 (0, 0)) := by rw [look_below hB (by first | omega | (simp only [World.size_alloc]; omega) | exact look_lt (by assumption) | (simp only [World.size_alloc, World.size_setCell]; omega) | (simp; omega))]; first | assumption | go_simp
                have h50 : vs 50 = .pointer (some ⟨w.heap.size, 5, none⟩) := meets_get hm 1 rfl rfl rfl rfl
                clear hm
                simp only [fill, h50]
                go_wp2
                exact ⟨_, rfl, rfl, Below.refl _ _, trivial⟩
              · intro vs wq hB hm
                have h49 : vs 49 = .pointer none := meets_get hm 0 rfl rfl rfl rfl
                have h51 : vs 51 = .agg (VA pt.v) := meets_get hm 2 rfl rfl rfl rfl
                clear hm
                simp only [fill, h49, h51]
                go_wp2_with fail
                refine (vec_nil pt.v _ hov).mono ?_
                rintro e w1 ⟨rfl, hb1⟩
                go_wp2
                exact ⟨_, rfl, rfl, hb1, trivial⟩
              · intro vs wq hB hm
                clear hm
                simp only [fill]
                go_wp2
                exact ⟨_, rfl, rfl, Below.refl _ _, trivial⟩
              · intro vs wq hB hm
                have hl : look wq (w.heap.size) = some (.cells (PTA pt) 67 (0, 0)) := by rw [look_below hB (by first | omega | (simp only [World.size_alloc]; omega) | exact look_lt (by assumption) | (simp only [World.size_alloc, World.size_setCell]; omega) | (simp; omega))]; first | assumption | go_simp
                have h53 : vs 53 = .pointer (some ⟨w.heap.size, 5, none⟩) := meets_get hm 4 rfl rfl rfl rfl
                clear hm
                simp only [fill, h53]
                go_wp2
                exact ⟨_, rfl, rfl, Below.refl _ _, trivial⟩
              intro vs wq hB hm hne hlo
              have h49 : vs 49 = .pointer none := hm 0 _ _ _ rfl rfl rfl
              have h50 : vs 50 = .pointer (some ⟨w.heap.size, 5, none⟩) := hm 1 _ _ _ rfl rfl rfl
              have h51 : vs 51 = .agg (VA pt.v) := hm 2 _ _ _ rfl rfl rfl
              have h52 : vs 52 = .pointer none := hm 3 _ _ _ rfl rfl rfl
              have h53 : vs 53 = .pointer (some ⟨w.heap.size, 5, none⟩) := hm 4 _ _ _ rfl rfl rfl
              have h54 : vs 54 = .agg (VA pt.v) := hm 5 _ _ _ rfl rfl rfl
              clear hne hlo
              simp only [fill, List.filterMap, List.take, List.drop, List.setIfInBounds_toArray, List.set_cons_zero, List.set_cons_succ, h49, h50, h51, h52, h53, h54]
              clear hm h49 h50 h51 h52 h53 h54
              have hB2 := belT hb0 hB
              have hs2 := hs0.below hB
              go_wp2_with fail
              refine (refvec_any pt.v _ hov).mono ?_
              rintro _ w3 ⟨u, rfl, hu, hb3⟩
              have hB3 := belT hB2 hb3
              go_wp2
              refine bodyPost_ret (v := .tuple #[.pointer none, u]) (by simp [results, Try.results35, go_sem]) rfl ?_
              exact ⟨⟨u, rfl⟩, hB3⟩
            · go_enter Try.func35, Try.ntmps35
              go_wp2_with fail
              refine bodyPost_ret (v := .tuple #[.pointer none, .slice none 0 0]) (by simp [results, Try.results35, go_sem]) rfl ?_
              exact ⟨⟨_, rfl⟩, hb0⟩

set_option maxRecDepth 100000 in
set_option maxHeartbeats 6400000 in
theorem put_any (pt : Pt) (p : Nat) (g : Option Nat) (bs : List Nat) (w : World) (hok : PtOk w pt) (hlen : pt.bs.length ≤ 1000000) (hlenb : bs.length ≤ 900000) (h : WrV w p g bs) (hsrc : ∀ b off n c, pt.sl = .slice (some ⟨b, off, none⟩) n c → 0 < pt.bs.length → b ≠ p ∧ some b ≠ g) :
    Calls Try.prog 35 #[.pointer (some ⟨p, 0, none⟩), .agg (PTA pt)] w fun e w' => ∃ u w1, e = .returned (.tuple #[.pointer (some ⟨p, 0, none⟩), u]) ∧ Wrote w w1 p g (bs ++ ptB pt) ∧ w'.ownsRow w1.heap.size 5 1 u (ptB pt).length (bcells (ptB pt)) ∧ Below w1.heap.size w1 w' := by
  have hpw : p < w.heap.size := by obtain ⟨_, hl, _⟩ := h; exact look_lt hl
  have hgw : ∀ k, g = some k → k < w.heap.size := fun k e => by
    obtain ⟨v, _, ho, rfl⟩ := h
    exact (ho.lt k e).2
  have hnp : w.heap.size ≠ p := by omega
  have hng : some w.heap.size ≠ g := fun e => by have := hgw _ e.symm; omega
  have hb0 := belA (bel0 w) (.cells (PTA pt) 67)
  have hlx : look (w.alloc (.cells (PTA pt) 67)) w.heap.size = some (.cells (PTA pt) 67 (0, 0)) := look_alloc_at _ _ _ rfl
  have c0 : World.cell? (w.alloc (.cells (PTA pt) 67)) ⟨w.heap.size, 0, none⟩ = some (.int .i64 pt.kind) := by rw [look_cell hlx]; exact PTA_get0 _
  have c3 : World.cell? (w.alloc (.cells (PTA pt) 67)) ⟨w.heap.size, 3, none⟩ = some (.int .u64 (pt.n : Int)) := by rw [look_cell hlx]; exact PTA_get3 _
  have hs0 := hok.sl.below hb0
  have hoi := hok.i
  have hon := hok.n
  have hov := hok.v
  have hW0 : WrV (w.alloc (.cells (PTA pt) 67)) p g bs := wr_keeps h hb0
  have hWd := wrote_drew hW0
  by_cases hk0 : pt.kind = 0
  · have hpt : Hid (ptB pt = numB pt.n) := hidP (by unfold ptB; rw [if_pos (.inl hk0)])
    go_enter Try.func35, Try.ntmps35
    go_wp2_with fail
    obtain ⟨stg, hstg⟩ : ∃ s : (Nat → Bool) → List Nat, Hid (s = fun L => if L 3 = true then bs ++ numB (pt.n) else (bs)) := ⟨_, hidP rfl⟩
    have hset : Hid (∀ (L : Nat → Bool) (i : Nat), (∀ c ∈ [3], c ≠ i) → stg (setL L i) = stg L) := by
      refine hidP ?_
      intro L i h
      have k3 : (3 = i) = False := eq_false (h 3 (by simp))
      simp only [hstg.out, setL, k3, if_false]
    have hst0 : Hid (stg (fun _ => false) = bs) := hidP (by simp only [hstg.out, Bool.false_eq_true, if_false])
    refine wp_region_lst wmixed (fun L u => Wrote ((w.alloc (.cells (PTA pt) 67))) u (p) (g) (stg L)) (fun _ _ => False) (fun _ _ _ h => h.elim) (fun _ _ _ => True) (by rw [hst0.out]; exact hWd) 6
      ([] :: [] :: [13] :: [12, 14] :: [] :: [16] :: [])
      (isV (.pointer (some ⟨p, 0, none⟩)) :: isV (.pointer (some ⟨w.heap.size, 3, none⟩)) :: isV (.int .u64 (pt.n : Int)) :: isV (.pointer (some ⟨p, 0, none⟩)) :: isV (.pointer (some ⟨w.heap.size, 3, none⟩)) :: isV (.int .u64 (pt.n : Int)) :: [])
      (by decide) (by kernel_rfl) ?_ ⟨?_, ?_, ?_, ?_, ?_, ?_, trivial⟩ ?_
    · intro i j S hij hS v u u' hv hR
      match j, hS with
      | 0, e => cases e; exact hv
      | 1, e => cases e; exact hv
      | 2, e => cases e; exact hv
      | 3, e => cases e; exact hv
      | 4, e => cases e; exact hv
      | 5, e => cases e; exact hv
      | n + 6, e => simp at e
    · intro L vs u hL hw hcl hJ hm
      simp only [fill]
      go_wp2
      exact ⟨_, rfl, rfl, ⟨trivial, (by rw [hset.out L 0 (by decide)]; exact hJ), Nat.le_refl _⟩, trivial⟩
    · intro L vs u hL hw hcl hJ hm
      simp only [fill]
      go_wp2
      exact ⟨_, rfl, rfl, ⟨trivial, (by rw [hset.out L 1 (by decide)]; exact hJ), Nat.le_refl _⟩, trivial⟩
    · intro L vs u hL hw hcl hJ hm
      have h13 : vs 13 = .pointer (some ⟨w.heap.size, 3, none⟩) := meets_get hm 1 rfl rfl rfl rfl
      have hl := wrote_look hJ (hlx) (hnp) (hng)
      have hc : World.cell? u ⟨w.heap.size, 3, none⟩ = some (.int .u64 (pt.n : Int)) := by rw [look_cell hl]; exact PTA_get3 _
      simp only [fill, h13]
      go_wp2
      exact ⟨_, rfl, rfl, ⟨trivial, (by rw [hset.out L 2 (by decide)]; exact hJ), Nat.le_refl _⟩, trivial⟩
    · intro L vs u hL hw hcl hJ hm
      have h12 : vs 12 = .pointer (some ⟨p, 0, none⟩) := meets_get hm 0 rfl rfl rfl rfl
      have h14 : vs 14 = .int .u64 (pt.n : Int) := meets_get hm 2 rfl rfl rfl rfl
      have hst : stg L = bs := by simp only [hstg.out, hL, Bool.false_eq_true, if_false, if_true]
      have hst2 : stg (setL L 3) = bs ++ numB (pt.n) := by simp [hstg.out, setL]
      rw [hst] at hJ
      obtain ⟨gq, hvq, hnq, hkq⟩ := hJ
      clear hm hw hcl hst
      simp only [fill, h12, h14]
      go_wp2_with fail
      refine (num_any p gq _ (pt.n) _ (hon) (by have z0 := hlenb;  (try simp only [List.length_append]); omega) hvq).mono ?_
      rintro e u' ⟨rfl, hWq⟩
      have hszq : u.heap.size ≤ u'.heap.size := by
        obtain ⟨_, _, _, hq⟩ := hWq
        exact hq.size
      go_wp2
      exact ⟨_, rfl, rfl, ⟨trivial, (by rw [hst2]; exact Wrote.trans hkq hnq hWq), hszq⟩, trivial⟩
    · intro L vs u hL hw hcl hJ hm
      simp only [fill]
      go_wp2
      exact ⟨_, rfl, rfl, ⟨trivial, (by rw [hset.out L 4 (by decide)]; exact hJ), Nat.le_refl _⟩, trivial⟩
    · intro L vs u hL hw hcl hJ hm
      have h16 : vs 16 = .pointer (some ⟨w.heap.size, 3, none⟩) := meets_get hm 4 rfl rfl rfl rfl
      have hl := wrote_look hJ (hlx) (hnp) (hng)
      have hc : World.cell? u ⟨w.heap.size, 3, none⟩ = some (.int .u64 (pt.n : Int)) := by rw [look_cell hl]; exact PTA_get3 _
      simp only [fill, h16]
      go_wp2
      exact ⟨_, rfl, rfl, ⟨trivial, (by rw [hset.out L 5 (by decide)]; exact hJ), Nat.le_refl _⟩, trivial⟩
    intro L hall vs ws hJ hsz hm hne hlo
    have h12 : vs 12 = .pointer (some ⟨p, 0, none⟩) := hm 0 _ _ _ rfl rfl rfl
    have h13 : vs 13 = .pointer (some ⟨w.heap.size, 3, none⟩) := hm 1 _ _ _ rfl rfl rfl
    have h14 : vs 14 = .int .u64 (pt.n : Int) := hm 2 _ _ _ rfl rfl rfl
    have h15 : vs 15 = .pointer (some ⟨p, 0, none⟩) := hm 3 _ _ _ rfl rfl rfl
    have h16 : vs 16 = .pointer (some ⟨w.heap.size, 3, none⟩) := hm 4 _ _ _ rfl rfl rfl
    have h17 : vs 17 = .int .u64 (pt.n : Int) := hm 5 _ _ _ rfl rfl rfl
    have hst : stg L = bs ++ numB (pt.n) := by simp only [hstg.out]; rw [if_pos (hall 3 (by decide))]
    rw [hst] at hJ
    clear hne hlo hm hall hst hsz hset hst0 hstg
    simp only [fill, List.filterMap, List.take, List.drop, List.setIfInBounds_toArray, List.set_cons_zero, List.set_cons_succ, h12, h13, h14, h15, h16, h17]
    clear h12 h13 h14 h15 h16 h17
    go_wp2_with fail
    refine (refnum_any pt.n _ hon).mono ?_
    rintro _ w3 ⟨u, rfl, hu, hb3⟩
    go_wp2
    refine bodyPost_ret (v := .tuple #[.pointer (some ⟨p, 0, none⟩), u]) (by simp [results, Try.results35, go_sem]) rfl ?_
    rw [hpt.out]
    exact ⟨u, _, rfl, Wrote.trans (below_keeps hb0) (.inl rfl) hJ, hu, hb3⟩
  · by_cases hk5 : pt.kind = 5
    · have hpt : Hid (ptB pt = numB pt.n) := hidP (by unfold ptB; rw [if_pos (.inr hk5)])
      go_enter Try.func35, Try.ntmps35
      go_wp2_with fail
      obtain ⟨stg, hstg⟩ : ∃ s : (Nat → Bool) → List Nat, Hid (s = fun L => if L 3 = true then bs ++ numB (pt.n) else (bs)) := ⟨_, hidP rfl⟩
      have hset : Hid (∀ (L : Nat → Bool) (i : Nat), (∀ c ∈ [3], c ≠ i) → stg (setL L i) = stg L) := by
        refine hidP ?_
        intro L i h
        have k3 : (3 = i) = False := eq_false (h 3 (by simp))
        simp only [hstg.out, setL, k3, if_false]
      have hst0 : Hid (stg (fun _ => false) = bs) := hidP (by simp only [hstg.out, Bool.false_eq_true, if_false])
      refine wp_region_lst wmixed (fun L u => Wrote ((w.alloc (.cells (PTA pt) 67))) u (p) (g) (stg L)) (fun _ _ => False) (fun _ _ _ h => h.elim) (fun _ _ _ => True) (by rw [hst0.out]; exact hWd) 6
        ([] :: [] :: [13] :: [12, 14] :: [] :: [16] :: [])
        (isV (.pointer (some ⟨p, 0, none⟩)) :: isV (.pointer (some ⟨w.heap.size, 3, none⟩)) :: isV (.int .u64 (pt.n : Int)) :: isV (.pointer (some ⟨p, 0, none⟩)) :: isV (.pointer (some ⟨w.heap.size, 3, none⟩)) :: isV (.int .u64 (pt.n : Int)) :: [])
        (by decide) (by kernel_rfl) ?_ ⟨?_, ?_, ?_, ?_, ?_, ?_, trivial⟩ ?_
      · intro i j S hij hS v u u' hv hR
        match j, hS with
        | 0, e => cases e; exact hv
        | 1, e => cases e; exact hv
        | 2, e => cases e; exact hv
        | 3, e => cases e; exact hv
        | 4, e => cases e; exact hv
        | 5, e => cases e; exact hv
        | n + 6, e => simp at e
      · intro L vs u hL hw hcl hJ hm
        simp only [fill]
        go_wp2
        exact ⟨_, rfl, rfl, ⟨trivial, (by rw [hset.out L 0 (by decide)]; exact hJ), Nat.le_refl _⟩, trivial⟩
      · intro L vs u hL hw hcl hJ hm
        simp only [fill]
        go_wp2
        exact ⟨_, rfl, rfl, ⟨trivial, (by rw [hset.out L 1 (by decide)]; exact hJ), Nat.le_refl _⟩, trivial⟩
      · intro L vs u hL hw hcl hJ hm
        have h13 : vs 13 = .pointer (some ⟨w.heap.size, 3, none⟩) := meets_get hm 1 rfl rfl rfl rfl
        have hl := wrote_look hJ (hlx) (hnp) (hng)
        have hc : World.cell? u ⟨w.heap.size, 3, none⟩ = some (.int .u64 (pt.n : Int)) := by rw [look_cell hl]; exact PTA_get3 _
        simp only [fill, h13]
        go_wp2
        exact ⟨_, rfl, rfl, ⟨trivial, (by rw [hset.out L 2 (by decide)]; exact hJ), Nat.le_refl _⟩, trivial⟩
      · intro L vs u hL hw hcl hJ hm
        have h12 : vs 12 = .pointer (some ⟨p, 0, none⟩) := meets_get hm 0 rfl rfl rfl rfl
        have h14 : vs 14 = .int .u64 (pt.n : Int) := meets_get hm 2 rfl rfl rfl rfl
        have hst : stg L = bs := by simp only [hstg.out, hL, Bool.false_eq_true, if_false, if_true]
        have hst2 : stg (setL L 3) = bs ++ numB (pt.n) := by simp [hstg.out, setL]
        rw [hst] at hJ
        obtain ⟨gq, hvq, hnq, hkq⟩ := hJ
        clear hm hw hcl hst
        simp only [fill, h12, h14]
        go_wp2_with fail
        refine (num_any p gq _ (pt.n) _ (hon) (by have z0 := hlenb;  (try simp only [List.length_append]); omega) hvq).mono ?_
        rintro e u' ⟨rfl, hWq⟩
        have hszq : u.heap.size ≤ u'.heap.size := by
          obtain ⟨_, _, _, hq⟩ := hWq
          exact hq.size
        go_wp2
        exact ⟨_, rfl, rfl, ⟨trivial, (by rw [hst2]; exact Wrote.trans hkq hnq hWq), hszq⟩, trivial⟩
      · intro L vs u hL hw hcl hJ hm
        simp only [fill]
        go_wp2
        exact ⟨_, rfl, rfl, ⟨trivial, (by rw [hset.out L 4 (by decide)]; exact hJ), Nat.le_refl _⟩, trivial⟩
      · intro L vs u hL hw hcl hJ hm
        have h16 : vs 16 = .pointer (some ⟨w.heap.size, 3, none⟩) := meets_get hm 4 rfl rfl rfl rfl
        have hl := wrote_look hJ (hlx) (hnp) (hng)
        have hc : World.cell? u ⟨w.heap.size, 3, none⟩ = some (.int .u64 (pt.n : Int)) := by rw [look_cell hl]; exact PTA_get3 _
        simp only [fill, h16]
        go_wp2
        exact ⟨_, rfl, rfl, ⟨trivial, (by rw [hset.out L 5 (by decide)]; exact hJ), Nat.le_refl _⟩, trivial⟩
      intro L hall vs ws hJ hsz hm hne hlo
      have h12 : vs 12 = .pointer (some ⟨p, 0, none⟩) := hm 0 _ _ _ rfl rfl rfl
      have h13 : vs 13 = .pointer (some ⟨w.heap.size, 3, none⟩) := hm 1 _ _ _ rfl rfl rfl
      have h14 : vs 14 = .int .u64 (pt.n : Int) := hm 2 _ _ _ rfl rfl rfl
      have h15 : vs 15 = .pointer (some ⟨p, 0, none⟩) := hm 3 _ _ _ rfl rfl rfl
      have h16 : vs 16 = .pointer (some ⟨w.heap.size, 3, none⟩) := hm 4 _ _ _ rfl rfl rfl
      have h17 : vs 17 = .int .u64 (pt.n : Int) := hm 5 _ _ _ rfl rfl rfl
      have hst : stg L = bs ++ numB (pt.n) := by simp only [hstg.out]; rw [if_pos (hall 3 (by decide))]
      rw [hst] at hJ
      clear hne hlo hm hall hst hsz hset hst0 hstg
      simp only [fill, List.filterMap, List.take, List.drop, List.setIfInBounds_toArray, List.set_cons_zero, List.set_cons_succ, h12, h13, h14, h15, h16, h17]
      clear h12 h13 h14 h15 h16 h17
      go_wp2_with fail
      refine (refnum_any pt.n _ hon).mono ?_
      rintro _ w3 ⟨u, rfl, hu, hb3⟩
      go_wp2
      refine bodyPost_ret (v := .tuple #[.pointer (some ⟨p, 0, none⟩), u]) (by simp [results, Try.results35, go_sem]) rfl ?_
      rw [hpt.out]
      exact ⟨u, _, rfl, Wrote.trans (below_keeps hb0) (.inl rfl) hJ, hu, hb3⟩
    · by_cases hk1 : pt.kind = 1
      · have hpt : Hid (ptB pt = intB pt.i) := hidP (by unfold ptB; rw [if_neg (by omega), if_pos hk1])
        go_enter Try.func35, Try.ntmps35
        go_wp2_with fail
        obtain ⟨stg, hstg⟩ : ∃ s : (Nat → Bool) → List Nat, Hid (s = fun L => if L 3 = true then bs ++ intB (pt.i) else (bs)) := ⟨_, hidP rfl⟩
        have hset : Hid (∀ (L : Nat → Bool) (i : Nat), (∀ c ∈ [3], c ≠ i) → stg (setL L i) = stg L) := by
          refine hidP ?_
          intro L i h
          have k3 : (3 = i) = False := eq_false (h 3 (by simp))
          simp only [hstg.out, setL, k3, if_false]
        have hst0 : Hid (stg (fun _ => false) = bs) := hidP (by simp only [hstg.out, Bool.false_eq_true, if_false])
        refine wp_region_lst wmixed (fun L u => Wrote ((w.alloc (.cells (PTA pt) 67))) u (p) (g) (stg L)) (fun _ _ => False) (fun _ _ _ h => h.elim) (fun _ _ _ => True) (by rw [hst0.out]; exact hWd) 6
          ([] :: [] :: [22] :: [21, 23] :: [] :: [25] :: [])
          (isV (.pointer (some ⟨p, 0, none⟩)) :: isV (.pointer (some ⟨w.heap.size, 1, none⟩)) :: isV (.int .i64 pt.i) :: isV (.pointer (some ⟨p, 0, none⟩)) :: isV (.pointer (some ⟨w.heap.size, 1, none⟩)) :: isV (.int .i64 pt.i) :: [])
          (by decide) (by kernel_rfl) ?_ ⟨?_, ?_, ?_, ?_, ?_, ?_, trivial⟩ ?_
        · intro i j S hij hS v u u' hv hR
          match j, hS with
          | 0, e => cases e; exact hv
          | 1, e => cases e; exact hv
          | 2, e => cases e; exact hv
          | 3, e => cases e; exact hv
          | 4, e => cases e; exact hv
          | 5, e => cases e; exact hv
          | n + 6, e => simp at e
        · intro L vs u hL hw hcl hJ hm
          simp only [fill]
          go_wp2
          exact ⟨_, rfl, rfl, ⟨trivial, (by rw [hset.out L 0 (by decide)]; exact hJ), Nat.le_refl _⟩, trivial⟩
        · intro L vs u hL hw hcl hJ hm
          simp only [fill]
          go_wp2
          exact ⟨_, rfl, rfl, ⟨trivial, (by rw [hset.out L 1 (by decide)]; exact hJ), Nat.le_refl _⟩, trivial⟩
        · intro L vs u hL hw hcl hJ hm
          have h22 : vs 22 = .pointer (some ⟨w.heap.size, 1, none⟩) := meets_get hm 1 rfl rfl rfl rfl
          have hl := wrote_look hJ (hlx) (hnp) (hng)
          have hc : World.cell? u ⟨w.heap.size, 1, none⟩ = some (.int .i64 pt.i) := by rw [look_cell hl]; exact PTA_get1 _
          simp only [fill, h22]
          go_wp2
          exact ⟨_, rfl, rfl, ⟨trivial, (by rw [hset.out L 2 (by decide)]; exact hJ), Nat.le_refl _⟩, trivial⟩
        · intro L vs u hL hw hcl hJ hm
          have h21 : vs 21 = .pointer (some ⟨p, 0, none⟩) := meets_get hm 0 rfl rfl rfl rfl
          have h23 : vs 23 = .int .i64 pt.i := meets_get hm 2 rfl rfl rfl rfl
          have hst : stg L = bs := by simp only [hstg.out, hL, Bool.false_eq_true, if_false, if_true]
          have hst2 : stg (setL L 3) = bs ++ intB (pt.i) := by simp [hstg.out, setL]
          rw [hst] at hJ
          obtain ⟨gq, hvq, hnq, hkq⟩ := hJ
          clear hm hw hcl hst
          simp only [fill, h21, h23]
          go_wp2_with fail
          refine (int_any p gq _ (pt.i) _ (hoi) (by have z0 := hlenb;  (try simp only [List.length_append]); omega) hvq).mono ?_
          rintro e u' ⟨rfl, hWq⟩
          have hszq : u.heap.size ≤ u'.heap.size := by
            obtain ⟨_, _, _, hq⟩ := hWq
            exact hq.size
          go_wp2
          exact ⟨_, rfl, rfl, ⟨trivial, (by rw [hst2]; exact Wrote.trans hkq hnq hWq), hszq⟩, trivial⟩
        · intro L vs u hL hw hcl hJ hm
          simp only [fill]
          go_wp2
          exact ⟨_, rfl, rfl, ⟨trivial, (by rw [hset.out L 4 (by decide)]; exact hJ), Nat.le_refl _⟩, trivial⟩
        · intro L vs u hL hw hcl hJ hm
          have h25 : vs 25 = .pointer (some ⟨w.heap.size, 1, none⟩) := meets_get hm 4 rfl rfl rfl rfl
          have hl := wrote_look hJ (hlx) (hnp) (hng)
          have hc : World.cell? u ⟨w.heap.size, 1, none⟩ = some (.int .i64 pt.i) := by rw [look_cell hl]; exact PTA_get1 _
          simp only [fill, h25]
          go_wp2
          exact ⟨_, rfl, rfl, ⟨trivial, (by rw [hset.out L 5 (by decide)]; exact hJ), Nat.le_refl _⟩, trivial⟩
        intro L hall vs ws hJ hsz hm hne hlo
        have h21 : vs 21 = .pointer (some ⟨p, 0, none⟩) := hm 0 _ _ _ rfl rfl rfl
        have h22 : vs 22 = .pointer (some ⟨w.heap.size, 1, none⟩) := hm 1 _ _ _ rfl rfl rfl
        have h23 : vs 23 = .int .i64 pt.i := hm 2 _ _ _ rfl rfl rfl
        have h24 : vs 24 = .pointer (some ⟨p, 0, none⟩) := hm 3 _ _ _ rfl rfl rfl
        have h25 : vs 25 = .pointer (some ⟨w.heap.size, 1, none⟩) := hm 4 _ _ _ rfl rfl rfl
        have h26 : vs 26 = .int .i64 pt.i := hm 5 _ _ _ rfl rfl rfl
        have hst : stg L = bs ++ intB (pt.i) := by simp only [hstg.out]; rw [if_pos (hall 3 (by decide))]
        rw [hst] at hJ
        clear hne hlo hm hall hst hsz hset hst0 hstg
        simp only [fill, List.filterMap, List.take, List.drop, List.setIfInBounds_toArray, List.set_cons_zero, List.set_cons_succ, h21, h22, h23, h24, h25, h26]
        clear h21 h22 h23 h24 h25 h26
        go_wp2_with fail
        refine (refint_any pt.i _ hoi).mono ?_
        rintro _ w3 ⟨u, rfl, hu, hb3⟩
        go_wp2
        refine bodyPost_ret (v := .tuple #[.pointer (some ⟨p, 0, none⟩), u]) (by simp [results, Try.results35, go_sem]) rfl ?_
        rw [hpt.out]
        exact ⟨u, _, rfl, Wrote.trans (below_keeps hb0) (.inl rfl) hJ, hu, hb3⟩
      · by_cases hk2 : pt.kind = 2
        · have hpt : Hid (ptB pt = numB pt.bs.length ++ pt.bs) := hidP (by unfold ptB; rw [if_neg (by omega), if_neg hk1, if_pos hk2])
          go_enter Try.func35, Try.ntmps35
          go_wp2_with fail
          obtain ⟨stg, hstg⟩ : ∃ s : (Nat → Bool) → List Nat, Hid (s = fun L => if L 3 = true then bs ++ numB pt.bs.length ++ pt.bs else (bs)) := ⟨_, hidP rfl⟩
          have hset : Hid (∀ (L : Nat → Bool) (i : Nat), (∀ c ∈ [3], c ≠ i) → stg (setL L i) = stg L) := by
            refine hidP ?_
            intro L i h
            have k3 : (3 = i) = False := eq_false (h 3 (by simp))
            simp only [hstg.out, setL, k3, if_false]
          have hst0 : Hid (stg (fun _ => false) = bs) := hidP (by simp only [hstg.out, Bool.false_eq_true, if_false])
          refine wp_region_lst wmixed (fun L u => Wrote ((w.alloc (.cells (PTA pt) 67))) u (p) (g) (stg L)) (fun _ _ => False) (fun _ _ _ h => h.elim) (fun _ _ _ => True) (by rw [hst0.out]; exact hWd) 6
            ([] :: [] :: [31] :: [30, 32] :: [] :: [34] :: [])
            (isV (.pointer (some ⟨p, 0, none⟩)) :: isV (.pointer (some ⟨w.heap.size, 4, none⟩)) :: isV (pt.sl) :: isV (.pointer (some ⟨p, 0, none⟩)) :: isV (.pointer (some ⟨w.heap.size, 4, none⟩)) :: isV (pt.sl) :: [])
            (by decide) (by kernel_rfl) ?_ ⟨?_, ?_, ?_, ?_, ?_, ?_, trivial⟩ ?_
          · intro i j S hij hS v u u' hv hR
            match j, hS with
            | 0, e => cases e; exact hv
            | 1, e => cases e; exact hv
            | 2, e => cases e; exact hv
            | 3, e => cases e; exact hv
            | 4, e => cases e; exact hv
            | 5, e => cases e; exact hv
            | n + 6, e => simp at e
          · intro L vs u hL hw hcl hJ hm
            simp only [fill]
            go_wp2
            exact ⟨_, rfl, rfl, ⟨trivial, (by rw [hset.out L 0 (by decide)]; exact hJ), Nat.le_refl _⟩, trivial⟩
          · intro L vs u hL hw hcl hJ hm
            simp only [fill]
            go_wp2
            exact ⟨_, rfl, rfl, ⟨trivial, (by rw [hset.out L 1 (by decide)]; exact hJ), Nat.le_refl _⟩, trivial⟩
          · intro L vs u hL hw hcl hJ hm
            have h31 : vs 31 = .pointer (some ⟨w.heap.size, 4, none⟩) := meets_get hm 1 rfl rfl rfl rfl
            have hl := wrote_look hJ (hlx) (hnp) (hng)
            have hc : World.cell? u ⟨w.heap.size, 4, none⟩ = some (pt.sl) := by rw [look_cell hl]; exact PTA_get4 _
            simp only [fill, h31]
            go_wp2
            exact ⟨_, rfl, rfl, ⟨trivial, (by rw [hset.out L 2 (by decide)]; exact hJ), Nat.le_refl _⟩, trivial⟩
          · intro L vs u hL hw hcl hJ hm
            have h30 : vs 30 = .pointer (some ⟨p, 0, none⟩) := meets_get hm 0 rfl rfl rfl rfl
            have h32 : vs 32 = pt.sl := meets_get hm 2 rfl rfl rfl rfl
            have hst : stg L = bs := by simp only [hstg.out, hL, Bool.false_eq_true, if_false, if_true]
            have hst2 : stg (setL L 3) = bs ++ numB pt.bs.length ++ pt.bs := by simp [hstg.out, setL]
            rw [hst] at hJ
            obtain ⟨gq, hvq, hnq, hkq⟩ := hJ
            clear hm hw hcl hst
            simp only [fill, h30, h32]
            go_wp2_with fail
            refine ((text_any p gq _ pt.bs pt.sl _ (by have z0 := hlenb;  (try simp only [List.length_append]); omega) hlen hvq (src_at hs0 hkq hnq hsrc))).mono ?_
            rintro e u' ⟨rfl, hWq⟩
            have hszq : u.heap.size ≤ u'.heap.size := by
              obtain ⟨_, _, _, hq⟩ := hWq
              exact hq.size
            go_wp2
            exact ⟨_, rfl, rfl, ⟨trivial, (by rw [hst2]; exact Wrote.trans hkq hnq hWq), hszq⟩, trivial⟩
          · intro L vs u hL hw hcl hJ hm
            simp only [fill]
            go_wp2
            exact ⟨_, rfl, rfl, ⟨trivial, (by rw [hset.out L 4 (by decide)]; exact hJ), Nat.le_refl _⟩, trivial⟩
          · intro L vs u hL hw hcl hJ hm
            have h34 : vs 34 = .pointer (some ⟨w.heap.size, 4, none⟩) := meets_get hm 4 rfl rfl rfl rfl
            have hl := wrote_look hJ (hlx) (hnp) (hng)
            have hc : World.cell? u ⟨w.heap.size, 4, none⟩ = some (pt.sl) := by rw [look_cell hl]; exact PTA_get4 _
            simp only [fill, h34]
            go_wp2
            exact ⟨_, rfl, rfl, ⟨trivial, (by rw [hset.out L 5 (by decide)]; exact hJ), Nat.le_refl _⟩, trivial⟩
          intro L hall vs ws hJ hsz hm hne hlo
          have h30 : vs 30 = .pointer (some ⟨p, 0, none⟩) := hm 0 _ _ _ rfl rfl rfl
          have h31 : vs 31 = .pointer (some ⟨w.heap.size, 4, none⟩) := hm 1 _ _ _ rfl rfl rfl
          have h32 : vs 32 = pt.sl := hm 2 _ _ _ rfl rfl rfl
          have h33 : vs 33 = .pointer (some ⟨p, 0, none⟩) := hm 3 _ _ _ rfl rfl rfl
          have h34 : vs 34 = .pointer (some ⟨w.heap.size, 4, none⟩) := hm 4 _ _ _ rfl rfl rfl
          have h35 : vs 35 = pt.sl := hm 5 _ _ _ rfl rfl rfl
          have hst : stg L = bs ++ numB pt.bs.length ++ pt.bs := by simp only [hstg.out]; rw [if_pos (hall 3 (by decide))]
          rw [hst] at hJ
          clear hne hlo hm hall hst hsz hset hst0 hstg
          simp only [fill, List.filterMap, List.take, List.drop, List.setIfInBounds_toArray, List.set_cons_zero, List.set_cons_succ, h30, h31, h32, h33, h34, h35]
          clear h30 h31 h32 h33 h34 h35
          have hs2 : SliceAt ws pt.sl pt.bs.length 1 (bC pt.bs) := by
            obtain ⟨_, _, _, hkz⟩ := hJ
            exact src_apart hs0 hkz hsrc
          go_wp2_with fail
          refine (reftext_any pt.bs pt.sl _ hlen hs2).mono ?_
          rintro _ w3 ⟨u, rfl, hu, hb3⟩
          go_wp2
          refine bodyPost_ret (v := .tuple #[.pointer (some ⟨p, 0, none⟩), u]) (by simp [results, Try.results35, go_sem]) rfl ?_
          rw [hpt.out]
          exact ⟨u, _, rfl, Wrote.trans (below_keeps hb0) (.inl rfl) (by rw [← List.append_assoc]; exact hJ), hu, hb3⟩
        · by_cases hk3 : pt.kind = 3
          · have hpt : Hid (ptB pt = fltB pt.n) := hidP (by unfold ptB; rw [if_neg (by omega), if_neg hk1, if_neg hk2, if_pos hk3])
            go_enter Try.func35, Try.ntmps35
            go_wp2_with fail
            refine (wfloat_any p g bs pt.n _ hon (by omega) hW0).mono ?_
            rintro _ w1 ⟨rfl, hJ⟩
            go_wp2_with fail
            refine (reffloat_any pt.n _ hon).mono ?_
            rintro _ w3 ⟨u, rfl, hu, hb3⟩
            go_wp2
            refine bodyPost_ret (v := .tuple #[.pointer (some ⟨p, 0, none⟩), u]) (by simp [results, Try.results35, go_sem]) rfl ?_
            rw [hpt.out]
            exact ⟨u, _, rfl, Wrote.trans (below_keeps hb0) (.inl rfl) hJ, hu, hb3⟩
          · by_cases hk4 : pt.kind = 4
            · have hpt : Hid (ptB pt = vecB pt.v) := hidP (by unfold ptB; rw [if_neg (by omega), if_neg hk1, if_neg hk2, if_neg hk3, if_pos hk4])
              go_enter Try.func35, Try.ntmps35
              go_wp2_with fail
              obtain ⟨stg, hstg⟩ : ∃ s : (Nat → Bool) → List Nat, Hid (s = fun L => if L 3 = true then bs ++ vecB (pt.v) else (bs)) := ⟨_, hidP rfl⟩
              have hset : Hid (∀ (L : Nat → Bool) (i : Nat), (∀ c ∈ [3], c ≠ i) → stg (setL L i) = stg L) := by
                refine hidP ?_
                intro L i h
                have k3 : (3 = i) = False := eq_false (h 3 (by simp))
                simp only [hstg.out, setL, k3, if_false]
              have hst0 : Hid (stg (fun _ => false) = bs) := hidP (by simp only [hstg.out, Bool.false_eq_true, if_false])
              refine wp_region_lst wmixed (fun L u => Wrote ((w.alloc (.cells (PTA pt) 67))) u (p) (g) (stg L)) (fun _ _ => False) (fun _ _ _ h => h.elim) (fun _ _ _ => True) (by rw [hst0.out]; exact hWd) 6
                ([] :: [] :: [50] :: [49, 51] :: [] :: [53] :: [])
                (isV (.pointer (some ⟨p, 0, none⟩)) :: isV (.pointer (some ⟨w.heap.size, 5, none⟩)) :: isV (.agg (VA pt.v)) :: isV (.pointer (some ⟨p, 0, none⟩)) :: isV (.pointer (some ⟨w.heap.size, 5, none⟩)) :: isV (.agg (VA pt.v)) :: [])
                (by decide) (by kernel_rfl) ?_ ⟨?_, ?_, ?_, ?_, ?_, ?_, trivial⟩ ?_
              · intro i j S hij hS v u u' hv hR
                match j, hS with
                | 0, e => cases e; exact hv
                | 1, e => cases e; exact hv
                | 2, e => cases e; exact hv
                | 3, e => cases e; exact hv
                | 4, e => cases e; exact hv
                | 5, e => cases e; exact hv
                | n + 6, e => simp at e
              · intro L vs u hL hw hcl hJ hm
                simp only [fill]
                go_wp2
                exact ⟨_, rfl, rfl, ⟨trivial, (by rw [hset.out L 0 (by decide)]; exact hJ), Nat.le_refl _⟩, trivial⟩
              · intro L vs u hL hw hcl hJ hm
                simp only [fill]
                go_wp2
                exact ⟨_, rfl, rfl, ⟨trivial, (by rw [hset.out L 1 (by decide)]; exact hJ), Nat.le_refl _⟩, trivial⟩
              · intro L vs u hL hw hcl hJ hm
                have h50 : vs 50 = .pointer (some ⟨w.heap.size, 5, none⟩) := meets_get hm 1 rfl rfl rfl rfl
                have hl := wrote_look hJ (hlx) (hnp) (hng)
                simp only [fill, h50]
                go_wp2
                exact ⟨_, rfl, rfl, ⟨trivial, (by rw [hset.out L 2 (by decide)]; exact hJ), Nat.le_refl _⟩, trivial⟩
              · intro L vs u hL hw hcl hJ hm
                have h49 : vs 49 = .pointer (some ⟨p, 0, none⟩) := meets_get hm 0 rfl rfl rfl rfl
                have h51 : vs 51 = .agg (VA pt.v) := meets_get hm 2 rfl rfl rfl rfl
                have hst : stg L = bs := by simp only [hstg.out, hL, Bool.false_eq_true, if_false, if_true]
                have hst2 : stg (setL L 3) = bs ++ vecB (pt.v) := by simp [hstg.out, setL]
                rw [hst] at hJ
                obtain ⟨gq, hvq, hnq, hkq⟩ := hJ
                clear hm hw hcl hst
                simp only [fill, h49, h51]
                go_wp2_with fail
                refine (wvec_any p gq _ (pt.v) _ (hov) (by have z0 := hlenb;  (try simp only [List.length_append]); omega) hvq).mono ?_
                rintro e u' ⟨rfl, hWq⟩
                have hszq : u.heap.size ≤ u'.heap.size := by
                  obtain ⟨_, _, _, hq⟩ := hWq
                  exact hq.size
                go_wp2
                exact ⟨_, rfl, rfl, ⟨trivial, (by rw [hst2]; exact Wrote.trans hkq hnq hWq), hszq⟩, trivial⟩
              · intro L vs u hL hw hcl hJ hm
                simp only [fill]
                go_wp2
                exact ⟨_, rfl, rfl, ⟨trivial, (by rw [hset.out L 4 (by decide)]; exact hJ), Nat.le_refl _⟩, trivial⟩
              · intro L vs u hL hw hcl hJ hm
                have h53 : vs 53 = .pointer (some ⟨w.heap.size, 5, none⟩) := meets_get hm 4 rfl rfl rfl rfl
                have hl := wrote_look hJ (hlx) (hnp) (hng)
                simp only [fill, h53]
                go_wp2
                exact ⟨_, rfl, rfl, ⟨trivial, (by rw [hset.out L 5 (by decide)]; exact hJ), Nat.le_refl _⟩, trivial⟩
              intro L hall vs ws hJ hsz hm hne hlo
              have h49 : vs 49 = .pointer (some ⟨p, 0, none⟩) := hm 0 _ _ _ rfl rfl rfl
              have h50 : vs 50 = .pointer (some ⟨w.heap.size, 5, none⟩) := hm 1 _ _ _ rfl rfl rfl
              have h51 : vs 51 = .agg (VA pt.v) := hm 2 _ _ _ rfl rfl rfl
              have h52 : vs 52 = .pointer (some ⟨p, 0, none⟩) := hm 3 _ _ _ rfl rfl rfl
              have h53 : vs 53 = .pointer (some ⟨w.heap.size, 5, none⟩) := hm 4 _ _ _ rfl rfl rfl
              have h54 : vs 54 = .agg (VA pt.v) := hm 5 _ _ _ rfl rfl rfl
              have hst : stg L = bs ++ vecB (pt.v) := by simp only [hstg.out]; rw [if_pos (hall 3 (by decide))]
              rw [hst] at hJ
              clear hne hlo hm hall hst hsz hset hst0 hstg
              simp only [fill, List.filterMap, List.take, List.drop, List.setIfInBounds_toArray, List.set_cons_zero, List.set_cons_succ, h49, h50, h51, h52, h53, h54]
              clear h49 h50 h51 h52 h53 h54
              go_wp2_with fail
              refine (refvec_any pt.v _ hov).mono ?_
              rintro _ w3 ⟨u, rfl, hu, hb3⟩
              go_wp2
              refine bodyPost_ret (v := .tuple #[.pointer (some ⟨p, 0, none⟩), u]) (by simp [results, Try.results35, go_sem]) rfl ?_
              rw [hpt.out]
              exact ⟨u, _, rfl, Wrote.trans (below_keeps hb0) (.inl rfl) hJ, hu, hb3⟩
            · have hpt : Hid (ptB pt = []) := hidP (by unfold ptB; rw [if_neg (by omega), if_neg hk1, if_neg hk2, if_neg hk3, if_neg hk4])
              go_enter Try.func35, Try.ntmps35
              go_wp2_with fail
              refine bodyPost_ret (v := .tuple #[.pointer (some ⟨p, 0, none⟩), .slice none 0 0]) (by simp [results, Try.results35, go_sem]) rfl ?_
              rw [hpt.out]
              exact ⟨_, _, rfl, ⟨g, by rw [List.append_nil]; exact hW0, .inl rfl, below_keeps hb0⟩, World.ownsRow_nil _ _ _ _, Below.refl _ _⟩
end Go.Proofs.Ytniphfkipjpikaa
