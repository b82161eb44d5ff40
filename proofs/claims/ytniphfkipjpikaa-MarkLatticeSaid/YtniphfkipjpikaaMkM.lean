/- MarkLattice: the walk of the law. -/
import Derived.Test.YtniphfkipjpikaaMkL
import Derived.Test.YtniphfkipjpikaaMkF
import Derived.Test.YtniphfkipjpikaaSlf
import Derived.Test.YtniphfkipjpikaaRegB
import Derived.Deep.Cut
import Derived.Deep.CutRange
namespace Go.Proofs.Ytniphfkipjpikaa
open Go.RowKit Flt

theorem lattice_many (ad : Option Addr) (n cap : Nat) (t c : Int) (w : World) (hn : 100 < n) (hm : n ≤ 9223372036854775807) :
    Calls Try.prog 5 #[.slice ad n cap, .int .i64 t, .int .i64 c] w fun e w' => e = .returned (.bool true) ∧ Below w.heap.size w w' := by
  go_enter Try.func5, Try.ntmps5
  go_wp2_with fail
  refine (alive07 _).mono ?_
  rintro _ w1 ⟨rfl, hA⟩
  go_wp2
  go_ret
  exact ⟨rfl, hA⟩
theorem SliceAt.drop {w : World} {ad : Option Addr} {n cap s i : Nat} {C : Nat → List Value} (h : SliceAt w (.slice ad n cap) n s C) (hi : i < n) : SliceAt w (.slice (ad.map fun x => x.add (i * s)) (n - i) (cap - i)) (n - i) s (fromC C i) := by
  have := SliceAt.from h (Nat.le_of_lt hi)
  obtain ⟨_, _, e, _, h3, _⟩ := h
  cases e
  unfold sliced at this
  rw [if_neg (by omega)] at this
  exact this
theorem SliceAt.dropAt {w : World} {b off n cap s i : Nat} {C : Nat → List Value} (h : SliceAt w (.slice (some ⟨b, off, none⟩) n cap) n s C) (hi : i < n) : SliceAt w (.slice (some ⟨b, off + i * s, none⟩) (n - i) (cap - i)) (n - i) s (fromC C i) := by
  have := SliceAt.drop h hi
  rw [Option.map_some, Addr.add_lit] at this
  exact this
theorem SliceAt.take {w : World} {ad : Option Addr} {n cap s i : Nat} {C : Nat → List Value} (h : SliceAt w (.slice ad n cap) n s C) (hi : i ≤ n) : SliceAt w (.slice ad i cap) i s C := by
  obtain ⟨_, _, e, h2, h3, h4⟩ := h
  cases e
  refine ⟨ad, cap, rfl, fun hn => by have := h2 hn; omega, by omega, ?_⟩
  rcases h4 with h4 | ⟨b, off, e, hb, hR⟩
  · exact .inl (by omega)
  · exact .inr ⟨b, off, e, hb, fun k hk => hR k (by omega)⟩
theorem SliceAt.zero (w : World) (a : Addr) (cap s : Nat) (C : Nat → List Value) : SliceAt w (.slice (some a) 0 cap) 0 s C := ⟨some a, cap, rfl, (fun h => by cases h), by omega, .inl rfl⟩
theorem SliceAt.end {w : World} {ad : Option Addr} {n s : Nat} {C D : Nat → List Value} (h : SliceAt w (.slice ad n n) n s C) : SliceAt w (.slice ad 0 0) 0 s D := by
  obtain ⟨_, _, e, h2, h3, h4⟩ := h
  cases e
  exact ⟨ad, 0, rfl, fun _ => ⟨rfl, rfl⟩, by omega, .inl rfl⟩
theorem mC_then (A B : Nat → Mk) (n k : Nat) : thenC (mC A) n (mC B) k = mC (thenC A n B) k := by
  by_cases h : k < n
  · simp only [thenC, mC, if_pos h]
  · simp only [thenC, mC, if_neg h]
theorem mC_from (A : Nat → Mk) (t : Nat) : fromC (mC A) t = mC (shiftM A t) := rfl

set_option maxRecDepth 100000 in
set_option maxHeartbeats 6400000 in
theorem mark_lattice (v : Value) (n : Nat) (L : Nat → Mk) (t c : Int) (w : World) (hn : n ≤ 100) (hS : SliceAt w v n 3 (rC L)) (hL : ∀ k, k < n → (L k).price < 18446744073709551616) :
    Calls Try.prog 5 #[v, .int .i64 t, .int .i64 c] w fun e w' => e = .returned (.bool true) ∧ Below w.heap.size w w' := by
  have hS0 := hS
  obtain ⟨ad0, cap0, rfl, _, _, _⟩ := hS
  obtain ⟨i0, hi, hz0, hz1, hz2⟩ := info_parts infoMk
  have hg := fold_good hL
  obtain ⟨⟨JF, JH, JP⟩, hJ⟩ : ∃ j, foldM L n = j := ⟨_, rfl⟩
  have kJ := fun v w h => calls_is (mjoin_any v n L w h hL) (u := .agg #[.int .i64 JF, .bool JH, .float .f64 JP]) (by rw [hJ])
  have hJp : JP < 18446744073709551616 := by have := hg.2; rw [hJ] at this; exact this
  have kC : ∀ k, k < n → (L k).right = true → ∀ w, Calls Try.prog 25 #[.agg #[.int .i64 JF, .bool JH, .float .f64 JP], .agg #[.int .i64 (L k).flag, .bool (L k).has, .float .f64 (L k).price]] w fun e w' => e = .returned (.bool true) ∧ Below w.heap.size w w' := by
    intro k hk hr w
    refine calls_is (covers_any JF JH JP (L k).flag (L k).has (L k).price hJp (hL k hk) w) ?_
    have h1 := fold_has hL hk hr
    rw [hJ] at h1 hg
    have h2 : Mk.covers ⟨JF, JH, JP⟩ (L k) = true := by
      unfold Mk.covers
      rw [hg.1, hr, h1, (Mk.same_iff _ _).2 rfl]
      rfl
    exact congrArg Value.bool h2
  have kR := fun w => calls_is (mright_any JF JH JP hJp w) (u := .bool true) (by rw [hJ] at hg; exact congrArg Value.bool hg.1)
  have kM := fun w => calls_is (msame_any JF JH JP JF JH JP hJp hJp w) (u := .bool true) (by simp [sameM])
  go_enter Try.func5, Try.ntmps5
  go_wp2_with fail
  refine (marks_any _ n L _ (by omega) hS0).mono ?_
  rintro _ w1 ⟨x, rfl, hX, hb1⟩
  have hX0 : SliceAt w1 x n 3 (mC L) := hX
  obtain ⟨ad, cap, rfl, hx1, hx2, hx3⟩ := hX
  go_wp2_with fail
  refine (kJ _ _ hX0).mono ?_
  rintro _ w2 ⟨rfl, hA⟩
  have hb2 := belT hb1 hA
  have hX2 := hX0.below hA
  clear hA hX0 hx3
  go_wp2_with fail
  have hsw := hb2.size
  go_loopw [9] (fun i wr => ∃ k : Nat, k ≤ n ∧ i = .int .i64 k ∧ Below w2.heap.size w2 wr ∧ look wr w2.heap.size = some (.cells #[.int .i64 JF, .bool JH, .float .f64 JP] 29 (0, 0))) (fun i _ => n - (intOf i).toNat)
  case atStart => exact ⟨0, Nat.zero_le _, rfl, belA (bel0 _) _, by go_simp⟩
  case round =>
    obtain ⟨k, hk, rfl, hB0, l8⟩ := hrel
    have s8 := look_lt l8
    have hXr := hX2.below hB0
    by_cases hlt : k < n
    · have hp := hL k hlt
      obtain ⟨r, hr0⟩ : ∃ r, (L k).right = r := ⟨_, rfl⟩
      have kA := fun w => calls_is (mright_any (L k).flag (L k).has (L k).price hp w) (u := .bool r) (by rw [← hr0]; rfl)
      have kCk := fun hr => kC k hlt hr
      rw [hr0] at kCk
      obtain ⟨ad', cap', e, _, _, hR⟩ := hXr
      cases e
      obtain ⟨b, off, rfl, hb, hr⟩ := hR.resolve_left (by omega)
      have hrk := hr k hlt
      unfold mC at hrk
      clear hr0 hR hr
      cases r
      · go_wp2_with fail
        refine wp_region_words mixed 14 ([] :: [] :: [27, 28] :: [29] :: [30] :: [31] :: [32] :: [32] :: [32] :: [34, 35, 32] :: [36, 32] :: [33, 37, 32] :: [38, 32] :: [32, 39] :: []) (isV (.slice (some ⟨b, off, none⟩) n cap) :: isV (.int .i64 (k : Int)) :: isV (.pointer (some ⟨b, off + k * 3, none⟩)) :: isV (.agg #[.int .i64 (L k).flag, .bool (L k).has, .float .f64 (L k).price]) :: isV (.bool false) :: isV (.bool false) :: isV (undef) :: isV (undef) :: isV (undef) :: isV (undef) :: isV (undef) :: isV (undef) :: isV (undef) :: isV (.bool false) :: []) (by decide) (by kernel_rfl)
          ⟨stab_isV _, stab_isV _, stab_isV _, stab_isV _, stab_isV _, stab_isV _, stab_isV _, stab_isV _, stab_isV _, stab_isV _, stab_isV _, stab_isV _, stab_isV _, stab_isV _, trivial⟩ ⟨?_, ?_, ?_, ?_, ?_, ?_, ?_, ?_, ?_, ?_, ?_, ?_, ?_, ?_, trivial⟩ ?_
        · intro vs wq hB hm
          clear hm
          simp only [fill]
          go_wp2
          exact ⟨_, rfl, rfl, Below.refl _ _, trivial⟩
        · intro vs wq hB hm
          clear hm
          simp only [fill]
          go_wp2
          exact ⟨_, rfl, rfl, Below.refl _ _, trivial⟩
        · intro vs wq hB hm
          have h27 : vs 27 = .slice (some ⟨b, off, none⟩) n cap := meets_get hm 0 rfl rfl rfl rfl
          have h28 : vs 28 = .int .i64 (k : Int) := meets_get hm 1 rfl rfl rfl rfl
          clear hm
          simp only [fill, h27, h28]
          go_wp2
          exact ⟨_, rfl, rfl, Below.refl _ _, trivial⟩
        · intro vs wq hB hm
          have h29 : vs 29 = .pointer (some ⟨b, off + k * 3, none⟩) := meets_get hm 2 rfl rfl rfl rfl
          clear hm
          have hm1 : wq.rangeAt b (off + k * 3) [.int .i64 (L k).flag, .bool (L k).has, .float .f64 (L k).price] := fun j v hv => by rw [hB.cell (by first | assumption | exact Nat.lt_of_lt_of_le (by assumption) (Below.size (by assumption)) | omega)]; exact hrk j v hv
          simp only [fill, h29]
          go_wp2_with (refine wpList_load_mid rfl 29 _ rfl b (off + k * 3) rfl _ _ hm1 Try.underlying29 rfl mk_info ?_)
          exact ⟨_, rfl, rfl, Below.refl _ _, trivial⟩
        · intro vs wq hB hm
          have h30 : vs 30 = .agg #[.int .i64 (L k).flag, .bool (L k).has, .float .f64 (L k).price] := meets_get hm 3 rfl rfl rfl rfl
          clear hm
          simp only [fill, h30]
          go_wp2_with fail
          refine (kA _).mono ?_
          rintro e w1 ⟨rfl, hb1⟩
          go_wp2
          exact ⟨_, rfl, rfl, hb1, trivial⟩
        · intro vs wq hB hm
          have h31 : vs 31 = .bool false := meets_get hm 4 rfl rfl rfl rfl
          clear hm
          simp only [fill, h31]
          go_wp2
          exact ⟨_, rfl, rfl, Below.refl _ _, trivial⟩
        · intro vs wq hB hm
          have h32 : vs 32 = .bool false := meets_get hm 5 rfl rfl rfl rfl
          clear hm
          simp only [fill, h32]
          refine wpList_skip (by rfl) ?_
          exact ⟨_, rfl, rfl, Below.refl _ _, trivial⟩
        · intro vs wq hB hm
          have h32 : vs 32 = .bool false := meets_get hm 5 rfl rfl rfl rfl
          clear hm
          simp only [fill, h32]
          refine wpList_skip (by rfl) ?_
          exact ⟨_, rfl, rfl, Below.refl _ _, trivial⟩
        · intro vs wq hB hm
          have h32 : vs 32 = .bool false := meets_get hm 5 rfl rfl rfl rfl
          clear hm
          simp only [fill, h32]
          refine wpList_skip (by rfl) ?_
          exact ⟨_, rfl, rfl, Below.refl _ _, trivial⟩
        · intro vs wq hB hm
          have h34 : vs 34 = undef := meets_get hm 7 rfl rfl rfl rfl
          have h35 : vs 35 = undef := meets_get hm 8 rfl rfl rfl rfl
          have h32 : vs 32 = .bool false := meets_get hm 5 rfl rfl rfl rfl
          clear hm
          simp only [fill, h34, h35, h32]
          refine wpList_skip (by rfl) ?_
          exact ⟨_, rfl, rfl, Below.refl _ _, trivial⟩
        · intro vs wq hB hm
          have h36 : vs 36 = undef := meets_get hm 9 rfl rfl rfl rfl
          have h32 : vs 32 = .bool false := meets_get hm 5 rfl rfl rfl rfl
          clear hm
          simp only [fill, h36, h32]
          refine wpList_skip (by rfl) ?_
          exact ⟨_, rfl, rfl, Below.refl _ _, trivial⟩
        · intro vs wq hB hm
          have h33 : vs 33 = undef := meets_get hm 6 rfl rfl rfl rfl
          have h37 : vs 37 = undef := meets_get hm 10 rfl rfl rfl rfl
          have h32 : vs 32 = .bool false := meets_get hm 5 rfl rfl rfl rfl
          clear hm
          simp only [fill, h33, h37, h32]
          refine wpList_skip (by rfl) ?_
          exact ⟨_, rfl, rfl, Below.refl _ _, trivial⟩
        · intro vs wq hB hm
          have h38 : vs 38 = undef := meets_get hm 11 rfl rfl rfl rfl
          have h32 : vs 32 = .bool false := meets_get hm 5 rfl rfl rfl rfl
          clear hm
          simp only [fill, h38, h32]
          refine wpList_skip (by rfl) ?_
          exact ⟨_, rfl, rfl, Below.refl _ _, trivial⟩
        · intro vs wq hB hm
          have h32 : vs 32 = .bool false := meets_get hm 5 rfl rfl rfl rfl
          have h39 : vs 39 = undef := meets_get hm 12 rfl rfl rfl rfl
          clear hm
          simp only [fill, h32, h39]
          go_wp2
          exact ⟨_, rfl, rfl, Below.refl _ _, trivial⟩
        intro vs wq hB hm hne hlo
        have h27 : vs 27 = .slice (some ⟨b, off, none⟩) n cap := hm 0 _ _ _ rfl rfl rfl
        have h28 : vs 28 = .int .i64 (k : Int) := hm 1 _ _ _ rfl rfl rfl
        have h29 : vs 29 = .pointer (some ⟨b, off + k * 3, none⟩) := hm 2 _ _ _ rfl rfl rfl
        have h30 : vs 30 = .agg #[.int .i64 (L k).flag, .bool (L k).has, .float .f64 (L k).price] := hm 3 _ _ _ rfl rfl rfl
        have h31 : vs 31 = .bool false := hm 4 _ _ _ rfl rfl rfl
        have h32 : vs 32 = .bool false := hm 5 _ _ _ rfl rfl rfl
        have h33 : vs 33 = undef := hm 6 _ _ _ rfl rfl rfl
        have h34 : vs 34 = undef := hm 7 _ _ _ rfl rfl rfl
        have h35 : vs 35 = undef := hm 8 _ _ _ rfl rfl rfl
        have h36 : vs 36 = undef := hm 9 _ _ _ rfl rfl rfl
        have h37 : vs 37 = undef := hm 10 _ _ _ rfl rfl rfl
        have h38 : vs 38 = undef := hm 11 _ _ _ rfl rfl rfl
        have h39 : vs 39 = undef := hm 12 _ _ _ rfl rfl rfl
        have h40 : vs 40 = .bool false := hm 13 _ _ _ rfl rfl rfl
        clear hne hlo
        simp only [fill, List.filterMap, List.take, List.drop, List.setIfInBounds_toArray, List.set_cons_zero, List.set_cons_succ, h27, h28, h29, h30, h31, h32, h33, h34, h35, h36, h37, h38, h39, h40]
        clear hm h27 h28 h29 h30 h31 h32 h33 h34 h35 h36 h37 h38 h39 h40
        go_wp2
        go_roundw
        case rel => exact ⟨k + 1, by omega, by go_num, belT hB0 hB, by rw [look_below hB s8]; exact l8⟩
        case measure => simp [intOf]; omega
      · go_wp2_with fail
        refine wp_region_words mixed 14 ([] :: [] :: [27, 28] :: [29] :: [30] :: [31] :: [32] :: [32] :: [32] :: [34, 35, 32] :: [36, 32] :: [33, 37, 32] :: [38, 32] :: [32, 39] :: []) (isV (.slice (some ⟨b, off, none⟩) n cap) :: isV (.int .i64 (k : Int)) :: isV (.pointer (some ⟨b, off + k * 3, none⟩)) :: isV (.agg #[.int .i64 (L k).flag, .bool (L k).has, .float .f64 (L k).price]) :: isV (.bool true) :: isV (.bool true) :: isV (.agg (#[.int .i64 JF, .bool JH, .float .f64 JP])) :: isV (.slice (some ⟨b, off, none⟩) n cap) :: isV (.int .i64 (k : Int)) :: isV (.pointer (some ⟨b, off + k * 3, none⟩)) :: isV (.agg #[.int .i64 (L k).flag, .bool (L k).has, .float .f64 (L k).price]) :: isV (.bool true) :: isV (.bool false) :: isV (.bool false) :: []) (by decide) (by kernel_rfl)
          ⟨stab_isV _, stab_isV _, stab_isV _, stab_isV _, stab_isV _, stab_isV _, stab_isV _, stab_isV _, stab_isV _, stab_isV _, stab_isV _, stab_isV _, stab_isV _, stab_isV _, trivial⟩ ⟨?_, ?_, ?_, ?_, ?_, ?_, ?_, ?_, ?_, ?_, ?_, ?_, ?_, ?_, trivial⟩ ?_
        · intro vs wq hB hm
          clear hm
          simp only [fill]
          go_wp2
          exact ⟨_, rfl, rfl, Below.refl _ _, trivial⟩
        · intro vs wq hB hm
          clear hm
          simp only [fill]
          go_wp2
          exact ⟨_, rfl, rfl, Below.refl _ _, trivial⟩
        · intro vs wq hB hm
          have h27 : vs 27 = .slice (some ⟨b, off, none⟩) n cap := meets_get hm 0 rfl rfl rfl rfl
          have h28 : vs 28 = .int .i64 (k : Int) := meets_get hm 1 rfl rfl rfl rfl
          clear hm
          simp only [fill, h27, h28]
          go_wp2
          exact ⟨_, rfl, rfl, Below.refl _ _, trivial⟩
        · intro vs wq hB hm
          have h29 : vs 29 = .pointer (some ⟨b, off + k * 3, none⟩) := meets_get hm 2 rfl rfl rfl rfl
          clear hm
          have hm1 : wq.rangeAt b (off + k * 3) [.int .i64 (L k).flag, .bool (L k).has, .float .f64 (L k).price] := fun j v hv => by rw [hB.cell (by first | assumption | exact Nat.lt_of_lt_of_le (by assumption) (Below.size (by assumption)) | omega)]; exact hrk j v hv
          simp only [fill, h29]
          go_wp2_with (refine wpList_load_mid rfl 29 _ rfl b (off + k * 3) rfl _ _ hm1 Try.underlying29 rfl mk_info ?_)
          exact ⟨_, rfl, rfl, Below.refl _ _, trivial⟩
        · intro vs wq hB hm
          have h30 : vs 30 = .agg #[.int .i64 (L k).flag, .bool (L k).has, .float .f64 (L k).price] := meets_get hm 3 rfl rfl rfl rfl
          clear hm
          simp only [fill, h30]
          go_wp2_with fail
          refine (kA _).mono ?_
          rintro e w1 ⟨rfl, hb1⟩
          go_wp2
          exact ⟨_, rfl, rfl, hb1, trivial⟩
        · intro vs wq hB hm
          have h31 : vs 31 = .bool true := meets_get hm 4 rfl rfl rfl rfl
          clear hm
          simp only [fill, h31]
          go_wp2
          exact ⟨_, rfl, rfl, Below.refl _ _, trivial⟩
        · intro vs wq hB hm
          have hl : look wq (w2.heap.size) = some (.cells (#[.int .i64 JF, .bool JH, .float .f64 JP]) 29 (0, 0)) := by rw [look_below hB (by first | omega | (simp only [World.size_alloc]; omega) | exact look_lt (by assumption) | (simp only [World.size_alloc, World.size_setCell]; omega) | (simp; omega))]; first | assumption | go_simp
          have hc0 : World.cell? wq ⟨w2.heap.size, 0, none⟩ = some (.int .i64 JF) := by rw [look_cell hl]; rfl
          have hc1 : World.cell? wq ⟨w2.heap.size, 1, none⟩ = some (.bool JH) := by rw [look_cell hl]; rfl
          have hc2 : World.cell? wq ⟨w2.heap.size, 2, none⟩ = some (.float .f64 JP) := by rw [look_cell hl]; rfl
          have h32 : vs 32 = .bool true := meets_get hm 5 rfl rfl rfl rfl
          clear hm
          simp only [fill, h32]
          go_wp2
          exact ⟨_, rfl, rfl, Below.refl _ _, trivial⟩
        · intro vs wq hB hm
          have h32 : vs 32 = .bool true := meets_get hm 5 rfl rfl rfl rfl
          clear hm
          simp only [fill, h32]
          go_wp2
          exact ⟨_, rfl, rfl, Below.refl _ _, trivial⟩
        · intro vs wq hB hm
          have h32 : vs 32 = .bool true := meets_get hm 5 rfl rfl rfl rfl
          clear hm
          simp only [fill, h32]
          go_wp2
          exact ⟨_, rfl, rfl, Below.refl _ _, trivial⟩
        · intro vs wq hB hm
          have h34 : vs 34 = .slice (some ⟨b, off, none⟩) n cap := meets_get hm 7 rfl rfl rfl rfl
          have h35 : vs 35 = .int .i64 (k : Int) := meets_get hm 8 rfl rfl rfl rfl
          have h32 : vs 32 = .bool true := meets_get hm 5 rfl rfl rfl rfl
          clear hm
          simp only [fill, h34, h35, h32]
          go_wp2
          exact ⟨_, rfl, rfl, Below.refl _ _, trivial⟩
        · intro vs wq hB hm
          have h36 : vs 36 = .pointer (some ⟨b, off + k * 3, none⟩) := meets_get hm 9 rfl rfl rfl rfl
          have h32 : vs 32 = .bool true := meets_get hm 5 rfl rfl rfl rfl
          clear hm
          have hm1 : wq.rangeAt b (off + k * 3) [.int .i64 (L k).flag, .bool (L k).has, .float .f64 (L k).price] := fun j v hv => by rw [hB.cell (by first | assumption | exact Nat.lt_of_lt_of_le (by assumption) (Below.size (by assumption)) | omega)]; exact hrk j v hv
          simp only [fill, h36, h32]
          refine load_mid_if (by rfl) 29 _ rfl b (off + k * 3) rfl _ _ hm1 Try.underlying29 rfl mk_info ?_
          go_wp2
          exact ⟨_, rfl, rfl, Below.refl _ _, trivial⟩
        · intro vs wq hB hm
          have h33 : vs 33 = .agg (#[.int .i64 JF, .bool JH, .float .f64 JP]) := meets_get hm 6 rfl rfl rfl rfl
          have h37 : vs 37 = .agg #[.int .i64 (L k).flag, .bool (L k).has, .float .f64 (L k).price] := meets_get hm 10 rfl rfl rfl rfl
          have h32 : vs 32 = .bool true := meets_get hm 5 rfl rfl rfl rfl
          clear hm
          simp only [fill, h33, h37, h32]
          go_wp2_with fail
          refine (kCk (by simp) _).mono ?_
          rintro e w1 ⟨rfl, hb1⟩
          go_wp2
          exact ⟨_, rfl, rfl, hb1, trivial⟩
        · intro vs wq hB hm
          have h38 : vs 38 = .bool true := meets_get hm 11 rfl rfl rfl rfl
          have h32 : vs 32 = .bool true := meets_get hm 5 rfl rfl rfl rfl
          clear hm
          simp only [fill, h38, h32]
          go_wp2
          exact ⟨_, rfl, rfl, Below.refl _ _, trivial⟩
        · intro vs wq hB hm
          have h32 : vs 32 = .bool true := meets_get hm 5 rfl rfl rfl rfl
          have h39 : vs 39 = .bool false := meets_get hm 12 rfl rfl rfl rfl
          clear hm
          simp only [fill, h32, h39]
          go_wp2
          exact ⟨_, rfl, rfl, Below.refl _ _, trivial⟩
        intro vs wq hB hm hne hlo
        have h27 : vs 27 = .slice (some ⟨b, off, none⟩) n cap := hm 0 _ _ _ rfl rfl rfl
        have h28 : vs 28 = .int .i64 (k : Int) := hm 1 _ _ _ rfl rfl rfl
        have h29 : vs 29 = .pointer (some ⟨b, off + k * 3, none⟩) := hm 2 _ _ _ rfl rfl rfl
        have h30 : vs 30 = .agg #[.int .i64 (L k).flag, .bool (L k).has, .float .f64 (L k).price] := hm 3 _ _ _ rfl rfl rfl
        have h31 : vs 31 = .bool true := hm 4 _ _ _ rfl rfl rfl
        have h32 : vs 32 = .bool true := hm 5 _ _ _ rfl rfl rfl
        have h33 : vs 33 = .agg (#[.int .i64 JF, .bool JH, .float .f64 JP]) := hm 6 _ _ _ rfl rfl rfl
        have h34 : vs 34 = .slice (some ⟨b, off, none⟩) n cap := hm 7 _ _ _ rfl rfl rfl
        have h35 : vs 35 = .int .i64 (k : Int) := hm 8 _ _ _ rfl rfl rfl
        have h36 : vs 36 = .pointer (some ⟨b, off + k * 3, none⟩) := hm 9 _ _ _ rfl rfl rfl
        have h37 : vs 37 = .agg #[.int .i64 (L k).flag, .bool (L k).has, .float .f64 (L k).price] := hm 10 _ _ _ rfl rfl rfl
        have h38 : vs 38 = .bool true := hm 11 _ _ _ rfl rfl rfl
        have h39 : vs 39 = .bool false := hm 12 _ _ _ rfl rfl rfl
        have h40 : vs 40 = .bool false := hm 13 _ _ _ rfl rfl rfl
        clear hne hlo
        simp only [fill, List.filterMap, List.take, List.drop, List.setIfInBounds_toArray, List.set_cons_zero, List.set_cons_succ, h27, h28, h29, h30, h31, h32, h33, h34, h35, h36, h37, h38, h39, h40]
        clear hm h27 h28 h29 h30 h31 h32 h33 h34 h35 h36 h37 h38 h39 h40
        go_wp2
        go_roundw
        case rel => exact ⟨k + 1, by omega, by go_num, belT hB0 hB, by rw [look_below hB s8]; exact l8⟩
        case measure => simp [intOf]; omega
    · obtain rfl : k = n := by omega
      have hBw := belT hb2 hB0
      by_cases hn0 : k = 0
      · subst hn0
        have e1 : JF = 0 := (congrArg Mk.flag hJ).symm
        have e2 : JH = false := (congrArg Mk.has hJ).symm
        have e3 : JP = 0 := (congrArg Mk.price hJ).symm
        clear hJ
        subst e1; subst e2; subst e3
        go_wp2_with fail
        refine (alive07 _).mono ?_
        rintro _ w3 ⟨rfl, hA⟩
        replace l8 : look w3 (w2.heap.size) = some (.cells (#[.int .i64 0, .bool false, .float .f64 0]) 29 (0, 0)) := by rw [look_below hA (look_lt l8)]; exact l8
        replace c80 : World.cell? w3 ⟨w2.heap.size, 0, none⟩ = some (.int .i64 0) := by rw [look_cell l8]; rfl
        replace c81 : World.cell? w3 ⟨w2.heap.size, 1, none⟩ = some (.bool false) := by rw [look_cell l8]; rfl
        replace c82 : World.cell? w3 ⟨w2.heap.size, 2, none⟩ = some (.float .f64 0) := by rw [look_cell l8]; rfl
        replace f8 := look_frozen l8
        replace s8 := look_lt l8
        go_wp2_with fail
        refine (kM _).mono ?_
        rintro _ w4 ⟨rfl, hA2⟩
        go_wp2
        go_ret
        exact ⟨rfl, belT (belT hBw hA) hA2⟩
      · have hk0 : ¬ (k : Int) = 0 := by omega
        have hkd : decide ((k : Int) = 0) = false := decide_eq_false hk0
        by_cases h1 : t < 0
        · skip
          go_wp2_with fail
          refine (alive07 _).mono ?_
          rintro _ w3 ⟨rfl, hA⟩
          go_wp2
          go_ret
          exact ⟨rfl, belT hBw hA⟩
        · by_cases h2 : t < (k : Int)
          · by_cases h3 : c < 0
            · have h2d : decide ((k : Int) ≤ t) = false := decide_eq_false (by omega)
              go_wp2_with fail
              refine (alive07 _).mono ?_
              rintro _ w3 ⟨rfl, hA⟩
              go_wp2
              go_ret
              exact ⟨rfl, belT hBw hA⟩
            · by_cases h4 : c ≤ (k : Int)
              · obtain ⟨tn, rfl⟩ := Int.eq_ofNat_of_zero_le (show 0 ≤ t by omega)
                obtain ⟨cn, rfl⟩ := Int.eq_ofNat_of_zero_le (show 0 ≤ c by omega)
                have h2d : decide ((k : Int) ≤ (tn : Int)) = false := decide_eq_false (by omega)
                have h4d : decide ((k : Int) < (cn : Int)) = false := decide_eq_false (by omega)
                have htn : tn < k := by omega
                have hcn : cn ≤ k := by omega
                have hXr2 := hXr
                have hp0 : ∀ i, i < k → (L i).price < 18446744073709551616 := hL
                have kO := fun v w h => calls_is (mjoin_any v (k - tn + tn) (thenC (shiftM L tn) (k - tn) L) w h (by
                  intro i hi
                  unfold thenC shiftM
                  split
                  · exact hL _ (by omega)
                  · exact hL _ (by omega))) (u := .agg #[.int .i64 JF, .bool JH, .float .f64 JP]) (by rw [fold_turn (by omega) hL, hJ])
                have kT := fun v w h => calls_is (mjoin_any v (k + 1) (thenC L k (fun _ => L tn)) w h (by
                  intro i hi
                  unfold thenC
                  split
                  · exact hL _ (by omega)
                  · exact hL _ htn)) (u := .agg #[.int .i64 JF, .bool JH, .float .f64 JP]) (by rw [fold_twice htn hL, hJ])
                have gA := fold_good (L := L) (k := cn) (fun i hi => hL i (by omega))
                have gB := fold_good (L := shiftM L cn) (k := k - cn) (fun i hi => hL _ (by omega))
                have hJP := fold_parts hcn hL
                rw [hJ] at hJP
                have kA := fun v w h => mjoin_any v cn L w h (fun i hi => hL i (by omega))
                have kB := fun v w h => mjoin_any v (k - cn) (shiftM L cn) w h (fun i hi => hL _ (by omega))
                obtain ⟨⟨AF, AH, AP⟩, hAe⟩ : ∃ j, foldM L cn = j := ⟨_, rfl⟩
                obtain ⟨⟨BF, BH, BP⟩, hBe⟩ : ∃ j, foldM (shiftM L cn) (k - cn) = j := ⟨_, rfl⟩
                rw [hAe] at gA hJP
                rw [hBe] at gB hJP
                simp only [hAe] at kA
                simp only [hBe] at kB
                have kP : ∀ b w, look w b = some (.cells #[.int .i64 AF, .bool AH, .float .f64 AP, .int .i64 BF, .bool BH, .float .f64 BP] 29 (0, 0)) → Calls Try.prog 18 #[.slice (some ⟨b, 0, none⟩) 2 2] w fun e w' => e = .returned (.agg #[.int .i64 JF, .bool JH, .float .f64 JP]) ∧ Below w.heap.size w w' := by
                  intro b w hl
                  refine calls_is (mjoin_any _ 2 (pairM ⟨AF, AH, AP⟩ ⟨BF, BH, BP⟩) w (SliceAt.row (by decide) (mC_len _) hl rfl) ?_) ?_
                  · intro i hi
                    have : i = 0 ∨ i = 1 := by omega
                    rcases this with rfl | rfl
                    · exact gA.2
                    · exact gB.2
                  · rw [fold_two gA.1 gB.1, hJP]
                clear hJ hJP hAe hBe gA gB hg kC kJ
                have hkk : k < 101 := by omega
                have hsz := hBw.size
                go_wp2_with fail
                refine wp_region_wordsB mixed 8 ([] :: [] :: [] :: [70, 71] :: [69, 72] :: [] :: [] :: [74, 75] :: []) (isFresh 29 wr.heap.size :: isV (.slice ad k cap) :: isV (.int .i64 (tn : Int)) :: isSl (k - tn) 3 (mC (shiftM L tn)) :: isOwn wr.heap.size 29 3 (k - tn) (rowsL (mC (shiftM L tn)) (k - tn)) :: isV (.slice ad k cap) :: isV (.int .i64 (tn : Int)) :: isSl tn 3 (mC L) :: []) (by decide) (by kernel_rfl)
                  ⟨stab_isFresh _ _, stab_isV _, stab_isV _, stab_isSl _ _ _, stab_isOwn _ _ _ _ _, stab_isV _, stab_isV _, stab_isSl _ _ _, trivial⟩ ⟨?_, ?_, ?_, ?_, ?_, ?_, ?_, ?_, trivial⟩ ?_
                · intro vs wq hB hm
                  clear hm
                  simp only [fill]
                  go_wp2
                  exact ⟨_, rfl, ⟨_, rfl, look_alloc_at _ _ _ rfl, hB.size⟩, (Below.refl _ _).alloc (Nat.le_refl _) _, fun b hb => by cases hb; exact ⟨Nat.le_refl _, by simp⟩⟩
                · intro vs wq hB hm
                  clear hm
                  simp only [fill]
                  go_wp2
                  exact ⟨_, rfl, rfl, Below.refl _ _, trivial⟩
                · intro vs wq hB hm
                  clear hm
                  simp only [fill]
                  go_wp2
                  exact ⟨_, rfl, rfl, Below.refl _ _, trivial⟩
                · intro vs wq hB hm
                  have h70 : vs 70 = .slice ad k cap := meets_get hm 1 rfl rfl rfl rfl
                  have h71 : vs 71 = .int .i64 (tn : Int) := meets_get hm 2 rfl rfl rfl rfl
                  clear hm
                  simp only [fill, h70, h71]
                  go_wp2
                  exact ⟨_, rfl, SliceAt.drop (hXr.below hB) htn, Below.refl _ _, trivial⟩
                · intro vs wq hB hm
                  have h69 := meets_get hm 0 rfl rfl rfl rfl
                  have h72 := meets_get hm 3 rfl rfl rfl rfl
                  clear hm
                  simp only [fill]
                  obtain ⟨bf, ef, lf, gf⟩ := h69
                  rw [ef]
                  refine append_fresh rfl _ _ 35 rfl wr.heap.size 29 i0 (.agg #[.int .i64 0, .bool false, .float .f64 0]) 3 24 Try.underlying35 hi hz0 hz1 hz2 rfl (by decide) bf rfl lf gf hB.size _ _ _ rfl (rowsL_len (mC_len _) _) (rowsL_ones (mC_ones _) _) (SliceAt.news (by decide) (mC_len _) h72) (by unfold maxLen; omega) (by omega) ?_
                  intro v' w' hw1 hw2
                  go_wp2
                  exact ⟨_, rfl, hw1, hw2, trivial⟩
                · intro vs wq hB hm
                  clear hm
                  simp only [fill]
                  go_wp2
                  exact ⟨_, rfl, rfl, Below.refl _ _, trivial⟩
                · intro vs wq hB hm
                  clear hm
                  simp only [fill]
                  go_wp2
                  exact ⟨_, rfl, rfl, Below.refl _ _, trivial⟩
                · intro vs wq hB hm
                  have h74 : vs 74 = .slice ad k cap := meets_get hm 5 rfl rfl rfl rfl
                  have h75 : vs 75 = .int .i64 (tn : Int) := meets_get hm 6 rfl rfl rfl rfl
                  clear hm
                  simp only [fill, h74, h75]
                  go_wp2
                  exact ⟨_, rfl, SliceAt.take (hXr.below hB) (by omega), Below.refl _ _, trivial⟩
                intro vs wq hB hm hne hlo
                have h69 := hm 0 _ _ _ rfl rfl rfl
                have h70 : vs 70 = .slice ad k cap := hm 1 _ _ _ rfl rfl rfl
                have h71 : vs 71 = .int .i64 (tn : Int) := hm 2 _ _ _ rfl rfl rfl
                have h72 := hm 3 _ _ _ rfl rfl rfl
                have h73 := hm 4 _ _ _ rfl rfl rfl
                have h74 : vs 74 = .slice ad k cap := hm 5 _ _ _ rfl rfl rfl
                have h75 : vs 75 = .int .i64 (tn : Int) := hm 6 _ _ _ rfl rfl rfl
                have h76 := hm 7 _ _ _ rfl rfl rfl
                clear hne hlo
                simp only [fill, List.filterMap, List.take, List.drop, List.setIfInBounds_toArray, List.set_cons_zero, List.set_cons_succ, h70, h71, h74, h75]
                clear hm h70 h71 h74 h75
                go_wp2_with (at_builtin; refine stop_here ?_)
                refine hidP ?_
                refine append_any _ rfl _ _ 35 rfl wr.heap.size 29 i0 (.agg #[.int .i64 0, .bool false, .float .f64 0]) 3 24 Try.underlying35 hi hz0 hz1 hz2 rfl (by decide) _ _ _ rfl h73 _ tn (rowsL (mC L) tn) rfl ?c1 ?c2 ?c3 ?c4 ?c5 ?c6 ?_
                case c1 => exact rowsL_len (mC_len _) _
                case c2 => exact rowsL_ones (mC_ones _) _
                case c3 => exact SliceAt.news (by decide) (mC_len _) h76
                case c4 => unfold maxLen; omega
                case c5 => omega
                case c6 => exact hB.size
                intro v10 w3 ho10 hg10
                rw [rowsL_then] at ho10
                have hB3 : Below wr.heap.size wr w3 := hB.grown hg10 hB.size (fun g e => (h73.lt g e).1)
                have hs10 : SliceAt w3 v10 (k - tn + tn) 3 (mC (thenC (shiftM L tn) (k - tn) L)) := (SliceAt.own (fun i => by rw [mC_then]; rfl) ho10).same (fun i _ => mC_then _ _ _ i)
                clear ho10 hg10 h72 h73 h76 hB
                replace l8 : look w3 w2.heap.size = some (.cells #[.int .i64 JF, .bool JH, .float .f64 JP] 29 (0, 0)) := by rw [look_below hB3 s8]; exact l8
                have s83 := look_lt l8
                have hX3 := hXr.below hB3
                have hX3' := hX3
                obtain ⟨ad', cap', e, _, _, hR⟩ := hX3'
                cases e
                obtain ⟨b, off, rfl, hb, hr⟩ := hR.resolve_left (by omega)
                have hrt := hr tn htn
                unfold mC at hrt
                clear hR hr
                go_wp2_with fail
                refine wp_region_wordsB mixed 8 ([] :: [] :: [78, 79] :: [] :: [] :: [81, 82] :: [83] :: [84] :: []) (isFresh 29 w3.heap.size :: isV (.slice (some ⟨b, off, none⟩) k cap) :: isOwn w3.heap.size 29 3 k (rowsL (mC L) k) :: isV (.slice (some ⟨b, off, none⟩) k cap) :: isV (.int .i64 (tn : Int)) :: isV (.pointer (some ⟨b, off + tn * 3, none⟩)) :: isV (.agg #[.int .i64 (L tn).flag, .bool (L tn).has, .float .f64 (L tn).price]) :: isRow 29 1 (#[.int .i64 (L tn).flag, .bool (L tn).has, .float .f64 (L tn).price]) :: []) (by decide) (by kernel_rfl)
                  ⟨stab_isFresh _ _, stab_isV _, stab_isOwn _ _ _ _ _, stab_isV _, stab_isV _, stab_isV _, stab_isV _, stab_isRow _ _ _, trivial⟩ ⟨?_, ?_, ?_, ?_, ?_, ?_, ?_, ?_, trivial⟩ ?_
                · intro vs wq hB hm
                  clear hm
                  simp only [fill]
                  go_wp2
                  exact ⟨_, rfl, ⟨_, rfl, look_alloc_at _ _ _ rfl, hB.size⟩, (Below.refl _ _).alloc (Nat.le_refl _) _, fun b hb => by cases hb; exact ⟨Nat.le_refl _, by simp⟩⟩
                · intro vs wq hB hm
                  clear hm
                  simp only [fill]
                  go_wp2
                  exact ⟨_, rfl, rfl, Below.refl _ _, trivial⟩
                · intro vs wq hB hm
                  have h78 := meets_get hm 0 rfl rfl rfl rfl
                  have h79 : vs 79 = .slice (some ⟨b, off, none⟩) k cap := meets_get hm 1 rfl rfl rfl rfl
                  clear hm
                  simp only [fill, h79]
                  obtain ⟨bf, ef, lf, gf⟩ := h78
                  rw [ef]
                  refine append_fresh rfl _ _ 35 rfl w3.heap.size 29 i0 (.agg #[.int .i64 0, .bool false, .float .f64 0]) 3 24 Try.underlying35 hi hz0 hz1 hz2 rfl (by decide) bf rfl lf gf hB.size _ _ _ rfl (rowsL_len (mC_len _) _) (rowsL_ones (mC_ones _) _) (SliceAt.news (by decide) (mC_len _) (hX3.below hB)) (by unfold maxLen; omega) (by omega) ?_
                  intro v' w' hw1 hw2
                  go_wp2
                  exact ⟨_, rfl, hw1, hw2, trivial⟩
                · intro vs wq hB hm
                  clear hm
                  simp only [fill]
                  go_wp2
                  exact ⟨_, rfl, rfl, Below.refl _ _, trivial⟩
                · intro vs wq hB hm
                  clear hm
                  simp only [fill]
                  go_wp2
                  exact ⟨_, rfl, rfl, Below.refl _ _, trivial⟩
                · intro vs wq hB hm
                  have h81 : vs 81 = .slice (some ⟨b, off, none⟩) k cap := meets_get hm 3 rfl rfl rfl rfl
                  have h82 : vs 82 = .int .i64 (tn : Int) := meets_get hm 4 rfl rfl rfl rfl
                  clear hm
                  simp only [fill, h81, h82]
                  go_wp2
                  exact ⟨_, rfl, rfl, Below.refl _ _, trivial⟩
                · intro vs wq hB hm
                  have h83 : vs 83 = .pointer (some ⟨b, off + tn * 3, none⟩) := meets_get hm 5 rfl rfl rfl rfl
                  clear hm
                  have hm1 : wq.rangeAt b (off + tn * 3) [.int .i64 (L tn).flag, .bool (L tn).has, .float .f64 (L tn).price] := fun j v hv => by rw [hB.cell (by first | assumption | exact Nat.lt_of_lt_of_le (by assumption) (Below.size (by assumption)) | omega)]; exact hrt j v hv
                  simp only [fill, h83]
                  go_wp2_with (refine wpList_load_mid rfl 29 _ rfl b (off + tn * 3) rfl _ _ hm1 Try.underlying29 rfl mk_info ?_)
                  exact ⟨_, rfl, rfl, Below.refl _ _, trivial⟩
                · intro vs wq hB hm
                  have h84 : vs 84 = .agg #[.int .i64 (L tn).flag, .bool (L tn).has, .float .f64 (L tn).price] := meets_get hm 6 rfl rfl rfl rfl
                  clear hm
                  simp only [fill, h84]
                  go_wp2
                  exact ⟨_, rfl, ⟨_, rfl, look_alloc_at _ _ _ rfl⟩, (Below.refl _ _).alloc (Nat.le_refl _) _, fun b hb => by cases hb; exact ⟨Nat.le_refl _, by simp⟩⟩
                intro vs wq hB hm hne hlo
                have h78 := hm 0 _ _ _ rfl rfl rfl
                have h79 : vs 79 = .slice (some ⟨b, off, none⟩) k cap := hm 1 _ _ _ rfl rfl rfl
                have h80 := hm 2 _ _ _ rfl rfl rfl
                have h81 : vs 81 = .slice (some ⟨b, off, none⟩) k cap := hm 3 _ _ _ rfl rfl rfl
                have h82 : vs 82 = .int .i64 (tn : Int) := hm 4 _ _ _ rfl rfl rfl
                have h83 : vs 83 = .pointer (some ⟨b, off + tn * 3, none⟩) := hm 5 _ _ _ rfl rfl rfl
                have h84 : vs 84 = .agg #[.int .i64 (L tn).flag, .bool (L tn).has, .float .f64 (L tn).price] := hm 6 _ _ _ rfl rfl rfl
                obtain ⟨b85, h85, l85⟩ := hm 7 _ _ _ rfl rfl rfl
                have lo85 : _ ≤ b85 ∧ b85 < wq.heap.size := hlo 7 _ _ rfl rfl rfl b85 (by rw [h85]; rfl)
                clear hne hlo
                simp only [fill, List.filterMap, List.take, List.drop, List.setIfInBounds_toArray, List.set_cons_zero, List.set_cons_succ, h79, h81, h82, h83, h84, h85]
                clear hm h79 h81 h82 h83 h84 h85
                go_wp2_with (at_builtin; refine stop_here ?_)
                refine hidP ?_
                refine append_any _ rfl _ _ 35 rfl w3.heap.size 29 i0 (.agg #[.int .i64 0, .bool false, .float .f64 0]) 3 24 Try.underlying35 hi hz0 hz1 hz2 rfl (by decide) _ _ _ rfl h80 _ 1 (rowsL (mC (fun _ => L tn)) 1) rfl ?d1 ?d2 ?d3 ?d4 ?d5 ?d6 ?_
                case d1 => exact rowsL_len (mC_len _) _
                case d2 => exact rowsL_ones (mC_ones _) _
                case d3 => exact .inr ⟨⟨b85, 0, none⟩, 1, rfl, fun j u hu => by rw [Addr.add_lit, look_cell l85, Nat.zero_add, ← hu, ← Array.getElem?_toList]; rfl⟩
                case d4 => unfold maxLen; omega
                case d5 => omega
                case d6 => exact hB.size
                intro v11 w4 ho11 hg11
                rw [rowsL_then] at ho11
                have hB4 : Below w3.heap.size w3 w4 := hB.grown hg11 hB.size (fun g e => (h80.lt g e).1)
                have hs11 : SliceAt w4 v11 (k + 1) 3 (mC (thenC L k (fun _ => L tn))) := (SliceAt.own (fun i => by rw [mC_then]; rfl) ho11).same (fun i _ => mC_then _ _ _ i)
                clear ho11 hg11 h80 hB l85 lo85
                replace l8 : look w4 w2.heap.size = some (.cells #[.int .i64 JF, .bool JH, .float .f64 JP] 29 (0, 0)) := by rw [look_below hB4 s83]; exact l8
                have s84 := look_lt l8
                have hX4 := hX3.below hB4
                have hs14 := hs10.below hB4
                have hBt := belT (belT hBw hB3) hB4
                clear hX3 hs10 hrt
                go_upto_region 16 with fail
                go_cut [12] from 13 (fun s12 we => ∃ b12, s12 = .pointer (some ⟨b12, 0, none⟩) ∧ look we b12 = some (.cells #[.int .i64 JF, .bool JH, .float .f64 JP] 29 (0, 0)) ∧ Below w4.heap.size w4 we)
                case first =>
                  by_cases hcc : cn < k
                  · have hcd : ¬ cap = cn := by obtain ⟨_, _, e, _, h3, _⟩ := hX4; cases e; omega
                    go_wp2_with fail
                    refine wp_region_wordsB mixed 11 ([] :: [] :: [87, 88] :: [89] :: [] :: [] :: [91, 92] :: [93] :: [90, 94] :: [95] :: [] :: []) (isV (.slice (some ⟨b, off, none⟩) k cap) :: isV (.int .i64 (cn : Int)) :: isSl cn 3 (mC L) :: isV (.agg #[.int .i64 AF, .bool AH, .float .f64 AP]) :: isV (.slice (some ⟨b, off, none⟩) k cap) :: isV (.int .i64 (cn : Int)) :: isSl (k - cn) 3 (mC (shiftM L cn)) :: isV (.agg #[.int .i64 BF, .bool BH, .float .f64 BP]) :: isRow 29 2 (#[.int .i64 AF, .bool AH, .float .f64 AP, .int .i64 BF, .bool BH, .float .f64 BP]) :: isV (.agg #[.int .i64 JF, .bool JH, .float .f64 JP]) :: isVar 29 (#[.int .i64 0, .bool false, .float .f64 0]) :: []) (by decide) (by kernel_rfl)
                      ⟨stab_isV _, stab_isV _, stab_isSl _ _ _, stab_isV _, stab_isV _, stab_isV _, stab_isSl _ _ _, stab_isV _, stab_isRow _ _ _, stab_isV _, stab_isVar _ _, trivial⟩ ⟨?_, ?_, ?_, ?_, ?_, ?_, ?_, ?_, ?_, ?_, ?_, trivial⟩ ?_
                    · intro vs wq hB hm
                      clear hm
                      simp only [fill]
                      go_wp2
                      exact ⟨_, rfl, rfl, Below.refl _ _, trivial⟩
                    · intro vs wq hB hm
                      clear hm
                      simp only [fill]
                      go_wp2
                      exact ⟨_, rfl, rfl, Below.refl _ _, trivial⟩
                    · intro vs wq hB hm
                      have h87 : vs 87 = .slice (some ⟨b, off, none⟩) k cap := meets_get hm 0 rfl rfl rfl rfl
                      have h88 : vs 88 = .int .i64 (cn : Int) := meets_get hm 1 rfl rfl rfl rfl
                      clear hm
                      simp only [fill, h87, h88]
                      go_wp2
                      exact ⟨_, rfl, SliceAt.take (hX4.below hB) (by omega), Below.refl _ _, trivial⟩
                    · intro vs wq hB hm
                      have h89 := meets_get hm 2 rfl rfl rfl rfl
                      clear hm
                      simp only [fill]
                      go_wp2_with fail
                      refine (kA _ _ h89).mono ?_
                      rintro e w1 ⟨rfl, hb1⟩
                      go_wp2
                      exact ⟨_, rfl, rfl, hb1, trivial⟩
                    · intro vs wq hB hm
                      clear hm
                      simp only [fill]
                      go_wp2
                      exact ⟨_, rfl, rfl, Below.refl _ _, trivial⟩
                    · intro vs wq hB hm
                      clear hm
                      simp only [fill]
                      go_wp2
                      exact ⟨_, rfl, rfl, Below.refl _ _, trivial⟩
                    · intro vs wq hB hm
                      have h91 : vs 91 = .slice (some ⟨b, off, none⟩) k cap := meets_get hm 4 rfl rfl rfl rfl
                      have h92 : vs 92 = .int .i64 (cn : Int) := meets_get hm 5 rfl rfl rfl rfl
                      clear hm
                      simp only [fill, h91, h92]
                      go_wp2
                      exact ⟨_, rfl, SliceAt.dropAt (hX4.below hB) hcc, Below.refl _ _, trivial⟩
                    · intro vs wq hB hm
                      have h93 := meets_get hm 6 rfl rfl rfl rfl
                      clear hm
                      simp only [fill]
                      go_wp2_with fail
                      refine (kB _ _ h93).mono ?_
                      rintro e w1 ⟨rfl, hb1⟩
                      go_wp2
                      exact ⟨_, rfl, rfl, hb1, trivial⟩
                    · intro vs wq hB hm
                      have h90 : vs 90 = .agg #[.int .i64 AF, .bool AH, .float .f64 AP] := meets_get hm 3 rfl rfl rfl rfl
                      have h94 : vs 94 = .agg #[.int .i64 BF, .bool BH, .float .f64 BP] := meets_get hm 7 rfl rfl rfl rfl
                      clear hm
                      simp only [fill, h90, h94]
                      go_wp2
                      exact ⟨_, rfl, ⟨_, rfl, look_alloc_at _ _ _ rfl⟩, (Below.refl _ _).alloc (Nat.le_refl _) _, fun b hb => by cases hb; exact ⟨Nat.le_refl _, by simp⟩⟩
                    · intro vs wq hB hm
                      obtain ⟨b95, h95, l95⟩ := meets_get hm 8 rfl rfl rfl rfl
                      clear hm
                      simp only [fill, h95]
                      go_wp2_with fail
                      refine (kP _ _ l95).mono ?_
                      rintro e w1 ⟨rfl, hb1⟩
                      go_wp2
                      exact ⟨_, rfl, rfl, hb1, trivial⟩
                    · intro vs wq hB hm
                      clear hm
                      simp only [fill]
                      go_wp2
                      exact ⟨_, rfl, ⟨_, rfl, look_alloc_at _ _ _ rfl⟩, (Below.refl _ _).alloc (Nat.le_refl _) _, fun b hb => by cases hb; exact ⟨Nat.le_refl _, by simp⟩⟩
                    intro vs wq hB hm hne hlo
                    have h87 : vs 87 = .slice (some ⟨b, off, none⟩) k cap := hm 0 _ _ _ rfl rfl rfl
                    have h88 : vs 88 = .int .i64 (cn : Int) := hm 1 _ _ _ rfl rfl rfl
                    have h89 := hm 2 _ _ _ rfl rfl rfl
                    have h90 : vs 90 = .agg #[.int .i64 AF, .bool AH, .float .f64 AP] := hm 3 _ _ _ rfl rfl rfl
                    have h91 : vs 91 = .slice (some ⟨b, off, none⟩) k cap := hm 4 _ _ _ rfl rfl rfl
                    have h92 : vs 92 = .int .i64 (cn : Int) := hm 5 _ _ _ rfl rfl rfl
                    have h93 := hm 6 _ _ _ rfl rfl rfl
                    have h94 : vs 94 = .agg #[.int .i64 BF, .bool BH, .float .f64 BP] := hm 7 _ _ _ rfl rfl rfl
                    obtain ⟨b95, h95, l95⟩ := hm 8 _ _ _ rfl rfl rfl
                    have h96 : vs 96 = .agg #[.int .i64 JF, .bool JH, .float .f64 JP] := hm 9 _ _ _ rfl rfl rfl
                    obtain ⟨b12, h12, l12⟩ := hm 10 _ _ _ rfl rfl rfl
                    have lo95 : _ ≤ b95 ∧ b95 < wq.heap.size := hlo 8 _ _ rfl rfl rfl b95 (by rw [h95]; rfl)
                    have lo12 : _ ≤ b12 ∧ b12 < wq.heap.size := hlo 10 _ _ rfl rfl rfl b12 (by rw [h12]; rfl)
                    have ne95_12 : b95 ≠ b12 := fun h => hne 8 10 _ _ _ _ (by omega) rfl rfl rfl rfl rfl rfl b95 (by rw [h95]; rfl) (by rw [h12, h]; rfl)
                    clear hne hlo
                    simp only [fill, List.filterMap, List.take, List.drop, List.setIfInBounds_toArray, List.set_cons_zero, List.set_cons_succ, h87, h88, h90, h91, h92, h94, h95, h96, h12]
                    clear hm h87 h88 h90 h91 h92 h94 h95 h96 h12
                    go_wp2
                    go_meet
                    case rel => exact ⟨b12, rfl, by rw [look_setRow, if_pos rfl, l12]; rfl, below_setRow hB lo12.1 _⟩
                  · obtain rfl : cn = k := by omega
                    by_cases hcd : cap = cn
                    · subst hcd
                      go_wp2_with fail
                      refine wp_region_wordsB mixed 11 ([] :: [] :: [87, 88] :: [89] :: [] :: [] :: [91, 92] :: [93] :: [90, 94] :: [95] :: [] :: []) (isV (.slice (some ⟨b, off, none⟩) cap cap) :: isV (.int .i64 (cap : Int)) :: isSl cap 3 (mC L) :: isV (.agg #[.int .i64 AF, .bool AH, .float .f64 AP]) :: isV (.slice (some ⟨b, off, none⟩) cap cap) :: isV (.int .i64 (cap : Int)) :: isSl (cap - cap) 3 (mC (shiftM L cap)) :: isV (.agg #[.int .i64 BF, .bool BH, .float .f64 BP]) :: isRow 29 2 (#[.int .i64 AF, .bool AH, .float .f64 AP, .int .i64 BF, .bool BH, .float .f64 BP]) :: isV (.agg #[.int .i64 JF, .bool JH, .float .f64 JP]) :: isVar 29 (#[.int .i64 0, .bool false, .float .f64 0]) :: []) (by decide) (by kernel_rfl)
                        ⟨stab_isV _, stab_isV _, stab_isSl _ _ _, stab_isV _, stab_isV _, stab_isV _, stab_isSl _ _ _, stab_isV _, stab_isRow _ _ _, stab_isV _, stab_isVar _ _, trivial⟩ ⟨?_, ?_, ?_, ?_, ?_, ?_, ?_, ?_, ?_, ?_, ?_, trivial⟩ ?_
                      · intro vs wq hB hm
                        clear hm
                        simp only [fill]
                        go_wp2
                        exact ⟨_, rfl, rfl, Below.refl _ _, trivial⟩
                      · intro vs wq hB hm
                        clear hm
                        simp only [fill]
                        go_wp2
                        exact ⟨_, rfl, rfl, Below.refl _ _, trivial⟩
                      · intro vs wq hB hm
                        have h87 : vs 87 = .slice (some ⟨b, off, none⟩) cap cap := meets_get hm 0 rfl rfl rfl rfl
                        have h88 : vs 88 = .int .i64 (cap : Int) := meets_get hm 1 rfl rfl rfl rfl
                        clear hm
                        simp only [fill, h87, h88]
                        go_wp2
                        exact ⟨_, rfl, SliceAt.take (hX4.below hB) (by omega), Below.refl _ _, trivial⟩
                      · intro vs wq hB hm
                        have h89 := meets_get hm 2 rfl rfl rfl rfl
                        clear hm
                        simp only [fill]
                        go_wp2_with fail
                        refine (kA _ _ h89).mono ?_
                        rintro e w1 ⟨rfl, hb1⟩
                        go_wp2
                        exact ⟨_, rfl, rfl, hb1, trivial⟩
                      · intro vs wq hB hm
                        clear hm
                        simp only [fill]
                        go_wp2
                        exact ⟨_, rfl, rfl, Below.refl _ _, trivial⟩
                      · intro vs wq hB hm
                        clear hm
                        simp only [fill]
                        go_wp2
                        exact ⟨_, rfl, rfl, Below.refl _ _, trivial⟩
                      · intro vs wq hB hm
                        have h91 : vs 91 = .slice (some ⟨b, off, none⟩) cap cap := meets_get hm 4 rfl rfl rfl rfl
                        have h92 : vs 92 = .int .i64 (cap : Int) := meets_get hm 5 rfl rfl rfl rfl
                        clear hm
                        simp only [fill, h91, h92]
                        go_wp2
                        exact ⟨_, rfl, (by rw [Nat.sub_self]; exact SliceAt.zero _ _ _ _ _), Below.refl _ _, trivial⟩
                      · intro vs wq hB hm
                        have h93 := meets_get hm 6 rfl rfl rfl rfl
                        clear hm
                        simp only [fill]
                        go_wp2_with fail
                        refine (kB _ _ h93).mono ?_
                        rintro e w1 ⟨rfl, hb1⟩
                        go_wp2
                        exact ⟨_, rfl, rfl, hb1, trivial⟩
                      · intro vs wq hB hm
                        have h90 : vs 90 = .agg #[.int .i64 AF, .bool AH, .float .f64 AP] := meets_get hm 3 rfl rfl rfl rfl
                        have h94 : vs 94 = .agg #[.int .i64 BF, .bool BH, .float .f64 BP] := meets_get hm 7 rfl rfl rfl rfl
                        clear hm
                        simp only [fill, h90, h94]
                        go_wp2
                        exact ⟨_, rfl, ⟨_, rfl, look_alloc_at _ _ _ rfl⟩, (Below.refl _ _).alloc (Nat.le_refl _) _, fun b hb => by cases hb; exact ⟨Nat.le_refl _, by simp⟩⟩
                      · intro vs wq hB hm
                        obtain ⟨b95, h95, l95⟩ := meets_get hm 8 rfl rfl rfl rfl
                        clear hm
                        simp only [fill, h95]
                        go_wp2_with fail
                        refine (kP _ _ l95).mono ?_
                        rintro e w1 ⟨rfl, hb1⟩
                        go_wp2
                        exact ⟨_, rfl, rfl, hb1, trivial⟩
                      · intro vs wq hB hm
                        clear hm
                        simp only [fill]
                        go_wp2
                        exact ⟨_, rfl, ⟨_, rfl, look_alloc_at _ _ _ rfl⟩, (Below.refl _ _).alloc (Nat.le_refl _) _, fun b hb => by cases hb; exact ⟨Nat.le_refl _, by simp⟩⟩
                      intro vs wq hB hm hne hlo
                      have h87 : vs 87 = .slice (some ⟨b, off, none⟩) cap cap := hm 0 _ _ _ rfl rfl rfl
                      have h88 : vs 88 = .int .i64 (cap : Int) := hm 1 _ _ _ rfl rfl rfl
                      have h89 := hm 2 _ _ _ rfl rfl rfl
                      have h90 : vs 90 = .agg #[.int .i64 AF, .bool AH, .float .f64 AP] := hm 3 _ _ _ rfl rfl rfl
                      have h91 : vs 91 = .slice (some ⟨b, off, none⟩) cap cap := hm 4 _ _ _ rfl rfl rfl
                      have h92 : vs 92 = .int .i64 (cap : Int) := hm 5 _ _ _ rfl rfl rfl
                      have h93 := hm 6 _ _ _ rfl rfl rfl
                      have h94 : vs 94 = .agg #[.int .i64 BF, .bool BH, .float .f64 BP] := hm 7 _ _ _ rfl rfl rfl
                      obtain ⟨b95, h95, l95⟩ := hm 8 _ _ _ rfl rfl rfl
                      have h96 : vs 96 = .agg #[.int .i64 JF, .bool JH, .float .f64 JP] := hm 9 _ _ _ rfl rfl rfl
                      obtain ⟨b12, h12, l12⟩ := hm 10 _ _ _ rfl rfl rfl
                      have lo95 : _ ≤ b95 ∧ b95 < wq.heap.size := hlo 8 _ _ rfl rfl rfl b95 (by rw [h95]; rfl)
                      have lo12 : _ ≤ b12 ∧ b12 < wq.heap.size := hlo 10 _ _ rfl rfl rfl b12 (by rw [h12]; rfl)
                      have ne95_12 : b95 ≠ b12 := fun h => hne 8 10 _ _ _ _ (by omega) rfl rfl rfl rfl rfl rfl b95 (by rw [h95]; rfl) (by rw [h12, h]; rfl)
                      clear hne hlo
                      simp only [fill, List.filterMap, List.take, List.drop, List.setIfInBounds_toArray, List.set_cons_zero, List.set_cons_succ, h87, h88, h90, h91, h92, h94, h95, h96, h12]
                      clear hm h87 h88 h90 h91 h92 h94 h95 h96 h12
                      go_wp2
                      go_meet
                      case rel => exact ⟨b12, rfl, by rw [look_setRow, if_pos rfl, l12]; rfl, below_setRow hB lo12.1 _⟩
                    · skip
                      go_wp2_with fail
                      refine wp_region_wordsB mixed 11 ([] :: [] :: [87, 88] :: [89] :: [] :: [] :: [91, 92] :: [93] :: [90, 94] :: [95] :: [] :: []) (isV (.slice (some ⟨b, off, none⟩) cn cap) :: isV (.int .i64 (cn : Int)) :: isSl cn 3 (mC L) :: isV (.agg #[.int .i64 AF, .bool AH, .float .f64 AP]) :: isV (.slice (some ⟨b, off, none⟩) cn cap) :: isV (.int .i64 (cn : Int)) :: isSl (cn - cn) 3 (mC (shiftM L cn)) :: isV (.agg #[.int .i64 BF, .bool BH, .float .f64 BP]) :: isRow 29 2 (#[.int .i64 AF, .bool AH, .float .f64 AP, .int .i64 BF, .bool BH, .float .f64 BP]) :: isV (.agg #[.int .i64 JF, .bool JH, .float .f64 JP]) :: isVar 29 (#[.int .i64 0, .bool false, .float .f64 0]) :: []) (by decide) (by kernel_rfl)
                        ⟨stab_isV _, stab_isV _, stab_isSl _ _ _, stab_isV _, stab_isV _, stab_isV _, stab_isSl _ _ _, stab_isV _, stab_isRow _ _ _, stab_isV _, stab_isVar _ _, trivial⟩ ⟨?_, ?_, ?_, ?_, ?_, ?_, ?_, ?_, ?_, ?_, ?_, trivial⟩ ?_
                      · intro vs wq hB hm
                        clear hm
                        simp only [fill]
                        go_wp2
                        exact ⟨_, rfl, rfl, Below.refl _ _, trivial⟩
                      · intro vs wq hB hm
                        clear hm
                        simp only [fill]
                        go_wp2
                        exact ⟨_, rfl, rfl, Below.refl _ _, trivial⟩
                      · intro vs wq hB hm
                        have h87 : vs 87 = .slice (some ⟨b, off, none⟩) cn cap := meets_get hm 0 rfl rfl rfl rfl
                        have h88 : vs 88 = .int .i64 (cn : Int) := meets_get hm 1 rfl rfl rfl rfl
                        clear hm
                        simp only [fill, h87, h88]
                        go_wp2
                        exact ⟨_, rfl, SliceAt.take (hX4.below hB) (by omega), Below.refl _ _, trivial⟩
                      · intro vs wq hB hm
                        have h89 := meets_get hm 2 rfl rfl rfl rfl
                        clear hm
                        simp only [fill]
                        go_wp2_with fail
                        refine (kA _ _ h89).mono ?_
                        rintro e w1 ⟨rfl, hb1⟩
                        go_wp2
                        exact ⟨_, rfl, rfl, hb1, trivial⟩
                      · intro vs wq hB hm
                        clear hm
                        simp only [fill]
                        go_wp2
                        exact ⟨_, rfl, rfl, Below.refl _ _, trivial⟩
                      · intro vs wq hB hm
                        clear hm
                        simp only [fill]
                        go_wp2
                        exact ⟨_, rfl, rfl, Below.refl _ _, trivial⟩
                      · intro vs wq hB hm
                        have h91 : vs 91 = .slice (some ⟨b, off, none⟩) cn cap := meets_get hm 4 rfl rfl rfl rfl
                        have h92 : vs 92 = .int .i64 (cn : Int) := meets_get hm 5 rfl rfl rfl rfl
                        clear hm
                        simp only [fill, h91, h92]
                        go_wp2
                        exact ⟨_, rfl, (by rw [Nat.sub_self]; exact SliceAt.zero _ _ _ _ _), Below.refl _ _, trivial⟩
                      · intro vs wq hB hm
                        have h93 := meets_get hm 6 rfl rfl rfl rfl
                        clear hm
                        simp only [fill]
                        go_wp2_with fail
                        refine (kB _ _ h93).mono ?_
                        rintro e w1 ⟨rfl, hb1⟩
                        go_wp2
                        exact ⟨_, rfl, rfl, hb1, trivial⟩
                      · intro vs wq hB hm
                        have h90 : vs 90 = .agg #[.int .i64 AF, .bool AH, .float .f64 AP] := meets_get hm 3 rfl rfl rfl rfl
                        have h94 : vs 94 = .agg #[.int .i64 BF, .bool BH, .float .f64 BP] := meets_get hm 7 rfl rfl rfl rfl
                        clear hm
                        simp only [fill, h90, h94]
                        go_wp2
                        exact ⟨_, rfl, ⟨_, rfl, look_alloc_at _ _ _ rfl⟩, (Below.refl _ _).alloc (Nat.le_refl _) _, fun b hb => by cases hb; exact ⟨Nat.le_refl _, by simp⟩⟩
                      · intro vs wq hB hm
                        obtain ⟨b95, h95, l95⟩ := meets_get hm 8 rfl rfl rfl rfl
                        clear hm
                        simp only [fill, h95]
                        go_wp2_with fail
                        refine (kP _ _ l95).mono ?_
                        rintro e w1 ⟨rfl, hb1⟩
                        go_wp2
                        exact ⟨_, rfl, rfl, hb1, trivial⟩
                      · intro vs wq hB hm
                        clear hm
                        simp only [fill]
                        go_wp2
                        exact ⟨_, rfl, ⟨_, rfl, look_alloc_at _ _ _ rfl⟩, (Below.refl _ _).alloc (Nat.le_refl _) _, fun b hb => by cases hb; exact ⟨Nat.le_refl _, by simp⟩⟩
                      intro vs wq hB hm hne hlo
                      have h87 : vs 87 = .slice (some ⟨b, off, none⟩) cn cap := hm 0 _ _ _ rfl rfl rfl
                      have h88 : vs 88 = .int .i64 (cn : Int) := hm 1 _ _ _ rfl rfl rfl
                      have h89 := hm 2 _ _ _ rfl rfl rfl
                      have h90 : vs 90 = .agg #[.int .i64 AF, .bool AH, .float .f64 AP] := hm 3 _ _ _ rfl rfl rfl
                      have h91 : vs 91 = .slice (some ⟨b, off, none⟩) cn cap := hm 4 _ _ _ rfl rfl rfl
                      have h92 : vs 92 = .int .i64 (cn : Int) := hm 5 _ _ _ rfl rfl rfl
                      have h93 := hm 6 _ _ _ rfl rfl rfl
                      have h94 : vs 94 = .agg #[.int .i64 BF, .bool BH, .float .f64 BP] := hm 7 _ _ _ rfl rfl rfl
                      obtain ⟨b95, h95, l95⟩ := hm 8 _ _ _ rfl rfl rfl
                      have h96 : vs 96 = .agg #[.int .i64 JF, .bool JH, .float .f64 JP] := hm 9 _ _ _ rfl rfl rfl
                      obtain ⟨b12, h12, l12⟩ := hm 10 _ _ _ rfl rfl rfl
                      have lo95 : _ ≤ b95 ∧ b95 < wq.heap.size := hlo 8 _ _ rfl rfl rfl b95 (by rw [h95]; rfl)
                      have lo12 : _ ≤ b12 ∧ b12 < wq.heap.size := hlo 10 _ _ rfl rfl rfl b12 (by rw [h12]; rfl)
                      have ne95_12 : b95 ≠ b12 := fun h => hne 8 10 _ _ _ _ (by omega) rfl rfl rfl rfl rfl rfl b95 (by rw [h95]; rfl) (by rw [h12, h]; rfl)
                      clear hne hlo
                      simp only [fill, List.filterMap, List.take, List.drop, List.setIfInBounds_toArray, List.set_cons_zero, List.set_cons_succ, h87, h88, h90, h91, h92, h94, h95, h96, h12]
                      clear hm h87 h88 h90 h91 h92 h94 h95 h96 h12
                      go_wp2
                      go_meet
                      case rel => exact ⟨b12, rfl, by rw [look_setRow, if_pos rfl, l12]; rfl, below_setRow hB lo12.1 _⟩
                case rest =>
                  obtain ⟨b12, rfl, l12, hB5⟩ := hcut
                  have s12 := look_lt l12
                  replace l8 : look wc w2.heap.size = some (.cells #[.int .i64 JF, .bool JH, .float .f64 JP] 29 (0, 0)) := by rw [look_below hB5 s84]; exact l8
                  have s85 := look_lt l8
                  have hs15 := hs14.below hB5
                  have hs16 := hs11.below hB5
                  have hBu := belT hBt hB5
                  go_wp2_with fail
                  refine wp_region_words mixed 22 ([] :: [97] :: [98] :: [99, 98] :: [98, 100] :: [101] :: [102] :: [103, 102] :: [102] :: [104, 105, 102] :: [102, 106] :: [107] :: [108] :: [109, 108] :: [108] :: [110, 111, 108] :: [108, 112] :: [113] :: [114] :: [114] :: [115, 116, 114] :: [114, 117] :: []) (isV (.bool true) :: isV (.bool true) :: isV (.agg (#[.int .i64 JF, .bool JH, .float .f64 JP])) :: isV (.bool true) :: isV (.bool true) :: isV (.bool true) :: isV (v10) :: isV (.agg #[.int .i64 JF, .bool JH, .float .f64 JP]) :: isV (.agg (#[.int .i64 JF, .bool JH, .float .f64 JP])) :: isV (.bool true) :: isV (.bool true) :: isV (.bool true) :: isV (v11) :: isV (.agg #[.int .i64 JF, .bool JH, .float .f64 JP]) :: isV (.agg (#[.int .i64 JF, .bool JH, .float .f64 JP])) :: isV (.bool true) :: isV (.bool true) :: isV (.bool true) :: isV (.agg (#[.int .i64 JF, .bool JH, .float .f64 JP])) :: isV (.agg (#[.int .i64 JF, .bool JH, .float .f64 JP])) :: isV (.bool true) :: isV (.bool true) :: []) (by decide) (by kernel_rfl)
                    ⟨stab_isV _, stab_isV _, stab_isV _, stab_isV _, stab_isV _, stab_isV _, stab_isV _, stab_isV _, stab_isV _, stab_isV _, stab_isV _, stab_isV _, stab_isV _, stab_isV _, stab_isV _, stab_isV _, stab_isV _, stab_isV _, stab_isV _, stab_isV _, stab_isV _, stab_isV _, trivial⟩ ⟨?_, ?_, ?_, ?_, ?_, ?_, ?_, ?_, ?_, ?_, ?_, ?_, ?_, ?_, ?_, ?_, ?_, ?_, ?_, ?_, ?_, ?_, trivial⟩ ?_
                  · intro vs wq hB hm
                    clear hm
                    simp only [fill]
                    go_wp2_with fail
                    refine (alive07 _).mono ?_
                    rintro e w1 ⟨rfl, hb1⟩
                    go_wp2
                    exact ⟨_, rfl, rfl, hb1, trivial⟩
                  · intro vs wq hB hm
                    have h97 : vs 97 = .bool true := meets_get hm 0 rfl rfl rfl rfl
                    clear hm
                    simp only [fill, h97]
                    go_wp2
                    exact ⟨_, rfl, rfl, Below.refl _ _, trivial⟩
                  · intro vs wq hB hm
                    have hl : look wq (w2.heap.size) = some (.cells (#[.int .i64 JF, .bool JH, .float .f64 JP]) 29 (0, 0)) := by rw [look_below hB (by first | omega | (simp only [World.size_alloc]; omega) | exact look_lt (by assumption) | (simp only [World.size_alloc, World.size_setCell]; omega) | (simp; omega))]; first | assumption | go_simp
                    have hc0 : World.cell? wq ⟨w2.heap.size, 0, none⟩ = some (.int .i64 JF) := by rw [look_cell hl]; rfl
                    have hc1 : World.cell? wq ⟨w2.heap.size, 1, none⟩ = some (.bool JH) := by rw [look_cell hl]; rfl
                    have hc2 : World.cell? wq ⟨w2.heap.size, 2, none⟩ = some (.float .f64 JP) := by rw [look_cell hl]; rfl
                    have h98 : vs 98 = .bool true := meets_get hm 1 rfl rfl rfl rfl
                    clear hm
                    simp only [fill, h98]
                    go_wp2
                    exact ⟨_, rfl, rfl, Below.refl _ _, trivial⟩
                  · intro vs wq hB hm
                    have h99 : vs 99 = .agg (#[.int .i64 JF, .bool JH, .float .f64 JP]) := meets_get hm 2 rfl rfl rfl rfl
                    have h98 : vs 98 = .bool true := meets_get hm 1 rfl rfl rfl rfl
                    clear hm
                    simp only [fill, h99, h98]
                    go_wp2_with fail
                    refine (kR _).mono ?_
                    rintro e w1 ⟨rfl, hb1⟩
                    go_wp2
                    exact ⟨_, rfl, rfl, hb1, trivial⟩
                  · intro vs wq hB hm
                    have h98 : vs 98 = .bool true := meets_get hm 1 rfl rfl rfl rfl
                    have h100 : vs 100 = .bool true := meets_get hm 3 rfl rfl rfl rfl
                    clear hm
                    simp only [fill, h98, h100]
                    go_wp2
                    exact ⟨_, rfl, rfl, Below.refl _ _, trivial⟩
                  · intro vs wq hB hm
                    have h101 : vs 101 = .bool true := meets_get hm 4 rfl rfl rfl rfl
                    clear hm
                    simp only [fill, h101]
                    go_wp2
                    exact ⟨_, rfl, rfl, Below.refl _ _, trivial⟩
                  · intro vs wq hB hm
                    have h102 : vs 102 = .bool true := meets_get hm 5 rfl rfl rfl rfl
                    clear hm
                    simp only [fill, h102]
                    go_wp2
                    exact ⟨_, rfl, rfl, Below.refl _ _, trivial⟩
                  · intro vs wq hB hm
                    have h103 : vs 103 = v10 := meets_get hm 6 rfl rfl rfl rfl
                    have h102 : vs 102 = .bool true := meets_get hm 5 rfl rfl rfl rfl
                    clear hm
                    simp only [fill, h103, h102]
                    go_wp2_with fail
                    refine (kO v10 _ (hs15.below hB)).mono ?_
                    rintro e w1 ⟨rfl, hb1⟩
                    go_wp2
                    exact ⟨_, rfl, rfl, hb1, trivial⟩
                  · intro vs wq hB hm
                    have hl : look wq (w2.heap.size) = some (.cells (#[.int .i64 JF, .bool JH, .float .f64 JP]) 29 (0, 0)) := by rw [look_below hB (by first | omega | (simp only [World.size_alloc]; omega) | exact look_lt (by assumption) | (simp only [World.size_alloc, World.size_setCell]; omega) | (simp; omega))]; first | assumption | go_simp
                    have hc0 : World.cell? wq ⟨w2.heap.size, 0, none⟩ = some (.int .i64 JF) := by rw [look_cell hl]; rfl
                    have hc1 : World.cell? wq ⟨w2.heap.size, 1, none⟩ = some (.bool JH) := by rw [look_cell hl]; rfl
                    have hc2 : World.cell? wq ⟨w2.heap.size, 2, none⟩ = some (.float .f64 JP) := by rw [look_cell hl]; rfl
                    have h102 : vs 102 = .bool true := meets_get hm 5 rfl rfl rfl rfl
                    clear hm
                    simp only [fill, h102]
                    go_wp2
                    exact ⟨_, rfl, rfl, Below.refl _ _, trivial⟩
                  · intro vs wq hB hm
                    have h104 : vs 104 = .agg #[.int .i64 JF, .bool JH, .float .f64 JP] := meets_get hm 7 rfl rfl rfl rfl
                    have h105 : vs 105 = .agg (#[.int .i64 JF, .bool JH, .float .f64 JP]) := meets_get hm 8 rfl rfl rfl rfl
                    have h102 : vs 102 = .bool true := meets_get hm 5 rfl rfl rfl rfl
                    clear hm
                    simp only [fill, h104, h105, h102]
                    go_wp2_with fail
                    refine (kM _).mono ?_
                    rintro e w1 ⟨rfl, hb1⟩
                    go_wp2
                    exact ⟨_, rfl, rfl, hb1, trivial⟩
                  · intro vs wq hB hm
                    have h102 : vs 102 = .bool true := meets_get hm 5 rfl rfl rfl rfl
                    have h106 : vs 106 = .bool true := meets_get hm 9 rfl rfl rfl rfl
                    clear hm
                    simp only [fill, h102, h106]
                    go_wp2
                    exact ⟨_, rfl, rfl, Below.refl _ _, trivial⟩
                  · intro vs wq hB hm
                    have h107 : vs 107 = .bool true := meets_get hm 10 rfl rfl rfl rfl
                    clear hm
                    simp only [fill, h107]
                    go_wp2
                    exact ⟨_, rfl, rfl, Below.refl _ _, trivial⟩
                  · intro vs wq hB hm
                    have h108 : vs 108 = .bool true := meets_get hm 11 rfl rfl rfl rfl
                    clear hm
                    simp only [fill, h108]
                    go_wp2
                    exact ⟨_, rfl, rfl, Below.refl _ _, trivial⟩
                  · intro vs wq hB hm
                    have h109 : vs 109 = v11 := meets_get hm 12 rfl rfl rfl rfl
                    have h108 : vs 108 = .bool true := meets_get hm 11 rfl rfl rfl rfl
                    clear hm
                    simp only [fill, h109, h108]
                    go_wp2_with fail
                    refine (kT v11 _ (hs16.below hB)).mono ?_
                    rintro e w1 ⟨rfl, hb1⟩
                    go_wp2
                    exact ⟨_, rfl, rfl, hb1, trivial⟩
                  · intro vs wq hB hm
                    have hl : look wq (w2.heap.size) = some (.cells (#[.int .i64 JF, .bool JH, .float .f64 JP]) 29 (0, 0)) := by rw [look_below hB (by first | omega | (simp only [World.size_alloc]; omega) | exact look_lt (by assumption) | (simp only [World.size_alloc, World.size_setCell]; omega) | (simp; omega))]; first | assumption | go_simp
                    have hc0 : World.cell? wq ⟨w2.heap.size, 0, none⟩ = some (.int .i64 JF) := by rw [look_cell hl]; rfl
                    have hc1 : World.cell? wq ⟨w2.heap.size, 1, none⟩ = some (.bool JH) := by rw [look_cell hl]; rfl
                    have hc2 : World.cell? wq ⟨w2.heap.size, 2, none⟩ = some (.float .f64 JP) := by rw [look_cell hl]; rfl
                    have h108 : vs 108 = .bool true := meets_get hm 11 rfl rfl rfl rfl
                    clear hm
                    simp only [fill, h108]
                    go_wp2
                    exact ⟨_, rfl, rfl, Below.refl _ _, trivial⟩
                  · intro vs wq hB hm
                    have h110 : vs 110 = .agg #[.int .i64 JF, .bool JH, .float .f64 JP] := meets_get hm 13 rfl rfl rfl rfl
                    have h111 : vs 111 = .agg (#[.int .i64 JF, .bool JH, .float .f64 JP]) := meets_get hm 14 rfl rfl rfl rfl
                    have h108 : vs 108 = .bool true := meets_get hm 11 rfl rfl rfl rfl
                    clear hm
                    simp only [fill, h110, h111, h108]
                    go_wp2_with fail
                    refine (kM _).mono ?_
                    rintro e w1 ⟨rfl, hb1⟩
                    go_wp2
                    exact ⟨_, rfl, rfl, hb1, trivial⟩
                  · intro vs wq hB hm
                    have h108 : vs 108 = .bool true := meets_get hm 11 rfl rfl rfl rfl
                    have h112 : vs 112 = .bool true := meets_get hm 15 rfl rfl rfl rfl
                    clear hm
                    simp only [fill, h108, h112]
                    go_wp2
                    exact ⟨_, rfl, rfl, Below.refl _ _, trivial⟩
                  · intro vs wq hB hm
                    have h113 : vs 113 = .bool true := meets_get hm 16 rfl rfl rfl rfl
                    clear hm
                    simp only [fill, h113]
                    go_wp2
                    exact ⟨_, rfl, rfl, Below.refl _ _, trivial⟩
                  · intro vs wq hB hm
                    have hl : look wq (b12) = some (.cells (#[.int .i64 JF, .bool JH, .float .f64 JP]) 29 (0, 0)) := by rw [look_below hB (by first | omega | (simp only [World.size_alloc]; omega) | exact look_lt (by assumption) | (simp only [World.size_alloc, World.size_setCell]; omega) | (simp; omega))]; first | assumption | go_simp
                    have hc0 : World.cell? wq ⟨b12, 0, none⟩ = some (.int .i64 JF) := by rw [look_cell hl]; rfl
                    have hc1 : World.cell? wq ⟨b12, 1, none⟩ = some (.bool JH) := by rw [look_cell hl]; rfl
                    have hc2 : World.cell? wq ⟨b12, 2, none⟩ = some (.float .f64 JP) := by rw [look_cell hl]; rfl
                    have h114 : vs 114 = .bool true := meets_get hm 17 rfl rfl rfl rfl
                    clear hm
                    simp only [fill, h114]
                    go_wp2
                    exact ⟨_, rfl, rfl, Below.refl _ _, trivial⟩
                  · intro vs wq hB hm
                    have hl : look wq (w2.heap.size) = some (.cells (#[.int .i64 JF, .bool JH, .float .f64 JP]) 29 (0, 0)) := by rw [look_below hB (by first | omega | (simp only [World.size_alloc]; omega) | exact look_lt (by assumption) | (simp only [World.size_alloc, World.size_setCell]; omega) | (simp; omega))]; first | assumption | go_simp
                    have hc0 : World.cell? wq ⟨w2.heap.size, 0, none⟩ = some (.int .i64 JF) := by rw [look_cell hl]; rfl
                    have hc1 : World.cell? wq ⟨w2.heap.size, 1, none⟩ = some (.bool JH) := by rw [look_cell hl]; rfl
                    have hc2 : World.cell? wq ⟨w2.heap.size, 2, none⟩ = some (.float .f64 JP) := by rw [look_cell hl]; rfl
                    have h114 : vs 114 = .bool true := meets_get hm 17 rfl rfl rfl rfl
                    clear hm
                    simp only [fill, h114]
                    go_wp2
                    exact ⟨_, rfl, rfl, Below.refl _ _, trivial⟩
                  · intro vs wq hB hm
                    have h115 : vs 115 = .agg (#[.int .i64 JF, .bool JH, .float .f64 JP]) := meets_get hm 18 rfl rfl rfl rfl
                    have h116 : vs 116 = .agg (#[.int .i64 JF, .bool JH, .float .f64 JP]) := meets_get hm 19 rfl rfl rfl rfl
                    have h114 : vs 114 = .bool true := meets_get hm 17 rfl rfl rfl rfl
                    clear hm
                    simp only [fill, h115, h116, h114]
                    go_wp2_with fail
                    refine (kM _).mono ?_
                    rintro e w1 ⟨rfl, hb1⟩
                    go_wp2
                    exact ⟨_, rfl, rfl, hb1, trivial⟩
                  · intro vs wq hB hm
                    have h114 : vs 114 = .bool true := meets_get hm 17 rfl rfl rfl rfl
                    have h117 : vs 117 = .bool true := meets_get hm 20 rfl rfl rfl rfl
                    clear hm
                    simp only [fill, h114, h117]
                    go_wp2
                    exact ⟨_, rfl, rfl, Below.refl _ _, trivial⟩
                  intro vs wq hB hm hne hlo
                  have h97 : vs 97 = .bool true := hm 0 _ _ _ rfl rfl rfl
                  have h98 : vs 98 = .bool true := hm 1 _ _ _ rfl rfl rfl
                  have h99 : vs 99 = .agg (#[.int .i64 JF, .bool JH, .float .f64 JP]) := hm 2 _ _ _ rfl rfl rfl
                  have h100 : vs 100 = .bool true := hm 3 _ _ _ rfl rfl rfl
                  have h101 : vs 101 = .bool true := hm 4 _ _ _ rfl rfl rfl
                  have h102 : vs 102 = .bool true := hm 5 _ _ _ rfl rfl rfl
                  have h103 : vs 103 = v10 := hm 6 _ _ _ rfl rfl rfl
                  have h104 : vs 104 = .agg #[.int .i64 JF, .bool JH, .float .f64 JP] := hm 7 _ _ _ rfl rfl rfl
                  have h105 : vs 105 = .agg (#[.int .i64 JF, .bool JH, .float .f64 JP]) := hm 8 _ _ _ rfl rfl rfl
                  have h106 : vs 106 = .bool true := hm 9 _ _ _ rfl rfl rfl
                  have h107 : vs 107 = .bool true := hm 10 _ _ _ rfl rfl rfl
                  have h108 : vs 108 = .bool true := hm 11 _ _ _ rfl rfl rfl
                  have h109 : vs 109 = v11 := hm 12 _ _ _ rfl rfl rfl
                  have h110 : vs 110 = .agg #[.int .i64 JF, .bool JH, .float .f64 JP] := hm 13 _ _ _ rfl rfl rfl
                  have h111 : vs 111 = .agg (#[.int .i64 JF, .bool JH, .float .f64 JP]) := hm 14 _ _ _ rfl rfl rfl
                  have h112 : vs 112 = .bool true := hm 15 _ _ _ rfl rfl rfl
                  have h113 : vs 113 = .bool true := hm 16 _ _ _ rfl rfl rfl
                  have h114 : vs 114 = .bool true := hm 17 _ _ _ rfl rfl rfl
                  have h115 : vs 115 = .agg (#[.int .i64 JF, .bool JH, .float .f64 JP]) := hm 18 _ _ _ rfl rfl rfl
                  have h116 : vs 116 = .agg (#[.int .i64 JF, .bool JH, .float .f64 JP]) := hm 19 _ _ _ rfl rfl rfl
                  have h117 : vs 117 = .bool true := hm 20 _ _ _ rfl rfl rfl
                  have h118 : vs 118 = .bool true := hm 21 _ _ _ rfl rfl rfl
                  clear hne hlo
                  simp only [fill, List.filterMap, List.take, List.drop, List.setIfInBounds_toArray, List.set_cons_zero, List.set_cons_succ, h97, h98, h99, h100, h101, h102, h103, h104, h105, h106, h107, h108, h109, h110, h111, h112, h113, h114, h115, h116, h117, h118]
                  clear hm h97 h98 h99 h100 h101 h102 h103 h104 h105 h106 h107 h108 h109 h110 h111 h112 h113 h114 h115 h116 h117 h118
                  go_wp2
                  go_ret
                  exact ⟨rfl, belT hBu hB⟩
              · have h2d : decide ((k : Int) ≤ t) = false := decide_eq_false (by omega)
                have h4d : decide ((k : Int) < c) = true := decide_eq_true (by omega)
                go_wp2_with fail
                refine (alive07 _).mono ?_
                rintro _ w3 ⟨rfl, hA⟩
                go_wp2
                go_ret
                exact ⟨rfl, belT hBw hA⟩
          · have h2d : decide ((k : Int) ≤ t) = true := decide_eq_true (by omega)
            go_wp2_with fail
            refine (alive07 _).mono ?_
            rintro _ w3 ⟨rfl, hA⟩
            go_wp2
            go_ret
            exact ⟨rfl, belT hBw hA⟩
end Go.Proofs.Ytniphfkipjpikaa
