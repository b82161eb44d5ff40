/- WireWrites: the bytes of whatever is written are told; of nil there are none. -/
import Derived.Test.YtniphfkipjpikaaOpenP
namespace Go.Proofs.Ytniphfkipjpikaa
open Go.RowKit

theorem fltB_len2 (b : Nat) : (fltB b).length = 8 := fltTo_len _ _
theorem ptB_len (p : Pt) (h : p.bs.length ≤ 500) : (ptB p).length ≤ 510 := by
  have h1 := (numB_len p.n).2
  have h2 := (numB_len (zigN p.i)).2
  have h3 := (numB_len p.bs.length).2
  have h4 := fltB_len2 p.n
  have h5 := vecB_len3 p.v
  unfold ptB
  split
  · omega
  · split
    · unfold intB; omega
    · split
      · rw [List.length_append]; omega
      · split
        · omega
        · split
          · omega
          · simp
theorem bytes_from (B p : Nat) (g : Option Nat) (bs : List Nat) (w : World) (hB : B ≤ w.heap.size) (hlen : bs.length ≤ 1000000) (h : WrV w p g bs) :
    Calls Try.prog 32 #[.pointer (some ⟨p, 0, none⟩)] w fun e w' => ∃ u, e = .returned u ∧ ownB B bs u w' ∧ Below w.heap.size w w' := by
  refine (bytes_any p g bs w hlen h).mono ?_
  rintro e w' ⟨u, rfl, h1, h2⟩
  exact ⟨u, rfl, own_base h1 hB, h2⟩
theorem stab_ownB (B : Nat) (bs : List Nat) : ∀ v u u', ownB B bs v u → Below u.heap.size u u' → ownB B bs v u' := fun _ _ _ h hb => own_below h hb
theorem PTA_list (p : Pt) : (PTA p).toList.toArray = PTA p := rfl

theorem PtOk.below {w W : World} {p : Pt} (h : PtOk w p) (hb : Below w.heap.size w W) : PtOk W p := ⟨h.i, h.n, h.v, h.sl.below hb⟩
theorem pt_src {w : World} {p : Pt} (h : PtOk w p) {P : Nat} {g : Option Nat} (hP : w.heap.size ≤ P) (hg : ∀ q, g = some q → w.heap.size ≤ q) : ∀ b off n c, p.sl = .slice (some ⟨b, off, none⟩) n c → 0 < p.bs.length → b ≠ P ∧ some b ≠ g := by
  intro b off n c e hl
  obtain ⟨ad, cap, e1, _, _, h4⟩ := h.sl
  rcases h4 with h4 | ⟨b', off', e2, hb, _⟩
  · omega
  · rw [e1, e2] at e
    cases e
    exact ⟨by omega, fun e => by have := hg _ e.symm; omega⟩
theorem own_apart {w w1 : World} {base e s n p : Nat} {g : Option Nat} {v : Value} {xs : List Value} (h : w.ownsRow base e s v n xs) (hk : KeepsG p g w w1) (hq : ∀ q, v.ownBlock = some q → q ≠ p ∧ some q ≠ g) : w1.ownsRow base e s v n xs := by
  refine ⟨h.1, ?_⟩
  rcases h.2 with h2 | ⟨q, cap, cur, rfl, hb, hl, hr⟩
  · exact .inl h2
  · obtain ⟨k1, k2⟩ := hq q rfl
    refine .inr ⟨q, cap, cur, rfl, hb, ?_, hr⟩
    exact (hk.block q (look_lt hl) k1 k2).trans hl
theorem wr_grown {w w1 : World} {p : Nat} {g row : Option Nat} {bs : List Nat} (h : WrV w p g bs) (hg : w.grownBy w1 row) (hq : ∀ q, row = some q → q ≠ p ∧ some q ≠ g) : WrV w1 p g bs := by
  obtain ⟨v, h1, h2, rfl⟩ := h
  refine ⟨v, by rw [grown_look hg (look_lt h1) (fun q e => Ne.symm (hq q e).1)]; exact h1, h2.kept hg ?_, rfl⟩
  cases ho : v.ownBlock with
  | none => exact .inl rfl
  | some k =>
    right
    intro e
    exact (hq k e.symm).2 ho.symm
/-- A pointer to a writer is itself. -/
@[go_sem ↓] theorem neq_wr_same (a : Addr) (w : World) : (binOp .neq 56 (.pointer (some a)) (.pointer (some a))).run Try.prog w = .ok (.bool false) w := by
  have hs : (sizeOf 111).run Try.prog w = .ok 1 w := by kernel_rfl
  have hsame : (sameAddr a a).run Try.prog w = .ok true w := by
    unfold sameAddr
    rw [if_pos (by simp)]
    simp
  have h : (Op.equalIn 10000 56 (.pointer (some a)) (.pointer (some a))).run Try.prog w = .ok true w := by
    rw [Op.equalIn]
    simp only [Sem.run_bind, run_underlying Try.underlying56, Result.andThen_ok, hs]
    rw [if_pos (by decide)]
    exact hsame
  simp only [binOp]
  simp [Op.equal, Op.maxDepth, h]

set_option maxRecDepth 100000 in
set_option maxHeartbeats 6400000 in
theorem wireWrites_any (n cap : Nat) (ad : Option Addr) (L : Nat → Pt) (w : World) (hv : SliceAt w (.slice ad n cap) n 17 (ptC L)) (hL : ∀ k, k < n → PtOk w (L k)) :
    Calls Try.prog 8 #[.slice ad n cap] w fun e w' => e = .returned (.bool true) ∧ Below w.heap.size w w' := by
  obtain ⟨i0, hi, hz0, hz1, hz2⟩ := info_parts infoB
  obtain ⟨_, _, e, _, hcap, h4⟩ := hv
  cases e
  have hn63 : n ≤ 9223372036854775807 := hcap.2
  have hb0 := belA (bel0 w) (.cells #[.slice none 0 0] 111)
  go_enter Try.func8, Try.ntmps8
  go_wp2_with fail
  refine (new_any _).mono ?_
  rintro _ _ ⟨rfl, rfl⟩
  go_wp2_with fail
  go_loopw [5, 6] (fun wt x wr => ∃ (i : Nat) (bs : List Nat) (g : Option Nat), i ≤ n ∧ i ≤ 40 ∧ x = .int .i64 (i : Int) ∧ bs.length ≤ 510 * i ∧ WrV wr w.heap.size g bs ∧ wr.ownsRow w.heap.size 5 1 wt bs.length (bcells bs) ∧ (∀ q, wt.ownBlock = some q → some q ≠ g) ∧ (∀ q, g = some q → w.heap.size ≤ q) ∧ Below w.heap.size w wr) (fun _ x _ => (40 - intOf x).toNat)
  case atStart => exact ⟨0, [], none, by omega, by omega, rfl, by simp, wr_new w, World.ownsRow_nil _ _ _ _, (fun q e => by cases e), (fun q e => by cases e), hb0⟩
  case round =>
    obtain ⟨i, bs, g, hin, hi40, rfl, hbl, hW, hown, hdis, hgB, hBl⟩ := hrel
    by_cases hlt : i < n
    · by_cases h40 : i < 40
      · obtain ⟨b, off, rfl, hbw, hR⟩ := h4.resolve_left (by omega)
        have hok := hL i hlt
        have hri : ∀ u, Below w.heap.size w u → u.rangeAt b (off + i * 17) (PTA (L i)).toList := fun u hu j y hy => by
          rw [hu.cell hbw]
          exact hR i hlt j y hy
        have hr1 := hri _ hBl
        have hpar : (Try.prog.info? 67).map (·.size) = some (PTA (L i)).toList.length := by rw [Array.length_toList, PTA_size]; exact prt_info
        have hlth := hidP hlt
        have h40h := hidP h40
        have d40 : decide ((i : Int) < 40) = true := decide_eq_true (by omega)
        have hsz := hBl.size
        go_wp2_with (refine wpList_load_mid rfl 67 _ rfl b (off + i * 17) rfl (PTA (L i)).toList _ hr1 Try.underlying67 rfl hpar ?_; refine stop_here ?_)
        refine hidP ?_
        obtain ⟨P, hP⟩ : ∃ P, P = L i := ⟨_, rfl⟩
        rw [← hP] at hok hri hpar ⊢
        clear hP hr1
        have hl63 : P.bs.length ≤ 9223372036854775807 := by
          obtain ⟨_, _, e, _, h, _⟩ := hok.sl
          cases e
          exact h.2
        go_wp2_with fail
        refine (great_any P _ hl63).mono ?_
        rintro _ w1 ⟨rfl, hb1⟩
        have hB1 := belT hBl hb1
        by_cases hgr : P.bs.length ≤ 500
        · have dgr : decide ((500 : Int) < (P.bs.length : Int)) = false := decide_eq_false (by omega)
          rw [dgr]
          have hW1 := wr_keeps hW hb1
          have hown1 := own_below hown hb1
          have hr2 := hri _ hB1
          have hok1 := hok.below hB1
          have hsrc := pt_src hok (P := w.heap.size) (Nat.le_refl _) hgB
          have hpl := ptB_len P hgr
          have hp1 : w.heap.size < w1.heap.size := by obtain ⟨_, hl, _⟩ := hW1; exact look_lt hl
          clear hb1 hW hown hBl dgr hl63
          go_wp2_with (refine wpList_load_mid rfl 67 _ rfl b (off + i * 17) rfl (PTA P).toList _ hr2 Try.underlying67 rfl hpar ?_; refine stop_here ?_)
          refine hidP ?_
          go_wp2_with fail
          refine (put_any P w.heap.size g bs _ hok1 (by omega) (by omega) hW1 hsrc).mono ?_
          rintro _ w2 ⟨u, wm, rfl, ⟨g2, hv2, hn2, hk2⟩, hu, hb2⟩
          have hBm : Below w.heap.size w wm := hB1.trans (hk2.below (Nat.le_of_lt hp1) (Nat.le_refl _) hgB)
          have hB2 := belT hBm hb2
          have hg2B : ∀ q, g2 = some q → w.heap.size ≤ q := fun q e => by
            rcases hn2 with rfl | ⟨k, e2, hk⟩
            · exact hgB q e
            · rw [e2] at e; cases e; omega
          have hnp : ∀ q, u5.ownBlock = some q → q ≠ w.heap.size := fun q e => by
            obtain ⟨_, hl, _⟩ := hW1
            exact Ne.symm (own_not hown1 hl (by decide) q e)
          have hdis2 : ∀ q, u5.ownBlock = some q → some q ≠ g2 := fun q e => by
            rcases hn2 with rfl | ⟨k, e2, hk⟩
            · exact hdis q e
            · rw [e2]
              intro e3
              cases e3
              have := (hown1.lt q e).2
              omega
          have hownm := own_apart hown1 hk2 (fun q e => ⟨hnp q e, hdis q e⟩)
          have hown2 := own_below hownm hb2
          have hW2 := wr_keeps hv2 hb2
          have hr3 := hri _ hB2
          have hok2 := hok.below hB2
          have hg2s : ∀ q, g2 = some q → q < wm.heap.size := fun q e => by
            obtain ⟨v, _, ho, e2⟩ := hv2
            exact (ho.lt q (by rw [e2]; exact e)).2
          have hszm := hb2.size
          clear hn2 hk2 hv2 hownm hown1 hW1 hB1 hok1 hr2
          go_wp2_with (refine wpList_load_mid rfl 67 _ rfl b (off + i * 17) rfl (PTA P).toList _ hr3 Try.underlying67 rfl hpar ?_; refine stop_here ?_)
          refine hidP ?_
          go_wp2_with fail
          refine (put_nil P _ hok2 (by omega)).mono ?_
          rintro _ w3 ⟨⟨u', rfl⟩, hb3⟩
          have hB3 := belT hB2 hb3
          have hown3 := own_below hown2 hb3
          have hu3 := own_below hu hb3
          have hW3 := wr_keeps hW2 hb3
          have hsz3 := hb3.size
          clear hb3 hown2 hu hW2 hB2 hok2 hr3
          go_wp2_with (at_builtin; refine stop_here ?_)
          refine hidP ?_
          refine append_at _ rfl _ _ 55 rfl w.heap.size 5 i0 (.int .u8 0) 1 1 Try.underlying55 hi hz0 hz1 hz2 rfl (by decide) u5 bs.length (bcells bs) rfl hown3 u (ptB P).length (bcells (ptB P)) rfl ?d1 ?d2 ?d3 ?d4 ?d5 hB3.size ?_
          case d1 => rw [bcells_len, Nat.mul_one]
          case d2 => exact bcells_ones _
          case d3 => exact own_news hu3
          case d4 => unfold maxLen; omega
          case d5 => omega
          intro v4 w4 ho4 hg4 hat
          have hB4 := hB3.grown hg4 hB3.size (fun q e => (hown3.lt q e).1)
          have hW4 := wr_grown hW3 hg4 (fun q e => ⟨hnp q e, hdis2 q e⟩)
          have hdis4 : ∀ q, v4.ownBlock = some q → some q ≠ g2 := fun q e => by
            rcases hat with h | h
            · exact hdis2 q (h.symm.trans e)
            · rw [h] at e
              cases e
              intro e2
              have := hg2s _ e2.symm
              omega
          rw [← bcells_append, ← List.length_append] at ho4
          have hbl4 : (bs ++ ptB P).length ≤ 510 * (i + 1) := by rw [List.length_append]; omega
          clear hown3 hu3 hW3 hB3 hat hg4
          go_wp2
          go_roundw
          case rel => exact ⟨i + 1, bs ++ ptB P, g2, by have := hlth.out; omega, by have := h40h.out; omega, by go_num, hbl4, hW4, ho4, hdis4, hg2B, hB4⟩
          case measure => have := h40h.out; simp [intOf]; omega
        · have dgr : decide ((500 : Int) < (P.bs.length : Int)) = true := decide_eq_true (by omega)
          rw [dgr]
          go_wp2_with fail
          refine (alive03 _).mono ?_
          rintro _ w2 ⟨rfl, hb2⟩
          have hB2 := belT hB1 hb2
          go_wp2
          go_ret
          exact ⟨rfl, hB2⟩
      · have d40 : decide ((i : Int) < 40) = false := decide_eq_false (by omega)
        have hbl2 : bs.length ≤ 1000000 := by omega
        go_wp2_with fail
        refine wp_region_wordsB wmixed 13 ([] :: [58] :: [59] :: [60, 59] :: [61, 59] :: [59] :: [63, 59] :: [62, 64, 59] :: [59, 65] :: [66] :: [67] :: [68, 67] :: [69, 67] :: []) (isV (.bool true) :: isV (.bool true) :: isV (.pointer (some ⟨w.heap.size, 0, none⟩)) :: ownB wr.heap.size bs :: isV (.string (strN bs)) :: isV (u5) :: isV (.string (strN bs)) :: isV (.bool true) :: isV (.bool true) :: isV (.bool true) :: isV (.pointer none) :: isV (.slice none 0 0) :: isV (.int .i64 0) :: []) (by decide) (by kernel_rfl)
          ⟨stab_isV _, stab_isV _, stab_isV _, stab_ownB _ _, stab_isV _, stab_isV _, stab_isV _, stab_isV _, stab_isV _, stab_isV _, stab_isV _, stab_isV _, stab_isV _, trivial⟩ ⟨?_, ?_, ?_, ?_, ?_, ?_, ?_, ?_, ?_, ?_, ?_, ?_, ?_, trivial⟩ ?_
        · intro vs wq hB hm
          clear hm
          simp only [fill]
          go_wp2_with fail
          refine (alive03 _).mono ?_
          rintro e w1 ⟨rfl, hb1⟩
          go_wp2
          exact ⟨_, rfl, rfl, hb1, trivial⟩
        · intro vs wq hB hm
          have h58 : vs 58 = .bool true := meets_get hm 0 rfl rfl rfl rfl
          clear hm
          simp only [fill, h58]
          go_wp2
          exact ⟨_, rfl, rfl, Below.refl _ _, trivial⟩
        · intro vs wq hB hm
          have h59 : vs 59 = .bool true := meets_get hm 1 rfl rfl rfl rfl
          clear hm
          simp only [fill, h59]
          go_wp2
          exact ⟨_, rfl, rfl, Below.refl _ _, trivial⟩
        · intro vs wq hB hm
          have h60 : vs 60 = .pointer (some ⟨w.heap.size, 0, none⟩) := meets_get hm 2 rfl rfl rfl rfl
          have h59 : vs 59 = .bool true := meets_get hm 1 rfl rfl rfl rfl
          clear hm
          simp only [fill, h60, h59]
          go_wp2_with fail
          refine (bytes_from wr.heap.size w.heap.size g bs _ hB.size hbl2 (wr_keeps hW hB)).mono ?_
          rintro e w1 ⟨v, rfl, hW, hb1⟩
          go_wp2
          exact ⟨_, rfl, hW, hb1, trivial⟩
        · intro vs wq hB hm
          have h61 := meets_get hm 3 rfl rfl rfl rfl
          have h59 : vs 59 = .bool true := meets_get hm 1 rfl rfl rfl rfl
          clear hm
          have hc1 := conv_str (own_slice h61)
          simp only [fill, h59]
          go_wp2
          exact ⟨_, rfl, rfl, Below.refl _ _, trivial⟩
        · intro vs wq hB hm
          have h59 : vs 59 = .bool true := meets_get hm 1 rfl rfl rfl rfl
          clear hm
          simp only [fill, h59]
          go_wp2
          exact ⟨_, rfl, rfl, Below.refl _ _, trivial⟩
        · intro vs wq hB hm
          have h63 : vs 63 = u5 := meets_get hm 5 rfl rfl rfl rfl
          have h59 : vs 59 = .bool true := meets_get hm 1 rfl rfl rfl rfl
          clear hm
          have hc1 := conv_str (own_slice (own_below hown hB))
          simp only [fill, h63, h59]
          go_wp2
          exact ⟨_, rfl, rfl, Below.refl _ _, trivial⟩
        · intro vs wq hB hm
          have h62 : vs 62 = .string (strN bs) := meets_get hm 4 rfl rfl rfl rfl
          have h64 : vs 64 = .string (strN bs) := meets_get hm 6 rfl rfl rfl rfl
          have h59 : vs 59 = .bool true := meets_get hm 1 rfl rfl rfl rfl
          clear hm
          simp only [fill, h62, h64, h59]
          go_wp2
          exact ⟨_, rfl, rfl, Below.refl _ _, trivial⟩
        · intro vs wq hB hm
          have h59 : vs 59 = .bool true := meets_get hm 1 rfl rfl rfl rfl
          have h65 : vs 65 = .bool true := meets_get hm 7 rfl rfl rfl rfl
          clear hm
          simp only [fill, h59, h65]
          go_wp2
          exact ⟨_, rfl, rfl, Below.refl _ _, trivial⟩
        · intro vs wq hB hm
          have h66 : vs 66 = .bool true := meets_get hm 8 rfl rfl rfl rfl
          clear hm
          simp only [fill, h66]
          go_wp2
          exact ⟨_, rfl, rfl, Below.refl _ _, trivial⟩
        · intro vs wq hB hm
          have h67 : vs 67 = .bool true := meets_get hm 9 rfl rfl rfl rfl
          clear hm
          simp only [fill, h67]
          go_wp2
          exact ⟨_, rfl, rfl, Below.refl _ _, trivial⟩
        · intro vs wq hB hm
          have h68 : vs 68 = .pointer none := meets_get hm 10 rfl rfl rfl rfl
          have h67 : vs 67 = .bool true := meets_get hm 9 rfl rfl rfl rfl
          clear hm
          simp only [fill, h68, h67]
          go_wp2_with fail
          refine (bytes_nil _).mono ?_
          rintro e w1 ⟨rfl, hb1⟩
          go_wp2
          exact ⟨_, rfl, rfl, hb1, trivial⟩
        · intro vs wq hB hm
          have h69 : vs 69 = .slice none 0 0 := meets_get hm 11 rfl rfl rfl rfl
          have h67 : vs 67 = .bool true := meets_get hm 9 rfl rfl rfl rfl
          clear hm
          simp only [fill, h69, h67]
          go_wp2
          exact ⟨_, rfl, rfl, Below.refl _ _, trivial⟩
        intro vs wq hB hm hne hlo
        have h58 : vs 58 = .bool true := hm 0 _ _ _ rfl rfl rfl
        have h59 : vs 59 = .bool true := hm 1 _ _ _ rfl rfl rfl
        have h60 : vs 60 = .pointer (some ⟨w.heap.size, 0, none⟩) := hm 2 _ _ _ rfl rfl rfl
        have h61 := hm 3 _ _ _ rfl rfl rfl
        have h62 : vs 62 = .string (strN bs) := hm 4 _ _ _ rfl rfl rfl
        have h63 : vs 63 = u5 := hm 5 _ _ _ rfl rfl rfl
        have h64 : vs 64 = .string (strN bs) := hm 6 _ _ _ rfl rfl rfl
        have h65 : vs 65 = .bool true := hm 7 _ _ _ rfl rfl rfl
        have h66 : vs 66 = .bool true := hm 8 _ _ _ rfl rfl rfl
        have h67 : vs 67 = .bool true := hm 9 _ _ _ rfl rfl rfl
        have h68 : vs 68 = .pointer none := hm 10 _ _ _ rfl rfl rfl
        have h69 : vs 69 = .slice none 0 0 := hm 11 _ _ _ rfl rfl rfl
        have h70 : vs 70 = .int .i64 0 := hm 12 _ _ _ rfl rfl rfl
        clear hne hlo
        simp only [fill, List.filterMap, List.take, List.drop, List.setIfInBounds_toArray, List.set_cons_zero, List.set_cons_succ, h58, h59, h60, h62, h63, h64, h65, h66, h67, h68, h69, h70]
        clear hm h58 h59 h60 h62 h63 h64 h65 h66 h67 h68 h69 h70
        have hfin := belT hBl hB
        go_wp2
        go_ret
        exact ⟨rfl, hfin⟩
    · have dn : decide ((i : Int) < (n : Int)) = false := decide_eq_false (by omega)
      have hbl2 : bs.length ≤ 1000000 := by omega
      go_wp2_with fail
      refine wp_region_wordsB wmixed 13 ([] :: [58] :: [59] :: [60, 59] :: [61, 59] :: [59] :: [63, 59] :: [62, 64, 59] :: [59, 65] :: [66] :: [67] :: [68, 67] :: [69, 67] :: []) (isV (.bool true) :: isV (.bool true) :: isV (.pointer (some ⟨w.heap.size, 0, none⟩)) :: ownB wr.heap.size bs :: isV (.string (strN bs)) :: isV (u5) :: isV (.string (strN bs)) :: isV (.bool true) :: isV (.bool true) :: isV (.bool true) :: isV (.pointer none) :: isV (.slice none 0 0) :: isV (.int .i64 0) :: []) (by decide) (by kernel_rfl)
        ⟨stab_isV _, stab_isV _, stab_isV _, stab_ownB _ _, stab_isV _, stab_isV _, stab_isV _, stab_isV _, stab_isV _, stab_isV _, stab_isV _, stab_isV _, stab_isV _, trivial⟩ ⟨?_, ?_, ?_, ?_, ?_, ?_, ?_, ?_, ?_, ?_, ?_, ?_, ?_, trivial⟩ ?_
      · intro vs wq hB hm
        clear hm
        simp only [fill]
        go_wp2_with fail
        refine (alive03 _).mono ?_
        rintro e w1 ⟨rfl, hb1⟩
        go_wp2
        exact ⟨_, rfl, rfl, hb1, trivial⟩
      · intro vs wq hB hm
        have h58 : vs 58 = .bool true := meets_get hm 0 rfl rfl rfl rfl
        clear hm
        simp only [fill, h58]
        go_wp2
        exact ⟨_, rfl, rfl, Below.refl _ _, trivial⟩
      · intro vs wq hB hm
        have h59 : vs 59 = .bool true := meets_get hm 1 rfl rfl rfl rfl
        clear hm
        simp only [fill, h59]
        go_wp2
        exact ⟨_, rfl, rfl, Below.refl _ _, trivial⟩
      · intro vs wq hB hm
        have h60 : vs 60 = .pointer (some ⟨w.heap.size, 0, none⟩) := meets_get hm 2 rfl rfl rfl rfl
        have h59 : vs 59 = .bool true := meets_get hm 1 rfl rfl rfl rfl
        clear hm
        simp only [fill, h60, h59]
        go_wp2_with fail
        refine (bytes_from wr.heap.size w.heap.size g bs _ hB.size hbl2 (wr_keeps hW hB)).mono ?_
        rintro e w1 ⟨v, rfl, hW, hb1⟩
        go_wp2
        exact ⟨_, rfl, hW, hb1, trivial⟩
      · intro vs wq hB hm
        have h61 := meets_get hm 3 rfl rfl rfl rfl
        have h59 : vs 59 = .bool true := meets_get hm 1 rfl rfl rfl rfl
        clear hm
        have hc1 := conv_str (own_slice h61)
        simp only [fill, h59]
        go_wp2
        exact ⟨_, rfl, rfl, Below.refl _ _, trivial⟩
      · intro vs wq hB hm
        have h59 : vs 59 = .bool true := meets_get hm 1 rfl rfl rfl rfl
        clear hm
        simp only [fill, h59]
        go_wp2
        exact ⟨_, rfl, rfl, Below.refl _ _, trivial⟩
      · intro vs wq hB hm
        have h63 : vs 63 = u5 := meets_get hm 5 rfl rfl rfl rfl
        have h59 : vs 59 = .bool true := meets_get hm 1 rfl rfl rfl rfl
        clear hm
        have hc1 := conv_str (own_slice (own_below hown hB))
        simp only [fill, h63, h59]
        go_wp2
        exact ⟨_, rfl, rfl, Below.refl _ _, trivial⟩
      · intro vs wq hB hm
        have h62 : vs 62 = .string (strN bs) := meets_get hm 4 rfl rfl rfl rfl
        have h64 : vs 64 = .string (strN bs) := meets_get hm 6 rfl rfl rfl rfl
        have h59 : vs 59 = .bool true := meets_get hm 1 rfl rfl rfl rfl
        clear hm
        simp only [fill, h62, h64, h59]
        go_wp2
        exact ⟨_, rfl, rfl, Below.refl _ _, trivial⟩
      · intro vs wq hB hm
        have h59 : vs 59 = .bool true := meets_get hm 1 rfl rfl rfl rfl
        have h65 : vs 65 = .bool true := meets_get hm 7 rfl rfl rfl rfl
        clear hm
        simp only [fill, h59, h65]
        go_wp2
        exact ⟨_, rfl, rfl, Below.refl _ _, trivial⟩
      · intro vs wq hB hm
        have h66 : vs 66 = .bool true := meets_get hm 8 rfl rfl rfl rfl
        clear hm
        simp only [fill, h66]
        go_wp2
        exact ⟨_, rfl, rfl, Below.refl _ _, trivial⟩
      · intro vs wq hB hm
        have h67 : vs 67 = .bool true := meets_get hm 9 rfl rfl rfl rfl
        clear hm
        simp only [fill, h67]
        go_wp2
        exact ⟨_, rfl, rfl, Below.refl _ _, trivial⟩
      · intro vs wq hB hm
        have h68 : vs 68 = .pointer none := meets_get hm 10 rfl rfl rfl rfl
        have h67 : vs 67 = .bool true := meets_get hm 9 rfl rfl rfl rfl
        clear hm
        simp only [fill, h68, h67]
        go_wp2_with fail
        refine (bytes_nil _).mono ?_
        rintro e w1 ⟨rfl, hb1⟩
        go_wp2
        exact ⟨_, rfl, rfl, hb1, trivial⟩
      · intro vs wq hB hm
        have h69 : vs 69 = .slice none 0 0 := meets_get hm 11 rfl rfl rfl rfl
        have h67 : vs 67 = .bool true := meets_get hm 9 rfl rfl rfl rfl
        clear hm
        simp only [fill, h69, h67]
        go_wp2
        exact ⟨_, rfl, rfl, Below.refl _ _, trivial⟩
      intro vs wq hB hm hne hlo
      have h58 : vs 58 = .bool true := hm 0 _ _ _ rfl rfl rfl
      have h59 : vs 59 = .bool true := hm 1 _ _ _ rfl rfl rfl
      have h60 : vs 60 = .pointer (some ⟨w.heap.size, 0, none⟩) := hm 2 _ _ _ rfl rfl rfl
      have h61 := hm 3 _ _ _ rfl rfl rfl
      have h62 : vs 62 = .string (strN bs) := hm 4 _ _ _ rfl rfl rfl
      have h63 : vs 63 = u5 := hm 5 _ _ _ rfl rfl rfl
      have h64 : vs 64 = .string (strN bs) := hm 6 _ _ _ rfl rfl rfl
      have h65 : vs 65 = .bool true := hm 7 _ _ _ rfl rfl rfl
      have h66 : vs 66 = .bool true := hm 8 _ _ _ rfl rfl rfl
      have h67 : vs 67 = .bool true := hm 9 _ _ _ rfl rfl rfl
      have h68 : vs 68 = .pointer none := hm 10 _ _ _ rfl rfl rfl
      have h69 : vs 69 = .slice none 0 0 := hm 11 _ _ _ rfl rfl rfl
      have h70 : vs 70 = .int .i64 0 := hm 12 _ _ _ rfl rfl rfl
      clear hne hlo
      simp only [fill, List.filterMap, List.take, List.drop, List.setIfInBounds_toArray, List.set_cons_zero, List.set_cons_succ, h58, h59, h60, h62, h63, h64, h65, h66, h67, h68, h69, h70]
      clear hm h58 h59 h60 h62 h63 h64 h65 h66 h67 h68 h69 h70
      have hfin := belT hBl hB
      go_wp2
      go_ret
      exact ⟨rfl, hfin⟩
end Go.Proofs.Ytniphfkipjpikaa
