/- What the closures of truglaw03.alive read. -/
import Derived.Test.YtniphfkipjpikaaWirL
import Derived.Test.YtniphfkipjpikaaRegC
namespace Go.Proofs.Ytniphfkipjpikaa
open Go.RowKit
variable {X : Nat → Prop}

theorem wmixed : Try.prog.follows .mixedOrders = true := by kernel_rfl
/-- What is left of alive's bytes, when some of the calls have come up. -/
def stage (L : Nat → Bool) : List Nat := if L 8 = true then [] else if L 5 = true then [2, 0, 5] else if L 3 = true then [1, 97, 2, 0, 5] else if L 1 = true then [1, 1, 97, 2, 0, 5] else [130, 44, 1, 1, 97, 2, 0, 5]
theorem stage_set (L : Nat → Bool) (i : Nat) (h : i ≠ 1 ∧ i ≠ 3 ∧ i ≠ 5 ∧ i ≠ 8) : stage (setL L i) = stage L := by
  unfold stage setL
  rw [if_neg (Ne.symm h.2.2.2), if_neg (Ne.symm h.2.2.1), if_neg (Ne.symm h.2.1), if_neg (Ne.symm h.1)]
def aliveV : Nat → Nat := upd (upd (fun _ => 0) 0 0) 1 5
theorem dec_a1 : decN true 0 [130, 44, 1, 1, 97, 2, 0, 5] = .ok 300 [1, 1, 97, 2, 0, 5] := by rfl
theorem dec_a2 : decI [1, 1, 97, 2, 0, 5] = .ok (-1) [1, 97, 2, 0, 5] := by rfl
theorem dec_a3 : decT 9 [1, 97, 2, 0, 5] = .ok [97] [2, 0, 5] := by rfl
theorem dec_a4 : decV [2, 0, 5] = .ok aliveV [] := by rfl
theorem own_grown {B : Nat} {ts : List Nat} {v : Value} {p : Nat} {u u' : World} (h : ownB B ts v u) (hg : u.grownBy u' (some p)) (hp : p < B) : ownB B ts v u' := by
  refine h.kept (row := some p) hg ?_
  cases ho : v.ownBlock with
  | none => exact .inl rfl
  | some k =>
    right
    intro e
    cases e
    have := (h.lt p ho).1
    omega

set_option maxRecDepth 100000 in
set_option maxHeartbeats 3200000 in
theorem alive1_any (p B : Nat) (w : World) (hp : B + 4 ≤ p) (h : RdAt X w p [130, 44, 1, 1, 97, 2, 0, 5])
    (l1 : look w B = some (.cells #[.int .u64 0] 23 (0, 0))) (l2 : look w (B + 1) = some (.cells #[.int .i64 0] 3 (0, 0))) (l3 : look w (B + 2) = some (.cells #[.string ⟨#[]⟩] 9 (0, 0))) (l4 : look w (B + 3) = some (.cells (VA fun _ => 0) 65 (0, 0))) :
    Calls Try.prog 69 #[.pointer (some ⟨p, 0, none⟩), .pointer (some ⟨B, 0, none⟩), .pointer (some ⟨B + 1, 0, none⟩), .pointer (some ⟨B + 2, 0, none⟩), .pointer (some ⟨B + 3, 0, none⟩)] w fun e w' => e = .returned (.tuple #[]) ∧ RdAt X w' p [] ∧
      (look w' B = some (.cells #[.int .u64 300] 23 (0, 0)) ∧ look w' (B + 1) = some (.cells #[.int .i64 (-1)] 3 (0, 0)) ∧ look w' (B + 2) = some (.cells #[.string (strN [97])] 9 (0, 0)) ∧ look w' (B + 3) = some (.cells (VA aliveV) 65 (0, 0))) ∧
      (w'.os = w.os ∧ w'.tape = w.tape ∧ w'.output = w.output ∧ w.heap.size ≤ w'.heap.size) ∧ ∀ k, k < w.heap.size → k < B ∨ (B + 4 ≤ k ∧ k ≠ p) → w'.heap[k]? = w.heap[k]? := by
  have hpw : p < w.heap.size := by obtain ⟨_, hl, _⟩ := h; exact look_lt hl
  go_enter Try.func69, Try.ntmps69
  refine wp_region_lst wmixed (fun L u => w.grownBy u (some p) ∧ RdAt X u p (stage L)) (fun _ _ => False) (fun _ _ _ h => h.elim) (fun _ u u' => u.grownBy u' (some p)) ⟨grown_drew (grown_refl _ _), rdAt_below h (Below.refl _ _).drew⟩ 9
    ([] :: [6] :: [] :: [8] :: [] :: [10] :: [11] :: [] :: [13] :: [])
    (isV (.pointer (some ⟨p, 0, none⟩)) :: isV (.int .u64 300) :: isV (.pointer (some ⟨p, 0, none⟩)) :: isV (.int .i64 (-1)) :: isV (.pointer (some ⟨p, 0, none⟩)) :: ownB w.heap.size [97] :: isV (.string (strN [97])) :: isV (.pointer (some ⟨p, 0, none⟩)) :: isV (.agg (VA aliveV)) :: [])
    (by decide) (by kernel_rfl) ?_ ⟨?_, ?_, ?_, ?_, ?_, ?_, ?_, ?_, ?_, trivial⟩ ?_
  · intro i j S hij hS v u u' hv hR
    match j, hS with
    | 0, e => cases e; exact hv
    | 1, e => cases e; exact hv
    | 2, e => cases e; exact hv
    | 3, e => cases e; exact hv
    | 4, e => cases e; exact hv
    | 5, e => cases e; exact own_grown hv hR hpw
    | 6, e => cases e; exact hv
    | 7, e => cases e; exact hv
    | 8, e => cases e; exact hv
    | n + 9, e => simp at e
  · intro L vs u hL hw hcl hJ hm
    simp only [fill]
    go_wp2
    exact ⟨_, rfl, rfl, ⟨grown_refl _ _, ⟨hJ.1, by rw [stage_set L 0 (by decide)]; exact hJ.2⟩, Nat.le_refl _⟩, trivial⟩
  · intro L vs u hL hw hcl hJ hm
    have h6 : vs 6 = .pointer (some ⟨p, 0, none⟩) := meets_get hm 0 rfl rfl rfl rfl
    have L3 : L 3 = false := by
      cases e : L 3 with
      | false => rfl
      | true => exact absurd (hcl 3 _ e rfl 1 (by kernel_rfl)) (by rw [hL]; decide)
    have L5 : L 5 = false := by
      cases e : L 5 with
      | false => rfl
      | true => exact absurd (hcl 5 _ e rfl 3 (by kernel_rfl)) (by rw [L3]; decide)
    have L8 : L 8 = false := by
      cases e : L 8 with
      | false => rfl
      | true => exact absurd (hcl 8 _ e rfl 5 (by kernel_rfl)) (by rw [L5]; decide)
    have hst : stage L = [130, 44, 1, 1, 97, 2, 0, 5] := by unfold stage; simp [hL, L3, L5, L8]
    have hst2 : stage (setL L 1) = [1, 1, 97, 2, 0, 5] := by unfold stage setL; simp [L3, L5, L8]
    rw [hst] at hJ
    clear hm hw hcl
    simp only [fill, h6]
    go_wp2_with fail
    refine (rnum_any p _ _ (by decide) hJ.2).mono ?_
    rintro e u' ⟨hg, hr⟩
    rw [dec_a1] at hr
    obtain ⟨rfl, hrd⟩ := hr
    go_wp2
    exact ⟨_, rfl, rfl, ⟨hg, ⟨grown_trans hJ.1 hg, by rw [hst2]; exact hrd⟩, hg.size⟩, trivial⟩
  · intro L vs u hL hw hcl hJ hm
    simp only [fill]
    go_wp2
    exact ⟨_, rfl, rfl, ⟨grown_refl _ _, ⟨hJ.1, by rw [stage_set L 2 (by decide)]; exact hJ.2⟩, Nat.le_refl _⟩, trivial⟩
  · intro L vs u hL hw hcl hJ hm
    have h8 : vs 8 = .pointer (some ⟨p, 0, none⟩) := meets_get hm 2 rfl rfl rfl rfl
    have L5 : L 5 = false := by
      cases e : L 5 with
      | false => rfl
      | true => exact absurd (hcl 5 _ e rfl 3 (by kernel_rfl)) (by rw [hL]; decide)
    have L8 : L 8 = false := by
      cases e : L 8 with
      | false => rfl
      | true => exact absurd (hcl 8 _ e rfl 5 (by kernel_rfl)) (by rw [L5]; decide)
    have P1 : L 1 = true := hw 1 (by kernel_rfl)
    have hst : stage L = [1, 1, 97, 2, 0, 5] := by unfold stage; simp [hL, L5, L8, P1]
    have hst2 : stage (setL L 3) = [1, 97, 2, 0, 5] := by unfold stage setL; simp [L5, L8]
    rw [hst] at hJ
    clear hm hw hcl
    simp only [fill, h8]
    go_wp2_with fail
    refine (rint_any p _ _ (by decide) hJ.2).mono ?_
    rintro e u' ⟨hg, hr⟩
    rw [dec_a2] at hr
    obtain ⟨rfl, hrd⟩ := hr
    go_wp2
    exact ⟨_, rfl, rfl, ⟨hg, ⟨grown_trans hJ.1 hg, by rw [hst2]; exact hrd⟩, hg.size⟩, trivial⟩
  · intro L vs u hL hw hcl hJ hm
    simp only [fill]
    go_wp2
    exact ⟨_, rfl, rfl, ⟨grown_refl _ _, ⟨hJ.1, by rw [stage_set L 4 (by decide)]; exact hJ.2⟩, Nat.le_refl _⟩, trivial⟩
  · intro L vs u hL hw hcl hJ hm
    have h10 : vs 10 = .pointer (some ⟨p, 0, none⟩) := meets_get hm 4 rfl rfl rfl rfl
    have L8 : L 8 = false := by
      cases e : L 8 with
      | false => rfl
      | true => exact absurd (hcl 8 _ e rfl 5 (by kernel_rfl)) (by rw [hL]; decide)
    have P3 : L 3 = true := hw 3 (by kernel_rfl)
    have hst : stage L = [1, 97, 2, 0, 5] := by unfold stage; simp [hL, L8, P3]
    have hst2 : stage (setL L 5) = [2, 0, 5] := by unfold stage setL; simp [L8]
    rw [hst] at hJ
    clear hm hw hcl
    simp only [fill, h10]
    go_wp2_with fail
    refine (rtext_any p 9 _ _ (by decide) (by decide) (by decide) hJ.2).mono ?_
    rintro e u' ⟨hg, hr⟩
    rw [dec_a3] at hr
    obtain ⟨⟨v, rfl, hv⟩, hrd⟩ := hr
    go_wp2
    exact ⟨_, rfl, own_base hv hJ.1.size, ⟨hg, ⟨grown_trans hJ.1 hg, by rw [hst2]; exact hrd⟩, hg.size⟩, trivial⟩
  · intro L vs u hL hw hcl hJ hm
    have h11 : ownB w.heap.size [97] (vs 11) u := meets_get hm 5 rfl rfl rfl rfl
    have hcv := conv_str (own_slice h11)
    simp only [fill]
    go_wp2
    exact ⟨_, rfl, rfl, ⟨grown_refl _ _, ⟨hJ.1, by rw [stage_set L 6 (by decide)]; exact hJ.2⟩, Nat.le_refl _⟩, trivial⟩
  · intro L vs u hL hw hcl hJ hm
    simp only [fill]
    go_wp2
    exact ⟨_, rfl, rfl, ⟨grown_refl _ _, ⟨hJ.1, by rw [stage_set L 7 (by decide)]; exact hJ.2⟩, Nat.le_refl _⟩, trivial⟩
  · intro L vs u hL hw hcl hJ hm
    have h13 : vs 13 = .pointer (some ⟨p, 0, none⟩) := meets_get hm 7 rfl rfl rfl rfl
    have P5 : L 5 = true := hw 5 (by kernel_rfl)
    have hst : stage L = [2, 0, 5] := by unfold stage; simp [hL, P5]
    have hst2 : stage (setL L 8) = [] := by unfold stage setL; simp []
    rw [hst] at hJ
    clear hm hw hcl
    simp only [fill, h13]
    go_wp2_with fail
    refine (rvec_any p _ _ (by decide) hJ.2).mono ?_
    rintro e u' ⟨hg, hr⟩
    rw [dec_a4] at hr
    obtain ⟨rfl, hrd⟩ := hr
    go_wp2
    exact ⟨_, rfl, rfl, ⟨hg, ⟨grown_trans hJ.1 hg, by rw [hst2]; exact hrd⟩, hg.size⟩, trivial⟩
  intro L hall vs ws hJ hsz hm hne hlo
  have h6 : vs 6 = .pointer (some ⟨p, 0, none⟩) := hm 0 _ _ _ rfl rfl rfl
  have h7 : vs 7 = .int .u64 300 := hm 1 _ _ _ rfl rfl rfl
  have h8 : vs 8 = .pointer (some ⟨p, 0, none⟩) := hm 2 _ _ _ rfl rfl rfl
  have h9 : vs 9 = .int .i64 (-1) := hm 3 _ _ _ rfl rfl rfl
  have h10 : vs 10 = .pointer (some ⟨p, 0, none⟩) := hm 4 _ _ _ rfl rfl rfl
  have h12 : vs 12 = .string (strN [97]) := hm 6 _ _ _ rfl rfl rfl
  have h13 : vs 13 = .pointer (some ⟨p, 0, none⟩) := hm 7 _ _ _ rfl rfl rfl
  have h14 : vs 14 = .agg (VA aliveV) := hm 8 _ _ _ rfl rfl rfl
  have hst : stage L = [] := by unfold stage; rw [if_pos (hall 8 (by decide))]
  rw [hst] at hJ
  obtain ⟨hg, hrd⟩ := hJ
  clear hne hlo hm hall hst
  simp only [fill, List.filterMap, List.take, List.drop, List.setIfInBounds_toArray, List.set_cons_zero, List.set_cons_succ, h6, h7, h8, h9, h10, h12, h13, h14]
  clear h6 h7 h8 h9 h10 h12 h13 h14
  have n1 : look ws B = some (.cells #[.int .u64 0] 23 (0, 0)) := by rw [grown_look hg (look_lt l1) (by intro g e; cases e; omega)]; exact l1
  have n2 : look ws (B + 1) = some (.cells #[.int .i64 0] 3 (0, 0)) := by rw [grown_look hg (look_lt l2) (by intro g e; cases e; omega)]; exact l2
  have n3 : look ws (B + 2) = some (.cells #[.string ⟨#[]⟩] 9 (0, 0)) := by rw [grown_look hg (look_lt l3) (by intro g e; cases e; omega)]; exact l3
  have n4 : look ws (B + 3) = some (.cells (VA fun _ => 0) 65 (0, 0)) := by rw [grown_look hg (look_lt l4) (by intro g e; cases e; omega)]; exact l4
  have c1 : ws.cell? ⟨B, 0, none⟩ = some (.int .u64 0) := by rw [look_cell n1]; rfl
  have z1 := look_frozen n1 0
  obtain ⟨s1, e1⟩ : ∃ s, s = ws.setCell ⟨B, 0, none⟩ (.int .u64 300) := ⟨_, rfl⟩
  have m1 : look s1 B = some (.cells #[.int .u64 300] 23 (0, 0)) := by rw [e1, look_set_same n1]; rfl
  have m2 : look s1 (B + 1) = some (.cells #[.int .i64 0] 3 (0, 0)) := by rw [e1, look_set_other (a := ⟨B, 0, none⟩) (by show B + 1 ≠ B; omega)]; exact n2
  have c2 : s1.cell? ⟨B + 1, 0, none⟩ = some (.int .i64 0) := by rw [look_cell m2]; rfl
  have z2 := look_frozen m2 0
  obtain ⟨s2, e2⟩ : ∃ s, s = s1.setCell ⟨B + 1, 0, none⟩ (.int .i64 (-1)) := ⟨_, rfl⟩
  have q1 : look s2 B = some (.cells #[.int .u64 300] 23 (0, 0)) := by rw [e2, look_set_other (a := ⟨B + 1, 0, none⟩) (by show B ≠ B + 1; omega)]; exact m1
  have q2 : look s2 (B + 1) = some (.cells #[.int .i64 (-1)] 3 (0, 0)) := by rw [e2, look_set_same m2]; rfl
  have q3 : look s2 (B + 2) = some (.cells #[.string ⟨#[]⟩] 9 (0, 0)) := by
    rw [e2, look_set_other (a := ⟨B + 1, 0, none⟩) (by show B + 2 ≠ B + 1; omega), e1, look_set_other (a := ⟨B, 0, none⟩) (by show B + 2 ≠ B; omega)]
    exact n3
  have c3 : s2.cell? ⟨B + 2, 0, none⟩ = some (.string ⟨#[]⟩) := by rw [look_cell q3]; rfl
  have z3 := look_frozen q3 0
  obtain ⟨s3, e3⟩ : ∃ s, s = s2.setCell ⟨B + 2, 0, none⟩ (.string (strN [97])) := ⟨_, rfl⟩
  have r1 : look s3 B = some (.cells #[.int .u64 300] 23 (0, 0)) := by rw [e3, look_set_other (a := ⟨B + 2, 0, none⟩) (by show B ≠ B + 2; omega)]; exact q1
  have r2 : look s3 (B + 1) = some (.cells #[.int .i64 (-1)] 3 (0, 0)) := by rw [e3, look_set_other (a := ⟨B + 2, 0, none⟩) (by show B + 1 ≠ B + 2; omega)]; exact q2
  have r3 : look s3 (B + 2) = some (.cells #[.string (strN [97])] 9 (0, 0)) := by rw [e3, look_set_same q3]; rfl
  have r4 : look s3 (B + 3) = some (.cells (VA fun _ => 0) 65 (0, 0)) := by
    rw [e3, look_set_other (a := ⟨B + 2, 0, none⟩) (by show B + 3 ≠ B + 2; omega), e2, look_set_other (a := ⟨B + 1, 0, none⟩) (by show B + 3 ≠ B + 1; omega), e1, look_set_other (a := ⟨B, 0, none⟩) (by show B + 3 ≠ B; omega)]
    exact n4
  have hr1 : RdAt X s1 p [] := by rw [e1]; exact rd_aside hrd n1 (by omega) (by intro j x; cases j <;> simp)
  have hr2 : RdAt X s2 p [] := by rw [e2]; exact rd_aside hr1 m2 (by omega) (by intro j x; cases j <;> simp)
  have hr3 : RdAt X s3 p [] := by rw [e3]; exact rd_aside hr2 q3 (by omega) (by intro j x; cases j <;> simp)
  have hr4 : RdAt X (s3.setRow (B + 3) (VA aliveV)) p [] := rd_aside_row hr3 r4 (by omega) (VA_not_byte _)
  have hk : ∀ k, k < w.heap.size → k < B ∨ (B + 4 ≤ k ∧ k ≠ p) → (s3.setRow (B + 3) (VA aliveV)).heap[k]? = w.heap[k]? := by
    intro k hk h
    have h0 := look_setRow s3 (B + 3) k (VA aliveV)
    rw [if_neg (by omega)] at h0
    refine h0.trans ?_
    show s3.heap[k]? = _
    rw [e3, heap_setCell_other s2 ⟨B + 2, 0, none⟩ k _ (by show k ≠ B + 2; omega), e2, heap_setCell_other s1 ⟨B + 1, 0, none⟩ k _ (by show k ≠ B + 1; omega), e1, heap_setCell_other ws ⟨B, 0, none⟩ k _ (by show k ≠ B; omega)]
    exact hg.block k hk (by intro e; cases e; omega)
  have hos : (s3.setRow (B + 3) (VA aliveV)).os = w.os ∧ (s3.setRow (B + 3) (VA aliveV)).tape = w.tape ∧ (s3.setRow (B + 3) (VA aliveV)).output = w.output ∧ w.heap.size ≤ (s3.setRow (B + 3) (VA aliveV)).heap.size := by
    rw [e3, e2, e1]
    exact ⟨hg.os, hg.tape, hg.output, by simpa [World.setRow] using hg.size⟩
  have hv : (look (s3.setRow (B + 3) (VA aliveV)) B = some (.cells #[.int .u64 300] 23 (0, 0)) ∧ look (s3.setRow (B + 3) (VA aliveV)) (B + 1) = some (.cells #[.int .i64 (-1)] 3 (0, 0)) ∧ look (s3.setRow (B + 3) (VA aliveV)) (B + 2) = some (.cells #[.string (strN [97])] 9 (0, 0)) ∧ look (s3.setRow (B + 3) (VA aliveV)) (B + 3) = some (.cells (VA aliveV) 65 (0, 0))) := by
    refine ⟨?_, ?_, ?_, ?_⟩
    · rw [look_setRow, if_neg (by omega)]; exact r1
    · rw [look_setRow, if_neg (by omega)]; exact r2
    · rw [look_setRow, if_neg (by omega)]; exact r3
    · rw [look_setRow, if_pos rfl, r4]; rfl
  have hfin := hidP (And.intro hr4 (And.intro hv (And.intro hos hk)))
  have d2 : ws.cell? ⟨B + 1, 0, none⟩ = some (.int .i64 0) := by rw [look_cell n2]; rfl
  have d3 : ws.cell? ⟨B + 2, 0, none⟩ = some (.string ⟨#[]⟩) := by rw [look_cell n3]; rfl
  have y2 := look_frozen n2 0
  have y3 := look_frozen n3 0
  clear hr1 hr2 hr3 hr4 hv hos hk m1 q1 q2 r1 r2 r3 hrd hg h l1 l2 l3 l4 hsz c2 z2 c3 z3 m2 q3 r4
  subst e3
  subst e2
  subst e1
  go_wp2_with fail
  go_end0
  exact ⟨rfl, hfin.out⟩
end Go.Proofs.Ytniphfkipjpikaa
