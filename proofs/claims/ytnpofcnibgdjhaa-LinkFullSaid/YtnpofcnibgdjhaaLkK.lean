/- LinkFull: as many texts wait as may, not one more; when the first ones are acknowledged, as many more find room. No condition. -/
import Derived.Test.YtnpofcnibgdjhaaLkJ
namespace Go.Proofs.Ytnpofcnibgdjhaa
open Go.RowKit

/-- k texts of one byte wait. -/
def fullA (k : Nat) : Lk := ⟨k + 1, 1, List.replicate k [1]⟩
/-- n of 250 were acknowledged, and k more were sent, or tried. -/
def fullB (n k : Nat) : Lk := ⟨251 + min k n, 1, List.replicate (250 - n) [1] ++ List.replicate (min k n) [2]⟩
theorem fullA_more (k : Nat) : (⟨(fullA k).nx + 1, (fullA k).ex, (fullA k).q ++ [[1]]⟩ : Lk) = fullA (k + 1) := by
  unfold fullA
  rw [List.replicate_succ']
theorem fullB_more {n k : Nat} (h : k < n) : (⟨(fullB n k).nx + 1, (fullB n k).ex, (fullB n k).q ++ [[2]]⟩ : Lk) = fullB n (k + 1) := by
  unfold fullB
  rw [Nat.min_eq_left (by omega), Nat.min_eq_left (by omega), List.replicate_succ', List.append_assoc]
  rfl
theorem fullB_same {n k : Nat} (h : n ≤ k) : fullB n k = fullB n (k + 1) := by
  unfold fullB
  rw [Nat.min_eq_right h, Nat.min_eq_right (by omega)]
theorem fullB_len {n k : Nat} (hn : n ≤ 250) : (fullB n k).q.length = 250 - n + min k n := by
  unfold fullB
  simp
theorem fullA_len (k : Nat) : (fullA k).q.length = k := List.length_replicate
theorem fullA_fst (k : Nat) : (fullA k).fst = 1 := by
  unfold Lk.fst
  rw [fullA_len]
  show k + 1 - k = 1
  omega
theorem fullB_zero {n : Nat} (hn : n ≤ 250) : ackL (fullA 250) n = fullB n 0 := by
  unfold ackL
  have h1 : ¬ (fullA 250).nx ≤ n := by show ¬ 250 + 1 ≤ n; omega
  have h2 := fullA_fst 250
  rw [if_neg h1, h2, show n + 1 - 1 = n by omega]
  unfold fullA fullB
  rw [Nat.zero_min, List.replicate_zero, List.append_nil, List.drop_replicate]
theorem fullA_texts {k : Nat} : ∀ b ∈ (fullA k).q, b.length ≤ 1000000 := fun b hb => by
  rw [(List.mem_replicate.1 hb).2]; decide
theorem fullB_texts {n k : Nat} : ∀ b ∈ (fullB n k).q, b.length ≤ 1000000 := fun b hb => by
  rcases List.mem_append.1 hb with hb | hb
  · rw [(List.mem_replicate.1 hb).2]; decide
  · rw [(List.mem_replicate.1 hb).2]; decide
theorem items_len {S : Nat → Prop} {w : World} {v : Value} {f : Nat} {q : List (List Nat)} (h : Items S w v f q) : ∃ ad cap, v = .slice ad q.length cap := by
  obtain ⟨us, h1, _⟩ := h
  exact row_one h1

set_option maxRecDepth 100000 in
set_option maxHeartbeats 6400000 in
theorem linkFull_any (n : Nat) (w : World) (hn : n ≤ 255) :
    Calls Try.prog 6 #[.int .u8 (n : Int)] w fun e w' => e = .returned (.bool true) ∧ Below w.heap.size w w' := by
  go_enter Try.func6, Try.ntmps6
  go_wp2_with fail
  refine (lnew_any _).mono ?_
  rintro _ _ ⟨rfl, rfl⟩
  have hL0 := link_new w
  have hB0 := belA (bel0 w) (.cells #[.int .u64 1, .slice none 0 0, .int .u64 1] 51)
  obtain ⟨w0, hw0⟩ : ∃ w0, Hid (w0 = w.alloc (.cells #[.int .u64 1, .slice none 0 0, .int .u64 1] 51)) := ⟨_, hidP rfl⟩
  rw [← hw0.out] at hL0 hB0 ⊢
  obtain ⟨p, hp⟩ : ∃ p, Hid (p = w.heap.size) := ⟨_, hidP rfl⟩
  rw [← hp.out] at hL0 ⊢
  have hpB : w.heap.size ≤ p := Nat.le_of_eq hp.out.symm
  go_wp2_with fail
  go_loopw [4] (fun i wr => ∃ (k : Nat) (S : Nat → Prop), k ≤ 250 ∧ i = .int .i64 (k : Int) ∧ LinkAt S wr p (fullA k) ∧ Below w.heap.size w wr) (fun i _ => 250 - (intOf i).toNat)
  case atStart => exact ⟨0, _, by omega, rfl, hL0, hB0⟩
  case round =>
    obtain ⟨k, S, hk, rfl, hL, hB⟩ := hrel
    by_cases hlt : k < 250
    · have dlt : decide ((k : Int) < 250) = true := decide_eq_true (by omega)
      have hb1 := belA (bel0 wr) (.cells #[.int .u8 1] 5)
      have hx1 := lit_one wr 1
      have hql : (fullA k).q.length < 250 := by unfold fullA; simp; omega
      have hnx : (fullA k).nx ≤ 1099511627776 := by show k + 1 ≤ _; omega
      have hn0 : 0 < (fullA k).nx := by show 0 < k + 1; omega
      have hwk : IntKind.i64.wrap ((k : Int) + 1) = ((k + 1 : Nat) : Int) := by rw [IntWalk.i64_in _ (by omega)]; omega
      have hwu : IntKind.u64.wrap ((k + 1 : Nat) : Int) = ((k + 1 : Nat) : Int) := IntWalk.u64_in _ (by omega)
      have hcall := lsend_yes p _ [1] (fullA k) _ _ hn0 (by decide) hql hnx hx1 (hL.below hb1)
      rw [fullA_more] at hcall
      have hnxe : (fullA k).nx = k + 1 := rfl
      rw [hnxe] at hcall
      clear hnx hql hn0 hnxe
      go_wp2_with fail
      refine hcall.mono ?_
      rintro _ w2 ⟨rfl, S2, hL2, hG2, hg2⟩
      have hB2 : Below w.heap.size w w2 := (belT hB hb1).grown hg2 (by have := hB.size; simp; omega) (fun k e => by cases e; exact hpB)
      clear hcall hL hG2 hg2
      go_wp2
      go_roundw
      case rel => exact ⟨k + 1, S2, by omega, by go_num, hL2, hB2⟩
      case measure => simp [intOf]; omega
    · obtain rfl : k = 250 := by omega
      have hb1 := belA (bel0 wr) (.cells #[.int .u8 1] 5)
      have hx1 := lit_one wr 1
      have hfull : ¬ ((fullA 250).q.length < 250 ∧ (fullA 250).nx ≤ 1099511627776) := fun h => by
        have h1 := h.1
        rw [fullA_len] at h1
        omega
      have hL1 := hL.below hb1
      have hBx := belT hB hb1
      go_wp2_with fail
      refine (lsend_full p _ _ [1] (fullA 250) _ _ (by decide) (by decide) (by decide) hfull hL1).mono ?_
      rintro _ w2 ⟨rfl, rfl⟩
      obtain ⟨W, hW⟩ : ∃ W, Hid (W = wr.alloc (.cells #[.int .u8 1] 5)) := ⟨_, hidP rfl⟩
      rw [← hW.out] at hL1 hBx ⊢
      clear hx1 hb1 hL hB
      have hwn : IntKind.u64.wrap (n : Int) = (n : Int) := IntWalk.u64_in _ (by omega)
      have hwi : IntKind.i64.wrap (n : Int) = (n : Int) := IntWalk.i64_in _ (by omega)
      have hqA := fullA_len 250
      have hack := lacked_any p n (fullA 250) _ _ (by omega) (by decide) (by rw [hqA]; decide) (by rw [hqA]; decide) hL1
      by_cases h250 : n ≤ 250
      · have hnx : ¬ (fullA 250).nx ≤ n := by show ¬ 251 ≤ n; omega
        have e1 : ackE (fullA 250) n = 0 := by unfold ackE; rw [if_neg hnx]
        have e2 : ackN (fullA 250) n = n := by
          have h2 := fullA_fst 250
          unfold ackN; rw [if_neg hnx, h2]; omega
        rw [e1, e2, fullB_zero h250] at hack
        have d255 : ((n : Int) == 255) = false := beq_eq_false_iff_ne.2 (by omega)
        have d250 : decide ((250 : Int) < (n : Int)) = false := decide_eq_false (by omega)
        clear hnx e1 e2
        go_wp2_with fail
        refine hack.mono ?_
        rintro _ w3 ⟨rfl, S3, hL3, _, hg3⟩
        have hB3 : Below w.heap.size w w3 := hBx.grown hg3 hBx.size (fun k e => by cases e; exact hpB)
        clear hack hL1 hg3
        go_wp2_with fail
        go_loopw [12, 13] (fun m i wr => ∃ (k : Nat) (S : Nat → Prop), k ≤ 250 ∧ i = .int .i64 (k : Int) ∧ m = .int .i64 ((min k n : Nat) : Int) ∧ LinkAt S wr p (fullB n k) ∧ Below w.heap.size w wr) (fun _ i _ => 250 - (intOf i).toNat)
        case atStart => exact ⟨0, S3, by omega, rfl, by simp, hL3, hB3⟩
        case round =>
          obtain ⟨k, S, hk, rfl, rfl, hL, hB⟩ := hrel
          by_cases hlt : k < 250
          · have dlt : decide ((k : Int) < 250) = true := decide_eq_true (by omega)
            have hb1 := belA (bel0 wr) (.cells #[.int .u8 2] 5)
            have hx1 := lit_one wr 2
            have hlen := fullB_len (k := k) h250
            by_cases hkn : k < n
            · have hql : (fullB n k).q.length < 250 := by rw [hlen, Nat.min_eq_left (by omega)]; omega
              have hnx : (fullB n k).nx ≤ 1099511627776 := by show 251 + min k n ≤ _; omega
              have hn0 : 0 < (fullB n k).nx := by show 0 < 251 + min k n; omega
              have hcall := lsend_yes p _ [2] (fullB n k) _ _ hn0 (by decide) hql hnx hx1 (hL.below hb1)
              rw [fullB_more hkn] at hcall
              obtain ⟨m, hm⟩ : ∃ m, Hid (m = min k n) := ⟨_, hidP rfl⟩
              rw [← hm.out]
              have hmk : m ≤ 250 := by rw [hm.out]; omega
              have hm1 : m + 1 = min (k + 1) n := by rw [hm.out]; omega
              have hm1h := hidP hm1
              clear hnx hql hn0 hlen hm1
              go_wp2_with fail
              refine hcall.mono ?_
              rintro _ w2 ⟨rfl, S2, hL2, hG2, hg2⟩
              have hB2 : Below w.heap.size w w2 := (belT hB hb1).grown hg2 (by have := hB.size; simp; omega) (fun k e => by cases e; exact hpB)
              clear hcall hL hG2 hg2
              go_wp2
              go_roundw
              case rel => exact ⟨k + 1, S2, by omega, by go_num, by rw [← hm1h.out]; go_num, hL2, hB2⟩
              case measure => simp [intOf]; omega
            · have hfull2 : ¬ ((fullB n k).q.length < 250 ∧ (fullB n k).nx ≤ 1099511627776) := by rw [hlen, Nat.min_eq_right (by omega)]; omega
              have hn0 : 0 < (fullB n k).nx := by show 0 < 251 + min k n; omega
              have hL2 := hL.below hb1
              rw [fullB_same (by omega)] at hL2
              have hB2 := belT hB hb1
              have hmin : min k n = min (k + 1) n := by omega
              rw [hmin]
              obtain ⟨m, hm⟩ : ∃ m, Hid (m = min (k + 1) n) := ⟨_, hidP rfl⟩
              rw [← hm.out]
              have hcall := lsend_full p (some ⟨wr.heap.size, 0, none⟩) 1 [2] (fullB n k) _ _ hn0 (by decide) (by decide) hfull2 (hL.below hb1)
              clear hmin hfull2 hn0 hlen
              go_wp2_with fail
              refine hcall.mono ?_
              rintro _ w2 ⟨rfl, rfl⟩
              clear hcall hL
              go_wp2
              go_roundw
              case rel => exact ⟨k + 1, S, by omega, by go_num, by rw [hm.out], hL2, hB2⟩
              case measure => simp [intOf]; omega
          · obtain rfl : k = 250 := by omega
            rw [Nat.min_eq_right h250]
            have hlen := fullB_len (k := 250) h250
            rw [Nat.min_eq_right h250, show 250 - n + n = 250 by omega] at hlen
            have hnxB : (fullB n 250).nx = 251 + n := by show 251 + min 250 n = _; omega
            go_wp2_with fail
            refine (alive16 _).mono ?_
            rintro _ w4 ⟨rfl, hb4⟩
            have hB4 := belT hB hb4
            go_wp2_with fail
            refine (lqueue_any p (fullB n 250) _ _ (by omega) (by omega) (by omega) (by omega) fullB_texts (hL.below hb4)).mono ?_
            rintro _ w5 ⟨v, rfl, hI, hb5⟩
            have hB5 := belT hB4 hb5
            obtain ⟨ia, ic, rfl⟩ := items_len hI
            rw [hlen]
            clear hI hlen hnxB
            go_wp2
            go_ret
            exact ⟨rfl, hB5⟩
      · have hnx : (fullA 250).nx ≤ n := by show 251 ≤ n; omega
        have e1 : ackE (fullA 250) n = 14 := by unfold ackE; rw [if_pos hnx]
        have e2 : ackN (fullA 250) n = 0 := by unfold ackN; rw [if_pos hnx]
        rw [e1, e2] at hack
        clear hnx e1 e2
        by_cases h255 : n = 255
        · have d255 : decide ((n : Int) = 255) = true := decide_eq_true (by omega)
          subst h255
          go_wp2_with fail
          refine hack.mono ?_
          rintro _ w3 ⟨rfl, S3, hL3, _, hg3⟩
          have hB3 : Below w.heap.size w w3 := hBx.grown hg3 hBx.size (fun k e => by cases e; exact hpB)
          go_wp2_with fail
          refine (alive16 _).mono ?_
          rintro _ w4 ⟨rfl, hb4⟩
          have hB4 := belT hB3 hb4
          go_wp2
          go_ret
          exact ⟨rfl, hB4⟩
        · have d255 : decide ((n : Int) = 255) = false := decide_eq_false (by omega)
          have d250 : decide ((250 : Int) < (n : Int)) = true := decide_eq_true (by omega)
          go_wp2_with fail
          refine hack.mono ?_
          rintro _ w3 ⟨rfl, S3, hL3, _, hg3⟩
          have hB3 : Below w.heap.size w w3 := hBx.grown hg3 hBx.size (fun k e => by cases e; exact hpB)
          go_wp2_with fail
          refine (alive16 _).mono ?_
          rintro _ w4 ⟨rfl, hb4⟩
          have hB4 := belT hB3 hb4
          go_wp2
          go_ret
          exact ⟨rfl, hB4⟩
end Go.Proofs.Ytnpofcnibgdjhaa
