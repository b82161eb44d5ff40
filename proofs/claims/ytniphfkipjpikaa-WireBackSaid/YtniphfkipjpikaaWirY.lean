/- What is cut is too short. Plain, no program. -/
import Derived.Test.YtniphfkipjpikaaWirX
namespace Go.Proofs.Ytniphfkipjpikaa
open Go.RowKit

theorem conts_cut : ∀ (f q k : Nat), q < 128 ^ f → q / 128 < 144115188075855872 → k ≤ (conts f q).length → decN true 0 ((conts f q).reverse.take k) = .fault 8
  | 0, q, k, h, _, hk => by
    rw [Nat.pow_zero] at h
    obtain rfl : q = 0 := by omega
    have : k = 0 := by simpa [conts] using hk
    subst this
    rfl
  | f + 1, q, k, h, h2, hk => by
    by_cases h0 : q = 0
    · subst h0
      rw [conts_zero]
      simp [decN]
    · have hp : q / 128 < 128 ^ f := by
        rw [Nat.pow_succ] at h
        exact Nat.div_lt_of_lt_mul (by rw [Nat.mul_comm]; exact h)
      have e : conts (f + 1) q = (q % 128 + 128) :: conts f (q / 128) := by rw [conts, if_neg h0]
      by_cases hk2 : k ≤ (conts f (q / 128)).length
      · rw [e, List.reverse_cons, List.take_append_of_le_length (by rw [List.length_reverse]; exact hk2)]
        exact conts_cut f (q / 128) k hp (by omega) hk2
      · have hl : (conts (f + 1) q).reverse.length ≤ k := by
          rw [List.length_reverse, e, List.length_cons]
          omega
        rw [List.take_of_length_le hl]
        have := decN_conts (f + 1) q [] h h2
        rw [List.append_nil] at this
        rw [this]
        unfold decN
        rfl
theorem num_cut {n k : Nat} (hn : n < 18446744073709551616) (hk : k < (numB n).length) : decN true 0 ((numB n).take k) = .fault 8 := by
  unfold numB at hk ⊢
  rw [List.reverse_cons] at hk ⊢
  rw [List.length_append, List.length_reverse, List.length_singleton] at hk
  rw [List.take_append_of_le_length (by rw [List.length_reverse]; omega)]
  exact conts_cut 9 (n / 128) k (by rw [p9]; omega) (by omega) (by omega)
theorem small_cut {n k most : Nat} (hn : n < 18446744073709551616) (hk : k < (numB n).length) : decS most ((numB n).take k) = .fault 8 := by
  unfold decS
  rw [num_cut hn hk]
theorem int_cut {i : Int} {k : Nat} (h : -4611686018427387904 ≤ i ∧ i ≤ 4611686018427387904) (hk : k < (intB i).length) : decI ((intB i).take k) = .fault 8 := by
  unfold intB at hk ⊢
  unfold decI
  rw [num_cut (by unfold zigN; split <;> omega) hk]
theorem take_cases (a b : List Nat) (k : Nat) : (k < a.length ∧ (a ++ b).take k = a.take k) ∨ (a.length ≤ k ∧ (a ++ b).take k = a ++ b.take (k - a.length)) := by
  by_cases h : k < a.length
  · exact .inl ⟨h, List.take_append_of_le_length (by omega)⟩
  · refine .inr ⟨by omega, ?_⟩
    rw [List.take_append, List.take_of_length_le (by omega)]
theorem text_cut {ts : List Nat} {most k : Nat} (h : ts.length ≤ most) (hm : most < 18446744073709551616) (hk : k < (numB ts.length ++ ts).length) : decT most ((numB ts.length ++ ts).take k) = .fault 8 := by
  rw [List.length_append] at hk
  unfold decT
  rcases take_cases (numB ts.length) ts k with ⟨h1, e⟩ | ⟨h1, e⟩
  · rw [e, small_cut (by omega) h1]
  · rw [e, (codeS most hm).whole _ h]
    simp only
    rw [if_neg (by rw [List.length_take]; omega)]
theorem float_cut {b k : Nat} (hk : k < (fltB b).length) : decF ((fltB b).take k) = .fault 8 := by
  have := fltB_len b
  unfold decF
  rw [if_neg (by rw [List.length_take]; omega)]
theorem vecs_cut (g : Nat → Nat) (hg : ∀ j, g j < 4294967296) : ∀ (m i : Nat) (f : Nat → Nat) (k : Nat), k < (vbsF g i m).length → decVs f i m ((vbsF g i m).take k) = .fault 8
  | 0, i, f, k, h => by simp [vbsF] at h
  | m + 1, i, f, k, h => by
    rw [vbsF] at h ⊢
    rw [List.length_append] at h
    have hgi := hg i
    rcases take_cases (numB (g i)) (vbsF g (i + 1) m) k with ⟨h1, e⟩ | ⟨h1, e⟩
    · rw [e]
      exact decVs_fault (small_cut (by omega) h1)
    · rw [e, decVs_ok ((codeS 4294967295 (by omega)).whole _ (by omega))]
      exact vecs_cut g hg m (i + 1) _ _ (by omega)
theorem vec_cut {f : Nat → Nat} {k : Nat} (hf : ∀ j, f j < 4294967296) (hk : k < (vecB f).length) : decV ((vecB f).take k) = .fault 8 := by
  unfold vecB at hk ⊢
  unfold decV
  have ht := trimN_le f 12
  rw [List.length_append] at hk
  rcases take_cases (numB (trimN f 12)) (vbs f (trimN f 12)) k with ⟨h1, e⟩ | ⟨h1, e⟩
  · rw [e, small_cut (by omega) h1]
  · rw [e, (codeS 12 (by omega)).whole _ ht]
    simp only
    rw [vbs_eq] at hk ⊢
    rw [vecs_cut f hf _ _ _ _ (by omega)]

/-- A part, read: what is left, or the fault. -/
def decP (p : Pt) (bs : List Nat) : Rd Unit :=
  if p.kind = 0 then (match decN true 0 bs with | .ok _ r => .ok () r | .fault e => .fault e)
  else if p.kind = 1 then (match decI bs with | .ok _ r => .ok () r | .fault e => .fault e)
  else if p.kind = 2 then (match decT p.most.toNat bs with | .ok _ r => .ok () r | .fault e => .fault e)
  else if p.kind = 3 then (match decF bs with | .ok _ r => .ok () r | .fault e => .fault e)
  else if p.kind = 4 then (match decV bs with | .ok _ r => .ok () r | .fault e => .fault e)
  else .ok () bs
/-- k parts, read, the first one at i. -/
def decPs (L : Nat → Pt) : Nat → Nat → List Nat → Rd Unit
  | _, 0, bs => .ok () bs
  | i, k + 1, bs => match decP (L i) bs with
    | .ok _ r => decPs L (i + 1) k r
    | .fault e => .fault e
theorem decPs_ok {L : Nat → Pt} {i k : Nat} {bs r : List Nat} (h : decP (L i) bs = .ok () r) : decPs L i (k + 1) bs = decPs L (i + 1) k r := by
  rw [show decPs L i (k + 1) bs = (match decP (L i) bs with
    | .ok _ r => decPs L (i + 1) k r
    | .fault e => .fault e) from rfl, h]
theorem decPs_fault {L : Nat → Pt} {i k : Nat} {bs : List Nat} {e : Int} (h : decP (L i) bs = .fault e) : decPs L i (k + 1) bs = .fault e := by
  unfold decPs
  rw [h]
theorem ptB_0 {p : Pt} (h : p.kind = 0) : ptB p = numB p.n := by
  unfold ptB
  rw [if_pos (.inl h)]
theorem decP_0 {p : Pt} (h : p.kind = 0) (bs : List Nat) : decP p bs = (match decN true 0 bs with | .ok _ r => .ok () r | .fault e => .fault e) := by
  unfold decP
  rw [if_pos h]
theorem ptB_1 {p : Pt} (h : p.kind = 1) : ptB p = intB p.i := by
  unfold ptB
  rw [if_neg (by omega), if_pos h]
theorem decP_1 {p : Pt} (h : p.kind = 1) (bs : List Nat) : decP p bs = (match decI bs with | .ok _ r => .ok () r | .fault e => .fault e) := by
  unfold decP
  rw [if_neg (by omega), if_pos h]
theorem ptB_2 {p : Pt} (h : p.kind = 2) : ptB p = numB p.bs.length ++ p.bs := by
  unfold ptB
  rw [if_neg (by omega), if_neg (by omega), if_pos h]
theorem decP_2 {p : Pt} (h : p.kind = 2) (bs : List Nat) : decP p bs = (match decT p.most.toNat bs with | .ok _ r => .ok () r | .fault e => .fault e) := by
  unfold decP
  rw [if_neg (by omega), if_neg (by omega), if_pos h]
theorem ptB_3 {p : Pt} (h : p.kind = 3) : ptB p = fltB p.n := by
  unfold ptB
  rw [if_neg (by omega), if_neg (by omega), if_neg (by omega), if_pos h]
theorem decP_3 {p : Pt} (h : p.kind = 3) (bs : List Nat) : decP p bs = (match decF bs with | .ok _ r => .ok () r | .fault e => .fault e) := by
  unfold decP
  rw [if_neg (by omega), if_neg (by omega), if_neg (by omega), if_pos h]
theorem ptB_4 {p : Pt} (h : p.kind = 4) : ptB p = vecB p.v := by
  unfold ptB
  rw [if_neg (by omega), if_neg (by omega), if_neg (by omega), if_neg (by omega), if_pos h]
theorem decP_4 {p : Pt} (h : p.kind = 4) (bs : List Nat) : decP p bs = (match decV bs with | .ok _ r => .ok () r | .fault e => .fault e) := by
  unfold decP
  rw [if_neg (by omega), if_neg (by omega), if_neg (by omega), if_neg (by omega), if_pos h]
theorem ptB_e {p : Pt} (h0 : p.kind ≠ 0) (h1 : p.kind ≠ 1) (h2 : p.kind ≠ 2) (h3 : p.kind ≠ 3) (h4 : p.kind ≠ 4) (h5 : p.kind ≠ 5) : ptB p = [] := by
  unfold ptB
  rw [if_neg (by omega), if_neg h1, if_neg h2, if_neg h3, if_neg h4]
theorem decP_e {p : Pt} (h0 : p.kind ≠ 0) (h1 : p.kind ≠ 1) (h2 : p.kind ≠ 2) (h3 : p.kind ≠ 3) (h4 : p.kind ≠ 4) (bs : List Nat) : decP p bs = .ok () bs := by
  unfold decP
  rw [if_neg h0, if_neg h1, if_neg h2, if_neg h3, if_neg h4]
theorem decP_whole {p : Pt} (h : PtFine p) (r : List Nat) : decP p (ptB p ++ r) = .ok () r := by
  by_cases h0 : p.kind = 0
  · rw [decP_0 h0, ptB_0 h0, num_whole r h.n]
  · skip
    by_cases h1 : p.kind = 1
    · rw [decP_1 h1, ptB_1 h1, int_whole r (h.fair.i h1)]
    · skip
      by_cases h2 : p.kind = 2
      · rw [decP_2 h2, ptB_2 h2, text_whole r (by have := h.fair.t h2; omega) (by have := h.m; omega)]
      · skip
        by_cases h3 : p.kind = 3
        · rw [decP_3 h3, ptB_3 h3, float_whole r h.n]
        · skip
          by_cases h4 : p.kind = 4
          · rw [decP_4 h4, ptB_4 h4, vec_whole r h.v]
          · skip
            rw [decP_e h0 h1 h2 h3 h4, ptB_e h0 h1 h2 h3 h4 h.fair.n5]
            rfl
theorem decP_cut {p : Pt} (h : PtFine p) {k : Nat} (hk : k < (ptB p).length) : decP p ((ptB p).take k) = .fault 8 := by
  by_cases h0 : p.kind = 0
  · rw [ptB_0 h0] at hk ⊢; rw [decP_0 h0, num_cut h.n hk]
  · skip
    by_cases h1 : p.kind = 1
    · rw [ptB_1 h1] at hk ⊢; rw [decP_1 h1, int_cut (h.fair.i h1) hk]
    · skip
      by_cases h2 : p.kind = 2
      · rw [ptB_2 h2] at hk ⊢; rw [decP_2 h2, text_cut (by have := h.fair.t h2; omega) (by have := h.m; omega) hk]
      · skip
        by_cases h3 : p.kind = 3
        · rw [ptB_3 h3] at hk ⊢; rw [decP_3 h3, float_cut hk]
        · skip
          by_cases h4 : p.kind = 4
          · rw [ptB_4 h4] at hk ⊢; rw [decP_4 h4, vec_cut h.v hk]
          · skip
            rw [ptB_e h0 h1 h2 h3 h4 h.fair.n5] at hk
            simp at hk
theorem parts_cut (L : Nat → Pt) (n : Nat) (hL : ∀ k, k < n → PtFine (L k)) : ∀ (m i k : Nat), i + m ≤ n → k < (ptsF L i m).length → decPs L i m ((ptsF L i m).take k) = .fault 8
  | 0, i, k, _, h => by simp [ptsF] at h
  | m + 1, i, k, hi, h => by
    rw [ptsF] at h ⊢
    rw [List.length_append] at h
    have hf := hL i (by omega)
    rcases take_cases (ptB (L i)) (ptsF L (i + 1) m) k with ⟨h1, e⟩ | ⟨h1, e⟩
    · rw [e]
      exact decPs_fault (decP_cut hf h1)
    · rw [e, decPs_ok (decP_whole hf _)]
      exact parts_cut L n hL m (i + 1) _ (by omega) (by omega)
end Go.Proofs.Ytniphfkipjpikaa
