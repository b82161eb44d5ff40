/- Codes of whole numbers, texts, floats, vectors as they come; a row of parts, written, is read. Plain, no program. -/
import Derived.Test.YtniphfkipjpikaaOpenP
import Derived.Test.YtniphfkipjpikaaWirV
namespace Go.Proofs.Ytniphfkipjpikaa
open Go.RowKit

theorem int_whole {i : Int} (r : List Nat) (h : -4611686018427387904 ≤ i ∧ i ≤ 4611686018427387904) : decI (intB i ++ r) = .ok i r := by
  unfold decI intB zigN
  by_cases h0 : 0 ≤ i
  · rw [if_pos h0]
    obtain ⟨m, rfl⟩ := Int.eq_ofNat_of_zero_le h0
    have e : (2 * (m : Int)).toNat = 2 * m := by omega
    rw [e, num_whole r (by omega)]
    simp only
    rw [if_pos (by omega), if_pos (by omega)]
    congr 1; omega
  · rw [if_neg h0]
    obtain ⟨m, rfl⟩ : ∃ m : Nat, i = -(m : Int) - 1 := ⟨(-i - 1).toNat, by omega⟩
    have e : (2 * (-(-(m : Int) - 1) - 1) + 1).toNat = 2 * m + 1 := by omega
    rw [e, num_whole r (by omega)]
    simp only
    rw [if_neg (by omega), if_pos (by omega)]
    congr 1; omega
theorem text_whole {ts : List Nat} {most : Nat} (r : List Nat) (h : ts.length ≤ most) (hm : most < 18446744073709551616) : decT most (numB ts.length ++ ts ++ r) = .ok ts r := by
  unfold decT
  rw [List.append_assoc, (codeS most hm).whole _ h]
  simp only
  rw [if_pos (by rw [List.length_append]; omega)]
  congr 1
  · simp
  · simp
theorem valB_flt (k : Nat) (h : k < 18446744073709551616) : valB (fltTo k 8) = k := by
  have e : ∀ m, m ≤ 8 → valB (fltTo k m) = k / 256 ^ (8 - m) := by
    intro m
    induction m with
    | zero =>
      intro _
      show valB [] = _
      rw [Nat.div_eq_of_lt (by rw [show (256 : Nat) ^ (8 - 0) = 18446744073709551616 by decide]; exact h)]
      rfl
    | succ m ih =>
      intro hm
      rw [fltTo_succ, valB_snoc, ih (by omega)]
      unfold fByte
      have e1 : 8 - m = (7 - m) + 1 := by omega
      have e2 : 8 - (m + 1) = 7 - m := by omega
      rw [e1, e2, Nat.pow_succ, ← Nat.div_div_eq_div_mul]
      omega
  have := e 8 (by omega)
  rw [this]
  simp
theorem float_whole {b : Nat} (r : List Nat) (h : b < 18446744073709551616) : decF (fltB b ++ r) = .ok b r := by
  have hl := fltB_len b
  unfold decF
  rw [if_pos (by rw [List.length_append]; omega)]
  congr 1
  rw [List.take_append_of_le_length (by omega), List.take_of_length_le (by omega)]
  unfold fltB
  rw [valB_flt _ (Flt.keyF_lt h), Flt.of_key h]
/-- A vector without what is behind its twelve numbers. -/
def cutV (f : Nat → Nat) : Nat → Nat := fun i => if i < 12 then f i else 0
theorem trimN_cut (f : Nat → Nat) : ∀ n, n ≤ 12 → trimN (cutV f) n = trimN f n
  | 0, _ => rfl
  | n + 1, h => by
    have e : cutV f n = f n := by unfold cutV; rw [if_pos (by omega)]
    rw [trimN_succ, trimN_succ, e, trimN_cut f n (by omega)]
theorem vbsF_cut (f : Nat → Nat) (n : Nat) (h : n ≤ 12) : vbs (cutV f) n = vbs f n := by
  rw [vbs_eq, vbs_eq]
  exact vbsF_congr _ _ n 0 (fun j _ h2 => by unfold cutV; rw [if_pos (by omega)])
theorem vecB_cut (f : Nat → Nat) : vecB (cutV f) = vecB f := by
  unfold vecB
  rw [trimN_cut f 12 (Nat.le_refl _), vbsF_cut f _ (trimN_le f 12)]
theorem VA_cut (f : Nat → Nat) : VA (cutV f) = VA f := VA_ext fun i hi => by unfold cutV; rw [if_pos hi]
theorem vec_whole {f : Nat → Nat} (r : List Nat) (h : ∀ j, f j < 4294967296) : decV (vecB f ++ r) = .ok (cutV f) r := by
  rw [← vecB_cut f]
  refine codeV.whole r ⟨fun j => ?_, fun j hj => ?_⟩
  · unfold cutV
    split
    · have := h j; omega
    · omega
  · unfold cutV
    rw [if_neg (by omega)]

/-- A part that the law reads back. -/
structure Fair (p : Pt) : Prop where
  n5 : p.kind ≠ 5
  n6 : p.kind ≠ 6
  i : p.kind = 1 → -4611686018427387904 ≤ p.i ∧ p.i ≤ 4611686018427387904
  t : p.kind = 2 → (p.bs.length : Int) ≤ p.most
/-- The bytes of k parts, the first one at i. -/
def ptsF (L : Nat → Pt) : Nat → Nat → List Nat
  | _, 0 => []
  | i, k + 1 => ptB (L i) ++ ptsF L (i + 1) k
theorem ptsF_last (L : Nat → Pt) : ∀ (k i : Nat), ptsF L i (k + 1) = ptsF L i k ++ ptB (L (i + k))
  | 0, i => by simp [ptsF]
  | k + 1, i => by
    have e : i + 1 + k = i + (k + 1) := by omega
    rw [ptsF, ptsF_last L k (i + 1), ptsF, List.append_assoc, e]
theorem ptsF_split (L : Nat → Pt) (n i : Nat) (h : i < n) : ptsF L i (n - i) = ptB (L i) ++ ptsF L (i + 1) (n - (i + 1)) := by
  have e : n - i = (n - (i + 1)) + 1 := by omega
  rw [e, ptsF]
theorem ptB_byte (p : Pt) (h : ∀ y ∈ p.bs, y < 256) : ∀ y ∈ ptB p, y < 256 := by
  intro y hy
  unfold ptB at hy
  split at hy
  · exact numB_byte _ y hy
  · split at hy
    · exact numB_byte _ y hy
    · split at hy
      · rcases List.mem_append.1 hy with h1 | h1
        · exact numB_byte _ y h1
        · exact h y h1
      · split at hy
        · exact fltTo_byte _ _ y hy
        · split at hy
          · unfold vecB at hy
            rcases List.mem_append.1 hy with h1 | h1
            · exact numB_byte _ y h1
            · unfold vbs at h1
              obtain ⟨i, _, h2⟩ := List.mem_flatMap.1 h1
              exact numB_byte _ y h2
          · cases hy
end Go.Proofs.Ytniphfkipjpikaa
