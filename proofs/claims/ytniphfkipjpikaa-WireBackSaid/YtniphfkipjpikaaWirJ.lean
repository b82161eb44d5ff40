/- The writer of bytes: a vector. -/
import Derived.Test.YtniphfkipjpikaaWirI
import Derived.Test.YtniphfkipjpikaaVecP
namespace Go.Proofs.Ytniphfkipjpikaa
open Go.RowKit

/-- How many of the first n, but for the last noughts. -/
def trimN (f : Nat → Nat) : Nat → Nat
  | 0 => 0
  | n + 1 => if f n = 0 then trimN f n else n + 1
theorem trimN_le (f : Nat → Nat) : ∀ n, trimN f n ≤ n
  | 0 => Nat.le_refl _
  | n + 1 => by
    unfold trimN
    split
    · have := trimN_le f n; omega
    · exact Nat.le_refl _
theorem trimN_succ (f : Nat → Nat) (n : Nat) : trimN f (n + 1) = if f n = 0 then trimN f n else n + 1 := rfl
theorem trimN_fix (f : Nat → Nat) (m : Nat) (h : ¬ (0 < m ∧ f (m - 1) = 0)) : trimN f m = m := by
  cases m with
  | zero => rfl
  | succ k =>
    rw [trimN_succ, if_neg]
    exact fun e => h ⟨by omega, e⟩
/-- The bytes of the first n of a vector's numbers. -/
def vbs (f : Nat → Nat) (n : Nat) : List Nat := (List.range n).flatMap fun i => numB (f i)
theorem vbs_succ (f : Nat → Nat) (n : Nat) : vbs f (n + 1) = vbs f n ++ numB (f n) := by
  unfold vbs
  rw [List.range_succ, List.flatMap_append]
  simp
theorem vbs_len (f : Nat → Nat) : ∀ n, (vbs f n).length ≤ 10 * n
  | 0 => by simp [vbs]
  | n + 1 => by
    have h1 := vbs_len f n
    have h2 := (numB_len (f n)).2
    rw [vbs_succ, List.length_append]
    omega
/-- A vector's bytes. -/
def vecB (f : Nat → Nat) : List Nat := numB (trimN f 12) ++ vbs f (trimN f 12)

theorem slice_vec (g k : Nat) (hk : k < 12) (w : World) : (Instr.sliceAt 65 (.pointer (some ⟨g, 0, none⟩)) none (some (.int .i64 ((k : Int) + 1))) none).run Try.prog w = .ok (.slice (some ⟨g, 0, none⟩) (k + 1) 12) w := by
  rcases (show k = 0 ∨ k = 1 ∨ k = 2 ∨ k = 3 ∨ k = 4 ∨ k = 5 ∨ k = 6 ∨ k = 7 ∨ k = 8 ∨ k = 9 ∨ k = 10 ∨ k = 11 by omega) with rfl | rfl | rfl | rfl | rfl | rfl | rfl | rfl | rfl | rfl | rfl | rfl
  all_goals kernel_rfl

set_option maxRecDepth 100000 in
set_option maxHeartbeats 3200000 in
theorem wvec_any (p : Nat) (g : Option Nat) (bs : List Nat) (f : Nat → Nat) (w : World) (hf : ∀ k, f k < 4294967296) (hlen : bs.length ≤ 900000) (h : WrV w p g bs) :
    Calls Try.prog 45 #[.pointer (some ⟨p, 0, none⟩), .agg (VA f)] w fun e w' => e = .returned (.pointer (some ⟨p, 0, none⟩)) ∧ Wrote w w' p g (bs ++ vecB f) := by
  obtain ⟨v0, hl0, ho0, rfl⟩ := h
  have hbA := belA (bel0 w) (.cells (VA f) 65)
  have hlx : look (w.alloc (.cells (VA f) 65)) w.heap.size = some (.cells (VA f) 65 (0, 0)) := look_alloc_at _ _ _ rfl
  have hpw := look_lt hl0
  have hgw : ∀ k, v0.ownBlock = some k → k < w.heap.size := fun k e => (ho0.lt k e).2
  have hW0 : WrV (w.alloc (.cells (VA f) 65)) p v0.ownBlock bs := wr_keeps ⟨v0, hl0, ho0, rfl⟩ hbA
  go_enter Try.func45, Try.ntmps45
  go_wp2
  go_loopw [5] (fun n wr => ∃ m : Nat, m ≤ 12 ∧ n = .int .i64 m ∧ trimN f 12 = trimN f m ∧ wr = w.alloc (.cells (VA f) 65)) (fun n _ => (intOf n).toNat)
  case atStart => exact ⟨12, by omega, rfl, rfl, rfl⟩
  case round =>
    obtain ⟨m, hm, rfl, htr, rfl⟩ := hrel
    by_cases hz : 0 < m ∧ f (m - 1) = 0
    · obtain ⟨k, rfl⟩ : ∃ k, m = k + 1 := ⟨m - 1, by omega⟩
      have hk0 : f k = 0 := hz.2
      have htr2 : trimN f 12 = trimN f k := by rw [htr, trimN_succ, if_pos hk0]
      clear htr
      have hc : (w.alloc (.cells (VA f) 65)).cell? ⟨w.heap.size, k, none⟩ = some (.int .u32 0) := by
        rw [look_cell hlx, VA_get f k (by omega), hk0]
        rfl
      go_wp2
      go_roundw
      case rel => exact ⟨k, by omega, rfl, htr2, by simp⟩
      case measure => simp [intOf]
    · have hfix := trimN_fix f m hz
      rw [hfix] at htr
      have hstop : m = 0 ∨ ∃ k, m = k + 1 ∧ f k ≠ 0 := by
        cases m with
        | zero => exact .inl rfl
        | succ k => exact .inr ⟨k, rfl, fun e => hz ⟨by omega, e⟩⟩
      have hbs : bs ++ vecB f = bs ++ numB m ++ vbs f m := by unfold vecB; rw [htr, List.append_assoc]
      have hbh := hidP hbs
      have hfh := hidP hf
      clear hbs hz hf htr hfix
      have hcx : ∀ k, k < 12 → (w.alloc (.cells (VA f) 65)).cell? ⟨w.heap.size, k, none⟩ = some (.int .u32 (f k : Int)) := fun k hk => by
        rw [look_cell hlx, VA_get f k hk]
      have hch := hidP hcx
      clear hcx
      rcases hstop with rfl | ⟨k, rfl, hk0⟩
      · go_wp2_with fail
        refine (num_any p v0.ownBlock bs 0 _ (by omega) (by omega) hW0).mono ?_
        rintro _ w1 ⟨rfl, g1, hW1, hn1, hk1⟩
        have hlx1 : look w1 w.heap.size = some (.cells (VA f) 65 (0, 0)) := keeps_look hk1 hlx (by omega) (fun e => by have := hgw _ e.symm; omega)
        go_wp2_with fail
        go_loopw [26] (fun n wr => ∃ i : Nat, i ≤ 0 ∧ n = .int .i64 i ∧ look wr w.heap.size = some (.cells (VA f) 65 (0, 0)) ∧ ∃ gi, WrV wr p gi (bs ++ numB (0) ++ vbs f i) ∧ newOr (w.alloc (.cells (VA f) 65)) v0.ownBlock gi ∧ KeepsG p v0.ownBlock (w.alloc (.cells (VA f) 65)) wr) (fun n _ => 0 - (intOf n).toNat)
        case atStart => exact ⟨0, by omega, rfl, hlx1, g1, by simpa [vbs] using hW1, hn1, hk1⟩
        case round =>
          obtain ⟨i, hi, rfl, hlr, gi, hWr, hnr, hkr⟩ := hrel
          by_cases hlt : i < 0
          · omega
          · obtain rfl : i = 0 := by omega
            go_wp2_with fail
            go_ret
            refine ⟨rfl, ?_⟩
            rw [hbh.out]
            exact Wrote.trans (below_keeps hbA) (.inl rfl) ⟨gi, hWr, hnr, hkr⟩
      · have hc := hch.out k (by omega)
        go_wp2_with fail
        refine (num_any p v0.ownBlock bs (k + 1) _ (by omega) (by omega) hW0).mono ?_
        rintro _ w1 ⟨rfl, g1, hW1, hn1, hk1⟩
        have hsv := slice_vec w.heap.size k (by omega) w1
        have hlx1 : look w1 w.heap.size = some (.cells (VA f) 65 (0, 0)) := keeps_look hk1 hlx (by omega) (fun e => by have := hgw _ e.symm; omega)
        go_wp2_with fail
        go_loopw [26] (fun n wr => ∃ i : Nat, i ≤ k + 1 ∧ n = .int .i64 i ∧ look wr w.heap.size = some (.cells (VA f) 65 (0, 0)) ∧ ∃ gi, WrV wr p gi (bs ++ numB (k + 1) ++ vbs f i) ∧ newOr (w.alloc (.cells (VA f) 65)) v0.ownBlock gi ∧ KeepsG p v0.ownBlock (w.alloc (.cells (VA f) 65)) wr) (fun n _ => k + 1 - (intOf n).toNat)
        case atStart => exact ⟨0, by omega, rfl, hlx1, g1, by simpa [vbs] using hW1, hn1, hk1⟩
        case round =>
          obtain ⟨i, hi, rfl, hlr, gi, hWr, hnr, hkr⟩ := hrel
          by_cases hlt : i < k + 1
          · have hci : wr.cell? ⟨w.heap.size, i, none⟩ = some (.int .u32 (f i : Int)) := by rw [look_cell hlr, VA_get f i (by omega)]
            have hfi := hfh.out i
            have hnl := numB_len (k + 1)
            have hvl := vbs_len f i
            have hlenr : (bs ++ numB (k + 1) ++ vbs f i).length ≤ 1000000 := by rw [List.length_append, List.length_append]; omega
            have hwrp : IntKind.u64.wrap (f i : Int) = (f i : Int) := IntWalk.u64_in _ (by omega)
            go_wp2_with fail
            refine (num_any p gi _ (f i) _ (by omega) hlenr hWr).mono ?_
            rintro _ w2 ⟨rfl, g2, hW2, hn2, hk2⟩
            have hsz : w.heap.size < wr.heap.size := look_lt hlr
            have hlr2 : look w2 w.heap.size = some (.cells (VA f) 65 (0, 0)) := keeps_look hk2 hlr (by omega) (fun e => by
              rcases hnr with rfl | ⟨q, rfl, hq⟩
              · have := hgw _ e.symm; omega
              · cases e; exact absurd hq (by simp))
            go_wp2_with fail
            go_roundw
            case rel => exact ⟨i + 1, by omega, by go_num, hlr2, g2, by rw [vbs_succ, ← List.append_assoc]; exact hW2, hnr.trans hkr.size hn2, hkr.trans hnr hk2⟩
            case measure => simp [intOf]; omega
          · obtain rfl : i = k + 1 := by omega
            go_wp2_with fail
            go_ret
            refine ⟨rfl, ?_⟩
            rw [hbh.out]
            exact Wrote.trans (below_keeps hbA) (.inl rfl) ⟨gi, hWr, hnr, hkr⟩
end Go.Proofs.Ytniphfkipjpikaa
