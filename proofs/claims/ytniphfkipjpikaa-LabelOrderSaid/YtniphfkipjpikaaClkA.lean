/- Contracts of the clock package's small functions. -/
import Derived.Test.YtniphfkipjpikaaVecP
import Derived.Test.YtniphfkipjpikaaReg
import Derived.StillTactics
import Derived.LoopTactic
import Derived.Laws.CopyOwn
namespace Go.Proofs.Ytniphfkipjpikaa
open Go.RowKit

theorem rangeAt_of_row {w : World} {b : Nat} {cs : Array Value} {t : TypeId} {fr : Nat × Nat} (h : w.heap[b]? = some (.cells cs t fr)) : w.rangeAt b 0 cs.toList := by
  intro j v hv
  rw [Nat.zero_add, cell_of_row _ _ _ _ _ _ h]
  simpa using hv

/-- Of two vectors at each place the greater number. -/
def vmax (f g : Nat → Nat) : Nat → Nat := fun i => max (f i) (g i)
/-- the same, as far as place m. -/
def vmaxTo (f g : Nat → Nat) (m : Nat) : Nat → Nat := fun i => if i < m then max (f i) (g i) else f i

theorem vmaxTo_zero (f g : Nat → Nat) : vmaxTo f g 0 = f := by funext i; simp [vmaxTo]
theorem vmaxTo_all (f g : Nat → Nat) : VA (vmaxTo f g 12) = VA (vmax f g) := VA_ext fun i hi => by simp [vmaxTo, vmax, hi]
theorem vmaxTo_at (f g : Nat → Nat) (m : Nat) : vmaxTo f g m m = f m := by simp [vmaxTo]
theorem vmaxTo_step (f g : Nat → Nat) (m : Nat) : upd (vmaxTo f g m) m (max (f m) (g m)) = vmaxTo f g (m + 1) := by
  funext i
  by_cases e : i = m
  · subst e; simp [upd, vmaxTo]
  · have : (i < m + 1) ↔ (i < m) := by omega
    simp [upd, vmaxTo, e, this]

/-- Of n vectors at each place the greatest number. -/
def joinN (L : Nat → Nat → Nat) : Nat → Nat → Nat
  | 0 => fun _ => 0
  | k + 1 => vmax (joinN L k) (L k)

@[go_sem] theorem max_cast (a b : Nat) : (if (a : Int) < (b : Int) then (b : Int) else (a : Int)) = ((max a b : Nat) : Int) := by
  split <;> omega

@[go_sem] theorem min_cast (a b : Nat) : (if (b : Int) < (a : Int) then (b : Int) else (a : Int)) = ((min a b : Nat) : Int) := by
  split <;> omega
@[go_sem] theorem min_cast' (a b : Nat) : (if b < a then (b : Int) else (a : Int)) = ((min a b : Nat) : Int) := by
  split <;> omega
@[go_sem] theorem max_cast' (a b : Nat) : (if a < b then (b : Int) else (a : Int)) = ((max a b : Nat) : Int) := by
  split <;> omega

set_option maxHeartbeats 800000 in
theorem join_any (b off n cap : Nat) (L : Nat → Nat → Nat) (w : World) (hn : n ≤ 9223372036854775807) (hb : b < w.heap.size)
    (hL : ∀ k, k < n → w.rangeAt b (off + k * 12) (VA (L k)).toList) :
    Calls Try.prog 92 #[.slice (some ⟨b, off, none⟩) n cap] w fun e w' => e = .returned (.agg (VA (joinN L n))) ∧ Below w.heap.size w w' := by
  go_enter Try.func92, Try.ntmps92
  go_wp2
  go_loopw [10] (fun i wr => ∃ k : Nat, k ≤ n ∧ i = .int .i64 k ∧ Below w.heap.size w wr ∧ look wr w.heap.size = some (.cells (VA fun _ => 0) 65 (0, 0)) ∧ look wr (w.heap.size + 1) = some (.cells (VA (joinN L k)) 65 (0, 0))) (fun i _ => n - (intOf i).toNat)
  case atStart =>
    exact ⟨0, Nat.zero_le _, rfl, ((Below.refl _ _).alloc (Nat.le_refl _) _).alloc (by simp) _, by go_simp, by simp only [joinN]; go_simp⟩
  case round =>
    obtain ⟨k, hk, rfl, hB, h0, h1⟩ := hrel
    have hs0 := look_lt h1
    by_cases hlt : k < n
    · have hr : wr.rangeAt b (off + k * 12) (VA (L k)).toList := by
        intro j v hv
        rw [hB.cell hb]
        exact hL k hlt j v hv
      go_wp2_with (refine wpList_load_mid rfl 65 _ rfl b (off + k * 12) rfl (VA (L k)).toList _ hr Try.underlying65 rfl (by rw [Array.length_toList, VA_size]; exact vec_info) ?_)
      obtain ⟨wo, rfl⟩ : ∃ wo : World, wo = wr := ⟨_, rfl⟩
      go_loopw [15] (fun i wr => ∃ m : Nat, m ≤ 12 ∧ i = .int .i64 m ∧ Below w.heap.size w wr ∧ look wr w.heap.size = some (.cells (VA fun _ => 0) 65 (0, 0)) ∧ look wr (w.heap.size + 1) = some (.cells (VA (vmaxTo (joinN L k) (L k) m)) 65 (0, 0))) (fun i _ => 12 - (intOf i).toNat)
      case atStart =>
        exact ⟨0, Nat.zero_le _, rfl, hB.alloc (by omega) _, by rw [look_alloc_past _ _ _ (by omega)]; exact h0, by rw [look_alloc_past _ _ _ (by omega), vmaxTo_zero]; exact h1⟩
      case round =>
        clear hB h0 h1 hs0 hr
        obtain ⟨m, hm, rfl, hB, h0, h1⟩ := hrel
        have hs0 := look_lt h1
        by_cases hml : m < 12
        · have hc1 : wr.cell? ⟨w.heap.size + 1, m, none⟩ = some (.int .u32 (joinN L k m : Int)) := by rw [look_cell h1, VA_get _ _ hml, vmaxTo_at]
          have hf1 := look_frozen h1 m
          go_wp2
          go_roundw
          case rel =>
            refine ⟨m + 1, by omega, by go_num, hB.setCell (by simp) _, by rw [look_set_other (by simp)]; exact h0, ?_⟩
            rw [look_set_same h1, VA_set, vmaxTo_step]
          case measure => simp [intOf]; omega
        · go_wp2
          go_roundw
          case rel =>
            obtain rfl : m = 12 := by omega
            refine ⟨k + 1, by omega, by go_num, hB, h0, ?_⟩
            rw [h1, vmaxTo_all]; rfl
          case measure => simp [intOf]; omega
    · obtain rfl : k = n := by omega
      go_wp2
      exact ret_vec (g := w.heap.size) (f := joinN L k) (t := 65) (fr := (0, 0)) Try.results92 rfl (by go_simp) rfl ⟨rfl, belR hB (Nat.le_refl _) _⟩

theorem join_zero (ad : Option Addr) (cap : Nat) (w : World) :
    Calls Try.prog 92 #[.slice ad 0 cap] w fun e w' => e = .returned (.agg (VA fun _ => 0)) ∧ Below w.heap.size w w' := by
  go_enter Try.func92, Try.ntmps92
  go_wp2
  refine wp_loop_rounds 1 ?_
  rw [rounds_succ]
  go_wp2
  exact ret_vec (g := w.heap.size) (f := fun _ => 0) (t := 65) (fr := (0, 0)) Try.results92 rfl (by go_simp) rfl ⟨rfl, belA (belA (bel0 _) _) _⟩

theorem join_nil (w : World) :
    Calls Try.prog 92 #[.slice none 0 0] w fun e w' => e = .returned (.agg (VA fun _ => 0)) ∧ Below w.heap.size w w' := join_zero none 0 w

theorem join_two (f g : Nat → Nat) (b : Nat) (w : World) (h : look w b = some (.cells (VA f ++ VA g) 65 (0, 0))) :
    Calls Try.prog 92 #[.slice (some ⟨b, 0, none⟩) 2 2] w fun e w' => e = .returned (.agg (VA (vmax f g))) ∧ Below w.heap.size w w' := by
  have h1 := join_any b 0 2 2 (fun k => if k = 0 then f else g) w (by omega) (look_lt h) (by
    intro k hk j v hv
    rw [look_cell h]
    have hk2 : k = 0 ∨ k = 1 := by omega
    have hj : j < 12 := by
      have := (List.getElem?_eq_some_iff.1 hv).1
      simpa [VA_size] using this
    rcases hk2 with rfl | rfl
    · simp only [if_true] at hv
      rw [Array.getElem?_append_left (by rw [VA_size]; omega)]
      simpa using hv
    · simp only [Nat.succ_ne_self, if_false] at hv
      rw [Array.getElem?_append_right (by rw [VA_size]; omega), VA_size]
      have e : 0 + 1 * 12 + j - 12 = j := by omega
      rw [e]
      simpa using hv)
  refine h1.mono ?_
  rintro e w' ⟨rfl, hb⟩
  refine ⟨?_, hb⟩
  have : VA (joinN (fun k => if k = 0 then f else g) 2) = VA (vmax f g) := VA_ext fun i _ => by simp [joinN, vmax]
  rw [this]

/-- Does a vector cover another one? -/
def covB (f g : Nat → Nat) : Bool := veq (vmax f g) f
theorem covB_iff (f g : Nat → Nat) : covB f g = true ↔ ∀ i, i < 12 → g i ≤ f i := by
  unfold covB
  rw [veq_iff]
  constructor
  · intro h i hi
    have := h i hi
    simp only [vmax] at this
    omega
  · intro h i hi
    have := h i hi
    simp only [vmax]
    omega

theorem mixed : Try.prog.follows .mixedOrders = true := by kernel_rfl

set_option maxHeartbeats 800000 in
theorem covers_any (f g : Nat → Nat) (w : World) :
    Calls Try.prog 54 #[.agg (VA f), .agg (VA g)] w fun e w' => e = .returned (.bool (covB f g)) ∧ Below w.heap.size w w' := by
  go_enter Try.func54, Try.ntmps54
  go_wp2
  refine wp_region_words mixed 6 ([] :: [] :: [5, 6] :: [7] :: [] :: [8, 9] :: []) (isV (.agg (VA f)) :: isV (.agg (VA g)) :: isRow 65 2 (VA f ++ VA g) :: isV (.agg (VA (vmax f g))) :: isV (.agg (VA f)) :: isV (.bool (covB f g)) :: []) (by decide) (by kernel_rfl)
    ⟨stab_isV _, stab_isV _, stab_isRow _ _ _, stab_isV _, stab_isV _, stab_isV _, trivial⟩ ⟨?_, ?_, ?_, ?_, ?_, ?_, trivial⟩ ?_
  · intro vs wq hB hm
    have hl : look wq (w.heap.size) = some (.cells (VA f) 65 (0, 0)) := by rw [look_below hB (by first | omega | (simp only [World.size_alloc]; omega) | exact look_lt (by assumption) | (simp only [World.size_alloc, World.size_setCell]; omega) | (simp; omega))]; first | assumption | go_simp
    clear hm
    simp only [fill]
    go_wp2
    exact ⟨_, rfl, rfl, Below.refl _ _, trivial⟩
  · intro vs wq hB hm
    have hl : look wq (w.heap.size + 1) = some (.cells (VA g) 65 (0, 0)) := by rw [look_below hB (by first | omega | (simp only [World.size_alloc]; omega) | exact look_lt (by assumption) | (simp only [World.size_alloc, World.size_setCell]; omega) | (simp; omega))]; first | assumption | go_simp
    clear hm
    simp only [fill]
    go_wp2
    exact ⟨_, rfl, rfl, Below.refl _ _, trivial⟩
  · intro vs wq hB hm
    have h5 : vs 5 = .agg (VA f) := meets_get hm 0 rfl rfl rfl rfl
    have h6 : vs 6 = .agg (VA g) := meets_get hm 1 rfl rfl rfl rfl
    clear hm
    simp only [fill, h5, h6]
    go_wp2
    exact ⟨_, rfl, ⟨_, rfl, look_alloc_at _ _ _ rfl⟩, (Below.refl _ _).alloc (Nat.le_refl _) _, fun b hb => by cases hb; exact ⟨Nat.le_refl _, by simp⟩⟩
  · intro vs wq hB hm
    obtain ⟨b7, h7, l7⟩ := meets_get hm 2 rfl rfl rfl rfl
    clear hm
    simp only [fill, h7]
    go_wp2_with fail
    refine (join_two f g b7 _ l7).mono ?_
    rintro e w1 ⟨rfl, hb1⟩
    go_wp2
    exact ⟨_, rfl, rfl, hb1, trivial⟩
  · intro vs wq hB hm
    have hl : look wq (w.heap.size) = some (.cells (VA f) 65 (0, 0)) := by rw [look_below hB (by first | omega | (simp only [World.size_alloc]; omega) | exact look_lt (by assumption) | (simp only [World.size_alloc, World.size_setCell]; omega) | (simp; omega))]; first | assumption | go_simp
    clear hm
    simp only [fill]
    go_wp2
    exact ⟨_, rfl, rfl, Below.refl _ _, trivial⟩
  · intro vs wq hB hm
    have h8 : vs 8 = .agg (VA (vmax f g)) := meets_get hm 3 rfl rfl rfl rfl
    have h9 : vs 9 = .agg (VA f) := meets_get hm 4 rfl rfl rfl rfl
    clear hm
    simp only [fill, h8, h9]
    go_wp2
    exact ⟨_, rfl, rfl, Below.refl _ _, trivial⟩
  intro vs wq hB hm hne hlo
  have h5 : vs 5 = .agg (VA f) := hm 0 _ _ _ rfl rfl rfl
  have h6 : vs 6 = .agg (VA g) := hm 1 _ _ _ rfl rfl rfl
  obtain ⟨b7, h7, l7⟩ := hm 2 _ _ _ rfl rfl rfl
  have h8 : vs 8 = .agg (VA (vmax f g)) := hm 3 _ _ _ rfl rfl rfl
  have h9 : vs 9 = .agg (VA f) := hm 4 _ _ _ rfl rfl rfl
  have h10 : vs 10 = .bool (covB f g) := hm 5 _ _ _ rfl rfl rfl
  have lo7 : _ ≤ b7 ∧ b7 < wq.heap.size := hlo 2 _ _ rfl rfl rfl b7 (by rw [h7]; rfl)
  clear hne hlo
  simp only [fill, List.filterMap, List.take, List.drop, List.setIfInBounds_toArray, List.set_cons_zero, List.set_cons_succ, h5, h6, h7, h8, h9, h10]
  clear hm h5 h6 h7 h8 h9 h10
  go_wp2
  go_ret
  exact ⟨rfl, belT (belA (belA (bel0 _) _) _) hB⟩
end Go.Proofs.Ytniphfkipjpikaa
