/- Contracts of the clock package: Meet, Count, Order; and of the law's As. -/
import Derived.Test.YtniphfkipjpikaaClkB
namespace Go.Proofs.Ytniphfkipjpikaa
open Go.RowKit

/-- Of two vectors at each place the lesser number. -/
def vmin (f g : Nat → Nat) : Nat → Nat := fun i => min (f i) (g i)
def vminTo (f g : Nat → Nat) (m : Nat) : Nat → Nat := fun i => if i < m then min (f i) (g i) else f i
theorem vminTo_zero (f g : Nat → Nat) : vminTo f g 0 = f := by funext i; simp [vminTo]
theorem vminTo_all (f g : Nat → Nat) : VA (vminTo f g 12) = VA (vmin f g) := VA_ext fun i hi => by simp [vminTo, vmin, hi]
theorem vminTo_at (f g : Nat → Nat) (m : Nat) : vminTo f g m m = f m := by simp [vminTo]
theorem vminTo_step (f g : Nat → Nat) (m : Nat) : upd (vminTo f g m) m (min (f m) (g m)) = vminTo f g (m + 1) := by
  funext i
  by_cases e : i = m
  · subst e; simp [upd, vminTo]
  · have : (i < m + 1) ↔ (i < m) := by omega
    simp [upd, vminTo, e, this]

/-- The sum of the first m numbers. -/
def cntN (f : Nat → Nat) : Nat → Nat
  | 0 => 0
  | m + 1 => cntN f m + f m
theorem cntN_le (f : Nat → Nat) (hf : ∀ i, f i ≤ 4294967295) : ∀ m, cntN f m ≤ m * 4294967295
  | 0 => by simp [cntN]
  | m + 1 => by have := cntN_le f hf m; have := hf m; simp only [cntN]; omega

set_option maxRecDepth 100000 in
set_option maxHeartbeats 400000 in
theorem count_any (f : Nat → Nat) (hf : ∀ i, f i ≤ 4294967295) (w : World) :
    Calls Try.prog 59 #[.agg (VA f)] w fun e w' => e = .returned (.int .u64 (cntN f 12 : Int)) ∧ Below w.heap.size w w' := by
  go_enter Try.func59, Try.ntmps59
  go_wp2
  go_loop [3, 7] (fun n i => ∃ m : Nat, m ≤ 12 ∧ i = .int .i64 m ∧ n = .int .u64 (cntN f m : Int)) (fun _ i => 12 - (intOf i).toNat)
  case atStart => exact ⟨0, Nat.zero_le _, rfl, rfl⟩
  case round =>
    obtain ⟨m, hm, rfl, rfl⟩ := hrel
    by_cases hml : m < 12
    · have hs : IntKind.u64.wrap ((cntN f m : Int) + (f m : Int)) = ((cntN f (m + 1) : Nat) : Int) := by
        have h1 := cntN_le f hf m
        have h2 := hf m
        rw [IntWalk.u64_in _ (by omega)]
        simp [cntN]
      have hw : IntKind.u64.wrap (f m : Int) = (f m : Int) := IntWalk.u64_in _ (by have := hf m; omega)
      clear hf
      go_wp2
      exact ⟨⟨m + 1, by omega, by go_num, rfl⟩, by simp [intOf]; omega⟩
    · obtain rfl : m = 12 := by omega
      go_wp2
      go_ret
      exact ⟨rfl, belA (bel0 _) _⟩

/-- How two vectors stand to each other. -/
def ordN (f g : Nat → Nat) : Int := if veq f g = true then 0 else if covB f g = true then 1 else if covB g f = true then -1 else 2

set_option maxRecDepth 100000 in
set_option maxHeartbeats 400000 in
theorem order_any (f g : Nat → Nat) (w : World) :
    Calls Try.prog 60 #[.agg (VA f), .agg (VA g)] w fun e w' => e = .returned (.int .i64 (ordN f g)) ∧ Below w.heap.size w w' := by
  have hv : ordN f g = if veq f g = true then 0 else if covB f g = true then 1 else if covB g f = true then -1 else 2 := rfl
  cases h1 : veq f g
  · cases h2 : covB f g
    · cases h3 : covB g f
      all_goals
        simp only [h1, h2, h3, Bool.false_eq_true, if_false, if_true] at hv
        rw [hv]
        clear hv
        go_enter Try.func60, Try.ntmps60
        go_wp2_with fail
        refine (covers_any _ _ _).mono ?_
        rintro e w' ⟨rfl, hb⟩
        rw [h2]
        replace lx : look w' (w.heap.size) = some (.cells (VA f) 65 (0, 0)) := by rw [look_below hb (by first | omega | (simp only [World.size_alloc]; omega) | exact look_lt (by assumption) | (simp only [World.size_alloc, World.size_setCell]; omega) | (simp; omega))]; first | assumption | go_simp
        replace cx : ∀ i, i < 12 → World.cell? w' ⟨w.heap.size, i, none⟩ = some (.int .u32 (((f) i : Nat) : Int)) := fun i hi => by rw [look_cell lx, VA_get _ _ hi]
        replace fx := look_frozen lx
        replace sx := look_lt lx
        replace ly : look w' (w.heap.size + 1) = some (.cells (VA g) 65 (0, 0)) := by rw [look_below hb (by first | omega | (simp only [World.size_alloc]; omega) | exact look_lt (by assumption) | (simp only [World.size_alloc, World.size_setCell]; omega) | (simp; omega))]; first | assumption | go_simp
        replace cy : ∀ i, i < 12 → World.cell? w' ⟨w.heap.size + 1, i, none⟩ = some (.int .u32 (((g) i : Nat) : Int)) := fun i hi => by rw [look_cell ly, VA_get _ _ hi]
        replace fy := look_frozen ly
        replace sy := look_lt ly
        go_wp2_with fail
        refine (covers_any _ _ _).mono ?_
        rintro e w2 ⟨rfl, hb2⟩
        rw [h3]
        go_wp2
        go_ret
        exact ⟨rfl, belT (belT (belA (belA (bel0 _) _) _) hb) hb2⟩
    · simp only [h1, h2, Bool.false_eq_true, if_false, if_true] at hv
      rw [hv]
      clear hv
      go_enter Try.func60, Try.ntmps60
      go_wp2_with fail
      refine (covers_any _ _ _).mono ?_
      rintro e w' ⟨rfl, hb⟩
      rw [h2]
      go_wp2
      go_ret
      exact ⟨rfl, belT (belA (belA (bel0 _) _) _) hb⟩
  · simp only [h1, if_true] at hv
    rw [hv]
    clear hv
    go_enter Try.func60, Try.ntmps60
    go_wp2
    go_ret
    exact ⟨rfl, belA (belA (bel0 _) _) _⟩
end Go.Proofs.Ytniphfkipjpikaa
