/- Contracts of the clock's reference. -/
import Derived.Test.YtknhlkapeoodhaaClkC
namespace Go.Proofs.Ytknhlkapeoodhaa
open Go.RowKit

set_option maxRecDepth 100000 in
set_option maxHeartbeats 800000 in
theorem rjoin_any (f g : Nat → Nat) (w : World) :
    Calls Try.prog 14 #[.agg (VA f), .agg (VA g)] w fun e w' => e = .returned (.agg (VA (vmax f g))) ∧ Below w.heap.size w w' := by
  go_enter Try.func14, Try.ntmps14
  go_wp2
  go_loopw [6] (fun i wr => ∃ m : Nat, m ≤ 12 ∧ i = .int .i64 m ∧ Below w.heap.size w wr ∧ look wr w.heap.size = some (.cells (VA f) 26 (0, 0)) ∧ look wr (w.heap.size + 1) = some (.cells (VA g) 26 (0, 0)) ∧ look wr (w.heap.size + 1 + 1) = some (.cells (VA fun _ => 0) 26 (0, 0)) ∧ look wr (w.heap.size + 1 + 1 + 1) = some (.cells (VA (vmaxTo f g m)) 26 (0, 0))) (fun i _ => 12 - (intOf i).toNat)
  case atStart =>
    exact ⟨0, Nat.zero_le _, rfl, belA (belA (belA (belA (bel0 _) _) _) _) _, by go_simp, by go_simp, by go_simp, by rw [vmaxTo_zero]; go_simp⟩
  case round =>
    obtain ⟨m, hm, rfl, hB0, h0, h1, h2, h3⟩ := hrel
    by_cases hml : m < 12
    · have hd : decide ((m : Int) < 12) = true := decide_eq_true (by omega)
      have c0 : World.cell? wr ⟨w.heap.size, m, none⟩ = some (.int .u32 (f m : Int)) := by rw [look_cell h0, VA_get _ _ hml]
      have c1 : World.cell? wr ⟨w.heap.size + 1, m, none⟩ = some (.int .u32 (g m : Int)) := by rw [look_cell h1, VA_get _ _ hml]
      have c3 : World.cell? wr ⟨w.heap.size + 1 + 1 + 1, m, none⟩ = some (.int .u32 (f m : Int)) := by rw [look_cell h3, VA_get _ _ hml, vmaxTo_at]
      have f3 := look_frozen h3 m
      by_cases hgt : f m < g m
      · go_wp2
        go_quiet (fail)
        go_wp2
        go_roundw
        case measure => simp [intOf]; omega
        case rel =>
          refine ⟨m + 1, by omega, by go_num, belS (belQ hB0 _) (by simp; omega) _, by go_simp, by go_simp, by go_simp, ?_⟩
          rw [look_setCell, if_pos rfl, look_drewN, h3]
          simp only [Option.map_some, setObj_cells]
          have e : max (f m) (g m) = g m := by omega
          rw [VA_set, ← vmaxTo_step, e]
      · go_wp2
        go_quiet (fail)
        go_wp2
        go_roundw
        case measure => simp [intOf]; omega
        case rel =>
          refine ⟨m + 1, by omega, by go_num, belQ hB0 _, by rw [look_drewN]; exact h0, by rw [look_drewN]; exact h1, by rw [look_drewN]; exact h2, ?_⟩
          rw [look_drewN, h3, ← vmaxTo_step]
          have e : max (f m) (g m) = f m := by omega
          rw [e]
          congr 2
          exact VA_ext fun i _ => by by_cases h : i = m; (subst h; simp [upd, vmaxTo]); (simp [upd, h])
    · obtain rfl : m = 12 := by omega
      go_wp2
      exact ret_vec (g := w.heap.size + 1 + 1) (f := vmaxTo f g 12) (t := 26) (fr := (0, 0)) Try.results14 rfl (by go_simp) rfl
        ⟨by rw [vmaxTo_all], belR hB0 (by omega) _⟩

set_option maxRecDepth 100000 in
set_option maxHeartbeats 800000 in
theorem rmeet_any (f g : Nat → Nat) (w : World) :
    Calls Try.prog 30 #[.agg (VA f), .agg (VA g)] w fun e w' => e = .returned (.agg (VA (vmin f g))) ∧ Below w.heap.size w w' := by
  go_enter Try.func30, Try.ntmps30
  go_wp2
  go_loopw [6] (fun i wr => ∃ m : Nat, m ≤ 12 ∧ i = .int .i64 m ∧ Below w.heap.size w wr ∧ look wr w.heap.size = some (.cells (VA f) 26 (0, 0)) ∧ look wr (w.heap.size + 1) = some (.cells (VA g) 26 (0, 0)) ∧ look wr (w.heap.size + 1 + 1) = some (.cells (VA fun _ => 0) 26 (0, 0)) ∧ look wr (w.heap.size + 1 + 1 + 1) = some (.cells (VA (vminTo f g m)) 26 (0, 0))) (fun i _ => 12 - (intOf i).toNat)
  case atStart =>
    exact ⟨0, Nat.zero_le _, rfl, belA (belA (belA (belA (bel0 _) _) _) _) _, by go_simp, by go_simp, by go_simp, by rw [vminTo_zero]; go_simp⟩
  case round =>
    obtain ⟨m, hm, rfl, hB0, h0, h1, h2, h3⟩ := hrel
    by_cases hml : m < 12
    · have hd : decide ((m : Int) < 12) = true := decide_eq_true (by omega)
      have c0 : World.cell? wr ⟨w.heap.size, m, none⟩ = some (.int .u32 (f m : Int)) := by rw [look_cell h0, VA_get _ _ hml]
      have c1 : World.cell? wr ⟨w.heap.size + 1, m, none⟩ = some (.int .u32 (g m : Int)) := by rw [look_cell h1, VA_get _ _ hml]
      have c3 : World.cell? wr ⟨w.heap.size + 1 + 1 + 1, m, none⟩ = some (.int .u32 (f m : Int)) := by rw [look_cell h3, VA_get _ _ hml, vminTo_at]
      have f3 := look_frozen h3 m
      by_cases hgt : g m < f m
      · go_wp2
        go_quiet (fail)
        go_wp2
        go_roundw
        case measure => simp [intOf]; omega
        case rel =>
          refine ⟨m + 1, by omega, by go_num, belS (belQ hB0 _) (by simp; omega) _, by go_simp, by go_simp, by go_simp, ?_⟩
          rw [look_setCell, if_pos rfl, look_drewN, h3]
          simp only [Option.map_some, setObj_cells]
          have e : min (f m) (g m) = g m := by omega
          rw [VA_set, ← vminTo_step, e]
      · go_wp2
        go_quiet (fail)
        go_wp2
        go_roundw
        case measure => simp [intOf]; omega
        case rel =>
          refine ⟨m + 1, by omega, by go_num, belQ hB0 _, by rw [look_drewN]; exact h0, by rw [look_drewN]; exact h1, by rw [look_drewN]; exact h2, ?_⟩
          rw [look_drewN, h3, ← vminTo_step]
          have e : min (f m) (g m) = f m := by omega
          rw [e]
          congr 2
          exact VA_ext fun i _ => by by_cases h : i = m; (subst h; simp [upd, vminTo]); (simp [upd, h])
    · obtain rfl : m = 12 := by omega
      go_wp2
      exact ret_vec (g := w.heap.size + 1 + 1) (f := vminTo f g 12) (t := 26) (fr := (0, 0)) Try.results30 rfl (by go_simp) rfl
        ⟨by rw [vminTo_all], belR hB0 (by omega) _⟩

end Go.Proofs.Ytknhlkapeoodhaa
