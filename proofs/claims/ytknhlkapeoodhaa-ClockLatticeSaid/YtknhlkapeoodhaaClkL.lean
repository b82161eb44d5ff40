/- The fixed calls of the clock's statements. -/
import Derived.Test.YtknhlkapeoodhaaClkT
namespace Go.Proofs.Ytknhlkapeoodhaa
open Go.RowKit

def z0 : Nat → Nat := fun _ => 0

set_option maxRecDepth 100000 in
set_option maxHeartbeats 1600000 in
theorem alive04 (w : World) :
    Calls Try.prog 13 #[] w fun e w' => e = .returned (.bool true) ∧ Below w.heap.size w w' := by
  have hj : VA (vmax (upd (upd (upd (fun _ => 0) 0 1) 1 0) 2 2) (upd (upd (fun _ => 0) 0 0) 1 3)) = VA (upd (upd (upd (fun _ => 0) 0 1) 1 3) 2 2) := rfl
  have hq : veq (upd (upd (upd (fun _ => 0) 0 1) 1 3) 2 2) (upd (upd (upd (fun _ => 0) 0 1) 1 3) 2 2) = true := by decide
  have n1 : nextV (upd (upd (upd (fun _ => 0) 0 1) 1 3) 2 2) 2 = .tuple #[.agg #[.int .i64 2, .int .u32 4], .int .i64 0] := rfl
  have n2 : nextV (upd (upd (upd (fun _ => 0) 0 1) 1 3) 2 2) 13 = .tuple #[.agg #[.int .i64 0, .int .u32 0], .int .i64 11] := rfl
  have k1 : hasB (upd (upd (upd (fun _ => 0) 0 1) 1 3) 2 2) 2 3 = true := by decide
  have k2 : hasB (upd (upd (upd (fun _ => 0) 0 1) 1 3) 2 2) 2 4 = false := by decide
  have o1 : ordN (upd (upd (upd (fun _ => 0) 0 1) 1 3) 2 2) (upd (fun _ => 0) 0 1) = 1 := by decide
  have c1 : cntN (upd (upd (upd (fun _ => 0) 0 1) 1 3) 2 2) 12 = 6 := by decide
  have hle : ∀ i, upd (upd (upd (fun _ => 0) 0 1) 1 3) 2 2 i ≤ 4294967295 := by
    intro i
    simp only [upd]
    split
    · omega
    · split
      · omega
      · split <;> omega
  have HN1 := Lib.hid n1
  have HN2 := Lib.hid n2
  have HL := Lib.hid hle
  have HJ := Lib.hid hj
  have HK1 := Lib.hid k1
  have HK2 := Lib.hid k2
  have HO := Lib.hid o1
  have HC := Lib.hid c1
  clear n1 n2 hle hj k1 k2 o1 c1
  go_enter Try.func13, Try.ntmps13
  go_wp2_with fail
  refine (join_two (upd (upd (upd (fun _ => 0) 0 1) 1 0) 2 2) (upd (upd (fun _ => 0) 0 0) 1 3) _ _ (by go_simp)).mono ?_
  rintro e w1 ⟨rfl, hb1⟩
  rw [HJ.out]
  go_wp2_with fail
  refine (next_any (upd (upd (upd (fun _ => 0) 0 1) 1 3) 2 2) 2 _).mono ?_
  rintro e w2 ⟨rfl, hb2⟩
  rw [HN1.out]
  replace lv : look w2 (w1.heap.size) = some (.cells (VA (upd (upd (upd (fun _ => 0) 0 1) 1 3) 2 2)) 26 (0, 0)) := by rw [look_below hb2 (by first | omega | (simp only [World.size_alloc]; omega) | exact look_lt (by assumption) | (simp only [World.size_alloc, World.size_setCell]; omega) | (simp; omega))]; first | assumption | go_simp
  replace cv : ∀ i, i < 12 → World.cell? w2 ⟨w1.heap.size, i, none⟩ = some (.int .u32 ((((upd (upd (upd (fun _ => 0) 0 1) 1 3) 2 2)) i : Nat) : Int)) := fun i hi => by rw [look_cell lv, VA_get _ _ hi]
  replace fv := look_frozen lv
  replace sv := look_lt lv
  go_wp2_with fail
  refine (next_any (upd (upd (upd (fun _ => 0) 0 1) 1 3) 2 2) 13 _).mono ?_
  rintro e w3 ⟨rfl, hb3⟩
  rw [HN2.out]
  replace lv : look w3 (w1.heap.size) = some (.cells (VA (upd (upd (upd (fun _ => 0) 0 1) 1 3) 2 2)) 26 (0, 0)) := by rw [look_below hb3 (by first | omega | (simp only [World.size_alloc]; omega) | exact look_lt (by assumption) | (simp only [World.size_alloc, World.size_setCell]; omega) | (simp; omega))]; first | assumption | go_simp
  replace cv : ∀ i, i < 12 → World.cell? w3 ⟨w1.heap.size, i, none⟩ = some (.int .u32 ((((upd (upd (upd (fun _ => 0) 0 1) 1 3) 2 2)) i : Nat) : Int)) := fun i hi => by rw [look_cell lv, VA_get _ _ hi]
  replace fv := look_frozen lv
  replace sv := look_lt lv
  replace ld : look w3 (w2.heap.size) = some (.cells (#[.int .i64 2, .int .u32 4]) 34 (0, 0)) := by rw [look_below hb3 (by first | omega | (simp only [World.size_alloc]; omega) | exact look_lt (by assumption) | (simp only [World.size_alloc, World.size_setCell]; omega) | (simp; omega))]; first | assumption | go_simp
  replace cd0 : World.cell? w3 ⟨w2.heap.size, 0, none⟩ = some (.int .i64 2) := by rw [look_cell ld]; rfl
  replace cd1 : World.cell? w3 ⟨w2.heap.size, 1, none⟩ = some (.int .u32 4) := by rw [look_cell ld]; rfl
  replace fd := look_frozen ld
  replace sd := look_lt ld
  go_wp2_with fail
  refine (has_any (upd (upd (upd (fun _ => 0) 0 1) 1 3) 2 2) 2 3 _).mono ?_
  rintro e w4 ⟨rfl, hb4⟩
  rw [HK1.out]
  replace lv : look w4 (w1.heap.size) = some (.cells (VA (upd (upd (upd (fun _ => 0) 0 1) 1 3) 2 2)) 26 (0, 0)) := by rw [look_below hb4 (by first | omega | (simp only [World.size_alloc]; omega) | exact look_lt (by assumption) | (simp only [World.size_alloc, World.size_setCell]; omega) | (simp; omega))]; first | assumption | go_simp
  replace cv : ∀ i, i < 12 → World.cell? w4 ⟨w1.heap.size, i, none⟩ = some (.int .u32 ((((upd (upd (upd (fun _ => 0) 0 1) 1 3) 2 2)) i : Nat) : Int)) := fun i hi => by rw [look_cell lv, VA_get _ _ hi]
  replace fv := look_frozen lv
  replace sv := look_lt lv
  replace ld : look w4 (w2.heap.size) = some (.cells (#[.int .i64 2, .int .u32 4]) 34 (0, 0)) := by rw [look_below hb4 (by first | omega | (simp only [World.size_alloc]; omega) | exact look_lt (by assumption) | (simp only [World.size_alloc, World.size_setCell]; omega) | (simp; omega))]; first | assumption | go_simp
  replace cd0 : World.cell? w4 ⟨w2.heap.size, 0, none⟩ = some (.int .i64 2) := by rw [look_cell ld]; rfl
  replace cd1 : World.cell? w4 ⟨w2.heap.size, 1, none⟩ = some (.int .u32 4) := by rw [look_cell ld]; rfl
  replace fd := look_frozen ld
  replace sd := look_lt ld
  go_wp2_with fail
  refine (has_any (upd (upd (upd (fun _ => 0) 0 1) 1 3) 2 2) 2 4 _).mono ?_
  rintro e w5 ⟨rfl, hb5⟩
  rw [HK2.out]
  replace lv : look w5 (w1.heap.size) = some (.cells (VA (upd (upd (upd (fun _ => 0) 0 1) 1 3) 2 2)) 26 (0, 0)) := by rw [look_below hb5 (by first | omega | (simp only [World.size_alloc]; omega) | exact look_lt (by assumption) | (simp only [World.size_alloc, World.size_setCell]; omega) | (simp; omega))]; first | assumption | go_simp
  replace cv : ∀ i, i < 12 → World.cell? w5 ⟨w1.heap.size, i, none⟩ = some (.int .u32 ((((upd (upd (upd (fun _ => 0) 0 1) 1 3) 2 2)) i : Nat) : Int)) := fun i hi => by rw [look_cell lv, VA_get _ _ hi]
  replace fv := look_frozen lv
  replace sv := look_lt lv
  go_wp2_with fail
  refine (order_any (upd (upd (upd (fun _ => 0) 0 1) 1 3) 2 2) (upd (fun _ => 0) 0 1) _).mono ?_
  rintro e w6 ⟨rfl, hb6⟩
  rw [HO.out]
  replace lv : look w6 (w1.heap.size) = some (.cells (VA (upd (upd (upd (fun _ => 0) 0 1) 1 3) 2 2)) 26 (0, 0)) := by rw [look_below hb6 (by first | omega | (simp only [World.size_alloc]; omega) | exact look_lt (by assumption) | (simp only [World.size_alloc, World.size_setCell]; omega) | (simp; omega))]; first | assumption | go_simp
  replace cv : ∀ i, i < 12 → World.cell? w6 ⟨w1.heap.size, i, none⟩ = some (.int .u32 ((((upd (upd (upd (fun _ => 0) 0 1) 1 3) 2 2)) i : Nat) : Int)) := fun i hi => by rw [look_cell lv, VA_get _ _ hi]
  replace fv := look_frozen lv
  replace sv := look_lt lv
  go_wp2_with fail
  refine (count_any (upd (upd (upd (fun _ => 0) 0 1) 1 3) 2 2) HL.out _).mono ?_
  rintro e w7 ⟨rfl, hb7⟩
  rw [HC.out]
  go_wp2
  go_ret
  exact ⟨rfl, belT (belT (belT (belT (belA (belT (belA (belT (belA (belT (belA (bel0 _) _) hb1) _) hb2) _) hb3) _) hb4) hb5) hb6) hb7⟩
end Go.Proofs.Ytknhlkapeoodhaa
