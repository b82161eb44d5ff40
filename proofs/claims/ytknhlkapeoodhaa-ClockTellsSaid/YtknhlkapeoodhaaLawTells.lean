/- ClockTells: the walk of the law. -/
import Derived.Test.YtknhlkapeoodhaaClkL
namespace Go.Proofs.Ytknhlkapeoodhaa
open Go.RowKit

theorem nextV_parts (f : Nat → Nat) (n : Int) : ∃ (a : Int) (b : Nat) (e : Int), nextV f n = .tuple #[.agg #[.int .i64 a, .int .u32 (b : Int)], .int .i64 e] := by
  unfold nextV
  split
  · split
    · exact ⟨0, 0, 5, rfl⟩
    · exact ⟨n, getN f n + 1, 0, rfl⟩
  · exact ⟨0, 0, 11, rfl⟩

set_option maxRecDepth 100000 in
set_option maxHeartbeats 4000000 in
theorem tells_walk (f g : Nat → Nat) (hf : ∀ i, f i ≤ 4294967295) (d : Int) (k : Nat) (n : Int) (w : World) :
    Calls Try.prog 7 #[.agg (VA f), .agg (VA g), .agg #[.int .i64 d, .int .u32 (k : Int)], .int .i64 n] w fun e w' => e = .returned (.bool true) ∧ Below w.heap.size w w' := by
  obtain ⟨na, nb, ne, hnx⟩ := nextV_parts f n
  have HX := Lib.hid hnx
  have HF := Lib.hid hf
  clear hnx hf
  have vf := (veq_iff (vmax f g) (vmax f g)).2 (fun _ _ => rfl)
  have vm := (veq_iff (vmin f g) (vmin f g)).2 (fun _ _ => rfl)
  have vw := (veq_iff (withN f d k) (withN f d k)).2 (fun _ _ => rfl)
  go_enter Try.func7, Try.ntmps7
  go_wp2_with fail
  refine (as_any d k _).mono ?_
  rintro e w1 ⟨rfl, hb1⟩
  replace lf : look w1 (w.heap.size) = some (.cells (VA f) 26 (0, 0)) := by rw [look_below hb1 (by first | omega | (simp only [World.size_alloc, World.size_setCell, World.size_drew, setRow_size]; omega) | exact look_lt (by assumption))]; first | assumption | go_simp
  replace cf : ∀ i, i < 12 → World.cell? w1 ⟨w.heap.size, i, none⟩ = some (.int .u32 (((f) i : Nat) : Int)) := fun i hi => by rw [look_cell lf, VA_get _ _ hi]
  replace ff := look_frozen lf
  replace sf := look_lt lf
  replace lg : look w1 (w.heap.size + 1) = some (.cells (VA g) 26 (0, 0)) := by rw [look_below hb1 (by first | omega | (simp only [World.size_alloc, World.size_setCell, World.size_drew, setRow_size]; omega) | exact look_lt (by assumption))]; first | assumption | go_simp
  replace cg : ∀ i, i < 12 → World.cell? w1 ⟨w.heap.size + 1, i, none⟩ = some (.int .u32 (((g) i : Nat) : Int)) := fun i hi => by rw [look_cell lg, VA_get _ _ hi]
  replace fg := look_frozen lg
  replace sg := look_lt lg
  replace ld : look w1 (w.heap.size + 1 + 1) = some (.cells (#[.int .i64 d, .int .u32 (k : Int)]) 34 (0, 0)) := by rw [look_below hb1 (by first | omega | (simp only [World.size_alloc, World.size_setCell, World.size_drew, setRow_size]; omega) | exact look_lt (by assumption))]; first | assumption | go_simp
  replace cd0 : World.cell? w1 ⟨w.heap.size + 1 + 1, 0, none⟩ = some (.int .i64 d) := by rw [look_cell ld]; rfl
  replace cd1 : World.cell? w1 ⟨w.heap.size + 1 + 1, 1, none⟩ = some (.int .u32 (k : Int)) := by rw [look_cell ld]; rfl
  replace fd := look_frozen ld
  replace sd := look_lt ld
  go_wp2_with fail
  refine (next_any f n _).mono ?_
  rintro e w2 ⟨rfl, hb2⟩
  rw [HX.out]
  replace lf : look w2 (w.heap.size) = some (.cells (VA f) 26 (0, 0)) := by rw [look_below hb2 (by first | omega | (simp only [World.size_alloc, World.size_setCell, World.size_drew, setRow_size]; omega) | exact look_lt (by assumption))]; first | assumption | go_simp
  replace cf : ∀ i, i < 12 → World.cell? w2 ⟨w.heap.size, i, none⟩ = some (.int .u32 (((f) i : Nat) : Int)) := fun i hi => by rw [look_cell lf, VA_get _ _ hi]
  replace ff := look_frozen lf
  replace sf := look_lt lf
  replace lg : look w2 (w.heap.size + 1) = some (.cells (VA g) 26 (0, 0)) := by rw [look_below hb2 (by first | omega | (simp only [World.size_alloc, World.size_setCell, World.size_drew, setRow_size]; omega) | exact look_lt (by assumption))]; first | assumption | go_simp
  replace cg : ∀ i, i < 12 → World.cell? w2 ⟨w.heap.size + 1, i, none⟩ = some (.int .u32 (((g) i : Nat) : Int)) := fun i hi => by rw [look_cell lg, VA_get _ _ hi]
  replace fg := look_frozen lg
  replace sg := look_lt lg
  replace ld : look w2 (w.heap.size + 1 + 1) = some (.cells (#[.int .i64 d, .int .u32 (k : Int)]) 34 (0, 0)) := by rw [look_below hb2 (by first | omega | (simp only [World.size_alloc, World.size_setCell, World.size_drew, setRow_size]; omega) | exact look_lt (by assumption))]; first | assumption | go_simp
  replace cd0 : World.cell? w2 ⟨w.heap.size + 1 + 1, 0, none⟩ = some (.int .i64 d) := by rw [look_cell ld]; rfl
  replace cd1 : World.cell? w2 ⟨w.heap.size + 1 + 1, 1, none⟩ = some (.int .u32 (k : Int)) := by rw [look_cell ld]; rfl
  replace fd := look_frozen ld
  replace sd := look_lt ld
  replace lx : look w2 (w1.heap.size) = some (.cells (#[.int .i64 d, .int .u32 (k : Int)]) 45 (0, 0)) := by rw [look_below hb2 (by first | omega | (simp only [World.size_alloc, World.size_setCell, World.size_drew, setRow_size]; omega) | exact look_lt (by assumption))]; first | assumption | go_simp
  replace cx0 : World.cell? w2 ⟨w1.heap.size, 0, none⟩ = some (.int .i64 d) := by rw [look_cell lx]; rfl
  replace cx1 : World.cell? w2 ⟨w1.heap.size, 1, none⟩ = some (.int .u32 (k : Int)) := by rw [look_cell lx]; rfl
  replace fx := look_frozen lx
  replace sx := look_lt lx
  go_wp2_with fail
  refine (rnext_any f n _).mono ?_
  rintro e w3 ⟨rfl, hb3⟩
  rw [HX.out]
  replace lf : look w3 (w.heap.size) = some (.cells (VA f) 26 (0, 0)) := by rw [look_below hb3 (by first | omega | (simp only [World.size_alloc, World.size_setCell, World.size_drew, setRow_size]; omega) | exact look_lt (by assumption))]; first | assumption | go_simp
  replace cf : ∀ i, i < 12 → World.cell? w3 ⟨w.heap.size, i, none⟩ = some (.int .u32 (((f) i : Nat) : Int)) := fun i hi => by rw [look_cell lf, VA_get _ _ hi]
  replace ff := look_frozen lf
  replace sf := look_lt lf
  replace lg : look w3 (w.heap.size + 1) = some (.cells (VA g) 26 (0, 0)) := by rw [look_below hb3 (by first | omega | (simp only [World.size_alloc, World.size_setCell, World.size_drew, setRow_size]; omega) | exact look_lt (by assumption))]; first | assumption | go_simp
  replace cg : ∀ i, i < 12 → World.cell? w3 ⟨w.heap.size + 1, i, none⟩ = some (.int .u32 (((g) i : Nat) : Int)) := fun i hi => by rw [look_cell lg, VA_get _ _ hi]
  replace fg := look_frozen lg
  replace sg := look_lt lg
  replace ld : look w3 (w.heap.size + 1 + 1) = some (.cells (#[.int .i64 d, .int .u32 (k : Int)]) 34 (0, 0)) := by rw [look_below hb3 (by first | omega | (simp only [World.size_alloc, World.size_setCell, World.size_drew, setRow_size]; omega) | exact look_lt (by assumption))]; first | assumption | go_simp
  replace cd0 : World.cell? w3 ⟨w.heap.size + 1 + 1, 0, none⟩ = some (.int .i64 d) := by rw [look_cell ld]; rfl
  replace cd1 : World.cell? w3 ⟨w.heap.size + 1 + 1, 1, none⟩ = some (.int .u32 (k : Int)) := by rw [look_cell ld]; rfl
  replace fd := look_frozen ld
  replace sd := look_lt ld
  replace lx : look w3 (w1.heap.size) = some (.cells (#[.int .i64 d, .int .u32 (k : Int)]) 45 (0, 0)) := by rw [look_below hb3 (by first | omega | (simp only [World.size_alloc, World.size_setCell, World.size_drew, setRow_size]; omega) | exact look_lt (by assumption))]; first | assumption | go_simp
  replace cx0 : World.cell? w3 ⟨w1.heap.size, 0, none⟩ = some (.int .i64 d) := by rw [look_cell lx]; rfl
  replace cx1 : World.cell? w3 ⟨w1.heap.size, 1, none⟩ = some (.int .u32 (k : Int)) := by rw [look_cell lx]; rfl
  replace fx := look_frozen lx
  replace sx := look_lt lx
  replace ly : look w3 (w2.heap.size) = some (.cells (#[.int .i64 na, .int .u32 (nb : Int)]) 34 (0, 0)) := by rw [look_below hb3 (by first | omega | (simp only [World.size_alloc, World.size_setCell, World.size_drew, setRow_size]; omega) | exact look_lt (by assumption))]; first | assumption | go_simp
  replace cy0 : World.cell? w3 ⟨w2.heap.size, 0, none⟩ = some (.int .i64 na) := by rw [look_cell ly]; rfl
  replace cy1 : World.cell? w3 ⟨w2.heap.size, 1, none⟩ = some (.int .u32 (nb : Int)) := by rw [look_cell ly]; rfl
  replace fy := look_frozen ly
  replace sy := look_lt ly
  go_wp2_with fail
  refine wp_region_words mixed 34 ([] :: [28] :: [] :: [30] :: [29, 31] :: [32] :: [33] :: [33] :: [34, 35, 33] :: [33] :: [33] :: [37, 38, 33] :: [36, 39, 33] :: [33, 40] :: [41] :: [42] :: [42] :: [43, 44, 42] :: [42] :: [42] :: [46, 47, 42] :: [45, 48, 42] :: [42, 49] :: [50] :: [51] :: [52, 51] :: [51] :: [53, 54, 51] :: [51, 55] :: [56] :: [57] :: [57] :: [58, 59, 57] :: [57, 60] :: []) (isV (.agg #[.int .i64 d, .int .u32 (k : Int)]) :: isV (.bool (rightB d k)) :: isV (.agg #[.int .i64 d, .int .u32 (k : Int)]) :: isV (.bool (rightB d k)) :: isV (.bool false) :: isV (.bool false) :: isV (.agg (VA f)) :: isV (.int .i64 n) :: isV (.int .u32 (getN f n : Int)) :: isV (.agg (VA f)) :: isV (.int .i64 n) :: isV (.int .u32 (getN f n : Int)) :: isV (.bool false) :: isV (.bool false) :: isV (.bool false) :: isV (.agg (VA f)) :: isV (.agg #[.int .i64 d, .int .u32 (k : Int)]) :: isV (.agg (VA (withN f d k))) :: isV (.agg (VA f)) :: isV (.agg #[.int .i64 d, .int .u32 (k : Int)]) :: isV (.agg (VA (withN f d k))) :: isV (.bool false) :: isV (.bool false) :: isV (.bool false) :: isV (.agg #[.int .i64 na, .int .u32 (nb : Int)]) :: isV (.agg #[.int .i64 na, .int .u32 (nb : Int)]) :: isV (.agg #[.int .i64 na, .int .u32 (nb : Int)]) :: isV (.bool false) :: isV (.bool false) :: isV (.bool false) :: isV (.int .i64 ne) :: isV (.int .i64 ne) :: isV (.bool false) :: isV (.bool false) :: []) (by decide) (by kernel_rfl)
    ⟨stab_isV _, stab_isV _, stab_isV _, stab_isV _, stab_isV _, stab_isV _, stab_isV _, stab_isV _, stab_isV _, stab_isV _, stab_isV _, stab_isV _, stab_isV _, stab_isV _, stab_isV _, stab_isV _, stab_isV _, stab_isV _, stab_isV _, stab_isV _, stab_isV _, stab_isV _, stab_isV _, stab_isV _, stab_isV _, stab_isV _, stab_isV _, stab_isV _, stab_isV _, stab_isV _, stab_isV _, stab_isV _, stab_isV _, stab_isV _, trivial⟩ ⟨?_, ?_, ?_, ?_, ?_, ?_, ?_, ?_, ?_, ?_, ?_, ?_, ?_, ?_, ?_, ?_, ?_, ?_, ?_, ?_, ?_, ?_, ?_, ?_, ?_, ?_, ?_, ?_, ?_, ?_, ?_, ?_, ?_, ?_, trivial⟩ ?_
  · intro vs wq hB hm
    have hl : look wq (w.heap.size + 1 + 1) = some (.cells (#[.int .i64 d, .int .u32 (k : Int)]) 34 (0, 0)) := by rw [look_below hB (by first | omega | (simp only [World.size_alloc, World.size_setCell, World.size_drew, setRow_size]; omega) | exact look_lt (by assumption))]; first | assumption | go_simp
    have hc0 : World.cell? wq ⟨w.heap.size + 1 + 1, 0, none⟩ = some (.int .i64 d) := by rw [look_cell hl]; rfl
    have hc1 : World.cell? wq ⟨w.heap.size + 1 + 1, 1, none⟩ = some (.int .u32 (k : Int)) := by rw [look_cell hl]; rfl
    clear hm
    simp only [fill]
    go_wp2
    exact ⟨_, rfl, rfl, Below.refl _ _⟩
  · intro vs wq hB hm
    have h28 : vs 28 = .agg #[.int .i64 d, .int .u32 (k : Int)] := meets_get hm 0 rfl rfl rfl rfl
    clear hm
    simp only [fill, h28]
    go_wp2_with fail
    refine (right_any d k _).mono ?_
    rintro e w1 ⟨rfl, hb1⟩
    go_wp2
    exact ⟨_, rfl, rfl, hb1⟩
  · intro vs wq hB hm
    have hl : look wq (w1.heap.size) = some (.cells (#[.int .i64 d, .int .u32 (k : Int)]) 45 (0, 0)) := by rw [look_below hB (by first | omega | (simp only [World.size_alloc, World.size_setCell, World.size_drew, setRow_size]; omega) | exact look_lt (by assumption))]; first | assumption | go_simp
    have hc0 : World.cell? wq ⟨w1.heap.size, 0, none⟩ = some (.int .i64 d) := by rw [look_cell hl]; rfl
    have hc1 : World.cell? wq ⟨w1.heap.size, 1, none⟩ = some (.int .u32 (k : Int)) := by rw [look_cell hl]; rfl
    clear hm
    simp only [fill]
    go_wp2
    exact ⟨_, rfl, rfl, Below.refl _ _⟩
  · intro vs wq hB hm
    have h30 : vs 30 = .agg #[.int .i64 d, .int .u32 (k : Int)] := meets_get hm 2 rfl rfl rfl rfl
    clear hm
    simp only [fill, h30]
    go_wp2_with fail
    refine (rright_any d k _).mono ?_
    rintro e w1 ⟨rfl, hb1⟩
    go_wp2
    exact ⟨_, rfl, rfl, hb1⟩
  · intro vs wq hB hm
    have h29 : vs 29 = .bool (rightB d k) := meets_get hm 1 rfl rfl rfl rfl
    have h31 : vs 31 = .bool (rightB d k) := meets_get hm 3 rfl rfl rfl rfl
    clear hm
    simp only [fill, h29, h31]
    go_wp2
    exact ⟨_, rfl, rfl, Below.refl _ _⟩
  · intro vs wq hB hm
    have h32 : vs 32 = .bool false := meets_get hm 4 rfl rfl rfl rfl
    clear hm
    simp only [fill, h32]
    go_wp2
    exact ⟨_, rfl, rfl, Below.refl _ _⟩
  · intro vs wq hB hm
    have hl : look wq (w.heap.size) = some (.cells (VA f) 26 (0, 0)) := by rw [look_below hB (by first | omega | (simp only [World.size_alloc, World.size_setCell, World.size_drew, setRow_size]; omega) | exact look_lt (by assumption))]; first | assumption | go_simp
    have h33 : vs 33 = .bool false := meets_get hm 5 rfl rfl rfl rfl
    clear hm
    simp only [fill, h33]
    go_wp2
    exact ⟨_, rfl, rfl, Below.refl _ _⟩
  · intro vs wq hB hm
    have h33 : vs 33 = .bool false := meets_get hm 5 rfl rfl rfl rfl
    clear hm
    simp only [fill, h33]
    go_wp2
    exact ⟨_, rfl, rfl, Below.refl _ _⟩
  · intro vs wq hB hm
    have h34 : vs 34 = .agg (VA f) := meets_get hm 6 rfl rfl rfl rfl
    have h35 : vs 35 = .int .i64 n := meets_get hm 7 rfl rfl rfl rfl
    have h33 : vs 33 = .bool false := meets_get hm 5 rfl rfl rfl rfl
    clear hm
    simp only [fill, h34, h35, h33]
    go_wp2_with fail
    refine (get_any f n _).mono ?_
    rintro e w1 ⟨rfl, hb1⟩
    go_wp2
    exact ⟨_, rfl, rfl, hb1⟩
  · intro vs wq hB hm
    have hl : look wq (w.heap.size) = some (.cells (VA f) 26 (0, 0)) := by rw [look_below hB (by first | omega | (simp only [World.size_alloc, World.size_setCell, World.size_drew, setRow_size]; omega) | exact look_lt (by assumption))]; first | assumption | go_simp
    have h33 : vs 33 = .bool false := meets_get hm 5 rfl rfl rfl rfl
    clear hm
    simp only [fill, h33]
    go_wp2
    exact ⟨_, rfl, rfl, Below.refl _ _⟩
  · intro vs wq hB hm
    have h33 : vs 33 = .bool false := meets_get hm 5 rfl rfl rfl rfl
    clear hm
    simp only [fill, h33]
    go_wp2
    exact ⟨_, rfl, rfl, Below.refl _ _⟩
  · intro vs wq hB hm
    have h37 : vs 37 = .agg (VA f) := meets_get hm 9 rfl rfl rfl rfl
    have h38 : vs 38 = .int .i64 n := meets_get hm 10 rfl rfl rfl rfl
    have h33 : vs 33 = .bool false := meets_get hm 5 rfl rfl rfl rfl
    clear hm
    simp only [fill, h37, h38, h33]
    go_wp2_with fail
    refine (rget_any f n _).mono ?_
    rintro e w1 ⟨rfl, hb1⟩
    go_wp2
    exact ⟨_, rfl, rfl, hb1⟩
  · intro vs wq hB hm
    have h36 : vs 36 = .int .u32 (getN f n : Int) := meets_get hm 8 rfl rfl rfl rfl
    have h39 : vs 39 = .int .u32 (getN f n : Int) := meets_get hm 11 rfl rfl rfl rfl
    have h33 : vs 33 = .bool false := meets_get hm 5 rfl rfl rfl rfl
    clear hm
    simp only [fill, h36, h39, h33]
    go_wp2
    exact ⟨_, rfl, rfl, Below.refl _ _⟩
  · intro vs wq hB hm
    have h33 : vs 33 = .bool false := meets_get hm 5 rfl rfl rfl rfl
    have h40 : vs 40 = .bool false := meets_get hm 12 rfl rfl rfl rfl
    clear hm
    simp only [fill, h33, h40]
    go_wp2
    exact ⟨_, rfl, rfl, Below.refl _ _⟩
  · intro vs wq hB hm
    have h41 : vs 41 = .bool false := meets_get hm 13 rfl rfl rfl rfl
    clear hm
    simp only [fill, h41]
    go_wp2
    exact ⟨_, rfl, rfl, Below.refl _ _⟩
  · intro vs wq hB hm
    have hl : look wq (w.heap.size) = some (.cells (VA f) 26 (0, 0)) := by rw [look_below hB (by first | omega | (simp only [World.size_alloc, World.size_setCell, World.size_drew, setRow_size]; omega) | exact look_lt (by assumption))]; first | assumption | go_simp
    have h42 : vs 42 = .bool false := meets_get hm 14 rfl rfl rfl rfl
    clear hm
    simp only [fill, h42]
    go_wp2
    exact ⟨_, rfl, rfl, Below.refl _ _⟩
  · intro vs wq hB hm
    have hl : look wq (w.heap.size + 1 + 1) = some (.cells (#[.int .i64 d, .int .u32 (k : Int)]) 34 (0, 0)) := by rw [look_below hB (by first | omega | (simp only [World.size_alloc, World.size_setCell, World.size_drew, setRow_size]; omega) | exact look_lt (by assumption))]; first | assumption | go_simp
    have hc0 : World.cell? wq ⟨w.heap.size + 1 + 1, 0, none⟩ = some (.int .i64 d) := by rw [look_cell hl]; rfl
    have hc1 : World.cell? wq ⟨w.heap.size + 1 + 1, 1, none⟩ = some (.int .u32 (k : Int)) := by rw [look_cell hl]; rfl
    have h42 : vs 42 = .bool false := meets_get hm 14 rfl rfl rfl rfl
    clear hm
    simp only [fill, h42]
    go_wp2
    exact ⟨_, rfl, rfl, Below.refl _ _⟩
  · intro vs wq hB hm
    have h43 : vs 43 = .agg (VA f) := meets_get hm 15 rfl rfl rfl rfl
    have h44 : vs 44 = .agg #[.int .i64 d, .int .u32 (k : Int)] := meets_get hm 16 rfl rfl rfl rfl
    have h42 : vs 42 = .bool false := meets_get hm 14 rfl rfl rfl rfl
    clear hm
    simp only [fill, h43, h44, h42]
    go_wp2_with fail
    refine (with_any f d k _).mono ?_
    rintro e w1 ⟨rfl, hb1⟩
    go_wp2
    exact ⟨_, rfl, rfl, hb1⟩
  · intro vs wq hB hm
    have hl : look wq (w.heap.size) = some (.cells (VA f) 26 (0, 0)) := by rw [look_below hB (by first | omega | (simp only [World.size_alloc, World.size_setCell, World.size_drew, setRow_size]; omega) | exact look_lt (by assumption))]; first | assumption | go_simp
    have h42 : vs 42 = .bool false := meets_get hm 14 rfl rfl rfl rfl
    clear hm
    simp only [fill, h42]
    go_wp2
    exact ⟨_, rfl, rfl, Below.refl _ _⟩
  · intro vs wq hB hm
    have hl : look wq (w1.heap.size) = some (.cells (#[.int .i64 d, .int .u32 (k : Int)]) 45 (0, 0)) := by rw [look_below hB (by first | omega | (simp only [World.size_alloc, World.size_setCell, World.size_drew, setRow_size]; omega) | exact look_lt (by assumption))]; first | assumption | go_simp
    have hc0 : World.cell? wq ⟨w1.heap.size, 0, none⟩ = some (.int .i64 d) := by rw [look_cell hl]; rfl
    have hc1 : World.cell? wq ⟨w1.heap.size, 1, none⟩ = some (.int .u32 (k : Int)) := by rw [look_cell hl]; rfl
    have h42 : vs 42 = .bool false := meets_get hm 14 rfl rfl rfl rfl
    clear hm
    simp only [fill, h42]
    go_wp2
    exact ⟨_, rfl, rfl, Below.refl _ _⟩
  · intro vs wq hB hm
    have h46 : vs 46 = .agg (VA f) := meets_get hm 18 rfl rfl rfl rfl
    have h47 : vs 47 = .agg #[.int .i64 d, .int .u32 (k : Int)] := meets_get hm 19 rfl rfl rfl rfl
    have h42 : vs 42 = .bool false := meets_get hm 14 rfl rfl rfl rfl
    clear hm
    simp only [fill, h46, h47, h42]
    go_wp2_with fail
    refine (rwith_any f d k _).mono ?_
    rintro e w1 ⟨rfl, hb1⟩
    go_wp2
    exact ⟨_, rfl, rfl, hb1⟩
  · intro vs wq hB hm
    have h45 : vs 45 = .agg (VA (withN f d k)) := meets_get hm 17 rfl rfl rfl rfl
    have h48 : vs 48 = .agg (VA (withN f d k)) := meets_get hm 20 rfl rfl rfl rfl
    have h42 : vs 42 = .bool false := meets_get hm 14 rfl rfl rfl rfl
    clear hm
    simp only [fill, h45, h48, h42]
    go_wp2
    exact ⟨_, rfl, rfl, Below.refl _ _⟩
  · intro vs wq hB hm
    have h42 : vs 42 = .bool false := meets_get hm 14 rfl rfl rfl rfl
    have h49 : vs 49 = .bool false := meets_get hm 21 rfl rfl rfl rfl
    clear hm
    simp only [fill, h42, h49]
    go_wp2
    exact ⟨_, rfl, rfl, Below.refl _ _⟩
  · intro vs wq hB hm
    have h50 : vs 50 = .bool false := meets_get hm 22 rfl rfl rfl rfl
    clear hm
    simp only [fill, h50]
    go_wp2
    exact ⟨_, rfl, rfl, Below.refl _ _⟩
  · intro vs wq hB hm
    have hl : look wq (w2.heap.size) = some (.cells (#[.int .i64 na, .int .u32 (nb : Int)]) 34 (0, 0)) := by rw [look_below hB (by first | omega | (simp only [World.size_alloc, World.size_setCell, World.size_drew, setRow_size]; omega) | exact look_lt (by assumption))]; first | assumption | go_simp
    have hc0 : World.cell? wq ⟨w2.heap.size, 0, none⟩ = some (.int .i64 na) := by rw [look_cell hl]; rfl
    have hc1 : World.cell? wq ⟨w2.heap.size, 1, none⟩ = some (.int .u32 (nb : Int)) := by rw [look_cell hl]; rfl
    have h51 : vs 51 = .bool false := meets_get hm 23 rfl rfl rfl rfl
    clear hm
    simp only [fill, h51]
    go_wp2
    exact ⟨_, rfl, rfl, Below.refl _ _⟩
  · intro vs wq hB hm
    have h52 : vs 52 = .agg #[.int .i64 na, .int .u32 (nb : Int)] := meets_get hm 24 rfl rfl rfl rfl
    have h51 : vs 51 = .bool false := meets_get hm 23 rfl rfl rfl rfl
    clear hm
    simp only [fill, h52, h51]
    go_wp2_with fail
    refine (as_any na nb _).mono ?_
    rintro e w1 ⟨rfl, hb1⟩
    go_wp2
    exact ⟨_, rfl, rfl, hb1⟩
  · intro vs wq hB hm
    have hl : look wq (w3.heap.size) = some (.cells (#[.int .i64 na, .int .u32 (nb : Int)]) 45 (0, 0)) := by rw [look_below hB (by first | omega | (simp only [World.size_alloc, World.size_setCell, World.size_drew, setRow_size]; omega) | exact look_lt (by assumption))]; first | assumption | go_simp
    have hc0 : World.cell? wq ⟨w3.heap.size, 0, none⟩ = some (.int .i64 na) := by rw [look_cell hl]; rfl
    have hc1 : World.cell? wq ⟨w3.heap.size, 1, none⟩ = some (.int .u32 (nb : Int)) := by rw [look_cell hl]; rfl
    have h51 : vs 51 = .bool false := meets_get hm 23 rfl rfl rfl rfl
    clear hm
    simp only [fill, h51]
    go_wp2
    exact ⟨_, rfl, rfl, Below.refl _ _⟩
  · intro vs wq hB hm
    have h53 : vs 53 = .agg #[.int .i64 na, .int .u32 (nb : Int)] := meets_get hm 25 rfl rfl rfl rfl
    have h54 : vs 54 = .agg #[.int .i64 na, .int .u32 (nb : Int)] := meets_get hm 26 rfl rfl rfl rfl
    have h51 : vs 51 = .bool false := meets_get hm 23 rfl rfl rfl rfl
    clear hm
    simp only [fill, h53, h54, h51]
    go_wp2
    exact ⟨_, rfl, rfl, Below.refl _ _⟩
  · intro vs wq hB hm
    have h51 : vs 51 = .bool false := meets_get hm 23 rfl rfl rfl rfl
    have h55 : vs 55 = .bool false := meets_get hm 27 rfl rfl rfl rfl
    clear hm
    simp only [fill, h51, h55]
    go_wp2
    exact ⟨_, rfl, rfl, Below.refl _ _⟩
  · intro vs wq hB hm
    have h56 : vs 56 = .bool false := meets_get hm 28 rfl rfl rfl rfl
    clear hm
    simp only [fill, h56]
    go_wp2
    exact ⟨_, rfl, rfl, Below.refl _ _⟩
  · intro vs wq hB hm
    have h57 : vs 57 = .bool false := meets_get hm 29 rfl rfl rfl rfl
    clear hm
    simp only [fill, h57]
    go_wp2
    exact ⟨_, rfl, rfl, Below.refl _ _⟩
  · intro vs wq hB hm
    have h57 : vs 57 = .bool false := meets_get hm 29 rfl rfl rfl rfl
    clear hm
    simp only [fill, h57]
    go_wp2
    exact ⟨_, rfl, rfl, Below.refl _ _⟩
  · intro vs wq hB hm
    have h58 : vs 58 = .int .i64 ne := meets_get hm 30 rfl rfl rfl rfl
    have h59 : vs 59 = .int .i64 ne := meets_get hm 31 rfl rfl rfl rfl
    have h57 : vs 57 = .bool false := meets_get hm 29 rfl rfl rfl rfl
    clear hm
    simp only [fill, h58, h59, h57]
    go_wp2
    exact ⟨_, rfl, rfl, Below.refl _ _⟩
  · intro vs wq hB hm
    have h57 : vs 57 = .bool false := meets_get hm 29 rfl rfl rfl rfl
    have h60 : vs 60 = .bool false := meets_get hm 32 rfl rfl rfl rfl
    clear hm
    simp only [fill, h57, h60]
    go_wp2
    exact ⟨_, rfl, rfl, Below.refl _ _⟩
  intro vs wq hB hm
  have h28 : vs 28 = .agg #[.int .i64 d, .int .u32 (k : Int)] := hm 0 _ _ _ rfl rfl rfl
  have h29 : vs 29 = .bool (rightB d k) := hm 1 _ _ _ rfl rfl rfl
  have h30 : vs 30 = .agg #[.int .i64 d, .int .u32 (k : Int)] := hm 2 _ _ _ rfl rfl rfl
  have h31 : vs 31 = .bool (rightB d k) := hm 3 _ _ _ rfl rfl rfl
  have h32 : vs 32 = .bool false := hm 4 _ _ _ rfl rfl rfl
  have h33 : vs 33 = .bool false := hm 5 _ _ _ rfl rfl rfl
  have h34 : vs 34 = .agg (VA f) := hm 6 _ _ _ rfl rfl rfl
  have h35 : vs 35 = .int .i64 n := hm 7 _ _ _ rfl rfl rfl
  have h36 : vs 36 = .int .u32 (getN f n : Int) := hm 8 _ _ _ rfl rfl rfl
  have h37 : vs 37 = .agg (VA f) := hm 9 _ _ _ rfl rfl rfl
  have h38 : vs 38 = .int .i64 n := hm 10 _ _ _ rfl rfl rfl
  have h39 : vs 39 = .int .u32 (getN f n : Int) := hm 11 _ _ _ rfl rfl rfl
  have h40 : vs 40 = .bool false := hm 12 _ _ _ rfl rfl rfl
  have h41 : vs 41 = .bool false := hm 13 _ _ _ rfl rfl rfl
  have h42 : vs 42 = .bool false := hm 14 _ _ _ rfl rfl rfl
  have h43 : vs 43 = .agg (VA f) := hm 15 _ _ _ rfl rfl rfl
  have h44 : vs 44 = .agg #[.int .i64 d, .int .u32 (k : Int)] := hm 16 _ _ _ rfl rfl rfl
  have h45 : vs 45 = .agg (VA (withN f d k)) := hm 17 _ _ _ rfl rfl rfl
  have h46 : vs 46 = .agg (VA f) := hm 18 _ _ _ rfl rfl rfl
  have h47 : vs 47 = .agg #[.int .i64 d, .int .u32 (k : Int)] := hm 19 _ _ _ rfl rfl rfl
  have h48 : vs 48 = .agg (VA (withN f d k)) := hm 20 _ _ _ rfl rfl rfl
  have h49 : vs 49 = .bool false := hm 21 _ _ _ rfl rfl rfl
  have h50 : vs 50 = .bool false := hm 22 _ _ _ rfl rfl rfl
  have h51 : vs 51 = .bool false := hm 23 _ _ _ rfl rfl rfl
  have h52 : vs 52 = .agg #[.int .i64 na, .int .u32 (nb : Int)] := hm 24 _ _ _ rfl rfl rfl
  have h53 : vs 53 = .agg #[.int .i64 na, .int .u32 (nb : Int)] := hm 25 _ _ _ rfl rfl rfl
  have h54 : vs 54 = .agg #[.int .i64 na, .int .u32 (nb : Int)] := hm 26 _ _ _ rfl rfl rfl
  have h55 : vs 55 = .bool false := hm 27 _ _ _ rfl rfl rfl
  have h56 : vs 56 = .bool false := hm 28 _ _ _ rfl rfl rfl
  have h57 : vs 57 = .bool false := hm 29 _ _ _ rfl rfl rfl
  have h58 : vs 58 = .int .i64 ne := hm 30 _ _ _ rfl rfl rfl
  have h59 : vs 59 = .int .i64 ne := hm 31 _ _ _ rfl rfl rfl
  have h60 : vs 60 = .bool false := hm 32 _ _ _ rfl rfl rfl
  have h61 : vs 61 = .bool false := hm 33 _ _ _ rfl rfl rfl
  simp only [fill, List.filterMap, List.take, List.drop, List.setIfInBounds_toArray, List.set_cons_zero, List.set_cons_succ, h28, h29, h30, h31, h32, h33, h34, h35, h36, h37, h38, h39, h40, h41, h42, h43, h44, h45, h46, h47, h48, h49, h50, h51, h52, h53, h54, h55, h56, h57, h58, h59, h60, h61]
  clear hm h28 h29 h30 h31 h32 h33 h34 h35 h36 h37 h38 h39 h40 h41 h42 h43 h44 h45 h46 h47 h48 h49 h50 h51 h52 h53 h54 h55 h56 h57 h58 h59 h60 h61
  replace hB3 := belT (belA (belT (belA (belT (belA (belT (belA (belA (belA (bel0 w) _) _) _) hb1) _) hb2) _) hb3) _) hB
  replace lf : look wq (w.heap.size) = some (.cells (VA f) 26 (0, 0)) := by rw [look_below hB (by first | omega | (simp only [World.size_alloc, World.size_setCell, World.size_drew, setRow_size]; omega) | exact look_lt (by assumption))]; first | assumption | go_simp
  replace cf : ∀ i, i < 12 → World.cell? wq ⟨w.heap.size, i, none⟩ = some (.int .u32 (((f) i : Nat) : Int)) := fun i hi => by rw [look_cell lf, VA_get _ _ hi]
  replace ff := look_frozen lf
  replace sf := look_lt lf
  replace lg : look wq (w.heap.size + 1) = some (.cells (VA g) 26 (0, 0)) := by rw [look_below hB (by first | omega | (simp only [World.size_alloc, World.size_setCell, World.size_drew, setRow_size]; omega) | exact look_lt (by assumption))]; first | assumption | go_simp
  replace cg : ∀ i, i < 12 → World.cell? wq ⟨w.heap.size + 1, i, none⟩ = some (.int .u32 (((g) i : Nat) : Int)) := fun i hi => by rw [look_cell lg, VA_get _ _ hi]
  replace fg := look_frozen lg
  replace sg := look_lt lg
  replace ld : look wq (w.heap.size + 1 + 1) = some (.cells (#[.int .i64 d, .int .u32 (k : Int)]) 34 (0, 0)) := by rw [look_below hB (by first | omega | (simp only [World.size_alloc, World.size_setCell, World.size_drew, setRow_size]; omega) | exact look_lt (by assumption))]; first | assumption | go_simp
  replace cd0 : World.cell? wq ⟨w.heap.size + 1 + 1, 0, none⟩ = some (.int .i64 d) := by rw [look_cell ld]; rfl
  replace cd1 : World.cell? wq ⟨w.heap.size + 1 + 1, 1, none⟩ = some (.int .u32 (k : Int)) := by rw [look_cell ld]; rfl
  replace fd := look_frozen ld
  replace sd := look_lt ld
  replace lx : look wq (w1.heap.size) = some (.cells (#[.int .i64 d, .int .u32 (k : Int)]) 45 (0, 0)) := by rw [look_below hB (by first | omega | (simp only [World.size_alloc, World.size_setCell, World.size_drew, setRow_size]; omega) | exact look_lt (by assumption))]; first | assumption | go_simp
  replace cx0 : World.cell? wq ⟨w1.heap.size, 0, none⟩ = some (.int .i64 d) := by rw [look_cell lx]; rfl
  replace cx1 : World.cell? wq ⟨w1.heap.size, 1, none⟩ = some (.int .u32 (k : Int)) := by rw [look_cell lx]; rfl
  replace fx := look_frozen lx
  replace sx := look_lt lx
  clear hb1 hb2 hb3 hB
  go_wp2_with fail
  refine wp_region_words mixed 54 ([] :: [62] :: [63] :: [63] :: [64, 65, 63] :: [66, 63] :: [63] :: [63] :: [68, 69, 63] :: [67, 70, 63] :: [63, 71] :: [72] :: [73] :: [73] :: [74, 75, 73] :: [73] :: [73] :: [77, 78, 73] :: [76, 79, 73] :: [73, 80] :: [81] :: [82] :: [82] :: [83, 84, 82] :: [82] :: [82] :: [86, 87, 82] :: [85, 88, 82] :: [82, 89] :: [90] :: [91] :: [91] :: [92, 93, 91] :: [91] :: [91] :: [95, 96, 91] :: [94, 97, 91] :: [91, 98] :: [99] :: [100] :: [101, 100] :: [100] :: [103, 100] :: [102, 104, 100] :: [100, 105] :: [106] :: [107] :: [107] :: [108, 109, 107] :: [107] :: [107] :: [111, 112, 107] :: [110, 113, 107] :: [107, 114] :: []) (isV (.bool true) :: isV (.bool true) :: isV (.agg (VA f)) :: isV (.agg (VA g)) :: isRow 26 2 (VA f ++ VA g) :: isV (.agg (VA (vmax f g))) :: isV (.agg (VA f)) :: isV (.agg (VA g)) :: isV (.agg (VA (vmax f g))) :: isV (.bool true) :: isV (.bool true) :: isV (.bool true) :: isV (.agg (VA f)) :: isV (.agg (VA g)) :: isV (.agg (VA (vmin f g))) :: isV (.agg (VA f)) :: isV (.agg (VA g)) :: isV (.agg (VA (vmin f g))) :: isV (.bool true) :: isV (.bool true) :: isV (.bool true) :: isV (.agg (VA f)) :: isV (.agg (VA g)) :: isV (.bool (covB f g)) :: isV (.agg (VA f)) :: isV (.agg (VA g)) :: isV (.bool (covB f g)) :: isV (.bool true) :: isV (.bool true) :: isV (.bool true) :: isV (.agg (VA f)) :: isV (.agg #[.int .i64 d, .int .u32 (k : Int)]) :: isV (.bool (hasB f d k)) :: isV (.agg (VA f)) :: isV (.agg #[.int .i64 d, .int .u32 (k : Int)]) :: isV (.bool (hasB f d k)) :: isV (.bool true) :: isV (.bool true) :: isV (.bool true) :: isV (.agg (VA f)) :: isV (.int .u64 (cntN f 12 : Int)) :: isV (.agg (VA f)) :: isV (.int .u64 (cntN f 12 : Int)) :: isV (.bool true) :: isV (.bool true) :: isV (.bool true) :: isV (.agg (VA f)) :: isV (.agg (VA g)) :: isV (.int .i64 (ordN f g)) :: isV (.agg (VA f)) :: isV (.agg (VA g)) :: isV (.int .i64 (ordN f g)) :: isV (.bool true) :: isV (.bool true) :: []) (by decide) (by kernel_rfl)
    ⟨stab_isV _, stab_isV _, stab_isV _, stab_isV _, stab_isRow _ _ _, stab_isV _, stab_isV _, stab_isV _, stab_isV _, stab_isV _, stab_isV _, stab_isV _, stab_isV _, stab_isV _, stab_isV _, stab_isV _, stab_isV _, stab_isV _, stab_isV _, stab_isV _, stab_isV _, stab_isV _, stab_isV _, stab_isV _, stab_isV _, stab_isV _, stab_isV _, stab_isV _, stab_isV _, stab_isV _, stab_isV _, stab_isV _, stab_isV _, stab_isV _, stab_isV _, stab_isV _, stab_isV _, stab_isV _, stab_isV _, stab_isV _, stab_isV _, stab_isV _, stab_isV _, stab_isV _, stab_isV _, stab_isV _, stab_isV _, stab_isV _, stab_isV _, stab_isV _, stab_isV _, stab_isV _, stab_isV _, stab_isV _, trivial⟩ ⟨?_, ?_, ?_, ?_, ?_, ?_, ?_, ?_, ?_, ?_, ?_, ?_, ?_, ?_, ?_, ?_, ?_, ?_, ?_, ?_, ?_, ?_, ?_, ?_, ?_, ?_, ?_, ?_, ?_, ?_, ?_, ?_, ?_, ?_, ?_, ?_, ?_, ?_, ?_, ?_, ?_, ?_, ?_, ?_, ?_, ?_, ?_, ?_, ?_, ?_, ?_, ?_, ?_, ?_, trivial⟩ ?_
  · intro vs wq hB hm
    clear hm
    simp only [fill]
    go_wp2_with fail
    refine (alive04 _).mono ?_
    rintro e w1 ⟨rfl, hb1⟩
    go_wp2
    exact ⟨_, rfl, rfl, hb1⟩
  · intro vs wq hB hm
    have h62 : vs 62 = .bool true := meets_get hm 0 rfl rfl rfl rfl
    clear hm
    simp only [fill, h62]
    go_wp2
    exact ⟨_, rfl, rfl, Below.refl _ _⟩
  · intro vs wq hB hm
    have hl : look wq (w.heap.size) = some (.cells (VA f) 26 (0, 0)) := by rw [look_below hB (by first | omega | (simp only [World.size_alloc, World.size_setCell, World.size_drew, setRow_size]; omega) | exact look_lt (by assumption))]; first | assumption | go_simp
    have h63 : vs 63 = .bool true := meets_get hm 1 rfl rfl rfl rfl
    clear hm
    simp only [fill, h63]
    go_wp2
    exact ⟨_, rfl, rfl, Below.refl _ _⟩
  · intro vs wq hB hm
    have hl : look wq (w.heap.size + 1) = some (.cells (VA g) 26 (0, 0)) := by rw [look_below hB (by first | omega | (simp only [World.size_alloc, World.size_setCell, World.size_drew, setRow_size]; omega) | exact look_lt (by assumption))]; first | assumption | go_simp
    have h63 : vs 63 = .bool true := meets_get hm 1 rfl rfl rfl rfl
    clear hm
    simp only [fill, h63]
    go_wp2
    exact ⟨_, rfl, rfl, Below.refl _ _⟩
  · intro vs wq hB hm
    have h64 : vs 64 = .agg (VA f) := meets_get hm 2 rfl rfl rfl rfl
    have h65 : vs 65 = .agg (VA g) := meets_get hm 3 rfl rfl rfl rfl
    have h63 : vs 63 = .bool true := meets_get hm 1 rfl rfl rfl rfl
    clear hm
    simp only [fill, h64, h65, h63]
    go_wp2
    exact ⟨_, rfl, ⟨_, rfl, look_alloc_at _ _ _ rfl⟩, (Below.refl _ _).alloc (Nat.le_refl _) _⟩
  · intro vs wq hB hm
    obtain ⟨b66, h66, l66⟩ := meets_get hm 4 rfl rfl rfl rfl
    have h63 : vs 63 = .bool true := meets_get hm 1 rfl rfl rfl rfl
    clear hm
    simp only [fill, h63, h66]
    go_wp2_with fail
    refine (join_two f g b66 _ l66).mono ?_
    rintro e w1 ⟨rfl, hb1⟩
    go_wp2
    exact ⟨_, rfl, rfl, hb1⟩
  · intro vs wq hB hm
    have hl : look wq (w.heap.size) = some (.cells (VA f) 26 (0, 0)) := by rw [look_below hB (by first | omega | (simp only [World.size_alloc, World.size_setCell, World.size_drew, setRow_size]; omega) | exact look_lt (by assumption))]; first | assumption | go_simp
    have h63 : vs 63 = .bool true := meets_get hm 1 rfl rfl rfl rfl
    clear hm
    simp only [fill, h63]
    go_wp2
    exact ⟨_, rfl, rfl, Below.refl _ _⟩
  · intro vs wq hB hm
    have hl : look wq (w.heap.size + 1) = some (.cells (VA g) 26 (0, 0)) := by rw [look_below hB (by first | omega | (simp only [World.size_alloc, World.size_setCell, World.size_drew, setRow_size]; omega) | exact look_lt (by assumption))]; first | assumption | go_simp
    have h63 : vs 63 = .bool true := meets_get hm 1 rfl rfl rfl rfl
    clear hm
    simp only [fill, h63]
    go_wp2
    exact ⟨_, rfl, rfl, Below.refl _ _⟩
  · intro vs wq hB hm
    have h68 : vs 68 = .agg (VA f) := meets_get hm 6 rfl rfl rfl rfl
    have h69 : vs 69 = .agg (VA g) := meets_get hm 7 rfl rfl rfl rfl
    have h63 : vs 63 = .bool true := meets_get hm 1 rfl rfl rfl rfl
    clear hm
    simp only [fill, h68, h69, h63]
    go_wp2_with fail
    refine (rjoin_any f g _).mono ?_
    rintro e w1 ⟨rfl, hb1⟩
    go_wp2
    exact ⟨_, rfl, rfl, hb1⟩
  · intro vs wq hB hm
    have h67 : vs 67 = .agg (VA (vmax f g)) := meets_get hm 5 rfl rfl rfl rfl
    have h70 : vs 70 = .agg (VA (vmax f g)) := meets_get hm 8 rfl rfl rfl rfl
    have h63 : vs 63 = .bool true := meets_get hm 1 rfl rfl rfl rfl
    clear hm
    simp only [fill, h67, h70, h63]
    go_wp2
    exact ⟨_, rfl, rfl, Below.refl _ _⟩
  · intro vs wq hB hm
    have h63 : vs 63 = .bool true := meets_get hm 1 rfl rfl rfl rfl
    have h71 : vs 71 = .bool true := meets_get hm 9 rfl rfl rfl rfl
    clear hm
    simp only [fill, h63, h71]
    go_wp2
    exact ⟨_, rfl, rfl, Below.refl _ _⟩
  · intro vs wq hB hm
    have h72 : vs 72 = .bool true := meets_get hm 10 rfl rfl rfl rfl
    clear hm
    simp only [fill, h72]
    go_wp2
    exact ⟨_, rfl, rfl, Below.refl _ _⟩
  · intro vs wq hB hm
    have hl : look wq (w.heap.size) = some (.cells (VA f) 26 (0, 0)) := by rw [look_below hB (by first | omega | (simp only [World.size_alloc, World.size_setCell, World.size_drew, setRow_size]; omega) | exact look_lt (by assumption))]; first | assumption | go_simp
    have h73 : vs 73 = .bool true := meets_get hm 11 rfl rfl rfl rfl
    clear hm
    simp only [fill, h73]
    go_wp2
    exact ⟨_, rfl, rfl, Below.refl _ _⟩
  · intro vs wq hB hm
    have hl : look wq (w.heap.size + 1) = some (.cells (VA g) 26 (0, 0)) := by rw [look_below hB (by first | omega | (simp only [World.size_alloc, World.size_setCell, World.size_drew, setRow_size]; omega) | exact look_lt (by assumption))]; first | assumption | go_simp
    have h73 : vs 73 = .bool true := meets_get hm 11 rfl rfl rfl rfl
    clear hm
    simp only [fill, h73]
    go_wp2
    exact ⟨_, rfl, rfl, Below.refl _ _⟩
  · intro vs wq hB hm
    have h74 : vs 74 = .agg (VA f) := meets_get hm 12 rfl rfl rfl rfl
    have h75 : vs 75 = .agg (VA g) := meets_get hm 13 rfl rfl rfl rfl
    have h73 : vs 73 = .bool true := meets_get hm 11 rfl rfl rfl rfl
    clear hm
    simp only [fill, h74, h75, h73]
    go_wp2_with fail
    refine (meet_any f g _).mono ?_
    rintro e w1 ⟨rfl, hb1⟩
    go_wp2
    exact ⟨_, rfl, rfl, hb1⟩
  · intro vs wq hB hm
    have hl : look wq (w.heap.size) = some (.cells (VA f) 26 (0, 0)) := by rw [look_below hB (by first | omega | (simp only [World.size_alloc, World.size_setCell, World.size_drew, setRow_size]; omega) | exact look_lt (by assumption))]; first | assumption | go_simp
    have h73 : vs 73 = .bool true := meets_get hm 11 rfl rfl rfl rfl
    clear hm
    simp only [fill, h73]
    go_wp2
    exact ⟨_, rfl, rfl, Below.refl _ _⟩
  · intro vs wq hB hm
    have hl : look wq (w.heap.size + 1) = some (.cells (VA g) 26 (0, 0)) := by rw [look_below hB (by first | omega | (simp only [World.size_alloc, World.size_setCell, World.size_drew, setRow_size]; omega) | exact look_lt (by assumption))]; first | assumption | go_simp
    have h73 : vs 73 = .bool true := meets_get hm 11 rfl rfl rfl rfl
    clear hm
    simp only [fill, h73]
    go_wp2
    exact ⟨_, rfl, rfl, Below.refl _ _⟩
  · intro vs wq hB hm
    have h77 : vs 77 = .agg (VA f) := meets_get hm 15 rfl rfl rfl rfl
    have h78 : vs 78 = .agg (VA g) := meets_get hm 16 rfl rfl rfl rfl
    have h73 : vs 73 = .bool true := meets_get hm 11 rfl rfl rfl rfl
    clear hm
    simp only [fill, h77, h78, h73]
    go_wp2_with fail
    refine (rmeet_any f g _).mono ?_
    rintro e w1 ⟨rfl, hb1⟩
    go_wp2
    exact ⟨_, rfl, rfl, hb1⟩
  · intro vs wq hB hm
    have h76 : vs 76 = .agg (VA (vmin f g)) := meets_get hm 14 rfl rfl rfl rfl
    have h79 : vs 79 = .agg (VA (vmin f g)) := meets_get hm 17 rfl rfl rfl rfl
    have h73 : vs 73 = .bool true := meets_get hm 11 rfl rfl rfl rfl
    clear hm
    simp only [fill, h76, h79, h73]
    go_wp2
    exact ⟨_, rfl, rfl, Below.refl _ _⟩
  · intro vs wq hB hm
    have h73 : vs 73 = .bool true := meets_get hm 11 rfl rfl rfl rfl
    have h80 : vs 80 = .bool true := meets_get hm 18 rfl rfl rfl rfl
    clear hm
    simp only [fill, h73, h80]
    go_wp2
    exact ⟨_, rfl, rfl, Below.refl _ _⟩
  · intro vs wq hB hm
    have h81 : vs 81 = .bool true := meets_get hm 19 rfl rfl rfl rfl
    clear hm
    simp only [fill, h81]
    go_wp2
    exact ⟨_, rfl, rfl, Below.refl _ _⟩
  · intro vs wq hB hm
    have hl : look wq (w.heap.size) = some (.cells (VA f) 26 (0, 0)) := by rw [look_below hB (by first | omega | (simp only [World.size_alloc, World.size_setCell, World.size_drew, setRow_size]; omega) | exact look_lt (by assumption))]; first | assumption | go_simp
    have h82 : vs 82 = .bool true := meets_get hm 20 rfl rfl rfl rfl
    clear hm
    simp only [fill, h82]
    go_wp2
    exact ⟨_, rfl, rfl, Below.refl _ _⟩
  · intro vs wq hB hm
    have hl : look wq (w.heap.size + 1) = some (.cells (VA g) 26 (0, 0)) := by rw [look_below hB (by first | omega | (simp only [World.size_alloc, World.size_setCell, World.size_drew, setRow_size]; omega) | exact look_lt (by assumption))]; first | assumption | go_simp
    have h82 : vs 82 = .bool true := meets_get hm 20 rfl rfl rfl rfl
    clear hm
    simp only [fill, h82]
    go_wp2
    exact ⟨_, rfl, rfl, Below.refl _ _⟩
  · intro vs wq hB hm
    have h83 : vs 83 = .agg (VA f) := meets_get hm 21 rfl rfl rfl rfl
    have h84 : vs 84 = .agg (VA g) := meets_get hm 22 rfl rfl rfl rfl
    have h82 : vs 82 = .bool true := meets_get hm 20 rfl rfl rfl rfl
    clear hm
    simp only [fill, h83, h84, h82]
    go_wp2_with fail
    refine (covers_any f g _).mono ?_
    rintro e w1 ⟨rfl, hb1⟩
    go_wp2
    exact ⟨_, rfl, rfl, hb1⟩
  · intro vs wq hB hm
    have hl : look wq (w.heap.size) = some (.cells (VA f) 26 (0, 0)) := by rw [look_below hB (by first | omega | (simp only [World.size_alloc, World.size_setCell, World.size_drew, setRow_size]; omega) | exact look_lt (by assumption))]; first | assumption | go_simp
    have h82 : vs 82 = .bool true := meets_get hm 20 rfl rfl rfl rfl
    clear hm
    simp only [fill, h82]
    go_wp2
    exact ⟨_, rfl, rfl, Below.refl _ _⟩
  · intro vs wq hB hm
    have hl : look wq (w.heap.size + 1) = some (.cells (VA g) 26 (0, 0)) := by rw [look_below hB (by first | omega | (simp only [World.size_alloc, World.size_setCell, World.size_drew, setRow_size]; omega) | exact look_lt (by assumption))]; first | assumption | go_simp
    have h82 : vs 82 = .bool true := meets_get hm 20 rfl rfl rfl rfl
    clear hm
    simp only [fill, h82]
    go_wp2
    exact ⟨_, rfl, rfl, Below.refl _ _⟩
  · intro vs wq hB hm
    have h86 : vs 86 = .agg (VA f) := meets_get hm 24 rfl rfl rfl rfl
    have h87 : vs 87 = .agg (VA g) := meets_get hm 25 rfl rfl rfl rfl
    have h82 : vs 82 = .bool true := meets_get hm 20 rfl rfl rfl rfl
    clear hm
    simp only [fill, h86, h87, h82]
    go_wp2_with fail
    refine (rcovers_any f g _).mono ?_
    rintro e w1 ⟨rfl, hb1⟩
    go_wp2
    exact ⟨_, rfl, rfl, hb1⟩
  · intro vs wq hB hm
    have h85 : vs 85 = .bool (covB f g) := meets_get hm 23 rfl rfl rfl rfl
    have h88 : vs 88 = .bool (covB f g) := meets_get hm 26 rfl rfl rfl rfl
    have h82 : vs 82 = .bool true := meets_get hm 20 rfl rfl rfl rfl
    clear hm
    simp only [fill, h85, h88, h82]
    go_wp2
    exact ⟨_, rfl, rfl, Below.refl _ _⟩
  · intro vs wq hB hm
    have h82 : vs 82 = .bool true := meets_get hm 20 rfl rfl rfl rfl
    have h89 : vs 89 = .bool true := meets_get hm 27 rfl rfl rfl rfl
    clear hm
    simp only [fill, h82, h89]
    go_wp2
    exact ⟨_, rfl, rfl, Below.refl _ _⟩
  · intro vs wq hB hm
    have h90 : vs 90 = .bool true := meets_get hm 28 rfl rfl rfl rfl
    clear hm
    simp only [fill, h90]
    go_wp2
    exact ⟨_, rfl, rfl, Below.refl _ _⟩
  · intro vs wq hB hm
    have hl : look wq (w.heap.size) = some (.cells (VA f) 26 (0, 0)) := by rw [look_below hB (by first | omega | (simp only [World.size_alloc, World.size_setCell, World.size_drew, setRow_size]; omega) | exact look_lt (by assumption))]; first | assumption | go_simp
    have h91 : vs 91 = .bool true := meets_get hm 29 rfl rfl rfl rfl
    clear hm
    simp only [fill, h91]
    go_wp2
    exact ⟨_, rfl, rfl, Below.refl _ _⟩
  · intro vs wq hB hm
    have hl : look wq (w.heap.size + 1 + 1) = some (.cells (#[.int .i64 d, .int .u32 (k : Int)]) 34 (0, 0)) := by rw [look_below hB (by first | omega | (simp only [World.size_alloc, World.size_setCell, World.size_drew, setRow_size]; omega) | exact look_lt (by assumption))]; first | assumption | go_simp
    have hc0 : World.cell? wq ⟨w.heap.size + 1 + 1, 0, none⟩ = some (.int .i64 d) := by rw [look_cell hl]; rfl
    have hc1 : World.cell? wq ⟨w.heap.size + 1 + 1, 1, none⟩ = some (.int .u32 (k : Int)) := by rw [look_cell hl]; rfl
    have h91 : vs 91 = .bool true := meets_get hm 29 rfl rfl rfl rfl
    clear hm
    simp only [fill, h91]
    go_wp2
    exact ⟨_, rfl, rfl, Below.refl _ _⟩
  · intro vs wq hB hm
    have h92 : vs 92 = .agg (VA f) := meets_get hm 30 rfl rfl rfl rfl
    have h93 : vs 93 = .agg #[.int .i64 d, .int .u32 (k : Int)] := meets_get hm 31 rfl rfl rfl rfl
    have h91 : vs 91 = .bool true := meets_get hm 29 rfl rfl rfl rfl
    clear hm
    simp only [fill, h92, h93, h91]
    go_wp2_with fail
    refine (has_any f d k _).mono ?_
    rintro e w1 ⟨rfl, hb1⟩
    go_wp2
    exact ⟨_, rfl, rfl, hb1⟩
  · intro vs wq hB hm
    have hl : look wq (w.heap.size) = some (.cells (VA f) 26 (0, 0)) := by rw [look_below hB (by first | omega | (simp only [World.size_alloc, World.size_setCell, World.size_drew, setRow_size]; omega) | exact look_lt (by assumption))]; first | assumption | go_simp
    have h91 : vs 91 = .bool true := meets_get hm 29 rfl rfl rfl rfl
    clear hm
    simp only [fill, h91]
    go_wp2
    exact ⟨_, rfl, rfl, Below.refl _ _⟩
  · intro vs wq hB hm
    have hl : look wq (w1.heap.size) = some (.cells (#[.int .i64 d, .int .u32 (k : Int)]) 45 (0, 0)) := by rw [look_below hB (by first | omega | (simp only [World.size_alloc, World.size_setCell, World.size_drew, setRow_size]; omega) | exact look_lt (by assumption))]; first | assumption | go_simp
    have hc0 : World.cell? wq ⟨w1.heap.size, 0, none⟩ = some (.int .i64 d) := by rw [look_cell hl]; rfl
    have hc1 : World.cell? wq ⟨w1.heap.size, 1, none⟩ = some (.int .u32 (k : Int)) := by rw [look_cell hl]; rfl
    have h91 : vs 91 = .bool true := meets_get hm 29 rfl rfl rfl rfl
    clear hm
    simp only [fill, h91]
    go_wp2
    exact ⟨_, rfl, rfl, Below.refl _ _⟩
  · intro vs wq hB hm
    have h95 : vs 95 = .agg (VA f) := meets_get hm 33 rfl rfl rfl rfl
    have h96 : vs 96 = .agg #[.int .i64 d, .int .u32 (k : Int)] := meets_get hm 34 rfl rfl rfl rfl
    have h91 : vs 91 = .bool true := meets_get hm 29 rfl rfl rfl rfl
    clear hm
    simp only [fill, h95, h96, h91]
    go_wp2_with fail
    refine (rhas_any f d k _).mono ?_
    rintro e w1 ⟨rfl, hb1⟩
    go_wp2
    exact ⟨_, rfl, rfl, hb1⟩
  · intro vs wq hB hm
    have h94 : vs 94 = .bool (hasB f d k) := meets_get hm 32 rfl rfl rfl rfl
    have h97 : vs 97 = .bool (hasB f d k) := meets_get hm 35 rfl rfl rfl rfl
    have h91 : vs 91 = .bool true := meets_get hm 29 rfl rfl rfl rfl
    clear hm
    simp only [fill, h94, h97, h91]
    go_wp2
    exact ⟨_, rfl, rfl, Below.refl _ _⟩
  · intro vs wq hB hm
    have h91 : vs 91 = .bool true := meets_get hm 29 rfl rfl rfl rfl
    have h98 : vs 98 = .bool true := meets_get hm 36 rfl rfl rfl rfl
    clear hm
    simp only [fill, h91, h98]
    go_wp2
    exact ⟨_, rfl, rfl, Below.refl _ _⟩
  · intro vs wq hB hm
    have h99 : vs 99 = .bool true := meets_get hm 37 rfl rfl rfl rfl
    clear hm
    simp only [fill, h99]
    go_wp2
    exact ⟨_, rfl, rfl, Below.refl _ _⟩
  · intro vs wq hB hm
    have hl : look wq (w.heap.size) = some (.cells (VA f) 26 (0, 0)) := by rw [look_below hB (by first | omega | (simp only [World.size_alloc, World.size_setCell, World.size_drew, setRow_size]; omega) | exact look_lt (by assumption))]; first | assumption | go_simp
    have h100 : vs 100 = .bool true := meets_get hm 38 rfl rfl rfl rfl
    clear hm
    simp only [fill, h100]
    go_wp2
    exact ⟨_, rfl, rfl, Below.refl _ _⟩
  · intro vs wq hB hm
    have h101 : vs 101 = .agg (VA f) := meets_get hm 39 rfl rfl rfl rfl
    have h100 : vs 100 = .bool true := meets_get hm 38 rfl rfl rfl rfl
    clear hm
    simp only [fill, h101, h100]
    go_wp2_with fail
    refine (count_any f HF.out _).mono ?_
    rintro e w1 ⟨rfl, hb1⟩
    go_wp2
    exact ⟨_, rfl, rfl, hb1⟩
  · intro vs wq hB hm
    have hl : look wq (w.heap.size) = some (.cells (VA f) 26 (0, 0)) := by rw [look_below hB (by first | omega | (simp only [World.size_alloc, World.size_setCell, World.size_drew, setRow_size]; omega) | exact look_lt (by assumption))]; first | assumption | go_simp
    have h100 : vs 100 = .bool true := meets_get hm 38 rfl rfl rfl rfl
    clear hm
    simp only [fill, h100]
    go_wp2
    exact ⟨_, rfl, rfl, Below.refl _ _⟩
  · intro vs wq hB hm
    have h103 : vs 103 = .agg (VA f) := meets_get hm 41 rfl rfl rfl rfl
    have h100 : vs 100 = .bool true := meets_get hm 38 rfl rfl rfl rfl
    clear hm
    simp only [fill, h103, h100]
    go_wp2_with fail
    refine (rcount_any f HF.out _).mono ?_
    rintro e w1 ⟨rfl, hb1⟩
    go_wp2
    exact ⟨_, rfl, rfl, hb1⟩
  · intro vs wq hB hm
    have h102 : vs 102 = .int .u64 (cntN f 12 : Int) := meets_get hm 40 rfl rfl rfl rfl
    have h104 : vs 104 = .int .u64 (cntN f 12 : Int) := meets_get hm 42 rfl rfl rfl rfl
    have h100 : vs 100 = .bool true := meets_get hm 38 rfl rfl rfl rfl
    clear hm
    simp only [fill, h102, h104, h100]
    go_wp2
    exact ⟨_, rfl, rfl, Below.refl _ _⟩
  · intro vs wq hB hm
    have h100 : vs 100 = .bool true := meets_get hm 38 rfl rfl rfl rfl
    have h105 : vs 105 = .bool true := meets_get hm 43 rfl rfl rfl rfl
    clear hm
    simp only [fill, h100, h105]
    go_wp2
    exact ⟨_, rfl, rfl, Below.refl _ _⟩
  · intro vs wq hB hm
    have h106 : vs 106 = .bool true := meets_get hm 44 rfl rfl rfl rfl
    clear hm
    simp only [fill, h106]
    go_wp2
    exact ⟨_, rfl, rfl, Below.refl _ _⟩
  · intro vs wq hB hm
    have hl : look wq (w.heap.size) = some (.cells (VA f) 26 (0, 0)) := by rw [look_below hB (by first | omega | (simp only [World.size_alloc, World.size_setCell, World.size_drew, setRow_size]; omega) | exact look_lt (by assumption))]; first | assumption | go_simp
    have h107 : vs 107 = .bool true := meets_get hm 45 rfl rfl rfl rfl
    clear hm
    simp only [fill, h107]
    go_wp2
    exact ⟨_, rfl, rfl, Below.refl _ _⟩
  · intro vs wq hB hm
    have hl : look wq (w.heap.size + 1) = some (.cells (VA g) 26 (0, 0)) := by rw [look_below hB (by first | omega | (simp only [World.size_alloc, World.size_setCell, World.size_drew, setRow_size]; omega) | exact look_lt (by assumption))]; first | assumption | go_simp
    have h107 : vs 107 = .bool true := meets_get hm 45 rfl rfl rfl rfl
    clear hm
    simp only [fill, h107]
    go_wp2
    exact ⟨_, rfl, rfl, Below.refl _ _⟩
  · intro vs wq hB hm
    have h108 : vs 108 = .agg (VA f) := meets_get hm 46 rfl rfl rfl rfl
    have h109 : vs 109 = .agg (VA g) := meets_get hm 47 rfl rfl rfl rfl
    have h107 : vs 107 = .bool true := meets_get hm 45 rfl rfl rfl rfl
    clear hm
    simp only [fill, h108, h109, h107]
    go_wp2_with fail
    refine (order_any f g _).mono ?_
    rintro e w1 ⟨rfl, hb1⟩
    go_wp2
    exact ⟨_, rfl, rfl, hb1⟩
  · intro vs wq hB hm
    have hl : look wq (w.heap.size) = some (.cells (VA f) 26 (0, 0)) := by rw [look_below hB (by first | omega | (simp only [World.size_alloc, World.size_setCell, World.size_drew, setRow_size]; omega) | exact look_lt (by assumption))]; first | assumption | go_simp
    have h107 : vs 107 = .bool true := meets_get hm 45 rfl rfl rfl rfl
    clear hm
    simp only [fill, h107]
    go_wp2
    exact ⟨_, rfl, rfl, Below.refl _ _⟩
  · intro vs wq hB hm
    have hl : look wq (w.heap.size + 1) = some (.cells (VA g) 26 (0, 0)) := by rw [look_below hB (by first | omega | (simp only [World.size_alloc, World.size_setCell, World.size_drew, setRow_size]; omega) | exact look_lt (by assumption))]; first | assumption | go_simp
    have h107 : vs 107 = .bool true := meets_get hm 45 rfl rfl rfl rfl
    clear hm
    simp only [fill, h107]
    go_wp2
    exact ⟨_, rfl, rfl, Below.refl _ _⟩
  · intro vs wq hB hm
    have h111 : vs 111 = .agg (VA f) := meets_get hm 49 rfl rfl rfl rfl
    have h112 : vs 112 = .agg (VA g) := meets_get hm 50 rfl rfl rfl rfl
    have h107 : vs 107 = .bool true := meets_get hm 45 rfl rfl rfl rfl
    clear hm
    simp only [fill, h111, h112, h107]
    go_wp2_with fail
    refine (rorder_any f g _).mono ?_
    rintro e w1 ⟨rfl, hb1⟩
    go_wp2
    exact ⟨_, rfl, rfl, hb1⟩
  · intro vs wq hB hm
    have h110 : vs 110 = .int .i64 (ordN f g) := meets_get hm 48 rfl rfl rfl rfl
    have h113 : vs 113 = .int .i64 (ordN f g) := meets_get hm 51 rfl rfl rfl rfl
    have h107 : vs 107 = .bool true := meets_get hm 45 rfl rfl rfl rfl
    clear hm
    simp only [fill, h110, h113, h107]
    go_wp2
    exact ⟨_, rfl, rfl, Below.refl _ _⟩
  · intro vs wq hB hm
    have h107 : vs 107 = .bool true := meets_get hm 45 rfl rfl rfl rfl
    have h114 : vs 114 = .bool true := meets_get hm 52 rfl rfl rfl rfl
    clear hm
    simp only [fill, h107, h114]
    go_wp2
    exact ⟨_, rfl, rfl, Below.refl _ _⟩
  intro vs wq hB hm
  have h62 : vs 62 = .bool true := hm 0 _ _ _ rfl rfl rfl
  have h63 : vs 63 = .bool true := hm 1 _ _ _ rfl rfl rfl
  have h64 : vs 64 = .agg (VA f) := hm 2 _ _ _ rfl rfl rfl
  have h65 : vs 65 = .agg (VA g) := hm 3 _ _ _ rfl rfl rfl
  obtain ⟨b66, h66, l66⟩ := hm 4 _ _ _ rfl rfl rfl
  have h67 : vs 67 = .agg (VA (vmax f g)) := hm 5 _ _ _ rfl rfl rfl
  have h68 : vs 68 = .agg (VA f) := hm 6 _ _ _ rfl rfl rfl
  have h69 : vs 69 = .agg (VA g) := hm 7 _ _ _ rfl rfl rfl
  have h70 : vs 70 = .agg (VA (vmax f g)) := hm 8 _ _ _ rfl rfl rfl
  have h71 : vs 71 = .bool true := hm 9 _ _ _ rfl rfl rfl
  have h72 : vs 72 = .bool true := hm 10 _ _ _ rfl rfl rfl
  have h73 : vs 73 = .bool true := hm 11 _ _ _ rfl rfl rfl
  have h74 : vs 74 = .agg (VA f) := hm 12 _ _ _ rfl rfl rfl
  have h75 : vs 75 = .agg (VA g) := hm 13 _ _ _ rfl rfl rfl
  have h76 : vs 76 = .agg (VA (vmin f g)) := hm 14 _ _ _ rfl rfl rfl
  have h77 : vs 77 = .agg (VA f) := hm 15 _ _ _ rfl rfl rfl
  have h78 : vs 78 = .agg (VA g) := hm 16 _ _ _ rfl rfl rfl
  have h79 : vs 79 = .agg (VA (vmin f g)) := hm 17 _ _ _ rfl rfl rfl
  have h80 : vs 80 = .bool true := hm 18 _ _ _ rfl rfl rfl
  have h81 : vs 81 = .bool true := hm 19 _ _ _ rfl rfl rfl
  have h82 : vs 82 = .bool true := hm 20 _ _ _ rfl rfl rfl
  have h83 : vs 83 = .agg (VA f) := hm 21 _ _ _ rfl rfl rfl
  have h84 : vs 84 = .agg (VA g) := hm 22 _ _ _ rfl rfl rfl
  have h85 : vs 85 = .bool (covB f g) := hm 23 _ _ _ rfl rfl rfl
  have h86 : vs 86 = .agg (VA f) := hm 24 _ _ _ rfl rfl rfl
  have h87 : vs 87 = .agg (VA g) := hm 25 _ _ _ rfl rfl rfl
  have h88 : vs 88 = .bool (covB f g) := hm 26 _ _ _ rfl rfl rfl
  have h89 : vs 89 = .bool true := hm 27 _ _ _ rfl rfl rfl
  have h90 : vs 90 = .bool true := hm 28 _ _ _ rfl rfl rfl
  have h91 : vs 91 = .bool true := hm 29 _ _ _ rfl rfl rfl
  have h92 : vs 92 = .agg (VA f) := hm 30 _ _ _ rfl rfl rfl
  have h93 : vs 93 = .agg #[.int .i64 d, .int .u32 (k : Int)] := hm 31 _ _ _ rfl rfl rfl
  have h94 : vs 94 = .bool (hasB f d k) := hm 32 _ _ _ rfl rfl rfl
  have h95 : vs 95 = .agg (VA f) := hm 33 _ _ _ rfl rfl rfl
  have h96 : vs 96 = .agg #[.int .i64 d, .int .u32 (k : Int)] := hm 34 _ _ _ rfl rfl rfl
  have h97 : vs 97 = .bool (hasB f d k) := hm 35 _ _ _ rfl rfl rfl
  have h98 : vs 98 = .bool true := hm 36 _ _ _ rfl rfl rfl
  have h99 : vs 99 = .bool true := hm 37 _ _ _ rfl rfl rfl
  have h100 : vs 100 = .bool true := hm 38 _ _ _ rfl rfl rfl
  have h101 : vs 101 = .agg (VA f) := hm 39 _ _ _ rfl rfl rfl
  have h102 : vs 102 = .int .u64 (cntN f 12 : Int) := hm 40 _ _ _ rfl rfl rfl
  have h103 : vs 103 = .agg (VA f) := hm 41 _ _ _ rfl rfl rfl
  have h104 : vs 104 = .int .u64 (cntN f 12 : Int) := hm 42 _ _ _ rfl rfl rfl
  have h105 : vs 105 = .bool true := hm 43 _ _ _ rfl rfl rfl
  have h106 : vs 106 = .bool true := hm 44 _ _ _ rfl rfl rfl
  have h107 : vs 107 = .bool true := hm 45 _ _ _ rfl rfl rfl
  have h108 : vs 108 = .agg (VA f) := hm 46 _ _ _ rfl rfl rfl
  have h109 : vs 109 = .agg (VA g) := hm 47 _ _ _ rfl rfl rfl
  have h110 : vs 110 = .int .i64 (ordN f g) := hm 48 _ _ _ rfl rfl rfl
  have h111 : vs 111 = .agg (VA f) := hm 49 _ _ _ rfl rfl rfl
  have h112 : vs 112 = .agg (VA g) := hm 50 _ _ _ rfl rfl rfl
  have h113 : vs 113 = .int .i64 (ordN f g) := hm 51 _ _ _ rfl rfl rfl
  have h114 : vs 114 = .bool true := hm 52 _ _ _ rfl rfl rfl
  have h115 : vs 115 = .bool true := hm 53 _ _ _ rfl rfl rfl
  simp only [fill, List.filterMap, List.take, List.drop, List.setIfInBounds_toArray, List.set_cons_zero, List.set_cons_succ, h62, h63, h64, h65, h66, h67, h68, h69, h70, h71, h72, h73, h74, h75, h76, h77, h78, h79, h80, h81, h82, h83, h84, h85, h86, h87, h88, h89, h90, h91, h92, h93, h94, h95, h96, h97, h98, h99, h100, h101, h102, h103, h104, h105, h106, h107, h108, h109, h110, h111, h112, h113, h114, h115]
  clear hm h62 h63 h64 h65 h66 h67 h68 h69 h70 h71 h72 h73 h74 h75 h76 h77 h78 h79 h80 h81 h82 h83 h84 h85 h86 h87 h88 h89 h90 h91 h92 h93 h94 h95 h96 h97 h98 h99 h100 h101 h102 h103 h104 h105 h106 h107 h108 h109 h110 h111 h112 h113 h114 h115
  go_wp2
  go_ret
  exact ⟨rfl, belT hB3 hB⟩
end Go.Proofs.Ytknhlkapeoodhaa
