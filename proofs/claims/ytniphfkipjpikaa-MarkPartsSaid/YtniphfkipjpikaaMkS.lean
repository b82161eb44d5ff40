/- What rows come to: the plain law, and the program's own sum. -/
import Derived.Test.YtniphfkipjpikaaMkC
import Derived.Test.YtniphfkipjpikaaMul
namespace Go.Proofs.Ytniphfkipjpikaa
open Go.RowKit Flt

/-- What rows come to, so far: lines, pieces, free ones, and the prices. -/
structure Tot where
  lines : Nat
  pieces : Nat
  free : Nat
  prices : List Nat
def tot0 : Tot := ⟨0, 0, 0, []⟩
def qtyN (q : Int) : Int := if 100000 < q then 100000 else q
/-- A row plays a part. -/
def playB (q : Int) (m : Mk) : Bool := decide (1 ≤ q) && m.right
abbrev cvtF (n : Int) : Nat := floatOfInt .f64 n
def stepT (t : Tot) (q : Int) (m : Mk) : Tot :=
  if playB q m = true then ⟨t.lines + 1, t.pieces + (qtyN q).toNat, if m.has = true then t.free else t.free + 1, if m.has = true then t.prices ++ [mulF (cvtF (qtyN q)) m.price] else t.prices⟩ else t
/-- What the first k rows come to. -/
def totF (q : Nat → Int) (L : Nat → Mk) : Nat → Tot
  | 0 => tot0
  | k + 1 => stepT (totF q L k) (q k) (L k)
theorem qtyN_le (q : Int) : qtyN q ≤ 100000 := by unfold qtyN; split <;> omega
theorem tot_bounds (q : Nat → Int) (L : Nat → Mk) : ∀ k, (totF q L k).lines ≤ k ∧ (totF q L k).pieces ≤ k * 100000 ∧ (totF q L k).free ≤ k ∧ (totF q L k).prices.length ≤ k
  | 0 => by simp [totF, tot0]
  | k + 1 => by
    have ih := tot_bounds q L k
    have hq := qtyN_le (q k)
    unfold totF stepT
    split
    · refine ⟨?_, ?_, ?_, ?_⟩
      · simp only; omega
      · simp only; omega
      · simp only; split <;> omega
      · simp only; split
        · rw [List.length_append, List.length_singleton]; omega
        · omega
    · omega
theorem tot_same {q r : Nat → Int} {L M : Nat → Mk} : ∀ (k : Nat), (∀ i, i < k → q i = r i ∧ L i = M i) → totF q L k = totF r M k
  | 0, _ => rfl
  | k + 1, h => by
    unfold totF
    rw [tot_same k (fun i hi => h i (by omega)), (h k (by omega)).1, (h k (by omega)).2]

/-- The cells of a quantity. -/
def qC (q : Nat → Int) (k : Nat) : List Value := [.int .i64 (q k)]
theorem qC_len (q : Nat → Int) (k : Nat) : (qC q k).length = 1 := rfl

/-- A cell of a known place. -/
theorem SliceAt.cell {w : World} {ad : Option Addr} {n s : Nat} {C : Nat → List Value} (h : n = 0 ∨ ∃ b off, ad = some ⟨b, off, none⟩ ∧ b < w.heap.size ∧ ∀ k, k < n → w.rangeAt b (off + k * s) (C k)) {k : Nat} (hk : k < n) {W : World} (hB : Below w.heap.size w W) :
    ∃ b off, ad = some ⟨b, off, none⟩ ∧ b < w.heap.size ∧ W.rangeAt b (off + k * s) (C k) := by
  obtain ⟨b, off, rfl, hb, hR⟩ := h.resolve_left (by omega)
  exact ⟨b, off, rfl, hb, fun j u hu => by rw [hB.cell hb]; exact hR k hk j u hu⟩

theorem infoMk : (Try.prog.info? 29).map (fun i => (i.zero, i.size, i.bytes)) = some (some (.agg #[.int .i64 0, .bool false, .float .f64 0]), 3, 24) := by kernel_rfl

@[go_sem] theorem qtyN_if (q : Int) : (if (100000 : Int) < q then (100000 : Int) else q) = qtyN q := rfl
@[go_sem] theorem min_castN (a b : Nat) : (if (b : Int) < (a : Int) then (b : Int) else (a : Int)) = ((min a b : Nat) : Int) := by
  split <;> omega
@[go_sem] theorem min_castM (a b : Nat) : (if b < a then (b : Int) else (a : Int)) = ((min a b : Nat) : Int) := by
  split <;> omega

set_option maxRecDepth 100000 in
set_option maxHeartbeats 3200000 in
theorem msum_any (vq vm : Value) (nq nm : Nat) (q : Nat → Int) (L : Nat → Mk) (w : World) (hnq : nq ≤ 1000) (hnm : nm ≤ 1000) (hSq : SliceAt w vq nq 1 (qC q)) (hSm : SliceAt w vm nm 3 (mC L)) (hL : ∀ k, k < nm → (L k).price < 18446744073709551616) :
    Calls Try.prog 27 #[vq, vm] w fun e w' => e = .returned (.agg #[.int .i64 ((totF q L (min nm nq)).lines : Nat), .int .i64 ((totF q L (min nm nq)).pieces : Nat), .int .i64 ((totF q L (min nm nq)).free : Nat), .float .f64 (sumL (totF q L (min nm nq)).prices)]) ∧ Below w.heap.size w w' := by
  obtain ⟨aq, cq, rfl, _, _, hRq⟩ := hSq
  obtain ⟨am, cm, rfl, _, hcm, hRm⟩ := hSm
  obtain ⟨m, hm⟩ : ∃ m, min nm nq = m := ⟨_, rfl⟩
  rw [hm]
  have hm1 : m ≤ nm := by omega
  have hm2 : m ≤ nq := by omega
  have hm3 : m ≤ cm := by omega
  obtain ⟨i0, hi, hz0, hz1, hz2⟩ := info_parts infoF
  go_enter Try.func27, Try.ntmps27
  go_wp2
  go_loopw [6, 18] (fun p i wr => ∃ (k : Nat) (l : List Nat), k ≤ m ∧ i = .int .i64 k ∧ AlikeL l (totF q L k).prices ∧ wr.ownsRow (w.heap.size + 2) 27 1 p l.length (l.map (Value.float .f64)) ∧ Below w.heap.size w wr ∧
      look wr w.heap.size = some (.cells #[.int .i64 0, .int .i64 0, .int .i64 0, .float .f64 0] 47 (0, 0)) ∧
      look wr (w.heap.size + 1) = some (.cells #[.int .i64 ((totF q L k).lines : Nat), .int .i64 ((totF q L k).pieces : Nat), .int .i64 ((totF q L k).free : Nat), .float .f64 0] 47 (0, 0)))
    (fun _ i _ => m - (intOf i).toNat)
  case atStart => exact ⟨0, [], Nat.zero_le _, rfl, AlikeL.nil, World.ownsRow_nil _ _ _ _, belA (belA (bel0 _) _) _, by go_simp, by simp only [totF, tot0]; go_simp⟩
  case round =>
    obtain ⟨k, l, hk, rfl, hl, hown, hB, h0, h1⟩ := hrel
    have hs0 := look_lt h1
    have hs1 := look_lt h0
    by_cases hlt : k < m
    · have tb := tot_bounds q L k
      have tn := hidP (show totF q L (k + 1) = stepT (totF q L k) (q k) (L k) from rfl)
      obtain ⟨bq, oq, rfl, hbq, hcq⟩ := SliceAt.cell hRq (show k < nq by omega) hB
      obtain ⟨bm, om, rfl, hbm, hcm2⟩ := SliceAt.cell hRm (show k < nm by omega) hB
      have hp := hL k (by omega)
      obtain ⟨⟨A, B, C, Ps⟩, hT⟩ : ∃ t, totF q L k = t := ⟨_, rfl⟩
      rw [hT] at tn hl h1 tb
      simp only at hl h1 tb
      obtain ⟨q0, hq0⟩ : ∃ x, q k = x := ⟨_, rfl⟩
      have c0 : wr.cell? ⟨bq, oq + k, none⟩ = some (.int .i64 q0) := by
        have := hcq 0 _ rfl
        rw [Nat.mul_one, Nat.add_zero, hq0] at this
        exact this
      have hbq2 : bq < wr.heap.size := Nat.lt_of_lt_of_le hbq hB.size
      have hbm2 : bm < wr.heap.size := Nat.lt_of_lt_of_le hbm hB.size
      clear hRq hRm
      obtain ⟨r, hr0⟩ : ∃ r, (L k).right = r := ⟨_, rfl⟩
      obtain ⟨N, hN⟩ : ∃ x, qtyN q0 = x := ⟨_, rfl⟩
      have hN2 : N ≤ 100000 := by rw [← hN]; exact qtyN_le _
      have hN3 : q0 < 1 → N < 1 := by intro h; rw [← hN]; unfold qtyN; split <;> omega
      have hN4 : 1 ≤ q0 → 1 ≤ N := by intro h; rw [← hN]; unfold qtyN; split <;> omega
      have kA := fun w => calls_is (mright_any (L k).flag (L k).has (L k).price hp w) (u := .bool r) (by rw [← hr0]; rfl)
      unfold mC at hcm2
      have hstep := tn.out
      rw [hq0] at hstep
      unfold stepT playB at hstep
      rw [hr0, hN] at hstep
      obtain ⟨⟨F, H, p⟩, hM⟩ : ∃ x, L k = x := ⟨_, rfl⟩
      rw [hM] at kA hcm2 hp hstep
      simp only at kA hcm2 hp hstep
      clear hq0 hr0 hT hcq hM tn
      by_cases h1q : q0 < 1
      · rw [decide_eq_false (by omega), Bool.false_and, if_neg (by decide)] at hstep
        have hst := hidP hstep
        have hNn := hN3 h1q
        clear hN3 hN4 hstep
        go_wp2_with (refine wpList_load_mid rfl 29 _ rfl bm (om + k * 3) rfl _ _ hcm2 Try.underlying29 rfl mk_info ?_)
        go_roundw
        case rel => exact ⟨k + 1, l, by omega, by go_num, by rw [hst.out]; exact hl, hown.alloc _, belA hB _, by go_simp, by rw [hst.out]; go_simp⟩
        case measure => simp [intOf]; omega
      · rw [decide_eq_true (by omega), Bool.true_and] at hstep
        have hNn := hN4 (by omega)
        have hNd : ¬ N < 1 := by omega
        clear hN3 hN4
        have hown1 := hown.alloc (.cells #[.int .i64 F, .bool H, .float .f64 p] 29)
        have hBa := belA hB (.cells #[.int .i64 F, .bool H, .float .f64 p] 29)
        cases r
        · rw [if_neg (by decide)] at hstep
          have hst := hidP hstep
          clear hstep
          go_wp2_with (first | (refine wpList_load_mid rfl 29 _ rfl bm (om + k * 3) rfl _ _ hcm2 Try.underlying29 rfl mk_info ?_) | fail)
          refine (kA _).mono ?_
          rintro _ w1 ⟨rfl, hB1⟩
          replace l0 : look w1 (w.heap.size) = some (.cells (#[.int .i64 0, .int .i64 0, .int .i64 0, .float .f64 0]) 47 (0, 0)) := by rw [look_below hB1 (by first | omega | (simp only [World.size_alloc]; omega) | exact look_lt (by assumption) | (simp only [World.size_alloc, World.size_setCell]; omega) | (simp; omega))]; first | assumption | go_simp
          replace c00 : World.cell? w1 ⟨w.heap.size, 0, none⟩ = some (.int .i64 0) := by rw [look_cell l0]; rfl
          replace c01 : World.cell? w1 ⟨w.heap.size, 1, none⟩ = some (.int .i64 0) := by rw [look_cell l0]; rfl
          replace c02 : World.cell? w1 ⟨w.heap.size, 2, none⟩ = some (.int .i64 0) := by rw [look_cell l0]; rfl
          replace c03 : World.cell? w1 ⟨w.heap.size, 3, none⟩ = some (.float .f64 0) := by rw [look_cell l0]; rfl
          replace f0 := look_frozen l0
          replace s0 := look_lt l0
          replace l1 : look w1 (w.heap.size + 1) = some (.cells (#[.int .i64 (A : Nat), .int .i64 (B : Nat), .int .i64 (C : Nat), .float .f64 0]) 47 (0, 0)) := by rw [look_below hB1 (by first | omega | (simp only [World.size_alloc]; omega) | exact look_lt (by assumption) | (simp only [World.size_alloc, World.size_setCell]; omega) | (simp; omega))]; first | assumption | go_simp
          replace c10 : World.cell? w1 ⟨w.heap.size + 1, 0, none⟩ = some (.int .i64 (A : Nat)) := by rw [look_cell l1]; rfl
          replace c11 : World.cell? w1 ⟨w.heap.size + 1, 1, none⟩ = some (.int .i64 (B : Nat)) := by rw [look_cell l1]; rfl
          replace c12 : World.cell? w1 ⟨w.heap.size + 1, 2, none⟩ = some (.int .i64 (C : Nat)) := by rw [look_cell l1]; rfl
          replace c13 : World.cell? w1 ⟨w.heap.size + 1, 3, none⟩ = some (.float .f64 0) := by rw [look_cell l1]; rfl
          replace f1 := look_frozen l1
          replace s1 := look_lt l1
          go_wp2
          go_roundw
          case rel => exact ⟨k + 1, l, by omega, by go_num, by rw [hst.out]; exact hl, own_below hown1 hB1, belT hBa hB1, l0, by rw [hst.out]; exact l1⟩
          case measure => simp [intOf]; omega
        · rw [if_pos rfl] at hstep
          have hNp : ((N.toNat : Nat) : Int) = N := by omega
          have wA : IntKind.i64.wrap ((A : Int) + 1) = ((A + 1 : Nat) : Int) := by rw [IntWalk.i64_in _ (by omega)]; omega
          have wB : IntKind.i64.wrap ((B : Int) + N) = ((B + N.toNat : Nat) : Int) := by rw [IntWalk.i64_in _ (by omega)]; omega
          have wC : IntKind.i64.wrap ((C : Int) + 1) = ((C + 1 : Nat) : Int) := by rw [IntWalk.i64_in _ (by omega)]; omega
          obtain ⟨B2, hB2⟩ : ∃ x, B + N.toNat = x := ⟨_, rfl⟩
          rw [hB2] at hstep wB
          clear hNp hB2
          cases H
          · simp only [if_neg (show ¬ (false = true) by decide)] at hstep
            have hst := hidP hstep
            clear hstep
            go_wp2_with (first | (refine wpList_load_mid rfl 29 _ rfl bm (om + k * 3) rfl _ _ hcm2 Try.underlying29 rfl mk_info ?_) | fail)
            refine (kA _).mono ?_
            rintro _ w1 ⟨rfl, hB1⟩
            replace l0 : look w1 (w.heap.size) = some (.cells (#[.int .i64 0, .int .i64 0, .int .i64 0, .float .f64 0]) 47 (0, 0)) := by rw [look_below hB1 (by first | omega | (simp only [World.size_alloc]; omega) | exact look_lt (by assumption) | (simp only [World.size_alloc, World.size_setCell]; omega) | (simp; omega))]; first | assumption | go_simp
            replace c00 : World.cell? w1 ⟨w.heap.size, 0, none⟩ = some (.int .i64 0) := by rw [look_cell l0]; rfl
            replace c01 : World.cell? w1 ⟨w.heap.size, 1, none⟩ = some (.int .i64 0) := by rw [look_cell l0]; rfl
            replace c02 : World.cell? w1 ⟨w.heap.size, 2, none⟩ = some (.int .i64 0) := by rw [look_cell l0]; rfl
            replace c03 : World.cell? w1 ⟨w.heap.size, 3, none⟩ = some (.float .f64 0) := by rw [look_cell l0]; rfl
            replace f0 := look_frozen l0
            replace s0 := look_lt l0
            replace l1 : look w1 (w.heap.size + 1) = some (.cells (#[.int .i64 (A : Nat), .int .i64 (B : Nat), .int .i64 (C : Nat), .float .f64 0]) 47 (0, 0)) := by rw [look_below hB1 (by first | omega | (simp only [World.size_alloc]; omega) | exact look_lt (by assumption) | (simp only [World.size_alloc, World.size_setCell]; omega) | (simp; omega))]; first | assumption | go_simp
            replace c10 : World.cell? w1 ⟨w.heap.size + 1, 0, none⟩ = some (.int .i64 (A : Nat)) := by rw [look_cell l1]; rfl
            replace c11 : World.cell? w1 ⟨w.heap.size + 1, 1, none⟩ = some (.int .i64 (B : Nat)) := by rw [look_cell l1]; rfl
            replace c12 : World.cell? w1 ⟨w.heap.size + 1, 2, none⟩ = some (.int .i64 (C : Nat)) := by rw [look_cell l1]; rfl
            replace c13 : World.cell? w1 ⟨w.heap.size + 1, 3, none⟩ = some (.float .f64 0) := by rw [look_cell l1]; rfl
            replace f1 := look_frozen l1
            replace s1 := look_lt l1
            replace l8 : look w1 (wr.heap.size) = some (.cells (#[.int .i64 F, .bool false, .float .f64 p]) 29 (0, 0)) := by rw [look_below hB1 (by first | omega | (simp only [World.size_alloc]; omega) | exact look_lt (by assumption) | (simp only [World.size_alloc, World.size_setCell]; omega) | (simp; omega))]; first | assumption | go_simp
            replace c80 : World.cell? w1 ⟨wr.heap.size, 0, none⟩ = some (.int .i64 F) := by rw [look_cell l8]; rfl
            replace c81 : World.cell? w1 ⟨wr.heap.size, 1, none⟩ = some (.bool false) := by rw [look_cell l8]; rfl
            replace c82 : World.cell? w1 ⟨wr.heap.size, 2, none⟩ = some (.float .f64 p) := by rw [look_cell l8]; rfl
            replace f8 := look_frozen l8
            replace s8 := look_lt l8
            go_wp2
            have hBx := belT hBa hB1
            go_roundw
            case rel => exact ⟨k + 1, l, by omega, by go_num, by rw [hst.out]; exact hl, own_setCell (own_setCell (own_setCell (own_below hown1 hB1) (by omega)) (by omega)) (by omega), by repeat (first | exact hBx | refine belS ?_ (by simp) _), by go_simp, by rw [hst.out]; go_simp⟩
            case measure => simp [intOf]; omega
          · simp only [if_pos] at hstep
            have hst := hidP hstep
            clear hstep
            go_wp2_with (first | (refine wpList_load_mid rfl 29 _ rfl bm (om + k * 3) rfl _ _ hcm2 Try.underlying29 rfl mk_info ?_) | fail)
            refine (kA _).mono ?_
            rintro _ w1 ⟨rfl, hB1⟩
            have hBx := belT hBa hB1
            have hownx := own_below hown1 hB1
            replace l0 : look w1 (w.heap.size) = some (.cells (#[.int .i64 0, .int .i64 0, .int .i64 0, .float .f64 0]) 47 (0, 0)) := by rw [look_below hB1 (by first | omega | (simp only [World.size_alloc]; omega) | exact look_lt (by assumption) | (simp only [World.size_alloc, World.size_setCell]; omega) | (simp; omega))]; first | assumption | go_simp
            replace c00 : World.cell? w1 ⟨w.heap.size, 0, none⟩ = some (.int .i64 0) := by rw [look_cell l0]; rfl
            replace c01 : World.cell? w1 ⟨w.heap.size, 1, none⟩ = some (.int .i64 0) := by rw [look_cell l0]; rfl
            replace c02 : World.cell? w1 ⟨w.heap.size, 2, none⟩ = some (.int .i64 0) := by rw [look_cell l0]; rfl
            replace c03 : World.cell? w1 ⟨w.heap.size, 3, none⟩ = some (.float .f64 0) := by rw [look_cell l0]; rfl
            replace f0 := look_frozen l0
            replace s0 := look_lt l0
            replace l1 : look w1 (w.heap.size + 1) = some (.cells (#[.int .i64 (A : Nat), .int .i64 (B : Nat), .int .i64 (C : Nat), .float .f64 0]) 47 (0, 0)) := by rw [look_below hB1 (by first | omega | (simp only [World.size_alloc]; omega) | exact look_lt (by assumption) | (simp only [World.size_alloc, World.size_setCell]; omega) | (simp; omega))]; first | assumption | go_simp
            replace c10 : World.cell? w1 ⟨w.heap.size + 1, 0, none⟩ = some (.int .i64 (A : Nat)) := by rw [look_cell l1]; rfl
            replace c11 : World.cell? w1 ⟨w.heap.size + 1, 1, none⟩ = some (.int .i64 (B : Nat)) := by rw [look_cell l1]; rfl
            replace c12 : World.cell? w1 ⟨w.heap.size + 1, 2, none⟩ = some (.int .i64 (C : Nat)) := by rw [look_cell l1]; rfl
            replace c13 : World.cell? w1 ⟨w.heap.size + 1, 3, none⟩ = some (.float .f64 0) := by rw [look_cell l1]; rfl
            replace f1 := look_frozen l1
            replace s1 := look_lt l1
            replace l8 : look w1 (wr.heap.size) = some (.cells (#[.int .i64 F, .bool true, .float .f64 p]) 29 (0, 0)) := by rw [look_below hB1 (by first | omega | (simp only [World.size_alloc]; omega) | exact look_lt (by assumption) | (simp only [World.size_alloc, World.size_setCell]; omega) | (simp; omega))]; first | assumption | go_simp
            replace c80 : World.cell? w1 ⟨wr.heap.size, 0, none⟩ = some (.int .i64 F) := by rw [look_cell l8]; rfl
            replace c81 : World.cell? w1 ⟨wr.heap.size, 1, none⟩ = some (.bool true) := by rw [look_cell l8]; rfl
            replace c82 : World.cell? w1 ⟨wr.heap.size, 2, none⟩ = some (.float .f64 p) := by rw [look_cell l8]; rfl
            replace f8 := look_frozen l8
            replace s8 := look_lt l8
            go_wp2_with (at_builtin; refine stop_here ?_)
            refine hidP ?_
            obtain ⟨W1, hW1⟩ : ∃ x, (w1.setCell ⟨w.heap.size + 1, 0, none⟩ (.int .i64 ((A : Int) + 1))).setCell ⟨w.heap.size + 1, 1, none⟩ (.int .i64 (B2 : Int)) = x := ⟨_, rfl⟩
            have ho1 : W1.ownsRow (w.heap.size + 2) 27 1 u6 l.length (l.map (Value.float .f64)) := by rw [← hW1]; exact own_setCell (own_setCell hownx (by omega)) (by omega)
            have hb1 : Below w.heap.size w W1 := by rw [← hW1]; exact belS (belS hBx (by simp) _) (by simp) _
            have hz : W1.heap.size = w1.heap.size := by rw [← hW1]; simp
            replace l0 : look W1 w.heap.size = some (.cells #[.int .i64 0, .int .i64 0, .int .i64 0, .float .f64 0] 47 (0, 0)) := by rw [← hW1, look_set_other (by simp), look_set_other (by simp)]; exact l0
            replace l1 : look W1 (w.heap.size + 1) = some (.cells #[.int .i64 ((A + 1 : Nat) : Int), .int .i64 (B2 : Int), .int .i64 (C : Int), .float .f64 0] 47 (0, 0)) := by rw [← hW1, look_set_same (look_set_same l1 _ _)]; rfl
            rw [hW1]
            clear hW1 c00 c01 c02 c03 c10 c11 c12 c13 f0 f1 f8 c80 c81 c82 l8 wA wB wC
            refine wpList_append_own_at _ rfl _ _ 108 rfl (w.heap.size + 2) 27 i0 (.float .f64 0) 1 8 Try.underlying108 hi hz0 hz1 hz2 rfl (by decide) _ _ _ rfl ((own_mulW ho1).alloc _) ⟨_, 0, none⟩ 1 1 [.float .f64 (mulR (cvtF N) p W1)] rfl rfl ?c1 ?c2 ?c3 ?c4 ?c5 ?_
            case c1 =>
              have := cell_one_new (mulW (cvtF N) p W1) (.float .f64 (mulR (cvtF N) p W1)) 27
              rw [size_mulW] at this
              first | exact this | (rw [hz] at this; exact this)
            case c2 => exact one_one _ rfl
            case c3 => have := hl.1; unfold maxLen; omega
            case c4 => have := hl.1; omega
            case c5 => have := hB1.size; rw [World.size_alloc, size_mulW, hz]; omega
            intro v' w2 hown' hgrow _ _
            have hBg : Below w.heap.size w ((mulW (cvtF N) p W1).alloc (.cells #[.float .f64 (mulR (cvtF N) p W1)] 27)) := belA (below_mulW hb1 _ _) _
            have hBe := hBg.grown hgrow hBg.size (fun g e => by have := (ho1.lt g e).1; omega)
            have hsz : ((mulW (cvtF N) p W1).alloc (.cells #[.float .f64 (mulR (cvtF N) p W1)] 27)).heap.size = w1.heap.size + 1 := by rw [World.size_alloc, size_mulW, hz]
            replace l0 : look w2 w.heap.size = some (.cells #[.int .i64 0, .int .i64 0, .int .i64 0, .float .f64 0] 47 (0, 0)) := by
              rw [grown_look hgrow (by rw [World.size_alloc, size_mulW, hz]; omega) (fun g e => by have := (ho1.lt g e).1; omega), look_alloc_past _ _ _ (by rw [size_mulW, hz]; exact s0), look_mulW]; exact l0
            replace l1 : look w2 (w.heap.size + 1) = some (.cells #[.int .i64 ((A + 1 : Nat) : Int), .int .i64 (B2 : Int), .int .i64 (C : Int), .float .f64 0] 47 (0, 0)) := by
              rw [grown_look hgrow (by rw [World.size_alloc, size_mulW, hz]; omega) (fun g e => by have := (ho1.lt g e).1; omega), look_alloc_past _ _ _ (by rw [size_mulW, hz]; exact s1), look_mulW]; exact l1
            go_wp2
            go_roundw
            case rel => exact ⟨k + 1, l ++ [mulR (cvtF N) p W1], by omega, by go_num, by rw [hst.out]; exact hl.snoc (mulR_alike _ _ _), by rw [List.length_append, List.map_append]; exact hown', hBe, l0, by rw [hst.out]; exact l1⟩
            case measure => simp [intOf]; omega
    · obtain rfl : k = m := by omega
      have tb := (tot_bounds q L k).2.2.2
      have hll := hl.1
      go_wp2_with fail
      refine (total_sum_any _ l.length (nthF l) _ (by omega) (isF_list hown hl)).mono ?_
      rintro _ w1 ⟨rfl, hB1⟩
      have hS : sumF (nthF l) l.length = sumL (totF q L k).prices := hl.sum
      rw [hS]
      clear hS hll tb
      have hBx := belT hB hB1
      replace l0 : look w1 (w.heap.size) = some (.cells (#[.int .i64 0, .int .i64 0, .int .i64 0, .float .f64 0]) 47 (0, 0)) := by rw [look_below hB1 (by first | omega | (simp only [World.size_alloc]; omega) | exact look_lt (by assumption) | (simp only [World.size_alloc, World.size_setCell]; omega) | (simp; omega))]; first | assumption | go_simp
      replace c00 : World.cell? w1 ⟨w.heap.size, 0, none⟩ = some (.int .i64 0) := by rw [look_cell l0]; rfl
      replace c01 : World.cell? w1 ⟨w.heap.size, 1, none⟩ = some (.int .i64 0) := by rw [look_cell l0]; rfl
      replace c02 : World.cell? w1 ⟨w.heap.size, 2, none⟩ = some (.int .i64 0) := by rw [look_cell l0]; rfl
      replace c03 : World.cell? w1 ⟨w.heap.size, 3, none⟩ = some (.float .f64 0) := by rw [look_cell l0]; rfl
      replace f0 := look_frozen l0
      replace s0 := look_lt l0
      replace l1 : look w1 (w.heap.size + 1) = some (.cells (#[.int .i64 ((totF q L k).lines : Nat), .int .i64 ((totF q L k).pieces : Nat), .int .i64 ((totF q L k).free : Nat), .float .f64 0]) 47 (0, 0)) := by rw [look_below hB1 (by first | omega | (simp only [World.size_alloc]; omega) | exact look_lt (by assumption) | (simp only [World.size_alloc, World.size_setCell]; omega) | (simp; omega))]; first | assumption | go_simp
      replace c10 : World.cell? w1 ⟨w.heap.size + 1, 0, none⟩ = some (.int .i64 ((totF q L k).lines : Nat)) := by rw [look_cell l1]; rfl
      replace c11 : World.cell? w1 ⟨w.heap.size + 1, 1, none⟩ = some (.int .i64 ((totF q L k).pieces : Nat)) := by rw [look_cell l1]; rfl
      replace c12 : World.cell? w1 ⟨w.heap.size + 1, 2, none⟩ = some (.int .i64 ((totF q L k).free : Nat)) := by rw [look_cell l1]; rfl
      replace c13 : World.cell? w1 ⟨w.heap.size + 1, 3, none⟩ = some (.float .f64 0) := by rw [look_cell l1]; rfl
      replace f1 := look_frozen l1
      replace s1 := look_lt l1
      go_wp2
      exact ret_tt (g := w.heap.size) (t := 47) (fr := (0, 0)) Try.results27 rfl (by go_simp) rfl rfl ⟨rfl, belR (belS hBx (by simp) _) (Nat.le_refl _) _⟩
end Go.Proofs.Ytniphfkipjpikaa
