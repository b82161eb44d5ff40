/- TotalSums, TotalOne: the walks of the laws. -/
import Derived.Test.YtknhlkapeoodhaaApp
import Derived.Test.YtknhlkapeoodhaaTotR
namespace Go.Proofs.Ytknhlkapeoodhaa
open Go.RowKit Flt

/-- n words lie in block b from off on. -/
def U64s (w : World) (b off n : Nat) (L : Nat → Nat) : Prop := b < w.heap.size ∧ ∀ k, k < n → w.cell? ⟨b, off + k, none⟩ = some (.int .u64 (L k : Int)) ∧ L k < 18446744073709551616
theorem U64s.below {w W : World} {b off n : Nat} {L : Nat → Nat} (h : U64s w b off n L) (hb : Below w.heap.size w W) : U64s W b off n L :=
  ⟨Nat.lt_of_lt_of_le h.1 hb.size, fun k hk => ⟨by rw [hb.cell h.1]; exact (h.2 k hk).1, (h.2 k hk).2⟩⟩
/-- A slice of words: none, or in a block. -/
def IsU (w : World) (v : Value) (n : Nat) (L : Nat → Nat) : Prop := (∃ ad cap, v = .slice ad 0 cap ∧ n = 0) ∨ ∃ b off cap, v = .slice (some ⟨b, off, none⟩) n cap ∧ U64s w b off n L

set_option maxHeartbeats 1600000 in
theorem sums_few (ad : Option Addr) (n cap : Nat) (L : Nat → Nat) (w : World) (hn : n ≤ 300) (hU : n = 0 ∨ ∃ b off, ad = some ⟨b, off, none⟩ ∧ U64s w b off n L) :
    Calls Try.prog 9 #[.slice ad n cap] w fun e w' => e = .returned (.bool true) ∧ Below w.heap.size w w' := by
  obtain ⟨i0, hi, hz0, hz1, hz2⟩ := info_parts infoF
  go_enter Try.func9, Try.ntmps9
  go_wp2
  go_loopw [3, 4] (fun f i wr => ∃ k : Nat, k ≤ n ∧ i = .int .i64 k ∧ wr.ownsRow w.heap.size 54 1 f k (flts L k) ∧ Below w.heap.size w wr) (fun _ i _ => n - (intOf i).toNat)
  case atStart => exact ⟨0, Nat.zero_le _, rfl, World.ownsRow_nil _ _ _ _, Below.refl _ _⟩
  case round =>
    obtain ⟨k, hk, rfl, hown, hB⟩ := hrel
    by_cases hlt : k < n
    · obtain ⟨b, off, rfl, hW⟩ := hU.resolve_left (by omega)
      have hc := ((hW.below hB).2 k hlt).1
      have hsz := hB.size
      go_wp2_with (at_builtin; refine wpList_append_own_at _ rfl _ _ 62 rfl w.heap.size 54 i0 (.float .f64 0) 1 8 Try.underlying62 hi hz0 hz1 hz2 rfl (by decide) _ _ _ rfl (hown.alloc _) ⟨_, 0, none⟩ 1 1 [.float .f64 (L k)] rfl rfl ?c1 ?c2 ?c3 ?c4 ?c5 ?_)
      case c1 => exact cell_one_new _ _ _
      case c2 => exact one_one _ rfl
      case c3 => unfold maxLen; omega
      case c4 => omega
      case c5 => exact (belA hB _).size
      intro v' w1 hown' hgrow _ _
      rw [flts_succ] at hown'
      have hB1 := (belA hB _).grown hgrow (belA hB _).size (fun g e => (hown.lt g e).1)
      go_wp2
      go_roundw
      case rel => exact ⟨k + 1, by omega, by go_num, hown', hB1⟩
      case measure => simp [intOf]; omega
    · obtain rfl : k = n := by omega
      have hLs : ∀ i, i < k → L i < 18446744073709551616 := by
        rcases hU with rfl | ⟨b, off, rfl, hW⟩
        · intro i hi; omega
        · exact fun i hi => (hW.2 i hi).2
      have hF := isF_own hown hLs
      go_wp2_with fail
      refine (alive02 _).mono ?_
      rintro _ w1 ⟨rfl, hA⟩
      have hF1 := hF.below hA
      have hB1 := belT hB hA
      clear hA hB
      go_wp2_with fail
      refine (total_sum_any _ k L _ (by omega) hF1).mono ?_
      rintro _ w2 ⟨rfl, hA⟩
      have hF2 := hF1.below hA
      have hB2 := belT hB1 hA
      clear hA hB1
      go_wp2_with fail
      refine (ref_sum_any _ k L _ (by omega) hF2).mono ?_
      rintro _ w3 ⟨rfl, hA⟩
      have hB3 := belT hB2 hA
      clear hA hB2
      go_wp2_with fail
      refine (bits_any _ _ _).mono ?_
      rintro _ _ ⟨rfl, rfl⟩
      rw [decide_eq_true rfl]
      go_wp2
      go_ret
      exact ⟨rfl, hB3⟩
theorem sums_many (ad : Option Addr) (n cap : Nat) (w : World) (hn : 300 < n) (hm : n ≤ 9223372036854775807) :
    Calls Try.prog 9 #[.slice ad n cap] w fun e w' => e = .returned (.bool true) ∧ Below w.heap.size w w' := by
  go_enter Try.func9, Try.ntmps9
  go_wp2_with fail
  refine (alive02 _).mono ?_
  rintro _ w1 ⟨rfl, hA⟩
  go_wp2
  go_ret
  exact ⟨rfl, hA⟩

theorem floats_one {w : World} {n : Nat} {t : TypeId} {a : Nat} (ha : a < 18446744073709551616) (h : look w n = some (.cells #[.float .f64 a] t (0, 0))) : Floats w n 0 1 (fun _ => a) := by
  refine ⟨look_lt h, fun k hk => ?_⟩
  obtain rfl : k = 0 := by omega
  exact ⟨by rw [look_cell h]; rfl, ha⟩
/-- L, and a nought behind its first n. -/
def andZero (L : Nat → Nat) (n : Nat) : Nat → Nat := fun k => if k = n then 0 else L k
theorem andZero_flts (L : Nat → Nat) (n : Nat) : flts L n ++ [.float .f64 0] = flts (andZero L n) (n + 1) := by
  rw [← flts_succ, flts_same (L := L) (M := andZero L n) (fun i hi => by unfold andZero; rw [if_neg (by omega)])]
  unfold andZero
  rw [if_pos rfl]
theorem andZero_sum (L : Nat → Nat) (n : Nat) : sumF (andZero L n) (n + 1) = sumF L n := by
  rw [sum_with_zero (by unfold andZero; rw [if_pos rfl])]
  exact sum_same (fun i hi => by unfold andZero; rw [if_neg (by omega)])

set_option maxHeartbeats 1600000 in
theorem one_few (x : Nat) (hx : x < 18446744073709551616) (ad : Option Addr) (n cap : Nat) (L : Nat → Nat) (w : World) (hn : n ≤ 100) (hU : n = 0 ∨ ∃ b off, ad = some ⟨b, off, none⟩ ∧ U64s w b off n L) :
    Calls Try.prog 12 #[.int .u64 (x : Int), .slice ad n cap] w fun e w' => e = .returned (.bool true) ∧ Below w.heap.size w w' := by
  obtain ⟨i0, hi, hz0, hz1, hz2⟩ := info_parts infoF
  have hS := sum_one (L := fun _ => x) hx
  obtain ⟨S, hS1⟩ : ∃ S, sumF (fun _ => x) 1 = S := ⟨_, rfl⟩
  rw [hS1] at hS
  obtain ⟨g0, g2, g3⟩ : (kindF x = 0 → decide (S = 9221120237041090561) = true) ∧ (¬ kindF x = 0 → kindF x = 2 → decide (S = 0) = true) ∧ (¬ kindF x = 0 → ¬ kindF x = 2 → decide (S = x) = true) := by
    refine ⟨fun a => ?_, fun a b => ?_, fun a b => ?_⟩
    · rw [if_pos a] at hS; exact decide_eq_true hS
    · rw [if_neg a, if_pos b] at hS; exact decide_eq_true hS
    · rw [if_neg a, if_neg b] at hS; exact decide_eq_true hS
  clear hS
  go_enter Try.func12, Try.ntmps12
  go_wp2_with fail
  refine (total_sum _ 0 1 1 (fun _ => x) _ (by decide) (floats_one hx (look_alloc_at _ _ _ rfl))).mono ?_
  rintro _ w1 ⟨rfl, hA⟩
  rw [hS1]
  have hb1 := belT (belA (bel0 w) _) hA
  clear hA
  go_wp2
  go_loopw [7, 8] (fun f i wr => ∃ k : Nat, k ≤ n ∧ i = .int .i64 k ∧ wr.ownsRow w.heap.size 54 1 f k (flts L k) ∧ Below w.heap.size w wr) (fun _ i _ => n - (intOf i).toNat)
  case atStart => exact ⟨0, Nat.zero_le _, rfl, World.ownsRow_nil _ _ _ _, hb1⟩
  case round =>
    obtain ⟨k, hk, rfl, hown, hB⟩ := hrel
    by_cases hlt : k < n
    · obtain ⟨b, off, rfl, hW⟩ := hU.resolve_left (by omega)
      have hc := ((hW.below hB).2 k hlt).1
      have hsz := hB.size
      go_wp2_with (at_builtin; refine wpList_append_own_at _ rfl _ _ 62 rfl w.heap.size 54 i0 (.float .f64 0) 1 8 Try.underlying62 hi hz0 hz1 hz2 rfl (by decide) _ _ _ rfl (hown.alloc _) ⟨_, 0, none⟩ 1 1 [.float .f64 (L k)] rfl rfl ?c1 ?c2 ?c3 ?c4 ?c5 ?_)
      case c1 => exact cell_one_new _ _ _
      case c2 => exact one_one _ rfl
      case c3 => unfold maxLen; omega
      case c4 => omega
      case c5 => exact (belA hB _).size
      intro v' w1 hown' hgrow _ _
      rw [flts_succ] at hown'
      have hB1 := (belA hB _).grown hgrow (belA hB _).size (fun g e => (hown.lt g e).1)
      go_wp2
      go_roundw
      case rel => exact ⟨k + 1, by omega, by go_num, hown', hB1⟩
      case measure => simp [intOf]; omega
    · obtain rfl : k = n := by omega
      have hLs : ∀ i, i < k → L i < 18446744073709551616 := by
        rcases hU with rfl | ⟨b, off, rfl, hW⟩
        · intro i hi; omega
        · exact fun i hi => (hW.2 i hi).2
      have hF := isF_own hown hLs
      have hz : (wr.alloc (.cells #[] 54)).ownsRow wr.heap.size 54 1 (.slice (some ⟨wr.heap.size, 0, none⟩) 0 0) 0 [] := World.ownsRow_made wr #[] 0 (Nat.le_refl _) (by decide) rfl
      have hFa := hF.below (belA (bel0 wr) (.cells #[] 54))
      go_wp2_with (at_builtin; refine append_any _ rfl _ _ 62 rfl wr.heap.size 54 i0 (.float .f64 0) 1 8 Try.underlying62 hi hz0 hz1 hz2 rfl (by decide) _ _ _ rfl hz _ k (flts L k) rfl ?c1 ?c2 ?c3 ?c4 ?c5 ?c6 ?_)
      case c1 => rw [flts_len]; omega
      case c2 => exact flts_ones _ _
      case c3 => exact hFa.news
      case c4 => unfold maxLen; omega
      case c5 => omega
      case c6 => exact (belA (bel0 wr) _).size
      intro v1 w1 hown1 hgrow1
      have hBa := (belA (bel0 wr) _).grown hgrow1 (belA (bel0 wr) _).size (fun g e => (hz.lt g e).1)
      go_wp2_with (at_builtin; refine wpList_append_own_at _ rfl _ _ 62 rfl wr.heap.size 54 i0 (.float .f64 0) 1 8 Try.underlying62 hi hz0 hz1 hz2 rfl (by decide) _ _ _ rfl (hown1.alloc _) ⟨_, 0, none⟩ 1 1 [.float .f64 0] rfl rfl ?d1 ?d2 ?d3 ?d4 ?d5 ?_)
      case d1 => exact cell_one_new _ _ _
      case d2 => exact one_one _ rfl
      case d3 => unfold maxLen; omega
      case d4 => omega
      case d5 => exact (belA hBa _).size
      intro v2 w2 hown2 hgrow2 _ _
      have hBb := (belA hBa _).grown hgrow2 (belA hBa _).size (fun g e => (hown1.lt g e).1)
      rw [andZero_flts] at hown2
      have hF2 := isF_own hown2 (fun i hi => by
        unfold andZero
        split
        · omega
        · exact hLs i (by omega))
      have hF1 := hF.below hBb
      have hB1 := belT hB hBb
      clear hown2 hgrow2 hown1 hgrow1 hBa hBb hz hFa
      go_wp2_with fail
      refine (total_sum_any _ (k + 1) (andZero L k) _ (by omega) hF2).mono ?_
      rintro _ w3 ⟨rfl, hA⟩
      rw [andZero_sum]
      have hF3 := hF1.below hA
      have hB3 := belT hB1 hA
      clear hA
      go_wp2_with fail
      refine (total_sum_any _ k L _ (by omega) hF3).mono ?_
      rintro _ w4 ⟨rfl, hA⟩
      have hB4 := belT hB3 hA
      clear hA
      go_wp2_with fail
      refine (bits_any _ _ _).mono ?_
      rintro _ _ ⟨rfl, rfl⟩
      rw [decide_eq_true rfl]
      go_wp2_with fail
      refine (total_kind x hx _).mono ?_
      rintro _ _ ⟨rfl, rfl⟩
      by_cases k0 : kindF x = 0
      · rw [k0]
        go_wp2_with fail
        refine (alive02 _).mono ?_
        rintro _ w5 ⟨rfl, hA⟩
        go_wp2_with fail
        refine (bits_any _ _ _).mono ?_
        rintro _ _ ⟨rfl, rfl⟩
        rw [g0 k0]
        go_wp2
        go_ret
        exact ⟨rfl, belT hB4 hA⟩
      · by_cases k2 : kindF x = 2
        · rw [k2]
          go_wp2_with fail
          refine (alive02 _).mono ?_
          rintro _ w5 ⟨rfl, hA⟩
          go_wp2_with fail
          refine (bits_any _ _ _).mono ?_
          rintro _ _ ⟨rfl, rfl⟩
          rw [g2 k0 k2]
          go_wp2
          go_ret
          exact ⟨rfl, belT hB4 hA⟩
        · have j0 : ¬ ((kindF x : Nat) : Int) = 0 := by omega
          have j2 : ¬ ((kindF x : Nat) : Int) = 2 := by omega
          go_wp2_with fail
          refine (alive02 _).mono ?_
          rintro _ w5 ⟨rfl, hA⟩
          go_wp2_with fail
          refine (bits_any _ _ _).mono ?_
          rintro _ _ ⟨rfl, rfl⟩
          rw [g3 k0 k2]
          go_wp2
          go_ret
          exact ⟨rfl, belT hB4 hA⟩
theorem one_many (x : Nat) (ad : Option Addr) (n cap : Nat) (w : World) (hn : 100 < n) (hm : n ≤ 9223372036854775807) :
    Calls Try.prog 12 #[.int .u64 (x : Int), .slice ad n cap] w fun e w' => e = .returned (.bool true) ∧ Below w.heap.size w w' := by
  go_enter Try.func12, Try.ntmps12
  go_wp2_with fail
  refine (alive02 _).mono ?_
  rintro _ w1 ⟨rfl, hA⟩
  go_wp2
  go_ret
  exact ⟨rfl, hA⟩
end Go.Proofs.Ytknhlkapeoodhaa
