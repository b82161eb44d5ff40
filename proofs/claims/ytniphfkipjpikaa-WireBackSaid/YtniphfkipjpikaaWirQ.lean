/- The document's bytes: numbers, whole numbers, texts, floats. -/
import Derived.Test.YtniphfkipjpikaaWirP
import Derived.Test.YtniphfkipjpikaaCod
namespace Go.Proofs.Ytniphfkipjpikaa
open Go.RowKit

/-- What a function of the document hands back: bytes of its own. -/
def Handed (w : World) (bs : List Nat) (e : Ending) (w' : World) : Prop := ∃ u, e = .returned u ∧ w'.ownsRow w.heap.size 5 1 u bs.length (bcells bs) ∧ Below w.heap.size w w'

theorem lit_one (w : World) (x : Value) (B : Nat) (hB : B ≤ w.heap.size) : (w.alloc (.cells #[x] 5)).ownsRow B 5 1 (.slice (some ⟨w.heap.size, 0, none⟩) 1 1) 1 [x] :=
  ⟨rfl, .inr ⟨w.heap.size, 1, _, rfl, hB, look_alloc_at _ _ _ rfl, Nat.le_refl _, by decide, rfl, rfl⟩⟩

set_option maxRecDepth 100000 in
set_option maxHeartbeats 3200000 in
theorem refnum_any (n : Nat) (w : World) (hn : n < 18446744073709551616) :
    Calls Try.prog 72 #[.int .u64 (n : Int)] w fun e w' => Handed w (numB n) e w' := by
  obtain ⟨i0, hi, hz0, hz1, hz2⟩ := info_parts infoB
  go_enter Try.func72, Try.ntmps72
  go_wp2
  go_loopw [0, 3] (fun x l wr => ∃ (f m : Nat) (ds : List Nat), f ≤ 9 ∧ m < 128 ^ f ∧ x = .int .u64 (m : Int) ∧ ds.length + f ≤ 10 ∧ numB n = (conts f m).reverse ++ ds ∧ wr.ownsRow w.heap.size 5 1 l ds.length (bcells ds) ∧ Below w.heap.size w wr) (fun x _ _ => (intOf x).toNat)
  case atStart =>
    refine ⟨9, n / 128, [n % 128], by omega, by rw [p9]; omega, rfl, by simp, by unfold numB; simp, lit_one _ _ _ (Nat.le_refl _), belA (bel0 _) _⟩
  case round =>
    obtain ⟨f, m, ds, hf, hm, rfl, hdl, hds, hown, hBl⟩ := hrel
    by_cases h0 : 0 < m
    · obtain ⟨f', rfl⟩ : ∃ f', f = f' + 1 := by
        cases f with
        | zero => exfalso; rw [Nat.pow_zero] at hm; omega
        | succ k => exact ⟨k, rfl⟩
      have hd : decide ((0 : Int) < (m : Int)) = true := decide_eq_true (by omega)
      have hm9 : m < 18446744073709551616 := by
        have h1 : (128 : Nat) ^ (f' + 1) ≤ 128 ^ 9 := Nat.pow_le_pow_right (by omega) hf
        rw [p9] at h1
        omega
      have hm2 : m / 128 < 128 ^ f' := by
        rw [Nat.pow_succ] at hm
        exact Nat.div_lt_of_lt_mul (by rw [Nat.mul_comm]; exact hm)
      have hdsh : Hid (numB n = (conts f' (m / 128)).reverse ++ ((m % 128 + 128) :: ds)) := hidP (by
        rw [hds, conts, if_neg (by omega), List.reverse_cons, List.append_assoc]
        rfl)
      have hmh := hidP hm2
      have hoh := hidP hown
      have hBh := hidP hBl
      have hw1 : IntKind.u64.wrap (128 + (m : Int) % 128) = (m : Int) % 128 + 128 := by rw [IntKind.wrap_u64]; omega
      have hw2 : IntKind.u8.wrap ((m : Int) % 128 + 128) = (m : Int) % 128 + 128 := by rw [IntKind.wrap_u8]; omega
      clear hds hm hm2
      go_wp2_with (at_builtin; refine stop_here ?_)
      refine hidP ?_
      refine append_at _ rfl _ _ 55 rfl w.heap.size 5 i0 (.int .u8 0) 1 1 Try.underlying55 hi hz0 hz1 hz2 rfl (by decide) _ 1 [.int .u8 ((m : Int) % 128 + 128)] rfl (lit_one _ _ _ hBl.size) _ ds.length (bcells ds) rfl ?d1 ?d2 ?d3 ?d4 ?d5 (belA hBl _).size ?_
      case d1 => rw [bcells_len, Nat.mul_one]
      case d2 => exact bcells_ones _
      case d3 => exact own_news (hown.alloc _)
      case d4 => unfold maxLen; omega
      case d5 => omega
      intro v' w1 hown' hgrow hat
      have hB1 := (belA hBh.out _).grown hgrow (belA hBh.out _).size (fun g e => by cases e; exact hBh.out.size)
      go_wp2
      go_roundw
      case rel => exact ⟨f', m / 128, (m % 128 + 128) :: ds, by omega, hmh.out, rfl, by rw [List.length_cons]; omega, hdsh.out, by rw [List.length_cons, Nat.add_comm]; exact hown', hB1⟩
      case measure => simp [intOf]; omega
    · obtain rfl : m = 0 := by omega
      rw [conts_zero, List.reverse_nil, List.nil_append] at hds
      have hdsh := hidP hds
      clear hds hm
      go_wp2
      go_ret
      unfold Handed
      rw [hdsh.out]
      exact ⟨_, rfl, hown, hBl⟩
end Go.Proofs.Ytniphfkipjpikaa
