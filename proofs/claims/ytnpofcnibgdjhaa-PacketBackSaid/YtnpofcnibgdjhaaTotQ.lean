/- The sum of floats: one step in the model, whatever NaN is drawn; many steps, as a plain function. -/
import Derived.Test.YtnpofcnibgdjhaaTotP
import Derived.Test.YtnpofcnibgdjhaaRow
namespace Go.Proofs.Ytnpofcnibgdjhaa
open Go.RowKit Flt

theorem Flt.word_rung (s : Bool) (k : Nat) (h : k ≤ 9218868437227405312) : rung (Ieee.double.word s k) = k ∧ Ieee.double.word s k < 18446744073709551616 := by
  unfold Ieee.Format.word rung
  rw [sw_eq]
  cases s
  · rw [if_neg (by decide)]; omega
  · rw [if_pos rfl]; omega
theorem Flt.nearest_fine (s : Bool) (m : Nat) (p : Int) : rung (Ieee.double.nearest s m p) ≤ 9218868437227405312 ∧ Ieee.double.nearest s m p < 18446744073709551616 := by
  unfold Ieee.Format.nearest
  dsimp only
  split
  · have := word_rung s 0 (by omega); omega
  · rw [inf_eq]
    generalize (_ + _ : Nat) = k
    have := word_rung s (min k 9218868437227405312) (by omega); omega
theorem Flt.write_fine {d : Ieee.Datum} (h : d.isNaN = false) : rung (Ieee.double.write d) ≤ 9218868437227405312 ∧ Ieee.double.write d < 18446744073709551616 := by
  cases d with
  | number s m p => exact nearest_fine s m p
  | infinity s =>
    have := word_rung s 9218868437227405312 (by omega)
    change rung (Ieee.double.word s Ieee.double.infRung) ≤ _ ∧ Ieee.double.word s Ieee.double.infRung < _
    rw [inf_eq]; omega
  | nan s f => cases h
theorem Flt.sum_fine {a b d : Ieee.Datum} (h : a.sum b = some d) : d.isNaN = false ∧ a.isNaN = false ∧ b.isNaN = false := by
  cases a <;> cases b <;> simp only [Ieee.Datum.sum] at h <;> first | (cases h; done) | (cases h; exact ⟨rfl, rfl, rfl⟩) | (split at h <;> cases h <;> exact ⟨rfl, rfl, rfl⟩)
theorem Flt.read_isNaN (b : Nat) : (Ieee.double.read b).isNaN = isN b := by
  by_cases h : 9218868437227405312 < rung b
  · rw [read_nan h]; exact (decide_eq_true h).symm
  · have e : isN b = false := decide_eq_false h
    rw [e]
    by_cases h1 : rung b = 9218868437227405312
    · rw [read_inf h1]; rfl
    · rw [read_number (by omega)]; rfl
theorem Flt.add_fine {x y r : Nat} (h : Ieee.double.add x y = some r) : isN r = false ∧ r < 18446744073709551616 ∧ isN x = false ∧ isN y = false := by
  unfold Ieee.Format.add at h
  cases hs : (Ieee.double.read x).sum (Ieee.double.read y) with
  | none => rw [hs] at h; cases h
  | some d =>
    rw [hs] at h
    cases h
    obtain ⟨h1, h2, h3⟩ := sum_fine hs
    have := write_fine h1
    exact ⟨decide_eq_false (by omega), this.2, by rw [← read_isNaN]; exact h2, by rw [← read_isNaN]; exact h3⟩

/-- What one '+' gives in a world, and the world behind it. -/
def addR (x y : Nat) (w : World) : Nat := match Ieee.double.add x y with
  | some r => r
  | none => (Question.nanBits .f64 x y).cut (w.tape w.drawn (.nanBits .f64 x y))
def addW (x y : Nat) (w : World) : World := match Ieee.double.add x y with
  | some _ => w
  | none => w.drew
@[go_sem] theorem run_add (P : Program) (t : TypeId) (x y : Nat) (w : World) : (binOp .add t (.float .f64 x) (.float .f64 y)).run P w = .ok (.float .f64 (addR x y w)) (addW x y w) := by
  have e : FloatKind.f64.format = Ieee.double := rfl
  cases h : Ieee.double.add x y with
  | some r => simp [binOp, Op.floatArith, e, h, addR, addW]
  | none =>
    simp only [binOp, Op.floatArith, e, h, addR, addW]
    rfl
@[go_sem] theorem look_addW (x y : Nat) (w : World) (n : Nat) : look (addW x y w) n = look w n := by unfold addW; split <;> rfl
theorem size_addW (x y : Nat) (w : World) : (addW x y w).heap.size = w.heap.size := by unfold addW; split <;> rfl
theorem below_addW {w W : World} (h : Below w.heap.size w W) (x y : Nat) : Below w.heap.size w (addW x y W) := by unfold addW; split <;> first | exact h | exact h.drew
theorem addR_some {x y r : Nat} (w : World) (h : Ieee.double.add x y = some r) : addR x y w = r := by unfold addR; rw [h]
theorem addR_none {x y : Nat} (w : World) (h : Ieee.double.add x y = none) : isN (addR x y w) = true ∧ addR x y w < 18446744073709551616 := by
  unfold addR
  rw [h]
  change isN ((w.tape w.drawn (.nanBits .f64 x y) % 2) * 2 ^ 63 + 0x7ff0000000000000 + 1 + (w.tape w.drawn (.nanBits .f64 x y) / 2) % (2 ^ 52 - 1)) = true ∧ ((w.tape w.drawn (.nanBits .f64 x y) % 2) * 2 ^ 63 + 0x7ff0000000000000 + 1 + (w.tape w.drawn (.nanBits .f64 x y) / 2) % (2 ^ 52 - 1)) < 18446744073709551616
  generalize w.tape w.drawn (.nanBits .f64 x y) = t
  have h1 : t % 2 = 0 ∨ t % 2 = 1 := by omega
  have h2 : (t / 2) % (2 ^ 52 - 1) < 2 ^ 52 - 1 := Nat.mod_lt _ (by omega)
  unfold isN rung
  refine ⟨decide_eq_true ?_, ?_⟩
  · rcases h1 with h1 | h1 <;> rw [h1] <;> omega
  · rcases h1 with h1 | h1 <;> rw [h1] <;> omega

/-- The sum of the first n of L, in order; 'none': a NaN. -/
def foldF (L : Nat → Nat) : Nat → Option Nat
  | 0 => some 0
  | k + 1 => match foldF L k with
    | some s => Ieee.double.add s (L k)
    | none => none
/-- Bits that may stand for the sum so far. -/
def Acc (L : Nat → Nat) (k s : Nat) : Prop := s < 18446744073709551616 ∧ match foldF L k with
  | some r => s = r ∧ isN s = false
  | none => isN s = true
theorem acc_zero (L : Nat → Nat) : Acc L 0 0 := ⟨by omega, rfl, by decide⟩
theorem acc_step {L : Nat → Nat} {k s : Nat} (h : Acc L k s) (w : World) : Acc L (k + 1) (addR s (L k) w) := by
  obtain ⟨h0, h⟩ := h
  unfold Acc
  cases hf : foldF L k with
  | some r =>
    rw [hf] at h
    obtain ⟨rfl, hn⟩ := h
    have e : foldF L (k + 1) = Ieee.double.add s (L k) := by simp only [foldF, hf]
    rw [e]
    cases ha : Ieee.double.add s (L k) with
    | some q =>
      rw [addR_some w ha]
      have := add_fine ha
      exact ⟨this.2.1, rfl, this.1⟩
    | none => exact ⟨(addR_none w ha).2, (addR_none w ha).1⟩
  | none =>
    rw [hf] at h
    have e : foldF L (k + 1) = none := by simp only [foldF, hf]
    rw [e]
    have ha : Ieee.double.add s (L k) = none := by
      cases ha : Ieee.double.add s (L k) with
      | none => rfl
      | some q => have := (add_fine ha).2.2.1; rw [h] at this; cases this
    exact ⟨(addR_none w ha).2, (addR_none w ha).1⟩
theorem fold_number {L : Nat → Nat} : ∀ {k r : Nat}, foldF L k = some r → ∀ i, i < k → isN (L i) = false
  | 0, _, _, i, hi => absurd hi (by omega)
  | k + 1, r, h, i, hi => by
    cases hf : foldF L k with
    | none => simp only [foldF, hf] at h; cases h
    | some s =>
      simp only [foldF, hf] at h
      by_cases e : i = k
      · subst e; exact (add_fine h).2.2.2
      · exact fold_number hf i (by omega)
/-- THE SUM's BITS: one NaN of all. -/
def sumF (L : Nat → Nat) (n : Nat) : Nat := (foldF L n).getD 9221120237041090561
theorem kind_nan (b : Nat) : (kindF b = 0) ↔ isN b = true := by
  unfold kindF isN
  by_cases h : 9218868437227405312 < rung b
  · simp [h]
  · rw [if_neg h]
    simp only [h, decide_false]
    split
    · simp
    · split <;> simp
end Go.Proofs.Ytnpofcnibgdjhaa
