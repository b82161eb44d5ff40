/- One '*' of floats, whatever NaN is drawn; lists of floats whose NaNs are any; their sum. -/
import Derived.Test.YtniphfkipjpikaaSl
namespace Go.Proofs.Ytniphfkipjpikaa
open Go.RowKit Flt

theorem Flt.mul_fine {x y r : Nat} (h : Ieee.double.mul x y = some r) : isN r = false ∧ r < 18446744073709551616 := by
  unfold Ieee.Format.mul at h
  cases hs : (Ieee.double.read x).product (Ieee.double.read y) with
  | none => rw [hs] at h; cases h
  | some d =>
    rw [hs] at h
    cases h
    have hd : d.isNaN = false := by
      revert hs
      cases Ieee.double.read x <;> cases Ieee.double.read y <;> intro hs <;> simp only [Ieee.Datum.product] at hs <;> first | (cases hs; done) | (cases hs; rfl) | (split at hs <;> cases hs <;> rfl)
    have := write_fine hd
    exact ⟨decide_eq_false (by omega), this.2⟩
/-- What one '*' gives in a world, and the world behind it. -/
def mulR (x y : Nat) (w : World) : Nat := match Ieee.double.mul x y with
  | some r => r
  | none => (Question.nanBits .f64 x y).cut (w.tape w.drawn (.nanBits .f64 x y))
def mulW (x y : Nat) (w : World) : World := match Ieee.double.mul x y with
  | some _ => w
  | none => w.drew
@[go_sem] theorem run_mul (P : Program) (t : TypeId) (x y : Nat) (w : World) : (binOp .mul t (.float .f64 x) (.float .f64 y)).run P w = .ok (.float .f64 (mulR x y w)) (mulW x y w) := by
  have e : FloatKind.f64.format = Ieee.double := rfl
  cases h : Ieee.double.mul x y with
  | some r => simp [binOp, Op.floatArith, e, h, mulR, mulW]
  | none =>
    simp only [binOp, Op.floatArith, e, h, mulR, mulW]
    rfl
@[go_sem] theorem look_mulW (x y : Nat) (w : World) (n : Nat) : look (mulW x y w) n = look w n := by unfold mulW; split <;> rfl
@[go_sem] theorem size_mulW (x y : Nat) (w : World) : (mulW x y w).heap.size = w.heap.size := by unfold mulW; split <;> rfl
@[go_sem] theorem cell_mulW (x y : Nat) (w : World) (a : Addr) : (mulW x y w).cell? a = w.cell? a := by unfold mulW; split <;> rfl
theorem below_mulW {w W : World} {B : Nat} (h : Below B w W) (x y : Nat) : Below B w (mulW x y W) := by unfold mulW; split <;> first | exact h | exact h.drew
theorem grown_mulW (x y : Nat) (w : World) (row : Option Nat) : w.grownBy (mulW x y w) row := by
  unfold mulW
  split
  · exact grown_refl _ _
  · exact ⟨rfl, rfl, rfl, Nat.le_refl _, fun _ _ _ => rfl⟩
theorem own_mulW {w : World} {base s n x y : Nat} {e : TypeId} {v : Value} {xs : List Value} (h : w.ownsRow base e s v n xs) : (mulW x y w).ownsRow base e s v n xs := by unfold mulW; split <;> exact h
/-- The product's bits; one NaN of all. -/
def mulF (x y : Nat) : Nat := (Ieee.double.mul x y).getD 9221120237041090561
/-- The same bits, or both a NaN. -/
def AlikeF (a b : Nat) : Prop := a < 18446744073709551616 ∧ b < 18446744073709551616 ∧ (a = b ∨ (isN a = true ∧ isN b = true))
theorem mulR_alike (x y : Nat) (w : World) : AlikeF (mulR x y w) (mulF x y) := by
  unfold mulF
  cases h : Ieee.double.mul x y with
  | some r =>
    have e : mulR x y w = r := by unfold mulR; rw [h]
    rw [e]
    have := mul_fine h
    exact ⟨this.2, this.2, .inl rfl⟩
  | none =>
    have e : mulR x y w = (w.tape w.drawn (.nanBits .f64 x y) % 2) * 2 ^ 63 + 0x7ff0000000000000 + 1 + (w.tape w.drawn (.nanBits .f64 x y) / 2) % (2 ^ 52 - 1) := by unfold mulR; rw [h]; rfl
    rw [e]
    generalize w.tape w.drawn (.nanBits .f64 x y) = t
    have h1 : t % 2 = 0 ∨ t % 2 = 1 := by omega
    have h2 : (t / 2) % (2 ^ 52 - 1) < 2 ^ 52 - 1 := Nat.mod_lt _ (by omega)
    have h3 : isN ((none : Option Nat).getD 9221120237041090561) = true := by decide
    refine ⟨?_, by decide, .inr ⟨?_, h3⟩⟩
    · rcases h1 with h1 | h1 <;> rw [h1] <;> omega
    · unfold isN rung
      refine decide_eq_true ?_
      rcases h1 with h1 | h1 <;> rw [h1] <;> omega

/-- The k-th of a list of floats. -/
def nthF (l : List Nat) (i : Nat) : Nat := l.getD i 0
def sumL (l : List Nat) : Nat := sumF (nthF l) l.length
theorem flts_list (l : List Nat) : flts (nthF l) l.length = l.map (Value.float .f64) := by
  apply List.ext_getElem?
  intro i
  unfold flts nthF
  by_cases h : i < l.length
  · simp [h]
  · simp [h]
theorem add_nan_right {x y : Nat} (h : isN y = true) : Ieee.double.add x y = none := by
  cases ha : Ieee.double.add x y with
  | none => rfl
  | some q => have := (add_fine ha).2.2.2; rw [h] at this; cases this
theorem fold_alike {L M : Nat → Nat} : ∀ (k : Nat), (∀ i, i < k → AlikeF (L i) (M i)) → foldF L k = foldF M k
  | 0, _ => rfl
  | k + 1, h => by
    simp only [foldF]
    rw [fold_alike k (fun i hi => h i (by omega))]
    cases foldF M k with
    | none => rfl
    | some s =>
      rcases (h k (by omega)).2.2 with e | ⟨e1, e2⟩
      · simp only [e]
      · simp only [add_nan_right e1, add_nan_right e2]
/-- Two lists alike, number by number. -/
def AlikeL (l m : List Nat) : Prop := l.length = m.length ∧ ∀ i, i < l.length → AlikeF (nthF l i) (nthF m i)
theorem AlikeL.nil : AlikeL [] [] := ⟨rfl, fun i hi => by simp at hi⟩
theorem nthF_left {l : List Nat} {a i : Nat} (h : i < l.length) : nthF (l ++ [a]) i = nthF l i := by
  unfold nthF
  rw [List.getD_eq_getElem?_getD, List.getD_eq_getElem?_getD, List.getElem?_append_left h]
theorem nthF_last {l : List Nat} {a i : Nat} (h : i = l.length) : nthF (l ++ [a]) i = a := by
  unfold nthF
  rw [List.getD_eq_getElem?_getD, List.getElem?_append_right (by omega), h, Nat.sub_self]
  rfl
theorem AlikeL.snoc {l m : List Nat} {a b : Nat} (h : AlikeL l m) (hab : AlikeF a b) : AlikeL (l ++ [a]) (m ++ [b]) := by
  refine ⟨by simp [h.1], fun i hi => ?_⟩
  rw [List.length_append, List.length_singleton] at hi
  by_cases e : i < l.length
  · rw [nthF_left e, nthF_left (by rw [← h.1]; exact e)]
    exact h.2 i e
  · rw [nthF_last (by omega), nthF_last (by have := h.1; omega)]
    exact hab
theorem AlikeL.sum {l m : List Nat} (h : AlikeL l m) : sumL l = sumL m := by
  unfold sumL sumF
  rw [← h.1, fold_alike l.length h.2]
theorem AlikeL.lt {l m : List Nat} (h : AlikeL l m) (i : Nat) (hi : i < l.length) : nthF l i < 18446744073709551616 := (h.2 i hi).1

/-- What the call owns, as a slice of floats. -/
theorem isF_list {w : World} {base : Nat} {v : Value} {l m : List Nat} (h : w.ownsRow base 27 1 v l.length (l.map (Value.float .f64))) (hl : AlikeL l m) : IsF w v l.length (nthF l) := by
  rw [← flts_list] at h
  exact isF_own h hl.lt
theorem ones_floats (l : List Nat) : ∀ u ∈ l.map (Value.float .f64), u.oneCell' = true := by
  intro u hu
  obtain ⟨_, _, rfl⟩ := List.mem_map.1 hu
  rfl
end Go.Proofs.Ytniphfkipjpikaa
