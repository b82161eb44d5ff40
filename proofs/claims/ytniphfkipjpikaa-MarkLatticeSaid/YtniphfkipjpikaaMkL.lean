/- The joins of marks make a lattice: no order, no counting; part by part. Plain: no program in sight. -/
import Derived.Test.YtniphfkipjpikaaMkP
import Derived.Test.YtniphfkipjpikaaSl
namespace Go.Proofs.Ytniphfkipjpikaa
open Go.RowKit Flt

theorem good_has {a : Mk} (h : a.good) : a.has = true ∨ a.price = 0 := ((right_iff a).1 h.1).2
theorem join_comm {a b : Mk} (ha : a.good) (hb : b.good) : a.join b = b.join a := by
  have pa := ha.2
  have pb := hb.2
  obtain ⟨F, H, p⟩ := a
  obtain ⟨G, I, q⟩ := b
  simp only at pa pb
  simp only [Mk.join, Mk.mk.injEq]
  refine ⟨by omega, Bool.or_comm _ _, ?_⟩
  cases H <;> cases I <;> simp [priceJ, joinF_comm pa pb]
theorem join_assoc {a b c : Mk} (ha : a.good) (hb : b.good) (hc : c.good) : (a.join b).join c = a.join (b.join c) := by
  have pa := ha.2
  have pb := hb.2
  have pc := hc.2
  obtain ⟨F, H, p⟩ := a
  obtain ⟨G, I, q⟩ := b
  obtain ⟨K, J, r⟩ := c
  simp only at pa pb pc
  simp only [Mk.join, Mk.mk.injEq]
  refine ⟨by omega, Bool.or_assoc _ _ _, ?_⟩
  cases H <;> cases I <;> cases J <;> simp [priceJ, joinF_assoc pa pb pc]
theorem joinF_self (p : Nat) : joinF p p = p := by unfold joinF; split <;> rfl
theorem join_self {a : Mk} (ha : a.good) : a.join a = a := by
  have h := good_has ha
  obtain ⟨F, H, p⟩ := a
  simp only at h
  simp only [Mk.join, Mk.mk.injEq]
  refine ⟨by omega, Bool.or_self _, ?_⟩
  cases H
  · simp at h; simp [priceJ, h]
  · simp [priceJ, joinF_self]
theorem join_mk0_right {a : Mk} (ha : a.good) : a.join mk0 = a := by rw [join_comm ha mk0_good, join_mk0_left ha.1]
theorem fold_then {L D : Nat → Mk} {n : Nat} (hL : ∀ i, i < n → (L i).price < 18446744073709551616) : ∀ {m : Nat}, (∀ i, i < m → (D i).price < 18446744073709551616) → foldM (thenC L n D) (n + m) = (foldM L n).join (foldM D m)
  | 0, _ => by
    have h0 : foldM D 0 = mk0 := rfl
    rw [h0, join_mk0_right (fold_good hL), Nat.add_zero]
    exact fold_same_m n (fun i hi => by unfold thenC; rw [if_pos hi])
  | m + 1, hD => by
    have ih := fold_then hL (m := m) (D := D) (fun i hi => hD i (by omega))
    have e : thenC L n D (n + m) = D m := by
      unfold thenC
      rw [if_neg (by omega)]
      congr 1
      omega
    have s1 : foldM (thenC L n D) (n + (m + 1)) = if (thenC L n D (n + m)).right = true then (foldM (thenC L n D) (n + m)).join (thenC L n D (n + m)) else foldM (thenC L n D) (n + m) := rfl
    have s2 : foldM D (m + 1) = if (D m).right = true then (foldM D m).join (D m) else foldM D m := rfl
    rw [s1, s2, e, ih]
    have g1 := fold_good hL
    have g2 := fold_good (L := D) (k := m) (fun i hi => hD i (by omega))
    by_cases hr : (D m).right = true
    · rw [if_pos hr, if_pos hr]
      exact join_assoc g1 g2 ⟨hr, hD m (by omega)⟩
    · rw [if_neg hr, if_neg hr]
/-- What may be is in the join already. -/
theorem fold_has {L : Nat → Mk} : ∀ {n i : Nat}, (∀ i, i < n → (L i).price < 18446744073709551616) → i < n → (L i).right = true → (foldM L n).join (L i) = foldM L n
  | 0, _, _, hi, _ => absurd hi (by omega)
  | n + 1, i, hL, hi, hr => by
    have g := fold_good (L := L) (k := n) (fun i hi => hL i (by omega))
    have gi : (L i).good := ⟨hr, hL i hi⟩
    have s : foldM L (n + 1) = if (L n).right = true then (foldM L n).join (L n) else foldM L n := rfl
    rw [s]
    by_cases e : i = n
    · subst e
      rw [if_pos hr, join_assoc g gi gi, join_self gi]
    · have ih := fold_has (n := n) (i := i) (fun i hi => hL i (by omega)) (by omega) hr
      by_cases hn : (L n).right = true
      · have gn : (L n).good := ⟨hn, hL n (by omega)⟩
        rw [if_pos hn, join_assoc g gn gi, join_comm gn gi, ← join_assoc g gi gn, ih]
      · rw [if_neg hn]; exact ih
/-- The elements from t on. -/
def shiftM {α : Type} (L : Nat → α) (t : Nat) : Nat → α := fun k => L (t + k)
theorem then_shift (L : Nat → Mk) (t n : Nat) (h : t ≤ n) : foldM (thenC L t (shiftM L t)) (t + (n - t)) = foldM L n := by
  have e : t + (n - t) = n := by omega
  rw [e]
  refine fold_same_m n (fun i _ => ?_)
  unfold thenC shiftM
  split
  · rfl
  · congr 1; omega
theorem fold_parts {L : Nat → Mk} {t n : Nat} (h : t ≤ n) (hL : ∀ i, i < n → (L i).price < 18446744073709551616) : (foldM L t).join (foldM (shiftM L t) (n - t)) = foldM L n := by
  rw [← fold_then (fun i hi => hL i (by omega)) (fun i hi => by unfold shiftM; exact hL _ (by omega)), then_shift L t n h]
/-- Turned round. -/
theorem fold_turn {L : Nat → Mk} {t n : Nat} (h : t ≤ n) (hL : ∀ i, i < n → (L i).price < 18446744073709551616) : foldM (thenC (shiftM L t) (n - t) L) (n - t + t) = foldM L n := by
  have h1 : ∀ i, i < n - t → (shiftM L t i).price < 18446744073709551616 := fun i hi => by unfold shiftM; exact hL _ (by omega)
  have h2 : ∀ i, i < t → (L i).price < 18446744073709551616 := fun i hi => hL i (by omega)
  rw [fold_then h1 h2, join_comm (fold_good h1) (fold_good h2), fold_parts h hL]
/-- One of them once more. -/
theorem fold_twice {L : Nat → Mk} {t n : Nat} (h : t < n) (hL : ∀ i, i < n → (L i).price < 18446744073709551616) : foldM (thenC L n (fun _ => L t)) (n + 1) = foldM L n := by
  rw [fold_then hL (fun i _ => hL t h)]
  have s : foldM (fun _ => L t) 1 = if (L t).right = true then mk0.join (L t) else mk0 := rfl
  rw [s]
  by_cases hr : (L t).right = true
  · rw [if_pos hr, join_mk0_left hr, fold_has hL h hr]
  · rw [if_neg hr, join_mk0_right (fold_good hL)]
end Go.Proofs.Ytniphfkipjpikaa
