/- Codes: what is read was written so, and what is written is read: numbers, vectors. Plain, no program. -/
import Derived.Test.YtnpofcnibgdjhaaWirO
namespace Go.Proofs.Ytnpofcnibgdjhaa
open Go.RowKit

/-- A code: what is read was written so, and what is written is read. -/
structure Code {α : Type} (dec : List Nat → Rd α) (enc : α → List Nat) (good : α → Prop) : Prop where
  sound : ∀ {bs : List Nat} {x : α} {r : List Nat}, (∀ b ∈ bs, b < 256) → dec bs = .ok x r → good x ∧ bs = enc x ++ r
  whole : ∀ {x : α} (r : List Nat), good x → dec (enc x ++ r) = .ok x r

theorem conts_fuel : ∀ (f g m : Nat), m < 128 ^ f → m < 128 ^ g → conts f m = conts g m
  | 0, g, m, hf, _ => by
    rw [Nat.pow_zero] at hf
    obtain rfl : m = 0 := by omega
    rw [conts_zero, conts_zero]
  | f + 1, 0, m, _, hg => by
    rw [Nat.pow_zero] at hg
    obtain rfl : m = 0 := by omega
    rw [conts_zero, conts_zero]
  | f + 1, g + 1, m, hf, hg => by
    by_cases h : m = 0
    · subst h; rw [conts_zero, conts_zero]
    · rw [Nat.pow_succ] at hf hg
      rw [conts, conts, if_neg h, if_neg h, conts_fuel f g (m / 128) (Nat.div_lt_of_lt_mul (by rw [Nat.mul_comm]; exact hf)) (Nat.div_lt_of_lt_mul (by rw [Nat.mul_comm]; exact hg))]
theorem p9 : (128 : Nat) ^ 9 = 9223372036854775808 := by decide
theorem p10 : (128 : Nat) ^ 10 = 1180591620717411303424 := by decide
theorem decN_cons (fi : Bool) (m c : Nat) (t : List Nat) : decN fi m (c :: t) = if fi = true ∧ c = 128 then .fault 3 else if 144115188075855872 ≤ m then .fault 3 else if c < 128 then .ok (m * 128 + c % 128) t else decN false (m * 128 + c % 128) t := by
  rw [decN]
theorem decN_conts : ∀ (f q : Nat) (t : List Nat), q < 128 ^ f → q / 128 < 144115188075855872 → decN true 0 ((conts f q).reverse ++ t) = decN (decide (q = 0)) q t
  | 0, q, t, h, _ => by
    rw [Nat.pow_zero] at h
    obtain rfl : q = 0 := by omega
    rfl
  | f + 1, q, t, h, h2 => by
    by_cases h0 : q = 0
    · subst h0
      rw [conts_zero]
      rfl
    · rw [Nat.pow_succ] at h
      have ih := decN_conts f (q / 128) ((q % 128 + 128) :: t) (Nat.div_lt_of_lt_mul (by rw [Nat.mul_comm]; exact h)) (by omega)
      rw [conts, if_neg h0, List.reverse_cons, List.append_assoc, List.singleton_append, ih, decN_cons, decide_eq_false h0, if_neg, if_neg (by omega), if_neg (by omega)]
      · congr 1; omega
      · rintro ⟨h3, h4⟩
        have := of_decide_eq_true h3
        omega
theorem num_whole {n : Nat} (r : List Nat) (h : n < 18446744073709551616) : decN true 0 (numB n ++ r) = .ok n r := by
  unfold numB
  rw [List.reverse_cons, List.append_assoc, List.singleton_append, decN_conts 9 (n / 128) _ (by rw [p9]; omega) (by omega), decN_cons, if_neg (by omega), if_neg (by omega), if_pos (by omega)]
  congr 1; omega
theorem num_sound : ∀ (bs : List Nat) (fi : Bool) (m : Nat) {n : Nat} {r : List Nat}, (∀ b ∈ bs, b < 256) → (fi = true ↔ m = 0) → m < 18446744073709551616 → decN fi m bs = .ok n r → n < 18446744073709551616 ∧ (conts 10 m).reverse ++ bs = numB n ++ r
  | [], fi, m, n, r, _, _, _, h => by unfold decN at h; cases h
  | c :: t, fi, m, n, r, hb, hfi, hm, h => by
    rw [decN_cons] at h
    have hc := hb c (by simp)
    split at h
    · cases h
    · rename_i h1
      split at h
      · cases h
      · rename_i h2
        split at h
        · rename_i h3
          cases h
          refine ⟨by omega, ?_⟩
          unfold numB
          have e1 : (m * 128 + c % 128) % 128 = c := by omega
          have e2 : (m * 128 + c % 128) / 128 = m := by omega
          rw [e1, e2, List.reverse_cons, List.append_assoc, List.singleton_append, conts_fuel 10 9 m (by rw [p10]; omega) (by rw [p9]; omega)]
        · rename_i h3
          have hm' : m * 128 + c % 128 ≠ 0 := by
            intro e
            have e1 : m = 0 := by omega
            exact h1 ⟨hfi.2 e1, by omega⟩
          obtain ⟨k1, k2⟩ := num_sound t false (m * 128 + c % 128) (fun b hx => hb b (by simp [hx])) ⟨fun e => Bool.noConfusion e, fun e => absurd e hm'⟩ (by omega) h
          refine ⟨k1, ?_⟩
          have e1 : (m * 128 + c % 128) % 128 + 128 = c := by omega
          have e2 : (m * 128 + c % 128) / 128 = m := by omega
          rw [conts, if_neg hm', e1, e2, List.reverse_cons, List.append_assoc, List.singleton_append, conts_fuel 9 10 m (by rw [p9]; omega) (by rw [p10]; omega)] at k2
          exact k2
theorem codeN : Code (decN true 0) numB (fun n => n < 18446744073709551616) :=
  ⟨fun hb h => by
    have := num_sound _ true 0 hb ⟨fun _ => rfl, fun _ => rfl⟩ (by omega) h
    rw [conts_zero] at this
    exact this, fun r h => num_whole r h⟩
theorem codeS (most : Nat) (hm : most < 18446744073709551616) : Code (decS most) numB (fun n => n ≤ most) := by
  constructor
  · intro bs x r hb h
    unfold decS at h
    cases e : decN true 0 bs with
    | fault k => rw [e] at h; cases h
    | ok m r =>
      rw [e] at h
      simp only at h
      split at h
      · cases h
        exact ⟨by assumption, (codeN.sound hb e).2⟩
      · cases h
  · intro x r h
    unfold decS
    rw [num_whole r (by omega)]
    simp only
    rw [if_pos h]

/-- The bytes of k numbers of a vector, the first one at i. -/
def vbsF (g : Nat → Nat) : Nat → Nat → List Nat
  | _, 0 => []
  | i, k + 1 => numB (g i) ++ vbsF g (i + 1) k
theorem vbsF_last (g : Nat → Nat) : ∀ (k i : Nat), vbsF g i (k + 1) = vbsF g i k ++ numB (g (i + k))
  | 0, i => by simp [vbsF]
  | k + 1, i => by
    have e : i + 1 + k = i + (k + 1) := by omega
    rw [vbsF, vbsF_last g k (i + 1), vbsF, List.append_assoc, e]
theorem vbs_eq (g : Nat → Nat) : ∀ n, vbs g n = vbsF g 0 n
  | 0 => by simp [vbs, vbsF]
  | n + 1 => by rw [vbs_succ, vbs_eq g n, vbsF_last, Nat.zero_add]
theorem vbsF_congr (g h : Nat → Nat) : ∀ (k i : Nat), (∀ j, i ≤ j → j < i + k → g j = h j) → vbsF g i k = vbsF h i k
  | 0, _, _ => rfl
  | k + 1, i, e => by rw [vbsF, vbsF, e i (by omega) (by omega), vbsF_congr g h k (i + 1) (fun j h1 h2 => e j (by omega) (by omega))]
/-- A vector of which k numbers from i on are another one's. -/
def putV (f g : Nat → Nat) (i k : Nat) : Nat → Nat := fun j => if i ≤ j ∧ j < i + k then g j else f j
theorem decVs_whole (g : Nat → Nat) : ∀ (k i : Nat) (f : Nat → Nat) (r : List Nat), (∀ j, g j ≤ 4294967295) → decVs f i k (vbsF g i k ++ r) = .ok (putV f g i k) r
  | 0, i, f, r, _ => by
    have e : putV f g i 0 = f := by funext j; unfold putV; rw [if_neg (by omega)]
    rw [e]; rfl
  | k + 1, i, f, r, hg => by
    rw [vbsF, List.append_assoc, decVs_ok ((codeS 4294967295 (by omega)).whole _ (hg i)), decVs_whole g k (i + 1) (upd f i (g i)) r hg]
    congr 1
    funext j
    unfold putV upd
    by_cases h : j = i
    · subst h
      rw [if_neg (by omega), if_pos rfl, if_pos (by omega)]
    · rw [if_neg h]
      by_cases h2 : i ≤ j ∧ j < i + (k + 1)
      · rw [if_pos h2, if_pos (by omega)]
      · rw [if_neg h2, if_neg (by omega)]
theorem decVs_sound : ∀ (k i : Nat) (f : Nat → Nat) {bs : List Nat} {g : Nat → Nat} {r : List Nat}, (∀ b ∈ bs, b < 256) → decVs f i k bs = .ok g r → bs = vbsF g i k ++ r ∧ (∀ j, i ≤ j → j < i + k → g j ≤ 4294967295) ∧ ∀ j, ¬ (i ≤ j ∧ j < i + k) → g j = f j
  | 0, i, f, bs, g, r, _, h => by
    rw [decVs_zero] at h
    cases h
    exact ⟨rfl, fun j h1 h2 => by omega, fun j _ => rfl⟩
  | k + 1, i, f, bs, g, r, hb, h => by
    cases e : decS 4294967295 bs with
    | fault z => rw [decVs_fault e] at h; cases h
    | ok x rest =>
      rw [decVs_ok e] at h
      have hs := (codeS 4294967295 (by omega)).sound hb e
      obtain ⟨h1, h2⟩ := hs
      have hb2 : ∀ b ∈ rest, b < 256 := fun b hx => hb b (by rw [h2]; exact List.mem_append_right _ hx)
      obtain ⟨k1, k2, k3⟩ := decVs_sound k (i + 1) (upd f i x) hb2 h
      have e0 : g i = x := by
        rw [k3 i (by omega)]
        simp [upd]
      refine ⟨?_, ?_, ?_⟩
      · rw [vbsF, e0, List.append_assoc, ← k1]; exact h2
      · intro j h3 h4
        by_cases e1 : j = i
        · subst e1; rw [e0]; exact h1
        · exact k2 j (by omega) (by omega)
      · intro j h3
        rw [k3 j (by omega)]
        unfold upd
        rw [if_neg (by rintro rfl; exact h3 ⟨by omega, by omega⟩)]
theorem trimN_pos (f : Nat → Nat) : ∀ n, trimN f n = 0 ∨ 0 < f (trimN f n - 1)
  | 0 => .inl rfl
  | n + 1 => by
    rw [trimN_succ]
    split
    · exact trimN_pos f n
    · right
      rw [Nat.add_sub_cancel]
      omega
theorem trimN_behind (f : Nat → Nat) : ∀ n j, trimN f n ≤ j → j < n → f j = 0
  | 0, j, _, h => by omega
  | n + 1, j, h1, h2 => by
    rw [trimN_succ] at h1
    split at h1
    · by_cases e : j = n
      · subst e; assumption
      · exact trimN_behind f n j h1 (by omega)
    · omega
theorem trimN_is (f : Nat → Nat) : ∀ (n m : Nat), m ≤ n → (m = 0 ∨ 0 < f (m - 1)) → (∀ j, m ≤ j → j < n → f j = 0) → trimN f n = m
  | 0, m, h1, _, _ => by
    have : m = 0 := by omega
    subst this; rfl
  | n + 1, m, h1, h2, h3 => by
    rw [trimN_succ]
    by_cases e : m = n + 1
    · subst e
      rw [if_neg]
      rcases h2 with h2 | h2
      · omega
      · rw [Nat.add_sub_cancel] at h2; omega
    · rw [if_pos (h3 n (by omega) (by omega))]
      exact trimN_is f n m (by omega) h2 (fun j h4 h5 => h3 j h4 (by omega))
/-- A vector as it is read: no number behind the twelfth. -/
def vok (f : Nat → Nat) : Prop := (∀ j, f j ≤ 4294967295) ∧ ∀ j, 12 ≤ j → f j = 0
theorem codeV : Code decV vecB vok := by
  constructor
  · intro bs f r hb h
    unfold decV at h
    cases e : decS 12 bs with
    | fault k => rw [e] at h; cases h
    | ok n rest =>
      rw [e] at h
      simp only at h
      have hs := (codeS 12 (by omega)).sound hb e
      have hb2 : ∀ b ∈ rest, b < 256 := fun b hx => hb b (by rw [hs.2]; exact List.mem_append_right _ hx)
      cases e2 : decVs (fun _ => 0) 0 n rest with
      | fault k => rw [e2] at h; cases h
      | ok f2 r2 =>
        rw [e2] at h
        simp only at h
        split at h
        · rename_i hn
          cases h
          obtain ⟨h1, h2, h3⟩ := decVs_sound n 0 _ hb2 e2
          have hn12 : n ≤ 12 := hs.1
          have ht : trimN f 12 = n := trimN_is f 12 n hn12 hn (fun j h4 h5 => h3 j (by omega))
          refine ⟨⟨fun j => ?_, fun j hj => h3 j (by omega)⟩, ?_⟩
          · by_cases hj : j < n
            · exact h2 j (by omega) (by omega)
            · rw [h3 j (by omega)]; omega
          · unfold vecB
            rw [ht, vbs_eq, List.append_assoc, ← h1]
            exact hs.2
        · cases h
  · intro f r hf
    unfold vecB decV
    have ht := trimN_le f 12
    rw [List.append_assoc, (codeS 12 (by omega)).whole _ ht]
    simp only
    rw [vbs_eq, decVs_whole f _ 0 _ r hf.1]
    simp only
    have e : putV (fun _ => 0) f 0 (trimN f 12) = f := by
      funext j
      unfold putV
      by_cases hj : j < trimN f 12
      · rw [if_pos (by omega)]
      · rw [if_neg (by omega)]
        by_cases h12 : j < 12
        · rw [trimN_behind f 12 j (by omega) h12]
        · rw [hf.2 j (by omega)]
    rw [e, if_pos (trimN_pos f 12)]
end Go.Proofs.Ytnpofcnibgdjhaa
