/- Links: what they hold, what they do, their bytes. Plain, no program. -/
import Derived.Test.YtnpofcnibgdjhaaLbFp
namespace Go.Proofs.Ytnpofcnibgdjhaa
open Go.RowKit

/-- A link: the next number, the number that is expected, and the texts that were not acknowledged. -/
structure Lk where
  nx : Nat
  ex : Nat
  q : List (List Nat)
/-- May bytes be a text? -/
def txt (b : List Nat) : Bool := decide (1 ≤ b.length ∧ b.length ≤ 1800)
theorem txt_iff (b : List Nat) : txt b = true ↔ 1 ≤ b.length ∧ b.length ≤ 1800 := by unfold txt; simp
/-- A link that may be. -/
structure okLk (l : Lk) : Prop where
  nx : 1 ≤ l.nx ∧ l.nx ≤ 1099511627777
  ex : 1 ≤ l.ex ∧ l.ex ≤ 1099511627777
  few : l.q.length < l.nx ∧ l.q.length ≤ 250
  texts : ∀ b ∈ l.q, txt b = true
  bytes : ∀ b ∈ l.q, ∀ x ∈ b, x < 256
def newL : Lk := ⟨1, 1, []⟩
theorem ok_new : okLk newL := ⟨by decide, by decide, by decide, fun b hb => (by cases hb), fun b hb => (by cases hb)⟩
def Lk.fst (l : Lk) : Nat := l.nx - l.q.length
def mayL (l : Lk) (b : List Nat) : Bool := txt b && decide (l.q.length < 250 ∧ l.nx ≤ 1099511627776)
def sendE (l : Lk) (b : List Nat) : Int := if txt b = true then (if l.q.length < 250 ∧ l.nx ≤ 1099511627776 then 0 else 5) else 3
def sendN (l : Lk) (b : List Nat) : Nat := if sendE l b = 0 then l.nx else 0
def sendL (l : Lk) (b : List Nat) : Lk := if sendE l b = 0 then ⟨l.nx + 1, l.ex, l.q ++ [b]⟩ else l
def ackE (l : Lk) (s : Nat) : Int := if l.nx ≤ s then 14 else 0
def ackN (l : Lk) (s : Nat) : Nat := if l.nx ≤ s then 0 else s + 1 - l.fst
def ackL (l : Lk) (s : Nat) : Lk := if l.nx ≤ s then l else ⟨l.nx, l.ex, l.q.drop (s + 1 - l.fst)⟩
def takeE (l : Lk) (s : Nat) : Int := if s < l.ex then 0 else if l.ex < s then 14 else if l.ex ≤ 1099511627776 then 0 else 5
def takeB (l : Lk) (s : Nat) : Bool := decide (s = l.ex ∧ l.ex ≤ 1099511627776)
def takeL (l : Lk) (s : Nat) : Lk := if takeB l s = true then ⟨l.nx, l.ex + 1, l.q⟩ else l

theorem ok_send {l : Lk} {b : List Nat} (h : okLk l) (hb : ∀ x ∈ b, x < 256) : okLk (sendL l b) := by
  unfold sendL
  split
  · rename_i he
    unfold sendE at he
    split at he
    · rename_i ht
      split at he
      · rename_i hm
        obtain ⟨h1, h2, h3, h4, h5⟩ := h
        refine ⟨by show 1 ≤ l.nx + 1 ∧ l.nx + 1 ≤ _; omega, h2, ?_, ?_, ?_⟩
        · show (l.q ++ [b]).length < l.nx + 1 ∧ (l.q ++ [b]).length ≤ 250
          rw [List.length_append, List.length_singleton]; omega
        · intro c hc
          rcases List.mem_append.1 hc with hc | hc
          · exact h4 c hc
          · rw [List.mem_singleton.1 hc]; exact ht
        · intro c hc
          rcases List.mem_append.1 hc with hc | hc
          · exact h5 c hc
          · rw [List.mem_singleton.1 hc]; exact hb
      · cases he
    · cases he
  · exact h
theorem ok_ack {l : Lk} {s : Nat} (h : okLk l) : okLk (ackL l s) := by
  unfold ackL
  split
  · exact h
  · obtain ⟨h1, h2, h3, h4, h5⟩ := h
    refine ⟨h1, h2, ?_, fun c hc => h4 c (List.mem_of_mem_drop hc), fun c hc => h5 c (List.mem_of_mem_drop hc)⟩
    show (l.q.drop _).length < l.nx ∧ (l.q.drop _).length ≤ 250
    rw [List.length_drop]; omega
theorem ok_take {l : Lk} {s : Nat} (h : okLk l) : okLk (takeL l s) := by
  unfold takeL
  split
  · rename_i ht
    unfold takeB at ht
    have := of_decide_eq_true ht
    obtain ⟨h1, h2, h3, h4, h5⟩ := h
    exact ⟨h1, by show 1 ≤ l.ex + 1 ∧ l.ex + 1 ≤ _; omega, h3, h4, h5⟩
  · exact h

/-- A text's bytes. -/
def encT (b : List Nat) : List Nat := numB b.length ++ b
theorem codeT (most : Nat) (hm : most < 18446744073709551616) : Code (decT most) encT (fun b => b.length ≤ most ∧ ∀ x ∈ b, x < 256) := by
  constructor
  · intro bs t r hb h
    unfold decT at h
    cases e : decS most bs with
    | fault k => rw [e] at h; cases h
    | ok n rest =>
      rw [e] at h
      simp only at h
      split at h
      · rename_i hle
        cases h
        obtain ⟨h1, h2⟩ := (codeS most hm).sound hb e
        have hl : (rest.take n).length = n := by rw [List.length_take]; omega
        refine ⟨⟨by rw [hl]; exact h1, fun x hx => hb x ?_⟩, ?_⟩
        · rw [h2]; exact List.mem_append_right _ (List.mem_of_mem_take hx)
        · unfold encT
          rw [hl, List.append_assoc, List.take_append_drop]
          exact h2
      · cases h
  · intro t r ⟨h, _⟩
    unfold encT decT
    rw [List.append_assoc, (codeS most hm).whole _ h]
    simp only
    rw [if_pos (by rw [List.length_append]; omega)]
    congr 1
    · simp
    · simp
theorem encT_byte {b : List Nat} (h : ∀ x ∈ b, x < 256) : ∀ x ∈ encT b, x < 256 := by
  intro x hx
  rcases List.mem_append.1 hx with hx | hx
  · exact numB_byte _ x hx
  · exact h x hx
/-- k texts more, behind those of acc. -/
def decTs (acc : List (List Nat)) : Nat → List Nat → Rd (List (List Nat))
  | 0, bs => .ok acc bs
  | k + 1, bs => match decT 1800 bs with
    | .ok t r => if txt t = true then decTs (acc ++ [t]) k r else .fault 3
    | .fault e => .fault e
theorem decTs_sound : ∀ (k : Nat) (acc : List (List Nat)) {bs : List Nat} {q : List (List Nat)} {r : List Nat}, (∀ b ∈ bs, b < 256) → decTs acc k bs = .ok q r →
    ∃ ts, q = acc ++ ts ∧ ts.length = k ∧ bs = ts.flatMap encT ++ r ∧ (∀ b ∈ ts, txt b = true) ∧ ∀ b ∈ ts, ∀ x ∈ b, x < 256
  | 0, acc, bs, q, r, hb, h => by
    unfold decTs at h
    cases h
    exact ⟨[], by simp, rfl, rfl, fun b hb => (by cases hb), fun b hb => (by cases hb)⟩
  | k + 1, acc, bs, q, r, hb, h => by
    unfold decTs at h
    cases e : decT 1800 bs with
    | fault z => rw [e] at h; cases h
    | ok t rest =>
      rw [e] at h
      simp only at h
      split at h
      · rename_i ht
        obtain ⟨⟨h1, h2⟩, h3⟩ := (codeT 1800 (by decide)).sound hb e
        have hb2 : ∀ b ∈ rest, b < 256 := fun b hx => hb b (by rw [h3]; exact List.mem_append_right _ hx)
        obtain ⟨ts, k1, k2, k3, k4, k5⟩ := decTs_sound k (acc ++ [t]) hb2 h
        refine ⟨t :: ts, by rw [k1]; simp, by rw [List.length_cons, k2], ?_, ?_, ?_⟩
        · rw [List.flatMap_cons, List.append_assoc, ← k3]; exact h3
        · intro b hm
          rcases List.mem_cons.1 hm with rfl | hm
          · exact ht
          · exact k4 b hm
        · intro b hm
          rcases List.mem_cons.1 hm with rfl | hm
          · exact h2
          · exact k5 b hm
      · cases h
theorem decTs_whole : ∀ (ts : List (List Nat)) (acc : List (List Nat)) (r : List Nat), (∀ b ∈ ts, txt b = true) → (∀ b ∈ ts, ∀ x ∈ b, x < 256) → decTs acc ts.length (ts.flatMap encT ++ r) = .ok (acc ++ ts) r
  | [], acc, r, _, _ => by simp [decTs]
  | t :: ts, acc, r, h1, h2 => by
    have ht := (txt_iff t).1 (h1 t (by simp))
    rw [List.length_cons, decTs, List.flatMap_cons, List.append_assoc, (codeT 1800 (by decide)).whole _ ⟨ht.2, h2 t (by simp)⟩]
    simp only
    rw [if_pos (h1 t (by simp)), decTs_whole ts (acc ++ [t]) r (fun b hb => h1 b (by simp [hb])) (fun b hb => h2 b (by simp [hb]))]
    simp
/-- Are a link's numbers as they may be? -/
def okN (nx ex n : Nat) : Bool := decide (1 ≤ nx ∧ nx ≤ 1099511627777 ∧ 1 ≤ ex ∧ ex ≤ 1099511627777 ∧ n < nx)
/-- The end of a link's bytes. -/
def decLkE (nx : Nat) (q : List (List Nat)) (bs : List Nat) : Rd Lk := match decN true 0 bs with
  | .ok ex r => if okN nx ex q.length = true then .ok ⟨nx, ex, q⟩ r else .fault 3
  | .fault e => .fault e
/-- What follows k texts more. -/
def decLkT (nx : Nat) (acc : List (List Nat)) (k : Nat) (bs : List Nat) : Rd Lk := match decTs acc k bs with
  | .ok q r => decLkE nx q r
  | .fault e => .fault e
def decLk (bs : List Nat) : Rd Lk := match decN true 0 bs with
  | .ok nx r1 => (match decS 250 r1 with
    | .ok k r2 => decLkT nx [] k r2
    | .fault e => .fault e)
  | .fault e => .fault e
def encLk (l : Lk) : List Nat := numB l.nx ++ numB l.q.length ++ l.q.flatMap encT ++ numB l.ex
theorem encLk_byte {l : Lk} (h : okLk l) : ∀ x ∈ encLk l, x < 256 := by
  intro x hx
  unfold encLk at hx
  simp only [List.mem_append, List.mem_flatMap] at hx
  rcases hx with ((hx | hx) | ⟨b, hb, hx⟩) | hx
  · exact numB_byte _ x hx
  · exact numB_byte _ x hx
  · exact encT_byte (h.bytes b hb) x hx
  · exact numB_byte _ x hx
theorem codeLk : Code decLk encLk okLk := by
  constructor
  · intro bs l r hb h
    unfold decLk at h
    cases e0 : decN true 0 bs with
    | fault k => rw [e0] at h; cases h
    | ok nx r1 =>
    rw [e0] at h; simp only at h
    have s0 := codeN.sound hb e0
    have b1 : ∀ b ∈ r1, b < 256 := fun b hx => hb b (by rw [s0.2]; exact List.mem_append_right _ hx)
    cases e1 : decS 250 r1 with
    | fault k => rw [e1] at h; cases h
    | ok k r2 =>
    rw [e1] at h; simp only at h
    have s1 := (codeS 250 (by decide)).sound b1 e1
    have b2 : ∀ b ∈ r2, b < 256 := fun b hx => b1 b (by rw [s1.2]; exact List.mem_append_right _ hx)
    unfold decLkT at h
    cases e2 : decTs [] k r2 with
    | fault z => rw [e2] at h; cases h
    | ok q r3 =>
    rw [e2] at h; simp only at h
    obtain ⟨ts, k1, k2, k3, k4, k5⟩ := decTs_sound k [] b2 e2
    rw [List.nil_append] at k1
    subst k1
    have b3 : ∀ b ∈ r3, b < 256 := fun b hx => b2 b (by rw [k3]; exact List.mem_append_right _ hx)
    unfold decLkE at h
    cases e3 : decN true 0 r3 with
    | fault z => rw [e3] at h; cases h
    | ok ex r4 =>
    rw [e3] at h; simp only at h
    split at h
    · rename_i ho
      cases h
      have s3 := codeN.sound b3 e3
      obtain ⟨o1, o2, o3, o4, o5⟩ := of_decide_eq_true ho
      refine ⟨⟨⟨o1, o2⟩, ⟨o3, o4⟩, ⟨o5, by show q.length ≤ 250; rw [k2]; exact s1.1⟩, k4, k5⟩, ?_⟩
      unfold encLk
      rw [s0.2, s1.2, k3, s3.2]
      show _ = numB nx ++ numB q.length ++ q.flatMap encT ++ numB ex ++ r
      rw [k2]
      simp
    · cases h
  · intro l r h
    obtain ⟨h1, h2, h3, h4, h5⟩ := h
    unfold encLk decLk
    simp only [List.append_assoc]
    rw [num_whole _ (by omega)]
    simp only
    rw [(codeS 250 (by decide)).whole _ h3.2]
    simp only
    unfold decLkT
    rw [decTs_whole _ _ _ h4 h5]
    simp only
    unfold decLkE
    rw [num_whole _ (by omega)]
    simp only [List.nil_append]
    rw [if_pos]
    unfold okN
    exact decide_eq_true ⟨h1.1, h1.2, h2.1, h2.2, h3.1⟩
theorem fal_T (bs : List Nat) : Fal (decT 1800 bs) := by
  unfold decT
  have h := fal_S 1800 bs
  cases e : decS 1800 bs with
  | fault k => intro k2 e2; cases e2; exact h k e
  | ok n r =>
    simp only
    split
    · exact fal_ok _ _
    · exact fal_8
theorem fal_Ts : ∀ (k : Nat) (acc : List (List Nat)) (bs : List Nat), Fal (decTs acc k bs)
  | 0, acc, bs => fal_ok _ _
  | k + 1, acc, bs => by
    unfold decTs
    have h := fal_T bs
    cases e : decT 1800 bs with
    | fault z => intro k2 e2; cases e2; exact h z e
    | ok t r =>
      simp only
      split
      · exact fal_Ts k _ _
      · exact fal_3
theorem fal_Lk (bs : List Nat) : Fal (decLk bs) := by
  unfold decLk
  cases e0 : decN true 0 bs with
  | fault k => exact fal_fault (fal_N bs true 0) e0
  | ok nx r1 =>
    simp only
    cases e1 : decS 250 r1 with
    | fault k => exact fal_fault (fal_S 250 r1) e1
    | ok k r2 =>
      simp only
      unfold decLkT
      cases e2 : decTs [] k r2 with
      | fault z => exact fal_fault (fal_Ts k [] r2) e2
      | ok q r3 =>
        simp only
        unfold decLkE
        cases e3 : decN true 0 r3 with
        | fault z => exact fal_fault (fal_N r3 true 0) e3
        | ok ex r4 =>
          simp only
          split
          · exact fal_ok _ _
          · exact fal_3
end Go.Proofs.Ytnpofcnibgdjhaa
