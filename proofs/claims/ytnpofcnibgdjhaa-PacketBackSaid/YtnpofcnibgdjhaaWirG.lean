/- The reader of bytes: a small number; a whole number; a text. -/
import Derived.Test.YtnpofcnibgdjhaaWirF
namespace Go.Proofs.Ytnpofcnibgdjhaa
open Go.RowKit
variable {X : Nat → Prop}

/-- A number of at most so much. -/
def decS (most : Nat) (bs : List Nat) : Rd Nat := match decN true 0 bs with
  | .ok n rest => if n ≤ most then .ok n rest else .fault 3
  | .fault e => .fault e
/-- A whole number. -/
def decI (bs : List Nat) : Rd Int := match decN true 0 bs with
  | .ok n rest => if n % 2 = 0 then (if n / 2 ≤ 4611686018427387904 then .ok (n / 2 : Nat) rest else .fault 3) else (if n / 2 < 4611686018427387904 then .ok (-((n / 2 : Nat) : Int) - 1) rest else .fault 3)
  | .fault e => .fault e
/-- A text. -/
def decT (most : Nat) (bs : List Nat) : Rd (List Nat) := match decS most bs with
  | .ok n rest => if n ≤ rest.length then .ok (rest.take n) (rest.drop n) else .fault 8
  | .fault e => .fault e

theorem decN_low : ∀ (bs : List Nat) (fi : Bool) (m : Nat) {n : Nat} {rest : List Nat}, decN fi m bs = .ok n rest → n < 18446744073709551616 ∧ ∃ pre, bs = pre ++ rest ∧ 0 < pre.length
  | [], fi, m, n, rest, h => by unfold decN at h; cases h
  | c :: t, fi, m, n, rest, h => by
    unfold decN at h
    split at h
    · cases h
    · split at h
      · cases h
      · split at h
        · cases h
          refine ⟨by omega, [c], rfl, by simp⟩
        · obtain ⟨h1, pre, h2, h3⟩ := decN_low t _ _ h
          exact ⟨h1, c :: pre, by rw [h2]; rfl, by simp⟩
theorem decS_ok {most : Nat} {bs : List Nat} {n : Nat} {rest : List Nat} (h : decS most bs = .ok n rest) : n ≤ most ∧ n < 18446744073709551616 ∧ ∃ pre, bs = pre ++ rest ∧ 0 < pre.length := by
  unfold decS at h
  cases e : decN true 0 bs with
  | fault k => rw [e] at h; cases h
  | ok m r =>
    rw [e] at h
    simp only at h
    split at h
    · cases h
      exact ⟨by assumption, decN_low bs true 0 e⟩
    · cases h
theorem decS_len {most : Nat} {bs : List Nat} {n : Nat} {rest : List Nat} (h : decS most bs = .ok n rest) : rest.length ≤ bs.length := by
  obtain ⟨_, _, pre, rfl, _⟩ := decS_ok h
  rw [List.length_append]
  omega
theorem decS_le {most : Nat} {bs : List Nat} {n : Nat} {rest : List Nat} (h : decS most bs = .ok n rest) : n ≤ most := (decS_ok h).1
theorem and_one (n : Nat) (h : n < 18446744073709551616) : bits .and .u64 (n : Int) 1 = ((n % 2 : Nat) : Int) := by
  show IntKind.u64.wrap ((BitVec.ofInt 64 (n : Int) &&& BitVec.ofInt 64 1).toNat : Int) = _
  have e1 : (BitVec.ofInt 64 (n : Int)).toNat = n := by rw [BitVec.toNat_ofInt]; omega
  have e2 : (BitVec.ofInt 64 1).toNat = 1 := by decide
  rw [BitVec.toNat_and, e1, e2, Nat.and_one_is_mod, IntKind.wrap_u64]
  omega

theorem not_i64b (m : Nat) (hm : m < 9223372036854775808) : bits .xor .i64 (-1) (m : Int) = -(m : Int) - 1 := by
  show IntKind.i64.wrap ((BitVec.ofInt 64 (-1) ^^^ BitVec.ofInt 64 (m : Int)).toNat : Int) = _
  have h1 : BitVec.ofInt 64 (-1) = BitVec.allOnes 64 := by decide
  have h2 : (BitVec.ofInt 64 (m : Int)).toNat = m := by rw [BitVec.toNat_ofInt]; omega
  rw [h1, BitVec.allOnes_xor, BitVec.toNat_not, h2, IntKind.wrap_i64]
  omega

theorem rd_ok {α : Type} {r : Rd α} {val : α → Value} {p : Nat} {w w' : World} {x : α} {rest : List Nat} (h : r = .ok x rest) (hg : w.grownBy w' (some p)) (hr : RdAt X w' p rest) : rdPost X r val p w (.returned (val x)) w' := by
  subst h
  exact ⟨hg, rfl, hr⟩
theorem rd_fault {α : Type} {r : Rd α} {val : α → Value} {p : Nat} {w w' : World} {k : Int} (h : r = .fault k) (hg : w.grownBy w' (some p)) : rdPost X r val p w (.panicked [{ v := .iface 176 (.agg #[.int .i64 k]), recovered := false }]) w' := by
  subst h
  exact ⟨hg, rfl⟩

set_option maxRecDepth 100000 in
set_option maxHeartbeats 1600000 in
theorem small_any (p most : Nat) (bs : List Nat) (w : World) (hm : most ≤ 9223372036854775807) (hby : ∀ x ∈ bs, x < 256) (h : RdAt X w p bs) :
    Calls Try.prog 83 #[.pointer (some ⟨p, 0, none⟩), .int .i64 (most : Int)] w fun e w' => rdPost X (decS most bs) (fun x => .int .i64 (x : Int)) p w e w' := by
  go_enter Try.func83, Try.ntmps83
  go_wp2_with fail
  refine (made_any p bs _ h).mono ?_
  rintro _ _ ⟨rfl, rfl⟩
  go_wp2_with fail
  refine (rnum_any p bs _ hby h).mono ?_
  rintro e w1 ⟨hg1, hr⟩
  cases hdec : decN true 0 bs with
  | fault k =>
    rw [hdec] at hr
    have hdv : decS most bs = .fault k := by unfold decS; rw [hdec]
    cases hr
    go_wp2
    exact ⟨rfl, rd_fault hdv hg1⟩
  | ok n rest =>
    rw [hdec] at hr
    obtain ⟨rfl, hrd⟩ := hr
    have hn := (decN_low bs true 0 hdec).1
    by_cases hle : n ≤ most
    · have hdv : decS most bs = .ok n rest := by unfold decS; rw [hdec]; simp only; rw [if_pos hle]
      go_wp2_with fail
      refine (must_ok (by simp <;> omega) _).mono ?_
      rintro _ _ ⟨rfl, rfl⟩
      go_wp2
      go_ret
      first | exact rd_ok hdv hg1 hrd | exact rd_ok rfl hg1 hrd
    · have hdv : decS most bs = .fault 3 := by unfold decS; rw [hdec]; simp only; rw [if_neg hle]
      go_wp2_with fail
      refine (must_bad (by simp <;> omega) _).mono ?_
      rintro e _ ⟨hf, rfl⟩
      cases hf
      go_wp2
      exact ⟨rfl, rd_fault hdv hg1⟩

/-- What a reader's call leaves, where it hands back a row of its own. -/
def rdPostV (X : Nat → Prop) {α : Type} (r : Rd α) (V : α → Value → World → Prop) (p : Nat) (w : World) (e : Ending) (w' : World) : Prop :=
  w.grownBy w' (some p) ∧ match r with
    | .ok x rest => (∃ v, e = .returned v ∧ V x v w') ∧ RdAt X w' p rest
    | .fault k => faultC k e
/-- A slice of bytes of one's own, in a block from B on. -/
def ownB (B : Nat) (ts : List Nat) (v : Value) (w : World) : Prop := w.ownsRow B 5 1 v ts.length (bcells ts)
theorem rdAt_below {w W : World} {p : Nat} {bs : List Nat} (h : RdAt X w p bs) (hb : Below w.heap.size w W) : RdAt X W p bs := by
  obtain ⟨v, hl, hs, hX⟩ := h
  exact ⟨v, by rw [look_below hb (look_lt hl)]; exact hl, hs.below hb, hX⟩
theorem rows_bC (bs : List Nat) : rowsL (bC bs) bs.length = bcells bs := by
  apply List.ext_getElem?
  intro j
  by_cases hj : j < bs.length
  · have := rowsL_get (C := bC bs) (s := 1) (fun _ => rfl) (k := j) (j := 0) hj (by omega)
    rw [Nat.mul_one, Nat.add_zero] at this
    rw [this]
    simp [bC, bcells, hj]
  · rw [List.getElem?_eq_none (by rw [rowsL_len (s := 1) (fun _ => rfl)]; omega), List.getElem?_eq_none (by rw [bcells_len]; omega)]
theorem slice_news {w : World} {v : Value} {bs : List Nat} (h : SliceAt w v bs.length 1 (bC bs)) : (v = .slice none 0 0 ∧ bs.length = 0) ∨ ∃ ad c, v = .slice (some ad) bs.length c ∧ ∀ j u, (bcells bs)[j]? = some u → w.cell? (ad.add j) = some u := by
  have := h.news (s := 1) (by decide) (fun _ => rfl)
  rw [rows_bC] at this
  exact this
theorem below_grown {w w' : World} (h : Below w.heap.size w w') (row : Option Nat) : w.grownBy w' row := ⟨h.os, h.tape, h.output, h.size, fun k hk _ => h.block k hk⟩
theorem own_base {w : World} {base base' s n : Nat} {e : TypeId} {v : Value} {xs : List Value} (h : w.ownsRow base e s v n xs) (hb : base' ≤ base) : w.ownsRow base' e s v n xs := by
  refine ⟨h.1, ?_⟩
  rcases h.2 with h2 | ⟨g, cap, cur, h1, h2, h3⟩
  · exact .inl h2
  · exact .inr ⟨g, cap, cur, h1, Nat.le_trans hb h2, h3⟩

set_option maxRecDepth 100000 in
set_option maxHeartbeats 1600000 in
theorem rtext_any (p most : Nat) (bs : List Nat) (w : World) (hm : most ≤ 9223372036854775807) (hlen : bs.length ≤ 1000000) (hby : ∀ x ∈ bs, x < 256) (h : RdAt X w p bs) :
    Calls Try.prog 110 #[.pointer (some ⟨p, 0, none⟩), .int .i64 (most : Int)] w fun e w' => rdPostV X (decT most bs) (ownB w.heap.size) p w e w' := by
  go_enter Try.func110, Try.ntmps110
  go_wp2_with fail
  refine (made_any p bs _ h).mono ?_
  rintro _ _ ⟨rfl, rfl⟩
  go_wp2_with fail
  refine (small_any p most bs _ hm hby h).mono ?_
  rintro e w1 ⟨hg1, hr⟩
  cases hdec : decS most bs with
  | fault k =>
    rw [hdec] at hr
    have hdv : decT most bs = .fault k := by unfold decT; rw [hdec]
    cases hr
    go_wp2
    refine ⟨rfl, hg1, ?_⟩
    rw [hdv]
    rfl
  | ok n rest =>
    rw [hdec] at hr
    obtain ⟨rfl, hrd⟩ := hr
    have hrl : rest.length ≤ bs.length := decS_len hdec
    have hnm : n ≤ most := decS_le hdec
    by_cases hle : n ≤ rest.length
    · have hdv : decT most bs = .ok (rest.take n) (rest.drop n) := by unfold decT; rw [hdec]; simp only; rw [if_pos hle]
      go_wp2_with fail
      refine (take_any p n rest _ hle hrd).mono ?_
      rintro e w2 ⟨⟨u, rfl, hu⟩, hrd2, hg2⟩
      have htl : (rest.take n).length = n := by rw [List.length_take]; omega
      have hu2 : SliceAt w2 u (rest.take n).length 1 (bC (rest.take n)) := by rw [htl]; exact hu
      go_wp2_with fail
      refine (clone_any u (rest.take n).length (rest.take n) _ rfl (by omega) (slice_news hu2)).mono ?_
      rintro _ w3 ⟨v, rfl, hv, hb3⟩
      go_wp2
      go_ret
      refine ⟨grown_trans hg1 (grown_trans hg2 (below_grown hb3 _)), ?_⟩
      rw [hdv]
      refine ⟨⟨_, rfl, own_base hv ?_⟩, rdAt_below hrd2 hb3⟩
      exact Nat.le_trans hg1.size hg2.size
    · have hdv : decT most bs = .fault 8 := by unfold decT; rw [hdec]; simp only; rw [if_neg hle]
      go_wp2_with fail
      refine (take_short p n rest _ (by omega) (by omega) hrd).mono ?_
      rintro e w2 ⟨hf, rfl⟩
      cases hf
      go_wp2
      refine ⟨rfl, hg1, ?_⟩
      rw [hdv]
      rfl
end Go.Proofs.Ytnpofcnibgdjhaa
