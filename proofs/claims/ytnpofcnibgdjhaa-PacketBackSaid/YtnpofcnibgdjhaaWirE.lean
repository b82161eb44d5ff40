/- The reader of bytes: what it holds; take; must. -/
import Derived.Test.YtnpofcnibgdjhaaWirD
namespace Go.Proofs.Ytnpofcnibgdjhaa
open Go.RowKit
variable {X : Nat → Prop}

/-- The cells of the k-th byte. -/
def bC (bs : List Nat) (k : Nat) : List Value := [.int .u8 ((bs.getD k 0 : Nat) : Int)]
theorem bC_len (bs : List Nat) (k : Nat) : (bC bs k).length = 1 := rfl
/-- The block of a slice. -/
def blkOf : Value → Option Nat
  | .slice ad _ _ => ad.map (·.block)
  | _ => none
/-- A reader at p, before which the bytes bs lie, in a block that X tells of. -/
def RdAt (X : Nat → Prop) (w : World) (p : Nat) (bs : List Nat) : Prop := ∃ v, look w p = some (.cells #[v, .bool true] 166 (0, 0)) ∧ SliceAt w v bs.length 1 (bC bs) ∧ ∀ b, blkOf v = some b → X b
theorem blkOf_add {ad : Option Addr} {n m c m' c' b : Nat} (h : blkOf (.slice (ad.map fun x => x.add n) m c) = some b) : blkOf (.slice ad m' c') = some b := by
  cases ad with
  | none => cases h
  | some a =>
    have h2 : some (a.add n).block = some b := h
    rw [add_block] at h2
    exact h2
/-- What panics: a fault. -/
def faultC (e : Int) (c : Ending) : Prop := c = .panicked [{ v := .iface 176 (.agg #[.int .i64 e]), recovered := false }]

theorem SliceAt.recap {w : World} {ad : Option Addr} {n cap m s : Nat} {C : Nat → List Value} (h : SliceAt w (.slice ad n cap) n s C) (hm : m ≤ n) : SliceAt w (.slice ad m m) m s C := by
  obtain ⟨_, _, e, h2, h3, h4⟩ := h
  cases e
  refine ⟨ad, m, rfl, fun hn => by have := h2 hn; omega, by omega, ?_⟩
  rcases h4 with h4 | ⟨b, off, e, hb, hR⟩
  · exact .inl (by omega)
  · exact .inr ⟨b, off, e, hb, fun k hk => hR k (by omega)⟩
theorem SliceAt.behind {w : World} {ad : Option Addr} {n cap i : Nat} {C : Nat → List Value} (h : SliceAt w (.slice ad n cap) n 1 C) (hi : i ≤ n) (hc : ¬ cap = i) : SliceAt w (.slice (ad.map fun x => x.add i) (n - i) (cap - i)) (n - i) 1 (fromC C i) := by
  have := SliceAt.from h hi
  obtain ⟨_, _, e, _, h3, _⟩ := h
  cases e
  unfold sliced at this
  rw [if_neg hc, Nat.mul_one] at this
  exact this
theorem SliceAt.last {w : World} {ad : Option Addr} {n i s : Nat} {C D : Nat → List Value} (h : SliceAt w (.slice ad n i) n s C) (hi : i ≤ n) : SliceAt w (.slice ad (n - i) 0) (n - i) s D := by
  obtain ⟨_, _, e, h2, h3, h4⟩ := h
  cases e
  have h0 : n - i = 0 := by omega
  rw [h0]
  exact ⟨ad, 0, rfl, fun _ => ⟨rfl, rfl⟩, by omega, .inl rfl⟩
/-- What lies apart from a reader's own cells stays when these are written. -/
theorem SliceAt.aside {w : World} {v : Value} {n p i : Nat} {bs : List Nat} {a : Option Addr} {l c : Nat} {x : Bool} {t : TypeId} {u : Value} (h : SliceAt w v n 1 (bC bs)) (hl : look w p = some (.cells #[.slice a l c, .bool x] t (0, 0))) : SliceAt (w.setCell ⟨p, i, none⟩ u) v n 1 (bC bs) := by
  obtain ⟨ad, cap, e, h2, h3, h4⟩ := h
  refine ⟨ad, cap, e, h2, h3, ?_⟩
  rcases h4 with h4 | ⟨b, off, e2, hb, hR⟩
  · exact .inl h4
  · by_cases hn : n = 0
    · exact .inl hn
    · have hbp : b ≠ p := by
        rintro rfl
        have h0 := hR 0 (by omega) 0 _ rfl
        rw [look_cell hl] at h0
        generalize off + 0 * 1 + 0 = q at h0
        match q, h0 with
        | 0, h0 => cases h0
        | 1, h0 => cases h0
        | q + 2, h0 => simp at h0
      refine .inr ⟨b, off, e2, by simpa using hb, fun k hk j y hy => ?_⟩
      rw [← hR k hk j y hy]
      exact World.cell?_of_block (heap_setCell_other w ⟨p, i, none⟩ b u hbp)
theorem bC_take (bs : List Nat) (n k : Nat) (h : k < n) : bC bs k = bC (bs.take n) k := by
  unfold bC
  rw [List.getD_eq_getElem?_getD, List.getD_eq_getElem?_getD, List.getElem?_take, if_pos h]
theorem bC_drop (bs : List Nat) (n k : Nat) : fromC (bC bs) n k = bC (bs.drop n) k := by
  unfold fromC bC
  rw [List.getD_eq_getElem?_getD, List.getD_eq_getElem?_getD, List.getElem?_drop]

set_option maxRecDepth 100000 in
theorem made_any (p : Nat) (bs : List Nat) (w : World) (h : RdAt X w p bs) :
    Calls Try.prog 116 #[.pointer (some ⟨p, 0, none⟩)] w fun e w' => e = .returned (.bool true) ∧ w = w' := by
  obtain ⟨v, hl, _⟩ := h
  have hc1 : w.cell? ⟨p, 1, none⟩ = some (.bool true) := by rw [look_cell hl]; rfl
  go_enter Try.func116, Try.ntmps116
  go_wp2
  go_ret
  exact ⟨rfl, rfl⟩

theorem must_yes (w : World) : Calls Try.prog 117 #[.bool true] w fun e w' => e = .returned (.tuple #[]) ∧ w = w' := by
  go_enter Try.func117, Try.ntmps117
  go_wp2
  go_end0
  exact ⟨rfl, rfl⟩
set_option maxRecDepth 100000 in
theorem must_no (w : World) : Calls Try.prog 117 #[.bool false] w fun e w' => faultC 3 e ∧ w = w' := by
  go_enter Try.func117, Try.ntmps117
  go_wp2
  exact ⟨rfl, rfl, rfl⟩

theorem must_ok {b : Bool} (h : b = true) (w : World) : Calls Try.prog 117 #[.bool b] w fun e w' => e = .returned (.tuple #[]) ∧ w = w' := by
  subst h
  exact must_yes w
theorem must_bad {b : Bool} (h : b = false) (w : World) : Calls Try.prog 117 #[.bool b] w fun e w' => faultC 3 e ∧ w = w' := by
  subst h
  exact must_no w

set_option maxRecDepth 100000 in
set_option maxHeartbeats 1600000 in
theorem take_any (p n : Nat) (bs : List Nat) (w : World) (hn : n ≤ bs.length) (h : RdAt X w p bs) :
    Calls Try.prog 122 #[.pointer (some ⟨p, 0, none⟩), .int .i64 (n : Int)] w fun e w' => (∃ u, e = .returned u ∧ SliceAt w' u n 1 (bC (bs.take n))) ∧ RdAt X w' p (bs.drop n) ∧ w.grownBy w' (some p) := by
  obtain ⟨v, hl, hS, hX⟩ := h
  have hS2 := hS
  obtain ⟨ad, cap, rfl, hnil, hlc, hR⟩ := hS
  have hc0 : w.cell? ⟨p, 0, none⟩ = some (.slice ad bs.length cap) := by rw [look_cell hl]; rfl
  go_enter Try.func122, Try.ntmps122
  have hTk : SliceAt w (.slice ad n n) n 1 (bC (bs.take n)) := (SliceAt.recap hS2 hn).same (fun k hk => bC_take bs n k hk)
  have hdl : (bs.drop n).length = bs.length - n := List.length_drop
  have hnd : ¬ bs.length < n := by omega
  by_cases hcn : cap = n
  · subst hcn
    have hDr : SliceAt w (.slice ad (bs.length - cap) 0) (bs.drop cap).length 1 (bC (bs.drop cap)) := by rw [hdl]; exact SliceAt.last hS2 hn
    have hb0 : bs.length - cap = 0 := by omega
    rw [hb0] at hDr
    go_wp2
    go_ret
    exact ⟨⟨_, rfl, hTk.aside hl⟩, ⟨_, by rw [look_set_same hl]; rfl, hDr.aside hl, fun b hb => hX b hb⟩, grown_setCell _ _ _ _⟩
  · have hDr : SliceAt w (.slice (ad.map fun x => x.add n) (bs.length - n) (cap - n)) (bs.drop n).length 1 (bC (bs.drop n)) := by rw [hdl]; exact (SliceAt.behind hS2 hn hcn).same (fun k _ => bC_drop bs n k)
    go_wp2
    go_ret
    exact ⟨⟨_, rfl, hTk.aside hl⟩, ⟨_, by rw [look_set_same hl]; rfl, hDr.aside hl, fun b hb => hX b (blkOf_add hb)⟩, grown_setCell _ _ _ _⟩
end Go.Proofs.Ytnpofcnibgdjhaa
