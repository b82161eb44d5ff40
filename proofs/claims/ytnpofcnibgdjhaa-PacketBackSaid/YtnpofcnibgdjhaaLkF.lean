/- Links: the texts that were not acknowledged; a link's bytes. -/
import Derived.Test.YtnpofcnibgdjhaaLkE
namespace Go.Proofs.Ytnpofcnibgdjhaa
open Go.RowKit

theorem infoI : (Try.prog.info? 48).map (fun i => (i.zero, i.size, i.bytes)) = some (some (.agg #[.int .u64 0, .slice none 0 0]), 2, 32) := by kernel_rfl
/-- The cells of the k-th item. -/
def itC (f : Nat) (us : Nat → Value) (k : Nat) : List Value := [.int .u64 ((f + k : Nat) : Int), us k]
/-- Items: the texts q, of which the first one has the number f; all in blocks that S tells of. -/
def Items (S : Nat → Prop) (w : World) (v : Value) (f : Nat) (q : List (List Nat)) : Prop := ∃ us : Nat → Value, SliceAt w v q.length 2 (itC f us) ∧ (∀ b, blkOf v = some b → S b) ∧ ∀ k, k < q.length → TextIn S w (us k) (q.getD k [])
theorem Items.kept {S : Nat → Prop} {w W : World} {v : Value} {f : Nat} {q : List (List Nat)} (h : Items S w v f q) (hs : w.heap.size ≤ W.heap.size) (hk : ∀ b, S b → W.heap[b]? = w.heap[b]?) : Items S W v f q := by
  obtain ⟨us, h1, h2, h3⟩ := h
  exact ⟨us, h1.kept hs fun b hb => hk b (h2 b hb), h2, fun k hk2 => (h3 k hk2).kept hs hk (fun _ x => x)⟩
theorem blk_own {w : World} {B s n : Nat} {t : TypeId} {y : Value} {xs : List Value} (hy : w.ownsRow B t s y n xs) : ∀ b, blkOf y = some b → B ≤ b ∧ b < w.heap.size := by
  intro b e
  rcases hy.2 with ⟨rfl, _⟩ | ⟨g, cap, cur, rfl, hbg, hg, _⟩
  · cases e
  · cases e
    exact ⟨hbg, look_lt (w := w) hg⟩
/-- What is owned stays when a row of another type grows. -/
theorem own_other {w w' : World} {B C s n s2 m : Nat} {e t : TypeId} {x y : Value} {xs ys : List Value} (h : w.ownsRow B e s x n xs) (hy : w.ownsRow C t s2 y m ys) (hne : t ≠ e) (hg : w.grownBy w' y.ownBlock) : w'.ownsRow B e s x n xs := by
  refine h.kept hg ?_
  cases ho : x.ownBlock with
  | none => exact .inl rfl
  | some k =>
    right
    intro e1
    rcases h.2 with ⟨rfl, _⟩ | ⟨g, cap, cur, rfl, _, hl, _⟩
    · cases ho
    · cases ho
      rcases hy.2 with ⟨rfl, _⟩ | ⟨g2, cap2, cur2, rfl, _, hl2, _⟩
      · cases e1
      · cases e1
        have h9 := hl.symm.trans hl2
        cases h9
        exact hne rfl

set_option maxRecDepth 100000 in
set_option maxHeartbeats 3200000 in
theorem lqueue_any (p : Nat) (l : Lk) (S : Nat → Prop) (w : World) (hx : l.nx < 18446744073709551616) (hn : 0 < l.nx) (hq : l.q.length ≤ l.nx) (hq2 : l.q.length ≤ 1000) (htx : ∀ b ∈ l.q, b.length ≤ 1000000) (h : LinkAt S w p l) :
    Calls Try.prog 21 #[.pointer (some ⟨p, 0, none⟩)] w fun e w' => ∃ v, e = .returned v ∧ Items (fun b => w.heap.size ≤ b ∧ b < w'.heap.size) w' v l.fst l.q ∧ Below w.heap.size w w' := by
  obtain ⟨i0, hi, hz0, hz1, hz2⟩ := info_parts infoI
  obtain ⟨v, us, hl, h2, h3, h4, h5⟩ := h
  obtain ⟨qa, qc, rfl⟩ := row_one h2
  have hp := look_lt hl
  have hc1 : w.cell? ⟨p, 1, none⟩ = some (.slice qa l.q.length qc) := by rw [look_cell hl]; rfl
  have hmd : decide (0 < l.nx) = true := decide_eq_true hn
  have hbig : l.q.length ≤ 9223372036854775807 := by omega
  go_enter Try.func21, Try.ntmps21
  go_wp2_with fail
  refine (lmade_any p l.nx _ _ _ hl).mono ?_
  rintro _ _ ⟨rfl, rfl⟩
  rw [hmd]
  go_wp2_with fail
  go_loopw [3, 13] (fun o i wr => ∃ (k : Nat) (vs : Nat → Value), k ≤ l.q.length ∧ i = .int .i64 (k : Int) ∧ wr.ownsRow w.heap.size 48 2 o k (rowsL (itC l.fst vs) k) ∧ (∀ j, j < k → ownB w.heap.size (l.q.getD j []) (vs j) wr) ∧ Below w.heap.size w wr) (fun _ i _ => l.q.length - (intOf i).toNat)
  case atStart => exact ⟨0, fun _ => .slice none 0 0, by omega, rfl, World.ownsRow_nil _ _ _ _, fun j hj => absurd hj (by omega), bel0 _⟩
  case round =>
    obtain ⟨k, vs, hk, rfl, ho, hT, hB⟩ := hrel
    by_cases hlt : k < l.q.length
    · obtain ⟨b, off, rfl, hbw, hR⟩ : ∃ b off, qa = some ⟨b, off, none⟩ ∧ b < w.heap.size ∧ ∀ j, j < l.q.length → w.rangeAt b (off + j * 1) [us j] := by
        obtain ⟨_, _, e, _, _, hh⟩ := h2
        cases e
        exact hh.resolve_left (by omega)
      obtain ⟨hT0, hT1⟩ := h4 k hlt
      obtain ⟨bk, hbk⟩ : ∃ bk, Hid (bk = l.q.getD k []) := ⟨_, hidP rfl⟩
      obtain ⟨fk, hfk⟩ : ∃ fk, Hid (fk = l.fst + k) := ⟨_, hidP rfl⟩
      rw [← hbk.out] at hT0
      obtain ⟨xa, xc, hxe⟩ := row_one hT0
      rw [hxe] at hT0
      have hck : wr.cell? ⟨b, off + k, none⟩ = some (.slice xa bk.length xc) := by
        rw [hB.cell hbw, ← hxe]
        have := hR k hlt 0 _ rfl
        rwa [Nat.mul_one, Nat.add_zero] at this
      have hlr : look wr p = some (.cells #[.int .u64 (l.nx : Int), .slice (some ⟨b, off, none⟩) l.q.length qc, .int .u64 (l.ex : Int)] 51 (0, 0)) := by rw [look_below hB hp]; exact hl
      have hmem : bk.length ≤ 1000000 := by
        rw [hbk.out, List.getD_eq_getElem?_getD, List.getElem?_eq_getElem hlt]
        exact htx _ (List.getElem_mem hlt)
      have hwk : IntKind.u64.wrap (k : Int) = (k : Int) := IntWalk.u64_in _ (by omega)
      have hwf : IntKind.u64.wrap (((l.nx - l.q.length : Nat) : Int) + (k : Int)) = (fk : Int) := by rw [hfk.out]; unfold Lk.fst; rw [IntWalk.u64_in _ (by omega)]; omega
      go_wp2_with fail
      refine (lfirst_any p l.nx l.q.length _ _ _ _ hlr hq hx).mono ?_
      rintro _ w1 ⟨rfl, hb1⟩
      have hB1 := belT hB hb1
      have ho1 := own_below ho hb1
      have hS1 : SliceAt w1 (.slice xa bk.length xc) bk.length 1 (bC bk) := hT0.below hB1
      go_wp2_with fail
      refine (clone_in w.heap.size _ bk _ hB1.size hmem hS1).mono ?_
      rintro _ w2 ⟨u, rfl, hu, hb2⟩
      have hB2 := belT hB1 hb2
      have ho2 := own_below ho1 hb2
      obtain ⟨ua, un, uc, hue⟩ := own_is hu
      subst hue
      have hw3 := belA (bel0 w2) (.cells #[.int .u64 (fk : Int), .slice ua un uc] 48)
      have hB3 := belT hB2 hw3
      have ho3 := own_below ho2 hw3
      have hu3 : ownB w.heap.size bk (.slice ua un uc) (w2.alloc (.cells #[.int .u64 (fk : Int), .slice ua un uc] 48)) := own_below hu hw3
      have hT3 : ∀ j, j < k → ownB w.heap.size (l.q.getD j []) (vs j) (w2.alloc (.cells #[.int .u64 (fk : Int), .slice ua un uc] 48)) := fun j hj => own_below (own_below (own_below (hT j hj) hb1) hb2) hw3
      have l3 : look (w2.alloc (.cells #[.int .u64 (fk : Int), .slice ua un uc] 48)) w2.heap.size = some (.cells #[.int .u64 (fk : Int), .slice ua un uc] 48 (0, 0)) := look_alloc_at _ _ _ rfl
      go_wp2_with (at_builtin; refine stop_here ?_)
      refine hidP ?_
      refine append_any _ rfl _ _ 42 rfl w.heap.size 48 i0 (.agg #[.int .u64 0, .slice none 0 0]) 2 32 Try.underlying42 hi hz0 hz1 hz2 rfl (by decide) _ k _ rfl ho3 (.slice (some ⟨w2.heap.size, 0, none⟩) 1 1) 1 [.int .u64 (fk : Int), .slice ua un uc] rfl rfl ?c1 ?c2 (by unfold maxLen; omega) (by omega) hB3.size ?_
      case c1 =>
        intro y hy
        simp only [List.mem_cons, List.not_mem_nil, or_false] at hy
        rcases hy with rfl | rfl <;> rfl
      case c2 =>
        refine .inr ⟨_, _, rfl, fun j y hy => ?_⟩
        rw [Addr.add_lit, look_cell l3, Nat.zero_add, ← hy]
        match j with
        | 0 => rfl
        | 1 => rfl
        | j + 2 => rfl
      intro v4 w4 ho4 hg4
      have hown3 : ∀ k2, (Value.ownBlock _) = some k2 → w.heap.size ≤ k2 := fun k2 e => (ho3.lt k2 e).1
      have hB4 : Below w.heap.size w w4 := hB3.grown hg4 hB3.size hown3
      have hu4 : ownB w.heap.size bk (.slice ua un uc) w4 := own_other hu3 ho3 (by decide) hg4
      have hT4 : ∀ j, j < k → ownB w.heap.size (l.q.getD j []) (vs j) w4 := fun j hj => own_other (hT3 j hj) ho3 (by decide) hg4
      have er : rowsL (itC l.fst vs) k ++ [.int .u64 (fk : Int), .slice ua un uc] = rowsL (itC l.fst (fun j => if j = k then .slice ua un uc else vs j)) (k + 1) := by
        rw [← rowsL_succ]
        congr 1
        · exact rowsL_same fun j hj => by
            have e1 : j ≠ k := Nat.ne_of_lt hj
            simp [itC, e1]
        · show [Value.int .u64 (fk : Int), .slice ua un uc] = [Value.int .u64 ((l.fst + k : Nat) : Int), if k = k then .slice ua un uc else vs k]
          rw [if_pos rfl, hfk.out]
      rw [er] at ho4
      have hT5 : ∀ j, j < k + 1 → ownB w.heap.size (l.q.getD j []) (if j = k then .slice ua un uc else vs j) w4 := fun j hj => by
        by_cases e : j = k
        · rw [if_pos e, e, ← hbk.out]; exact hu4
        · rw [if_neg e]; exact hT4 j (by omega)
      clear hown3 hT3 hu3 l3 er hT4 hu4 ho3 hT
      go_wp2
      go_roundw
      case rel => exact ⟨k + 1, _, by omega, by go_num, ho4, hT5, hB4⟩
      case measure => simp [intOf]; omega
    · obtain rfl : k = l.q.length := by omega
      go_wp2
      go_ret
      refine ⟨_, rfl, ⟨vs, SliceAt.own (fun _ => rfl) ho, fun b e => blk_own ho b e, fun j hj => ⟨own_slice (hT j hj), fun b e => blk_own (hT j hj) b e⟩⟩, hB⟩
end Go.Proofs.Ytnpofcnibgdjhaa
