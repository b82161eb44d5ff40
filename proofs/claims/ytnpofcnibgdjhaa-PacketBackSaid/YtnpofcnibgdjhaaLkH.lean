/- Links: read from bytes. -/
import Derived.Test.YtnpofcnibgdjhaaLkG
namespace Go.Proofs.Ytnpofcnibgdjhaa
open Go.RowKit
variable {X : Nat → Prop}

theorem RdAt.weaken {X Y : Nat → Prop} {w : World} {p : Nat} {bs : List Nat} (h : RdAt X w p bs) (hXY : ∀ b, X b → Y b) : RdAt Y w p bs := by
  obtain ⟨v, h1, h2, h3⟩ := h
  exact ⟨v, h1, h2, fun b hb => hXY b (h3 b hb)⟩
/-- A reader's own block. -/
theorem RdAt.own {X : Nat → Prop} {w : World} {p : Nat} {bs : List Nat} (h : RdAt X w p bs) : ∃ B : Option Nat, RdAt (fun b => X b ∧ some b = B) w p bs ∧ (0 < bs.length → ∀ b, B = some b → b < w.heap.size) := by
  obtain ⟨v, h1, h2, h3⟩ := h
  refine ⟨blkOf v, ⟨v, h1, h2, fun b hb => ⟨h3 b hb, hb.symm⟩⟩, fun hl b hb => ?_⟩
  obtain ⟨ad, cap, rfl, _, _, h4⟩ := h2
  rcases h4 with h4 | ⟨b', off, rfl, hb', _⟩
  · omega
  · cases hb
    exact hb'
theorem rd_lt {X : Nat → Prop} {w : World} {p : Nat} {bs : List Nat} (h : RdAt X w p bs) : p < w.heap.size := by
  obtain ⟨v, h1, _⟩ := h
  exact look_lt h1
/-- A reader has what it had, when a row grows that lies elsewhere. -/
theorem rd_grown {X : Nat → Prop} {w w' : World} {p : Nat} {row : Option Nat} {bs : List Nat} (h : RdAt X w p bs) (hg : w.grownBy w' row) (hr : ∀ g, row = some g → g ≠ p ∧ (0 < bs.length → ∀ b, X b → b ≠ g)) : RdAt X w' p bs := by
  obtain ⟨v, h1, ⟨ad, cap, rfl, h2, h3, h4⟩, h5⟩ := h
  refine ⟨_, by rw [grown_look hg (look_lt h1) (fun g e => Ne.symm (hr g e).1)]; exact h1, ⟨ad, cap, rfl, h2, h3, ?_⟩, h5⟩
  rcases h4 with h4 | ⟨b, off, rfl, hb, hR⟩
  · exact .inl h4
  · by_cases h0 : bs.length = 0
    · exact .inl h0
    · refine .inr ⟨b, off, rfl, Nat.lt_of_lt_of_le hb hg.size, fun k hk j u hu => ?_⟩
      rw [← hR k hk j u hu]
      exact World.cell?_of_block (hg.block b hb (fun e => (hr b e.symm).2 (by omega) b (h5 b rfl) rfl))
/-- What a link's reader hands back. -/
def lkV (B : Nat) (l : Lk) (v : Value) (w : World) : Prop := ∃ (q : Nat) (S : Nat → Prop), v = .pointer (some ⟨q, 0, none⟩) ∧ B ≤ q ∧ (∀ b, S b → B ≤ b) ∧ LinkAt S w q l
theorem rdV_ok {α : Type} {r : Rd α} {V : α → Value → World → Prop} {p : Nat} {w w' : World} {x : α} {rest : List Nat} {v : Value} (h : r = .ok x rest) (hg : w.grownBy w' (some p)) (hV : V x v w') (hr : RdAt X w' p rest) : rdPostV X r V p w (.returned v) w' := by
  subst h
  exact ⟨hg, ⟨v, rfl, hV⟩, hr⟩
theorem rdV_fault {α : Type} {r : Rd α} {V : α → Value → World → Prop} {p : Nat} {w w' : World} {k : Int} (h : r = .fault k) (hg : w.grownBy w' (some p)) : rdPostV X r V p w (.panicked [{ v := .iface 176 (.agg #[.int .i64 k]), recovered := false }]) w' := by
  subst h
  exact ⟨hg, rfl⟩
/-- The link under way: its row, and its texts. -/
structure Way (B : Nat) (q nx : Nat) (acc : List (List Nat)) (w : World) : Prop where
  it : ∃ (v : Value) (us : Nat → Value), look w q = some (.cells #[.int .u64 (nx : Int), v, .int .u64 0] 51 (0, 0)) ∧ w.ownsRow B 30 1 v acc.length (rowsL (fun j => [us j]) acc.length) ∧ ∀ j, j < acc.length → ownB B (acc.getD j []) (us j) w
theorem Way.grown {B q nx p : Nat} {acc : List (List Nat)} {w w' : World} (h : Way B q nx acc w) (hg : w.grownBy w' (some p)) (hp : p < B) (hq : q ≠ p) : Way B q nx acc w' := by
  obtain ⟨v, us, h1, h2, h3⟩ := h.it
  have hk : ∀ {s n : Nat} {t : TypeId} {y : Value} {xs : List Value}, w.ownsRow B t s y n xs → w'.ownsRow B t s y n xs := fun hy => hy.kept hg (by
    cases ho : Value.ownBlock _ with
    | none => exact .inl rfl
    | some k =>
      right
      intro e
      cases e
      have := (hy.lt p ho).1
      omega)
  exact ⟨v, us, by rw [grown_look hg (look_lt h1) (by intro g e; cases e; exact hq)]; exact h1, hk h2, fun j hj => hk (h3 j hj)⟩
theorem Way.below {B q nx : Nat} {acc : List (List Nat)} {w w' : World} (h : Way B q nx acc w) (hb : Below w.heap.size w w') : Way B q nx acc w' := by
  obtain ⟨v, us, h1, h2, h3⟩ := h.it
  exact ⟨v, us, by rw [look_below hb (look_lt h1)]; exact h1, own_below h2 hb, fun j hj => own_below (h3 j hj) hb⟩
/-- A text more. -/
theorem Way.more {B q nx : Nat} {acc : List (List Nat)} {w w' : World} {v u y : Value} {us : Nat → Value} {t : List Nat}
    (h1 : look w q = some (.cells #[.int .u64 (nx : Int), v, .int .u64 0] 51 (0, 0))) (h2 : w.ownsRow B 30 1 v acc.length (rowsL (fun j => [us j]) acc.length)) (h3 : ∀ j, j < acc.length → ownB B (acc.getD j []) (us j) w) (hu : ownB B t u w)
    (hy : w'.ownsRow B 30 1 y (acc.length + 1) (rowsL (fun j => [us j]) acc.length ++ [u])) (hg : w.grownBy w' v.ownBlock) : Way B q nx (acc ++ [t]) (w'.setCell ⟨q, 1, none⟩ y) := by
  have hq : ∀ g, v.ownBlock = some g → q ≠ g := own_not h2 h1 (by decide)
  have l1 : look w' q = some (.cells #[.int .u64 (nx : Int), v, .int .u64 0] 51 (0, 0)) := by rw [grown_look hg (look_lt h1) hq]; exact h1
  have hlen : (acc ++ [t]).length = acc.length + 1 := by rw [List.length_append]; rfl
  have er : rowsL (fun j => [us j]) acc.length ++ [u] = rowsL (fun j => [if j = acc.length then u else us j]) (acc.length + 1) := by
    rw [← rowsL_succ]
    congr 1
    · exact rowsL_same fun j hj => by
        have e1 : j ≠ acc.length := Nat.ne_of_lt hj
        simp [e1]
    · simp
  rw [er] at hy
  refine ⟨y, fun j => if j = acc.length then u else us j, by rw [look_set_same l1]; rfl, ?_, fun j hj => ?_⟩
  · rw [hlen]
    exact own_setCell_apart hy l1 (by decide)
  · rw [hlen] at hj
    show World.ownsRow _ _ _ _ (if j = acc.length then u else us j) _ _
    rw [getD_snoc]
    by_cases e : j < acc.length
    · have e1 : j ≠ acc.length := Nat.ne_of_lt e
      rw [if_pos e, if_neg e1]
      exact own_setCell_apart (own_other (h3 j e) h2 (by decide) hg) l1 (by decide)
    · have e1 : j = acc.length := by omega
      rw [if_neg e, if_pos e1, if_pos e1]
      exact own_setCell_apart (own_other hu h2 (by decide) hg) l1 (by decide)
/-- The end: all numbers are there. -/
theorem Way.link {B q nx ex : Nat} {acc : List (List Nat)} {w : World} (h : Way B q nx acc w) (hq : q < B) (C : Nat) (hC : C ≤ q) (hCB : C ≤ B) : lkV C ⟨nx, ex, acc⟩ (.pointer (some ⟨q, 0, none⟩)) (w.setCell ⟨q, 2, none⟩ (.int .u64 (ex : Int))) := by
  obtain ⟨v, us, h1, h2, h3⟩ := h.it
  have hgr := grown_setCell w q 2 (.int .u64 (ex : Int))
  have hk : ∀ b, B ≤ b ∧ b < w.heap.size → (w.setCell ⟨q, 2, none⟩ (.int .u64 (ex : Int))).heap[b]? = w.heap[b]? := fun b hb => hgr.block b hb.2 (fun e => by cases e; omega)
  have hsl := SliceAt.own (C := fun j => [us j]) (s := 1) (fun _ => rfl) h2
  refine ⟨q, fun b => B ≤ b ∧ b < w.heap.size, rfl, hC, fun b hb => Nat.le_trans hCB hb.1, ⟨v, us, by rw [look_set_same h1]; rfl, hsl.kept hgr.size fun b e => hk b (blk_own h2 b e), fun b e => blk_own h2 b e, fun j hj => ⟨(own_slice (h3 j hj)).kept hgr.size fun b e => hk b (blk_own (h3 j hj) b e), fun b e => blk_own (h3 j hj) b e⟩, fun b hb => ⟨Nat.lt_of_lt_of_le hb.2 hgr.size, by omega⟩⟩⟩

set_option maxRecDepth 100000 in
set_option maxHeartbeats 12800000 in
theorem lkget_any (p : Nat) (bs : List Nat) (w : World) (hlen : bs.length ≤ 1000000) (hby : ∀ x ∈ bs, x < 256) (h : RdAt X w p bs) :
    Calls Try.prog 76 #[.pointer (some ⟨p, 0, none⟩)] w fun e w' => rdPostV X (decLk bs) (lkV w.heap.size) p w e w' := by
  obtain ⟨i0, hi, hz0, hz1, hz2⟩ := info_parts infoT
  have hpw : p < w.heap.size := rd_lt h
  go_enter Try.func76, Try.ntmps76
  go_wp2_with fail
  refine (rnum_any p bs _ hby h).mono ?_
  rintro e w1 ⟨hg1, hr⟩
  cases hd1 : decN true 0 bs with
  | fault k =>
    rw [hd1] at hr
    have hdv : decLk bs = .fault k := by unfold decLk; rw [hd1]
    cases hr
    go_wp2
    exact ⟨rfl, rdV_fault hdv hg1⟩
  | ok nx r1 =>
  rw [hd1] at hr
  obtain ⟨rfl, hrd1⟩ := hr
  have hb1 : ∀ x ∈ r1, x < 256 := codeN.rest hby hd1
  have hs1 := hg1.size
  have hrl1 : r1.length ≤ bs.length := by
    obtain ⟨_, pre, e, _⟩ := decN_low bs true 0 hd1
    rw [e, List.length_append]; omega
  have hnx := (decN_low bs true 0 hd1).1
  have hbA := belA (bel0 w1) (.cells #[.int .u64 (nx : Int), .slice none 0 0, .int .u64 0] 51)
  have hrd1a := rdAt_below hrd1 hbA
  have hg1a := grown_trans hg1 (below_grown hbA (some p))
  have lq : look (w1.alloc (.cells #[.int .u64 (nx : Int), .slice none 0 0, .int .u64 0] 51)) w1.heap.size = some (.cells #[.int .u64 (nx : Int), .slice none 0 0, .int .u64 0] 51 (0, 0)) := look_alloc_at _ _ _ rfl
  go_wp2_with fail
  refine (small_any p 250 r1 _ (by decide) hb1 hrd1a).mono ?_
  rintro e w2 ⟨hg2, hr⟩
  have hg2a := grown_trans hg1a hg2
  cases hd2 : decS 250 r1 with
  | fault k =>
    rw [hd2] at hr
    have hdv : decLk bs = .fault k := by unfold decLk; rw [hd1]; simp only; rw [hd2]
    cases hr
    go_wp2
    exact ⟨rfl, rdV_fault hdv hg2a⟩
  | ok n r2 =>
  rw [hd2] at hr
  obtain ⟨rfl, hrd2⟩ := hr
  have hb2 : ∀ x ∈ r2, x < 256 := (codeS 250 (by decide)).rest hb1 hd2
  have hn250 : n ≤ 250 := decS_le hd2
  have hrl2 : r2.length ≤ 1000000 := by have := decS_len hd2; omega
  have hdv : decLk bs = decLkT nx [] n r2 := by unfold decLk; rw [hd1]; simp only; rw [hd2]
  have hdh := hidP hdv
  clear hdv hd1 hd2 hrl1
  obtain ⟨q, hq⟩ : ∃ q, q = w1.heap.size := ⟨_, rfl⟩
  have hs1q : w1.heap.size ≤ q := by omega
  rw [← hq] at lq ⊢
  have hqp : q ≠ p := by omega
  have hwq : w.heap.size ≤ q := by omega
  clear hq
  have lq2 : look w2 q = some (.cells #[.int .u64 (nx : Int), .slice none 0 0, .int .u64 0] 51 (0, 0)) := by rw [grown_look hg2 (look_lt lq) (by intro g e; cases e; exact hqp)]; exact lq
  have hq2 := look_lt lq2
  obtain ⟨B, hrdB, hBl⟩ := hrd2.own
  have hpw2 : p < w2.heap.size := rd_lt hrd2
  have hw2 : Way w2.heap.size q nx [] w2 := ⟨.slice none 0 0, fun _ => .slice none 0 0, lq2, World.ownsRow_nil _ _ _ _, fun j hj => absurd hj (by simp)⟩
  clear hrd2 hrd1 hrd1a lq hg1 hg1a hg2 hbA h hby hb1 hlen hs1
  go_wp2_with fail
  go_loopw [11] (fun i wr => ∃ (acc : List (List Nat)) (rest : List Nat), acc.length ≤ n ∧ i = .int .i64 (acc.length : Int) ∧ (∀ x ∈ rest, x < 256) ∧ rest.length ≤ r2.length ∧ decLk bs = decLkT nx acc (n - acc.length) rest ∧ Way w2.heap.size q nx acc wr ∧ RdAt (fun b => X b ∧ some b = B) wr p rest ∧ w.grownBy wr (some p) ∧ w2.heap.size ≤ wr.heap.size) (fun i _ => n - (intOf i).toNat)
  case atStart => exact ⟨[], r2, by simp, rfl, hb2, Nat.le_refl _, by rw [hdh.out]; rfl, hw2, hrdB, hg2a, Nat.le_refl _⟩
  case round =>
    obtain ⟨acc, rest, hk, rfl, hbr, hrl, hdc, hwy, hrd, hgr, hsz⟩ := hrel
    have hdch := hidP hdc
    clear hdc
    by_cases hlt : acc.length < n
    · obtain ⟨m, hm⟩ : ∃ m, n - acc.length = m + 1 := ⟨n - acc.length - 1, by omega⟩
      rw [hm] at hdch
      have dlt : decide ((acc.length : Int) < (n : Int)) = true := decide_eq_true (by omega)
      go_wp2_with fail
      refine (rtext_any p 1800 rest _ (by decide) (by omega) hbr hrd).mono ?_
      rintro e w3 ⟨hg3, hr⟩
      have hgr3 := grown_trans hgr hg3
      cases hd3 : decT 1800 rest with
      | fault k =>
        rw [hd3] at hr
        have hdv : decLk bs = .fault k := by rw [hdch.out]; unfold decLkT decTs; rw [hd3]
        cases hr
        go_wp2
        exact ⟨rfl, rdV_fault hdv hgr3⟩
      | ok t r3 =>
      rw [hd3] at hr
      obtain ⟨⟨u, rfl, hu⟩, hrd3⟩ := hr
      have hb3 : ∀ x ∈ r3, x < 256 := (codeT 1800 (by decide)).rest hbr hd3
      have hrl3 : r3.length ≤ rest.length := by
        obtain ⟨_, e⟩ := (codeT 1800 (by decide)).sound hbr hd3
        rw [e, List.length_append]; omega
      have htl : t.length ≤ 1800 := ((codeT 1800 (by decide)).sound hbr hd3).1.1
      have hwy3 := hwy.grown hg3 hpw2 hqp
      have hu3 := own_base hu hsz
      obtain ⟨ua, uc, rfl⟩ := own_form hu
      have hdv2 : decLk bs = if txt t = true then decLkT nx (acc ++ [t]) m r3 else .fault 3 := by
        rw [hdch.out]
        unfold decLkT
        rw [decTs, hd3]
        simp only
        cases txt t <;> rfl
      have hdh2 := hidP hdv2
      clear hdv2 hd3 hu hdch
      go_wp2_with fail
      refine (istext_any ua uc t _ (by omega)).mono ?_
      rintro _ _ ⟨rfl, rfl⟩
      go_wp2_with fail
      refine (rmust_any p _ _ _ hrd3).mono ?_
      rintro e _ ⟨hm2, rfl⟩
      cases htx : txt t
      · rw [htx] at hm2
        have hdv : decLk bs = .fault 3 := by rw [hdh2.out, htx]; rfl
        have hm3 : faultC 3 e := hm2
        cases hm3
        go_wp2
        exact ⟨rfl, rdV_fault hdv hgr3⟩
      · rw [htx] at hm2
        have hdv : decLk bs = decLkT nx (acc ++ [t]) m r3 := by rw [hdh2.out, htx]; rfl
        have hm3 : e = .returned (.tuple #[]) := hm2
        subst hm3
        have hdh3 := hidP hdv
        clear hdv hm2 hdh2
        obtain ⟨v, us, l3, o3, t3⟩ := hwy3.it
        obtain ⟨va, vn, vc, hve⟩ := own_is o3
        subst hve
        have c3 : w3.cell? ⟨q, 1, none⟩ = some (.slice va vn vc) := by rw [look_cell l3]; rfl
        have hq3 := look_lt l3
        have hbB := belA (bel0 w3) (.cells #[.slice ua t.length uc] 30)
        have l4 : look (w3.alloc (.cells #[.slice ua t.length uc] 30)) w3.heap.size = some (.cells #[.slice ua t.length uc] 30 (0, 0)) := look_alloc_at _ _ _ rfl
        have o4 := own_below o3 hbB
        have hsz4 : w2.heap.size ≤ (w3.alloc (.cells #[.slice ua t.length uc] 30)).heap.size := by
          have := hg3.size
          simp; omega
        have hl4 : look (w3.alloc (.cells #[.slice ua t.length uc] 30)) q = some (.cells #[.int .u64 (nx : Int), .slice va vn vc, .int .u64 0] 51 (0, 0)) := by rw [look_below hbB hq3]; exact l3
        go_wp2_with (at_builtin; refine stop_here ?_)
        refine hidP ?_
        refine append_any _ rfl _ _ 49 rfl w2.heap.size 30 i0 (.slice none 0 0) 1 24 Try.underlying49 hi hz0 hz1 hz2 rfl (by decide) _ acc.length _ rfl o4 (.slice (some ⟨w3.heap.size, 0, none⟩) 1 1) 1 [.slice ua t.length uc] rfl rfl ?c1 ?c2 (by unfold maxLen; omega) (by omega) hsz4 ?_
        case c1 =>
          intro y hy
          rw [List.mem_singleton] at hy
          rw [hy]; rfl
        case c2 => exact .inr ⟨_, _, rfl, lone_cells l4⟩
        intro v5 w5 ho5 hg5
        have hvB : ∀ g, (Value.slice va vn vc).ownBlock = some g → w2.heap.size ≤ g := fun g e => (o3.lt g e).1
        have hwy5 := Way.more hl4 o4 (fun j hj => own_below (t3 j hj) hbB) (own_below hu3 hbB) ho5 hg5
        have hrd5 : RdAt (fun b => X b ∧ some b = B) w5 p r3 := rd_grown (rdAt_below hrd3 hbB) hg5 (fun g e => by
          have h9 := hvB g e
          refine ⟨by omega, fun h0 b hb => ?_⟩
          have := hBl (by omega) b hb.2.symm
          omega)
        obtain ⟨ya, yn, yc, hye⟩ := own_is ho5
        subst hye
        have l5 : look w5 q = some (.cells #[.int .u64 (nx : Int), .slice va vn vc, .int .u64 0] 51 (0, 0)) := by rw [grown_look hg5 (look_lt hl4) (own_not o4 hl4 (by decide))]; exact hl4
        have c5 : w5.cell? ⟨q, 1, none⟩ = some (.slice va vn vc) := by rw [look_cell l5]; rfl
        have z5 := look_frozen l5 1
        have hrd6 : RdAt (fun b => X b ∧ some b = B) (w5.setCell ⟨q, 1, none⟩ (.slice ya yn yc)) p r3 := rd_grown hrd5 (grown_setCell _ _ _ _) (fun g e => by
          cases e
          refine ⟨hqp, fun h0 b hb => ?_⟩
          rintro rfl
          obtain ⟨v', _, ⟨ad', cap', rfl, _, _, h4'⟩, h5'⟩ := hrd5
          rcases h4' with h4' | ⟨b', off', rfl, _, hR'⟩
          · omega
          · have e1 : b' = b := by
              have := (h5' b' rfl).2
              have h8 := hb.2
              rw [← h8] at this
              exact Option.some.inj this
            subst e1
            have h0' := hR' 0 h0 0 _ rfl
            rw [look_cell l5] at h0'
            generalize off' + 0 * 1 + 0 = z at h0'
            match z, h0' with
            | 0, h0' => cases h0'
            | 1, h0' => cases h0'
            | 2, h0' => cases h0'
            | z + 3, h0' => simp at h0')
        have hgr5 : w.grownBy (w5.setCell ⟨q, 1, none⟩ (.slice ya yn yc)) (some p) := by
          have hA : Below w.heap.size w3 (w3.alloc (.cells #[.slice ua t.length uc] 30)) := hbB.mono hgr3.size
          have hB5 : Below w.heap.size w3 w5 := hA.grown hg5 (by have := hgr3.size; simp; omega) (fun g e => by have := hvB g e; have := hg2a.size; omega)
          have hC5 : Below w.heap.size w3 (w5.setCell ⟨q, 1, none⟩ (.slice ya yn yc)) := ⟨hB5.os, hB5.tape, hB5.output, by simpa using hB5.size, fun i hi => by rw [heap_setCell_other w5 ⟨q, 1, none⟩ i _ (by show i ≠ q; omega)]; exact hB5.block i hi⟩
          exact ⟨hC5.os.trans hgr3.os, hC5.tape.trans hgr3.tape, hC5.output.trans hgr3.output, Nat.le_trans hgr3.size hC5.size, fun i hi he => (hC5.block i hi).trans (hgr3.block i hi he)⟩
        have hsz5 : w2.heap.size ≤ (w5.setCell ⟨q, 1, none⟩ (.slice ya yn yc)).heap.size := by
          have h8 := hg5.size
          have h9 : (w5.setCell ⟨q, 1, none⟩ (.slice ya yn yc)).heap.size = w5.heap.size := by simp
          omega
        have hlen1 : (acc ++ [t]).length = acc.length + 1 := by rw [List.length_append]; rfl
        have hmm : m = n - (acc ++ [t]).length := by omega
        rw [hmm] at hdh3
        clear hrd5 hwy hwy3 hrd3 hrd hgr hgr3 hg3 ho5 hg5 hvB o3 t3 l3 hu3 o4 l4 hbr
        go_wp2
        go_roundw
        case rel => exact ⟨acc ++ [t], r3, by omega, by rw [hlen1]; go_num, hb3, by omega, hdh3.out, hwy5, hrd6, hgr5, hsz5⟩
        case measure => simp [intOf]; omega
    · have hk2 : acc.length = n := by omega
      have dlt : decide ((acc.length : Int) < (n : Int)) = false := decide_eq_false (by omega)
      have e0 : n - acc.length = 0 := by omega
      rw [e0] at hdch
      have hdE : decLk bs = decLkE nx acc rest := by rw [hdch.out]; unfold decLkT decTs; rfl
      have hdEh := hidP hdE
      clear hdE hdch
      obtain ⟨v, us, l3, o3, t3⟩ := hwy.it
      go_wp2_with fail
      refine (rnum_any p rest _ hbr hrd).mono ?_
      rintro e w4 ⟨hg4, hr⟩
      have hgr4 := grown_trans hgr hg4
      cases hd4 : decN true 0 rest with
      | fault k =>
        rw [hd4] at hr
        have hdv : decLk bs = .fault k := by rw [hdEh.out]; unfold decLkE; rw [hd4]
        cases hr
        go_wp2
        exact ⟨rfl, rdV_fault hdv hgr4⟩
      | ok ex r4 =>
      rw [hd4] at hr
      obtain ⟨rfl, hrd4⟩ := hr
      have hex := (decN_low rest true 0 hd4).1
      have hwy4 := hwy.grown hg4 hpw2 hqp
      have hV := hwy4.link (ex := ex) hq2 w.heap.size hwq hg2a.size
      obtain ⟨v4, us4, l4, o4, t4⟩ := hwy4.it
      obtain ⟨va, vc, hve⟩ : ∃ va vc, v4 = .slice va acc.length vc := by
        rcases o4.2 with ⟨e, e2⟩ | ⟨g, cap, cur, e, _⟩
        · exact ⟨none, 0, by rw [e, e2]⟩
        · exact ⟨_, cap, e⟩
      subst hve
      have hdv2 : decLk bs = if okN nx ex acc.length = true then .ok ⟨nx, ex, acc⟩ r4 else .fault 3 := by rw [hdEh.out]; unfold decLkE; rw [hd4]
      have hdh2 := hidP hdv2
      clear hdv2 hd4 hdEh hwy hwy4 hrd t3 t4 o3 o4 l3
      have z4 := look_frozen l4 2
      have c4 : w4.cell? ⟨q, 2, none⟩ = some (.int .u64 0) := by rw [look_cell l4]; rfl
      obtain ⟨W, hW⟩ : ∃ W, Hid (W = w4.setCell ⟨q, 2, none⟩ (.int .u64 (ex : Int))) := ⟨_, hidP rfl⟩
      have l5 : look W q = some (.cells #[.int .u64 (nx : Int), .slice va acc.length vc, .int .u64 (ex : Int)] 51 (0, 0)) := by rw [hW.out, look_set_same l4]; rfl
      have hrd5 : RdAt X W p r4 := by
        rw [hW.out]
        exact rd_aside (hrd4.weaken (fun b hb => hb.1)) l4 (Ne.symm hqp) (fun j x e => by
          match j, e with
          | 0, e => cases e
          | 1, e => cases e
          | 2, e => cases e
          | j + 3, e => simp at e)
      have hgr5 : w.grownBy W (some p) := by
        rw [hW.out]
        exact ⟨hgr4.os, hgr4.tape, hgr4.output, by simpa using hgr4.size, fun i hi he => by rw [heap_setCell_other w4 ⟨q, 2, none⟩ i _ (by show i ≠ q; omega)]; exact hgr4.block i hi he⟩
      rw [← hW.out] at hV
      have hqW := look_lt l5
      have hacc : acc.length ≤ 250 := by omega
      clear hrd4 hgr4 hgr hg4 hbr hb2
      have hwacc : IntKind.u64.wrap (acc.length : Int) = (acc.length : Int) := IntWalk.u64_in _ (by omega)
      go_wp2_with fail
      rw [← hW.out]
      clear z4 c4 l4 hk2 hlt dlt e0 hk hrl hrdB hBl
      by_cases k1 : 1 ≤ nx
      · skip
        by_cases k2 : nx ≤ 1099511627777
        · skip
          by_cases k3 : 1 ≤ ex
          · skip
            by_cases k4 : ex ≤ 1099511627777
            · skip
              by_cases k5 : acc.length < nx
              · skip
                have e1 : decide ((1 : Int) ≤ (nx : Int)) = true := decide_eq_true (by omega)
                have e2 : decide ((nx : Int) ≤ 1099511627777) = true := decide_eq_true (by omega)
                have e3 : decide ((1 : Int) ≤ (ex : Int)) = true := decide_eq_true (by omega)
                have e4 : decide ((ex : Int) ≤ 1099511627777) = true := decide_eq_true (by omega)
                have e5 : decide ((acc.length : Int) < (nx : Int)) = true := decide_eq_true (by omega)
                have hok : okN nx ex acc.length = true := decide_eq_true ⟨k1, k2, k3, k4, k5⟩
                rw [hok] at hdh2
                clear hok k1 k2 k3 k4 k5
                refine wp_region_wordsB wmixed 40 ([] :: [] :: [36] :: [37] :: [38] :: [39] :: [40] :: [41] :: [42, 41] :: [43, 41] :: [44, 41] :: [45, 41] :: [41, 46] :: [47] :: [48] :: [49, 48] :: [50, 48] :: [51, 48] :: [52, 48] :: [48, 53] :: [54] :: [55] :: [56, 55] :: [57, 55] :: [58, 55] :: [59, 55] :: [55, 60] :: [61] :: [62] :: [63, 62] :: [64, 62] :: [65, 62] :: [66, 62] :: [67, 62] :: [62] :: [69, 62] :: [70, 62] :: [71, 62] :: [68, 72, 62] :: [62, 73] :: []) (isV (.pointer (some ⟨p, 0, none⟩)) :: isV (.pointer (some ⟨q, 0, none⟩)) :: isV (.pointer (some ⟨q, 0, none⟩)) :: isV (.pointer (some ⟨q, 0, none⟩)) :: isV (.int .u64 (nx : Int)) :: isV (.bool true) :: isV (.bool true) :: isV (.pointer (some ⟨q, 0, none⟩)) :: isV (.pointer (some ⟨q, 0, none⟩)) :: isV (.pointer (some ⟨q, 0, none⟩)) :: isV (.int .u64 (nx : Int)) :: isV (.bool true) :: isV (.bool true) :: isV (.bool true) :: isV (.pointer (some ⟨q, 0, none⟩)) :: isV (.pointer (some ⟨q, 0, none⟩)) :: isV (.pointer (some ⟨q, 2, none⟩)) :: isV (.int .u64 (ex : Int)) :: isV (.bool true) :: isV (.bool true) :: isV (.bool true) :: isV (.pointer (some ⟨q, 0, none⟩)) :: isV (.pointer (some ⟨q, 0, none⟩)) :: isV (.pointer (some ⟨q, 2, none⟩)) :: isV (.int .u64 (ex : Int)) :: isV (.bool true) :: isV (.bool true) :: isV (.bool true) :: isV (.pointer (some ⟨q, 0, none⟩)) :: isV (.pointer (some ⟨q, 0, none⟩)) :: isV (.pointer (some ⟨q, 1, none⟩)) :: isV (.slice va acc.length vc) :: isV (.int .i64 (acc.length : Int)) :: isV (.int .u64 (acc.length : Int)) :: isV (.pointer (some ⟨q, 0, none⟩)) :: isV (.pointer (some ⟨q, 0, none⟩)) :: isV (.pointer (some ⟨q, 0, none⟩)) :: isV (.int .u64 (nx : Int)) :: isV (.bool true) :: isV (.bool true) :: []) (by decide) (by kernel_rfl)
                  ⟨stab_isV _, stab_isV _, stab_isV _, stab_isV _, stab_isV _, stab_isV _, stab_isV _, stab_isV _, stab_isV _, stab_isV _, stab_isV _, stab_isV _, stab_isV _, stab_isV _, stab_isV _, stab_isV _, stab_isV _, stab_isV _, stab_isV _, stab_isV _, stab_isV _, stab_isV _, stab_isV _, stab_isV _, stab_isV _, stab_isV _, stab_isV _, stab_isV _, stab_isV _, stab_isV _, stab_isV _, stab_isV _, stab_isV _, stab_isV _, stab_isV _, stab_isV _, stab_isV _, stab_isV _, stab_isV _, stab_isV _, trivial⟩ ⟨?_, ?_, ?_, ?_, ?_, ?_, ?_, ?_, ?_, ?_, ?_, ?_, ?_, ?_, ?_, ?_, ?_, ?_, ?_, ?_, ?_, ?_, ?_, ?_, ?_, ?_, ?_, ?_, ?_, ?_, ?_, ?_, ?_, ?_, ?_, ?_, ?_, ?_, ?_, ?_, trivial⟩ ?_
                · intro vs wq hB hm
                  clear hm
                  simp only [fill]
                  go_wp2
                  exact ⟨_, rfl, rfl, Below.refl _ _, trivial⟩
                · intro vs wq hB hm
                  clear hm
                  simp only [fill]
                  go_wp2
                  exact ⟨_, rfl, rfl, Below.refl _ _, trivial⟩
                · intro vs wq hB hm
                  have h36 : vs 36 = .pointer (some ⟨q, 0, none⟩) := meets_get hm 1 rfl rfl rfl rfl
                  clear hm
                  simp only [fill, h36]
                  go_wp2
                  exact ⟨_, rfl, rfl, Below.refl _ _, trivial⟩
                · intro vs wq hB hm
                  have h37 : vs 37 = .pointer (some ⟨q, 0, none⟩) := meets_get hm 2 rfl rfl rfl rfl
                  clear hm
                  simp only [fill, h37]
                  go_wp2
                  exact ⟨_, rfl, rfl, Below.refl _ _, trivial⟩
                · intro vs wq hB hm
                  have hl : look wq (q) = some (.cells (#[.int .u64 (nx : Int), .slice va acc.length vc, .int .u64 (ex : Int)]) 51 (0, 0)) := by rw [look_below hB (by first | omega | (simp only [World.size_alloc]; omega) | exact look_lt (by assumption) | (simp only [World.size_alloc, World.size_setCell]; omega) | (simp; omega))]; first | assumption | go_simp
                  have hc : World.cell? wq ⟨q, 0, none⟩ = some (.int .u64 (nx : Int)) := by rw [look_cell hl]; rfl
                  have h38 : vs 38 = .pointer (some ⟨q, 0, none⟩) := meets_get hm 3 rfl rfl rfl rfl
                  clear hm
                  simp only [fill, h38]
                  go_wp2
                  exact ⟨_, rfl, rfl, Below.refl _ _, trivial⟩
                · intro vs wq hB hm
                  have h39 : vs 39 = .int .u64 (nx : Int) := meets_get hm 4 rfl rfl rfl rfl
                  clear hm
                  simp only [fill, h39]
                  go_wp2
                  exact ⟨_, rfl, (by show (_ : Value) = _; first | rfl | exact congrArg Value.bool e1 | (refine congrArg Value.bool ?_; first | exact decide_eq_true (by have := of_decide_eq_true e1; omega) | exact decide_eq_false (by have := of_decide_eq_false e1; omega))), Below.refl _ _, trivial⟩
                · intro vs wq hB hm
                  have h40 : vs 40 = .bool true := meets_get hm 5 rfl rfl rfl rfl
                  clear hm
                  simp only [fill, h40]
                  go_wp2
                  exact ⟨_, rfl, rfl, Below.refl _ _, trivial⟩
                · intro vs wq hB hm
                  have h41 : vs 41 = .bool true := meets_get hm 6 rfl rfl rfl rfl
                  clear hm
                  simp only [fill, h41]
                  go_wp2
                  exact ⟨_, rfl, rfl, Below.refl _ _, trivial⟩
                · intro vs wq hB hm
                  have h42 : vs 42 = .pointer (some ⟨q, 0, none⟩) := meets_get hm 7 rfl rfl rfl rfl
                  have h41 : vs 41 = .bool true := meets_get hm 6 rfl rfl rfl rfl
                  clear hm
                  simp only [fill, h42, h41]
                  go_wp2
                  exact ⟨_, rfl, rfl, Below.refl _ _, trivial⟩
                · intro vs wq hB hm
                  have h43 : vs 43 = .pointer (some ⟨q, 0, none⟩) := meets_get hm 8 rfl rfl rfl rfl
                  have h41 : vs 41 = .bool true := meets_get hm 6 rfl rfl rfl rfl
                  clear hm
                  simp only [fill, h43, h41]
                  go_wp2
                  exact ⟨_, rfl, rfl, Below.refl _ _, trivial⟩
                · intro vs wq hB hm
                  have hl : look wq (q) = some (.cells (#[.int .u64 (nx : Int), .slice va acc.length vc, .int .u64 (ex : Int)]) 51 (0, 0)) := by rw [look_below hB (by first | omega | (simp only [World.size_alloc]; omega) | exact look_lt (by assumption) | (simp only [World.size_alloc, World.size_setCell]; omega) | (simp; omega))]; first | assumption | go_simp
                  have hc : World.cell? wq ⟨q, 0, none⟩ = some (.int .u64 (nx : Int)) := by rw [look_cell hl]; rfl
                  have h44 : vs 44 = .pointer (some ⟨q, 0, none⟩) := meets_get hm 9 rfl rfl rfl rfl
                  have h41 : vs 41 = .bool true := meets_get hm 6 rfl rfl rfl rfl
                  clear hm
                  simp only [fill, h44, h41]
                  go_wp2
                  exact ⟨_, rfl, rfl, Below.refl _ _, trivial⟩
                · intro vs wq hB hm
                  have h45 : vs 45 = .int .u64 (nx : Int) := meets_get hm 10 rfl rfl rfl rfl
                  have h41 : vs 41 = .bool true := meets_get hm 6 rfl rfl rfl rfl
                  clear hm
                  simp only [fill, h45, h41]
                  go_wp2
                  exact ⟨_, rfl, (by show (_ : Value) = _; first | rfl | exact congrArg Value.bool e2 | (refine congrArg Value.bool ?_; first | exact decide_eq_true (by have := of_decide_eq_true e2; omega) | exact decide_eq_false (by have := of_decide_eq_false e2; omega))), Below.refl _ _, trivial⟩
                · intro vs wq hB hm
                  have h41 : vs 41 = .bool true := meets_get hm 6 rfl rfl rfl rfl
                  have h46 : vs 46 = .bool true := meets_get hm 11 rfl rfl rfl rfl
                  clear hm
                  simp only [fill, h41, h46]
                  go_wp2
                  exact ⟨_, rfl, rfl, Below.refl _ _, trivial⟩
                · intro vs wq hB hm
                  have h47 : vs 47 = .bool true := meets_get hm 12 rfl rfl rfl rfl
                  clear hm
                  simp only [fill, h47]
                  go_wp2
                  exact ⟨_, rfl, rfl, Below.refl _ _, trivial⟩
                · intro vs wq hB hm
                  have h48 : vs 48 = .bool true := meets_get hm 13 rfl rfl rfl rfl
                  clear hm
                  simp only [fill, h48]
                  go_wp2
                  exact ⟨_, rfl, rfl, Below.refl _ _, trivial⟩
                · intro vs wq hB hm
                  have h49 : vs 49 = .pointer (some ⟨q, 0, none⟩) := meets_get hm 14 rfl rfl rfl rfl
                  have h48 : vs 48 = .bool true := meets_get hm 13 rfl rfl rfl rfl
                  clear hm
                  simp only [fill, h49, h48]
                  go_wp2
                  exact ⟨_, rfl, rfl, Below.refl _ _, trivial⟩
                · intro vs wq hB hm
                  have h50 : vs 50 = .pointer (some ⟨q, 0, none⟩) := meets_get hm 15 rfl rfl rfl rfl
                  have h48 : vs 48 = .bool true := meets_get hm 13 rfl rfl rfl rfl
                  clear hm
                  simp only [fill, h50, h48]
                  go_wp2
                  exact ⟨_, rfl, rfl, Below.refl _ _, trivial⟩
                · intro vs wq hB hm
                  have hl : look wq (q) = some (.cells (#[.int .u64 (nx : Int), .slice va acc.length vc, .int .u64 (ex : Int)]) 51 (0, 0)) := by rw [look_below hB (by first | omega | (simp only [World.size_alloc]; omega) | exact look_lt (by assumption) | (simp only [World.size_alloc, World.size_setCell]; omega) | (simp; omega))]; first | assumption | go_simp
                  have hc : World.cell? wq ⟨q, 2, none⟩ = some (.int .u64 (ex : Int)) := by rw [look_cell hl]; rfl
                  have h51 : vs 51 = .pointer (some ⟨q, 2, none⟩) := meets_get hm 16 rfl rfl rfl rfl
                  have h48 : vs 48 = .bool true := meets_get hm 13 rfl rfl rfl rfl
                  clear hm
                  simp only [fill, h51, h48]
                  go_wp2
                  exact ⟨_, rfl, rfl, Below.refl _ _, trivial⟩
                · intro vs wq hB hm
                  have h52 : vs 52 = .int .u64 (ex : Int) := meets_get hm 17 rfl rfl rfl rfl
                  have h48 : vs 48 = .bool true := meets_get hm 13 rfl rfl rfl rfl
                  clear hm
                  simp only [fill, h52, h48]
                  go_wp2
                  exact ⟨_, rfl, (by show (_ : Value) = _; first | rfl | exact congrArg Value.bool e3 | (refine congrArg Value.bool ?_; first | exact decide_eq_true (by have := of_decide_eq_true e3; omega) | exact decide_eq_false (by have := of_decide_eq_false e3; omega))), Below.refl _ _, trivial⟩
                · intro vs wq hB hm
                  have h48 : vs 48 = .bool true := meets_get hm 13 rfl rfl rfl rfl
                  have h53 : vs 53 = .bool true := meets_get hm 18 rfl rfl rfl rfl
                  clear hm
                  simp only [fill, h48, h53]
                  go_wp2
                  exact ⟨_, rfl, rfl, Below.refl _ _, trivial⟩
                · intro vs wq hB hm
                  have h54 : vs 54 = .bool true := meets_get hm 19 rfl rfl rfl rfl
                  clear hm
                  simp only [fill, h54]
                  go_wp2
                  exact ⟨_, rfl, rfl, Below.refl _ _, trivial⟩
                · intro vs wq hB hm
                  have h55 : vs 55 = .bool true := meets_get hm 20 rfl rfl rfl rfl
                  clear hm
                  simp only [fill, h55]
                  go_wp2
                  exact ⟨_, rfl, rfl, Below.refl _ _, trivial⟩
                · intro vs wq hB hm
                  have h56 : vs 56 = .pointer (some ⟨q, 0, none⟩) := meets_get hm 21 rfl rfl rfl rfl
                  have h55 : vs 55 = .bool true := meets_get hm 20 rfl rfl rfl rfl
                  clear hm
                  simp only [fill, h56, h55]
                  go_wp2
                  exact ⟨_, rfl, rfl, Below.refl _ _, trivial⟩
                · intro vs wq hB hm
                  have h57 : vs 57 = .pointer (some ⟨q, 0, none⟩) := meets_get hm 22 rfl rfl rfl rfl
                  have h55 : vs 55 = .bool true := meets_get hm 20 rfl rfl rfl rfl
                  clear hm
                  simp only [fill, h57, h55]
                  go_wp2
                  exact ⟨_, rfl, rfl, Below.refl _ _, trivial⟩
                · intro vs wq hB hm
                  have hl : look wq (q) = some (.cells (#[.int .u64 (nx : Int), .slice va acc.length vc, .int .u64 (ex : Int)]) 51 (0, 0)) := by rw [look_below hB (by first | omega | (simp only [World.size_alloc]; omega) | exact look_lt (by assumption) | (simp only [World.size_alloc, World.size_setCell]; omega) | (simp; omega))]; first | assumption | go_simp
                  have hc : World.cell? wq ⟨q, 2, none⟩ = some (.int .u64 (ex : Int)) := by rw [look_cell hl]; rfl
                  have h58 : vs 58 = .pointer (some ⟨q, 2, none⟩) := meets_get hm 23 rfl rfl rfl rfl
                  have h55 : vs 55 = .bool true := meets_get hm 20 rfl rfl rfl rfl
                  clear hm
                  simp only [fill, h58, h55]
                  go_wp2
                  exact ⟨_, rfl, rfl, Below.refl _ _, trivial⟩
                · intro vs wq hB hm
                  have h59 : vs 59 = .int .u64 (ex : Int) := meets_get hm 24 rfl rfl rfl rfl
                  have h55 : vs 55 = .bool true := meets_get hm 20 rfl rfl rfl rfl
                  clear hm
                  simp only [fill, h59, h55]
                  go_wp2
                  exact ⟨_, rfl, (by show (_ : Value) = _; first | rfl | exact congrArg Value.bool e4 | (refine congrArg Value.bool ?_; first | exact decide_eq_true (by have := of_decide_eq_true e4; omega) | exact decide_eq_false (by have := of_decide_eq_false e4; omega))), Below.refl _ _, trivial⟩
                · intro vs wq hB hm
                  have h55 : vs 55 = .bool true := meets_get hm 20 rfl rfl rfl rfl
                  have h60 : vs 60 = .bool true := meets_get hm 25 rfl rfl rfl rfl
                  clear hm
                  simp only [fill, h55, h60]
                  go_wp2
                  exact ⟨_, rfl, rfl, Below.refl _ _, trivial⟩
                · intro vs wq hB hm
                  have h61 : vs 61 = .bool true := meets_get hm 26 rfl rfl rfl rfl
                  clear hm
                  simp only [fill, h61]
                  go_wp2
                  exact ⟨_, rfl, rfl, Below.refl _ _, trivial⟩
                · intro vs wq hB hm
                  have h62 : vs 62 = .bool true := meets_get hm 27 rfl rfl rfl rfl
                  clear hm
                  simp only [fill, h62]
                  go_wp2
                  exact ⟨_, rfl, rfl, Below.refl _ _, trivial⟩
                · intro vs wq hB hm
                  have h63 : vs 63 = .pointer (some ⟨q, 0, none⟩) := meets_get hm 28 rfl rfl rfl rfl
                  have h62 : vs 62 = .bool true := meets_get hm 27 rfl rfl rfl rfl
                  clear hm
                  simp only [fill, h63, h62]
                  go_wp2
                  exact ⟨_, rfl, rfl, Below.refl _ _, trivial⟩
                · intro vs wq hB hm
                  have h64 : vs 64 = .pointer (some ⟨q, 0, none⟩) := meets_get hm 29 rfl rfl rfl rfl
                  have h62 : vs 62 = .bool true := meets_get hm 27 rfl rfl rfl rfl
                  clear hm
                  simp only [fill, h64, h62]
                  go_wp2
                  exact ⟨_, rfl, rfl, Below.refl _ _, trivial⟩
                · intro vs wq hB hm
                  have hl : look wq (q) = some (.cells (#[.int .u64 (nx : Int), .slice va acc.length vc, .int .u64 (ex : Int)]) 51 (0, 0)) := by rw [look_below hB (by first | omega | (simp only [World.size_alloc]; omega) | exact look_lt (by assumption) | (simp only [World.size_alloc, World.size_setCell]; omega) | (simp; omega))]; first | assumption | go_simp
                  have hc : World.cell? wq ⟨q, 1, none⟩ = some (.slice va acc.length vc) := by rw [look_cell hl]; rfl
                  have h65 : vs 65 = .pointer (some ⟨q, 1, none⟩) := meets_get hm 30 rfl rfl rfl rfl
                  have h62 : vs 62 = .bool true := meets_get hm 27 rfl rfl rfl rfl
                  clear hm
                  simp only [fill, h65, h62]
                  go_wp2
                  exact ⟨_, rfl, rfl, Below.refl _ _, trivial⟩
                · intro vs wq hB hm
                  have h66 : vs 66 = .slice va acc.length vc := meets_get hm 31 rfl rfl rfl rfl
                  have h62 : vs 62 = .bool true := meets_get hm 27 rfl rfl rfl rfl
                  clear hm
                  simp only [fill, h66, h62]
                  go_wp2
                  exact ⟨_, rfl, rfl, Below.refl _ _, trivial⟩
                · intro vs wq hB hm
                  have h67 : vs 67 = .int .i64 (acc.length : Int) := meets_get hm 32 rfl rfl rfl rfl
                  have h62 : vs 62 = .bool true := meets_get hm 27 rfl rfl rfl rfl
                  clear hm
                  simp only [fill, h67, h62]
                  go_wp2
                  exact ⟨_, rfl, rfl, Below.refl _ _, trivial⟩
                · intro vs wq hB hm
                  have h62 : vs 62 = .bool true := meets_get hm 27 rfl rfl rfl rfl
                  clear hm
                  simp only [fill, h62]
                  go_wp2
                  exact ⟨_, rfl, rfl, Below.refl _ _, trivial⟩
                · intro vs wq hB hm
                  have h69 : vs 69 = .pointer (some ⟨q, 0, none⟩) := meets_get hm 34 rfl rfl rfl rfl
                  have h62 : vs 62 = .bool true := meets_get hm 27 rfl rfl rfl rfl
                  clear hm
                  simp only [fill, h69, h62]
                  go_wp2
                  exact ⟨_, rfl, rfl, Below.refl _ _, trivial⟩
                · intro vs wq hB hm
                  have h70 : vs 70 = .pointer (some ⟨q, 0, none⟩) := meets_get hm 35 rfl rfl rfl rfl
                  have h62 : vs 62 = .bool true := meets_get hm 27 rfl rfl rfl rfl
                  clear hm
                  simp only [fill, h70, h62]
                  go_wp2
                  exact ⟨_, rfl, rfl, Below.refl _ _, trivial⟩
                · intro vs wq hB hm
                  have hl : look wq (q) = some (.cells (#[.int .u64 (nx : Int), .slice va acc.length vc, .int .u64 (ex : Int)]) 51 (0, 0)) := by rw [look_below hB (by first | omega | (simp only [World.size_alloc]; omega) | exact look_lt (by assumption) | (simp only [World.size_alloc, World.size_setCell]; omega) | (simp; omega))]; first | assumption | go_simp
                  have hc : World.cell? wq ⟨q, 0, none⟩ = some (.int .u64 (nx : Int)) := by rw [look_cell hl]; rfl
                  have h71 : vs 71 = .pointer (some ⟨q, 0, none⟩) := meets_get hm 36 rfl rfl rfl rfl
                  have h62 : vs 62 = .bool true := meets_get hm 27 rfl rfl rfl rfl
                  clear hm
                  simp only [fill, h71, h62]
                  go_wp2
                  exact ⟨_, rfl, rfl, Below.refl _ _, trivial⟩
                · intro vs wq hB hm
                  have h68 : vs 68 = .int .u64 (acc.length : Int) := meets_get hm 33 rfl rfl rfl rfl
                  have h72 : vs 72 = .int .u64 (nx : Int) := meets_get hm 37 rfl rfl rfl rfl
                  have h62 : vs 62 = .bool true := meets_get hm 27 rfl rfl rfl rfl
                  clear hm
                  simp only [fill, h68, h72, h62]
                  go_wp2
                  exact ⟨_, rfl, (by show (_ : Value) = _; first | rfl | exact congrArg Value.bool e5 | (refine congrArg Value.bool ?_; first | exact decide_eq_true (by have := of_decide_eq_true e5; omega) | exact decide_eq_false (by have := of_decide_eq_false e5; omega))), Below.refl _ _, trivial⟩
                · intro vs wq hB hm
                  have h62 : vs 62 = .bool true := meets_get hm 27 rfl rfl rfl rfl
                  have h73 : vs 73 = .bool true := meets_get hm 38 rfl rfl rfl rfl
                  clear hm
                  simp only [fill, h62, h73]
                  go_wp2
                  exact ⟨_, rfl, rfl, Below.refl _ _, trivial⟩
                intro vs wq hB hm hne hlo
                have h35 : vs 35 = .pointer (some ⟨p, 0, none⟩) := hm 0 _ _ _ rfl rfl rfl
                have h74 : vs 74 = .bool true := hm 39 _ _ _ rfl rfl rfl
                clear hne hlo
                simp only [fill, List.filterMap, List.take, List.drop, List.setIfInBounds_toArray, List.set_cons_zero, List.set_cons_succ, h35, h74]
                clear hm h35 h74
                have hrd6 := rdAt_below hrd5 hB
                have hgr6 := grown_trans hgr5 (below_grown hB (some p))
                go_wp2_with fail
                refine (rmust_any p _ true _ hrd6).mono ?_
                rintro e _ ⟨hm2, rfl⟩
                have hm3 : e = .returned (.tuple #[]) := hm2
                subst hm3
                obtain ⟨q', S', e1', e2', e3', e4'⟩ := hV
                have e4'' := e4'.below hB
                have hdv : decLk bs = .ok ⟨nx, ex, acc⟩ r4 := by rw [hdh2.out]; rfl
                have hdz := hidP hdv
                clear hdv
                have e1h := hidP e1'
                clear e1'
                go_wp2
                go_ret
                exact rdV_ok hdz.out hgr6 ⟨q', S', e1h.out, e2', e3', e4''⟩ hrd6
              · skip
                have e1 : decide ((1 : Int) ≤ (nx : Int)) = true := decide_eq_true (by omega)
                have e2 : decide ((nx : Int) ≤ 1099511627777) = true := decide_eq_true (by omega)
                have e3 : decide ((1 : Int) ≤ (ex : Int)) = true := decide_eq_true (by omega)
                have e4 : decide ((ex : Int) ≤ 1099511627777) = true := decide_eq_true (by omega)
                have e5 : decide ((acc.length : Int) < (nx : Int)) = false := decide_eq_false (by omega)
                have hok : okN nx ex acc.length = false := decide_eq_false (fun h => k5 h.2.2.2.2)
                rw [hok] at hdh2
                clear hok k1 k2 k3 k4 k5
                refine wp_region_wordsB wmixed 40 ([] :: [] :: [36] :: [37] :: [38] :: [39] :: [40] :: [41] :: [42, 41] :: [43, 41] :: [44, 41] :: [45, 41] :: [41, 46] :: [47] :: [48] :: [49, 48] :: [50, 48] :: [51, 48] :: [52, 48] :: [48, 53] :: [54] :: [55] :: [56, 55] :: [57, 55] :: [58, 55] :: [59, 55] :: [55, 60] :: [61] :: [62] :: [63, 62] :: [64, 62] :: [65, 62] :: [66, 62] :: [67, 62] :: [62] :: [69, 62] :: [70, 62] :: [71, 62] :: [68, 72, 62] :: [62, 73] :: []) (isV (.pointer (some ⟨p, 0, none⟩)) :: isV (.pointer (some ⟨q, 0, none⟩)) :: isV (.pointer (some ⟨q, 0, none⟩)) :: isV (.pointer (some ⟨q, 0, none⟩)) :: isV (.int .u64 (nx : Int)) :: isV (.bool true) :: isV (.bool true) :: isV (.pointer (some ⟨q, 0, none⟩)) :: isV (.pointer (some ⟨q, 0, none⟩)) :: isV (.pointer (some ⟨q, 0, none⟩)) :: isV (.int .u64 (nx : Int)) :: isV (.bool true) :: isV (.bool true) :: isV (.bool true) :: isV (.pointer (some ⟨q, 0, none⟩)) :: isV (.pointer (some ⟨q, 0, none⟩)) :: isV (.pointer (some ⟨q, 2, none⟩)) :: isV (.int .u64 (ex : Int)) :: isV (.bool true) :: isV (.bool true) :: isV (.bool true) :: isV (.pointer (some ⟨q, 0, none⟩)) :: isV (.pointer (some ⟨q, 0, none⟩)) :: isV (.pointer (some ⟨q, 2, none⟩)) :: isV (.int .u64 (ex : Int)) :: isV (.bool true) :: isV (.bool true) :: isV (.bool true) :: isV (.pointer (some ⟨q, 0, none⟩)) :: isV (.pointer (some ⟨q, 0, none⟩)) :: isV (.pointer (some ⟨q, 1, none⟩)) :: isV (.slice va acc.length vc) :: isV (.int .i64 (acc.length : Int)) :: isV (.int .u64 (acc.length : Int)) :: isV (.pointer (some ⟨q, 0, none⟩)) :: isV (.pointer (some ⟨q, 0, none⟩)) :: isV (.pointer (some ⟨q, 0, none⟩)) :: isV (.int .u64 (nx : Int)) :: isV (.bool false) :: isV (.bool false) :: []) (by decide) (by kernel_rfl)
                  ⟨stab_isV _, stab_isV _, stab_isV _, stab_isV _, stab_isV _, stab_isV _, stab_isV _, stab_isV _, stab_isV _, stab_isV _, stab_isV _, stab_isV _, stab_isV _, stab_isV _, stab_isV _, stab_isV _, stab_isV _, stab_isV _, stab_isV _, stab_isV _, stab_isV _, stab_isV _, stab_isV _, stab_isV _, stab_isV _, stab_isV _, stab_isV _, stab_isV _, stab_isV _, stab_isV _, stab_isV _, stab_isV _, stab_isV _, stab_isV _, stab_isV _, stab_isV _, stab_isV _, stab_isV _, stab_isV _, stab_isV _, trivial⟩ ⟨?_, ?_, ?_, ?_, ?_, ?_, ?_, ?_, ?_, ?_, ?_, ?_, ?_, ?_, ?_, ?_, ?_, ?_, ?_, ?_, ?_, ?_, ?_, ?_, ?_, ?_, ?_, ?_, ?_, ?_, ?_, ?_, ?_, ?_, ?_, ?_, ?_, ?_, ?_, ?_, trivial⟩ ?_
                · intro vs wq hB hm
                  clear hm
                  simp only [fill]
                  go_wp2
                  exact ⟨_, rfl, rfl, Below.refl _ _, trivial⟩
                · intro vs wq hB hm
                  clear hm
                  simp only [fill]
                  go_wp2
                  exact ⟨_, rfl, rfl, Below.refl _ _, trivial⟩
                · intro vs wq hB hm
                  have h36 : vs 36 = .pointer (some ⟨q, 0, none⟩) := meets_get hm 1 rfl rfl rfl rfl
                  clear hm
                  simp only [fill, h36]
                  go_wp2
                  exact ⟨_, rfl, rfl, Below.refl _ _, trivial⟩
                · intro vs wq hB hm
                  have h37 : vs 37 = .pointer (some ⟨q, 0, none⟩) := meets_get hm 2 rfl rfl rfl rfl
                  clear hm
                  simp only [fill, h37]
                  go_wp2
                  exact ⟨_, rfl, rfl, Below.refl _ _, trivial⟩
                · intro vs wq hB hm
                  have hl : look wq (q) = some (.cells (#[.int .u64 (nx : Int), .slice va acc.length vc, .int .u64 (ex : Int)]) 51 (0, 0)) := by rw [look_below hB (by first | omega | (simp only [World.size_alloc]; omega) | exact look_lt (by assumption) | (simp only [World.size_alloc, World.size_setCell]; omega) | (simp; omega))]; first | assumption | go_simp
                  have hc : World.cell? wq ⟨q, 0, none⟩ = some (.int .u64 (nx : Int)) := by rw [look_cell hl]; rfl
                  have h38 : vs 38 = .pointer (some ⟨q, 0, none⟩) := meets_get hm 3 rfl rfl rfl rfl
                  clear hm
                  simp only [fill, h38]
                  go_wp2
                  exact ⟨_, rfl, rfl, Below.refl _ _, trivial⟩
                · intro vs wq hB hm
                  have h39 : vs 39 = .int .u64 (nx : Int) := meets_get hm 4 rfl rfl rfl rfl
                  clear hm
                  simp only [fill, h39]
                  go_wp2
                  exact ⟨_, rfl, (by show (_ : Value) = _; first | rfl | exact congrArg Value.bool e1 | (refine congrArg Value.bool ?_; first | exact decide_eq_true (by have := of_decide_eq_true e1; omega) | exact decide_eq_false (by have := of_decide_eq_false e1; omega))), Below.refl _ _, trivial⟩
                · intro vs wq hB hm
                  have h40 : vs 40 = .bool true := meets_get hm 5 rfl rfl rfl rfl
                  clear hm
                  simp only [fill, h40]
                  go_wp2
                  exact ⟨_, rfl, rfl, Below.refl _ _, trivial⟩
                · intro vs wq hB hm
                  have h41 : vs 41 = .bool true := meets_get hm 6 rfl rfl rfl rfl
                  clear hm
                  simp only [fill, h41]
                  go_wp2
                  exact ⟨_, rfl, rfl, Below.refl _ _, trivial⟩
                · intro vs wq hB hm
                  have h42 : vs 42 = .pointer (some ⟨q, 0, none⟩) := meets_get hm 7 rfl rfl rfl rfl
                  have h41 : vs 41 = .bool true := meets_get hm 6 rfl rfl rfl rfl
                  clear hm
                  simp only [fill, h42, h41]
                  go_wp2
                  exact ⟨_, rfl, rfl, Below.refl _ _, trivial⟩
                · intro vs wq hB hm
                  have h43 : vs 43 = .pointer (some ⟨q, 0, none⟩) := meets_get hm 8 rfl rfl rfl rfl
                  have h41 : vs 41 = .bool true := meets_get hm 6 rfl rfl rfl rfl
                  clear hm
                  simp only [fill, h43, h41]
                  go_wp2
                  exact ⟨_, rfl, rfl, Below.refl _ _, trivial⟩
                · intro vs wq hB hm
                  have hl : look wq (q) = some (.cells (#[.int .u64 (nx : Int), .slice va acc.length vc, .int .u64 (ex : Int)]) 51 (0, 0)) := by rw [look_below hB (by first | omega | (simp only [World.size_alloc]; omega) | exact look_lt (by assumption) | (simp only [World.size_alloc, World.size_setCell]; omega) | (simp; omega))]; first | assumption | go_simp
                  have hc : World.cell? wq ⟨q, 0, none⟩ = some (.int .u64 (nx : Int)) := by rw [look_cell hl]; rfl
                  have h44 : vs 44 = .pointer (some ⟨q, 0, none⟩) := meets_get hm 9 rfl rfl rfl rfl
                  have h41 : vs 41 = .bool true := meets_get hm 6 rfl rfl rfl rfl
                  clear hm
                  simp only [fill, h44, h41]
                  go_wp2
                  exact ⟨_, rfl, rfl, Below.refl _ _, trivial⟩
                · intro vs wq hB hm
                  have h45 : vs 45 = .int .u64 (nx : Int) := meets_get hm 10 rfl rfl rfl rfl
                  have h41 : vs 41 = .bool true := meets_get hm 6 rfl rfl rfl rfl
                  clear hm
                  simp only [fill, h45, h41]
                  go_wp2
                  exact ⟨_, rfl, (by show (_ : Value) = _; first | rfl | exact congrArg Value.bool e2 | (refine congrArg Value.bool ?_; first | exact decide_eq_true (by have := of_decide_eq_true e2; omega) | exact decide_eq_false (by have := of_decide_eq_false e2; omega))), Below.refl _ _, trivial⟩
                · intro vs wq hB hm
                  have h41 : vs 41 = .bool true := meets_get hm 6 rfl rfl rfl rfl
                  have h46 : vs 46 = .bool true := meets_get hm 11 rfl rfl rfl rfl
                  clear hm
                  simp only [fill, h41, h46]
                  go_wp2
                  exact ⟨_, rfl, rfl, Below.refl _ _, trivial⟩
                · intro vs wq hB hm
                  have h47 : vs 47 = .bool true := meets_get hm 12 rfl rfl rfl rfl
                  clear hm
                  simp only [fill, h47]
                  go_wp2
                  exact ⟨_, rfl, rfl, Below.refl _ _, trivial⟩
                · intro vs wq hB hm
                  have h48 : vs 48 = .bool true := meets_get hm 13 rfl rfl rfl rfl
                  clear hm
                  simp only [fill, h48]
                  go_wp2
                  exact ⟨_, rfl, rfl, Below.refl _ _, trivial⟩
                · intro vs wq hB hm
                  have h49 : vs 49 = .pointer (some ⟨q, 0, none⟩) := meets_get hm 14 rfl rfl rfl rfl
                  have h48 : vs 48 = .bool true := meets_get hm 13 rfl rfl rfl rfl
                  clear hm
                  simp only [fill, h49, h48]
                  go_wp2
                  exact ⟨_, rfl, rfl, Below.refl _ _, trivial⟩
                · intro vs wq hB hm
                  have h50 : vs 50 = .pointer (some ⟨q, 0, none⟩) := meets_get hm 15 rfl rfl rfl rfl
                  have h48 : vs 48 = .bool true := meets_get hm 13 rfl rfl rfl rfl
                  clear hm
                  simp only [fill, h50, h48]
                  go_wp2
                  exact ⟨_, rfl, rfl, Below.refl _ _, trivial⟩
                · intro vs wq hB hm
                  have hl : look wq (q) = some (.cells (#[.int .u64 (nx : Int), .slice va acc.length vc, .int .u64 (ex : Int)]) 51 (0, 0)) := by rw [look_below hB (by first | omega | (simp only [World.size_alloc]; omega) | exact look_lt (by assumption) | (simp only [World.size_alloc, World.size_setCell]; omega) | (simp; omega))]; first | assumption | go_simp
                  have hc : World.cell? wq ⟨q, 2, none⟩ = some (.int .u64 (ex : Int)) := by rw [look_cell hl]; rfl
                  have h51 : vs 51 = .pointer (some ⟨q, 2, none⟩) := meets_get hm 16 rfl rfl rfl rfl
                  have h48 : vs 48 = .bool true := meets_get hm 13 rfl rfl rfl rfl
                  clear hm
                  simp only [fill, h51, h48]
                  go_wp2
                  exact ⟨_, rfl, rfl, Below.refl _ _, trivial⟩
                · intro vs wq hB hm
                  have h52 : vs 52 = .int .u64 (ex : Int) := meets_get hm 17 rfl rfl rfl rfl
                  have h48 : vs 48 = .bool true := meets_get hm 13 rfl rfl rfl rfl
                  clear hm
                  simp only [fill, h52, h48]
                  go_wp2
                  exact ⟨_, rfl, (by show (_ : Value) = _; first | rfl | exact congrArg Value.bool e3 | (refine congrArg Value.bool ?_; first | exact decide_eq_true (by have := of_decide_eq_true e3; omega) | exact decide_eq_false (by have := of_decide_eq_false e3; omega))), Below.refl _ _, trivial⟩
                · intro vs wq hB hm
                  have h48 : vs 48 = .bool true := meets_get hm 13 rfl rfl rfl rfl
                  have h53 : vs 53 = .bool true := meets_get hm 18 rfl rfl rfl rfl
                  clear hm
                  simp only [fill, h48, h53]
                  go_wp2
                  exact ⟨_, rfl, rfl, Below.refl _ _, trivial⟩
                · intro vs wq hB hm
                  have h54 : vs 54 = .bool true := meets_get hm 19 rfl rfl rfl rfl
                  clear hm
                  simp only [fill, h54]
                  go_wp2
                  exact ⟨_, rfl, rfl, Below.refl _ _, trivial⟩
                · intro vs wq hB hm
                  have h55 : vs 55 = .bool true := meets_get hm 20 rfl rfl rfl rfl
                  clear hm
                  simp only [fill, h55]
                  go_wp2
                  exact ⟨_, rfl, rfl, Below.refl _ _, trivial⟩
                · intro vs wq hB hm
                  have h56 : vs 56 = .pointer (some ⟨q, 0, none⟩) := meets_get hm 21 rfl rfl rfl rfl
                  have h55 : vs 55 = .bool true := meets_get hm 20 rfl rfl rfl rfl
                  clear hm
                  simp only [fill, h56, h55]
                  go_wp2
                  exact ⟨_, rfl, rfl, Below.refl _ _, trivial⟩
                · intro vs wq hB hm
                  have h57 : vs 57 = .pointer (some ⟨q, 0, none⟩) := meets_get hm 22 rfl rfl rfl rfl
                  have h55 : vs 55 = .bool true := meets_get hm 20 rfl rfl rfl rfl
                  clear hm
                  simp only [fill, h57, h55]
                  go_wp2
                  exact ⟨_, rfl, rfl, Below.refl _ _, trivial⟩
                · intro vs wq hB hm
                  have hl : look wq (q) = some (.cells (#[.int .u64 (nx : Int), .slice va acc.length vc, .int .u64 (ex : Int)]) 51 (0, 0)) := by rw [look_below hB (by first | omega | (simp only [World.size_alloc]; omega) | exact look_lt (by assumption) | (simp only [World.size_alloc, World.size_setCell]; omega) | (simp; omega))]; first | assumption | go_simp
                  have hc : World.cell? wq ⟨q, 2, none⟩ = some (.int .u64 (ex : Int)) := by rw [look_cell hl]; rfl
                  have h58 : vs 58 = .pointer (some ⟨q, 2, none⟩) := meets_get hm 23 rfl rfl rfl rfl
                  have h55 : vs 55 = .bool true := meets_get hm 20 rfl rfl rfl rfl
                  clear hm
                  simp only [fill, h58, h55]
                  go_wp2
                  exact ⟨_, rfl, rfl, Below.refl _ _, trivial⟩
                · intro vs wq hB hm
                  have h59 : vs 59 = .int .u64 (ex : Int) := meets_get hm 24 rfl rfl rfl rfl
                  have h55 : vs 55 = .bool true := meets_get hm 20 rfl rfl rfl rfl
                  clear hm
                  simp only [fill, h59, h55]
                  go_wp2
                  exact ⟨_, rfl, (by show (_ : Value) = _; first | rfl | exact congrArg Value.bool e4 | (refine congrArg Value.bool ?_; first | exact decide_eq_true (by have := of_decide_eq_true e4; omega) | exact decide_eq_false (by have := of_decide_eq_false e4; omega))), Below.refl _ _, trivial⟩
                · intro vs wq hB hm
                  have h55 : vs 55 = .bool true := meets_get hm 20 rfl rfl rfl rfl
                  have h60 : vs 60 = .bool true := meets_get hm 25 rfl rfl rfl rfl
                  clear hm
                  simp only [fill, h55, h60]
                  go_wp2
                  exact ⟨_, rfl, rfl, Below.refl _ _, trivial⟩
                · intro vs wq hB hm
                  have h61 : vs 61 = .bool true := meets_get hm 26 rfl rfl rfl rfl
                  clear hm
                  simp only [fill, h61]
                  go_wp2
                  exact ⟨_, rfl, rfl, Below.refl _ _, trivial⟩
                · intro vs wq hB hm
                  have h62 : vs 62 = .bool true := meets_get hm 27 rfl rfl rfl rfl
                  clear hm
                  simp only [fill, h62]
                  go_wp2
                  exact ⟨_, rfl, rfl, Below.refl _ _, trivial⟩
                · intro vs wq hB hm
                  have h63 : vs 63 = .pointer (some ⟨q, 0, none⟩) := meets_get hm 28 rfl rfl rfl rfl
                  have h62 : vs 62 = .bool true := meets_get hm 27 rfl rfl rfl rfl
                  clear hm
                  simp only [fill, h63, h62]
                  go_wp2
                  exact ⟨_, rfl, rfl, Below.refl _ _, trivial⟩
                · intro vs wq hB hm
                  have h64 : vs 64 = .pointer (some ⟨q, 0, none⟩) := meets_get hm 29 rfl rfl rfl rfl
                  have h62 : vs 62 = .bool true := meets_get hm 27 rfl rfl rfl rfl
                  clear hm
                  simp only [fill, h64, h62]
                  go_wp2
                  exact ⟨_, rfl, rfl, Below.refl _ _, trivial⟩
                · intro vs wq hB hm
                  have hl : look wq (q) = some (.cells (#[.int .u64 (nx : Int), .slice va acc.length vc, .int .u64 (ex : Int)]) 51 (0, 0)) := by rw [look_below hB (by first | omega | (simp only [World.size_alloc]; omega) | exact look_lt (by assumption) | (simp only [World.size_alloc, World.size_setCell]; omega) | (simp; omega))]; first | assumption | go_simp
                  have hc : World.cell? wq ⟨q, 1, none⟩ = some (.slice va acc.length vc) := by rw [look_cell hl]; rfl
                  have h65 : vs 65 = .pointer (some ⟨q, 1, none⟩) := meets_get hm 30 rfl rfl rfl rfl
                  have h62 : vs 62 = .bool true := meets_get hm 27 rfl rfl rfl rfl
                  clear hm
                  simp only [fill, h65, h62]
                  go_wp2
                  exact ⟨_, rfl, rfl, Below.refl _ _, trivial⟩
                · intro vs wq hB hm
                  have h66 : vs 66 = .slice va acc.length vc := meets_get hm 31 rfl rfl rfl rfl
                  have h62 : vs 62 = .bool true := meets_get hm 27 rfl rfl rfl rfl
                  clear hm
                  simp only [fill, h66, h62]
                  go_wp2
                  exact ⟨_, rfl, rfl, Below.refl _ _, trivial⟩
                · intro vs wq hB hm
                  have h67 : vs 67 = .int .i64 (acc.length : Int) := meets_get hm 32 rfl rfl rfl rfl
                  have h62 : vs 62 = .bool true := meets_get hm 27 rfl rfl rfl rfl
                  clear hm
                  simp only [fill, h67, h62]
                  go_wp2
                  exact ⟨_, rfl, rfl, Below.refl _ _, trivial⟩
                · intro vs wq hB hm
                  have h62 : vs 62 = .bool true := meets_get hm 27 rfl rfl rfl rfl
                  clear hm
                  simp only [fill, h62]
                  go_wp2
                  exact ⟨_, rfl, rfl, Below.refl _ _, trivial⟩
                · intro vs wq hB hm
                  have h69 : vs 69 = .pointer (some ⟨q, 0, none⟩) := meets_get hm 34 rfl rfl rfl rfl
                  have h62 : vs 62 = .bool true := meets_get hm 27 rfl rfl rfl rfl
                  clear hm
                  simp only [fill, h69, h62]
                  go_wp2
                  exact ⟨_, rfl, rfl, Below.refl _ _, trivial⟩
                · intro vs wq hB hm
                  have h70 : vs 70 = .pointer (some ⟨q, 0, none⟩) := meets_get hm 35 rfl rfl rfl rfl
                  have h62 : vs 62 = .bool true := meets_get hm 27 rfl rfl rfl rfl
                  clear hm
                  simp only [fill, h70, h62]
                  go_wp2
                  exact ⟨_, rfl, rfl, Below.refl _ _, trivial⟩
                · intro vs wq hB hm
                  have hl : look wq (q) = some (.cells (#[.int .u64 (nx : Int), .slice va acc.length vc, .int .u64 (ex : Int)]) 51 (0, 0)) := by rw [look_below hB (by first | omega | (simp only [World.size_alloc]; omega) | exact look_lt (by assumption) | (simp only [World.size_alloc, World.size_setCell]; omega) | (simp; omega))]; first | assumption | go_simp
                  have hc : World.cell? wq ⟨q, 0, none⟩ = some (.int .u64 (nx : Int)) := by rw [look_cell hl]; rfl
                  have h71 : vs 71 = .pointer (some ⟨q, 0, none⟩) := meets_get hm 36 rfl rfl rfl rfl
                  have h62 : vs 62 = .bool true := meets_get hm 27 rfl rfl rfl rfl
                  clear hm
                  simp only [fill, h71, h62]
                  go_wp2
                  exact ⟨_, rfl, rfl, Below.refl _ _, trivial⟩
                · intro vs wq hB hm
                  have h68 : vs 68 = .int .u64 (acc.length : Int) := meets_get hm 33 rfl rfl rfl rfl
                  have h72 : vs 72 = .int .u64 (nx : Int) := meets_get hm 37 rfl rfl rfl rfl
                  have h62 : vs 62 = .bool true := meets_get hm 27 rfl rfl rfl rfl
                  clear hm
                  simp only [fill, h68, h72, h62]
                  go_wp2
                  exact ⟨_, rfl, (by show (_ : Value) = _; first | rfl | exact congrArg Value.bool e5 | (refine congrArg Value.bool ?_; first | exact decide_eq_true (by have := of_decide_eq_true e5; omega) | exact decide_eq_false (by have := of_decide_eq_false e5; omega))), Below.refl _ _, trivial⟩
                · intro vs wq hB hm
                  have h62 : vs 62 = .bool true := meets_get hm 27 rfl rfl rfl rfl
                  have h73 : vs 73 = .bool false := meets_get hm 38 rfl rfl rfl rfl
                  clear hm
                  simp only [fill, h62, h73]
                  go_wp2
                  exact ⟨_, rfl, rfl, Below.refl _ _, trivial⟩
                intro vs wq hB hm hne hlo
                have h35 : vs 35 = .pointer (some ⟨p, 0, none⟩) := hm 0 _ _ _ rfl rfl rfl
                have h74 : vs 74 = .bool false := hm 39 _ _ _ rfl rfl rfl
                clear hne hlo
                simp only [fill, List.filterMap, List.take, List.drop, List.setIfInBounds_toArray, List.set_cons_zero, List.set_cons_succ, h35, h74]
                clear hm h35 h74
                have hrd6 := rdAt_below hrd5 hB
                have hgr6 := grown_trans hgr5 (below_grown hB (some p))
                go_wp2_with fail
                refine (rmust_any p _ false _ hrd6).mono ?_
                rintro e _ ⟨hm2, rfl⟩
                have hm3 : faultC 3 e := hm2
                cases hm3
                have hdz : Hid (decLk bs = .fault 3) := hidP (by rw [hdh2.out]; rfl)
                go_wp2
                exact ⟨rfl, rdV_fault hdz.out hgr6⟩
            · skip
              have e1 : decide ((1 : Int) ≤ (nx : Int)) = true := decide_eq_true (by omega)
              have e2 : decide ((nx : Int) ≤ 1099511627777) = true := decide_eq_true (by omega)
              have e3 : decide ((1 : Int) ≤ (ex : Int)) = true := decide_eq_true (by omega)
              have e4 : decide ((ex : Int) ≤ 1099511627777) = false := decide_eq_false (by omega)
              have hok : okN nx ex acc.length = false := decide_eq_false (fun h => k4 h.2.2.2.1)
              rw [hok] at hdh2
              clear hok k1 k2 k3 k4
              refine wp_region_wordsB wmixed 40 ([] :: [] :: [36] :: [37] :: [38] :: [39] :: [40] :: [41] :: [42, 41] :: [43, 41] :: [44, 41] :: [45, 41] :: [41, 46] :: [47] :: [48] :: [49, 48] :: [50, 48] :: [51, 48] :: [52, 48] :: [48, 53] :: [54] :: [55] :: [56, 55] :: [57, 55] :: [58, 55] :: [59, 55] :: [55, 60] :: [61] :: [62] :: [63, 62] :: [64, 62] :: [65, 62] :: [66, 62] :: [67, 62] :: [62] :: [69, 62] :: [70, 62] :: [71, 62] :: [68, 72, 62] :: [62, 73] :: []) (isV (.pointer (some ⟨p, 0, none⟩)) :: isV (.pointer (some ⟨q, 0, none⟩)) :: isV (.pointer (some ⟨q, 0, none⟩)) :: isV (.pointer (some ⟨q, 0, none⟩)) :: isV (.int .u64 (nx : Int)) :: isV (.bool true) :: isV (.bool true) :: isV (.pointer (some ⟨q, 0, none⟩)) :: isV (.pointer (some ⟨q, 0, none⟩)) :: isV (.pointer (some ⟨q, 0, none⟩)) :: isV (.int .u64 (nx : Int)) :: isV (.bool true) :: isV (.bool true) :: isV (.bool true) :: isV (.pointer (some ⟨q, 0, none⟩)) :: isV (.pointer (some ⟨q, 0, none⟩)) :: isV (.pointer (some ⟨q, 2, none⟩)) :: isV (.int .u64 (ex : Int)) :: isV (.bool true) :: isV (.bool true) :: isV (.bool true) :: isV (.pointer (some ⟨q, 0, none⟩)) :: isV (.pointer (some ⟨q, 0, none⟩)) :: isV (.pointer (some ⟨q, 2, none⟩)) :: isV (.int .u64 (ex : Int)) :: isV (.bool false) :: isV (.bool false) :: isV (.bool false) :: isV (undef) :: isV (undef) :: isV (undef) :: isV (undef) :: isV (undef) :: isV (undef) :: isV (undef) :: isV (undef) :: isV (undef) :: isV (undef) :: isV (undef) :: isV (.bool false) :: []) (by decide) (by kernel_rfl)
                ⟨stab_isV _, stab_isV _, stab_isV _, stab_isV _, stab_isV _, stab_isV _, stab_isV _, stab_isV _, stab_isV _, stab_isV _, stab_isV _, stab_isV _, stab_isV _, stab_isV _, stab_isV _, stab_isV _, stab_isV _, stab_isV _, stab_isV _, stab_isV _, stab_isV _, stab_isV _, stab_isV _, stab_isV _, stab_isV _, stab_isV _, stab_isV _, stab_isV _, stab_isV _, stab_isV _, stab_isV _, stab_isV _, stab_isV _, stab_isV _, stab_isV _, stab_isV _, stab_isV _, stab_isV _, stab_isV _, stab_isV _, trivial⟩ ⟨?_, ?_, ?_, ?_, ?_, ?_, ?_, ?_, ?_, ?_, ?_, ?_, ?_, ?_, ?_, ?_, ?_, ?_, ?_, ?_, ?_, ?_, ?_, ?_, ?_, ?_, ?_, ?_, ?_, ?_, ?_, ?_, ?_, ?_, ?_, ?_, ?_, ?_, ?_, ?_, trivial⟩ ?_
              · intro vs wq hB hm
                clear hm
                simp only [fill]
                go_wp2
                exact ⟨_, rfl, rfl, Below.refl _ _, trivial⟩
              · intro vs wq hB hm
                clear hm
                simp only [fill]
                go_wp2
                exact ⟨_, rfl, rfl, Below.refl _ _, trivial⟩
              · intro vs wq hB hm
                have h36 : vs 36 = .pointer (some ⟨q, 0, none⟩) := meets_get hm 1 rfl rfl rfl rfl
                clear hm
                simp only [fill, h36]
                go_wp2
                exact ⟨_, rfl, rfl, Below.refl _ _, trivial⟩
              · intro vs wq hB hm
                have h37 : vs 37 = .pointer (some ⟨q, 0, none⟩) := meets_get hm 2 rfl rfl rfl rfl
                clear hm
                simp only [fill, h37]
                go_wp2
                exact ⟨_, rfl, rfl, Below.refl _ _, trivial⟩
              · intro vs wq hB hm
                have hl : look wq (q) = some (.cells (#[.int .u64 (nx : Int), .slice va acc.length vc, .int .u64 (ex : Int)]) 51 (0, 0)) := by rw [look_below hB (by first | omega | (simp only [World.size_alloc]; omega) | exact look_lt (by assumption) | (simp only [World.size_alloc, World.size_setCell]; omega) | (simp; omega))]; first | assumption | go_simp
                have hc : World.cell? wq ⟨q, 0, none⟩ = some (.int .u64 (nx : Int)) := by rw [look_cell hl]; rfl
                have h38 : vs 38 = .pointer (some ⟨q, 0, none⟩) := meets_get hm 3 rfl rfl rfl rfl
                clear hm
                simp only [fill, h38]
                go_wp2
                exact ⟨_, rfl, rfl, Below.refl _ _, trivial⟩
              · intro vs wq hB hm
                have h39 : vs 39 = .int .u64 (nx : Int) := meets_get hm 4 rfl rfl rfl rfl
                clear hm
                simp only [fill, h39]
                go_wp2
                exact ⟨_, rfl, (by show (_ : Value) = _; first | rfl | exact congrArg Value.bool e1 | (refine congrArg Value.bool ?_; first | exact decide_eq_true (by have := of_decide_eq_true e1; omega) | exact decide_eq_false (by have := of_decide_eq_false e1; omega))), Below.refl _ _, trivial⟩
              · intro vs wq hB hm
                have h40 : vs 40 = .bool true := meets_get hm 5 rfl rfl rfl rfl
                clear hm
                simp only [fill, h40]
                go_wp2
                exact ⟨_, rfl, rfl, Below.refl _ _, trivial⟩
              · intro vs wq hB hm
                have h41 : vs 41 = .bool true := meets_get hm 6 rfl rfl rfl rfl
                clear hm
                simp only [fill, h41]
                go_wp2
                exact ⟨_, rfl, rfl, Below.refl _ _, trivial⟩
              · intro vs wq hB hm
                have h42 : vs 42 = .pointer (some ⟨q, 0, none⟩) := meets_get hm 7 rfl rfl rfl rfl
                have h41 : vs 41 = .bool true := meets_get hm 6 rfl rfl rfl rfl
                clear hm
                simp only [fill, h42, h41]
                go_wp2
                exact ⟨_, rfl, rfl, Below.refl _ _, trivial⟩
              · intro vs wq hB hm
                have h43 : vs 43 = .pointer (some ⟨q, 0, none⟩) := meets_get hm 8 rfl rfl rfl rfl
                have h41 : vs 41 = .bool true := meets_get hm 6 rfl rfl rfl rfl
                clear hm
                simp only [fill, h43, h41]
                go_wp2
                exact ⟨_, rfl, rfl, Below.refl _ _, trivial⟩
              · intro vs wq hB hm
                have hl : look wq (q) = some (.cells (#[.int .u64 (nx : Int), .slice va acc.length vc, .int .u64 (ex : Int)]) 51 (0, 0)) := by rw [look_below hB (by first | omega | (simp only [World.size_alloc]; omega) | exact look_lt (by assumption) | (simp only [World.size_alloc, World.size_setCell]; omega) | (simp; omega))]; first | assumption | go_simp
                have hc : World.cell? wq ⟨q, 0, none⟩ = some (.int .u64 (nx : Int)) := by rw [look_cell hl]; rfl
                have h44 : vs 44 = .pointer (some ⟨q, 0, none⟩) := meets_get hm 9 rfl rfl rfl rfl
                have h41 : vs 41 = .bool true := meets_get hm 6 rfl rfl rfl rfl
                clear hm
                simp only [fill, h44, h41]
                go_wp2
                exact ⟨_, rfl, rfl, Below.refl _ _, trivial⟩
              · intro vs wq hB hm
                have h45 : vs 45 = .int .u64 (nx : Int) := meets_get hm 10 rfl rfl rfl rfl
                have h41 : vs 41 = .bool true := meets_get hm 6 rfl rfl rfl rfl
                clear hm
                simp only [fill, h45, h41]
                go_wp2
                exact ⟨_, rfl, (by show (_ : Value) = _; first | rfl | exact congrArg Value.bool e2 | (refine congrArg Value.bool ?_; first | exact decide_eq_true (by have := of_decide_eq_true e2; omega) | exact decide_eq_false (by have := of_decide_eq_false e2; omega))), Below.refl _ _, trivial⟩
              · intro vs wq hB hm
                have h41 : vs 41 = .bool true := meets_get hm 6 rfl rfl rfl rfl
                have h46 : vs 46 = .bool true := meets_get hm 11 rfl rfl rfl rfl
                clear hm
                simp only [fill, h41, h46]
                go_wp2
                exact ⟨_, rfl, rfl, Below.refl _ _, trivial⟩
              · intro vs wq hB hm
                have h47 : vs 47 = .bool true := meets_get hm 12 rfl rfl rfl rfl
                clear hm
                simp only [fill, h47]
                go_wp2
                exact ⟨_, rfl, rfl, Below.refl _ _, trivial⟩
              · intro vs wq hB hm
                have h48 : vs 48 = .bool true := meets_get hm 13 rfl rfl rfl rfl
                clear hm
                simp only [fill, h48]
                go_wp2
                exact ⟨_, rfl, rfl, Below.refl _ _, trivial⟩
              · intro vs wq hB hm
                have h49 : vs 49 = .pointer (some ⟨q, 0, none⟩) := meets_get hm 14 rfl rfl rfl rfl
                have h48 : vs 48 = .bool true := meets_get hm 13 rfl rfl rfl rfl
                clear hm
                simp only [fill, h49, h48]
                go_wp2
                exact ⟨_, rfl, rfl, Below.refl _ _, trivial⟩
              · intro vs wq hB hm
                have h50 : vs 50 = .pointer (some ⟨q, 0, none⟩) := meets_get hm 15 rfl rfl rfl rfl
                have h48 : vs 48 = .bool true := meets_get hm 13 rfl rfl rfl rfl
                clear hm
                simp only [fill, h50, h48]
                go_wp2
                exact ⟨_, rfl, rfl, Below.refl _ _, trivial⟩
              · intro vs wq hB hm
                have hl : look wq (q) = some (.cells (#[.int .u64 (nx : Int), .slice va acc.length vc, .int .u64 (ex : Int)]) 51 (0, 0)) := by rw [look_below hB (by first | omega | (simp only [World.size_alloc]; omega) | exact look_lt (by assumption) | (simp only [World.size_alloc, World.size_setCell]; omega) | (simp; omega))]; first | assumption | go_simp
                have hc : World.cell? wq ⟨q, 2, none⟩ = some (.int .u64 (ex : Int)) := by rw [look_cell hl]; rfl
                have h51 : vs 51 = .pointer (some ⟨q, 2, none⟩) := meets_get hm 16 rfl rfl rfl rfl
                have h48 : vs 48 = .bool true := meets_get hm 13 rfl rfl rfl rfl
                clear hm
                simp only [fill, h51, h48]
                go_wp2
                exact ⟨_, rfl, rfl, Below.refl _ _, trivial⟩
              · intro vs wq hB hm
                have h52 : vs 52 = .int .u64 (ex : Int) := meets_get hm 17 rfl rfl rfl rfl
                have h48 : vs 48 = .bool true := meets_get hm 13 rfl rfl rfl rfl
                clear hm
                simp only [fill, h52, h48]
                go_wp2
                exact ⟨_, rfl, (by show (_ : Value) = _; first | rfl | exact congrArg Value.bool e3 | (refine congrArg Value.bool ?_; first | exact decide_eq_true (by have := of_decide_eq_true e3; omega) | exact decide_eq_false (by have := of_decide_eq_false e3; omega))), Below.refl _ _, trivial⟩
              · intro vs wq hB hm
                have h48 : vs 48 = .bool true := meets_get hm 13 rfl rfl rfl rfl
                have h53 : vs 53 = .bool true := meets_get hm 18 rfl rfl rfl rfl
                clear hm
                simp only [fill, h48, h53]
                go_wp2
                exact ⟨_, rfl, rfl, Below.refl _ _, trivial⟩
              · intro vs wq hB hm
                have h54 : vs 54 = .bool true := meets_get hm 19 rfl rfl rfl rfl
                clear hm
                simp only [fill, h54]
                go_wp2
                exact ⟨_, rfl, rfl, Below.refl _ _, trivial⟩
              · intro vs wq hB hm
                have h55 : vs 55 = .bool true := meets_get hm 20 rfl rfl rfl rfl
                clear hm
                simp only [fill, h55]
                go_wp2
                exact ⟨_, rfl, rfl, Below.refl _ _, trivial⟩
              · intro vs wq hB hm
                have h56 : vs 56 = .pointer (some ⟨q, 0, none⟩) := meets_get hm 21 rfl rfl rfl rfl
                have h55 : vs 55 = .bool true := meets_get hm 20 rfl rfl rfl rfl
                clear hm
                simp only [fill, h56, h55]
                go_wp2
                exact ⟨_, rfl, rfl, Below.refl _ _, trivial⟩
              · intro vs wq hB hm
                have h57 : vs 57 = .pointer (some ⟨q, 0, none⟩) := meets_get hm 22 rfl rfl rfl rfl
                have h55 : vs 55 = .bool true := meets_get hm 20 rfl rfl rfl rfl
                clear hm
                simp only [fill, h57, h55]
                go_wp2
                exact ⟨_, rfl, rfl, Below.refl _ _, trivial⟩
              · intro vs wq hB hm
                have hl : look wq (q) = some (.cells (#[.int .u64 (nx : Int), .slice va acc.length vc, .int .u64 (ex : Int)]) 51 (0, 0)) := by rw [look_below hB (by first | omega | (simp only [World.size_alloc]; omega) | exact look_lt (by assumption) | (simp only [World.size_alloc, World.size_setCell]; omega) | (simp; omega))]; first | assumption | go_simp
                have hc : World.cell? wq ⟨q, 2, none⟩ = some (.int .u64 (ex : Int)) := by rw [look_cell hl]; rfl
                have h58 : vs 58 = .pointer (some ⟨q, 2, none⟩) := meets_get hm 23 rfl rfl rfl rfl
                have h55 : vs 55 = .bool true := meets_get hm 20 rfl rfl rfl rfl
                clear hm
                simp only [fill, h58, h55]
                go_wp2
                exact ⟨_, rfl, rfl, Below.refl _ _, trivial⟩
              · intro vs wq hB hm
                have h59 : vs 59 = .int .u64 (ex : Int) := meets_get hm 24 rfl rfl rfl rfl
                have h55 : vs 55 = .bool true := meets_get hm 20 rfl rfl rfl rfl
                clear hm
                simp only [fill, h59, h55]
                go_wp2
                exact ⟨_, rfl, (by show (_ : Value) = _; first | rfl | exact congrArg Value.bool e4 | (refine congrArg Value.bool ?_; first | exact decide_eq_true (by have := of_decide_eq_true e4; omega) | exact decide_eq_false (by have := of_decide_eq_false e4; omega))), Below.refl _ _, trivial⟩
              · intro vs wq hB hm
                have h55 : vs 55 = .bool true := meets_get hm 20 rfl rfl rfl rfl
                have h60 : vs 60 = .bool false := meets_get hm 25 rfl rfl rfl rfl
                clear hm
                simp only [fill, h55, h60]
                go_wp2
                exact ⟨_, rfl, rfl, Below.refl _ _, trivial⟩
              · intro vs wq hB hm
                have h61 : vs 61 = .bool false := meets_get hm 26 rfl rfl rfl rfl
                clear hm
                simp only [fill, h61]
                go_wp2
                exact ⟨_, rfl, rfl, Below.refl _ _, trivial⟩
              · intro vs wq hB hm
                have h62 : vs 62 = .bool false := meets_get hm 27 rfl rfl rfl rfl
                clear hm
                simp only [fill, h62]
                refine wpList_skip (by rfl) ?_
                exact ⟨_, rfl, rfl, Below.refl _ _, trivial⟩
              · intro vs wq hB hm
                have h63 : vs 63 = undef := meets_get hm 28 rfl rfl rfl rfl
                have h62 : vs 62 = .bool false := meets_get hm 27 rfl rfl rfl rfl
                clear hm
                simp only [fill, h63, h62]
                refine wpList_skip (by rfl) ?_
                exact ⟨_, rfl, rfl, Below.refl _ _, trivial⟩
              · intro vs wq hB hm
                have h64 : vs 64 = undef := meets_get hm 29 rfl rfl rfl rfl
                have h62 : vs 62 = .bool false := meets_get hm 27 rfl rfl rfl rfl
                clear hm
                simp only [fill, h64, h62]
                refine wpList_skip (by rfl) ?_
                exact ⟨_, rfl, rfl, Below.refl _ _, trivial⟩
              · intro vs wq hB hm
                have h65 : vs 65 = undef := meets_get hm 30 rfl rfl rfl rfl
                have h62 : vs 62 = .bool false := meets_get hm 27 rfl rfl rfl rfl
                clear hm
                simp only [fill, h65, h62]
                refine wpList_skip (by rfl) ?_
                exact ⟨_, rfl, rfl, Below.refl _ _, trivial⟩
              · intro vs wq hB hm
                have h66 : vs 66 = undef := meets_get hm 31 rfl rfl rfl rfl
                have h62 : vs 62 = .bool false := meets_get hm 27 rfl rfl rfl rfl
                clear hm
                simp only [fill, h66, h62]
                refine wpList_skip (by rfl) ?_
                exact ⟨_, rfl, rfl, Below.refl _ _, trivial⟩
              · intro vs wq hB hm
                have h67 : vs 67 = undef := meets_get hm 32 rfl rfl rfl rfl
                have h62 : vs 62 = .bool false := meets_get hm 27 rfl rfl rfl rfl
                clear hm
                simp only [fill, h67, h62]
                refine wpList_skip (by rfl) ?_
                exact ⟨_, rfl, rfl, Below.refl _ _, trivial⟩
              · intro vs wq hB hm
                have h62 : vs 62 = .bool false := meets_get hm 27 rfl rfl rfl rfl
                clear hm
                simp only [fill, h62]
                refine wpList_skip (by rfl) ?_
                exact ⟨_, rfl, rfl, Below.refl _ _, trivial⟩
              · intro vs wq hB hm
                have h69 : vs 69 = undef := meets_get hm 34 rfl rfl rfl rfl
                have h62 : vs 62 = .bool false := meets_get hm 27 rfl rfl rfl rfl
                clear hm
                simp only [fill, h69, h62]
                refine wpList_skip (by rfl) ?_
                exact ⟨_, rfl, rfl, Below.refl _ _, trivial⟩
              · intro vs wq hB hm
                have h70 : vs 70 = undef := meets_get hm 35 rfl rfl rfl rfl
                have h62 : vs 62 = .bool false := meets_get hm 27 rfl rfl rfl rfl
                clear hm
                simp only [fill, h70, h62]
                refine wpList_skip (by rfl) ?_
                exact ⟨_, rfl, rfl, Below.refl _ _, trivial⟩
              · intro vs wq hB hm
                have h71 : vs 71 = undef := meets_get hm 36 rfl rfl rfl rfl
                have h62 : vs 62 = .bool false := meets_get hm 27 rfl rfl rfl rfl
                clear hm
                simp only [fill, h71, h62]
                refine wpList_skip (by rfl) ?_
                exact ⟨_, rfl, rfl, Below.refl _ _, trivial⟩
              · intro vs wq hB hm
                have h68 : vs 68 = undef := meets_get hm 33 rfl rfl rfl rfl
                have h72 : vs 72 = undef := meets_get hm 37 rfl rfl rfl rfl
                have h62 : vs 62 = .bool false := meets_get hm 27 rfl rfl rfl rfl
                clear hm
                simp only [fill, h68, h72, h62]
                refine wpList_skip (by rfl) ?_
                exact ⟨_, rfl, rfl, Below.refl _ _, trivial⟩
              · intro vs wq hB hm
                have h62 : vs 62 = .bool false := meets_get hm 27 rfl rfl rfl rfl
                have h73 : vs 73 = undef := meets_get hm 38 rfl rfl rfl rfl
                clear hm
                simp only [fill, h62, h73]
                go_wp2
                exact ⟨_, rfl, rfl, Below.refl _ _, trivial⟩
              intro vs wq hB hm hne hlo
              have h35 : vs 35 = .pointer (some ⟨p, 0, none⟩) := hm 0 _ _ _ rfl rfl rfl
              have h74 : vs 74 = .bool false := hm 39 _ _ _ rfl rfl rfl
              clear hne hlo
              simp only [fill, List.filterMap, List.take, List.drop, List.setIfInBounds_toArray, List.set_cons_zero, List.set_cons_succ, h35, h74]
              clear hm h35 h74
              have hrd6 := rdAt_below hrd5 hB
              have hgr6 := grown_trans hgr5 (below_grown hB (some p))
              go_wp2_with fail
              refine (rmust_any p _ false _ hrd6).mono ?_
              rintro e _ ⟨hm2, rfl⟩
              have hm3 : faultC 3 e := hm2
              cases hm3
              have hdz : Hid (decLk bs = .fault 3) := hidP (by rw [hdh2.out]; rfl)
              go_wp2
              exact ⟨rfl, rdV_fault hdz.out hgr6⟩
          · skip
            have e1 : decide ((1 : Int) ≤ (nx : Int)) = true := decide_eq_true (by omega)
            have e2 : decide ((nx : Int) ≤ 1099511627777) = true := decide_eq_true (by omega)
            have e3 : decide ((1 : Int) ≤ (ex : Int)) = false := decide_eq_false (by omega)
            have hok : okN nx ex acc.length = false := decide_eq_false (fun h => k3 h.2.2.1)
            rw [hok] at hdh2
            clear hok k1 k2 k3
            refine wp_region_wordsB wmixed 40 ([] :: [] :: [36] :: [37] :: [38] :: [39] :: [40] :: [41] :: [42, 41] :: [43, 41] :: [44, 41] :: [45, 41] :: [41, 46] :: [47] :: [48] :: [49, 48] :: [50, 48] :: [51, 48] :: [52, 48] :: [48, 53] :: [54] :: [55] :: [56, 55] :: [57, 55] :: [58, 55] :: [59, 55] :: [55, 60] :: [61] :: [62] :: [63, 62] :: [64, 62] :: [65, 62] :: [66, 62] :: [67, 62] :: [62] :: [69, 62] :: [70, 62] :: [71, 62] :: [68, 72, 62] :: [62, 73] :: []) (isV (.pointer (some ⟨p, 0, none⟩)) :: isV (.pointer (some ⟨q, 0, none⟩)) :: isV (.pointer (some ⟨q, 0, none⟩)) :: isV (.pointer (some ⟨q, 0, none⟩)) :: isV (.int .u64 (nx : Int)) :: isV (.bool true) :: isV (.bool true) :: isV (.pointer (some ⟨q, 0, none⟩)) :: isV (.pointer (some ⟨q, 0, none⟩)) :: isV (.pointer (some ⟨q, 0, none⟩)) :: isV (.int .u64 (nx : Int)) :: isV (.bool true) :: isV (.bool true) :: isV (.bool true) :: isV (.pointer (some ⟨q, 0, none⟩)) :: isV (.pointer (some ⟨q, 0, none⟩)) :: isV (.pointer (some ⟨q, 2, none⟩)) :: isV (.int .u64 (ex : Int)) :: isV (.bool false) :: isV (.bool false) :: isV (.bool false) :: isV (undef) :: isV (undef) :: isV (undef) :: isV (undef) :: isV (undef) :: isV (.bool false) :: isV (.bool false) :: isV (undef) :: isV (undef) :: isV (undef) :: isV (undef) :: isV (undef) :: isV (undef) :: isV (undef) :: isV (undef) :: isV (undef) :: isV (undef) :: isV (undef) :: isV (.bool false) :: []) (by decide) (by kernel_rfl)
              ⟨stab_isV _, stab_isV _, stab_isV _, stab_isV _, stab_isV _, stab_isV _, stab_isV _, stab_isV _, stab_isV _, stab_isV _, stab_isV _, stab_isV _, stab_isV _, stab_isV _, stab_isV _, stab_isV _, stab_isV _, stab_isV _, stab_isV _, stab_isV _, stab_isV _, stab_isV _, stab_isV _, stab_isV _, stab_isV _, stab_isV _, stab_isV _, stab_isV _, stab_isV _, stab_isV _, stab_isV _, stab_isV _, stab_isV _, stab_isV _, stab_isV _, stab_isV _, stab_isV _, stab_isV _, stab_isV _, stab_isV _, trivial⟩ ⟨?_, ?_, ?_, ?_, ?_, ?_, ?_, ?_, ?_, ?_, ?_, ?_, ?_, ?_, ?_, ?_, ?_, ?_, ?_, ?_, ?_, ?_, ?_, ?_, ?_, ?_, ?_, ?_, ?_, ?_, ?_, ?_, ?_, ?_, ?_, ?_, ?_, ?_, ?_, ?_, trivial⟩ ?_
            · intro vs wq hB hm
              clear hm
              simp only [fill]
              go_wp2
              exact ⟨_, rfl, rfl, Below.refl _ _, trivial⟩
            · intro vs wq hB hm
              clear hm
              simp only [fill]
              go_wp2
              exact ⟨_, rfl, rfl, Below.refl _ _, trivial⟩
            · intro vs wq hB hm
              have h36 : vs 36 = .pointer (some ⟨q, 0, none⟩) := meets_get hm 1 rfl rfl rfl rfl
              clear hm
              simp only [fill, h36]
              go_wp2
              exact ⟨_, rfl, rfl, Below.refl _ _, trivial⟩
            · intro vs wq hB hm
              have h37 : vs 37 = .pointer (some ⟨q, 0, none⟩) := meets_get hm 2 rfl rfl rfl rfl
              clear hm
              simp only [fill, h37]
              go_wp2
              exact ⟨_, rfl, rfl, Below.refl _ _, trivial⟩
            · intro vs wq hB hm
              have hl : look wq (q) = some (.cells (#[.int .u64 (nx : Int), .slice va acc.length vc, .int .u64 (ex : Int)]) 51 (0, 0)) := by rw [look_below hB (by first | omega | (simp only [World.size_alloc]; omega) | exact look_lt (by assumption) | (simp only [World.size_alloc, World.size_setCell]; omega) | (simp; omega))]; first | assumption | go_simp
              have hc : World.cell? wq ⟨q, 0, none⟩ = some (.int .u64 (nx : Int)) := by rw [look_cell hl]; rfl
              have h38 : vs 38 = .pointer (some ⟨q, 0, none⟩) := meets_get hm 3 rfl rfl rfl rfl
              clear hm
              simp only [fill, h38]
              go_wp2
              exact ⟨_, rfl, rfl, Below.refl _ _, trivial⟩
            · intro vs wq hB hm
              have h39 : vs 39 = .int .u64 (nx : Int) := meets_get hm 4 rfl rfl rfl rfl
              clear hm
              simp only [fill, h39]
              go_wp2
              exact ⟨_, rfl, (by show (_ : Value) = _; first | rfl | exact congrArg Value.bool e1 | (refine congrArg Value.bool ?_; first | exact decide_eq_true (by have := of_decide_eq_true e1; omega) | exact decide_eq_false (by have := of_decide_eq_false e1; omega))), Below.refl _ _, trivial⟩
            · intro vs wq hB hm
              have h40 : vs 40 = .bool true := meets_get hm 5 rfl rfl rfl rfl
              clear hm
              simp only [fill, h40]
              go_wp2
              exact ⟨_, rfl, rfl, Below.refl _ _, trivial⟩
            · intro vs wq hB hm
              have h41 : vs 41 = .bool true := meets_get hm 6 rfl rfl rfl rfl
              clear hm
              simp only [fill, h41]
              go_wp2
              exact ⟨_, rfl, rfl, Below.refl _ _, trivial⟩
            · intro vs wq hB hm
              have h42 : vs 42 = .pointer (some ⟨q, 0, none⟩) := meets_get hm 7 rfl rfl rfl rfl
              have h41 : vs 41 = .bool true := meets_get hm 6 rfl rfl rfl rfl
              clear hm
              simp only [fill, h42, h41]
              go_wp2
              exact ⟨_, rfl, rfl, Below.refl _ _, trivial⟩
            · intro vs wq hB hm
              have h43 : vs 43 = .pointer (some ⟨q, 0, none⟩) := meets_get hm 8 rfl rfl rfl rfl
              have h41 : vs 41 = .bool true := meets_get hm 6 rfl rfl rfl rfl
              clear hm
              simp only [fill, h43, h41]
              go_wp2
              exact ⟨_, rfl, rfl, Below.refl _ _, trivial⟩
            · intro vs wq hB hm
              have hl : look wq (q) = some (.cells (#[.int .u64 (nx : Int), .slice va acc.length vc, .int .u64 (ex : Int)]) 51 (0, 0)) := by rw [look_below hB (by first | omega | (simp only [World.size_alloc]; omega) | exact look_lt (by assumption) | (simp only [World.size_alloc, World.size_setCell]; omega) | (simp; omega))]; first | assumption | go_simp
              have hc : World.cell? wq ⟨q, 0, none⟩ = some (.int .u64 (nx : Int)) := by rw [look_cell hl]; rfl
              have h44 : vs 44 = .pointer (some ⟨q, 0, none⟩) := meets_get hm 9 rfl rfl rfl rfl
              have h41 : vs 41 = .bool true := meets_get hm 6 rfl rfl rfl rfl
              clear hm
              simp only [fill, h44, h41]
              go_wp2
              exact ⟨_, rfl, rfl, Below.refl _ _, trivial⟩
            · intro vs wq hB hm
              have h45 : vs 45 = .int .u64 (nx : Int) := meets_get hm 10 rfl rfl rfl rfl
              have h41 : vs 41 = .bool true := meets_get hm 6 rfl rfl rfl rfl
              clear hm
              simp only [fill, h45, h41]
              go_wp2
              exact ⟨_, rfl, (by show (_ : Value) = _; first | rfl | exact congrArg Value.bool e2 | (refine congrArg Value.bool ?_; first | exact decide_eq_true (by have := of_decide_eq_true e2; omega) | exact decide_eq_false (by have := of_decide_eq_false e2; omega))), Below.refl _ _, trivial⟩
            · intro vs wq hB hm
              have h41 : vs 41 = .bool true := meets_get hm 6 rfl rfl rfl rfl
              have h46 : vs 46 = .bool true := meets_get hm 11 rfl rfl rfl rfl
              clear hm
              simp only [fill, h41, h46]
              go_wp2
              exact ⟨_, rfl, rfl, Below.refl _ _, trivial⟩
            · intro vs wq hB hm
              have h47 : vs 47 = .bool true := meets_get hm 12 rfl rfl rfl rfl
              clear hm
              simp only [fill, h47]
              go_wp2
              exact ⟨_, rfl, rfl, Below.refl _ _, trivial⟩
            · intro vs wq hB hm
              have h48 : vs 48 = .bool true := meets_get hm 13 rfl rfl rfl rfl
              clear hm
              simp only [fill, h48]
              go_wp2
              exact ⟨_, rfl, rfl, Below.refl _ _, trivial⟩
            · intro vs wq hB hm
              have h49 : vs 49 = .pointer (some ⟨q, 0, none⟩) := meets_get hm 14 rfl rfl rfl rfl
              have h48 : vs 48 = .bool true := meets_get hm 13 rfl rfl rfl rfl
              clear hm
              simp only [fill, h49, h48]
              go_wp2
              exact ⟨_, rfl, rfl, Below.refl _ _, trivial⟩
            · intro vs wq hB hm
              have h50 : vs 50 = .pointer (some ⟨q, 0, none⟩) := meets_get hm 15 rfl rfl rfl rfl
              have h48 : vs 48 = .bool true := meets_get hm 13 rfl rfl rfl rfl
              clear hm
              simp only [fill, h50, h48]
              go_wp2
              exact ⟨_, rfl, rfl, Below.refl _ _, trivial⟩
            · intro vs wq hB hm
              have hl : look wq (q) = some (.cells (#[.int .u64 (nx : Int), .slice va acc.length vc, .int .u64 (ex : Int)]) 51 (0, 0)) := by rw [look_below hB (by first | omega | (simp only [World.size_alloc]; omega) | exact look_lt (by assumption) | (simp only [World.size_alloc, World.size_setCell]; omega) | (simp; omega))]; first | assumption | go_simp
              have hc : World.cell? wq ⟨q, 2, none⟩ = some (.int .u64 (ex : Int)) := by rw [look_cell hl]; rfl
              have h51 : vs 51 = .pointer (some ⟨q, 2, none⟩) := meets_get hm 16 rfl rfl rfl rfl
              have h48 : vs 48 = .bool true := meets_get hm 13 rfl rfl rfl rfl
              clear hm
              simp only [fill, h51, h48]
              go_wp2
              exact ⟨_, rfl, rfl, Below.refl _ _, trivial⟩
            · intro vs wq hB hm
              have h52 : vs 52 = .int .u64 (ex : Int) := meets_get hm 17 rfl rfl rfl rfl
              have h48 : vs 48 = .bool true := meets_get hm 13 rfl rfl rfl rfl
              clear hm
              simp only [fill, h52, h48]
              go_wp2
              exact ⟨_, rfl, (by show (_ : Value) = _; first | rfl | exact congrArg Value.bool e3 | (refine congrArg Value.bool ?_; first | exact decide_eq_true (by have := of_decide_eq_true e3; omega) | exact decide_eq_false (by have := of_decide_eq_false e3; omega))), Below.refl _ _, trivial⟩
            · intro vs wq hB hm
              have h48 : vs 48 = .bool true := meets_get hm 13 rfl rfl rfl rfl
              have h53 : vs 53 = .bool false := meets_get hm 18 rfl rfl rfl rfl
              clear hm
              simp only [fill, h48, h53]
              go_wp2
              exact ⟨_, rfl, rfl, Below.refl _ _, trivial⟩
            · intro vs wq hB hm
              have h54 : vs 54 = .bool false := meets_get hm 19 rfl rfl rfl rfl
              clear hm
              simp only [fill, h54]
              go_wp2
              exact ⟨_, rfl, rfl, Below.refl _ _, trivial⟩
            · intro vs wq hB hm
              have h55 : vs 55 = .bool false := meets_get hm 20 rfl rfl rfl rfl
              clear hm
              simp only [fill, h55]
              refine wpList_skip (by rfl) ?_
              exact ⟨_, rfl, rfl, Below.refl _ _, trivial⟩
            · intro vs wq hB hm
              have h56 : vs 56 = undef := meets_get hm 21 rfl rfl rfl rfl
              have h55 : vs 55 = .bool false := meets_get hm 20 rfl rfl rfl rfl
              clear hm
              simp only [fill, h56, h55]
              refine wpList_skip (by rfl) ?_
              exact ⟨_, rfl, rfl, Below.refl _ _, trivial⟩
            · intro vs wq hB hm
              have h57 : vs 57 = undef := meets_get hm 22 rfl rfl rfl rfl
              have h55 : vs 55 = .bool false := meets_get hm 20 rfl rfl rfl rfl
              clear hm
              simp only [fill, h57, h55]
              refine wpList_skip (by rfl) ?_
              exact ⟨_, rfl, rfl, Below.refl _ _, trivial⟩
            · intro vs wq hB hm
              have h58 : vs 58 = undef := meets_get hm 23 rfl rfl rfl rfl
              have h55 : vs 55 = .bool false := meets_get hm 20 rfl rfl rfl rfl
              clear hm
              simp only [fill, h58, h55]
              refine wpList_skip (by rfl) ?_
              exact ⟨_, rfl, rfl, Below.refl _ _, trivial⟩
            · intro vs wq hB hm
              have h59 : vs 59 = undef := meets_get hm 24 rfl rfl rfl rfl
              have h55 : vs 55 = .bool false := meets_get hm 20 rfl rfl rfl rfl
              clear hm
              simp only [fill, h59, h55]
              refine wpList_skip (by rfl) ?_
              exact ⟨_, rfl, rfl, Below.refl _ _, trivial⟩
            · intro vs wq hB hm
              have h55 : vs 55 = .bool false := meets_get hm 20 rfl rfl rfl rfl
              have h60 : vs 60 = undef := meets_get hm 25 rfl rfl rfl rfl
              clear hm
              simp only [fill, h55, h60]
              go_wp2
              exact ⟨_, rfl, rfl, Below.refl _ _, trivial⟩
            · intro vs wq hB hm
              have h61 : vs 61 = .bool false := meets_get hm 26 rfl rfl rfl rfl
              clear hm
              simp only [fill, h61]
              go_wp2
              exact ⟨_, rfl, rfl, Below.refl _ _, trivial⟩
            · intro vs wq hB hm
              have h62 : vs 62 = .bool false := meets_get hm 27 rfl rfl rfl rfl
              clear hm
              simp only [fill, h62]
              refine wpList_skip (by rfl) ?_
              exact ⟨_, rfl, rfl, Below.refl _ _, trivial⟩
            · intro vs wq hB hm
              have h63 : vs 63 = undef := meets_get hm 28 rfl rfl rfl rfl
              have h62 : vs 62 = .bool false := meets_get hm 27 rfl rfl rfl rfl
              clear hm
              simp only [fill, h63, h62]
              refine wpList_skip (by rfl) ?_
              exact ⟨_, rfl, rfl, Below.refl _ _, trivial⟩
            · intro vs wq hB hm
              have h64 : vs 64 = undef := meets_get hm 29 rfl rfl rfl rfl
              have h62 : vs 62 = .bool false := meets_get hm 27 rfl rfl rfl rfl
              clear hm
              simp only [fill, h64, h62]
              refine wpList_skip (by rfl) ?_
              exact ⟨_, rfl, rfl, Below.refl _ _, trivial⟩
            · intro vs wq hB hm
              have h65 : vs 65 = undef := meets_get hm 30 rfl rfl rfl rfl
              have h62 : vs 62 = .bool false := meets_get hm 27 rfl rfl rfl rfl
              clear hm
              simp only [fill, h65, h62]
              refine wpList_skip (by rfl) ?_
              exact ⟨_, rfl, rfl, Below.refl _ _, trivial⟩
            · intro vs wq hB hm
              have h66 : vs 66 = undef := meets_get hm 31 rfl rfl rfl rfl
              have h62 : vs 62 = .bool false := meets_get hm 27 rfl rfl rfl rfl
              clear hm
              simp only [fill, h66, h62]
              refine wpList_skip (by rfl) ?_
              exact ⟨_, rfl, rfl, Below.refl _ _, trivial⟩
            · intro vs wq hB hm
              have h67 : vs 67 = undef := meets_get hm 32 rfl rfl rfl rfl
              have h62 : vs 62 = .bool false := meets_get hm 27 rfl rfl rfl rfl
              clear hm
              simp only [fill, h67, h62]
              refine wpList_skip (by rfl) ?_
              exact ⟨_, rfl, rfl, Below.refl _ _, trivial⟩
            · intro vs wq hB hm
              have h62 : vs 62 = .bool false := meets_get hm 27 rfl rfl rfl rfl
              clear hm
              simp only [fill, h62]
              refine wpList_skip (by rfl) ?_
              exact ⟨_, rfl, rfl, Below.refl _ _, trivial⟩
            · intro vs wq hB hm
              have h69 : vs 69 = undef := meets_get hm 34 rfl rfl rfl rfl
              have h62 : vs 62 = .bool false := meets_get hm 27 rfl rfl rfl rfl
              clear hm
              simp only [fill, h69, h62]
              refine wpList_skip (by rfl) ?_
              exact ⟨_, rfl, rfl, Below.refl _ _, trivial⟩
            · intro vs wq hB hm
              have h70 : vs 70 = undef := meets_get hm 35 rfl rfl rfl rfl
              have h62 : vs 62 = .bool false := meets_get hm 27 rfl rfl rfl rfl
              clear hm
              simp only [fill, h70, h62]
              refine wpList_skip (by rfl) ?_
              exact ⟨_, rfl, rfl, Below.refl _ _, trivial⟩
            · intro vs wq hB hm
              have h71 : vs 71 = undef := meets_get hm 36 rfl rfl rfl rfl
              have h62 : vs 62 = .bool false := meets_get hm 27 rfl rfl rfl rfl
              clear hm
              simp only [fill, h71, h62]
              refine wpList_skip (by rfl) ?_
              exact ⟨_, rfl, rfl, Below.refl _ _, trivial⟩
            · intro vs wq hB hm
              have h68 : vs 68 = undef := meets_get hm 33 rfl rfl rfl rfl
              have h72 : vs 72 = undef := meets_get hm 37 rfl rfl rfl rfl
              have h62 : vs 62 = .bool false := meets_get hm 27 rfl rfl rfl rfl
              clear hm
              simp only [fill, h68, h72, h62]
              refine wpList_skip (by rfl) ?_
              exact ⟨_, rfl, rfl, Below.refl _ _, trivial⟩
            · intro vs wq hB hm
              have h62 : vs 62 = .bool false := meets_get hm 27 rfl rfl rfl rfl
              have h73 : vs 73 = undef := meets_get hm 38 rfl rfl rfl rfl
              clear hm
              simp only [fill, h62, h73]
              go_wp2
              exact ⟨_, rfl, rfl, Below.refl _ _, trivial⟩
            intro vs wq hB hm hne hlo
            have h35 : vs 35 = .pointer (some ⟨p, 0, none⟩) := hm 0 _ _ _ rfl rfl rfl
            have h74 : vs 74 = .bool false := hm 39 _ _ _ rfl rfl rfl
            clear hne hlo
            simp only [fill, List.filterMap, List.take, List.drop, List.setIfInBounds_toArray, List.set_cons_zero, List.set_cons_succ, h35, h74]
            clear hm h35 h74
            have hrd6 := rdAt_below hrd5 hB
            have hgr6 := grown_trans hgr5 (below_grown hB (some p))
            go_wp2_with fail
            refine (rmust_any p _ false _ hrd6).mono ?_
            rintro e _ ⟨hm2, rfl⟩
            have hm3 : faultC 3 e := hm2
            cases hm3
            have hdz : Hid (decLk bs = .fault 3) := hidP (by rw [hdh2.out]; rfl)
            go_wp2
            exact ⟨rfl, rdV_fault hdz.out hgr6⟩
        · skip
          have e1 : decide ((1 : Int) ≤ (nx : Int)) = true := decide_eq_true (by omega)
          have e2 : decide ((nx : Int) ≤ 1099511627777) = false := decide_eq_false (by omega)
          have hok : okN nx ex acc.length = false := decide_eq_false (fun h => k2 h.2.1)
          rw [hok] at hdh2
          clear hok k1 k2
          refine wp_region_wordsB wmixed 40 ([] :: [] :: [36] :: [37] :: [38] :: [39] :: [40] :: [41] :: [42, 41] :: [43, 41] :: [44, 41] :: [45, 41] :: [41, 46] :: [47] :: [48] :: [49, 48] :: [50, 48] :: [51, 48] :: [52, 48] :: [48, 53] :: [54] :: [55] :: [56, 55] :: [57, 55] :: [58, 55] :: [59, 55] :: [55, 60] :: [61] :: [62] :: [63, 62] :: [64, 62] :: [65, 62] :: [66, 62] :: [67, 62] :: [62] :: [69, 62] :: [70, 62] :: [71, 62] :: [68, 72, 62] :: [62, 73] :: []) (isV (.pointer (some ⟨p, 0, none⟩)) :: isV (.pointer (some ⟨q, 0, none⟩)) :: isV (.pointer (some ⟨q, 0, none⟩)) :: isV (.pointer (some ⟨q, 0, none⟩)) :: isV (.int .u64 (nx : Int)) :: isV (.bool true) :: isV (.bool true) :: isV (.pointer (some ⟨q, 0, none⟩)) :: isV (.pointer (some ⟨q, 0, none⟩)) :: isV (.pointer (some ⟨q, 0, none⟩)) :: isV (.int .u64 (nx : Int)) :: isV (.bool false) :: isV (.bool false) :: isV (.bool false) :: isV (undef) :: isV (undef) :: isV (undef) :: isV (undef) :: isV (undef) :: isV (.bool false) :: isV (.bool false) :: isV (undef) :: isV (undef) :: isV (undef) :: isV (undef) :: isV (undef) :: isV (.bool false) :: isV (.bool false) :: isV (undef) :: isV (undef) :: isV (undef) :: isV (undef) :: isV (undef) :: isV (undef) :: isV (undef) :: isV (undef) :: isV (undef) :: isV (undef) :: isV (undef) :: isV (.bool false) :: []) (by decide) (by kernel_rfl)
            ⟨stab_isV _, stab_isV _, stab_isV _, stab_isV _, stab_isV _, stab_isV _, stab_isV _, stab_isV _, stab_isV _, stab_isV _, stab_isV _, stab_isV _, stab_isV _, stab_isV _, stab_isV _, stab_isV _, stab_isV _, stab_isV _, stab_isV _, stab_isV _, stab_isV _, stab_isV _, stab_isV _, stab_isV _, stab_isV _, stab_isV _, stab_isV _, stab_isV _, stab_isV _, stab_isV _, stab_isV _, stab_isV _, stab_isV _, stab_isV _, stab_isV _, stab_isV _, stab_isV _, stab_isV _, stab_isV _, stab_isV _, trivial⟩ ⟨?_, ?_, ?_, ?_, ?_, ?_, ?_, ?_, ?_, ?_, ?_, ?_, ?_, ?_, ?_, ?_, ?_, ?_, ?_, ?_, ?_, ?_, ?_, ?_, ?_, ?_, ?_, ?_, ?_, ?_, ?_, ?_, ?_, ?_, ?_, ?_, ?_, ?_, ?_, ?_, trivial⟩ ?_
          · intro vs wq hB hm
            clear hm
            simp only [fill]
            go_wp2
            exact ⟨_, rfl, rfl, Below.refl _ _, trivial⟩
          · intro vs wq hB hm
            clear hm
            simp only [fill]
            go_wp2
            exact ⟨_, rfl, rfl, Below.refl _ _, trivial⟩
          · intro vs wq hB hm
            have h36 : vs 36 = .pointer (some ⟨q, 0, none⟩) := meets_get hm 1 rfl rfl rfl rfl
            clear hm
            simp only [fill, h36]
            go_wp2
            exact ⟨_, rfl, rfl, Below.refl _ _, trivial⟩
          · intro vs wq hB hm
            have h37 : vs 37 = .pointer (some ⟨q, 0, none⟩) := meets_get hm 2 rfl rfl rfl rfl
            clear hm
            simp only [fill, h37]
            go_wp2
            exact ⟨_, rfl, rfl, Below.refl _ _, trivial⟩
          · intro vs wq hB hm
            have hl : look wq (q) = some (.cells (#[.int .u64 (nx : Int), .slice va acc.length vc, .int .u64 (ex : Int)]) 51 (0, 0)) := by rw [look_below hB (by first | omega | (simp only [World.size_alloc]; omega) | exact look_lt (by assumption) | (simp only [World.size_alloc, World.size_setCell]; omega) | (simp; omega))]; first | assumption | go_simp
            have hc : World.cell? wq ⟨q, 0, none⟩ = some (.int .u64 (nx : Int)) := by rw [look_cell hl]; rfl
            have h38 : vs 38 = .pointer (some ⟨q, 0, none⟩) := meets_get hm 3 rfl rfl rfl rfl
            clear hm
            simp only [fill, h38]
            go_wp2
            exact ⟨_, rfl, rfl, Below.refl _ _, trivial⟩
          · intro vs wq hB hm
            have h39 : vs 39 = .int .u64 (nx : Int) := meets_get hm 4 rfl rfl rfl rfl
            clear hm
            simp only [fill, h39]
            go_wp2
            exact ⟨_, rfl, (by show (_ : Value) = _; first | rfl | exact congrArg Value.bool e1 | (refine congrArg Value.bool ?_; first | exact decide_eq_true (by have := of_decide_eq_true e1; omega) | exact decide_eq_false (by have := of_decide_eq_false e1; omega))), Below.refl _ _, trivial⟩
          · intro vs wq hB hm
            have h40 : vs 40 = .bool true := meets_get hm 5 rfl rfl rfl rfl
            clear hm
            simp only [fill, h40]
            go_wp2
            exact ⟨_, rfl, rfl, Below.refl _ _, trivial⟩
          · intro vs wq hB hm
            have h41 : vs 41 = .bool true := meets_get hm 6 rfl rfl rfl rfl
            clear hm
            simp only [fill, h41]
            go_wp2
            exact ⟨_, rfl, rfl, Below.refl _ _, trivial⟩
          · intro vs wq hB hm
            have h42 : vs 42 = .pointer (some ⟨q, 0, none⟩) := meets_get hm 7 rfl rfl rfl rfl
            have h41 : vs 41 = .bool true := meets_get hm 6 rfl rfl rfl rfl
            clear hm
            simp only [fill, h42, h41]
            go_wp2
            exact ⟨_, rfl, rfl, Below.refl _ _, trivial⟩
          · intro vs wq hB hm
            have h43 : vs 43 = .pointer (some ⟨q, 0, none⟩) := meets_get hm 8 rfl rfl rfl rfl
            have h41 : vs 41 = .bool true := meets_get hm 6 rfl rfl rfl rfl
            clear hm
            simp only [fill, h43, h41]
            go_wp2
            exact ⟨_, rfl, rfl, Below.refl _ _, trivial⟩
          · intro vs wq hB hm
            have hl : look wq (q) = some (.cells (#[.int .u64 (nx : Int), .slice va acc.length vc, .int .u64 (ex : Int)]) 51 (0, 0)) := by rw [look_below hB (by first | omega | (simp only [World.size_alloc]; omega) | exact look_lt (by assumption) | (simp only [World.size_alloc, World.size_setCell]; omega) | (simp; omega))]; first | assumption | go_simp
            have hc : World.cell? wq ⟨q, 0, none⟩ = some (.int .u64 (nx : Int)) := by rw [look_cell hl]; rfl
            have h44 : vs 44 = .pointer (some ⟨q, 0, none⟩) := meets_get hm 9 rfl rfl rfl rfl
            have h41 : vs 41 = .bool true := meets_get hm 6 rfl rfl rfl rfl
            clear hm
            simp only [fill, h44, h41]
            go_wp2
            exact ⟨_, rfl, rfl, Below.refl _ _, trivial⟩
          · intro vs wq hB hm
            have h45 : vs 45 = .int .u64 (nx : Int) := meets_get hm 10 rfl rfl rfl rfl
            have h41 : vs 41 = .bool true := meets_get hm 6 rfl rfl rfl rfl
            clear hm
            simp only [fill, h45, h41]
            go_wp2
            exact ⟨_, rfl, (by show (_ : Value) = _; first | rfl | exact congrArg Value.bool e2 | (refine congrArg Value.bool ?_; first | exact decide_eq_true (by have := of_decide_eq_true e2; omega) | exact decide_eq_false (by have := of_decide_eq_false e2; omega))), Below.refl _ _, trivial⟩
          · intro vs wq hB hm
            have h41 : vs 41 = .bool true := meets_get hm 6 rfl rfl rfl rfl
            have h46 : vs 46 = .bool false := meets_get hm 11 rfl rfl rfl rfl
            clear hm
            simp only [fill, h41, h46]
            go_wp2
            exact ⟨_, rfl, rfl, Below.refl _ _, trivial⟩
          · intro vs wq hB hm
            have h47 : vs 47 = .bool false := meets_get hm 12 rfl rfl rfl rfl
            clear hm
            simp only [fill, h47]
            go_wp2
            exact ⟨_, rfl, rfl, Below.refl _ _, trivial⟩
          · intro vs wq hB hm
            have h48 : vs 48 = .bool false := meets_get hm 13 rfl rfl rfl rfl
            clear hm
            simp only [fill, h48]
            refine wpList_skip (by rfl) ?_
            exact ⟨_, rfl, rfl, Below.refl _ _, trivial⟩
          · intro vs wq hB hm
            have h49 : vs 49 = undef := meets_get hm 14 rfl rfl rfl rfl
            have h48 : vs 48 = .bool false := meets_get hm 13 rfl rfl rfl rfl
            clear hm
            simp only [fill, h49, h48]
            refine wpList_skip (by rfl) ?_
            exact ⟨_, rfl, rfl, Below.refl _ _, trivial⟩
          · intro vs wq hB hm
            have h50 : vs 50 = undef := meets_get hm 15 rfl rfl rfl rfl
            have h48 : vs 48 = .bool false := meets_get hm 13 rfl rfl rfl rfl
            clear hm
            simp only [fill, h50, h48]
            refine wpList_skip (by rfl) ?_
            exact ⟨_, rfl, rfl, Below.refl _ _, trivial⟩
          · intro vs wq hB hm
            have h51 : vs 51 = undef := meets_get hm 16 rfl rfl rfl rfl
            have h48 : vs 48 = .bool false := meets_get hm 13 rfl rfl rfl rfl
            clear hm
            simp only [fill, h51, h48]
            refine wpList_skip (by rfl) ?_
            exact ⟨_, rfl, rfl, Below.refl _ _, trivial⟩
          · intro vs wq hB hm
            have h52 : vs 52 = undef := meets_get hm 17 rfl rfl rfl rfl
            have h48 : vs 48 = .bool false := meets_get hm 13 rfl rfl rfl rfl
            clear hm
            simp only [fill, h52, h48]
            refine wpList_skip (by rfl) ?_
            exact ⟨_, rfl, rfl, Below.refl _ _, trivial⟩
          · intro vs wq hB hm
            have h48 : vs 48 = .bool false := meets_get hm 13 rfl rfl rfl rfl
            have h53 : vs 53 = undef := meets_get hm 18 rfl rfl rfl rfl
            clear hm
            simp only [fill, h48, h53]
            go_wp2
            exact ⟨_, rfl, rfl, Below.refl _ _, trivial⟩
          · intro vs wq hB hm
            have h54 : vs 54 = .bool false := meets_get hm 19 rfl rfl rfl rfl
            clear hm
            simp only [fill, h54]
            go_wp2
            exact ⟨_, rfl, rfl, Below.refl _ _, trivial⟩
          · intro vs wq hB hm
            have h55 : vs 55 = .bool false := meets_get hm 20 rfl rfl rfl rfl
            clear hm
            simp only [fill, h55]
            refine wpList_skip (by rfl) ?_
            exact ⟨_, rfl, rfl, Below.refl _ _, trivial⟩
          · intro vs wq hB hm
            have h56 : vs 56 = undef := meets_get hm 21 rfl rfl rfl rfl
            have h55 : vs 55 = .bool false := meets_get hm 20 rfl rfl rfl rfl
            clear hm
            simp only [fill, h56, h55]
            refine wpList_skip (by rfl) ?_
            exact ⟨_, rfl, rfl, Below.refl _ _, trivial⟩
          · intro vs wq hB hm
            have h57 : vs 57 = undef := meets_get hm 22 rfl rfl rfl rfl
            have h55 : vs 55 = .bool false := meets_get hm 20 rfl rfl rfl rfl
            clear hm
            simp only [fill, h57, h55]
            refine wpList_skip (by rfl) ?_
            exact ⟨_, rfl, rfl, Below.refl _ _, trivial⟩
          · intro vs wq hB hm
            have h58 : vs 58 = undef := meets_get hm 23 rfl rfl rfl rfl
            have h55 : vs 55 = .bool false := meets_get hm 20 rfl rfl rfl rfl
            clear hm
            simp only [fill, h58, h55]
            refine wpList_skip (by rfl) ?_
            exact ⟨_, rfl, rfl, Below.refl _ _, trivial⟩
          · intro vs wq hB hm
            have h59 : vs 59 = undef := meets_get hm 24 rfl rfl rfl rfl
            have h55 : vs 55 = .bool false := meets_get hm 20 rfl rfl rfl rfl
            clear hm
            simp only [fill, h59, h55]
            refine wpList_skip (by rfl) ?_
            exact ⟨_, rfl, rfl, Below.refl _ _, trivial⟩
          · intro vs wq hB hm
            have h55 : vs 55 = .bool false := meets_get hm 20 rfl rfl rfl rfl
            have h60 : vs 60 = undef := meets_get hm 25 rfl rfl rfl rfl
            clear hm
            simp only [fill, h55, h60]
            go_wp2
            exact ⟨_, rfl, rfl, Below.refl _ _, trivial⟩
          · intro vs wq hB hm
            have h61 : vs 61 = .bool false := meets_get hm 26 rfl rfl rfl rfl
            clear hm
            simp only [fill, h61]
            go_wp2
            exact ⟨_, rfl, rfl, Below.refl _ _, trivial⟩
          · intro vs wq hB hm
            have h62 : vs 62 = .bool false := meets_get hm 27 rfl rfl rfl rfl
            clear hm
            simp only [fill, h62]
            refine wpList_skip (by rfl) ?_
            exact ⟨_, rfl, rfl, Below.refl _ _, trivial⟩
          · intro vs wq hB hm
            have h63 : vs 63 = undef := meets_get hm 28 rfl rfl rfl rfl
            have h62 : vs 62 = .bool false := meets_get hm 27 rfl rfl rfl rfl
            clear hm
            simp only [fill, h63, h62]
            refine wpList_skip (by rfl) ?_
            exact ⟨_, rfl, rfl, Below.refl _ _, trivial⟩
          · intro vs wq hB hm
            have h64 : vs 64 = undef := meets_get hm 29 rfl rfl rfl rfl
            have h62 : vs 62 = .bool false := meets_get hm 27 rfl rfl rfl rfl
            clear hm
            simp only [fill, h64, h62]
            refine wpList_skip (by rfl) ?_
            exact ⟨_, rfl, rfl, Below.refl _ _, trivial⟩
          · intro vs wq hB hm
            have h65 : vs 65 = undef := meets_get hm 30 rfl rfl rfl rfl
            have h62 : vs 62 = .bool false := meets_get hm 27 rfl rfl rfl rfl
            clear hm
            simp only [fill, h65, h62]
            refine wpList_skip (by rfl) ?_
            exact ⟨_, rfl, rfl, Below.refl _ _, trivial⟩
          · intro vs wq hB hm
            have h66 : vs 66 = undef := meets_get hm 31 rfl rfl rfl rfl
            have h62 : vs 62 = .bool false := meets_get hm 27 rfl rfl rfl rfl
            clear hm
            simp only [fill, h66, h62]
            refine wpList_skip (by rfl) ?_
            exact ⟨_, rfl, rfl, Below.refl _ _, trivial⟩
          · intro vs wq hB hm
            have h67 : vs 67 = undef := meets_get hm 32 rfl rfl rfl rfl
            have h62 : vs 62 = .bool false := meets_get hm 27 rfl rfl rfl rfl
            clear hm
            simp only [fill, h67, h62]
            refine wpList_skip (by rfl) ?_
            exact ⟨_, rfl, rfl, Below.refl _ _, trivial⟩
          · intro vs wq hB hm
            have h62 : vs 62 = .bool false := meets_get hm 27 rfl rfl rfl rfl
            clear hm
            simp only [fill, h62]
            refine wpList_skip (by rfl) ?_
            exact ⟨_, rfl, rfl, Below.refl _ _, trivial⟩
          · intro vs wq hB hm
            have h69 : vs 69 = undef := meets_get hm 34 rfl rfl rfl rfl
            have h62 : vs 62 = .bool false := meets_get hm 27 rfl rfl rfl rfl
            clear hm
            simp only [fill, h69, h62]
            refine wpList_skip (by rfl) ?_
            exact ⟨_, rfl, rfl, Below.refl _ _, trivial⟩
          · intro vs wq hB hm
            have h70 : vs 70 = undef := meets_get hm 35 rfl rfl rfl rfl
            have h62 : vs 62 = .bool false := meets_get hm 27 rfl rfl rfl rfl
            clear hm
            simp only [fill, h70, h62]
            refine wpList_skip (by rfl) ?_
            exact ⟨_, rfl, rfl, Below.refl _ _, trivial⟩
          · intro vs wq hB hm
            have h71 : vs 71 = undef := meets_get hm 36 rfl rfl rfl rfl
            have h62 : vs 62 = .bool false := meets_get hm 27 rfl rfl rfl rfl
            clear hm
            simp only [fill, h71, h62]
            refine wpList_skip (by rfl) ?_
            exact ⟨_, rfl, rfl, Below.refl _ _, trivial⟩
          · intro vs wq hB hm
            have h68 : vs 68 = undef := meets_get hm 33 rfl rfl rfl rfl
            have h72 : vs 72 = undef := meets_get hm 37 rfl rfl rfl rfl
            have h62 : vs 62 = .bool false := meets_get hm 27 rfl rfl rfl rfl
            clear hm
            simp only [fill, h68, h72, h62]
            refine wpList_skip (by rfl) ?_
            exact ⟨_, rfl, rfl, Below.refl _ _, trivial⟩
          · intro vs wq hB hm
            have h62 : vs 62 = .bool false := meets_get hm 27 rfl rfl rfl rfl
            have h73 : vs 73 = undef := meets_get hm 38 rfl rfl rfl rfl
            clear hm
            simp only [fill, h62, h73]
            go_wp2
            exact ⟨_, rfl, rfl, Below.refl _ _, trivial⟩
          intro vs wq hB hm hne hlo
          have h35 : vs 35 = .pointer (some ⟨p, 0, none⟩) := hm 0 _ _ _ rfl rfl rfl
          have h74 : vs 74 = .bool false := hm 39 _ _ _ rfl rfl rfl
          clear hne hlo
          simp only [fill, List.filterMap, List.take, List.drop, List.setIfInBounds_toArray, List.set_cons_zero, List.set_cons_succ, h35, h74]
          clear hm h35 h74
          have hrd6 := rdAt_below hrd5 hB
          have hgr6 := grown_trans hgr5 (below_grown hB (some p))
          go_wp2_with fail
          refine (rmust_any p _ false _ hrd6).mono ?_
          rintro e _ ⟨hm2, rfl⟩
          have hm3 : faultC 3 e := hm2
          cases hm3
          have hdz : Hid (decLk bs = .fault 3) := hidP (by rw [hdh2.out]; rfl)
          go_wp2
          exact ⟨rfl, rdV_fault hdz.out hgr6⟩
      · skip
        have e1 : decide ((1 : Int) ≤ (nx : Int)) = false := decide_eq_false (by omega)
        have hok : okN nx ex acc.length = false := decide_eq_false (fun h => k1 h.1)
        rw [hok] at hdh2
        clear hok k1
        refine wp_region_wordsB wmixed 40 ([] :: [] :: [36] :: [37] :: [38] :: [39] :: [40] :: [41] :: [42, 41] :: [43, 41] :: [44, 41] :: [45, 41] :: [41, 46] :: [47] :: [48] :: [49, 48] :: [50, 48] :: [51, 48] :: [52, 48] :: [48, 53] :: [54] :: [55] :: [56, 55] :: [57, 55] :: [58, 55] :: [59, 55] :: [55, 60] :: [61] :: [62] :: [63, 62] :: [64, 62] :: [65, 62] :: [66, 62] :: [67, 62] :: [62] :: [69, 62] :: [70, 62] :: [71, 62] :: [68, 72, 62] :: [62, 73] :: []) (isV (.pointer (some ⟨p, 0, none⟩)) :: isV (.pointer (some ⟨q, 0, none⟩)) :: isV (.pointer (some ⟨q, 0, none⟩)) :: isV (.pointer (some ⟨q, 0, none⟩)) :: isV (.int .u64 (nx : Int)) :: isV (.bool false) :: isV (.bool false) :: isV (undef) :: isV (undef) :: isV (undef) :: isV (undef) :: isV (undef) :: isV (.bool false) :: isV (.bool false) :: isV (undef) :: isV (undef) :: isV (undef) :: isV (undef) :: isV (undef) :: isV (.bool false) :: isV (.bool false) :: isV (undef) :: isV (undef) :: isV (undef) :: isV (undef) :: isV (undef) :: isV (.bool false) :: isV (.bool false) :: isV (undef) :: isV (undef) :: isV (undef) :: isV (undef) :: isV (undef) :: isV (undef) :: isV (undef) :: isV (undef) :: isV (undef) :: isV (undef) :: isV (undef) :: isV (.bool false) :: []) (by decide) (by kernel_rfl)
          ⟨stab_isV _, stab_isV _, stab_isV _, stab_isV _, stab_isV _, stab_isV _, stab_isV _, stab_isV _, stab_isV _, stab_isV _, stab_isV _, stab_isV _, stab_isV _, stab_isV _, stab_isV _, stab_isV _, stab_isV _, stab_isV _, stab_isV _, stab_isV _, stab_isV _, stab_isV _, stab_isV _, stab_isV _, stab_isV _, stab_isV _, stab_isV _, stab_isV _, stab_isV _, stab_isV _, stab_isV _, stab_isV _, stab_isV _, stab_isV _, stab_isV _, stab_isV _, stab_isV _, stab_isV _, stab_isV _, stab_isV _, trivial⟩ ⟨?_, ?_, ?_, ?_, ?_, ?_, ?_, ?_, ?_, ?_, ?_, ?_, ?_, ?_, ?_, ?_, ?_, ?_, ?_, ?_, ?_, ?_, ?_, ?_, ?_, ?_, ?_, ?_, ?_, ?_, ?_, ?_, ?_, ?_, ?_, ?_, ?_, ?_, ?_, ?_, trivial⟩ ?_
        · intro vs wq hB hm
          clear hm
          simp only [fill]
          go_wp2
          exact ⟨_, rfl, rfl, Below.refl _ _, trivial⟩
        · intro vs wq hB hm
          clear hm
          simp only [fill]
          go_wp2
          exact ⟨_, rfl, rfl, Below.refl _ _, trivial⟩
        · intro vs wq hB hm
          have h36 : vs 36 = .pointer (some ⟨q, 0, none⟩) := meets_get hm 1 rfl rfl rfl rfl
          clear hm
          simp only [fill, h36]
          go_wp2
          exact ⟨_, rfl, rfl, Below.refl _ _, trivial⟩
        · intro vs wq hB hm
          have h37 : vs 37 = .pointer (some ⟨q, 0, none⟩) := meets_get hm 2 rfl rfl rfl rfl
          clear hm
          simp only [fill, h37]
          go_wp2
          exact ⟨_, rfl, rfl, Below.refl _ _, trivial⟩
        · intro vs wq hB hm
          have hl : look wq (q) = some (.cells (#[.int .u64 (nx : Int), .slice va acc.length vc, .int .u64 (ex : Int)]) 51 (0, 0)) := by rw [look_below hB (by first | omega | (simp only [World.size_alloc]; omega) | exact look_lt (by assumption) | (simp only [World.size_alloc, World.size_setCell]; omega) | (simp; omega))]; first | assumption | go_simp
          have hc : World.cell? wq ⟨q, 0, none⟩ = some (.int .u64 (nx : Int)) := by rw [look_cell hl]; rfl
          have h38 : vs 38 = .pointer (some ⟨q, 0, none⟩) := meets_get hm 3 rfl rfl rfl rfl
          clear hm
          simp only [fill, h38]
          go_wp2
          exact ⟨_, rfl, rfl, Below.refl _ _, trivial⟩
        · intro vs wq hB hm
          have h39 : vs 39 = .int .u64 (nx : Int) := meets_get hm 4 rfl rfl rfl rfl
          clear hm
          simp only [fill, h39]
          go_wp2
          exact ⟨_, rfl, (by show (_ : Value) = _; first | rfl | exact congrArg Value.bool e1 | (refine congrArg Value.bool ?_; first | exact decide_eq_true (by have := of_decide_eq_true e1; omega) | exact decide_eq_false (by have := of_decide_eq_false e1; omega))), Below.refl _ _, trivial⟩
        · intro vs wq hB hm
          have h40 : vs 40 = .bool false := meets_get hm 5 rfl rfl rfl rfl
          clear hm
          simp only [fill, h40]
          go_wp2
          exact ⟨_, rfl, rfl, Below.refl _ _, trivial⟩
        · intro vs wq hB hm
          have h41 : vs 41 = .bool false := meets_get hm 6 rfl rfl rfl rfl
          clear hm
          simp only [fill, h41]
          refine wpList_skip (by rfl) ?_
          exact ⟨_, rfl, rfl, Below.refl _ _, trivial⟩
        · intro vs wq hB hm
          have h42 : vs 42 = undef := meets_get hm 7 rfl rfl rfl rfl
          have h41 : vs 41 = .bool false := meets_get hm 6 rfl rfl rfl rfl
          clear hm
          simp only [fill, h42, h41]
          refine wpList_skip (by rfl) ?_
          exact ⟨_, rfl, rfl, Below.refl _ _, trivial⟩
        · intro vs wq hB hm
          have h43 : vs 43 = undef := meets_get hm 8 rfl rfl rfl rfl
          have h41 : vs 41 = .bool false := meets_get hm 6 rfl rfl rfl rfl
          clear hm
          simp only [fill, h43, h41]
          refine wpList_skip (by rfl) ?_
          exact ⟨_, rfl, rfl, Below.refl _ _, trivial⟩
        · intro vs wq hB hm
          have h44 : vs 44 = undef := meets_get hm 9 rfl rfl rfl rfl
          have h41 : vs 41 = .bool false := meets_get hm 6 rfl rfl rfl rfl
          clear hm
          simp only [fill, h44, h41]
          refine wpList_skip (by rfl) ?_
          exact ⟨_, rfl, rfl, Below.refl _ _, trivial⟩
        · intro vs wq hB hm
          have h45 : vs 45 = undef := meets_get hm 10 rfl rfl rfl rfl
          have h41 : vs 41 = .bool false := meets_get hm 6 rfl rfl rfl rfl
          clear hm
          simp only [fill, h45, h41]
          refine wpList_skip (by rfl) ?_
          exact ⟨_, rfl, rfl, Below.refl _ _, trivial⟩
        · intro vs wq hB hm
          have h41 : vs 41 = .bool false := meets_get hm 6 rfl rfl rfl rfl
          have h46 : vs 46 = undef := meets_get hm 11 rfl rfl rfl rfl
          clear hm
          simp only [fill, h41, h46]
          go_wp2
          exact ⟨_, rfl, rfl, Below.refl _ _, trivial⟩
        · intro vs wq hB hm
          have h47 : vs 47 = .bool false := meets_get hm 12 rfl rfl rfl rfl
          clear hm
          simp only [fill, h47]
          go_wp2
          exact ⟨_, rfl, rfl, Below.refl _ _, trivial⟩
        · intro vs wq hB hm
          have h48 : vs 48 = .bool false := meets_get hm 13 rfl rfl rfl rfl
          clear hm
          simp only [fill, h48]
          refine wpList_skip (by rfl) ?_
          exact ⟨_, rfl, rfl, Below.refl _ _, trivial⟩
        · intro vs wq hB hm
          have h49 : vs 49 = undef := meets_get hm 14 rfl rfl rfl rfl
          have h48 : vs 48 = .bool false := meets_get hm 13 rfl rfl rfl rfl
          clear hm
          simp only [fill, h49, h48]
          refine wpList_skip (by rfl) ?_
          exact ⟨_, rfl, rfl, Below.refl _ _, trivial⟩
        · intro vs wq hB hm
          have h50 : vs 50 = undef := meets_get hm 15 rfl rfl rfl rfl
          have h48 : vs 48 = .bool false := meets_get hm 13 rfl rfl rfl rfl
          clear hm
          simp only [fill, h50, h48]
          refine wpList_skip (by rfl) ?_
          exact ⟨_, rfl, rfl, Below.refl _ _, trivial⟩
        · intro vs wq hB hm
          have h51 : vs 51 = undef := meets_get hm 16 rfl rfl rfl rfl
          have h48 : vs 48 = .bool false := meets_get hm 13 rfl rfl rfl rfl
          clear hm
          simp only [fill, h51, h48]
          refine wpList_skip (by rfl) ?_
          exact ⟨_, rfl, rfl, Below.refl _ _, trivial⟩
        · intro vs wq hB hm
          have h52 : vs 52 = undef := meets_get hm 17 rfl rfl rfl rfl
          have h48 : vs 48 = .bool false := meets_get hm 13 rfl rfl rfl rfl
          clear hm
          simp only [fill, h52, h48]
          refine wpList_skip (by rfl) ?_
          exact ⟨_, rfl, rfl, Below.refl _ _, trivial⟩
        · intro vs wq hB hm
          have h48 : vs 48 = .bool false := meets_get hm 13 rfl rfl rfl rfl
          have h53 : vs 53 = undef := meets_get hm 18 rfl rfl rfl rfl
          clear hm
          simp only [fill, h48, h53]
          go_wp2
          exact ⟨_, rfl, rfl, Below.refl _ _, trivial⟩
        · intro vs wq hB hm
          have h54 : vs 54 = .bool false := meets_get hm 19 rfl rfl rfl rfl
          clear hm
          simp only [fill, h54]
          go_wp2
          exact ⟨_, rfl, rfl, Below.refl _ _, trivial⟩
        · intro vs wq hB hm
          have h55 : vs 55 = .bool false := meets_get hm 20 rfl rfl rfl rfl
          clear hm
          simp only [fill, h55]
          refine wpList_skip (by rfl) ?_
          exact ⟨_, rfl, rfl, Below.refl _ _, trivial⟩
        · intro vs wq hB hm
          have h56 : vs 56 = undef := meets_get hm 21 rfl rfl rfl rfl
          have h55 : vs 55 = .bool false := meets_get hm 20 rfl rfl rfl rfl
          clear hm
          simp only [fill, h56, h55]
          refine wpList_skip (by rfl) ?_
          exact ⟨_, rfl, rfl, Below.refl _ _, trivial⟩
        · intro vs wq hB hm
          have h57 : vs 57 = undef := meets_get hm 22 rfl rfl rfl rfl
          have h55 : vs 55 = .bool false := meets_get hm 20 rfl rfl rfl rfl
          clear hm
          simp only [fill, h57, h55]
          refine wpList_skip (by rfl) ?_
          exact ⟨_, rfl, rfl, Below.refl _ _, trivial⟩
        · intro vs wq hB hm
          have h58 : vs 58 = undef := meets_get hm 23 rfl rfl rfl rfl
          have h55 : vs 55 = .bool false := meets_get hm 20 rfl rfl rfl rfl
          clear hm
          simp only [fill, h58, h55]
          refine wpList_skip (by rfl) ?_
          exact ⟨_, rfl, rfl, Below.refl _ _, trivial⟩
        · intro vs wq hB hm
          have h59 : vs 59 = undef := meets_get hm 24 rfl rfl rfl rfl
          have h55 : vs 55 = .bool false := meets_get hm 20 rfl rfl rfl rfl
          clear hm
          simp only [fill, h59, h55]
          refine wpList_skip (by rfl) ?_
          exact ⟨_, rfl, rfl, Below.refl _ _, trivial⟩
        · intro vs wq hB hm
          have h55 : vs 55 = .bool false := meets_get hm 20 rfl rfl rfl rfl
          have h60 : vs 60 = undef := meets_get hm 25 rfl rfl rfl rfl
          clear hm
          simp only [fill, h55, h60]
          go_wp2
          exact ⟨_, rfl, rfl, Below.refl _ _, trivial⟩
        · intro vs wq hB hm
          have h61 : vs 61 = .bool false := meets_get hm 26 rfl rfl rfl rfl
          clear hm
          simp only [fill, h61]
          go_wp2
          exact ⟨_, rfl, rfl, Below.refl _ _, trivial⟩
        · intro vs wq hB hm
          have h62 : vs 62 = .bool false := meets_get hm 27 rfl rfl rfl rfl
          clear hm
          simp only [fill, h62]
          refine wpList_skip (by rfl) ?_
          exact ⟨_, rfl, rfl, Below.refl _ _, trivial⟩
        · intro vs wq hB hm
          have h63 : vs 63 = undef := meets_get hm 28 rfl rfl rfl rfl
          have h62 : vs 62 = .bool false := meets_get hm 27 rfl rfl rfl rfl
          clear hm
          simp only [fill, h63, h62]
          refine wpList_skip (by rfl) ?_
          exact ⟨_, rfl, rfl, Below.refl _ _, trivial⟩
        · intro vs wq hB hm
          have h64 : vs 64 = undef := meets_get hm 29 rfl rfl rfl rfl
          have h62 : vs 62 = .bool false := meets_get hm 27 rfl rfl rfl rfl
          clear hm
          simp only [fill, h64, h62]
          refine wpList_skip (by rfl) ?_
          exact ⟨_, rfl, rfl, Below.refl _ _, trivial⟩
        · intro vs wq hB hm
          have h65 : vs 65 = undef := meets_get hm 30 rfl rfl rfl rfl
          have h62 : vs 62 = .bool false := meets_get hm 27 rfl rfl rfl rfl
          clear hm
          simp only [fill, h65, h62]
          refine wpList_skip (by rfl) ?_
          exact ⟨_, rfl, rfl, Below.refl _ _, trivial⟩
        · intro vs wq hB hm
          have h66 : vs 66 = undef := meets_get hm 31 rfl rfl rfl rfl
          have h62 : vs 62 = .bool false := meets_get hm 27 rfl rfl rfl rfl
          clear hm
          simp only [fill, h66, h62]
          refine wpList_skip (by rfl) ?_
          exact ⟨_, rfl, rfl, Below.refl _ _, trivial⟩
        · intro vs wq hB hm
          have h67 : vs 67 = undef := meets_get hm 32 rfl rfl rfl rfl
          have h62 : vs 62 = .bool false := meets_get hm 27 rfl rfl rfl rfl
          clear hm
          simp only [fill, h67, h62]
          refine wpList_skip (by rfl) ?_
          exact ⟨_, rfl, rfl, Below.refl _ _, trivial⟩
        · intro vs wq hB hm
          have h62 : vs 62 = .bool false := meets_get hm 27 rfl rfl rfl rfl
          clear hm
          simp only [fill, h62]
          refine wpList_skip (by rfl) ?_
          exact ⟨_, rfl, rfl, Below.refl _ _, trivial⟩
        · intro vs wq hB hm
          have h69 : vs 69 = undef := meets_get hm 34 rfl rfl rfl rfl
          have h62 : vs 62 = .bool false := meets_get hm 27 rfl rfl rfl rfl
          clear hm
          simp only [fill, h69, h62]
          refine wpList_skip (by rfl) ?_
          exact ⟨_, rfl, rfl, Below.refl _ _, trivial⟩
        · intro vs wq hB hm
          have h70 : vs 70 = undef := meets_get hm 35 rfl rfl rfl rfl
          have h62 : vs 62 = .bool false := meets_get hm 27 rfl rfl rfl rfl
          clear hm
          simp only [fill, h70, h62]
          refine wpList_skip (by rfl) ?_
          exact ⟨_, rfl, rfl, Below.refl _ _, trivial⟩
        · intro vs wq hB hm
          have h71 : vs 71 = undef := meets_get hm 36 rfl rfl rfl rfl
          have h62 : vs 62 = .bool false := meets_get hm 27 rfl rfl rfl rfl
          clear hm
          simp only [fill, h71, h62]
          refine wpList_skip (by rfl) ?_
          exact ⟨_, rfl, rfl, Below.refl _ _, trivial⟩
        · intro vs wq hB hm
          have h68 : vs 68 = undef := meets_get hm 33 rfl rfl rfl rfl
          have h72 : vs 72 = undef := meets_get hm 37 rfl rfl rfl rfl
          have h62 : vs 62 = .bool false := meets_get hm 27 rfl rfl rfl rfl
          clear hm
          simp only [fill, h68, h72, h62]
          refine wpList_skip (by rfl) ?_
          exact ⟨_, rfl, rfl, Below.refl _ _, trivial⟩
        · intro vs wq hB hm
          have h62 : vs 62 = .bool false := meets_get hm 27 rfl rfl rfl rfl
          have h73 : vs 73 = undef := meets_get hm 38 rfl rfl rfl rfl
          clear hm
          simp only [fill, h62, h73]
          go_wp2
          exact ⟨_, rfl, rfl, Below.refl _ _, trivial⟩
        intro vs wq hB hm hne hlo
        have h35 : vs 35 = .pointer (some ⟨p, 0, none⟩) := hm 0 _ _ _ rfl rfl rfl
        have h74 : vs 74 = .bool false := hm 39 _ _ _ rfl rfl rfl
        clear hne hlo
        simp only [fill, List.filterMap, List.take, List.drop, List.setIfInBounds_toArray, List.set_cons_zero, List.set_cons_succ, h35, h74]
        clear hm h35 h74
        have hrd6 := rdAt_below hrd5 hB
        have hgr6 := grown_trans hgr5 (below_grown hB (some p))
        go_wp2_with fail
        refine (rmust_any p _ false _ hrd6).mono ?_
        rintro e _ ⟨hm2, rfl⟩
        have hm3 : faultC 3 e := hm2
        cases hm3
        have hdz : Hid (decLk bs = .fault 3) := hidP (by rw [hdh2.out]; rfl)
        go_wp2
        exact ⟨rfl, rdV_fault hdz.out hgr6⟩
end Go.Proofs.Ytnpofcnibgdjhaa
