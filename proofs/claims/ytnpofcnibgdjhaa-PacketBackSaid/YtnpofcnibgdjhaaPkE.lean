/- Packets: read from a reader. -/
import Derived.Test.YtnpofcnibgdjhaaPkD
namespace Go.Proofs.Ytnpofcnibgdjhaa
open Go.RowKit
variable {X : Nat → Prop}

theorem grown_cell_new {w w1 : World} {p q i : Nat} (h : w.grownBy w1 (some p)) (hq : w.heap.size ≤ q) (u : Value) : w.grownBy (w1.setCell ⟨q, i, none⟩ u) (some p) :=
  ⟨h.os, h.tape, h.output, by simpa using h.size, fun k hk he => by rw [heap_setCell_other w1 ⟨q, i, none⟩ k u (by show k ≠ q; omega)]; exact h.block k hk he⟩
theorem grown_row_new' {w w1 : World} {p q : Nat} (h : w.grownBy w1 (some p)) (hq : w.heap.size ≤ q) (cs : Array Value) : w.grownBy (w1.setRow q cs) (some p) :=
  ⟨h.os, h.tape, h.output, by simpa [World.setRow] using h.size, fun k hk he => by
    have h0 := look_setRow w1 q k cs
    rw [if_neg (by omega)] at h0
    exact Eq.trans h0 (h.block k hk he)⟩
theorem pk_nob (a : Bool) (f t : Int) (s : Int) (d : Option Addr) (n c : Nat) (j : Nat) (x : Int) : (#[.bool a, .int .i64 f, .int .i64 t, .int .u64 s, .slice d n c] : Array Value)[j]? ≠ some (.int .u8 x) := by
  intro e
  match j, e with
  | 0, e => cases e
  | 1, e => cases e
  | 2, e => cases e
  | 3, e => cases e
  | 4, e => cases e
  | j + 5, e => simp at e
theorem row_size (w : World) (g : Nat) (cs : Array Value) : (w.setRow g cs).heap.size = w.heap.size := by simp [World.setRow]

set_option maxRecDepth 100000 in
set_option maxHeartbeats 6400000 in
theorem pget_any (p : Nat) (bs : List Nat) (w : World) (hlen : bs.length ≤ 1000000) (hby : ∀ x ∈ bs, x < 256) (h : RdAt X w p bs) :
    Calls Try.prog 82 #[.pointer (some ⟨p, 0, none⟩)] w fun e w' => rdPostV X (decP bs) (pkV w.heap.size) p w e w' := by
  have hpw : p < w.heap.size := rd_lt h
  have hbA := belA (bel0 w) (.cells #[.bool false, .int .i64 0, .int .i64 0, .int .u64 0, .slice none 0 0] 69)
  have h2 := rdAt_below h hbA
  have hg0 := below_grown hbA (some p)
  have hlz : look (w.alloc (.cells #[.bool false, .int .i64 0, .int .i64 0, .int .u64 0, .slice none 0 0] 69)) w.heap.size = some (.cells #[.bool false, .int .i64 0, .int .i64 0, .int .u64 0, .slice none 0 0] 69 (0, 0)) := look_alloc_at _ _ _ rfl
  go_enter Try.func82, Try.ntmps82
  go_wp2_with fail
  go_wp2_with fail
  refine (small_any p 1 _ _ (by decide) hby h2).mono ?_
  rintro e wr1 ⟨hg1, hr⟩
  have hgr1 := grown_trans hg0 hg1
  rcases hd1 : decS 1 bs with ⟨a, rr1⟩ | ⟨kf⟩
  rotate_left
  · rw [hd1] at hr
    have hdv : decP bs = .fault kf := by simp only [decP, hd1]
    cases hr
    go_wp2
    exact ⟨rfl, rdV_fault hdv hgr1⟩
  rw [hd1] at hr
  obtain ⟨rfl, hrd1⟩ := hr
  have hby1 := (codeS 1 (by decide)).rest hby hd1
  go_wp2_with fail
  refine (small_any p 12 _ _ (by decide) hby1 hrd1).mono ?_
  rintro e wr2 ⟨hg2, hr⟩
  have hgr2 := grown_trans hgr1 hg2
  rcases hd2 : decS 12 rr1 with ⟨f, rr2⟩ | ⟨kf⟩
  rotate_left
  · rw [hd2] at hr
    have hdv : decP bs = .fault kf := by simp only [decP, hd1, hd2]
    cases hr
    go_wp2
    exact ⟨rfl, rdV_fault hdv hgr2⟩
  rw [hd2] at hr
  obtain ⟨rfl, hrd2⟩ := hr
  have hby2 := (codeS 12 (by decide)).rest hby1 hd2
  go_wp2_with fail
  refine (small_any p 12 _ _ (by decide) hby2 hrd2).mono ?_
  rintro e wr3 ⟨hg3, hr⟩
  have hgr3 := grown_trans hgr2 hg3
  rcases hd3 : decS 12 rr2 with ⟨t, rr3⟩ | ⟨kf⟩
  rotate_left
  · rw [hd3] at hr
    have hdv : decP bs = .fault kf := by simp only [decP, hd1, hd2, hd3]
    cases hr
    go_wp2
    exact ⟨rfl, rdV_fault hdv hgr3⟩
  rw [hd3] at hr
  obtain ⟨rfl, hrd3⟩ := hr
  have hby3 := (codeS 12 (by decide)).rest hby2 hd3
  go_wp2_with fail
  refine (rnum_any p _ _ hby3 hrd3).mono ?_
  rintro e wr4 ⟨hg4, hr⟩
  have hgr4 := grown_trans hgr3 hg4
  rcases hd4 : decN true 0 rr3 with ⟨s, rr4⟩ | ⟨kf⟩
  rotate_left
  · rw [hd4] at hr
    have hdv : decP bs = .fault kf := by simp only [decP, hd1, hd2, hd3, hd4]
    cases hr
    go_wp2
    exact ⟨rfl, rdV_fault hdv hgr4⟩
  rw [hd4] at hr
  obtain ⟨rfl, hrd4⟩ := hr
  have hby4 := codeN.rest hby3 hd4
  have ha := decS_le hd1
  have hf := decS_le hd2
  have ht := decS_le hd3
  have hs := (decN_low _ _ _ hd4).1
  have hrl : rr4.length ≤ 1000000 := by
    have x1 := decS_len hd1
    have x2 := decS_len hd2
    have x3 := decS_len hd3
    obtain ⟨_, pre, e, _⟩ := decN_low _ _ _ hd4
    have x4 : rr4.length ≤ rr3.length := by rw [e, List.length_append]; omega
    omega
  have hdv : decP bs = decPT a f t s rr4 := by simp only [decP, hd1, hd2, hd3, hd4]
  have hdh := hidP hdv
  have hlz4 : look wr4 w.heap.size = some (.cells #[.bool false, .int .i64 0, .int .i64 0, .int .u64 0, .slice none 0 0] 69 (0, 0)) := by
    have hx := grown_trans (grown_trans (grown_trans hg1 hg2) hg3) hg4
    rw [grown_look hx (look_lt hlz) (by intro g e; cases e; omega)]
    exact hlz
  have hz4 := look_lt hlz4
  have hq4 : Hid (p < wr4.heap.size) := hidP (by have := hgr4.size; omega)
  clear hdv hd1 hd2 hd3 hd4 hrd1 hrd2 hrd3 hg1 hg2 hg3 hg4 hgr1 hgr2 hgr3 hby1 hby2 hby3 h2 hg0 hbA hlz h
  rcases (show a = 1 ∨ a = 0 by omega) with rfl | rfl
  · have l5 : look (wr4.alloc (.cells #[.bool true, .int .i64 (f : Int), .int .i64 (t : Int), .int .u64 (s : Int), .slice none 0 0] 69)) wr4.heap.size = some (.cells #[.bool true, .int .i64 (f : Int), .int .i64 (t : Int), .int .u64 (s : Int), .slice none 0 0] 69 (0, 0)) := by
      exact look_alloc_at _ _ _ rfl
    have hbC := belA (bel0 wr4) (.cells #[.bool true, .int .i64 (f : Int), .int .i64 (t : Int), .int .u64 (s : Int), .slice none 0 0] 69)
    have hrd5 : RdAt X (wr4.alloc (.cells #[.bool true, .int .i64 (f : Int), .int .i64 (t : Int), .int .u64 (s : Int), .slice none 0 0] 69)) p rr4 := rdAt_below hrd4 hbC
    have hgr5 : w.grownBy (wr4.alloc (.cells #[.bool true, .int .i64 (f : Int), .int .i64 (t : Int), .int .u64 (s : Int), .slice none 0 0] 69)) (some p) := grown_trans hgr4 (below_grown hbC _)
    have lz5 : look (wr4.alloc (.cells #[.bool true, .int .i64 (f : Int), .int .i64 (t : Int), .int .u64 (s : Int), .slice none 0 0] 69)) w.heap.size = some (.cells #[.bool false, .int .i64 0, .int .i64 0, .int .u64 0, .slice none 0 0] 69 (0, 0)) := by
      rw [look_below hbC hz4]; exact hlz4
    have c0 : World.cell? (wr4.alloc (.cells #[.bool true, .int .i64 (f : Int), .int .i64 (t : Int), .int .u64 (s : Int), .slice none 0 0] 69)) ⟨wr4.heap.size, 0, none⟩ = some (.bool true) := by rw [look_cell l5]; rfl
    have hsz5 : ((wr4.alloc (.cells #[.bool true, .int .i64 (f : Int), .int .i64 (t : Int), .int .u64 (s : Int), .slice none 0 0] 69))).heap.size = wr4.heap.size + 1 := by simp
    have hrt := pright_any ⟨true, f, t, s, []⟩ none 0 (wr4.alloc (.cells #[.bool true, .int .i64 (f : Int), .int .i64 (t : Int), .int .u64 (s : Int), .slice none 0 0] 69)) (by simp)
    have hdE : Hid (decP bs = decPE ⟨true, f, t, s, []⟩ rr4) := hidP (by rw [hdh.out]; rfl)
    cases hR : rightP ⟨true, f, t, s, []⟩
    · rw [hR] at hrt
      have hdz : Hid (decP bs = .fault 3) := hidP (by rw [hdE.out]; unfold decPE; rw [hR]; rfl)
      clear hdE hdh hR
      go_wp2_with fail
      refine hrt.mono ?_
      rintro _ w6 ⟨rfl, hb6⟩
      have hrd6 := rdAt_below hrd5 hb6
      have hgr6 := grown_trans hgr5 (below_grown hb6 (some p))
      go_wp2_with fail
      refine (rmust_any p _ false _ hrd6).mono ?_
      rintro e _ ⟨hm, rfl⟩
      have hm2 : faultC 3 e := hm
      cases hm2
      go_wp2
      exact ⟨rfl, rdV_fault hdz.out hgr6⟩
    · rw [hR] at hrt
      have hdz : Hid (decP bs = .ok ⟨true, f, t, s, []⟩ rr4) := hidP (by rw [hdE.out]; unfold decPE; rw [hR]; rfl)
      clear hdE hdh hR
      go_wp2_with fail
      refine hrt.mono ?_
      rintro _ w6 ⟨rfl, hb6⟩
      have hrd6 := rdAt_below hrd5 hb6
      have hgr6 := grown_trans hgr5 (below_grown hb6 (some p))
      have l6 : look w6 wr4.heap.size = some (.cells #[.bool true, .int .i64 (f : Int), .int .i64 (t : Int), .int .u64 (s : Int), .slice none 0 0] 69 (0, 0)) := by rw [look_below hb6 (look_lt l5)]; exact l5
      have lz6 : look w6 w.heap.size = some (.cells #[.bool false, .int .i64 0, .int .i64 0, .int .u64 0, .slice none 0 0] 69 (0, 0)) := by rw [look_below hb6 (look_lt lz5)]; exact lz5
      clear l5 lz5 c0 hrd5 hrd4
      go_wp2_with fail
      refine (rmust_any p _ true _ hrd6).mono ?_
      rintro e _ ⟨hm, rfl⟩
      have hm2 : e = .returned (.tuple #[]) := hm
      subst hm2
      have hfin := hidP (rdV_ok (X := X) (V := pkV w.heap.size) (v := .agg #[.bool true, .int .i64 (f : Int), .int .i64 (t : Int), .int .u64 (s : Int), .slice none 0 0]) hdz.out (grown_row_new' hgr6 (Nat.le_refl _) #[.bool true, .int .i64 (f : Int), .int .i64 (t : Int), .int .u64 (s : Int), .slice none 0 0]) ⟨none, 0, rfl, SliceAt.nil _ _ _, fun h => absurd h (by show ¬ 0 < ([] : List Nat).length; decide)⟩ (rd_aside_row hrd6 lz6 (by omega) (pk_nob _ _ _ _ _ _ _)))
      go_wp2
      refine ret_pk (g := w.heap.size) (cs := #[.bool true, .int .i64 (f : Int), .int .i64 (t : Int), .int .u64 (s : Int), .slice none 0 0]) (t := 69) (fr := (0, 0)) Try.results82 rfl ?_ rfl rfl ?_
      · rw [look_setRow, if_pos rfl, lz6]; rfl
      · exact hfin.out
  · have l5 : look (wr4.alloc (.cells #[.bool false, .int .i64 (f : Int), .int .i64 (t : Int), .int .u64 (s : Int), .slice none 0 0] 69)) wr4.heap.size = some (.cells #[.bool false, .int .i64 (f : Int), .int .i64 (t : Int), .int .u64 (s : Int), .slice none 0 0] 69 (0, 0)) := by
      exact look_alloc_at _ _ _ rfl
    have hbC := belA (bel0 wr4) (.cells #[.bool false, .int .i64 (f : Int), .int .i64 (t : Int), .int .u64 (s : Int), .slice none 0 0] 69)
    have hrd5 : RdAt X (wr4.alloc (.cells #[.bool false, .int .i64 (f : Int), .int .i64 (t : Int), .int .u64 (s : Int), .slice none 0 0] 69)) p rr4 := rdAt_below hrd4 hbC
    have hgr5 : w.grownBy (wr4.alloc (.cells #[.bool false, .int .i64 (f : Int), .int .i64 (t : Int), .int .u64 (s : Int), .slice none 0 0] 69)) (some p) := grown_trans hgr4 (below_grown hbC _)
    have lz5 : look (wr4.alloc (.cells #[.bool false, .int .i64 (f : Int), .int .i64 (t : Int), .int .u64 (s : Int), .slice none 0 0] 69)) w.heap.size = some (.cells #[.bool false, .int .i64 0, .int .i64 0, .int .u64 0, .slice none 0 0] 69 (0, 0)) := by
      rw [look_below hbC hz4]; exact hlz4
    have c0 : World.cell? (wr4.alloc (.cells #[.bool false, .int .i64 (f : Int), .int .i64 (t : Int), .int .u64 (s : Int), .slice none 0 0] 69)) ⟨wr4.heap.size, 0, none⟩ = some (.bool false) := by rw [look_cell l5]; rfl
    have hsz5 : ((wr4.alloc (.cells #[.bool false, .int .i64 (f : Int), .int .i64 (t : Int), .int .u64 (s : Int), .slice none 0 0] 69))).heap.size = wr4.heap.size + 1 := by simp
    have hdE : Hid (decP bs = match decT 1800 rr4 with | .ok d r5 => decPE ⟨false, f, t, s, d⟩ r5 | .fault e => .fault e) := hidP (by rw [hdh.out]; rfl)
    clear hdh
    go_wp2_with fail
    refine (rtext_any p 1800 rr4 _ (by decide) hrl hby4 hrd5).mono ?_
    rintro e w6 ⟨hg6, hr⟩
    have hgr6 := grown_trans hgr5 hg6
    cases hd5 : decT 1800 rr4 with
    | fault k =>
      rw [hd5] at hr
      have hdz : Hid (decP bs = .fault k) := hidP (by rw [hdE.out, hd5])
      cases hr
      go_wp2
      exact ⟨rfl, rdV_fault hdz.out hgr6⟩
    | ok d r5 =>
    rw [hd5] at hr
    obtain ⟨⟨u, rfl, hu⟩, hrd6⟩ := hr
    have hdE2 : Hid (decP bs = decPE ⟨false, f, t, s, d⟩ r5) := hidP (by rw [hdE.out, hd5])
    have hdl : d.length ≤ 1800 := ((codeT 1800 (by decide)).sound hby4 hd5).1.1
    rw [hsz5] at hu
    obtain ⟨ua, uc, rfl⟩ := own_form hu
    have hub := blk_own hu
    have hpq : p ≠ wr4.heap.size := by have := hq4.out; omega
    have l6 : look w6 wr4.heap.size = some (.cells #[.bool false, .int .i64 (f : Int), .int .i64 (t : Int), .int .u64 (s : Int), .slice none 0 0] 69 (0, 0)) := by rw [grown_look hg6 (look_lt l5) (by intro g e; cases e; omega)]; exact l5
    have lz6 : look w6 w.heap.size = some (.cells #[.bool false, .int .i64 0, .int .i64 0, .int .u64 0, .slice none 0 0] 69 (0, 0)) := by rw [grown_look hg6 (look_lt lz5) (by intro g e; cases e; omega)]; exact lz5
    have c4 : w6.cell? ⟨wr4.heap.size, 4, none⟩ = some (.slice none 0 0) := by rw [look_cell l6]; rfl
    have z4 := look_frozen l6 4
    have l7 : look (w6.setCell ⟨wr4.heap.size, 4, none⟩ (.slice ua d.length uc)) wr4.heap.size = some (.cells #[.bool false, .int .i64 (f : Int), .int .i64 (t : Int), .int .u64 (s : Int), .slice ua d.length uc] 69 (0, 0)) := by rw [look_set_same l6]; rfl
    have lz7 : look (w6.setCell ⟨wr4.heap.size, 4, none⟩ (.slice ua d.length uc)) w.heap.size = some (.cells #[.bool false, .int .i64 0, .int .i64 0, .int .u64 0, .slice none 0 0] 69 (0, 0)) := by rw [look_set_other (a := ⟨wr4.heap.size, 4, none⟩) (by show w.heap.size ≠ wr4.heap.size; omega)]; exact lz6
    have hrd7 : RdAt X (w6.setCell ⟨wr4.heap.size, 4, none⟩ (.slice ua d.length uc)) p r5 := rd_aside hrd6 l6 hpq (pk_nob _ _ _ _ _ _ _)
    have hgr7 : w.grownBy (w6.setCell ⟨wr4.heap.size, 4, none⟩ (.slice ua d.length uc)) (some p) := grown_cell_new hgr6 (by omega) _
    have hsl7 : SliceAt (w6.setCell ⟨wr4.heap.size, 4, none⟩ (.slice ua d.length uc)) (.slice ua d.length uc) d.length 1 (bC d) := (own_slice hu).kept (by simp) fun b hb => heap_setCell_other w6 ⟨wr4.heap.size, 4, none⟩ b _ (by show b ≠ wr4.heap.size; have := (hub b hb).1; omega)
    have hrt := pright_any ⟨false, f, t, s, d⟩ ua uc (w6.setCell ⟨wr4.heap.size, 4, none⟩ (.slice ua d.length uc)) (by show d.length ≤ _; omega)
    clear hd5 hdE hrd5 hrd4 l5 lz5 hgr5 c0 hu hrd6 hgr6 hg6
    cases hR : rightP ⟨false, f, t, s, d⟩
    · rw [hR] at hrt
      have hdz : Hid (decP bs = .fault 3) := hidP (by rw [hdE2.out]; unfold decPE; rw [hR]; rfl)
      clear hdE2 hR
      go_wp2_with fail
      refine hrt.mono ?_
      rintro _ w8 ⟨rfl, hb8⟩
      have hrd8 := rdAt_below hrd7 hb8
      have hgr8 := grown_trans hgr7 (below_grown hb8 (some p))
      go_wp2_with fail
      refine (rmust_any p _ false _ hrd8).mono ?_
      rintro e _ ⟨hm, rfl⟩
      have hm2 : faultC 3 e := hm
      cases hm2
      go_wp2
      exact ⟨rfl, rdV_fault hdz.out hgr8⟩
    · rw [hR] at hrt
      have hdz : Hid (decP bs = .ok ⟨false, f, t, s, d⟩ r5) := hidP (by rw [hdE2.out]; unfold decPE; rw [hR]; rfl)
      clear hdE2 hR
      go_wp2_with fail
      refine hrt.mono ?_
      rintro _ w8 ⟨rfl, hb8⟩
      have hrd8 := rdAt_below hrd7 hb8
      have hgr8 := grown_trans hgr7 (below_grown hb8 (some p))
      have l8 : look w8 wr4.heap.size = some (.cells #[.bool false, .int .i64 (f : Int), .int .i64 (t : Int), .int .u64 (s : Int), .slice ua d.length uc] 69 (0, 0)) := by rw [look_below hb8 (look_lt l7)]; exact l7
      have lz8 : look w8 w.heap.size = some (.cells #[.bool false, .int .i64 0, .int .i64 0, .int .u64 0, .slice none 0 0] 69 (0, 0)) := by rw [look_below hb8 (look_lt lz7)]; exact lz7
      have hsl8 := hsl7.below hb8
      clear l6 lz6 c4 z4 l7 lz7 hrd7 hsl7
      go_wp2_with fail
      refine (rmust_any p _ true _ hrd8).mono ?_
      rintro e _ ⟨hm, rfl⟩
      have hm2 : e = .returned (.tuple #[]) := hm
      subst hm2
      have hsl9 : SliceAt (w8.setRow w.heap.size #[.bool false, .int .i64 (f : Int), .int .i64 (t : Int), .int .u64 (s : Int), .slice ua d.length uc]) (.slice ua d.length uc) d.length 1 (bC d) := hsl8.kept (by rw [row_size]; exact Nat.le_refl _) fun b hb => by
        have h0 := look_setRow w8 w.heap.size b #[.bool false, .int .i64 (f : Int), .int .i64 (t : Int), .int .u64 (s : Int), .slice ua d.length uc]
        rw [if_neg (by have := (hub b hb).1; omega)] at h0
        exact h0
      have hfin := hidP (rdV_ok (X := X) (V := pkV w.heap.size) (v := .agg #[.bool false, .int .i64 (f : Int), .int .i64 (t : Int), .int .u64 (s : Int), .slice ua d.length uc]) hdz.out (grown_row_new' hgr8 (Nat.le_refl _) #[.bool false, .int .i64 (f : Int), .int .i64 (t : Int), .int .u64 (s : Int), .slice ua d.length uc]) ⟨ua, uc, rfl, hsl9, fun _ b hb => by have := (hub b hb).1; omega⟩ (rd_aside_row hrd8 lz8 (by omega) (pk_nob _ _ _ _ _ _ _)))
      clear hsl8 hsl9
      go_wp2
      refine ret_pk (g := w.heap.size) (cs := #[.bool false, .int .i64 (f : Int), .int .i64 (t : Int), .int .u64 (s : Int), .slice ua d.length uc]) (t := 69) (fr := (0, 0)) Try.results82 rfl ?_ rfl rfl ?_
      · rw [look_setRow, if_pos rfl, lz8]; rfl
      · exact hfin.out

/-- What the closure leaves. -/
def rgotP (X : Nat → Prop) (r : Rd (Pk × Nat)) (p B1 B2 : Nat) (w : World) (e : Ending) (w' : World) : Prop := match r with
  | .ok x rest => e = .returned (.tuple #[]) ∧ RdAt X w' p rest ∧ ∃ (ad : Option Addr) (cap : Nat), look w' B1 = some (.cells (pkA x.1 ad cap) 69 (0, 0)) ∧ look w' B2 = some (.cells #[.int .i64 (x.2 : Int)] 3 (0, 0)) ∧ DatAt w' x.1 ad cap ∧ (0 < x.1.bs.length → ∀ b, blkOf (.slice ad x.1.bs.length cap) = some b → w.heap.size ≤ b)
  | .fault k => faultC k e
/-- All but three stays. -/
def Kept3 (p B1 B2 : Nat) (w w' : World) : Prop := w'.os = w.os ∧ w'.tape = w.tape ∧ w'.output = w.output ∧ w.heap.size ≤ w'.heap.size ∧ ∀ k, k < w.heap.size → k ≠ p → k ≠ B1 → k ≠ B2 → w'.heap[k]? = w.heap[k]?

set_option maxRecDepth 100000 in
set_option maxHeartbeats 3200000 in
theorem rread1_any (p B1 B2 : Nat) (bs : List Nat) (w : World) (h1 : p ≠ B1) (h2 : p ≠ B2) (h3 : B1 ≠ B2) (hlen : bs.length ≤ 1000000) (hby : ∀ x ∈ bs, x < 256) (h : RdAt X w p bs)
    (l1 : look w B1 = some (.cells #[.bool false, .int .i64 0, .int .i64 0, .int .u64 0, .slice none 0 0] 69 (0, 0))) (l2 : look w B2 = some (.cells #[.int .i64 0] 3 (0, 0))) :
    Calls Try.prog 81 #[.pointer (some ⟨p, 0, none⟩), .pointer (some ⟨B1, 0, none⟩), .pointer (some ⟨B2, 0, none⟩)] w fun e w' => Kept3 p B1 B2 w w' ∧ rgotP X (decR bs) p B1 B2 w e w' := by
  have hB1 := look_lt l1
  have hB2 := look_lt l2
  go_enter Try.func81, Try.ntmps81
  go_wp2_with fail
  refine (pget_any p bs _ hlen hby h).mono ?_
  rintro e w1 ⟨hg1, hr⟩
  have m1 : look w1 B1 = some (.cells #[.bool false, .int .i64 0, .int .i64 0, .int .u64 0, .slice none 0 0] 69 (0, 0)) := by rw [grown_look hg1 hB1 (by intro g e; cases e; omega)]; exact l1
  have m2 : look w1 B2 = some (.cells #[.int .i64 0] 3 (0, 0)) := by rw [grown_look hg1 hB2 (by intro g e; cases e; omega)]; exact l2
  cases hd : decP bs with
  | fault k =>
    rw [hd] at hr
    have hdz : Hid (decR bs = .fault k) := hidP (by unfold decR; rw [hd])
    cases hr
    go_wp2
    refine ⟨rfl, ⟨hg1.os, hg1.tape, hg1.output, hg1.size, fun k hk hp _ _ => hg1.block k hk (by intro e; cases e; exact hp rfl)⟩, ?_⟩
    rw [hdz.out]
    exact rfl
  | ok k r1 =>
  rw [hd] at hr
  obtain ⟨⟨_, rfl, ad, cap, rfl, hD, hDb⟩, hrd1⟩ := hr
  have hb1 := codeP.rest hby hd
  obtain ⟨ack, frm, to, seq, bs0⟩ := k
  have hD : SliceAt w1 (.slice ad bs0.length cap) bs0.length 1 (bC bs0) := hD
  have hDb : 0 < bs0.length → ∀ b, blkOf (.slice ad bs0.length cap) = some b → w.heap.size ≤ b := hDb
  have hs1 := hg1.size
  have m1' : look (w1.setRow B1 #[.bool ack, .int .i64 frm, .int .i64 to, .int .u64 (seq : Int), .slice ad bs0.length cap]) B1 = some (.cells #[.bool ack, .int .i64 frm, .int .i64 to, .int .u64 (seq : Int), .slice ad bs0.length cap] 69 (0, 0)) := by rw [look_setRow, if_pos rfl, m1]; rfl
  have m2' : look (w1.setRow B1 #[.bool ack, .int .i64 frm, .int .i64 to, .int .u64 (seq : Int), .slice ad bs0.length cap]) B2 = some (.cells #[.int .i64 0] 3 (0, 0)) := by rw [look_setRow, if_neg (by omega)]; exact m2
  have hrd2 : RdAt X (w1.setRow B1 #[.bool ack, .int .i64 frm, .int .i64 to, .int .u64 (seq : Int), .slice ad bs0.length cap]) p r1 := rd_aside_row hrd1 m1 h1 (pk_nob _ _ _ _ _ _ _)
  have hk2 : ∀ b, b ≠ B1 → (w1.setRow B1 #[.bool ack, .int .i64 frm, .int .i64 to, .int .u64 (seq : Int), .slice ad bs0.length cap]).heap[b]? = w1.heap[b]? := fun b hb => by
    have h0 := look_setRow w1 B1 b #[.bool ack, .int .i64 frm, .int .i64 to, .int .u64 (seq : Int), .slice ad bs0.length cap]
    rw [if_neg hb] at h0
    exact h0
  have hdR : Hid (decR bs = match decS 4294967295 r1 with | .ok s r2 => .ok (⟨ack, frm, to, seq, bs0⟩, s) r2 | .fault e => .fault e) := hidP (by unfold decR; rw [hd]; simp only; cases decS 4294967295 r1 <;> rfl)
  clear hd hrd1
  simp only [pkA]
  go_wp2_with fail
  refine (small_any p 4294967295 r1 _ (by decide) hb1 hrd2).mono ?_
  rintro e w3 ⟨hg3, hr⟩
  have hsr := row_size w1 B1 #[.bool ack, .int .i64 frm, .int .i64 to, .int .u64 (seq : Int), .slice ad bs0.length cap]
  have hs3 := hg3.size
  have n1 : look w3 B1 = some (.cells #[.bool ack, .int .i64 frm, .int .i64 to, .int .u64 (seq : Int), .slice ad bs0.length cap] 69 (0, 0)) := by rw [grown_look hg3 (look_lt m1') (by intro g e; cases e; omega)]; exact m1'
  have n2 : look w3 B2 = some (.cells #[.int .i64 0] 3 (0, 0)) := by rw [grown_look hg3 (look_lt m2') (by intro g e; cases e; omega)]; exact m2'
  have hkk : ∀ k, k < w.heap.size → k ≠ p → k ≠ B1 → w3.heap[k]? = w.heap[k]? := fun k hk hp hb => by
    rw [hg3.block k (by omega) (by intro e; cases e; exact hp rfl), hk2 k hb, hg1.block k hk (by intro e; cases e; exact hp rfl)]
  have hos : w3.os = w.os ∧ w3.tape = w.tape ∧ w3.output = w.output := ⟨hg3.os.trans hg1.os, hg3.tape.trans hg1.tape, hg3.output.trans hg1.output⟩
  cases hd3 : decS 4294967295 r1 with
  | fault k =>
    rw [hd3] at hr
    have hdz : Hid (decR bs = .fault k) := hidP (by rw [hdR.out, hd3])
    cases hr
    go_wp2
    refine ⟨rfl, ⟨hos.1, hos.2.1, hos.2.2, by omega, fun k hk hp hb _ => hkk k hk hp hb⟩, ?_⟩
    rw [hdz.out]
    exact rfl
  | ok s r2 =>
  rw [hd3] at hr
  obtain ⟨rfl, hrd3⟩ := hr
  have hdz : Hid (decR bs = .ok (⟨ack, frm, to, seq, bs0⟩, s) r2) := hidP (by rw [hdR.out, hd3])
  have c3 : w3.cell? ⟨B2, 0, none⟩ = some (.int .i64 0) := by rw [look_cell n2]; rfl
  have z3 := look_frozen n2 0
  have q1 : look (w3.setCell ⟨B2, 0, none⟩ (.int .i64 (s : Int))) B1 = some (.cells #[.bool ack, .int .i64 frm, .int .i64 to, .int .u64 (seq : Int), .slice ad bs0.length cap] 69 (0, 0)) := by rw [look_set_other (a := ⟨B2, 0, none⟩) h3]; exact n1
  have q2 : look (w3.setCell ⟨B2, 0, none⟩ (.int .i64 (s : Int))) B2 = some (.cells #[.int .i64 (s : Int)] 3 (0, 0)) := by rw [look_set_same n2]; rfl
  have hrd4 : RdAt X (w3.setCell ⟨B2, 0, none⟩ (.int .i64 (s : Int))) p r2 := rd_aside hrd3 n2 h2 (fun j x e => by
    match j, e with
    | 0, e => cases e
    | j + 1, e => simp at e)
  have hD4 : DatAt (w3.setCell ⟨B2, 0, none⟩ (.int .i64 (s : Int))) ⟨ack, frm, to, seq, bs0⟩ ad cap := by
    by_cases h0 : 0 < bs0.length
    · have hblk : ∀ b, blkOf (.slice ad bs0.length cap) = some b → w.heap.size ≤ b ∧ b < w1.heap.size := fun b hb => ⟨hDb h0 b hb, DatAt.blk (k := ⟨ack, frm, to, seq, bs0⟩) hD h0 b hb⟩
      refine SliceAt.kept (W := w3.setCell ⟨B2, 0, none⟩ (.int .i64 (s : Int))) hD (by simp; omega) fun b hb => ?_
      obtain ⟨x1, x2⟩ := hblk b hb
      have hpw : p < w.heap.size := rd_lt h
      rw [heap_setCell_other w3 ⟨B2, 0, none⟩ b _ (by show b ≠ B2; omega), hg3.block b (by omega) (by intro e; cases e; omega), hk2 b (by omega)]
    · obtain ⟨_, _, e, x2, x3, _⟩ := hD
      cases e
      exact ⟨ad, cap, rfl, x2, x3, .inl (by show bs0.length = 0; omega)⟩
  have hfin := hidP (And.intro hrd4 (And.intro q1 (And.intro q2 hD4)))
  have hkf : Hid (Kept3 p B1 B2 w (w3.setCell ⟨B2, 0, none⟩ (.int .i64 (s : Int)))) := hidP ⟨hos.1, hos.2.1, hos.2.2, by simp; omega, fun k hk hp hb hb2 => by rw [heap_setCell_other w3 ⟨B2, 0, none⟩ k _ hb2]; exact hkk k hk hp hb⟩
  clear hrd4 q1 q2 hD4 hkk hk2 hrd2 m1 m2 m1' m2' hD l1 l2
  go_wp2
  go_end0
  refine ⟨hkf.out, ?_⟩
  rw [hdz.out]
  exact ⟨rfl, hfin.out.1, ad, cap, hfin.out.2.1, hfin.out.2.2.1, hfin.out.2.2.2, hDb⟩
end Go.Proofs.Ytnpofcnibgdjhaa
