/- Labels: written, and read. -/
import Derived.Test.YtniphfkipjpikaaLbD
namespace Go.Proofs.Ytniphfkipjpikaa
open Go.RowKit
variable {X : Nat → Prop}

theorem Code.rest {α : Type} {dec : List Nat → Rd α} {enc : α → List Nat} {good : α → Prop} (c : Code dec enc good) {bs : List Nat} {x : α} {r : List Nat} (hb : ∀ b ∈ bs, b < 256) (h : dec bs = .ok x r) : ∀ b ∈ r, b < 256 :=
  fun b hx => hb b (by rw [(c.sound hb h).2]; exact List.mem_append_right _ hx)

set_option maxRecDepth 100000 in
theorem rmust_any (p : Nat) (bs : List Nat) (b : Bool) (w : World) (h : RdAt X w p bs) :
    Calls Try.prog 84 #[.pointer (some ⟨p, 0, none⟩), .bool b] w fun e w' => (if b = true then e = .returned (.tuple #[]) else faultC 3 e) ∧ w = w' := by
  go_enter Try.func84, Try.ntmps84
  go_wp2_with fail
  refine (made_any p bs _ h).mono ?_
  rintro _ _ ⟨rfl, rfl⟩
  cases b
  · go_wp2_with fail
    refine (must_no _).mono ?_
    rintro e _ ⟨hf, rfl⟩
    cases hf
    go_wp2
    exact ⟨rfl, rfl, rfl⟩
  · go_wp2_with fail
    refine (must_yes _).mono ?_
    rintro _ _ ⟨rfl, rfl⟩
    go_wp2
    go_end0
    exact ⟨rfl, rfl⟩

/-- The numbers of a label are such as their types hold. -/
structure Typed (l : Lb) : Prop where
  time : l.time < 18446744073709551616
  node : -9223372036854775808 ≤ l.node ∧ l.node ≤ 9223372036854775807
  n : l.n < 4294967296
  cart : -9223372036854775808 ≤ l.cart ∧ l.cart ≤ 9223372036854775807
  seller : -9223372036854775808 ≤ l.seller ∧ l.seller ≤ 9223372036854775807
  deps : ∀ k, l.deps k < 4294967296
theorem rightL_iff (l : Lb) : rightL l = true ↔ (1 ≤ l.time ∧ l.time ≤ 1099511627776 ∧ 1 ≤ l.cart ∧ l.cart ≤ 12 ∧ 0 ≤ l.seller ∧ l.seller ≤ 12) ∧ (1 ≤ l.node ∧ l.node ≤ 12 ∧ 1 ≤ l.n ∧ l.n ≤ 1048576) ∧ getN l.deps l.node = l.n - 1 ∧ ∀ i, i < 12 → l.deps i ≤ 1048576 := by
  unfold rightL rightB
  simp only [Bool.and_eq_true, decide_eq_true_eq, cntTo_iff]

set_option maxRecDepth 100000 in
set_option maxHeartbeats 1600000 in
theorem lwrite_no (l : Lb) (w : World) (ht : Typed l) (hr : rightL l = false) :
    Calls Try.prog 50 #[.agg (LA l)] w fun e w' => e = .returned (.tuple #[.slice none 0 0, .int .i64 3]) ∧ Below w.heap.size w w' := by
  have hb := belA (bel0 w) (.cells (LA l) 87)
  go_enter Try.func50, Try.ntmps50
  go_wp2_with fail
  refine (lright_any l _ ht.n).mono ?_
  rintro _ w1 ⟨rfl, hb1⟩
  rw [hr]
  go_wp2
  refine bodyPost_ret (v := .tuple #[.slice none 0 0, .int .i64 3]) (by simp [results, Try.results50, go_sem]) rfl ?_
  exact ⟨rfl, belT hb hb1⟩

set_option maxRecDepth 100000 in
set_option maxHeartbeats 1600000 in
theorem lwrite_yes (l : Lb) (w : World) (ht : Typed l) (hr : rightL l = true) :
    Calls Try.prog 50 #[.agg (LA l)] w fun e w' => ∃ u, e = .returned (.tuple #[u, .int .i64 0]) ∧ w'.ownsRow w.heap.size 5 1 u (encL l).length (bcells (encL l)) ∧ Below w.heap.size w w' := by
  have hb := belA (bel0 w) (.cells (LA l) 87)
  have hlx : look (w.alloc (.cells (LA l) 87)) w.heap.size = some (.cells (LA l) 87 (0, 0)) := look_alloc_at _ _ _ rfl
  go_enter Try.func50, Try.ntmps50
  go_wp2_with fail
  refine (lright_any l _ ht.n).mono ?_
  rintro _ w1 ⟨rfl, hb1⟩
  rw [hr]
  have hB1 := belT hb hb1
  have hl1 : look w1 w.heap.size = some (.cells (LA l) 87 (0, 0)) := by rw [look_below hb1 (by simp)]; exact hlx
  go_wp2_with fail
  refine (new_any _).mono ?_
  rintro _ _ ⟨rfl, rfl⟩
  have hs1 := look_lt hl1
  have hl2 : look (w1.alloc (.cells #[.slice none 0 0] 111)) w.heap.size = some (.cells (LA l) 87 (0, 0)) := by rw [look_alloc_past _ _ _ hs1]; exact hl1
  have hB2 := belA hB1 (.cells #[.slice none 0 0] 111)
  have hw2 := wr_new w1
  obtain ⟨⟨_, _, r3, r4, r5, r6⟩, ⟨r7, r8, _, _⟩, _, _⟩ := (rightL_iff l).1 hr
  go_wp2_with fail
  refine (lput_any w1.heap.size none [] l _ ht.time ⟨by omega, by omega⟩ ht.n ⟨by omega, by omega⟩ ⟨by omega, by omega⟩ ht.deps (by simp) hw2).mono ?_
  rintro _ w3 ⟨rfl, hW3⟩
  obtain ⟨g3, hv3, hn3, hk3⟩ := hW3
  have hB3 : Below w.heap.size w w3 := hB2.trans (hk3.below (by simp; omega) (by omega) (fun k e => by cases e))
  rw [List.nil_append] at hv3
  have hlen := encL_len l
  go_wp2_with fail
  refine (bytes_any w1.heap.size g3 _ _ (by omega) hv3).mono ?_
  rintro _ w4 ⟨u, rfl, hu, hb4⟩
  have hB4 : Below w.heap.size w w4 := hB3.trans (hb4.mono hB3.size)
  have hu2 := own_base hu hB3.size
  clear r3 r4 r5 r6 r7 r8
  go_wp2
  refine bodyPost_ret (v := .tuple #[u, .int .i64 0]) (by simp [results, Try.results50, go_sem]) rfl ?_
  exact ⟨_, rfl, hu2, hB4⟩

theorem LA_not_byte (l : Lb) (j : Nat) (x : Int) : (LA l)[j]? ≠ some (.int .u8 x) := by
  intro h
  by_cases hj : j < 5
  · rw [LA_low l j hj] at h
    rcases (show j = 0 ∨ j = 1 ∨ j = 2 ∨ j = 3 ∨ j = 4 by omega) with rfl | rfl | rfl | rfl | rfl <;> simp at h
  · by_cases hj2 : j < 17
    · obtain ⟨i, rfl⟩ : ∃ i, j = 5 + i := ⟨j - 5, by omega⟩
      rw [LA_deps l i (by omega)] at h
      cases h
    · rw [Array.getElem?_eq_none (by rw [LA_size]; omega)] at h
      cases h
/-- A label is built of its parts. -/
theorem wpList_build_lab {ops : Array Oper} {rest : List Oper} {a : Act} {w : World} {Q : Exit → Act → World → Prop} {dst : Option Tmp} {x0 x1 x2 x3 x4 x5 : Operand} {ty : TypeId} {pos : String} {after : Array Edge} (l : Lb)
    (h0 : a.eval x0 = .int .u64 (l.time : Int)) (h1 : a.eval x1 = .int .i64 l.node) (h2 : a.eval x2 = .int .u32 (l.n : Int)) (h3 : a.eval x3 = .int .i64 l.cart) (h4 : a.eval x4 = .int .i64 l.seller) (h5 : a.eval x5 = .agg (VA l.deps))
    (h : wpList Try.prog ops Q rest (a.put dst (.agg (LA l))) w) : wpList Try.prog ops Q (⟨dst, .build 87 #[(0, x0), (1, x1), (2, x2), (3, x3), (4, x4), (5, x5)], ty, pos, after, none⟩ :: rest) a w := by
  refine wpList_plain rfl fun _ hK => ?_
  have e : (#[(0, x0), (1, x1), (2, x2), (3, x3), (4, x4), (5, x5)].map fun (i, x) => (i, a.eval x)) = #[(0, Value.int .u64 (l.time : Int)), (1, .int .i64 l.node), (2, .int .u32 (l.n : Int)), (3, .int .i64 l.cart), (4, .int .i64 l.seller), (5, .agg (VA l.deps))] := by
    simp only [List.map_toArray, List.map_cons, List.map_nil, h0, h1, h2, h3, h4, h5]
  unfold Oper.wp execOp
  simp only [e, Sem.run_bind, build_lab, Result.andThen_ok]
  exact hK _ _ h

/-- A label that lies before a reader. -/
def decL (bs : List Nat) : Rd Lb := match decN true 0 bs with
  | .ok t r1 => (match decS 12 r1 with
    | .ok nd r2 => (match decS 1048576 r2 with
      | .ok n r3 => (match decS 12 r3 with
        | .ok c r4 => (match decS 12 r4 with
          | .ok s r5 => (match decV r5 with
            | .ok d r6 => if rightL ⟨t, nd, n, c, s, d⟩ = true then .ok ⟨t, nd, n, c, s, d⟩ r6 else .fault 3
            | .fault e => .fault e)
          | .fault e => .fault e)
        | .fault e => .fault e)
      | .fault e => .fault e)
    | .fault e => .fault e)
  | .fault e => .fault e

set_option maxRecDepth 100000 in
set_option maxHeartbeats 3200000 in
theorem lget_any (p : Nat) (bs : List Nat) (w : World) (hby : ∀ x ∈ bs, x < 256) (h : RdAt X w p bs) :
    Calls Try.prog 87 #[.pointer (some ⟨p, 0, none⟩)] w fun e w' => rdPost X (decL bs) (fun l => .agg (LA l)) p w e w' := by
  have hpw : p < w.heap.size := by obtain ⟨_, hl, _⟩ := h; exact look_lt hl
  have hbA := belA (bel0 w) (.cells (LA ⟨0, 0, 0, 0, 0, fun _ => 0⟩) 87)
  have h2 := rdAt_below h hbA
  have hg0 := below_grown hbA (some p)
  have hlz : look (w.alloc (.cells (LA ⟨0, 0, 0, 0, 0, fun _ => 0⟩) 87)) w.heap.size = some (.cells (LA ⟨0, 0, 0, 0, 0, fun _ => 0⟩) 87 (0, 0)) := look_alloc_at _ _ _ rfl
  go_enter Try.func87, Try.ntmps87
  go_wp2_with fail
  go_wp2_with fail
  refine (rnum_any p _ _ hby h2).mono ?_
  rintro e wr1 ⟨hg1, hr⟩
  have hgr1 := grown_trans hg0 hg1
  rcases hd1 : decN true 0 bs with ⟨ti, rr1⟩ | ⟨kf⟩
  rotate_left
  · rw [hd1] at hr
    have hdv : decL bs = .fault kf := by simp only [decL, hd1]
    cases hr
    go_wp2
    exact ⟨rfl, rd_fault hdv hgr1⟩
  rw [hd1] at hr
  obtain ⟨rfl, hrd1⟩ := hr
  have hby1 := codeN.rest hby hd1
  go_wp2_with fail
  refine (small_any p 12 _ _ (by decide) hby1 hrd1).mono ?_
  rintro e wr2 ⟨hg2, hr⟩
  have hgr2 := grown_trans hgr1 hg2
  rcases hd2 : decS 12 rr1 with ⟨nd, rr2⟩ | ⟨kf⟩
  rotate_left
  · rw [hd2] at hr
    have hdv : decL bs = .fault kf := by simp only [decL, hd1, hd2]
    cases hr
    go_wp2
    exact ⟨rfl, rd_fault hdv hgr2⟩
  rw [hd2] at hr
  obtain ⟨rfl, hrd2⟩ := hr
  have hby2 := (codeS 12 (by decide)).rest hby1 hd2
  go_wp2_with fail
  refine (small_any p 1048576 _ _ (by decide) hby2 hrd2).mono ?_
  rintro e wr3 ⟨hg3, hr⟩
  have hgr3 := grown_trans hgr2 hg3
  rcases hd3 : decS 1048576 rr2 with ⟨nn, rr3⟩ | ⟨kf⟩
  rotate_left
  · rw [hd3] at hr
    have hdv : decL bs = .fault kf := by simp only [decL, hd1, hd2, hd3]
    cases hr
    go_wp2
    exact ⟨rfl, rd_fault hdv hgr3⟩
  rw [hd3] at hr
  obtain ⟨rfl, hrd3⟩ := hr
  have hby3 := (codeS 1048576 (by decide)).rest hby2 hd3
  have hs3 := decS_le hd3
  have hw3 : IntKind.u32.wrap (nn : Int) = (nn : Int) := IntWalk.u32_in _ (by omega)
  go_wp2_with fail
  refine (small_any p 12 _ _ (by decide) hby3 hrd3).mono ?_
  rintro e wr4 ⟨hg4, hr⟩
  have hgr4 := grown_trans hgr3 hg4
  rcases hd4 : decS 12 rr3 with ⟨ca, rr4⟩ | ⟨kf⟩
  rotate_left
  · rw [hd4] at hr
    have hdv : decL bs = .fault kf := by simp only [decL, hd1, hd2, hd3, hd4]
    cases hr
    go_wp2
    exact ⟨rfl, rd_fault hdv hgr4⟩
  rw [hd4] at hr
  obtain ⟨rfl, hrd4⟩ := hr
  have hby4 := (codeS 12 (by decide)).rest hby3 hd4
  go_wp2_with fail
  refine (small_any p 12 _ _ (by decide) hby4 hrd4).mono ?_
  rintro e wr5 ⟨hg5, hr⟩
  have hgr5 := grown_trans hgr4 hg5
  rcases hd5 : decS 12 rr4 with ⟨se, rr5⟩ | ⟨kf⟩
  rotate_left
  · rw [hd5] at hr
    have hdv : decL bs = .fault kf := by simp only [decL, hd1, hd2, hd3, hd4, hd5]
    cases hr
    go_wp2
    exact ⟨rfl, rd_fault hdv hgr5⟩
  rw [hd5] at hr
  obtain ⟨rfl, hrd5⟩ := hr
  have hby5 := (codeS 12 (by decide)).rest hby4 hd5
  go_wp2_with fail
  refine (rvec_any p _ _ hby5 hrd5).mono ?_
  rintro e wr6 ⟨hg6, hr⟩
  have hgr6 := grown_trans hgr5 hg6
  rcases hd6 : decV rr5 with ⟨de, rr6⟩ | ⟨kf⟩
  rotate_left
  · rw [hd6] at hr
    have hdv : decL bs = .fault kf := by simp only [decL, hd1, hd2, hd3, hd4, hd5, hd6]
    cases hr
    go_wp2
    exact ⟨rfl, rd_fault hdv hgr6⟩
  rw [hd6] at hr
  obtain ⟨rfl, hrd6⟩ := hr
  have hby6 := codeV.rest hby5 hd6
  have hs1 := decN_low _ _ _ hd1
  have hs2 := decS_le hd2
  have hs4 := decS_le hd4
  have hs5 := decS_le hd5
  have hs6 := (codeV.sound hby5 hd6).1.1
  have hdv : decL bs = if rightL ⟨ti, (nd : Int), nn, (ca : Int), (se : Int), de⟩ = true then .ok ⟨ti, (nd : Int), nn, (ca : Int), (se : Int), de⟩ rr6 else .fault 3 := by simp only [decL, hd1, hd2, hd3, hd4, hd5, hd6]
  have hdh := hidP hdv
  clear hdv hd1 hd2 hd3 hd4 hd5 hd6
  have hty : Typed ⟨ti, (nd : Int), nn, (ca : Int), (se : Int), de⟩ := ⟨hs1.1, ⟨by show (-9223372036854775808 : Int) ≤ (nd : Int); omega, by show (nd : Int) ≤ _; omega⟩, by show nn < _; omega, ⟨by show (-9223372036854775808 : Int) ≤ (ca : Int); omega, by show (ca : Int) ≤ _; omega⟩, ⟨by show (-9223372036854775808 : Int) ≤ (se : Int); omega, by show (se : Int) ≤ _; omega⟩, fun k => by show de k < _; have := hs6 k; omega⟩
  go_wp2_with (refine wpList_build_lab ⟨ti, (nd : Int), nn, (ca : Int), (se : Int), de⟩ rfl rfl rfl rfl rfl rfl ?_; refine stop_here ?_)
  refine hidP ?_
  generalize (⟨ti, (nd : Int), nn, (ca : Int), (se : Int), de⟩ : Lb) = lb at hdh hty ⊢
  clear hw3 hs1 hs2 hs3 hs4 hs5 hs6
  go_wp2_with fail
  have hbB := belA (bel0 wr6) (.cells (LA lb) 87)
  have hgr7 := grown_trans hgr6 (below_grown hbB (some p))
  have hrd7 := rdAt_below hrd6 hbB
  have hl7 : look (wr6.alloc (.cells (LA lb) 87)) wr6.heap.size = some (.cells (LA lb) 87 (0, 0)) := look_alloc_at _ _ _ rfl
  have hlz6 : look wr6 w.heap.size = some (.cells (LA ⟨0, 0, 0, 0, 0, fun _ => 0⟩) 87 (0, 0)) := by
    have hx := grown_trans (grown_trans (grown_trans (grown_trans (grown_trans hg1 hg2) hg3) hg4) hg5) hg6
    rw [grown_look hx (look_lt hlz) (by intro g e; cases e; omega)]
    exact hlz
  refine (lright_any lb _ hty.n).mono ?_
  rintro _ w8 ⟨rfl, hb8⟩
  have hgr8 := grown_trans hgr7 (below_grown hb8 (some p))
  have hrd8 := rdAt_below hrd7 hb8
  have hl8 : look w8 wr6.heap.size = some (.cells (LA lb) 87 (0, 0)) := by rw [look_below hb8 (look_lt hl7)]; exact hl7
  have hlz8 : look w8 w.heap.size = some (.cells (LA ⟨0, 0, 0, 0, 0, fun _ => 0⟩) 87 (0, 0)) := by
    have hs := look_lt hlz6
    rw [look_below hb8 (by simp; omega), look_below hbB hs]
    exact hlz6
  go_wp2_with fail
  refine (rmust_any p _ _ _ hrd8).mono ?_
  rintro e _ ⟨hm, rfl⟩
  cases hrt : rightL lb
  · rw [hrt] at hm
    have hdv : decL bs = .fault 3 := by rw [hdh.out, hrt]; rfl
    have hm2 : faultC 3 e := hm
    cases hm2
    go_wp2
    exact ⟨rfl, rd_fault hdv hgr8⟩
  · rw [hrt] at hm
    have hdv : decL bs = .ok lb rr6 := by rw [hdh.out, hrt]; rfl
    have hm2 : e = .returned (.tuple #[]) := hm
    subst hm2
    have hres := rd_ok (val := fun l => .agg (LA l)) hdv (grown_row_new hgr8 (Nat.le_refl _) (LA lb)) (rd_aside_row (cs' := LA lb) hrd8 hlz8 (by omega) (LA_not_byte _))
    go_wp2
    refine ret_lab (g := w.heap.size) (cs := LA lb) (t := 87) (fr := (0, 0)) Try.results87 rfl ?_ (LA_size _) rfl ?_
    · rw [look_setRow, if_pos rfl, hlz8]; rfl
    · exact hres
end Go.Proofs.Ytniphfkipjpikaa
