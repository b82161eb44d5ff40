/- The reader of bytes: a vector. -/
import Derived.Test.YtniphfkipjpikaaWirJ
namespace Go.Proofs.Ytniphfkipjpikaa
open Go.RowKit
variable {X : Nat → Prop}

/-- k numbers more of a vector, the next one at i. -/
def decVs (f : Nat → Nat) (i : Nat) : Nat → List Nat → Rd (Nat → Nat)
  | 0, bs => .ok f bs
  | k + 1, bs => match decS 4294967295 bs with
    | .ok x rest => decVs (upd f i x) (i + 1) k rest
    | .fault e => .fault e
/-- A vector. -/
def decV (bs : List Nat) : Rd (Nat → Nat) := match decS 12 bs with
  | .ok n rest => (match decVs (fun _ => 0) 0 n rest with
    | .ok f r => if n = 0 ∨ 0 < f (n - 1) then .ok f r else .fault 3
    | .fault e => .fault e)
  | .fault e => .fault e
theorem decVs_zero (f : Nat → Nat) (i : Nat) (bs : List Nat) : decVs f i 0 bs = .ok f bs := rfl
theorem decVs_ok {f : Nat → Nat} {i k : Nat} {bs : List Nat} {x : Nat} {rest : List Nat} (h : decS 4294967295 bs = .ok x rest) : decVs f i (k + 1) bs = decVs (upd f i x) (i + 1) k rest := by
  rw [show decVs f i (k + 1) bs = (match decS 4294967295 bs with
    | .ok x rest => decVs (upd f i x) (i + 1) k rest
    | .fault e => .fault e) from rfl, h]
theorem decVs_fault {f : Nat → Nat} {i k : Nat} {bs : List Nat} {e : Int} (h : decS 4294967295 bs = .fault e) : decVs f i (k + 1) bs = .fault e := by
  unfold decVs
  rw [h]
theorem decS_rest {most : Nat} {bs : List Nat} {n : Nat} {rest : List Nat} (h : decS most bs = .ok n rest) : ∀ x ∈ rest, x ∈ bs := by
  obtain ⟨_, _, pre, rfl, _⟩ := decS_ok h
  intro x hx
  exact List.mem_append_right _ hx

/-- What a reader has stays, when cells are written that are no bytes and not its own. -/
theorem rd_aside {w : World} {p b i : Nat} {bs : List Nat} {cs : Array Value} {t : TypeId} {u : Value} (h : RdAt X w p bs) (hl : look w b = some (.cells cs t (0, 0))) (hne : p ≠ b) (hcs : ∀ (j : Nat) (x : Int), cs[j]? ≠ some (.int .u8 x)) : RdAt X (w.setCell ⟨b, i, none⟩ u) p bs := by
  obtain ⟨v, hp, ⟨ad, cap, e, h2, h3, h4⟩, hX⟩ := h
  refine ⟨v, by rw [look_set_other (a := ⟨b, i, none⟩) hne]; exact hp, ⟨ad, cap, e, h2, h3, ?_⟩, hX⟩
  rcases h4 with h4 | ⟨b2, off, e2, hb, hR⟩
  · exact .inl h4
  · by_cases hn : bs.length = 0
    · exact .inl hn
    · have hbp : b2 ≠ b := by
        rintro rfl
        have h0 := hR 0 (by omega) 0 _ rfl
        rw [look_cell hl] at h0
        exact hcs _ _ h0
      refine .inr ⟨b2, off, e2, by simpa using hb, fun k hk j y hy => ?_⟩
      rw [← hR k hk j y hy]
      exact World.cell?_of_block (heap_setCell_other w ⟨b, i, none⟩ b2 u hbp)
theorem rd_aside_row {w : World} {p b : Nat} {bs : List Nat} {cs cs' : Array Value} {t : TypeId} (h : RdAt X w p bs) (hl : look w b = some (.cells cs t (0, 0))) (hne : p ≠ b) (hcs : ∀ (j : Nat) (x : Int), cs[j]? ≠ some (.int .u8 x)) : RdAt X (w.setRow b cs') p bs := by
  obtain ⟨v, hp, ⟨ad, cap, e, h2, h3, h4⟩, hX⟩ := h
  refine ⟨v, by rw [look_setRow, if_neg hne]; exact hp, ⟨ad, cap, e, h2, h3, ?_⟩, hX⟩
  rcases h4 with h4 | ⟨b2, off, e2, hb, hR⟩
  · exact .inl h4
  · by_cases hn : bs.length = 0
    · exact .inl hn
    · have hbp : b2 ≠ b := by
        rintro rfl
        have h0 := hR 0 (by omega) 0 _ rfl
        rw [look_cell hl] at h0
        exact hcs _ _ h0
      refine .inr ⟨b2, off, e2, by simpa [World.setRow] using hb, fun k hk j y hy => ?_⟩
      rw [← hR k hk j y hy]
      exact World.cell?_of_block (by have := look_setRow w b b2 cs'; rw [if_neg hbp] at this; exact this)
theorem grown_row_new {w w2 : World} {row : Option Nat} (h : w.grownBy w2 row) {b : Nat} (hb : w.heap.size ≤ b) (cs : Array Value) : w.grownBy (w2.setRow b cs) row :=
  ⟨h.os, h.tape, h.output, by simpa [World.setRow] using h.size, fun k hk hne => by
    have := look_setRow w2 b k cs
    rw [if_neg (by omega)] at this
    exact this.trans (h.block k hk hne)⟩
theorem VA_not_byte (f : Nat → Nat) (j : Nat) (x : Int) : (VA f)[j]? ≠ some (.int .u8 x) := by
  intro h
  by_cases hj : j < 12
  · rw [VA_get f j hj] at h
    cases h
  · rw [Array.getElem?_eq_none (by rw [VA_size]; omega)] at h
    cases h
theorem grown_set_new {w w2 : World} {row : Option Nat} (h : w.grownBy w2 row) {b : Nat} (hb : w.heap.size ≤ b) (i : Nat) (u : Value) : w.grownBy (w2.setCell ⟨b, i, none⟩ u) row :=
  ⟨h.os, h.tape, h.output, by simpa using h.size, fun k hk hne => (heap_setCell_other w2 ⟨b, i, none⟩ k u (by show k ≠ b; omega)).trans (h.block k hk hne)⟩

set_option maxRecDepth 100000 in
set_option maxHeartbeats 3200000 in
theorem rvec_any (p : Nat) (bs : List Nat) (w : World) (hby : ∀ x ∈ bs, x < 256) (h : RdAt X w p bs) :
    Calls Try.prog 46 #[.pointer (some ⟨p, 0, none⟩)] w fun e w' => rdPost X (decV bs) (fun f => .agg (VA f)) p w e w' := by
  have hpw : p < w.heap.size := by obtain ⟨_, hl, _⟩ := h; exact look_lt hl
  have hbA := belA (belA (bel0 w) (.cells (VA fun _ => 0) 65)) (.cells (VA fun _ => 0) 65)
  have h2 := rdAt_below h hbA
  have hlr : look ((w.alloc (.cells (VA fun _ => 0) 65)).alloc (.cells (VA fun _ => 0) 65)) w.heap.size = some (.cells (VA fun _ => 0) 65 (0, 0)) := by
    rw [look_alloc_past _ _ _ (by simp)]
    exact look_alloc_at _ _ _ rfl
  have hlv : look ((w.alloc (.cells (VA fun _ => 0) 65)).alloc (.cells (VA fun _ => 0) 65)) (w.heap.size + 1) = some (.cells (VA fun _ => 0) 65 (0, 0)) := look_alloc_at _ _ _ (by simp)
  go_enter Try.func46, Try.ntmps46
  go_wp2_with fail
  refine (made_any p bs _ h2).mono ?_
  rintro _ _ ⟨rfl, rfl⟩
  go_wp2_with fail
  refine (small_any p 12 bs _ (by omega) hby h2).mono ?_
  rintro e w1 ⟨hg1, hr⟩
  have hgr1 := grown_trans (below_grown hbA (some p)) hg1
  cases hdec : decS 12 bs with
  | fault k =>
    rw [hdec] at hr
    have hdv : decV bs = .fault k := by unfold decV; rw [hdec]
    cases hr
    go_wp2
    exact ⟨rfl, rd_fault hdv hgr1⟩
  | ok n rest =>
    rw [hdec] at hr
    obtain ⟨rfl, hrd⟩ := hr
    have hn := decS_le hdec
    have hbr : ∀ x ∈ rest, x < 256 := fun x hx => hby x (decS_rest hdec x hx)
    have hlr1 : look w1 w.heap.size = some (.cells (VA fun _ => 0) 65 (0, 0)) := by rw [grown_look hg1 (look_lt hlr) (by intro g e; cases e; omega)]; exact hlr
    have hlv1 : look w1 (w.heap.size + 1) = some (.cells (VA fun _ => 0) 65 (0, 0)) := by rw [grown_look hg1 (look_lt hlv) (by intro g e; cases e; omega)]; exact hlv
    have hdv : decV bs = (match decVs (fun _ => 0) 0 n rest with
      | .ok f r => if n = 0 ∨ 0 < f (n - 1) then .ok f r else .fault 3
      | .fault e => .fault e) := by unfold decV; rw [hdec]
    have hdh := hidP hdv
    clear hdv hdec
    go_wp2_with fail
    go_loopw [13] (fun i wr => ∃ (m : Nat) (f : Nat → Nat) (r2 : List Nat), m ≤ n ∧ i = .int .i64 m ∧ decVs (fun _ => 0) 0 n rest = decVs f m (n - m) r2 ∧ (∀ x ∈ r2, x < 256) ∧ look wr w.heap.size = some (.cells (VA fun _ => 0) 65 (0, 0)) ∧ look wr (w.heap.size + 1) = some (.cells (VA f) 65 (0, 0)) ∧ RdAt X wr p r2 ∧ w.grownBy wr (some p)) (fun i _ => n - (intOf i).toNat)
    case atStart => exact ⟨0, fun _ => 0, rest, by omega, rfl, rfl, hbr, hlr1, hlv1, hrd, hgr1⟩
    case round =>
      obtain ⟨m, f, r2, hm, rfl, hdm, hb2, hlr2, hlv2, hrd2, hgr2⟩ := hrel
      by_cases hlt : m < n
      · obtain ⟨q, hq⟩ : ∃ q, n - m = q + 1 := ⟨n - m - 1, by omega⟩
        rw [hq] at hdm
        go_wp2_with fail
        refine (small_any p 4294967295 r2 _ (by omega) hb2 hrd2).mono ?_
        rintro e w2 ⟨hg2, hr⟩
        have hgr3 := grown_trans hgr2 hg2
        cases hdec : decS 4294967295 r2 with
        | fault k =>
          rw [hdec] at hr
          rw [decVs_fault hdec] at hdm
          have hdv : decV bs = .fault k := by rw [hdh.out, hdm]
          cases hr
          go_wp2
          exact ⟨rfl, rd_fault hdv hgr3⟩
        | ok x r3 =>
          rw [hdec] at hr
          rw [decVs_ok hdec] at hdm
          have hx := decS_le hdec
          have hb3 : ∀ y ∈ r3, y < 256 := fun y hy => hb2 y (decS_rest hdec y hy)
          have e1 : n - (m + 1) = q := by omega
          rw [← e1] at hdm
          have hdmh := hidP hdm
          clear hdm hdec
          obtain ⟨rfl, hrd3⟩ := hr
          have hlr3 : look w2 w.heap.size = some (.cells (VA fun _ => 0) 65 (0, 0)) := by rw [grown_look hg2 (look_lt hlr2) (by intro g e; cases e; omega)]; exact hlr2
          have hlv3 : look w2 (w.heap.size + 1) = some (.cells (VA f) 65 (0, 0)) := by rw [grown_look hg2 (look_lt hlv2) (by intro g e; cases e; omega)]; exact hlv2
          have hcv : w2.cell? ⟨w.heap.size + 1, m, none⟩ = some (.int .u32 (f m : Int)) := by rw [look_cell hlv3, VA_get f m (by omega)]
          have hfv := look_frozen hlv3 m
          have hwx : IntKind.u32.wrap (x : Int) = (x : Int) := by rw [IntKind.wrap_u32]; omega
          go_wp2_with fail
          go_roundw
          case rel =>
            exact ⟨m + 1, upd f m x, r3, by omega, by go_num, hdmh.out, hb3, by rw [look_set_other (a := ⟨w.heap.size + 1, m, none⟩) (by show w.heap.size ≠ w.heap.size + 1; omega)]; exact hlr3, by rw [look_set_same hlv3, VA_set], rd_aside hrd3 hlv3 (by omega) (VA_not_byte f), grown_set_new hgr3 (by omega) _ _⟩
          case measure => simp [intOf]; omega
      · obtain rfl : m = n := by omega
        rw [Nat.sub_self, decVs_zero] at hdm
        have hdv : decV bs = if m = 0 ∨ 0 < f (m - 1) then .ok f r2 else .fault 3 := by rw [hdh.out, hdm]
        have hdh2 := hidP hdv
        clear hdv hdm hdh
        have hcs : m = 0 ∨ ∃ k, m = k + 1 := by
          cases m with
          | zero => exact .inl rfl
          | succ k => exact .inr ⟨k, rfl⟩
        have hlf : look (wr.setRow w.heap.size (VA f)) w.heap.size = some (.cells (VA f) 65 (0, 0)) := by
          rw [look_setRow, if_pos rfl, hlr2]
          rfl
        have hrf : RdAt X (wr.setRow w.heap.size (VA f)) p r2 := rd_aside_row hrd2 hlr2 (by omega) (VA_not_byte _)
        have hgf : w.grownBy (wr.setRow w.heap.size (VA f)) (some p) := grown_row_new hgr2 (Nat.le_refl _) _
        rcases hcs with rfl | ⟨k, rfl⟩
        · have hdv : decV bs = .ok f r2 := by rw [hdh2.out, if_pos (.inl rfl)]
          have hdh3 := hidP hdv
          clear hdv hdh2
          go_wp2_with fail
          refine (must_ok (by simp <;> omega) _).mono ?_
          rintro _ _ ⟨rfl, rfl⟩
          go_wp2_with fail
          exact ret_vec rfl rfl hlf rfl (rd_ok hdh3.out hgf hrf)
        · have hcv : wr.cell? ⟨w.heap.size + 1, k, none⟩ = some (.int .u32 (f k : Int)) := by rw [look_cell hlv2, VA_get f k (by omega)]
          by_cases hpos : 0 < f k
          · have hdv : decV bs = .ok f r2 := by rw [hdh2.out, if_pos (.inr hpos)]
            have hdh3 := hidP hdv
            clear hdv hdh2
            go_wp2_with fail
            refine (must_ok (by simp <;> omega) _).mono ?_
            rintro _ _ ⟨rfl, rfl⟩
            go_wp2_with fail
            exact ret_vec rfl rfl hlf rfl (rd_ok hdh3.out hgf hrf)
          · have hdv : decV bs = .fault 3 := by rw [hdh2.out, if_neg (by simp; omega)]
            have hdh3 := hidP hdv
            clear hdv hdh2
            go_wp2_with fail
            refine (must_bad (by simp <;> omega) _).mono ?_
            rintro e _ ⟨hf, rfl⟩
            cases hf
            go_wp2
            exact ⟨rfl, rd_fault hdh3.out hgr2⟩
end Go.Proofs.Ytniphfkipjpikaa
