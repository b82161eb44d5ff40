/- Parts: read only. -/
import Derived.Test.YtniphfkipjpikaaWirY
namespace Go.Proofs.Ytniphfkipjpikaa
open Go.RowKit
variable {X : Nat → Prop}

theorem got_ok {r : Rd Unit} {p : Nat} {w w' : World} {u : Value} {rest : List Nat} (h : r = .ok () rest) (hg : w.grownBy w' (some p)) (hr : RdAt X w' p rest) : rdPostV X r (fun _ _ _ => True) p w (.returned u) w' := by
  subst h
  exact ⟨hg, ⟨u, rfl, trivial⟩, hr⟩
theorem got_fault {r : Rd Unit} {p : Nat} {w w' : World} {k : Int} (h : r = .fault k) (hg : w.grownBy w' (some p)) : rdPostV X r (fun _ _ _ => True) p w (.panicked [{ v := .iface 140 (.agg #[.int .i64 k]), recovered := false }]) w' := by
  subst h
  exact ⟨hg, rfl⟩
theorem decI_in {bs : List Nat} {x : Int} {r : List Nat} (h : decI bs = .ok x r) : -9223372036854775808 ≤ x ∧ x ≤ 9223372036854775807 := by
  unfold decI at h
  cases e : decN true 0 bs with
  | fault k => rw [e] at h; cases h
  | ok n rest =>
    rw [e] at h
    simp only at h
    split at h
    · split at h
      · cases h; omega
      · cases h
    · split at h
      · cases h; omega
      · cases h
theorem decF_in {bs : List Nat} {x : Nat} {r : List Nat} (hb : ∀ y ∈ bs, y < 256) (h : decF bs = .ok x r) : x < 18446744073709551616 := by
  unfold decF at h
  split at h
  · cases h
    refine Flt.ofF_lt ?_
    have hl : (bs.take 8).length = 8 := by rw [List.length_take]; omega
    have := valB_lt (bs.take 8) (fun y hy => hb y (List.mem_of_mem_take hy)) 8 (by omega)
    rw [List.take_of_length_le (by omega)] at this
    rw [show (18446744073709551616 : Nat) = 256 ^ 8 by decide]
    exact this
  · cases h

theorem decP_rest {P : Pt} {bs r : List Nat} {x : Unit} (hP : PtFine P) (hb : ∀ y ∈ bs, y < 256) (h : decP P bs = .ok x r) : (∀ y ∈ r, y ∈ bs) ∧ r.length ≤ bs.length := by
  have hsuf : ∃ pre, bs = pre ++ r := by
    by_cases h0 : P.kind = 0
    · rw [decP_0 h0] at h
      cases e : decN true 0 bs with
      | fault k => rw [e] at h; cases h
      | ok n rest =>
        rw [e] at h; cases h
        obtain ⟨_, pre, e2, _⟩ := decN_low _ _ _ e
        exact ⟨pre, e2⟩
    · by_cases h1 : P.kind = 1
      · rw [decP_1 h1] at h
        unfold decI at h
        cases e : decN true 0 bs with
        | fault k => rw [e] at h; cases h
        | ok n rest =>
          rw [e] at h
          obtain ⟨_, pre, e2, _⟩ := decN_low _ _ _ e
          refine ⟨pre, ?_⟩
          simp only at h
          split at h
          · rename_i heq
            cases h
            split at heq
            · split at heq
              · cases heq; exact e2
              · cases heq
            · split at heq
              · cases heq; exact e2
              · cases heq
          · cases h
      · by_cases h2 : P.kind = 2
        · rw [decP_2 h2] at h
          unfold decT at h
          cases e : decS P.most.toNat bs with
          | fault k => rw [e] at h; cases h
          | ok n rest =>
            rw [e] at h
            obtain ⟨_, _, pre, e2, _⟩ := decS_ok e
            simp only at h
            split at h
            · rename_i heq
              cases h
              split at heq
              · cases heq
                exact ⟨pre ++ rest.take n, by rw [List.append_assoc, List.take_append_drop]; exact e2⟩
              · cases heq
            · cases h
        · by_cases h3 : P.kind = 3
          · rw [decP_3 h3] at h
            unfold decF at h
            split at h
            · rename_i heq
              cases h
              split at heq
              · cases heq
                exact ⟨bs.take 8, (List.take_append_drop 8 bs).symm⟩
              · cases heq
            · cases h
          · by_cases h4 : P.kind = 4
            · rw [decP_4 h4] at h
              cases e : decV bs with
              | fault k => rw [e] at h; cases h
              | ok f rest =>
                rw [e] at h; cases h
                exact ⟨vecB f, (codeV.sound hb e).2⟩
            · rw [decP_e h0 h1 h2 h3 h4] at h
              cases h
              exact ⟨[], rfl⟩
  obtain ⟨pre, rfl⟩ := hsuf
  exact ⟨fun y hy => List.mem_append_right _ hy, by rw [List.length_append]; omega⟩

set_option maxRecDepth 100000 in
set_option maxHeartbeats 6400000 in
theorem got_any (p : Nat) (bs : List Nat) (P : Pt) (w : World) (hby : ∀ y ∈ bs, y < 256) (hlen : bs.length ≤ 1000000) (hP : PtFine P) (h : RdAt X w p bs) :
    Calls Try.prog 48 #[.pointer (some ⟨p, 0, none⟩), .agg (PTA P)] w fun e w' => rdPostV X (decP P bs) (fun _ _ _ => True) p w e w' := by
  have hb0 := belA (bel0 w) (.cells (PTA P) 67)
  have hlx : look (w.alloc (.cells (PTA P) 67)) w.heap.size = some (.cells (PTA P) 67 (0, 0)) := look_alloc_at _ _ _ rfl
  have c0 : World.cell? (w.alloc (.cells (PTA P) 67)) ⟨w.heap.size, 0, none⟩ = some (.int .i64 P.kind) := by rw [look_cell hlx]; exact PTA_get0 _
  have c2 : World.cell? (w.alloc (.cells (PTA P) 67)) ⟨w.heap.size, 2, none⟩ = some (.int .i64 P.most) := by rw [look_cell hlx]; exact PTA_get2 _
  have h1 := rdAt_below h hb0
  have hg0 := below_grown hb0 (some p)
  have n5 := hP.fair.n5
  have n6 := hP.fair.n6
  by_cases hk0 : P.kind = 0
  · have hdp := hidP (decP_0 hk0 bs)
    go_enter Try.func48, Try.ntmps48
    go_wp2_with fail
    refine (rnum_any p bs _ hby h1).mono ?_
    rintro e w1 ⟨hg1, hr⟩
    have hgr1 := grown_trans hg0 hg1
    rcases hd : decN true 0 bs with ⟨x, rr⟩ | ⟨kf⟩
    rotate_left
    · rw [hd] at hr
      have hdv := hidP (show decP P bs = .fault kf by rw [hdp.out, hd])
      cases hr
      go_wp2
      exact ⟨rfl, got_fault hdv.out hgr1⟩
    rw [hd] at hr
    have hdv := hidP (show decP P bs = .ok () rr by rw [hdp.out, hd])
    obtain ⟨rfl, hrd1⟩ := hr
    go_wp2_with fail
    refine (refnum_any x _ (decN_low _ _ _ hd).1).mono ?_
    rintro _ w2 ⟨u, rfl, hu, hb2⟩
    have hgr2 := grown_trans hgr1 (below_grown hb2 (some p))
    have hrd2 := rdAt_below hrd1 hb2
    go_wp2
    go_ret
    exact got_ok hdv.out hgr2 hrd2
  · by_cases hk1 : P.kind = 1
    · have hdp := hidP (decP_1 hk1 bs)
      go_enter Try.func48, Try.ntmps48
      go_wp2_with fail
      refine (rint_any p bs _ hby h1).mono ?_
      rintro e w1 ⟨hg1, hr⟩
      have hgr1 := grown_trans hg0 hg1
      rcases hd : decI bs with ⟨x, rr⟩ | ⟨kf⟩
      rotate_left
      · rw [hd] at hr
        have hdv := hidP (show decP P bs = .fault kf by rw [hdp.out, hd])
        cases hr
        go_wp2
        exact ⟨rfl, got_fault hdv.out hgr1⟩
      rw [hd] at hr
      have hdv := hidP (show decP P bs = .ok () rr by rw [hdp.out, hd])
      obtain ⟨rfl, hrd1⟩ := hr
      go_wp2_with fail
      refine (refint_any x _ (decI_in hd)).mono ?_
      rintro _ w2 ⟨u, rfl, hu, hb2⟩
      have hgr2 := grown_trans hgr1 (below_grown hb2 (some p))
      have hrd2 := rdAt_below hrd1 hb2
      go_wp2
      go_ret
      exact got_ok hdv.out hgr2 hrd2
    · by_cases hk2 : P.kind = 2
      · obtain ⟨mo, hmo1⟩ : ∃ m : Nat, P.most = m := ⟨P.most.toNat, by have := hP.fair.t hk2; omega⟩
        have hmo : mo ≤ 9223372036854775807 := by have := hP.m; omega
        have hmt : P.most.toNat = mo := by omega
        rw [hmo1] at c2
        have hdp := hidP (decP_2 hk2 bs)
        go_enter Try.func48, Try.ntmps48
        go_wp2_with fail
        refine (rtext_any p mo bs _ hmo hlen hby h1).mono ?_
        rintro e w1 ⟨hg1, hr⟩
        have hgr1 := grown_trans hg0 hg1
        rcases hd : decT mo bs with ⟨x, rr⟩ | ⟨kf⟩
        rotate_left
        · rw [hd] at hr
          have hdv := hidP (show decP P bs = .fault kf by rw [hdp.out, hmt, hd])
          cases hr
          go_wp2
          exact ⟨rfl, got_fault hdv.out hgr1⟩
        rw [hd] at hr
        have hdv := hidP (show decP P bs = .ok () rr by rw [hdp.out, hmt, hd])
        obtain ⟨⟨u, rfl, hu⟩, hrd1⟩ := hr
        go_wp2
        go_ret
        exact got_ok hdv.out hgr1 hrd1
      · by_cases hk3 : P.kind = 3
        · have hdp := hidP (decP_3 hk3 bs)
          go_enter Try.func48, Try.ntmps48
          go_wp2_with fail
          refine (rfloat_any p bs _ hby h1).mono ?_
          rintro e w1 ⟨hg1, hr⟩
          have hgr1 := grown_trans hg0 hg1
          rcases hd : decF bs with ⟨x, rr⟩ | ⟨kf⟩
          rotate_left
          · rw [hd] at hr
            have hdv := hidP (show decP P bs = .fault kf by rw [hdp.out, hd])
            cases hr
            go_wp2
            exact ⟨rfl, got_fault hdv.out hgr1⟩
          rw [hd] at hr
          have hdv := hidP (show decP P bs = .ok () rr by rw [hdp.out, hd])
          obtain ⟨rfl, hrd1⟩ := hr
          go_wp2_with fail
          refine (reffloat_any x _ (decF_in hby hd)).mono ?_
          rintro _ w2 ⟨u, rfl, hu, hb2⟩
          have hgr2 := grown_trans hgr1 (below_grown hb2 (some p))
          have hrd2 := rdAt_below hrd1 hb2
          go_wp2
          go_ret
          exact got_ok hdv.out hgr2 hrd2
        · by_cases hk4 : P.kind = 4
          · have hdp := hidP (decP_4 hk4 bs)
            go_enter Try.func48, Try.ntmps48
            go_wp2_with fail
            refine (rvec_any p bs _ hby h1).mono ?_
            rintro e w1 ⟨hg1, hr⟩
            have hgr1 := grown_trans hg0 hg1
            rcases hd : decV bs with ⟨x, rr⟩ | ⟨kf⟩
            rotate_left
            · rw [hd] at hr
              have hdv := hidP (show decP P bs = .fault kf by rw [hdp.out, hd])
              cases hr
              go_wp2
              exact ⟨rfl, got_fault hdv.out hgr1⟩
            rw [hd] at hr
            have hdv := hidP (show decP P bs = .ok () rr by rw [hdp.out, hd])
            obtain ⟨rfl, hrd1⟩ := hr
            go_wp2_with fail
            refine (refvec_any x _ (fun k => by have := (codeV.sound hby hd).1.1 k; omega)).mono ?_
            rintro _ w2 ⟨u, rfl, hu, hb2⟩
            have hgr2 := grown_trans hgr1 (below_grown hb2 (some p))
            have hrd2 := rdAt_below hrd1 hb2
            go_wp2
            go_ret
            exact got_ok hdv.out hgr2 hrd2
          · have hdv := hidP (decP_e hk0 hk1 hk2 hk3 hk4 bs)
            go_enter Try.func48, Try.ntmps48
            go_wp2
            go_ret
            exact got_ok hdv.out hg0 h1

/-- What a closure that only reads leaves. -/
def readP (X : Nat → Prop) (r : Rd Unit) (p : Nat) (e : Ending) (w' : World) : Prop := match r with
  | .ok _ rest => e = .returned (.tuple #[]) ∧ RdAt X w' p rest
  | .fault k => faultC k e

set_option maxRecDepth 100000 in
set_option maxHeartbeats 6400000 in
theorem back2_any (n cap : Nat) (ad : Option Addr) (L : Nat → Pt) (p BL b off : Nat) (bs : List Nat) (w : World) (had : 0 < n → ad = some ⟨b, off, none⟩) (hbw : 0 < n → b < w.heap.size ∧ b ≠ p) (hn63 : n ≤ 9223372036854775807) (hR : ∀ k, k < n → w.rangeAt b (off + k * 17) (PTA (L k)).toList) (hL : ∀ k, k < n → PtFine (L k))
    (hby : ∀ y ∈ bs, y < 256) (hlen : bs.length ≤ 1000000) (hrd0 : RdAt X w p bs) (lBL : look w BL = some (.cells #[.slice ad n cap] 61 (0, 0))) (hLp : BL ≠ p) :
    Calls Try.prog 47 #[.pointer (some ⟨p, 0, none⟩), .pointer (some ⟨BL, 0, none⟩)] w fun e w' => w.grownBy w' (some p) ∧ readP X (decPs L 0 n bs) p e w' := by
  have hpar : ∀ k, (Try.prog.info? 67).map (·.size) = some (PTA (L k)).toList.length := fun k => by rw [Array.length_toList, PTA_size]; exact prt_info
  go_enter Try.func47, Try.ntmps47
  go_wp2_with fail
  go_loopw [3] (fun x wr => ∃ (i : Nat) (rs : List Nat), i ≤ n ∧ x = .int .i64 (i : Int) ∧ decPs L 0 n bs = decPs L i (n - i) rs ∧ (∀ y ∈ rs, y < 256) ∧ rs.length ≤ 1000000 ∧ RdAt X wr p rs ∧ w.grownBy wr (some p)) (fun x _ => (n - intOf x).toNat)
  case atStart => exact ⟨0, bs, by omega, rfl, rfl, hby, hlen, hrd0, grown_refl _ _⟩
  case round =>
    obtain ⟨i, rs, hin, rfl, hdec, hbr, hlr, hrd, hgr⟩ := hrel
    have lBL1 : look wr BL = some (.cells #[.slice ad n cap] 61 (0, 0)) := by rw [grown_look hgr (look_lt lBL) (fun g e => by cases e; exact hLp)]; exact lBL
    have cBL1 : wr.cell? ⟨BL, 0, none⟩ = some (.slice ad n cap) := by rw [look_cell lBL1]; rfl
    by_cases hlt : i < n
    · obtain rfl := had (by omega)
      obtain ⟨hb1, hb2⟩ := hbw (by omega)
      have hfine := hL i hlt
      have hri : wr.rangeAt b (off + i * 17) (PTA (L i)).toList := fun j y hy => by
        rw [← hR i hlt j y hy]
        exact World.cell?_of_block (hgr.block b hb1 (fun e => by cases e; exact hb2 rfl))
      have hpi := hpar i
      have hlth := hidP hlt
      have e1 : n - i = (n - (i + 1)) + 1 := by omega
      rw [e1] at hdec
      have hdh := hidP hdec
      have dlt : decide ((i : Int) < (n : Int)) = true := decide_eq_true (by omega)
      clear hdec e1
      go_wp2_with (refine wpList_load_mid rfl 67 _ rfl b (off + i * 17) rfl (PTA (L i)).toList _ hri Try.underlying67 rfl hpi ?_; refine stop_here ?_)
      refine hidP ?_
      go_wp2_with fail
      refine (got_any p rs (L i) _ hbr hlr hfine hrd).mono ?_
      rintro e w2 ⟨hg2, hr⟩
      have hgr2 := grown_trans hgr hg2
      rcases hd : decP (L i) rs with ⟨x, rr⟩ | ⟨kf⟩
      rotate_left
      · rw [hd] at hr
        have hdv := hidP (show decPs L 0 n bs = .fault kf by rw [hdh.out, decPs_fault hd])
        cases hr
        go_wp2
        exact ⟨rfl, hgr2, by rw [hdv.out]; exact rfl⟩
      · rw [hd] at hr
        obtain ⟨⟨u, rfl, _⟩, hrd2⟩ := hr
        have hdv := hidP (show decPs L 0 n bs = decPs L (i + 1) (n - (i + 1)) rr by rw [hdh.out, decPs_ok hd])
        have hsub := decP_rest hfine hbr hd
        go_wp2_with fail
        go_roundw
        case rel => exact ⟨i + 1, rr, by have := hlth.out; omega, by go_num, hdv.out, fun y hy => hbr y (hsub.1 y hy), by omega, hrd2, hgr2⟩
        case measure => have := hlth.out; simp [intOf]; omega
    · obtain rfl : i = n := by omega
      have dlt : decide ((i : Int) < (i : Int)) = false := decide_eq_false (by omega)
      rw [Nat.sub_self] at hdec
      have hdh := hidP hdec
      clear hdec
      go_wp2_with fail
      go_end0
      exact ⟨hgr, by rw [hdh.out]; exact ⟨rfl, hrd⟩⟩
end Go.Proofs.Ytniphfkipjpikaa
