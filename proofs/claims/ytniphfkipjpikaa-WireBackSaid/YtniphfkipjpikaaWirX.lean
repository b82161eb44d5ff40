/- Parts: read back, and written again. -/
import Derived.Test.YtniphfkipjpikaaWirW
import Derived.Test.YtniphfkipjpikaaWirU
namespace Go.Proofs.Ytniphfkipjpikaa
open Go.RowKit

theorem RdAt.weaken {X Y : Nat → Prop} {w : World} {p : Nat} {bs : List Nat} (h : RdAt X w p bs) (hXY : ∀ b, X b → Y b) : RdAt Y w p bs := by
  obtain ⟨v, h1, h2, h3⟩ := h
  exact ⟨v, h1, h2, fun b hb => hXY b (h3 b hb)⟩
/-- A reader's own block. -/
theorem RdAt.own {X : Nat → Prop} {w : World} {p : Nat} {bs : List Nat} (h : RdAt X w p bs) : ∃ B : Option Nat, RdAt (fun b => X b ∧ some b = B) w p bs ∧ (0 < bs.length → ∀ b, B = some b → b < w.heap.size) := by
  obtain ⟨v, h1, h2, h3⟩ := h
  refine ⟨blkOf v, ⟨v, h1, h2, fun b hb => ⟨h3 b hb, hb.symm⟩⟩, fun hl b hb => ?_⟩
  obtain ⟨ad, cap, rfl, _, _, h4⟩ := h2
  rcases h4 with h4 | ⟨b', off, rfl, hb', _⟩
  · omega
  · cases hb
    exact hb'
/-- Writing elsewhere, a reader has what it had. -/
theorem rd_keeps {X : Nat → Prop} {w w' : World} {p q : Nat} {g : Option Nat} {bs ws : List Nat} (h : RdAt X w p bs) (hk : KeepsG q g w w') (hW : WrV w q g ws) (hp : p ≠ q) (hX : 0 < bs.length → ∀ b, X b → some b ≠ g) : RdAt X w' p bs := by
  obtain ⟨v, h1, h2, h3⟩ := h
  have hpg : some p ≠ g := by
    rintro rfl
    obtain ⟨v2, _, ho, e⟩ := hW
    rcases ho.2 with ⟨rfl, _⟩ | ⟨k, cp, cur, rfl, _, hl, _⟩
    · cases e
    · cases e
      have h9 := h1.symm.trans hl
      cases h9
  refine ⟨v, keeps_look hk h1 hp hpg, ?_, h3⟩
  obtain ⟨ad, cap, rfl, h4, h5, h6⟩ := h2
  refine ⟨ad, cap, rfl, h4, h5, ?_⟩
  rcases h6 with h6 | ⟨b, off, rfl, hb, hR⟩
  · exact .inl h6
  · by_cases h0 : bs.length = 0
    · exact .inl h0
    · have hbq : b ≠ q := by
        rintro rfl
        obtain ⟨v2, hl, ho3, _⟩ := hW
        have h0' := hR 0 (by omega) 0 _ rfl
        rw [look_cell hl] at h0'
        generalize off + 0 * 1 + 0 = j at h0'
        match j, h0' with
        | 0, h0' =>
          rcases ho3.2 with ⟨rfl, _⟩ | ⟨k, cp, cur, rfl, _⟩
          · cases h0'
          · cases h0'
        | j + 1, h0' => simp at h0'
      refine .inr ⟨b, off, rfl, Nat.lt_of_lt_of_le hb hk.size, fun k hk2 j y hy => ?_⟩
      rw [← hR k hk2 j y hy]
      exact World.cell?_of_block (hk.block b hb hbq (hX (by omega) b (h3 b rfl)))
/-- All but the blocks p and q stays. -/
structure Kept2 (p q : Nat) (w w' : World) : Prop where
  os : w'.os = w.os
  tape : w'.tape = w.tape
  output : w'.output = w.output
  size : w.heap.size ≤ w'.heap.size
  block : ∀ k, k < w.heap.size → k ≠ p → k ≠ q → w'.heap[k]? = w.heap[k]?
theorem Kept2.refl (p q : Nat) (w : World) : Kept2 p q w w := ⟨rfl, rfl, rfl, Nat.le_refl _, fun _ _ _ _ => rfl⟩
theorem Kept2.read {p q : Nat} {w w1 w2 : World} (h : Kept2 p q w w1) (hg : w1.grownBy w2 (some p)) : Kept2 p q w w2 :=
  ⟨hg.os.trans h.os, hg.tape.trans h.tape, hg.output.trans h.output, Nat.le_trans h.size hg.size, fun k hk hp hq => (hg.block k (Nat.lt_of_lt_of_le hk h.size) (fun e => by cases e; exact hp rfl)).trans (h.block k hk hp hq)⟩
theorem Kept2.write {p q : Nat} {g : Option Nat} {w w1 w2 : World} (h : Kept2 p q w w1) (hk : KeepsG q g w1 w2) (hg : ∀ k, g = some k → w.heap.size ≤ k) : Kept2 p q w w2 :=
  ⟨hk.os.trans h.os, hk.tape.trans h.tape, hk.output.trans h.output, Nat.le_trans h.size hk.size, fun k hk1 hp hq => (hk.block k (Nat.lt_of_lt_of_le hk1 h.size) hq (fun e => by have := hg k e.symm; omega)).trans (h.block k hk1 hp hq)⟩
theorem Kept2.look {p q : Nat} {w w' : World} (h : Kept2 p q w w') {k : Nat} {o : Obj} (hl : look w k = some o) (hp : k ≠ p) (hq : k ≠ q) : look w' k = some o := (h.block k (look_lt hl) hp hq).trans hl
theorem wr_read {w w1 : World} {p q : Nat} {g : Option Nat} {bs : List Nat} {X : Nat → Prop} {rs : List Nat} (h : WrV w q g bs) (hrd : RdAt X w p rs) (hg : w.grownBy w1 (some p)) (hpq : p ≠ q) : WrV w1 q g bs := by
  refine wr_grown h hg (fun k e => ?_)
  cases e
  refine ⟨hpq, ?_⟩
  rintro rfl
  obtain ⟨v, h1, _⟩ := hrd
  obtain ⟨v2, _, ho, e⟩ := h
  rcases ho.2 with ⟨rfl, _⟩ | ⟨k, cp, cur, rfl, _, hl, _⟩
  · cases e
  · cases e
    have h9 := h1.symm.trans hl
    cases h9
theorem wvec_cut (p : Nat) (g : Option Nat) (bs : List Nat) (f : Nat → Nat) (w : World) (hf : ∀ k, f k < 4294967296) (hlen : bs.length ≤ 900000) (h : WrV w p g bs) :
    Calls Try.prog 45 #[.pointer (some ⟨p, 0, none⟩), .agg (VA (cutV f))] w fun e w' => e = .returned (.pointer (some ⟨p, 0, none⟩)) ∧ Wrote w w' p g (bs ++ vecB f) := by
  have := wvec_any p g bs (cutV f) w (fun k => by unfold cutV; split; exact hf k; omega) hlen h
  rw [vecB_cut] at this
  exact this
/-- What the law's parts are. -/
structure PtFine (p : Pt) : Prop where
  i : -9223372036854775808 ≤ p.i ∧ p.i ≤ 9223372036854775807
  n : p.n < 18446744073709551616
  v : ∀ k, p.v k < 4294967296
  by' : ∀ y ∈ p.bs, y < 256
  l : p.bs.length ≤ 500
  m : p.most ≤ 9223372036854775807
  fair : Fair p

set_option maxRecDepth 100000 in
set_option maxHeartbeats 12800000 in
theorem back1_any {X : Nat → Prop} (n cap : Nat) (ad : Option Addr) (L : Nat → Pt) (p q BL BA b off : Nat) (w : World) (hn40 : n ≤ 40) (had : 0 < n → ad = some ⟨b, off, none⟩) (hbw : 0 < n → b < w.heap.size ∧ b ≠ p ∧ b ≠ q) (hR : ∀ k, k < n → w.rangeAt b (off + k * 17) (PTA (L k)).toList) (hL : ∀ k, k < n → PtFine (L k))
    (hrd0 : RdAt X w p (ptsF L 0 n)) (hW0 : WrV w q none []) (lBL : look w BL = some (.cells #[.slice ad n cap] 61 (0, 0))) (lBA : look w BA = some (.cells #[.pointer (some ⟨q, 0, none⟩)] 56 (0, 0))) (hpq : p ≠ q) (hLp : BL ≠ p) (hLq : BL ≠ q) (hAp : BA ≠ p) (hAq : BA ≠ q) :
    Calls Try.prog 37 #[.pointer (some ⟨p, 0, none⟩), .pointer (some ⟨BL, 0, none⟩), .pointer (some ⟨BA, 0, none⟩)] w fun e w' => e = .returned (.tuple #[]) ∧ RdAt X w' p [] ∧ (∃ g, WrV w' q g (ptsF L 0 n) ∧ ∀ k, g = some k → w.heap.size ≤ k) ∧ Kept2 p q w w' := by
  have hbyL : ∀ k m, k + m ≤ n → ∀ y ∈ ptsF L k m, y < 256 := by
    intro k m
    induction m generalizing k with
    | zero => intro _ y hy; cases hy
    | succ m ih =>
      intro h y hy
      rcases List.mem_append.1 hy with h1 | h1
      · exact ptB_byte _ (hL k (by omega)).by' y h1
      · exact ih (k + 1) (by omega) y h1
  have hlenL : ∀ k m, k + m ≤ n → (ptsF L k m).length ≤ 510 * m := by
    intro k m
    induction m generalizing k with
    | zero => intro _; simp [ptsF]
    | succ m ih =>
      intro h
      have h1 := ptB_len _ (hL k (by omega)).l
      have h2 := ih (k + 1) (by omega)
      rw [ptsF, List.length_append]
      omega
  obtain ⟨B0, hrdB, hB0⟩ := hrd0.own
  have hbyh := hidP hbyL
  have hlenh := hidP hlenL
  have hB0h := hidP hB0
  have hRh := hidP hR
  have hLh := hidP hL
  clear hbyL hB0 hR hL hrd0
  go_enter Try.func37, Try.ntmps37
  go_wp2_with fail
  go_loopw [4] (fun x wr => ∃ (i : Nat) (g : Option Nat), i ≤ n ∧ x = .int .i64 (i : Int) ∧ RdAt (fun b => X b ∧ some b = B0) wr p (ptsF L i (n - i)) ∧ WrV wr q g (ptsF L 0 i) ∧ (∀ k, g = some k → w.heap.size ≤ k) ∧ Kept2 p q w wr) (fun x _ => (n - intOf x).toNat)
  case atStart => exact ⟨0, none, by omega, rfl, hrdB, hW0, (fun k e => by cases e), Kept2.refl _ _ _⟩
  case round =>
    obtain ⟨i, g, hin, rfl, hrd, hW, hgB, hK⟩ := hrel
    have lBL1 := hK.look lBL hLp hLq
    have lBA1 := hK.look lBA hAp hAq
    have cBL1 : wr.cell? ⟨BL, 0, none⟩ = some (.slice ad n cap) := by rw [look_cell lBL1]; rfl
    by_cases hlt : i < n
    · obtain rfl := had (by omega)
      obtain ⟨hb1, hb2, hb3⟩ := hbw (by omega)
      have hfine := hLh.out i hlt
      have hcell : Hid (∀ j y, (PTA (L i)).toList[j]? = some y → wr.cell? ⟨b, off + i * 17 + j, none⟩ = some y) := hidP (fun j y hy => by
        rw [← hRh.out i hlt j y hy]
        exact World.cell?_of_block (hK.block b hb1 hb2 hb3))
      have hsp := ptsF_split L n i hlt
      have hla := ptsF_last L i 0
      rw [Nat.zero_add] at hla
      have hby1 := hbyh.out i (n - i) (by omega)
      have hl0 := hlenh.out 0 i (by omega)
      have hl1 := hlenh.out i (n - i) (by omega)
      have hB01 : Hid (0 < (ptsF L i (n - i)).length → ∀ k, g = some k → some k ≠ B0) := hidP (fun hp k hk e => by
        have h1 := hgB k hk
        have h2 := hB0h.out (by
          have e3 : ptsF L 0 n = ptsF L 0 i ++ ptsF L i (n - i) := by
            have : ∀ m, m ≤ n → ptsF L 0 n = ptsF L 0 m ++ ptsF L m (n - m) := by
              intro m
              induction m with
              | zero => intro _; rfl
              | succ m ih =>
                intro hm
                rw [ih (by omega), ptsF_last, Nat.zero_add, ptsF_split L n m (by omega), List.append_assoc]
            exact this i (by omega)
          rw [e3, List.length_append]
          omega) k e.symm
        omega)
      have hBn : ptsF L i (n - i) = ptB (L i) ++ ptsF L (i + 1) (n - (i + 1)) := hsp
      rw [hsp] at hrd hby1 hl1 hB01
      have hlth := hidP hlt
      have hlah := hidP hla
      obtain ⟨P, hP⟩ : ∃ P, P = L i := ⟨_, rfl⟩
      rw [← hP] at hfine hcell hrd hby1 hl1 hB01 hlah
      generalize hRS : ptsF L (i + 1) (n - (i + 1)) = RS at hrd hby1 hl1 hB01
      generalize hDS : ptsF L 0 i = DS at hW hl0 hlah
      have hRSh := hidP hRS
      clear hsp hla hP hBn hRS hDS
      have c0 : wr.cell? ⟨b, off + i * 17, none⟩ = some (.int .i64 P.kind) := hcell.out 0 _ (by rw [show (PTA P).toList[0]? = (PTA P)[0]? from Array.getElem?_toList, PTA_get0])
      have c2 : wr.cell? ⟨b, off + i * 17 + 2, none⟩ = some (.int .i64 P.most) := hcell.out 2 _ (by rw [show (PTA P).toList[2]? = (PTA P)[2]? from Array.getElem?_toList, PTA_get2])
      have dlt : decide ((i : Int) < (n : Int)) = true := decide_eq_true (by omega)
      have hfn := hfine.n
      have hfi := hfine.i
      have hfv := hfine.v
      have hfb := hfine.l
      have hpl := ptB_len P hfb
      have hf5 := hfine.fair.n5
      by_cases hk0 : P.kind = 0
      · have hpt : Hid (ptB P = numB P.n) := hidP (by unfold ptB; rw [if_pos (.inl hk0)])
        rw [hpt.out] at hrd hby1 hl1 hpl
        have hB01w : 0 < RS.length → ∀ k, g = some k → some k ≠ B0 := fun h0 => hB01.out (by rw [List.length_append]; omega)
        go_wp2_with fail
        obtain ⟨stg, hstg⟩ : ∃ s : (Nat → Bool) → List Nat, Hid (s = fun L => if L 2 = true then RS else (numB P.n ++ RS)) := ⟨_, hidP rfl⟩
        have hset : Hid (∀ (L : Nat → Bool) (i : Nat), 2 ≠ i → stg (setL L i) = stg L) := by
          refine hidP ?_
          intro L i h
          have k2 : (2 = i) = False := eq_false h
          simp only [hstg.out, setL, k2, if_false]
        have hst0 : Hid (stg (fun _ => false) = (numB P.n ++ RS)) := hidP (by simp only [hstg.out, Bool.false_eq_true, if_false])
        refine wp_region_lst wmixed (fun L u => Hid ((wr).grownBy u (some p) ∧ RdAt _ u p (stg L))) (fun _ _ => False) (fun _ _ _ h => h.elim) (fun _ u u' => u.grownBy u' (some p)) (hidP ⟨grown_drew (grown_refl _ _), by rw [hst0.out]; exact rdAt_below hrd (Below.refl _ _).drew⟩) 3
          ([] :: [] :: [19] :: [])
          (isV (.pointer (some ⟨q, 0, none⟩)) :: isV (.pointer (some ⟨p, 0, none⟩)) :: isV (.int .u64 (P.n : Int)) :: [])
          (by decide) (by kernel_rfl) ?_ ⟨?_, ?_, ?_, trivial⟩ ?_
        · intro i j S hij hS v u u' hv hR
          match j, hS with
          | 0, e => cases e; exact hv
          | 1, e => cases e; exact hv
          | 2, e => cases e; exact hv
          | n + 3, e => simp at e
        · intro L vs u hL hw hcl hJ hm
          have hl : look u (BA) = some (.cells (#[.pointer (some ⟨q, 0, none⟩)]) 56 (0, 0)) := by rw [grown_look hJ.out.1 (look_lt (lBA1)) (fun g e => by cases e; exact hAp)]; exact lBA1
          have hc : World.cell? u ⟨BA, 0, none⟩ = some (.pointer (some ⟨q, 0, none⟩)) := by rw [look_cell hl]; rfl
          simp only [fill]
          go_wp2
          exact ⟨_, rfl, rfl, ⟨grown_refl _ _, hidP ⟨hJ.out.1, by rw [hset.out L 0 (by decide)]; exact hJ.out.2⟩, Nat.le_refl _⟩, trivial⟩
        · intro L vs u hL hw hcl hJ hm
          simp only [fill]
          go_wp2
          exact ⟨_, rfl, rfl, ⟨grown_refl _ _, hidP ⟨hJ.out.1, by rw [hset.out L 1 (by decide)]; exact hJ.out.2⟩, Nat.le_refl _⟩, trivial⟩
        · intro L vs u hL hw hcl hJ hm
          have h19 : vs 19 = .pointer (some ⟨p, 0, none⟩) := meets_get hm 1 rfl rfl rfl rfl
          have hst : stg L = (numB P.n ++ RS) := by simp only [hstg.out, hL, Bool.false_eq_true, if_false]
          have hst2 : stg (setL L 2) = RS := by simp [hstg.out, setL]
          obtain ⟨hgq, hrdq⟩ := hJ.out
          rw [hst] at hrdq
          clear hm hw hcl hst hJ
          simp only [fill, h19]
          go_wp2_with fail
          refine ((rnum_any p _ _ hby1) hrdq).mono ?_
          rintro e u' ⟨hgu, hr⟩
          rw [num_whole RS hfn] at hr
          obtain ⟨rfl, hrd2⟩ := hr
          go_wp2
          exact ⟨_, rfl, rfl, ⟨hgu, hidP ⟨grown_trans hgq hgu, by rw [hst2]; exact hrd2⟩, hgu.size⟩, trivial⟩
        intro L hall vs ws hJ hsz hm hne hlo
        have h18 : vs 18 = .pointer (some ⟨q, 0, none⟩) := hm 0 _ _ _ rfl rfl rfl
        have h19 : vs 19 = .pointer (some ⟨p, 0, none⟩) := hm 1 _ _ _ rfl rfl rfl
        have h20 : vs 20 = .int .u64 (P.n : Int) := hm 2 _ _ _ rfl rfl rfl
        obtain ⟨hgw, hrdw⟩ := hJ.out
        have hst : stg L = RS := by simp only [hstg.out]; rw [if_pos (hall 2 (by decide))]
        rw [hst] at hrdw
        clear hne hlo hm hall hst hsz hset hst0 hstg hJ
        simp only [fill, List.filterMap, List.take, List.drop, List.setIfInBounds_toArray, List.set_cons_zero, List.set_cons_succ, h18, h19, h20]
        clear h18 h19 h20
        have hK1 := hK.read hgw
        have hW1 := wr_read hW hrd hgw hpq
        go_wp2_with fail
        refine (num_any q g DS P.n _ hfn (by omega) hW1).mono ?_
        rintro _ w3 ⟨rfl, g2, hvf, hnf, hkf⟩
        have hrd2 := rd_keeps hrdw hkf hW1 hpq (fun h0 k hX e => hB01w h0 k e.symm hX.2)
        have hgB2 : ∀ k, g2 = some k → w.heap.size ≤ k := fun k e => by
          rcases hnf with rfl | ⟨z, e2, hz⟩
          · exact hgB k e
          · rw [e2] at e
            cases e
            exact Nat.le_trans hK1.size hz
        have hK2 := hK1.write hkf hgB
        rw [← hpt.out, ← hlah.out] at hvf
        go_wp2_with fail
        go_roundw
        case rel => exact ⟨i + 1, g2, by have := hlth.out; omega, by go_num, by rw [hRSh.out]; exact hrd2, hvf, hgB2, hK2⟩
        case measure => have := hlth.out; simp [intOf]; omega
      · by_cases hk1 : P.kind = 1
        · have hpt : Hid (ptB P = intB P.i) := hidP (by unfold ptB; rw [if_neg (by omega), if_pos hk1])
          rw [hpt.out] at hrd hby1 hl1 hpl
          have hB01w : 0 < RS.length → ∀ k, g = some k → some k ≠ B0 := fun h0 => hB01.out (by rw [List.length_append]; omega)
          go_wp2_with fail
          obtain ⟨stg, hstg⟩ : ∃ s : (Nat → Bool) → List Nat, Hid (s = fun L => if L 2 = true then RS else (intB P.i ++ RS)) := ⟨_, hidP rfl⟩
          have hset : Hid (∀ (L : Nat → Bool) (i : Nat), 2 ≠ i → stg (setL L i) = stg L) := by
            refine hidP ?_
            intro L i h
            have k2 : (2 = i) = False := eq_false h
            simp only [hstg.out, setL, k2, if_false]
          have hst0 : Hid (stg (fun _ => false) = (intB P.i ++ RS)) := hidP (by simp only [hstg.out, Bool.false_eq_true, if_false])
          refine wp_region_lst wmixed (fun L u => Hid ((wr).grownBy u (some p) ∧ RdAt _ u p (stg L))) (fun _ _ => False) (fun _ _ _ h => h.elim) (fun _ u u' => u.grownBy u' (some p)) (hidP ⟨grown_drew (grown_refl _ _), by rw [hst0.out]; exact rdAt_below hrd (Below.refl _ _).drew⟩) 3
            ([] :: [] :: [25] :: [])
            (isV (.pointer (some ⟨q, 0, none⟩)) :: isV (.pointer (some ⟨p, 0, none⟩)) :: isV (.int .i64 P.i) :: [])
            (by decide) (by kernel_rfl) ?_ ⟨?_, ?_, ?_, trivial⟩ ?_
          · intro i j S hij hS v u u' hv hR
            match j, hS with
            | 0, e => cases e; exact hv
            | 1, e => cases e; exact hv
            | 2, e => cases e; exact hv
            | n + 3, e => simp at e
          · intro L vs u hL hw hcl hJ hm
            have hl : look u (BA) = some (.cells (#[.pointer (some ⟨q, 0, none⟩)]) 56 (0, 0)) := by rw [grown_look hJ.out.1 (look_lt (lBA1)) (fun g e => by cases e; exact hAp)]; exact lBA1
            have hc : World.cell? u ⟨BA, 0, none⟩ = some (.pointer (some ⟨q, 0, none⟩)) := by rw [look_cell hl]; rfl
            simp only [fill]
            go_wp2
            exact ⟨_, rfl, rfl, ⟨grown_refl _ _, hidP ⟨hJ.out.1, by rw [hset.out L 0 (by decide)]; exact hJ.out.2⟩, Nat.le_refl _⟩, trivial⟩
          · intro L vs u hL hw hcl hJ hm
            simp only [fill]
            go_wp2
            exact ⟨_, rfl, rfl, ⟨grown_refl _ _, hidP ⟨hJ.out.1, by rw [hset.out L 1 (by decide)]; exact hJ.out.2⟩, Nat.le_refl _⟩, trivial⟩
          · intro L vs u hL hw hcl hJ hm
            have h25 : vs 25 = .pointer (some ⟨p, 0, none⟩) := meets_get hm 1 rfl rfl rfl rfl
            have hst : stg L = (intB P.i ++ RS) := by simp only [hstg.out, hL, Bool.false_eq_true, if_false]
            have hst2 : stg (setL L 2) = RS := by simp [hstg.out, setL]
            obtain ⟨hgq, hrdq⟩ := hJ.out
            rw [hst] at hrdq
            clear hm hw hcl hst hJ
            simp only [fill, h25]
            go_wp2_with fail
            refine ((rint_any p _ _ hby1) hrdq).mono ?_
            rintro e u' ⟨hgu, hr⟩
            rw [int_whole RS (hfine.fair.i hk1)] at hr
            obtain ⟨rfl, hrd2⟩ := hr
            go_wp2
            exact ⟨_, rfl, rfl, ⟨hgu, hidP ⟨grown_trans hgq hgu, by rw [hst2]; exact hrd2⟩, hgu.size⟩, trivial⟩
          intro L hall vs ws hJ hsz hm hne hlo
          have h24 : vs 24 = .pointer (some ⟨q, 0, none⟩) := hm 0 _ _ _ rfl rfl rfl
          have h25 : vs 25 = .pointer (some ⟨p, 0, none⟩) := hm 1 _ _ _ rfl rfl rfl
          have h26 : vs 26 = .int .i64 P.i := hm 2 _ _ _ rfl rfl rfl
          obtain ⟨hgw, hrdw⟩ := hJ.out
          have hst : stg L = RS := by simp only [hstg.out]; rw [if_pos (hall 2 (by decide))]
          rw [hst] at hrdw
          clear hne hlo hm hall hst hsz hset hst0 hstg hJ
          simp only [fill, List.filterMap, List.take, List.drop, List.setIfInBounds_toArray, List.set_cons_zero, List.set_cons_succ, h24, h25, h26]
          clear h24 h25 h26
          have hK1 := hK.read hgw
          have hW1 := wr_read hW hrd hgw hpq
          go_wp2_with fail
          refine (int_any q g DS P.i _ hfi (by omega) hW1).mono ?_
          rintro _ w3 ⟨rfl, g2, hvf, hnf, hkf⟩
          have hrd2 := rd_keeps hrdw hkf hW1 hpq (fun h0 k hX e => hB01w h0 k e.symm hX.2)
          have hgB2 : ∀ k, g2 = some k → w.heap.size ≤ k := fun k e => by
            rcases hnf with rfl | ⟨z, e2, hz⟩
            · exact hgB k e
            · rw [e2] at e
              cases e
              exact Nat.le_trans hK1.size hz
          have hK2 := hK1.write hkf hgB
          rw [← hpt.out, ← hlah.out] at hvf
          go_wp2_with fail
          go_roundw
          case rel => exact ⟨i + 1, g2, by have := hlth.out; omega, by go_num, by rw [hRSh.out]; exact hrd2, hvf, hgB2, hK2⟩
          case measure => have := hlth.out; simp [intOf]; omega
        · by_cases hk2 : P.kind = 2
          · obtain ⟨mo, hmo1⟩ : ∃ m : Nat, P.most = m := ⟨P.most.toNat, by have := hfine.fair.t hk2; omega⟩
            have hmo : mo ≤ 9223372036854775807 := by have := hfine.m; omega
            have hbm : P.bs.length ≤ mo := by have := hfine.fair.t hk2; omega
            rw [hmo1] at c2
            have hpwr : p < wr.heap.size := by obtain ⟨_, hl, _⟩ := hrd; exact look_lt hl
            have hpt : Hid (ptB P = numB P.bs.length ++ P.bs) := hidP (by unfold ptB; rw [if_neg (by omega), if_neg (by omega), if_pos hk2])
            rw [hpt.out] at hrd hby1 hl1 hpl
            have hB01w : 0 < RS.length → ∀ k, g = some k → some k ≠ B0 := fun h0 => hB01.out (by rw [List.length_append]; omega)
            go_wp2_with fail
            obtain ⟨stg, hstg⟩ : ∃ s : (Nat → Bool) → List Nat, Hid (s = fun L => if L 7 = true then RS else (numB P.bs.length ++ P.bs ++ RS)) := ⟨_, hidP rfl⟩
            have hset : Hid (∀ (L : Nat → Bool) (i : Nat), 7 ≠ i → stg (setL L i) = stg L) := by
              refine hidP ?_
              intro L i h
              have k7 : (7 = i) = False := eq_false h
              simp only [hstg.out, setL, k7, if_false]
            have hst0 : Hid (stg (fun _ => false) = (numB P.bs.length ++ P.bs ++ RS)) := hidP (by simp only [hstg.out, Bool.false_eq_true, if_false])
            refine wp_region_lst wmixed (fun L u => Hid ((wr).grownBy u (some p) ∧ RdAt _ u p (stg L))) (fun _ _ => False) (fun _ _ _ h => h.elim) (fun _ u u' => u.grownBy u' (some p)) (hidP ⟨grown_drew (grown_refl _ _), by rw [hst0.out]; exact rdAt_below hrd (Below.refl _ _).drew⟩) 8
              ([] :: [] :: [] :: [] :: [32, 33] :: [34] :: [35] :: [31, 36] :: [])
              (isV (.pointer (some ⟨q, 0, none⟩)) :: isV (.pointer (some ⟨p, 0, none⟩)) :: isV (.slice (some ⟨b, off, none⟩) n cap) :: isV (.int .i64 (i : Int)) :: isV (.pointer (some ⟨b, off + i * 17, none⟩)) :: isV (.pointer (some ⟨b, off + i * 17 + 2, none⟩)) :: isV (.int .i64 (mo : Int)) :: ownB (wr).heap.size (P.bs) :: [])
              (by decide) (by kernel_rfl) ?_ ⟨?_, ?_, ?_, ?_, ?_, ?_, ?_, ?_, trivial⟩ ?_
            · intro i j S hij hS v u u' hv hR
              match j, hS with
              | 0, e => cases e; exact hv
              | 1, e => cases e; exact hv
              | 2, e => cases e; exact hv
              | 3, e => cases e; exact hv
              | 4, e => cases e; exact hv
              | 5, e => cases e; exact hv
              | 6, e => cases e; exact hv
              | 7, e => cases e; exact own_grown hv hR (hpwr)
              | n + 8, e => simp at e
            · intro L vs u hL hw hcl hJ hm
              have hl : look u (BA) = some (.cells (#[.pointer (some ⟨q, 0, none⟩)]) 56 (0, 0)) := by rw [grown_look hJ.out.1 (look_lt (lBA1)) (fun g e => by cases e; exact hAp)]; exact lBA1
              have hc : World.cell? u ⟨BA, 0, none⟩ = some (.pointer (some ⟨q, 0, none⟩)) := by rw [look_cell hl]; rfl
              simp only [fill]
              go_wp2
              exact ⟨_, rfl, rfl, ⟨grown_refl _ _, hidP ⟨hJ.out.1, by rw [hset.out L 0 (by decide)]; exact hJ.out.2⟩, Nat.le_refl _⟩, trivial⟩
            · intro L vs u hL hw hcl hJ hm
              simp only [fill]
              go_wp2
              exact ⟨_, rfl, rfl, ⟨grown_refl _ _, hidP ⟨hJ.out.1, by rw [hset.out L 1 (by decide)]; exact hJ.out.2⟩, Nat.le_refl _⟩, trivial⟩
            · intro L vs u hL hw hcl hJ hm
              have hl : look u (BL) = some (.cells (#[.slice (some ⟨b, off, none⟩) n cap]) 61 (0, 0)) := by rw [grown_look hJ.out.1 (look_lt (lBL1)) (fun g e => by cases e; exact hLp)]; exact lBL1
              have hc : World.cell? u ⟨BL, 0, none⟩ = some (.slice (some ⟨b, off, none⟩) n cap) := by rw [look_cell hl]; rfl
              simp only [fill]
              go_wp2
              exact ⟨_, rfl, rfl, ⟨grown_refl _ _, hidP ⟨hJ.out.1, by rw [hset.out L 2 (by decide)]; exact hJ.out.2⟩, Nat.le_refl _⟩, trivial⟩
            · intro L vs u hL hw hcl hJ hm
              simp only [fill]
              go_wp2
              exact ⟨_, rfl, rfl, ⟨grown_refl _ _, hidP ⟨hJ.out.1, by rw [hset.out L 3 (by decide)]; exact hJ.out.2⟩, Nat.le_refl _⟩, trivial⟩
            · intro L vs u hL hw hcl hJ hm
              have h32 : vs 32 = .slice (some ⟨b, off, none⟩) n cap := meets_get hm 2 rfl rfl rfl rfl
              have h33 : vs 33 = .int .i64 (i : Int) := meets_get hm 3 rfl rfl rfl rfl
              simp only [fill, h32, h33]
              go_wp2
              exact ⟨_, rfl, rfl, ⟨grown_refl _ _, hidP ⟨hJ.out.1, by rw [hset.out L 4 (by decide)]; exact hJ.out.2⟩, Nat.le_refl _⟩, trivial⟩
            · intro L vs u hL hw hcl hJ hm
              have h34 : vs 34 = .pointer (some ⟨b, off + i * 17, none⟩) := meets_get hm 4 rfl rfl rfl rfl
              simp only [fill, h34]
              go_wp2
              exact ⟨_, rfl, rfl, ⟨grown_refl _ _, hidP ⟨hJ.out.1, by rw [hset.out L 5 (by decide)]; exact hJ.out.2⟩, Nat.le_refl _⟩, trivial⟩
            · intro L vs u hL hw hcl hJ hm
              have h35 : vs 35 = .pointer (some ⟨b, off + i * 17 + 2, none⟩) := meets_get hm 5 rfl rfl rfl rfl
              have hc1 := (World.cell?_of_block (hJ.out.1.block b (Nat.lt_of_lt_of_le hb1 hK.size) (fun e => by cases e; exact hb2 rfl))).trans c2
              simp only [fill, h35]
              go_wp2
              exact ⟨_, rfl, rfl, ⟨grown_refl _ _, hidP ⟨hJ.out.1, by rw [hset.out L 6 (by decide)]; exact hJ.out.2⟩, Nat.le_refl _⟩, trivial⟩
            · intro L vs u hL hw hcl hJ hm
              have h31 : vs 31 = .pointer (some ⟨p, 0, none⟩) := meets_get hm 1 rfl rfl rfl rfl
              have h36 : vs 36 = .int .i64 (mo : Int) := meets_get hm 6 rfl rfl rfl rfl
              have hst : stg L = (numB P.bs.length ++ P.bs ++ RS) := by simp only [hstg.out, hL, Bool.false_eq_true, if_false]
              have hst2 : stg (setL L 7) = RS := by simp [hstg.out, setL]
              obtain ⟨hgq, hrdq⟩ := hJ.out
              rw [hst] at hrdq
              clear hm hw hcl hst hJ
              simp only [fill, h31, h36]
              go_wp2_with fail
              refine ((rtext_any p mo _ _ hmo (by rw [List.length_append, List.length_append]; rw [List.length_append, List.length_append] at hl1; omega) hby1) hrdq).mono ?_
              rintro e u' ⟨hgu, hr⟩
              rw [text_whole RS hbm (by omega)] at hr
              obtain ⟨⟨v, rfl, hv⟩, hrd2⟩ := hr
              go_wp2
              exact ⟨_, rfl, own_base hv hgq.size, ⟨hgu, hidP ⟨grown_trans hgq hgu, by rw [hst2]; exact hrd2⟩, hgu.size⟩, trivial⟩
            intro L hall vs ws hJ hsz hm hne hlo
            have h30 : vs 30 = .pointer (some ⟨q, 0, none⟩) := hm 0 _ _ _ rfl rfl rfl
            have h31 : vs 31 = .pointer (some ⟨p, 0, none⟩) := hm 1 _ _ _ rfl rfl rfl
            have h32 : vs 32 = .slice (some ⟨b, off, none⟩) n cap := hm 2 _ _ _ rfl rfl rfl
            have h33 : vs 33 = .int .i64 (i : Int) := hm 3 _ _ _ rfl rfl rfl
            have h34 : vs 34 = .pointer (some ⟨b, off + i * 17, none⟩) := hm 4 _ _ _ rfl rfl rfl
            have h35 : vs 35 = .pointer (some ⟨b, off + i * 17 + 2, none⟩) := hm 5 _ _ _ rfl rfl rfl
            have h36 : vs 36 = .int .i64 (mo : Int) := hm 6 _ _ _ rfl rfl rfl
            have o37 := hm 7 _ _ _ rfl rfl rfl
            obtain ⟨v37, h37⟩ : ∃ v, vs 37 = v := ⟨_, rfl⟩
            rw [h37] at o37
            obtain ⟨hgw, hrdw⟩ := hJ.out
            have hst : stg L = RS := by simp only [hstg.out]; rw [if_pos (hall 7 (by decide))]
            rw [hst] at hrdw
            clear hne hlo hm hall hst hsz hset hst0 hstg hJ
            simp only [fill, List.filterMap, List.take, List.drop, List.setIfInBounds_toArray, List.set_cons_zero, List.set_cons_succ, h30, h31, h32, h33, h34, h35, h36, h37]
            clear h30 h31 h32 h33 h34 h35 h36 h37
            have hK1 := hK.read hgw
            have hW1 := wr_read hW hrd hgw hpq
            go_wp2_with fail
            have hsl := own_slice o37
            refine (text_any q g DS P.bs v37 _ (by omega) (by omega) hW1 (src_at hsl (KeepsG.refl q g _) (.inl rfl) (fun b' off' n' c' e h0 => ?_))).mono ?_
            · rcases o37.2 with ⟨e2, _⟩ | ⟨z, cp, cur, e2, hz, _⟩
              · rw [e] at e2; cases e2
              · rw [e] at e2
                cases e2
                obtain ⟨_, hlq, hoq, eq⟩ := hW
                refine ⟨fun e3 => by have := look_lt hlq; omega, fun e3 => ?_⟩
                have := (hoq.lt _ (eq.trans e3.symm)).2
                omega
            rintro _ w3 ⟨rfl, g2, hvf, hnf, hkf⟩
            rw [List.append_assoc] at hvf
            have hrd2 := rd_keeps hrdw hkf hW1 hpq (fun h0 k hX e => hB01w h0 k e.symm hX.2)
            have hgB2 : ∀ k, g2 = some k → w.heap.size ≤ k := fun k e => by
              rcases hnf with rfl | ⟨z, e2, hz⟩
              · exact hgB k e
              · rw [e2] at e
                cases e
                exact Nat.le_trans hK1.size hz
            have hK2 := hK1.write hkf hgB
            rw [← hpt.out, ← hlah.out] at hvf
            go_wp2_with fail
            go_roundw
            case rel => exact ⟨i + 1, g2, by have := hlth.out; omega, by go_num, by rw [hRSh.out]; exact hrd2, hvf, hgB2, hK2⟩
            case measure => have := hlth.out; simp [intOf]; omega
          · by_cases hk3 : P.kind = 3
            · have hpt : Hid (ptB P = fltB P.n) := hidP (by unfold ptB; rw [if_neg (by omega), if_neg (by omega), if_neg (by omega), if_pos hk3])
              rw [hpt.out] at hrd hby1 hl1 hpl
              have hB01w : 0 < RS.length → ∀ k, g = some k → some k ≠ B0 := fun h0 => hB01.out (by rw [List.length_append]; omega)
              go_wp2_with fail
              obtain ⟨stg, hstg⟩ : ∃ s : (Nat → Bool) → List Nat, Hid (s = fun L => if L 2 = true then RS else (fltB P.n ++ RS)) := ⟨_, hidP rfl⟩
              have hset : Hid (∀ (L : Nat → Bool) (i : Nat), 2 ≠ i → stg (setL L i) = stg L) := by
                refine hidP ?_
                intro L i h
                have k2 : (2 = i) = False := eq_false h
                simp only [hstg.out, setL, k2, if_false]
              have hst0 : Hid (stg (fun _ => false) = (fltB P.n ++ RS)) := hidP (by simp only [hstg.out, Bool.false_eq_true, if_false])
              refine wp_region_lst wmixed (fun L u => Hid ((wr).grownBy u (some p) ∧ RdAt _ u p (stg L))) (fun _ _ => False) (fun _ _ _ h => h.elim) (fun _ u u' => u.grownBy u' (some p)) (hidP ⟨grown_drew (grown_refl _ _), by rw [hst0.out]; exact rdAt_below hrd (Below.refl _ _).drew⟩) 3
                ([] :: [] :: [42] :: [])
                (isV (.pointer (some ⟨q, 0, none⟩)) :: isV (.pointer (some ⟨p, 0, none⟩)) :: isV (.float .f64 P.n) :: [])
                (by decide) (by kernel_rfl) ?_ ⟨?_, ?_, ?_, trivial⟩ ?_
              · intro i j S hij hS v u u' hv hR
                match j, hS with
                | 0, e => cases e; exact hv
                | 1, e => cases e; exact hv
                | 2, e => cases e; exact hv
                | n + 3, e => simp at e
              · intro L vs u hL hw hcl hJ hm
                have hl : look u (BA) = some (.cells (#[.pointer (some ⟨q, 0, none⟩)]) 56 (0, 0)) := by rw [grown_look hJ.out.1 (look_lt (lBA1)) (fun g e => by cases e; exact hAp)]; exact lBA1
                have hc : World.cell? u ⟨BA, 0, none⟩ = some (.pointer (some ⟨q, 0, none⟩)) := by rw [look_cell hl]; rfl
                simp only [fill]
                go_wp2
                exact ⟨_, rfl, rfl, ⟨grown_refl _ _, hidP ⟨hJ.out.1, by rw [hset.out L 0 (by decide)]; exact hJ.out.2⟩, Nat.le_refl _⟩, trivial⟩
              · intro L vs u hL hw hcl hJ hm
                simp only [fill]
                go_wp2
                exact ⟨_, rfl, rfl, ⟨grown_refl _ _, hidP ⟨hJ.out.1, by rw [hset.out L 1 (by decide)]; exact hJ.out.2⟩, Nat.le_refl _⟩, trivial⟩
              · intro L vs u hL hw hcl hJ hm
                have h42 : vs 42 = .pointer (some ⟨p, 0, none⟩) := meets_get hm 1 rfl rfl rfl rfl
                have hst : stg L = (fltB P.n ++ RS) := by simp only [hstg.out, hL, Bool.false_eq_true, if_false]
                have hst2 : stg (setL L 2) = RS := by simp [hstg.out, setL]
                obtain ⟨hgq, hrdq⟩ := hJ.out
                rw [hst] at hrdq
                clear hm hw hcl hst hJ
                simp only [fill, h42]
                go_wp2_with fail
                refine ((rfloat_any p _ _ hby1) hrdq).mono ?_
                rintro e u' ⟨hgu, hr⟩
                rw [float_whole RS hfn] at hr
                obtain ⟨rfl, hrd2⟩ := hr
                go_wp2
                exact ⟨_, rfl, rfl, ⟨hgu, hidP ⟨grown_trans hgq hgu, by rw [hst2]; exact hrd2⟩, hgu.size⟩, trivial⟩
              intro L hall vs ws hJ hsz hm hne hlo
              have h41 : vs 41 = .pointer (some ⟨q, 0, none⟩) := hm 0 _ _ _ rfl rfl rfl
              have h42 : vs 42 = .pointer (some ⟨p, 0, none⟩) := hm 1 _ _ _ rfl rfl rfl
              have h43 : vs 43 = .float .f64 P.n := hm 2 _ _ _ rfl rfl rfl
              obtain ⟨hgw, hrdw⟩ := hJ.out
              have hst : stg L = RS := by simp only [hstg.out]; rw [if_pos (hall 2 (by decide))]
              rw [hst] at hrdw
              clear hne hlo hm hall hst hsz hset hst0 hstg hJ
              simp only [fill, List.filterMap, List.take, List.drop, List.setIfInBounds_toArray, List.set_cons_zero, List.set_cons_succ, h41, h42, h43]
              clear h41 h42 h43
              have hK1 := hK.read hgw
              have hW1 := wr_read hW hrd hgw hpq
              go_wp2_with fail
              refine (wfloat_any q g DS P.n _ hfn (by omega) hW1).mono ?_
              rintro _ w3 ⟨rfl, g2, hvf, hnf, hkf⟩
              have hrd2 := rd_keeps hrdw hkf hW1 hpq (fun h0 k hX e => hB01w h0 k e.symm hX.2)
              have hgB2 : ∀ k, g2 = some k → w.heap.size ≤ k := fun k e => by
                rcases hnf with rfl | ⟨z, e2, hz⟩
                · exact hgB k e
                · rw [e2] at e
                  cases e
                  exact Nat.le_trans hK1.size hz
              have hK2 := hK1.write hkf hgB
              rw [← hpt.out, ← hlah.out] at hvf
              go_wp2_with fail
              go_roundw
              case rel => exact ⟨i + 1, g2, by have := hlth.out; omega, by go_num, by rw [hRSh.out]; exact hrd2, hvf, hgB2, hK2⟩
              case measure => have := hlth.out; simp [intOf]; omega
            · by_cases hk4 : P.kind = 4
              · have hpt : Hid (ptB P = vecB P.v) := hidP (by unfold ptB; rw [if_neg (by omega), if_neg (by omega), if_neg (by omega), if_neg (by omega), if_pos hk4])
                rw [hpt.out] at hrd hby1 hl1 hpl
                have hB01w : 0 < RS.length → ∀ k, g = some k → some k ≠ B0 := fun h0 => hB01.out (by rw [List.length_append]; omega)
                go_wp2_with fail
                obtain ⟨stg, hstg⟩ : ∃ s : (Nat → Bool) → List Nat, Hid (s = fun L => if L 2 = true then RS else (vecB P.v ++ RS)) := ⟨_, hidP rfl⟩
                have hset : Hid (∀ (L : Nat → Bool) (i : Nat), 2 ≠ i → stg (setL L i) = stg L) := by
                  refine hidP ?_
                  intro L i h
                  have k2 : (2 = i) = False := eq_false h
                  simp only [hstg.out, setL, k2, if_false]
                have hst0 : Hid (stg (fun _ => false) = (vecB P.v ++ RS)) := hidP (by simp only [hstg.out, Bool.false_eq_true, if_false])
                refine wp_region_lst wmixed (fun L u => Hid ((wr).grownBy u (some p) ∧ RdAt _ u p (stg L))) (fun _ _ => False) (fun _ _ _ h => h.elim) (fun _ u u' => u.grownBy u' (some p)) (hidP ⟨grown_drew (grown_refl _ _), by rw [hst0.out]; exact rdAt_below hrd (Below.refl _ _).drew⟩) 3
                  ([] :: [] :: [48] :: [])
                  (isV (.pointer (some ⟨q, 0, none⟩)) :: isV (.pointer (some ⟨p, 0, none⟩)) :: isV (.agg (VA (cutV P.v))) :: [])
                  (by decide) (by kernel_rfl) ?_ ⟨?_, ?_, ?_, trivial⟩ ?_
                · intro i j S hij hS v u u' hv hR
                  match j, hS with
                  | 0, e => cases e; exact hv
                  | 1, e => cases e; exact hv
                  | 2, e => cases e; exact hv
                  | n + 3, e => simp at e
                · intro L vs u hL hw hcl hJ hm
                  have hl : look u (BA) = some (.cells (#[.pointer (some ⟨q, 0, none⟩)]) 56 (0, 0)) := by rw [grown_look hJ.out.1 (look_lt (lBA1)) (fun g e => by cases e; exact hAp)]; exact lBA1
                  have hc : World.cell? u ⟨BA, 0, none⟩ = some (.pointer (some ⟨q, 0, none⟩)) := by rw [look_cell hl]; rfl
                  simp only [fill]
                  go_wp2
                  exact ⟨_, rfl, rfl, ⟨grown_refl _ _, hidP ⟨hJ.out.1, by rw [hset.out L 0 (by decide)]; exact hJ.out.2⟩, Nat.le_refl _⟩, trivial⟩
                · intro L vs u hL hw hcl hJ hm
                  simp only [fill]
                  go_wp2
                  exact ⟨_, rfl, rfl, ⟨grown_refl _ _, hidP ⟨hJ.out.1, by rw [hset.out L 1 (by decide)]; exact hJ.out.2⟩, Nat.le_refl _⟩, trivial⟩
                · intro L vs u hL hw hcl hJ hm
                  have h48 : vs 48 = .pointer (some ⟨p, 0, none⟩) := meets_get hm 1 rfl rfl rfl rfl
                  have hst : stg L = (vecB P.v ++ RS) := by simp only [hstg.out, hL, Bool.false_eq_true, if_false]
                  have hst2 : stg (setL L 2) = RS := by simp [hstg.out, setL]
                  obtain ⟨hgq, hrdq⟩ := hJ.out
                  rw [hst] at hrdq
                  clear hm hw hcl hst hJ
                  simp only [fill, h48]
                  go_wp2_with fail
                  refine ((rvec_any p _ _ hby1) hrdq).mono ?_
                  rintro e u' ⟨hgu, hr⟩
                  rw [vec_whole RS hfv] at hr
                  obtain ⟨rfl, hrd2⟩ := hr
                  go_wp2
                  exact ⟨_, rfl, rfl, ⟨hgu, hidP ⟨grown_trans hgq hgu, by rw [hst2]; exact hrd2⟩, hgu.size⟩, trivial⟩
                intro L hall vs ws hJ hsz hm hne hlo
                have h47 : vs 47 = .pointer (some ⟨q, 0, none⟩) := hm 0 _ _ _ rfl rfl rfl
                have h48 : vs 48 = .pointer (some ⟨p, 0, none⟩) := hm 1 _ _ _ rfl rfl rfl
                have h49 : vs 49 = .agg (VA (cutV P.v)) := hm 2 _ _ _ rfl rfl rfl
                obtain ⟨hgw, hrdw⟩ := hJ.out
                have hst : stg L = RS := by simp only [hstg.out]; rw [if_pos (hall 2 (by decide))]
                rw [hst] at hrdw
                clear hne hlo hm hall hst hsz hset hst0 hstg hJ
                simp only [fill, List.filterMap, List.take, List.drop, List.setIfInBounds_toArray, List.set_cons_zero, List.set_cons_succ, h47, h48, h49]
                clear h47 h48 h49
                have hK1 := hK.read hgw
                have hW1 := wr_read hW hrd hgw hpq
                go_wp2_with fail
                refine (wvec_cut q g DS P.v _ hfv (by omega) hW1).mono ?_
                rintro _ w3 ⟨rfl, g2, hvf, hnf, hkf⟩
                have hrd2 := rd_keeps hrdw hkf hW1 hpq (fun h0 k hX e => hB01w h0 k e.symm hX.2)
                have hgB2 : ∀ k, g2 = some k → w.heap.size ≤ k := fun k e => by
                  rcases hnf with rfl | ⟨z, e2, hz⟩
                  · exact hgB k e
                  · rw [e2] at e
                    cases e
                    exact Nat.le_trans hK1.size hz
                have hK2 := hK1.write hkf hgB
                rw [← hpt.out, ← hlah.out] at hvf
                go_wp2_with fail
                go_roundw
                case rel => exact ⟨i + 1, g2, by have := hlth.out; omega, by go_num, by rw [hRSh.out]; exact hrd2, hvf, hgB2, hK2⟩
                case measure => have := hlth.out; simp [intOf]; omega
              · have hpt : Hid (ptB P = []) := hidP (by unfold ptB; rw [if_neg (by omega), if_neg (by omega), if_neg (by omega), if_neg (by omega), if_neg (by omega)])
                rw [hpt.out, List.nil_append] at hrd
                rw [hpt.out, List.append_nil] at hlah
                go_wp2_with fail
                go_roundw
                case rel => exact ⟨i + 1, g, by have := hlth.out; omega, by go_num, by rw [hRSh.out]; exact hrd, by rw [hlah.out]; exact hW, hgB, hK⟩
                case measure => have := hlth.out; simp [intOf]; omega
    · obtain rfl : i = n := by omega
      have dlt : decide ((i : Int) < (i : Int)) = false := decide_eq_false (by omega)
      have e0 : ptsF L i (i - i) = [] := by rw [Nat.sub_self]; rfl
      rw [e0] at hrd
      have hfin := hrd.weaken (Y := X) (fun b h => h.1)
      go_wp2_with fail
      go_end0
      exact ⟨rfl, hfin, ⟨g, hW, hgB⟩, hK⟩
end Go.Proofs.Ytniphfkipjpikaa
