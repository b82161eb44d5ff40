/- Links: a link's bytes. -/
import Derived.Test.YtnpofcnibgdjhaaLkF
namespace Go.Proofs.Ytnpofcnibgdjhaa
open Go.RowKit

theorem wrote_look {w u : World} {p : Nat} {g : Option Nat} {bs : List Nat} (h : Wrote w u p g bs) {k : Nat} {o : Obj} (hl : look w k = some o) (hp : k ≠ p) (hg : some k ≠ g) : look u k = some o := by
  obtain ⟨_, _, _, hk⟩ := h
  exact keeps_look hk hl hp hg
theorem wrote_drew {w : World} {p : Nat} {g : Option Nat} {bs : List Nat} (h : WrV w p g bs) : Wrote w w.drew p g bs :=
  ⟨g, wr_keeps h (belD (bel0 w)), .inl rfl, below_keeps (belD (bel0 w))⟩
theorem text_src {S : Nat → Prop} {w W : World} {v : Value} {bs : List Nat} {p : Nat} {g : Option Nat} (h : TextIn S w v bs) (hs : w.heap.size ≤ W.heap.size) (hk : ∀ b, S b → W.heap[b]? = w.heap[b]?) (hS : ∀ b, S b → b < w.heap.size ∧ b ≠ p ∧ some b ≠ g) :
    (v = .slice none 0 0 ∧ bs.length = 0) ∨ ∃ ad c, v = .slice (some ad) bs.length c ∧ (0 < bs.length → ad.block < W.heap.size ∧ ad.block ≠ p ∧ some ad.block ≠ g) ∧ ∀ j u, (bcells bs)[j]? = some u → W.cell? (ad.add j) = some u := by
  rcases slice_news (h.1.kept hs fun b hb => hk b (h.2 b hb)) with h1 | ⟨ad, c, e, hc⟩
  · exact .inl h1
  · refine .inr ⟨ad, c, e, fun _ => ?_, hc⟩
    obtain ⟨h2, h3, h4⟩ := hS ad.block (h.2 ad.block (by rw [e]; rfl))
    exact ⟨Nat.lt_of_lt_of_le h2 hs, h3, h4⟩
theorem flat_le {q : List (List Nat)} (h : ∀ b ∈ q, b.length ≤ 1800) : (q.flatMap encT).length ≤ 1810 * q.length := by
  induction q with
  | nil => simp
  | cons b q ih =>
    have h1 := h b (by simp)
    have h2 := ih (fun c hc => h c (by simp [hc]))
    have h3 := (numB_len b.length).2
    rw [List.flatMap_cons, List.length_append, List.length_cons]
    unfold encT at h2 ⊢
    rw [List.length_append]
    omega
theorem take_snoc (q : List (List Nat)) (k : Nat) (h : k < q.length) : (q.take (k + 1)).flatMap encT = (q.take k).flatMap encT ++ numB (q.getD k []).length ++ q.getD k [] := by
  rw [List.take_add_one, List.getElem?_eq_getElem h, List.flatMap_append, List.getD_eq_getElem?_getD, List.getElem?_eq_getElem h, List.append_assoc]
  simp [encT]
theorem encLk_len {l : Lk} (hq : l.q.length ≤ 250) (h : ∀ b ∈ l.q, b.length ≤ 1800) : (encLk l).length ≤ 460000 := by
  unfold encLk
  have h1 := (numB_len l.nx).2
  have h2 := (numB_len l.q.length).2
  have h3 := (numB_len l.ex).2
  have h4 := flat_le h
  simp only [List.length_append]
  omega

set_option maxRecDepth 100000 in
set_option maxHeartbeats 3200000 in
theorem lkput_any (p : Nat) (g : Option Nat) (bs : List Nat) (pl : Nat) (l : Lk) (S : Nat → Prop) (w : World) (hn : 0 < l.nx) (hx : l.nx < 18446744073709551616) (hx2 : l.ex < 18446744073709551616) (hq : l.q.length ≤ 250) (htx : ∀ b ∈ l.q, b.length ≤ 1800) (hlen : bs.length ≤ 400000)
    (h : LinkAt S w pl l) (hpp : pl ≠ p) (hpg : some pl ≠ g) (hSp : ∀ b, S b → b ≠ p ∧ some b ≠ g) (hW : WrV w p g bs) :
    Calls Try.prog 70 #[.pointer (some ⟨pl, 0, none⟩), .pointer (some ⟨p, 0, none⟩)] w fun e w' => e = .returned (.tuple #[]) ∧ Wrote w w' p g (bs ++ encLk l) := by
  obtain ⟨v, us, hl, h2, h3, h4, h5⟩ := h
  obtain ⟨qa, qc, rfl⟩ := row_one h2
  have hpl := look_lt hl
  have hmd : decide (0 < l.nx) = true := decide_eq_true hn
  have hWd := wrote_drew hW
  have hwq : IntKind.u64.wrap (l.q.length : Int) = (l.q.length : Int) := IntWalk.u64_in _ (by omega)
  have hb63 : l.q.length ≤ 9223372036854775807 := by omega
  have hlen9 : bs.length ≤ 900000 := by omega
  go_enter Try.func70, Try.ntmps70
  go_wp2_with fail
  refine (lmade_any pl l.nx _ _ _ hl).mono ?_
  rintro _ _ ⟨rfl, rfl⟩
  rw [hmd]
  go_wp2_with fail
  obtain ⟨stg, hstg⟩ : ∃ s : (Nat → Bool) → List Nat, Hid (s = fun L => if L 12 = true then bs ++ numB (l.nx) ++ numB (l.q.length) else (if L 5 = true then bs ++ numB (l.nx) else (bs))) := ⟨_, hidP rfl⟩
  have hset : Hid (∀ (L : Nat → Bool) (i : Nat), (∀ c ∈ [5, 12], c ≠ i) → stg (setL L i) = stg L) := by
    refine hidP ?_
    intro L i h
    have k5 : (5 = i) = False := eq_false (h 5 (by simp))
    have k12 : (12 = i) = False := eq_false (h 12 (by simp))
    simp only [hstg.out, setL, k5, k12, if_false]
  have hst0 : Hid (stg (fun _ => false) = bs) := hidP (by simp only [hstg.out, Bool.false_eq_true, if_false])
  refine wp_region_lst wmixed (fun L u => Wrote ((w)) u (p) (g) (stg L)) (fun _ _ => False) (fun _ _ _ h => h.elim) (fun _ _ _ => True) (by rw [hst0.out]; exact hWd) 13
    ([] :: [] :: [10] :: [11] :: [12] :: [9, 13] :: [] :: [15] :: [16] :: [17] :: [18] :: [19] :: [14, 20] :: [])
    (isV (.pointer (some ⟨p, 0, none⟩)) :: isV (.pointer (some ⟨pl, 0, none⟩)) :: isV (.pointer (some ⟨pl, 0, none⟩)) :: isV (.pointer (some ⟨pl, 0, none⟩)) :: isV (.int .u64 (l.nx : Int)) :: isV (.pointer (some ⟨p, 0, none⟩)) :: isV (.pointer (some ⟨pl, 0, none⟩)) :: isV (.pointer (some ⟨pl, 0, none⟩)) :: isV (.pointer (some ⟨pl, 1, none⟩)) :: isV (.slice qa l.q.length qc) :: isV (.int .i64 (l.q.length : Int)) :: isV (.int .u64 (l.q.length : Int)) :: isV (.pointer (some ⟨p, 0, none⟩)) :: [])
    (by decide) (by kernel_rfl) ?_ ⟨?_, ?_, ?_, ?_, ?_, ?_, ?_, ?_, ?_, ?_, ?_, ?_, ?_, trivial⟩ ?_
  · intro i j S hij hS v u u' hv hR
    match j, hS with
    | 0, e => cases e; exact hv
    | 1, e => cases e; exact hv
    | 2, e => cases e; exact hv
    | 3, e => cases e; exact hv
    | 4, e => cases e; exact hv
    | 5, e => cases e; exact hv
    | 6, e => cases e; exact hv
    | 7, e => cases e; exact hv
    | 8, e => cases e; exact hv
    | 9, e => cases e; exact hv
    | 10, e => cases e; exact hv
    | 11, e => cases e; exact hv
    | 12, e => cases e; exact hv
    | n + 13, e => simp at e
  · intro L vs u hL hw hcl hJ hm
    simp only [fill]
    go_wp2
    exact ⟨_, rfl, rfl, ⟨trivial, (by rw [hset.out L 0 (by decide)]; exact hJ), Nat.le_refl _⟩, trivial⟩
  · intro L vs u hL hw hcl hJ hm
    simp only [fill]
    go_wp2
    exact ⟨_, rfl, rfl, ⟨trivial, (by rw [hset.out L 1 (by decide)]; exact hJ), Nat.le_refl _⟩, trivial⟩
  · intro L vs u hL hw hcl hJ hm
    have h10 : vs 10 = .pointer (some ⟨pl, 0, none⟩) := meets_get hm 1 rfl rfl rfl rfl
    simp only [fill, h10]
    go_wp2
    exact ⟨_, rfl, rfl, ⟨trivial, (by rw [hset.out L 2 (by decide)]; exact hJ), Nat.le_refl _⟩, trivial⟩
  · intro L vs u hL hw hcl hJ hm
    have h11 : vs 11 = .pointer (some ⟨pl, 0, none⟩) := meets_get hm 2 rfl rfl rfl rfl
    simp only [fill, h11]
    go_wp2
    exact ⟨_, rfl, rfl, ⟨trivial, (by rw [hset.out L 3 (by decide)]; exact hJ), Nat.le_refl _⟩, trivial⟩
  · intro L vs u hL hw hcl hJ hm
    have h12 : vs 12 = .pointer (some ⟨pl, 0, none⟩) := meets_get hm 3 rfl rfl rfl rfl
    have hl := wrote_look hJ (hl) (hpp) (hpg)
    have hc : World.cell? u ⟨pl, 0, none⟩ = some (.int .u64 (l.nx : Int)) := by rw [look_cell hl]; rfl
    simp only [fill, h12]
    go_wp2
    exact ⟨_, rfl, rfl, ⟨trivial, (by rw [hset.out L 4 (by decide)]; exact hJ), Nat.le_refl _⟩, trivial⟩
  · intro L vs u hL hw hcl hJ hm
    have h9 : vs 9 = .pointer (some ⟨p, 0, none⟩) := meets_get hm 0 rfl rfl rfl rfl
    have h13 : vs 13 = .int .u64 (l.nx : Int) := meets_get hm 4 rfl rfl rfl rfl
    have L12 : L 12 = false := by
      cases e : L 12 with
      | false => rfl
      | true => exact absurd (hcl 12 _ e rfl 5 (by kernel_rfl)) (by rw [hL]; decide)
    have hst : stg L = bs := by simp only [hstg.out, hL, L12, Bool.false_eq_true, if_false, if_true]
    have hst2 : stg (setL L 5) = bs ++ numB (l.nx) := by simp [hstg.out, setL, L12]
    rw [hst] at hJ
    obtain ⟨gq, hvq, hnq, hkq⟩ := hJ
    clear hm hw hcl hst
    simp only [fill, h9, h13]
    go_wp2_with fail
    refine (num_any p gq _ (l.nx) _ (hx) (by have z0 := hlen9;  (try simp only [List.length_append]); omega) hvq).mono ?_
    rintro e u' ⟨rfl, hWq⟩
    have hszq : u.heap.size ≤ u'.heap.size := by
      obtain ⟨_, _, _, hq⟩ := hWq
      exact hq.size
    go_wp2
    exact ⟨_, rfl, rfl, ⟨trivial, (by rw [hst2]; exact Wrote.trans hkq hnq hWq), hszq⟩, trivial⟩
  · intro L vs u hL hw hcl hJ hm
    simp only [fill]
    go_wp2
    exact ⟨_, rfl, rfl, ⟨trivial, (by rw [hset.out L 6 (by decide)]; exact hJ), Nat.le_refl _⟩, trivial⟩
  · intro L vs u hL hw hcl hJ hm
    have h15 : vs 15 = .pointer (some ⟨pl, 0, none⟩) := meets_get hm 6 rfl rfl rfl rfl
    simp only [fill, h15]
    go_wp2
    exact ⟨_, rfl, rfl, ⟨trivial, (by rw [hset.out L 7 (by decide)]; exact hJ), Nat.le_refl _⟩, trivial⟩
  · intro L vs u hL hw hcl hJ hm
    have h16 : vs 16 = .pointer (some ⟨pl, 0, none⟩) := meets_get hm 7 rfl rfl rfl rfl
    simp only [fill, h16]
    go_wp2
    exact ⟨_, rfl, rfl, ⟨trivial, (by rw [hset.out L 8 (by decide)]; exact hJ), Nat.le_refl _⟩, trivial⟩
  · intro L vs u hL hw hcl hJ hm
    have h17 : vs 17 = .pointer (some ⟨pl, 1, none⟩) := meets_get hm 8 rfl rfl rfl rfl
    have hl := wrote_look hJ (hl) (hpp) (hpg)
    have hc : World.cell? u ⟨pl, 1, none⟩ = some (.slice qa l.q.length qc) := by rw [look_cell hl]; rfl
    simp only [fill, h17]
    go_wp2
    exact ⟨_, rfl, rfl, ⟨trivial, (by rw [hset.out L 9 (by decide)]; exact hJ), Nat.le_refl _⟩, trivial⟩
  · intro L vs u hL hw hcl hJ hm
    have h18 : vs 18 = .slice qa l.q.length qc := meets_get hm 9 rfl rfl rfl rfl
    simp only [fill, h18]
    go_wp2
    exact ⟨_, rfl, rfl, ⟨trivial, (by rw [hset.out L 10 (by decide)]; exact hJ), Nat.le_refl _⟩, trivial⟩
  · intro L vs u hL hw hcl hJ hm
    have h19 : vs 19 = .int .i64 (l.q.length : Int) := meets_get hm 10 rfl rfl rfl rfl
    simp only [fill, h19]
    go_wp2
    exact ⟨_, rfl, rfl, ⟨trivial, (by rw [hset.out L 11 (by decide)]; exact hJ), Nat.le_refl _⟩, trivial⟩
  · intro L vs u hL hw hcl hJ hm
    have h14 : vs 14 = .pointer (some ⟨p, 0, none⟩) := meets_get hm 5 rfl rfl rfl rfl
    have h20 : vs 20 = .int .u64 (l.q.length : Int) := meets_get hm 11 rfl rfl rfl rfl
    have P5 : L 5 = true := hw 5 (by kernel_rfl)
    have hst : stg L = bs ++ numB (l.nx) := by simp only [hstg.out, hL, P5, Bool.false_eq_true, if_false, if_true]
    have hst2 : stg (setL L 12) = bs ++ numB (l.nx) ++ numB (l.q.length) := by simp [hstg.out, setL]
    rw [hst] at hJ
    obtain ⟨gq, hvq, hnq, hkq⟩ := hJ
    clear hm hw hcl hst
    simp only [fill, h14, h20]
    go_wp2_with fail
    refine (num_any p gq _ (l.q.length) _ (by omega) (by have z0 := hlen9; have z1 := (numB_len (l.nx)).2; (try simp only [List.length_append]); omega) hvq).mono ?_
    rintro e u' ⟨rfl, hWq⟩
    have hszq : u.heap.size ≤ u'.heap.size := by
      obtain ⟨_, _, _, hq⟩ := hWq
      exact hq.size
    go_wp2
    exact ⟨_, rfl, rfl, ⟨trivial, (by rw [hst2]; exact Wrote.trans hkq hnq hWq), hszq⟩, trivial⟩
  intro L hall vs ws hJ hsz hm hne hlo
  have h9 : vs 9 = .pointer (some ⟨p, 0, none⟩) := hm 0 _ _ _ rfl rfl rfl
  have h10 : vs 10 = .pointer (some ⟨pl, 0, none⟩) := hm 1 _ _ _ rfl rfl rfl
  have h11 : vs 11 = .pointer (some ⟨pl, 0, none⟩) := hm 2 _ _ _ rfl rfl rfl
  have h12 : vs 12 = .pointer (some ⟨pl, 0, none⟩) := hm 3 _ _ _ rfl rfl rfl
  have h13 : vs 13 = .int .u64 (l.nx : Int) := hm 4 _ _ _ rfl rfl rfl
  have h14 : vs 14 = .pointer (some ⟨p, 0, none⟩) := hm 5 _ _ _ rfl rfl rfl
  have h15 : vs 15 = .pointer (some ⟨pl, 0, none⟩) := hm 6 _ _ _ rfl rfl rfl
  have h16 : vs 16 = .pointer (some ⟨pl, 0, none⟩) := hm 7 _ _ _ rfl rfl rfl
  have h17 : vs 17 = .pointer (some ⟨pl, 1, none⟩) := hm 8 _ _ _ rfl rfl rfl
  have h18 : vs 18 = .slice qa l.q.length qc := hm 9 _ _ _ rfl rfl rfl
  have h19 : vs 19 = .int .i64 (l.q.length : Int) := hm 10 _ _ _ rfl rfl rfl
  have h20 : vs 20 = .int .u64 (l.q.length : Int) := hm 11 _ _ _ rfl rfl rfl
  have h21 : vs 21 = .pointer (some ⟨p, 0, none⟩) := hm 12 _ _ _ rfl rfl rfl
  have hst : stg L = bs ++ numB (l.nx) ++ numB (l.q.length) := by simp only [hstg.out]; rw [if_pos (hall 12 (by decide))]
  rw [hst] at hJ
  clear hne hlo hm hall hst hsz hset hst0 hstg
  simp only [fill, List.filterMap, List.take, List.drop, List.setIfInBounds_toArray, List.set_cons_zero, List.set_cons_succ, h9, h10, h11, h12, h13, h14, h15, h16, h17, h18, h19, h20, h21]
  clear h9 h10 h11 h12 h13 h14 h15 h16 h17 h18 h19 h20 h21
  obtain ⟨g1, hW1, hn1, hk1⟩ := hJ
  have hl1 : look ws pl = some (.cells #[.int .u64 (l.nx : Int), .slice qa l.q.length qc, .int .u64 (l.ex : Int)] 51 (0, 0)) := keeps_look hk1 hl hpp hpg
  have hc1 : ws.cell? ⟨pl, 1, none⟩ = some (.slice qa l.q.length qc) := by rw [look_cell hl1]; rfl
  go_wp2_with fail
  go_loopw [27] (fun i wr => ∃ (k : Nat) (gk : Option Nat), k ≤ l.q.length ∧ i = .int .i64 (k : Int) ∧ WrV wr p gk (bs ++ numB l.nx ++ numB l.q.length ++ (l.q.take k).flatMap encT) ∧ newOr w g gk ∧ KeepsG p g w wr) (fun i _ => l.q.length - (intOf i).toNat)
  case atStart => exact ⟨0, g1, by omega, rfl, by simpa using hW1, hn1, hk1⟩
  case round =>
    obtain ⟨k, gk, hk, rfl, hWk, hnk, hkk⟩ := hrel
    have hlr : look wr pl = some (.cells #[.int .u64 (l.nx : Int), .slice qa l.q.length qc, .int .u64 (l.ex : Int)] 51 (0, 0)) := keeps_look hkk hl hpp hpg
    have hz1 := (numB_len l.nx).2
    have hz2 := (numB_len l.q.length).2
    have hfl : ((l.q.take k).flatMap encT).length ≤ 452500 := by
      have := flat_le (q := l.q.take k) (fun b hb => htx b (List.mem_of_mem_take hb))
      rw [List.length_take] at this
      omega
    have hlk : (bs ++ numB l.nx ++ numB l.q.length ++ (l.q.take k).flatMap encT).length ≤ 1000000 := by simp only [List.length_append]; omega
    clear hz1 hz2 hfl
    by_cases hlt : k < l.q.length
    · obtain ⟨b, off, rfl, hbw, hR⟩ : ∃ b off, qa = some ⟨b, off, none⟩ ∧ b < w.heap.size ∧ ∀ j, j < l.q.length → w.rangeAt b (off + j * 1) [us j] := by
        obtain ⟨_, _, e, _, _, hh⟩ := h2
        cases e
        exact hh.resolve_left (by omega)
      have hSb := h3 b rfl
      have hgk : ∀ b, S b → b < w.heap.size ∧ b ≠ p ∧ some b ≠ gk := fun b hb => ⟨(h5 b hb).1, (hSp b hb).1, fun e => by
        rcases hnk with rfl | ⟨m, rfl, hm⟩
        · exact (hSp b hb).2 e
        · cases e
          have := (h5 b hb).1
          omega⟩
      have hkS : ∀ b, S b → wr.heap[b]? = w.heap[b]? := fun b hb => hkk.block b (h5 b hb).1 (hSp b hb).1 (hSp b hb).2
      have hsrc := text_src (h4 k hlt) hkk.size hkS hgk
      obtain ⟨xa, xc, hxe⟩ := row_one (h4 k hlt).1
      rw [hxe] at hsrc
      have hck : wr.cell? ⟨b, off + k, none⟩ = some (.slice xa (l.q.getD k []).length xc) := by
        rw [World.cell?_of_block (hkS b hSb), ← hxe]
        have := hR k hlt 0 _ rfl
        rwa [Nat.mul_one, Nat.add_zero] at this
      obtain ⟨bk, hbk⟩ : ∃ bk, Hid (bk = l.q.getD k []) := ⟨_, hidP rfl⟩
      rw [← hbk.out] at hsrc hck
      have hbl : bk.length ≤ 1000000 := by
        rw [hbk.out, List.getD_eq_getElem?_getD, List.getElem?_eq_getElem hlt]
        have := htx _ (List.getElem_mem hlt)
        show (l.q[k]).length ≤ _
        omega
      have hts := hidP (take_snoc l.q k hlt)
      clear hxe hkS hgk
      go_wp2_with fail
      refine (text_any p gk _ bk (.slice xa bk.length xc) _ hlk hbl hWk hsrc).mono ?_
      rintro _ w2 ⟨rfl, g2, hW2, hn2, hk2⟩
      have hW3 : WrV w2 p g2 (bs ++ numB l.nx ++ numB l.q.length ++ (l.q.take (k + 1)).flatMap encT) := by
        rw [hts.out, ← hbk.out]
        simpa only [List.append_assoc] using hW2
      have hn3 := hnk.trans hkk.size hn2
      have hk3 := hkk.trans hnk hk2
      clear hts hW2 hn2 hk2 hsrc hWk hlk
      go_wp2
      go_roundw
      case rel => exact ⟨k + 1, g2, by omega, by go_num, hW3, hn3, hk3⟩
      case measure => simp [intOf]; omega
    · obtain rfl : k = l.q.length := by omega
      have hc2 : wr.cell? ⟨pl, 2, none⟩ = some (.int .u64 (l.ex : Int)) := by rw [look_cell hlr]; rfl
      go_wp2_with fail
      refine (num_any p gk _ l.ex _ hx2 hlk hWk).mono ?_
      rintro _ w2 ⟨rfl, hW2⟩
      go_wp2
      go_end0
      refine ⟨rfl, Wrote.trans hkk hnk ?_⟩
      have e : bs ++ encLk l = bs ++ numB l.nx ++ numB l.q.length ++ (l.q.take l.q.length).flatMap encT ++ numB l.ex := by
        unfold encLk
        rw [List.take_length]
        simp only [List.append_assoc]
      rw [e]
      exact hW2
theorem lkput_nil (pl : Option Addr) (p : Nat) (w : World) (h : Calls Try.prog 64 #[.pointer pl] w fun e w' => e = .returned (.bool false) ∧ w = w') :
    Calls Try.prog 70 #[.pointer pl, .pointer (some ⟨p, 0, none⟩)] w fun e w' => e = .returned (.tuple #[]) ∧ w = w' := by
  go_enter Try.func70, Try.ntmps70
  go_wp2_with fail
  refine h.mono ?_
  rintro _ _ ⟨rfl, rfl⟩
  go_wp2
  refine bodyPost_ret (v := .tuple #[]) (by simp [results, Try.results70, go_sem]) rfl ?_
  exact ⟨rfl, rfl⟩

set_option maxRecDepth 100000 in
set_option maxHeartbeats 3200000 in
theorem lsave_any (pl : Nat) (l : Lk) (S : Nat → Prop) (w : World) (ho : okLk l) (h : LinkAt S w pl l) :
    Calls Try.prog 24 #[.pointer (some ⟨pl, 0, none⟩)] w fun e w' => e = .returned (.string (strN (encLk l))) ∧ Below w.heap.size w w' := by
  have htx : ∀ b ∈ l.q, b.length ≤ 1800 := fun b hb => ((txt_iff b).1 (ho.texts b hb)).2
  have hel := encLk_len ho.few.2 htx
  have hpl := h.lt
  have hbl := h.blocks
  go_enter Try.func24, Try.ntmps24
  go_wp2_with fail
  refine (new_any _).mono ?_
  rintro _ _ ⟨rfl, rfl⟩
  have hb0 := belA (bel0 w) (.cells #[.slice none 0 0] 161)
  have hW0 := wr_new w
  have h0 := h.below hb0
  go_wp2_with fail
  refine (lkput_any w.heap.size none [] pl l S _ (by have := ho.nx; omega) (by have := ho.nx; omega) (by have := ho.ex; omega) ho.few.2 htx (by simp) h0 (by omega) (by simp) (fun b hb => ⟨by have := (hbl b hb).1; omega, by simp⟩) hW0).mono ?_
  rintro _ w2 ⟨rfl, hW2⟩
  obtain ⟨g2, hv2, hn2, hk2⟩ := hW2
  have hB2 : Below w.heap.size w w2 := hb0.trans (hk2.below (by simp) (Nat.le_refl _) (fun k e => by cases e))
  rw [List.nil_append] at hv2
  go_wp2_with fail
  refine (bytes_any w.heap.size g2 _ _ (by omega) hv2).mono ?_
  rintro _ w4 ⟨u, rfl, hu, hb4⟩
  have hB4 := hB2.trans (hb4.mono hB2.size)
  have hcs := conv_str (own_slice hu)
  go_wp2
  go_ret
  exact ⟨rfl, hB4⟩
end Go.Proofs.Ytnpofcnibgdjhaa
