/- Labels: their bytes. -/
import Derived.Test.YtniphfkipjpikaaLbC
namespace Go.Proofs.Ytniphfkipjpikaa
open Go.RowKit

theorem vecB_len (f : Nat → Nat) : (vecB f).length ≤ 130 := by
  have h1 := (numB_len (trimN f 12)).2
  have h2 := vbs_len f (trimN f 12)
  have h3 := trimN_le f 12
  unfold vecB
  rw [List.length_append]
  omega
theorem wrote_look {w u : World} {p : Nat} {g : Option Nat} {bs : List Nat} (h : Wrote w u p g bs) {k : Nat} {o : Obj} (hl : look w k = some o) (hp : k ≠ p) (hg : some k ≠ g) : look u k = some o := by
  obtain ⟨_, _, _, hk⟩ := h
  exact keeps_look hk hl hp hg
theorem wrote_drew {w : World} {p : Nat} {g : Option Nat} {bs : List Nat} (h : WrV w p g bs) : Wrote w w.drew p g bs :=
  ⟨g, wr_keeps h (belD (bel0 w)), .inl rfl, below_keeps (belD (bel0 w))⟩
/-- A label's bytes. -/
def encL (l : Lb) : List Nat := numB l.time ++ numB l.node.toNat ++ numB l.n ++ numB l.cart.toNat ++ numB l.seller.toNat ++ vecB l.deps
theorem encL_len (l : Lb) : (encL l).length ≤ 180 := by
  have h1 := (numB_len l.time).2
  have h2 := (numB_len l.node.toNat).2
  have h3 := (numB_len l.n).2
  have h4 := (numB_len l.cart.toNat).2
  have h5 := (numB_len l.seller.toNat).2
  have h6 := vecB_len l.deps
  unfold encL
  simp only [List.length_append]
  omega

set_option maxRecDepth 100000 in
set_option maxHeartbeats 3200000 in
theorem lput_any (p : Nat) (g : Option Nat) (bs : List Nat) (l : Lb) (w : World) (ht : l.time < 18446744073709551616) (hn : 0 ≤ l.node ∧ l.node < 9223372036854775808) (hk : l.n < 4294967296) (hc : 0 ≤ l.cart ∧ l.cart < 9223372036854775808) (hs : 0 ≤ l.seller ∧ l.seller < 9223372036854775808) (hd : ∀ k, l.deps k < 4294967296)
    (hlen : bs.length ≤ 800000) (h : WrV w p g bs) :
    Calls Try.prog 85 #[.pointer (some ⟨p, 0, none⟩), .agg (LA l)] w fun e w' => e = .returned (.tuple #[]) ∧ Wrote w w' p g (bs ++ encL l) := by
  have hpw : p < w.heap.size := by obtain ⟨_, hl, _⟩ := h; exact look_lt hl
  have hgw : ∀ k, g = some k → k < w.heap.size := fun k e => by
    obtain ⟨v, _, ho, rfl⟩ := h
    exact (ho.lt k e).2
  have hbA := belA (bel0 w) (.cells (LA l) 87)
  have hW0 : WrV (w.alloc (.cells (LA l) 87)) p g bs := wr_keeps h hbA
  have hlx : look (w.alloc (.cells (LA l) 87)) w.heap.size = some (.cells (LA l) 87 (0, 0)) := look_alloc_at _ _ _ rfl
  have hWd := wrote_drew hW0
  have hnp : w.heap.size ≠ p := by omega
  have hng : some w.heap.size ≠ g := fun e => by have := hgw _ e.symm; omega
  obtain ⟨nd, hnd⟩ : ∃ k : Nat, l.node = k := ⟨l.node.toNat, by omega⟩
  obtain ⟨ca, hca⟩ : ∃ k : Nat, l.cart = k := ⟨l.cart.toNat, by omega⟩
  obtain ⟨se, hse⟩ : ∃ k : Nat, l.seller = k := ⟨l.seller.toNat, by omega⟩
  have e1 : l.node.toNat = nd := by omega
  have e2 : l.cart.toNat = ca := by omega
  have e3 : l.seller.toNat = se := by omega
  have hfin : encL l = numB l.time ++ numB nd ++ numB l.n ++ numB ca ++ numB se ++ vecB l.deps := by unfold encL; rw [e1, e2, e3]
  rw [hnd] at hn
  rw [hca] at hc
  rw [hse] at hs
  have w1 : IntKind.u64.wrap (nd : Int) = (nd : Int) := IntWalk.u64_in _ (by omega)
  have w2 : IntKind.u64.wrap (l.n : Int) = (l.n : Int) := IntWalk.u64_in _ (by omega)
  have w3 : IntKind.u64.wrap (ca : Int) = (ca : Int) := IntWalk.u64_in _ (by omega)
  have w4 : IntKind.u64.wrap (se : Int) = (se : Int) := IntWalk.u64_in _ (by omega)
  have hfh := hidP hfin
  clear hfin e1 e2 e3
  go_enter Try.func85, Try.ntmps85
  go_wp2
  obtain ⟨stg, hstg⟩ : ∃ s : (Nat → Bool) → List Nat, Hid (s = fun L => if L 25 = true then bs ++ numB (l.time) ++ numB (nd) ++ numB (l.n) ++ numB (ca) ++ numB (se) ++ vecB (l.deps) else (if L 22 = true then bs ++ numB (l.time) ++ numB (nd) ++ numB (l.n) ++ numB (ca) ++ numB (se) else (if L 17 = true then bs ++ numB (l.time) ++ numB (nd) ++ numB (l.n) ++ numB (ca) else (if L 12 = true then bs ++ numB (l.time) ++ numB (nd) ++ numB (l.n) else (if L 8 = true then bs ++ numB (l.time) ++ numB (nd) else (if L 3 = true then bs ++ numB (l.time) else (bs))))))) := ⟨_, hidP rfl⟩
  have hset : Hid (∀ (L : Nat → Bool) (i : Nat), (∀ c ∈ [3, 8, 12, 17, 22, 25], c ≠ i) → stg (setL L i) = stg L) := by
    refine hidP ?_
    intro L i h
    have k3 : (3 = i) = False := eq_false (h 3 (by simp))
    have k8 : (8 = i) = False := eq_false (h 8 (by simp))
    have k12 : (12 = i) = False := eq_false (h 12 (by simp))
    have k17 : (17 = i) = False := eq_false (h 17 (by simp))
    have k22 : (22 = i) = False := eq_false (h 22 (by simp))
    have k25 : (25 = i) = False := eq_false (h 25 (by simp))
    simp only [hstg.out, setL, k3, k8, k12, k17, k22, k25, if_false]
  have hst0 : Hid (stg (fun _ => false) = bs) := hidP (by simp only [hstg.out, Bool.false_eq_true, if_false])
  refine wp_region_lst wmixed (fun L u => Wrote ((w.alloc (.cells (LA l) 87))) u (p) (g) (stg L)) (fun _ _ => False) (fun _ _ _ h => h.elim) (fun _ _ _ => True) (by rw [hst0.out]; exact hWd) 26
    ([] :: [] :: [5] :: [4, 6] :: [] :: [8] :: [9] :: [10] :: [7, 11] :: [] :: [13] :: [14] :: [12, 15] :: [] :: [17] :: [18] :: [19] :: [16, 20] :: [] :: [22] :: [23] :: [24] :: [21, 25] :: [] :: [27] :: [26, 28] :: [])
    (isV (.pointer (some ⟨p, 0, none⟩)) :: isV (.pointer (some ⟨w.heap.size, 0, none⟩)) :: isV (.int .u64 (l.time : Int)) :: isV (.pointer (some ⟨p, 0, none⟩)) :: isV (.pointer (some ⟨w.heap.size, 1, none⟩)) :: isV (.int .i64 (nd : Int)) :: isV (.int .i64 (nd : Int)) :: isV (.int .u64 (nd : Int)) :: isV (.pointer (some ⟨p, 0, none⟩)) :: isV (.pointer (some ⟨w.heap.size, 2, none⟩)) :: isV (.int .u32 (l.n : Int)) :: isV (.int .u64 (l.n : Int)) :: isV (.pointer (some ⟨p, 0, none⟩)) :: isV (.pointer (some ⟨w.heap.size, 3, none⟩)) :: isV (.int .i64 (ca : Int)) :: isV (.int .i64 (ca : Int)) :: isV (.int .u64 (ca : Int)) :: isV (.pointer (some ⟨p, 0, none⟩)) :: isV (.pointer (some ⟨w.heap.size, 4, none⟩)) :: isV (.int .i64 (se : Int)) :: isV (.int .i64 (se : Int)) :: isV (.int .u64 (se : Int)) :: isV (.pointer (some ⟨p, 0, none⟩)) :: isV (.pointer (some ⟨w.heap.size, 5, none⟩)) :: isV (.agg (VA l.deps)) :: isV (.pointer (some ⟨p, 0, none⟩)) :: [])
    (by decide) (by kernel_rfl) ?_ ⟨?_, ?_, ?_, ?_, ?_, ?_, ?_, ?_, ?_, ?_, ?_, ?_, ?_, ?_, ?_, ?_, ?_, ?_, ?_, ?_, ?_, ?_, ?_, ?_, ?_, ?_, trivial⟩ ?_
  · intro i j S hij hS v u u' hv hR
    match j, hS with
    | 0, e => cases e; exact hv
    | 1, e => cases e; exact hv
    | 2, e => cases e; exact hv
    | 3, e => cases e; exact hv
    | 4, e => cases e; exact hv
    | 5, e => cases e; exact hv
    | 6, e => cases e; exact hv
    | 7, e => cases e; exact hv
    | 8, e => cases e; exact hv
    | 9, e => cases e; exact hv
    | 10, e => cases e; exact hv
    | 11, e => cases e; exact hv
    | 12, e => cases e; exact hv
    | 13, e => cases e; exact hv
    | 14, e => cases e; exact hv
    | 15, e => cases e; exact hv
    | 16, e => cases e; exact hv
    | 17, e => cases e; exact hv
    | 18, e => cases e; exact hv
    | 19, e => cases e; exact hv
    | 20, e => cases e; exact hv
    | 21, e => cases e; exact hv
    | 22, e => cases e; exact hv
    | 23, e => cases e; exact hv
    | 24, e => cases e; exact hv
    | 25, e => cases e; exact hv
    | n + 26, e => simp at e
  · intro L vs u hL hw hcl hJ hm
    simp only [fill]
    go_wp2
    exact ⟨_, rfl, rfl, ⟨trivial, (by rw [hset.out L 0 (by decide)]; exact hJ), Nat.le_refl _⟩, trivial⟩
  · intro L vs u hL hw hcl hJ hm
    simp only [fill]
    go_wp2
    exact ⟨_, rfl, rfl, ⟨trivial, (by rw [hset.out L 1 (by decide)]; exact hJ), Nat.le_refl _⟩, trivial⟩
  · intro L vs u hL hw hcl hJ hm
    have h5 : vs 5 = .pointer (some ⟨w.heap.size, 0, none⟩) := meets_get hm 1 rfl rfl rfl rfl
    have hl := wrote_look hJ (hlx) (hnp) (hng)
    have hc : World.cell? u ⟨w.heap.size, 0, none⟩ = some (.int .u64 (l.time : Int)) := by rw [look_cell hl]; exact LA_get0 _
    simp only [fill, h5]
    go_wp2
    exact ⟨_, rfl, rfl, ⟨trivial, (by rw [hset.out L 2 (by decide)]; exact hJ), Nat.le_refl _⟩, trivial⟩
  · intro L vs u hL hw hcl hJ hm
    have h4 : vs 4 = .pointer (some ⟨p, 0, none⟩) := meets_get hm 0 rfl rfl rfl rfl
    have h6 : vs 6 = .int .u64 (l.time : Int) := meets_get hm 2 rfl rfl rfl rfl
    have L8 : L 8 = false := by
      cases e : L 8 with
      | false => rfl
      | true => exact absurd (hcl 8 _ e rfl 3 (by kernel_rfl)) (by rw [hL]; decide)
    have L12 : L 12 = false := by
      cases e : L 12 with
      | false => rfl
      | true => exact absurd (hcl 12 _ e rfl 8 (by kernel_rfl)) (by rw [L8]; decide)
    have L17 : L 17 = false := by
      cases e : L 17 with
      | false => rfl
      | true => exact absurd (hcl 17 _ e rfl 12 (by kernel_rfl)) (by rw [L12]; decide)
    have L22 : L 22 = false := by
      cases e : L 22 with
      | false => rfl
      | true => exact absurd (hcl 22 _ e rfl 17 (by kernel_rfl)) (by rw [L17]; decide)
    have L25 : L 25 = false := by
      cases e : L 25 with
      | false => rfl
      | true => exact absurd (hcl 25 _ e rfl 22 (by kernel_rfl)) (by rw [L22]; decide)
    have hst : stg L = bs := by simp only [hstg.out, hL, L8, L12, L17, L22, L25, Bool.false_eq_true, if_false, if_true]
    have hst2 : stg (setL L 3) = bs ++ numB (l.time) := by simp [hstg.out, setL, L8, L12, L17, L22, L25]
    rw [hst] at hJ
    obtain ⟨gq, hvq, hnq, hkq⟩ := hJ
    clear hm hw hcl hst
    simp only [fill, h4, h6]
    go_wp2_with fail
    refine (num_any p gq _ (l.time) _ (ht) (by have z0 := hlen;  (try simp only [List.length_append]); omega) hvq).mono ?_
    rintro e u' ⟨rfl, hWq⟩
    have hszq : u.heap.size ≤ u'.heap.size := by
      obtain ⟨_, _, _, hq⟩ := hWq
      exact hq.size
    go_wp2
    exact ⟨_, rfl, rfl, ⟨trivial, (by rw [hst2]; exact Wrote.trans hkq hnq hWq), hszq⟩, trivial⟩
  · intro L vs u hL hw hcl hJ hm
    simp only [fill]
    go_wp2
    exact ⟨_, rfl, rfl, ⟨trivial, (by rw [hset.out L 4 (by decide)]; exact hJ), Nat.le_refl _⟩, trivial⟩
  · intro L vs u hL hw hcl hJ hm
    have h8 : vs 8 = .pointer (some ⟨w.heap.size, 1, none⟩) := meets_get hm 4 rfl rfl rfl rfl
    have hl := wrote_look hJ (hlx) (hnp) (hng)
    have hc : World.cell? u ⟨w.heap.size, 1, none⟩ = some (.int .i64 l.node) := by rw [look_cell hl]; exact LA_get1 _
    simp only [fill, h8]
    go_wp2
    exact ⟨_, rfl, (by show (_ : Value) = _; first | rfl | exact congrArg _ hnd), ⟨trivial, (by rw [hset.out L 5 (by decide)]; exact hJ), Nat.le_refl _⟩, trivial⟩
  · intro L vs u hL hw hcl hJ hm
    have h9 : vs 9 = .int .i64 (nd : Int) := meets_get hm 5 rfl rfl rfl rfl
    simp only [fill, h9]
    go_wp2
    exact ⟨_, rfl, (by rfl), ⟨trivial, (by rw [hset.out L 6 (by decide)]; exact hJ), Nat.le_refl _⟩, trivial⟩
  · intro L vs u hL hw hcl hJ hm
    have h10 : vs 10 = .int .i64 (nd : Int) := meets_get hm 6 rfl rfl rfl rfl
    simp only [fill, h10]
    go_wp2
    exact ⟨_, rfl, rfl, ⟨trivial, (by rw [hset.out L 7 (by decide)]; exact hJ), Nat.le_refl _⟩, trivial⟩
  · intro L vs u hL hw hcl hJ hm
    have h7 : vs 7 = .pointer (some ⟨p, 0, none⟩) := meets_get hm 3 rfl rfl rfl rfl
    have h11 : vs 11 = .int .u64 (nd : Int) := meets_get hm 7 rfl rfl rfl rfl
    have L12 : L 12 = false := by
      cases e : L 12 with
      | false => rfl
      | true => exact absurd (hcl 12 _ e rfl 8 (by kernel_rfl)) (by rw [hL]; decide)
    have L17 : L 17 = false := by
      cases e : L 17 with
      | false => rfl
      | true => exact absurd (hcl 17 _ e rfl 12 (by kernel_rfl)) (by rw [L12]; decide)
    have L22 : L 22 = false := by
      cases e : L 22 with
      | false => rfl
      | true => exact absurd (hcl 22 _ e rfl 17 (by kernel_rfl)) (by rw [L17]; decide)
    have L25 : L 25 = false := by
      cases e : L 25 with
      | false => rfl
      | true => exact absurd (hcl 25 _ e rfl 22 (by kernel_rfl)) (by rw [L22]; decide)
    have P3 : L 3 = true := hw 3 (by kernel_rfl)
    have hst : stg L = bs ++ numB (l.time) := by simp only [hstg.out, hL, L12, L17, L22, L25, P3, Bool.false_eq_true, if_false, if_true]
    have hst2 : stg (setL L 8) = bs ++ numB (l.time) ++ numB (nd) := by simp [hstg.out, setL, L12, L17, L22, L25]
    rw [hst] at hJ
    obtain ⟨gq, hvq, hnq, hkq⟩ := hJ
    clear hm hw hcl hst
    simp only [fill, h7, h11]
    go_wp2_with fail
    refine (num_any p gq _ (nd) _ (by omega) (by have z0 := hlen; have z1 := (numB_len (l.time)).2; (try simp only [List.length_append]); omega) hvq).mono ?_
    rintro e u' ⟨rfl, hWq⟩
    have hszq : u.heap.size ≤ u'.heap.size := by
      obtain ⟨_, _, _, hq⟩ := hWq
      exact hq.size
    go_wp2
    exact ⟨_, rfl, rfl, ⟨trivial, (by rw [hst2]; exact Wrote.trans hkq hnq hWq), hszq⟩, trivial⟩
  · intro L vs u hL hw hcl hJ hm
    simp only [fill]
    go_wp2
    exact ⟨_, rfl, rfl, ⟨trivial, (by rw [hset.out L 9 (by decide)]; exact hJ), Nat.le_refl _⟩, trivial⟩
  · intro L vs u hL hw hcl hJ hm
    have h13 : vs 13 = .pointer (some ⟨w.heap.size, 2, none⟩) := meets_get hm 9 rfl rfl rfl rfl
    have hl := wrote_look hJ (hlx) (hnp) (hng)
    have hc : World.cell? u ⟨w.heap.size, 2, none⟩ = some (.int .u32 (l.n : Int)) := by rw [look_cell hl]; exact LA_get2 _
    simp only [fill, h13]
    go_wp2
    exact ⟨_, rfl, rfl, ⟨trivial, (by rw [hset.out L 10 (by decide)]; exact hJ), Nat.le_refl _⟩, trivial⟩
  · intro L vs u hL hw hcl hJ hm
    have h14 : vs 14 = .int .u32 (l.n : Int) := meets_get hm 10 rfl rfl rfl rfl
    simp only [fill, h14]
    go_wp2
    exact ⟨_, rfl, rfl, ⟨trivial, (by rw [hset.out L 11 (by decide)]; exact hJ), Nat.le_refl _⟩, trivial⟩
  · intro L vs u hL hw hcl hJ hm
    have h12 : vs 12 = .pointer (some ⟨p, 0, none⟩) := meets_get hm 8 rfl rfl rfl rfl
    have h15 : vs 15 = .int .u64 (l.n : Int) := meets_get hm 11 rfl rfl rfl rfl
    have L17 : L 17 = false := by
      cases e : L 17 with
      | false => rfl
      | true => exact absurd (hcl 17 _ e rfl 12 (by kernel_rfl)) (by rw [hL]; decide)
    have L22 : L 22 = false := by
      cases e : L 22 with
      | false => rfl
      | true => exact absurd (hcl 22 _ e rfl 17 (by kernel_rfl)) (by rw [L17]; decide)
    have L25 : L 25 = false := by
      cases e : L 25 with
      | false => rfl
      | true => exact absurd (hcl 25 _ e rfl 22 (by kernel_rfl)) (by rw [L22]; decide)
    have P8 : L 8 = true := hw 8 (by kernel_rfl)
    have hst : stg L = bs ++ numB (l.time) ++ numB (nd) := by simp only [hstg.out, hL, L17, L22, L25, P8, Bool.false_eq_true, if_false, if_true]
    have hst2 : stg (setL L 12) = bs ++ numB (l.time) ++ numB (nd) ++ numB (l.n) := by simp [hstg.out, setL, L17, L22, L25]
    rw [hst] at hJ
    obtain ⟨gq, hvq, hnq, hkq⟩ := hJ
    clear hm hw hcl hst
    simp only [fill, h12, h15]
    go_wp2_with fail
    refine (num_any p gq _ (l.n) _ (by omega) (by have z0 := hlen; have z1 := (numB_len (l.time)).2; have z2 := (numB_len (nd)).2; (try simp only [List.length_append]); omega) hvq).mono ?_
    rintro e u' ⟨rfl, hWq⟩
    have hszq : u.heap.size ≤ u'.heap.size := by
      obtain ⟨_, _, _, hq⟩ := hWq
      exact hq.size
    go_wp2
    exact ⟨_, rfl, rfl, ⟨trivial, (by rw [hst2]; exact Wrote.trans hkq hnq hWq), hszq⟩, trivial⟩
  · intro L vs u hL hw hcl hJ hm
    simp only [fill]
    go_wp2
    exact ⟨_, rfl, rfl, ⟨trivial, (by rw [hset.out L 13 (by decide)]; exact hJ), Nat.le_refl _⟩, trivial⟩
  · intro L vs u hL hw hcl hJ hm
    have h17 : vs 17 = .pointer (some ⟨w.heap.size, 3, none⟩) := meets_get hm 13 rfl rfl rfl rfl
    have hl := wrote_look hJ (hlx) (hnp) (hng)
    have hc : World.cell? u ⟨w.heap.size, 3, none⟩ = some (.int .i64 l.cart) := by rw [look_cell hl]; exact LA_get3 _
    simp only [fill, h17]
    go_wp2
    exact ⟨_, rfl, (by show (_ : Value) = _; first | rfl | exact congrArg _ hca), ⟨trivial, (by rw [hset.out L 14 (by decide)]; exact hJ), Nat.le_refl _⟩, trivial⟩
  · intro L vs u hL hw hcl hJ hm
    have h18 : vs 18 = .int .i64 (ca : Int) := meets_get hm 14 rfl rfl rfl rfl
    simp only [fill, h18]
    go_wp2
    exact ⟨_, rfl, rfl, ⟨trivial, (by rw [hset.out L 15 (by decide)]; exact hJ), Nat.le_refl _⟩, trivial⟩
  · intro L vs u hL hw hcl hJ hm
    have h19 : vs 19 = .int .i64 (ca : Int) := meets_get hm 15 rfl rfl rfl rfl
    simp only [fill, h19]
    go_wp2
    exact ⟨_, rfl, rfl, ⟨trivial, (by rw [hset.out L 16 (by decide)]; exact hJ), Nat.le_refl _⟩, trivial⟩
  · intro L vs u hL hw hcl hJ hm
    have h16 : vs 16 = .pointer (some ⟨p, 0, none⟩) := meets_get hm 12 rfl rfl rfl rfl
    have h20 : vs 20 = .int .u64 (ca : Int) := meets_get hm 16 rfl rfl rfl rfl
    have L22 : L 22 = false := by
      cases e : L 22 with
      | false => rfl
      | true => exact absurd (hcl 22 _ e rfl 17 (by kernel_rfl)) (by rw [hL]; decide)
    have L25 : L 25 = false := by
      cases e : L 25 with
      | false => rfl
      | true => exact absurd (hcl 25 _ e rfl 22 (by kernel_rfl)) (by rw [L22]; decide)
    have P12 : L 12 = true := hw 12 (by kernel_rfl)
    have hst : stg L = bs ++ numB (l.time) ++ numB (nd) ++ numB (l.n) := by simp only [hstg.out, hL, L22, L25, P12, Bool.false_eq_true, if_false, if_true]
    have hst2 : stg (setL L 17) = bs ++ numB (l.time) ++ numB (nd) ++ numB (l.n) ++ numB (ca) := by simp [hstg.out, setL, L22, L25]
    rw [hst] at hJ
    obtain ⟨gq, hvq, hnq, hkq⟩ := hJ
    clear hm hw hcl hst
    simp only [fill, h16, h20]
    go_wp2_with fail
    refine (num_any p gq _ (ca) _ (by omega) (by have z0 := hlen; have z1 := (numB_len (l.time)).2; have z2 := (numB_len (nd)).2; have z3 := (numB_len (l.n)).2; (try simp only [List.length_append]); omega) hvq).mono ?_
    rintro e u' ⟨rfl, hWq⟩
    have hszq : u.heap.size ≤ u'.heap.size := by
      obtain ⟨_, _, _, hq⟩ := hWq
      exact hq.size
    go_wp2
    exact ⟨_, rfl, rfl, ⟨trivial, (by rw [hst2]; exact Wrote.trans hkq hnq hWq), hszq⟩, trivial⟩
  · intro L vs u hL hw hcl hJ hm
    simp only [fill]
    go_wp2
    exact ⟨_, rfl, rfl, ⟨trivial, (by rw [hset.out L 18 (by decide)]; exact hJ), Nat.le_refl _⟩, trivial⟩
  · intro L vs u hL hw hcl hJ hm
    have h22 : vs 22 = .pointer (some ⟨w.heap.size, 4, none⟩) := meets_get hm 18 rfl rfl rfl rfl
    have hl := wrote_look hJ (hlx) (hnp) (hng)
    have hc : World.cell? u ⟨w.heap.size, 4, none⟩ = some (.int .i64 l.seller) := by rw [look_cell hl]; exact LA_get4 _
    simp only [fill, h22]
    go_wp2
    exact ⟨_, rfl, (by show (_ : Value) = _; first | rfl | exact congrArg _ hse), ⟨trivial, (by rw [hset.out L 19 (by decide)]; exact hJ), Nat.le_refl _⟩, trivial⟩
  · intro L vs u hL hw hcl hJ hm
    have h23 : vs 23 = .int .i64 (se : Int) := meets_get hm 19 rfl rfl rfl rfl
    simp only [fill, h23]
    go_wp2
    exact ⟨_, rfl, rfl, ⟨trivial, (by rw [hset.out L 20 (by decide)]; exact hJ), Nat.le_refl _⟩, trivial⟩
  · intro L vs u hL hw hcl hJ hm
    have h24 : vs 24 = .int .i64 (se : Int) := meets_get hm 20 rfl rfl rfl rfl
    simp only [fill, h24]
    go_wp2
    exact ⟨_, rfl, rfl, ⟨trivial, (by rw [hset.out L 21 (by decide)]; exact hJ), Nat.le_refl _⟩, trivial⟩
  · intro L vs u hL hw hcl hJ hm
    have h21 : vs 21 = .pointer (some ⟨p, 0, none⟩) := meets_get hm 17 rfl rfl rfl rfl
    have h25 : vs 25 = .int .u64 (se : Int) := meets_get hm 21 rfl rfl rfl rfl
    have L25 : L 25 = false := by
      cases e : L 25 with
      | false => rfl
      | true => exact absurd (hcl 25 _ e rfl 22 (by kernel_rfl)) (by rw [hL]; decide)
    have P17 : L 17 = true := hw 17 (by kernel_rfl)
    have hst : stg L = bs ++ numB (l.time) ++ numB (nd) ++ numB (l.n) ++ numB (ca) := by simp only [hstg.out, hL, L25, P17, Bool.false_eq_true, if_false, if_true]
    have hst2 : stg (setL L 22) = bs ++ numB (l.time) ++ numB (nd) ++ numB (l.n) ++ numB (ca) ++ numB (se) := by simp [hstg.out, setL, L25]
    rw [hst] at hJ
    obtain ⟨gq, hvq, hnq, hkq⟩ := hJ
    clear hm hw hcl hst
    simp only [fill, h21, h25]
    go_wp2_with fail
    refine (num_any p gq _ (se) _ (by omega) (by have z0 := hlen; have z1 := (numB_len (l.time)).2; have z2 := (numB_len (nd)).2; have z3 := (numB_len (l.n)).2; have z4 := (numB_len (ca)).2; (try simp only [List.length_append]); omega) hvq).mono ?_
    rintro e u' ⟨rfl, hWq⟩
    have hszq : u.heap.size ≤ u'.heap.size := by
      obtain ⟨_, _, _, hq⟩ := hWq
      exact hq.size
    go_wp2
    exact ⟨_, rfl, rfl, ⟨trivial, (by rw [hst2]; exact Wrote.trans hkq hnq hWq), hszq⟩, trivial⟩
  · intro L vs u hL hw hcl hJ hm
    simp only [fill]
    go_wp2
    exact ⟨_, rfl, rfl, ⟨trivial, (by rw [hset.out L 23 (by decide)]; exact hJ), Nat.le_refl _⟩, trivial⟩
  · intro L vs u hL hw hcl hJ hm
    have h27 : vs 27 = .pointer (some ⟨w.heap.size, 5, none⟩) := meets_get hm 23 rfl rfl rfl rfl
    have hl := wrote_look hJ (hlx) (hnp) (hng)
    simp only [fill, h27]
    go_wp2
    exact ⟨_, rfl, rfl, ⟨trivial, (by rw [hset.out L 24 (by decide)]; exact hJ), Nat.le_refl _⟩, trivial⟩
  · intro L vs u hL hw hcl hJ hm
    have h26 : vs 26 = .pointer (some ⟨p, 0, none⟩) := meets_get hm 22 rfl rfl rfl rfl
    have h28 : vs 28 = .agg (VA l.deps) := meets_get hm 24 rfl rfl rfl rfl
    have P22 : L 22 = true := hw 22 (by kernel_rfl)
    have hst : stg L = bs ++ numB (l.time) ++ numB (nd) ++ numB (l.n) ++ numB (ca) ++ numB (se) := by simp only [hstg.out, hL, P22, Bool.false_eq_true, if_false, if_true]
    have hst2 : stg (setL L 25) = bs ++ numB (l.time) ++ numB (nd) ++ numB (l.n) ++ numB (ca) ++ numB (se) ++ vecB (l.deps) := by simp [hstg.out, setL]
    rw [hst] at hJ
    obtain ⟨gq, hvq, hnq, hkq⟩ := hJ
    clear hm hw hcl hst
    simp only [fill, h26, h28]
    go_wp2_with fail
    refine (wvec_any p gq _ (l.deps) _ (hd) (by have z0 := hlen; have z1 := (numB_len (l.time)).2; have z2 := (numB_len (nd)).2; have z3 := (numB_len (l.n)).2; have z4 := (numB_len (ca)).2; have z5 := (numB_len (se)).2; (try simp only [List.length_append]); omega) hvq).mono ?_
    rintro e u' ⟨rfl, hWq⟩
    have hszq : u.heap.size ≤ u'.heap.size := by
      obtain ⟨_, _, _, hq⟩ := hWq
      exact hq.size
    go_wp2
    exact ⟨_, rfl, rfl, ⟨trivial, (by rw [hst2]; exact Wrote.trans hkq hnq hWq), hszq⟩, trivial⟩
  intro L hall vs ws hJ hsz hm hne hlo
  have h4 : vs 4 = .pointer (some ⟨p, 0, none⟩) := hm 0 _ _ _ rfl rfl rfl
  have h5 : vs 5 = .pointer (some ⟨w.heap.size, 0, none⟩) := hm 1 _ _ _ rfl rfl rfl
  have h6 : vs 6 = .int .u64 (l.time : Int) := hm 2 _ _ _ rfl rfl rfl
  have h7 : vs 7 = .pointer (some ⟨p, 0, none⟩) := hm 3 _ _ _ rfl rfl rfl
  have h8 : vs 8 = .pointer (some ⟨w.heap.size, 1, none⟩) := hm 4 _ _ _ rfl rfl rfl
  have h9 : vs 9 = .int .i64 (nd : Int) := hm 5 _ _ _ rfl rfl rfl
  have h10 : vs 10 = .int .i64 (nd : Int) := hm 6 _ _ _ rfl rfl rfl
  have h11 : vs 11 = .int .u64 (nd : Int) := hm 7 _ _ _ rfl rfl rfl
  have h12 : vs 12 = .pointer (some ⟨p, 0, none⟩) := hm 8 _ _ _ rfl rfl rfl
  have h13 : vs 13 = .pointer (some ⟨w.heap.size, 2, none⟩) := hm 9 _ _ _ rfl rfl rfl
  have h14 : vs 14 = .int .u32 (l.n : Int) := hm 10 _ _ _ rfl rfl rfl
  have h15 : vs 15 = .int .u64 (l.n : Int) := hm 11 _ _ _ rfl rfl rfl
  have h16 : vs 16 = .pointer (some ⟨p, 0, none⟩) := hm 12 _ _ _ rfl rfl rfl
  have h17 : vs 17 = .pointer (some ⟨w.heap.size, 3, none⟩) := hm 13 _ _ _ rfl rfl rfl
  have h18 : vs 18 = .int .i64 (ca : Int) := hm 14 _ _ _ rfl rfl rfl
  have h19 : vs 19 = .int .i64 (ca : Int) := hm 15 _ _ _ rfl rfl rfl
  have h20 : vs 20 = .int .u64 (ca : Int) := hm 16 _ _ _ rfl rfl rfl
  have h21 : vs 21 = .pointer (some ⟨p, 0, none⟩) := hm 17 _ _ _ rfl rfl rfl
  have h22 : vs 22 = .pointer (some ⟨w.heap.size, 4, none⟩) := hm 18 _ _ _ rfl rfl rfl
  have h23 : vs 23 = .int .i64 (se : Int) := hm 19 _ _ _ rfl rfl rfl
  have h24 : vs 24 = .int .i64 (se : Int) := hm 20 _ _ _ rfl rfl rfl
  have h25 : vs 25 = .int .u64 (se : Int) := hm 21 _ _ _ rfl rfl rfl
  have h26 : vs 26 = .pointer (some ⟨p, 0, none⟩) := hm 22 _ _ _ rfl rfl rfl
  have h27 : vs 27 = .pointer (some ⟨w.heap.size, 5, none⟩) := hm 23 _ _ _ rfl rfl rfl
  have h28 : vs 28 = .agg (VA l.deps) := hm 24 _ _ _ rfl rfl rfl
  have h29 : vs 29 = .pointer (some ⟨p, 0, none⟩) := hm 25 _ _ _ rfl rfl rfl
  have hst : stg L = bs ++ numB (l.time) ++ numB (nd) ++ numB (l.n) ++ numB (ca) ++ numB (se) ++ vecB (l.deps) := by simp only [hstg.out]; rw [if_pos (hall 25 (by decide))]
  rw [hst] at hJ
  clear hne hlo hm hall hst hsz hset hst0 hstg
  simp only [fill, List.filterMap, List.take, List.drop, List.setIfInBounds_toArray, List.set_cons_zero, List.set_cons_succ, h4, h5, h6, h7, h8, h9, h10, h11, h12, h13, h14, h15, h16, h17, h18, h19, h20, h21, h22, h23, h24, h25, h26, h27, h28, h29]
  clear h4 h5 h6 h7 h8 h9 h10 h11 h12 h13 h14 h15 h16 h17 h18 h19 h20 h21 h22 h23 h24 h25 h26 h27 h28 h29
  go_wp2
  go_end0
  exact ⟨rfl, by rw [hfh.out]; exact Wrote.trans (below_keeps hbA) (.inl rfl) (by simpa only [List.append_assoc] using hJ)⟩
end Go.Proofs.Ytniphfkipjpikaa
