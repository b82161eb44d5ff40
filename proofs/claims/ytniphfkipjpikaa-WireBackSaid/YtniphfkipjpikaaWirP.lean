/- The writer of bytes: a float; and what a nil writer does. -/
import Derived.Test.YtniphfkipjpikaaWirO
namespace Go.Proofs.Ytniphfkipjpikaa
open Go.RowKit

/-- The j-th byte of eight, the highest first. -/
def fByte (k j : Nat) : Nat := k / 256 ^ (7 - j) % 256
/-- The first m bytes of a number's eight, the highest first. -/
def fltTo (k m : Nat) : List Nat := (List.range m).map (fByte k)
theorem fltTo_succ (k m : Nat) : fltTo k (m + 1) = fltTo k m ++ [fByte k m] := by
  unfold fltTo
  rw [List.range_succ, List.map_append]
  rfl
theorem fltTo_len (k m : Nat) : (fltTo k m).length = m := by simp [fltTo]
/-- A float's bytes: those of its key. -/
def fltB (b : Nat) : List Nat := fltTo (Flt.keyF b) 8
theorem fltB_len (b : Nat) : (fltB b).length = 8 := fltTo_len _ _
theorem fltTo_byte (k m : Nat) : ∀ x ∈ fltTo k m, x < 256 := by
  intro x hx
  obtain ⟨j, _, rfl⟩ := List.mem_map.1 hx
  exact Nat.mod_lt _ (by decide)
theorem shr_byte (k i : Nat) : IntKind.u8.wrap ((k : Int) / 2 ^ (8 * i)) = ((k / 256 ^ i % 256 : Nat) : Int) := by
  have e : (2 : Int) ^ (8 * i) = ((256 ^ i : Nat) : Int) := by
    rw [Int.pow_mul]
    simp
  rw [e, IntKind.wrap_u8]
  omega

set_option maxRecDepth 100000 in
set_option maxHeartbeats 3200000 in
theorem wfloat_any (p : Nat) (g : Option Nat) (bs : List Nat) (b : Nat) (w : World) (hb : b < 18446744073709551616) (hlen : bs.length ≤ 1000000) (h : WrV w p g bs) :
    Calls Try.prog 43 #[.pointer (some ⟨p, 0, none⟩), .float .f64 b] w fun e w' => e = .returned (.pointer (some ⟨p, 0, none⟩)) ∧ Wrote w w' p g (bs ++ fltB b) := by
  obtain ⟨i0, hi, hz0, hz1, hz2⟩ := info_parts infoB
  go_enter Try.func43, Try.ntmps43
  go_wp2_with fail
  refine (total_key b hb w).mono ?_
  rintro _ _ ⟨rfl, rfl⟩
  have hfin := hidP (show fltB b = fltTo (Flt.keyF b) 8 from rfl)
  have hkl := Flt.keyF_lt hb
  generalize Flt.keyF b = k at hfin hkl ⊢
  go_wp2_with fail
  go_loopw [6] (fun x wr => ∃ m : Nat, m ≤ 8 ∧ x = .int .i64 (7 - (m : Int)) ∧ Wrote w wr p g (bs ++ fltTo k m)) (fun x _ => (intOf x + 1).toNat)
  case atStart => exact ⟨0, by omega, rfl, by simpa [fltTo] using Wrote.refl h⟩
  case round =>
    obtain ⟨m, hm, rfl, g1, ⟨v1, hl1, ho1, rfl⟩, hn1, hk1⟩ := hrel
    by_cases hlt : m < 8
    · have hd : decide ((0 : Int) ≤ 7 - (m : Int)) = true := decide_eq_true (by omega)
      obtain ⟨i, hi7⟩ : ∃ i : Nat, (7 : Int) - (m : Int) = i := ⟨7 - m, by omega⟩
      have hib : i = 7 - m := by omega
      have hsb := shr_byte k i
      have hfb : k / 256 ^ i % 256 = fByte k m := by rw [hib]; rfl
      rw [hfb] at hsb
      rw [hi7] at hd ⊢
      have hc1 : wr.cell? ⟨p, 0, none⟩ = some v1 := by rw [look_cell hl1]; rfl
      have hw8 : IntKind.i64.wrap (8 * (i : Int)) = 8 * (i : Int) := IntWalk.i64_in _ (by omega)
      have hle : ((8 : Int) * (i : Int)).toNat = 8 * i := by omega
      have hge : (0 : Int) ≤ 8 * (i : Int) := by omega
      have hfl := fltTo_len k m
      have hft := hidP (fltTo_succ k m)
      have hi7h := hidP hi7
      have hmn : min (8 * i) 64 = 8 * i := by omega
      obtain ⟨N, hN⟩ : ∃ N, Hid ((bs ++ fltTo k m).length = N) := ⟨_, hidP rfl⟩
      have hNb : N ≤ 1000008 := by have := hN.out; rw [List.length_append, hfl] at this; omega
      have ho1s := hidP ho1
      rw [hN.out] at ho1
      have hlth := hidP hlt
      clear hfb hlt hib hi7
      go_wp2_with fail
      have hg1 : ∀ q, v1.ownBlock = some q → q < wr.heap.size := fun q e => (ho1.lt q e).2
      have hpw := look_lt hl1
      refine wp_region_lst wmixed (fun L u => Hid (wr.grownBy u v1.ownBlock ∧ (L 11 = false → Below wr.heap.size wr u))) (fun _ _ => False) (fun _ _ _ h => h.elim) (fun i u u' => Hid ((i = 11 → u.grownBy u' v1.ownBlock) ∧ (i ≠ 11 → Below u.heap.size u u'))) (hidP ⟨grown_drew (grown_refl _ _), fun _ => (Below.refl _ _).drew⟩) 13
        ([] :: [] :: [16] :: [17] :: [18] :: [] :: [] :: [21] :: [20, 22] :: [23] :: [24] :: [19, 25] :: [15] :: [])
        (isV (.pointer (some ⟨p, 0, none⟩)) :: isV (.pointer (some ⟨p, 0, none⟩)) :: isV (.pointer (some ⟨p, 0, none⟩)) :: isV (.pointer (some ⟨p, 0, none⟩)) :: isV (v1) :: isV (.int .u64 (k : Int)) :: isV (.int .i64 (i : Int)) :: isV (.int .i64 (8 * (i : Int))) :: isV (.int .u64 ((k : Int) / 2 ^ (8 * i))) :: isV (.int .u8 ((fByte k m : Nat) : Int)) :: (fun v u => ∃ b, v = .slice (some ⟨b, 0, none⟩) 1 1 ∧ wr.heap.size ≤ b ∧ look u b = some (.cells #[.int .u8 ((fByte k m : Nat) : Int)] 5 (0, 0))) :: (fun v u => u.ownsRow 0 5 1 v (N + 1) (bcells (bs ++ fltTo k m) ++ [.int .u8 ((fByte k m : Nat) : Int)]) ∧ (v.ownBlock = v1.ownBlock ∨ ∃ q, v.ownBlock = some q ∧ wr.heap.size ≤ q)) :: isV (.pointer (some ⟨p, 0, none⟩)) :: [])
        (by decide) (by kernel_rfl) ?_ ⟨?_, ?_, ?_, ?_, ?_, ?_, ?_, ?_, ?_, ?_, ?_, ?_, ?_, trivial⟩ ?_
      · intro i j S hij hS v u u' hv hR
        match j, hS with
        | 0, e => cases e; exact hv
        | 1, e => cases e; exact hv
        | 2, e => cases e; exact hv
        | 3, e => cases e; exact hv
        | 4, e => cases e; exact hv
        | 5, e => cases e; exact hv
        | 6, e => cases e; exact hv
        | 7, e => cases e; exact hv
        | 8, e => cases e; exact hv
        | 9, e => cases e; exact hv
        | 10, e =>
          cases e
          obtain ⟨b, e1, e2, e3⟩ := hv
          refine ⟨b, e1, e2, ?_⟩
          by_cases hi : i = 11
          · rw [grown_look (hR.out.1 hi) (look_lt e3) (fun q e => by have := hg1 q e; omega)]; exact e3
          · rw [look_below (hR.out.2 hi) (look_lt e3)]; exact e3
        | 11, e =>
          cases e
          exact ⟨own_below hv.1 (hR.out.2 hij), hv.2⟩
        | 12, e => cases e; exact hv
        | n + 13, e => simp at e
      · intro L vs u hL hw hcl hJ hm
        clear hm hw hcl
        simp only [fill]
        go_wp2
        exact ⟨_, rfl, rfl, ⟨hidP ⟨fun e => absurd e (by decide), fun _ => Below.refl _ _⟩, hidP ⟨hJ.out.1, fun e => hJ.out.2 e⟩, Nat.le_refl _⟩, trivial⟩
      · intro L vs u hL hw hcl hJ hm
        clear hm hw hcl
        simp only [fill]
        go_wp2
        exact ⟨_, rfl, rfl, ⟨hidP ⟨fun e => absurd e (by decide), fun _ => Below.refl _ _⟩, hidP ⟨hJ.out.1, fun e => hJ.out.2 e⟩, Nat.le_refl _⟩, trivial⟩
      · intro L vs u hL hw hcl hJ hm
        have h16 : vs 16 = .pointer (some ⟨p, 0, none⟩) := meets_get hm 1 rfl rfl rfl rfl
        clear hm hw hcl
        simp only [fill, h16]
        go_wp2
        exact ⟨_, rfl, rfl, ⟨hidP ⟨fun e => absurd e (by decide), fun _ => Below.refl _ _⟩, hidP ⟨hJ.out.1, fun e => hJ.out.2 e⟩, Nat.le_refl _⟩, trivial⟩
      · intro L vs u hL hw hcl hJ hm
        have h17 : vs 17 = .pointer (some ⟨p, 0, none⟩) := meets_get hm 2 rfl rfl rfl rfl
        clear hm hw hcl
        simp only [fill, h17]
        go_wp2
        exact ⟨_, rfl, rfl, ⟨hidP ⟨fun e => absurd e (by decide), fun _ => Below.refl _ _⟩, hidP ⟨hJ.out.1, fun e => hJ.out.2 e⟩, Nat.le_refl _⟩, trivial⟩
      · intro L vs u hL hw hcl hJ hm
        have h18 : vs 18 = .pointer (some ⟨p, 0, none⟩) := meets_get hm 3 rfl rfl rfl rfl
        have L11 : L 11 = false := by
          cases e : L 11 with
          | false => rfl
          | true => exact absurd (hcl 11 _ e rfl 4 (by kernel_rfl)) (by rw [hL]; decide)
        have hBu := hJ.out.2 L11
        have hlu : look u p = some (.cells #[v1] 111 (0, 0)) := by rw [look_below hBu hpw]; exact hl1
        have hcu : World.cell? u ⟨p, 0, none⟩ = some v1 := by rw [look_cell hlu]; rfl
        clear hm hw hcl
        simp only [fill, h18]
        go_wp2
        exact ⟨_, rfl, rfl, ⟨hidP ⟨fun e => absurd e (by decide), fun _ => Below.refl _ _⟩, hidP ⟨hJ.out.1, fun e => hJ.out.2 e⟩, Nat.le_refl _⟩, trivial⟩
      · intro L vs u hL hw hcl hJ hm
        clear hm hw hcl
        simp only [fill]
        go_wp2
        exact ⟨_, rfl, rfl, ⟨hidP ⟨fun e => absurd e (by decide), fun _ => Below.refl _ _⟩, hidP ⟨hJ.out.1, fun e => hJ.out.2 e⟩, Nat.le_refl _⟩, trivial⟩
      · intro L vs u hL hw hcl hJ hm
        clear hm hw hcl
        simp only [fill]
        go_wp2
        exact ⟨_, rfl, rfl, ⟨hidP ⟨fun e => absurd e (by decide), fun _ => Below.refl _ _⟩, hidP ⟨hJ.out.1, fun e => hJ.out.2 e⟩, Nat.le_refl _⟩, trivial⟩
      · intro L vs u hL hw hcl hJ hm
        have h21 : vs 21 = .int .i64 (i : Int) := meets_get hm 6 rfl rfl rfl rfl
        clear hm hw hcl
        simp only [fill, h21]
        go_wp2
        exact ⟨_, rfl, rfl, ⟨hidP ⟨fun e => absurd e (by decide), fun _ => Below.refl _ _⟩, hidP ⟨hJ.out.1, fun e => hJ.out.2 e⟩, Nat.le_refl _⟩, trivial⟩
      · intro L vs u hL hw hcl hJ hm
        have h20 : vs 20 = .int .u64 (k : Int) := meets_get hm 5 rfl rfl rfl rfl
        have h22 : vs 22 = .int .i64 (8 * (i : Int)) := meets_get hm 7 rfl rfl rfl rfl
        clear hm hw hcl
        simp only [fill, h20, h22]
        go_wp2
        exact ⟨_, rfl, (by show (_ : Value) = _; first | rfl | simp [hle, hmn]), ⟨hidP ⟨fun e => absurd e (by decide), fun _ => Below.refl _ _⟩, hidP ⟨hJ.out.1, fun e => hJ.out.2 e⟩, Nat.le_refl _⟩, trivial⟩
      · intro L vs u hL hw hcl hJ hm
        have h23 : vs 23 = .int .u64 ((k : Int) / 2 ^ (8 * i)) := meets_get hm 8 rfl rfl rfl rfl
        clear hm hw hcl
        simp only [fill, h23]
        go_wp2
        exact ⟨_, rfl, rfl, ⟨hidP ⟨fun e => absurd e (by decide), fun _ => Below.refl _ _⟩, hidP ⟨hJ.out.1, fun e => hJ.out.2 e⟩, Nat.le_refl _⟩, trivial⟩
      · intro L vs u hL hw hcl hJ hm
        have h24 : vs 24 = .int .u8 ((fByte k m : Nat) : Int) := meets_get hm 9 rfl rfl rfl rfl
        have L11 : L 11 = false := by
          cases e : L 11 with
          | false => rfl
          | true => exact absurd (hcl 11 _ e rfl 10 (by kernel_rfl)) (by rw [hL]; decide)
        have hBu := hJ.out.2 L11
        clear hm hw hcl
        simp only [fill, h24]
        go_wp2
        exact ⟨_, rfl, ⟨_, rfl, hBu.size, look_alloc_at _ _ _ rfl⟩, ⟨hidP ⟨fun e => absurd e (by decide), fun _ => (Below.refl _ _).alloc (Nat.le_refl _) _⟩, hidP ⟨grown_trans hJ.out.1 (below_grown ((Below.refl _ _).alloc (Nat.le_refl _) _) _), fun _ => hBu.trans (((Below.refl _ _).alloc (Nat.le_refl _) _).mono hBu.size)⟩, by simp⟩, fun b hb => by cases hb; exact ⟨Nat.le_refl _, by simp⟩⟩
      · intro L vs u hL hw hcl hJ hm
        have h19 : vs 19 = v1 := meets_get hm 4 rfl rfl rfl rfl
        obtain ⟨b25, h25, hb25, l25⟩ := meets_get hm 10 rfl rfl rfl rfl
        have hBu := hJ.out.2 hL
        have hou := own_below ho1 hBu
        have hcel : ∀ j y, [Value.int .u8 ((fByte k m : Nat) : Int)][j]? = some y → u.cell? ((⟨b25, 0, none⟩ : Addr).add j) = some y := fun j y hy => by
          cases j with
          | zero =>
            rw [show ((⟨b25, 0, none⟩ : Addr).add 0) = ⟨b25, 0, none⟩ from by simp [Addr.add], look_cell l25]
            exact hy
          | succ j => simp at hy
        clear hm hw hcl
        simp only [fill, h19, h25]
        go_wp2_with (at_builtin; refine stop_here ?_)
        refine hidP ?_
        refine append_at _ rfl _ _ 55 rfl 0 5 i0 (.int .u8 0) 1 1 Try.underlying55 hi hz0 hz1 hz2 rfl (by decide) _ _ _ rfl hou _ 1 [.int .u8 ((fByte k m : Nat) : Int)] rfl ?d1 ?d2 ?d3 ?d4 ?d5 (Nat.zero_le _) ?_
        case d1 => rfl
        case d2 => exact one_one _ rfl
        case d3 => exact .inr ⟨⟨b25, 0, none⟩, 1, rfl, hcel⟩
        case d4 => unfold maxLen; omega
        case d5 => omega
        intro v2 w2 ho2 hg2 hat
        go_wp2
        exact ⟨_, rfl, ⟨ho2, hat.imp id (fun e => ⟨_, e, hBu.size⟩)⟩, ⟨hidP hg2, hidP ⟨grown_trans hJ.out.1 hg2, fun e => by simp [setL] at e⟩, hg2.size⟩, trivial⟩
      · intro L vs u hL hw hcl hJ hm
        have h15 : vs 15 = .pointer (some ⟨p, 0, none⟩) := meets_get hm 0 rfl rfl rfl rfl
        clear hm hw hcl
        simp only [fill, h15]
        go_wp2
        exact ⟨_, rfl, rfl, ⟨hidP ⟨fun e => absurd e (by decide), fun _ => Below.refl _ _⟩, hidP ⟨hJ.out.1, fun e => hJ.out.2 e⟩, Nat.le_refl _⟩, trivial⟩
      intro L hall vs ws hJ hsz hm hne hlo
      have h15 : vs 15 = .pointer (some ⟨p, 0, none⟩) := hm 0 _ _ _ rfl rfl rfl
      have h16 : vs 16 = .pointer (some ⟨p, 0, none⟩) := hm 1 _ _ _ rfl rfl rfl
      have h17 : vs 17 = .pointer (some ⟨p, 0, none⟩) := hm 2 _ _ _ rfl rfl rfl
      have h18 : vs 18 = .pointer (some ⟨p, 0, none⟩) := hm 3 _ _ _ rfl rfl rfl
      have h19 : vs 19 = v1 := hm 4 _ _ _ rfl rfl rfl
      have h20 : vs 20 = .int .u64 (k : Int) := hm 5 _ _ _ rfl rfl rfl
      have h21 : vs 21 = .int .i64 (i : Int) := hm 6 _ _ _ rfl rfl rfl
      have h22 : vs 22 = .int .i64 (8 * (i : Int)) := hm 7 _ _ _ rfl rfl rfl
      have h23 : vs 23 = .int .u64 ((k : Int) / 2 ^ (8 * i)) := hm 8 _ _ _ rfl rfl rfl
      have h24 : vs 24 = .int .u8 ((fByte k m : Nat) : Int) := hm 9 _ _ _ rfl rfl rfl
      obtain ⟨b25, h25, hb25, l25⟩ := hm 10 _ _ _ rfl rfl rfl
      obtain ⟨ho2, hat⟩ := hm 11 _ _ _ rfl rfl rfl
      have h27 : vs 27 = .pointer (some ⟨p, 0, none⟩) := hm 12 _ _ _ rfl rfl rfl
      obtain ⟨v2, h26⟩ : ∃ v2, vs 26 = v2 := ⟨_, rfl⟩
      rw [h26] at ho2 hat
      obtain ⟨hg2, _⟩ := hJ.out
      clear hne hlo hm hall hsz
      simp only [fill, List.filterMap, List.take, List.drop, List.setIfInBounds_toArray, List.set_cons_zero, List.set_cons_succ, h15, h16, h17, h18, h19, h20, h21, h22, h23, h24, h25, h26, h27]
      clear h15 h16 h17 h18 h19 h20 h21 h22 h23 h24 h25 h26 h27
      have hnot := own_not ho1 hl1 (by decide)
      have hv2 := own_one ho2
      have hl2 : look ws p = some (.cells #[v1] 111 (0, 0)) := by rw [grown_look hg2 hpw hnot]; exact hl1
      have hfinW : WrV (ws.setCell ⟨p, 0, none⟩ v2) p v2.ownBlock (bs ++ fltTo k (m + 1)) := by
        refine ⟨v2, by rw [look_set_same hl2]; rfl, ?_, rfl⟩
        refine own_setCell_apart ?_ hl2 (by decide)
        rw [hft.out, ← List.append_assoc, List.length_append, bcells_append, hN.out]
        exact ho2
      have hfin2 : Wrote w (ws.setCell ⟨p, 0, none⟩ v2) p g (bs ++ fltTo k (m + 1)) := Wrote.trans hk1 hn1 ⟨v2.ownBlock, hfinW, hat, wrote_keeps (Below.refl _ _) hg2 _ _⟩
      clear hfinW ho2 hat l25
      have e7 : Hid ((i : Int) - 1 = 7 - ((m + 1 : Nat) : Int)) := hidP (by have := hi7h.out; omega)
      go_wp2
      go_roundw
      case rel => exact ⟨m + 1, by have := hlth.out; omega, by rw [← e7.out], hfin2⟩
      case measure => simp [intOf]
    · obtain rfl : m = 8 := by omega
      go_wp2
      go_ret
      exact ⟨rfl, by rw [hfin.out]; exact ⟨_, ⟨v1, hl1, ho1, rfl⟩, hn1, hk1⟩⟩
end Go.Proofs.Ytniphfkipjpikaa
