/- The writer of bytes: slices.Reverse on bytes of one's own block. -/
import Derived.Test.YtnpofcnibgdjhaaSlf
import Derived.Test.YtnpofcnibgdjhaaMkA
import Derived.RegionTactic
import Derived.BigRegion
namespace Go.Proofs.Ytnpofcnibgdjhaa
open Go.RowKit

/-- n bytes, as cells. -/
def bytesA (D : Nat → Nat) (n : Nat) : Array Value := ((List.range n).map fun i => Value.int .u8 (D i : Int)).toArray
theorem bytesA_size (D : Nat → Nat) (n : Nat) : (bytesA D n).size = n := by simp [bytesA]
theorem bytesA_get (D : Nat → Nat) (n i : Nat) (h : i < n) : (bytesA D n)[i]? = some (.int .u8 (D i : Int)) := by simp [bytesA, h]
theorem bytesA_ext {D E : Nat → Nat} {n : Nat} (h : ∀ i, i < n → D i = E i) : bytesA D n = bytesA E n := by
  unfold bytesA
  congr 1
  refine List.map_congr_left fun i hi => ?_
  rw [h i (List.mem_range.1 hi)]
def updN (D : Nat → Nat) (i a : Nat) : Nat → Nat := fun j => if j = i then a else D j
theorem bytesA_set (D : Nat → Nat) (n i a : Nat) : (bytesA D n).setIfInBounds i (.int .u8 (a : Int)) = bytesA (updN D i a) n := by
  apply Array.ext_getElem?
  intro j
  by_cases hj : j < n
  · rw [bytesA_get _ _ _ hj, Array.getElem?_setIfInBounds]
    by_cases e : i = j
    · subst e
      simp [updN, bytesA_size, hj]
    · rw [if_neg e, bytesA_get _ _ _ hj]
      unfold updN
      rw [if_neg (fun h => e h.symm)]
  · rw [Array.getElem?_eq_none (by simp [bytesA_size]; omega), Array.getElem?_eq_none (by simp [bytesA_size]; omega)]
/-- The first n, turned round as far as i from both ends. -/
def turnD (D : Nat → Nat) (n i : Nat) : Nat → Nat := fun j => if j < n ∧ (j < i ∨ n - 1 - j < i) then D (n - 1 - j) else D j

/-- The first n cells are the bytes D. -/
def isBy (cur : Array Value) (n : Nat) (D : Nat → Nat) : Prop := ∀ j, j < n → cur[j]? = some (.int .u8 (D j : Int))
theorem turn_step {cur : Array Value} (D : Nat → Nat) {n k m : Nat} (h : k + m + 1 = n) (hlt : k < m) (hc : isBy cur n (turnD D n k)) : isBy ((cur.setIfInBounds k (.int .u8 (turnD D n k m : Int))).setIfInBounds m (.int .u8 (turnD D n k k : Int))) n (turnD D n (k + 1)) := by
  intro j hj
  have e1 : turnD D n k m = D m := by unfold turnD; rw [if_neg (by omega)]
  have e2 : turnD D n k k = D k := by unfold turnD; rw [if_neg (by omega)]
  have hsz : n ≤ cur.size := by
    have := (Array.getElem?_eq_some_iff.1 (hc (n - 1) (by omega))).1
    omega
  rw [e1, e2, Array.getElem?_setIfInBounds]
  by_cases h1 : m = j
  · subst h1
    rw [if_pos rfl, if_pos (by simp; omega)]
    unfold turnD
    rw [if_pos (by omega), show n - 1 - m = k by omega]
  · rw [if_neg h1, Array.getElem?_setIfInBounds]
    by_cases h2 : k = j
    · subst h2
      rw [if_pos rfl, if_pos (by omega)]
      unfold turnD
      rw [if_pos (by omega), show n - 1 - k = m by omega]
    · rw [if_neg h2, hc j hj]
      unfold turnD
      by_cases h3 : j < n ∧ (j < k ∨ n - 1 - j < k)
      · rw [if_pos h3, if_pos (by omega)]
      · rw [if_neg h3, if_neg (by omega)]
theorem turn_end {cur : Array Value} (D : Nat → Nat) {n k m : Nat} (h : k + m + 1 = n) (h1 : m ≤ k) (h2 : k ≤ m + 1) (hc : isBy cur n (turnD D n k)) : isBy cur n (fun j => D (n - 1 - j)) := by
  intro j hj
  rw [hc j hj]
  unfold turnD
  by_cases h4 : j < k ∨ n - 1 - j < k
  · rw [if_pos ⟨hj, h4⟩]
  · have e : n - 1 - j = j := by omega
    rw [if_neg (by omega)]
    show _ = some (Value.int .u8 ((D (n - 1 - j) : Nat) : Int))
    rw [e]
theorem grown_trans {w w' w'' : World} {row : Option Nat} (h : w.grownBy w' row) (h' : w'.grownBy w'' row) : w.grownBy w'' row :=
  ⟨h'.os.trans h.os, h'.tape.trans h.tape, h'.output.trans h.output, Nat.le_trans h.size h'.size, fun k hk hne => (h'.block k (Nat.lt_of_lt_of_le hk h.size) hne).trans (h.block k hk hne)⟩
theorem grown_setCell (w : World) (g i : Nat) (v : Value) : w.grownBy (w.setCell ⟨g, i, none⟩ v) (some g) :=
  ⟨rfl, rfl, rfl, by simp, fun k _ hne => look_set_other (a := ⟨g, i, none⟩) (fun e => hne (by rw [e])) v⟩
theorem grown_drew {w w' : World} {row : Option Nat} (h : w.grownBy w' row) : w.grownBy w'.drew row := ⟨h.os, h.tape, h.output, h.size, h.block⟩

set_option maxRecDepth 100000 in
set_option maxHeartbeats 1600000 in
theorem reverse_any (g n cap : Nat) (D : Nat → Nat) (cur : Array Value) (w : World) (h0 : 0 < n) (hb : n ≤ 9223372036854775807) (hl : look w g = some (.cells cur 5 (0, 0))) (hD : isBy cur n D) :
    Calls Try.prog 114 #[.slice (some ⟨g, 0, none⟩) n cap] w fun e w' => e = .returned (.tuple #[]) ∧ (∃ cur', look w' g = some (.cells cur' 5 (0, 0)) ∧ cur'.size = cur.size ∧ isBy cur' n (fun j => D (n - 1 - j))) ∧ w.grownBy w' (some g) := by
  go_enter Try.func114, Try.ntmps114
  go_wp2
  go_loopw [2, 3] (fun i j wr => ∃ (k m : Nat) (cr : Array Value), k + m + 1 = n ∧ k ≤ m + 1 ∧ i = .int .i64 k ∧ j = .int .i64 m ∧ look wr g = some (.cells cr 5 (0, 0)) ∧ cr.size = cur.size ∧ isBy cr n (turnD D n k) ∧ w.grownBy wr (some g)) (fun i _ _ => n - (intOf i).toNat)
  case atStart =>
    refine ⟨0, n - 1, cur, by omega, by omega, rfl, ?_, hl, rfl, ?_, grown_refl _ _⟩
    · congr 1; omega
    · intro j hj
      rw [hD j hj]
      unfold turnD
      rw [if_neg (by omega)]
  case round =>
    obtain ⟨k, m, cr, hkm, hk1, rfl, rfl, hlr, hcs, hby, hgr⟩ := hrel
    by_cases hlt : k < m
    · have hc1 : wr.cell? ⟨g, k, none⟩ = some (.int .u8 (turnD D n k k : Int)) := by rw [look_cell hlr]; exact hby _ (by omega)
      have hc2 : wr.cell? ⟨g, m, none⟩ = some (.int .u8 (turnD D n k m : Int)) := by rw [look_cell hlr]; exact hby _ (by omega)
      have hf1 := look_frozen hlr k
      have hf2 := look_frozen hlr m
      have hne : ¬ k = m := by omega
      have hst := hidP (turn_step D hkm hlt hby)
      clear hby
      obtain ⟨a, ha⟩ : ∃ a, turnD D n k k = a := ⟨_, rfl⟩
      obtain ⟨b, hbb⟩ : ∃ b, turnD D n k m = b := ⟨_, rfl⟩
      rw [ha] at hc1 hst
      rw [hbb] at hc2 hst
      clear ha hbb
      go_wp2
      go_region
      go_wp2
      go_roundw
      case rel =>
        refine ⟨k + 1, m - 1, _, by omega, by omega, by go_num, ?_, by rw [look_drew, look_set_same (look_set_same hlr _ _)], by simp [hcs], hst.out, grown_drew (grown_trans hgr (grown_trans (grown_setCell _ _ _ _) (grown_setCell _ _ _ _)))⟩
        have e : ((m - 1 : Nat) : Int) = (m : Int) - 1 := by omega
        rw [e]
      case measure => simp [intOf]; omega
    · go_wp2
      go_end0
      exact ⟨rfl, ⟨cr, hlr, hcs, turn_end D hkm (by omega) hk1 hby⟩, hgr⟩

/-- Bytes as cells. -/
def bcells (bs : List Nat) : List Value := bs.map fun (x : Nat) => Value.int .u8 (x : Int)
theorem bcells_len (bs : List Nat) : (bcells bs).length = bs.length := by simp [bcells]
theorem bcells_ones (bs : List Nat) : ∀ u ∈ bcells bs, u.oneCell' = true := by
  intro u hu
  obtain ⟨_, _, rfl⟩ := List.mem_map.1 hu
  rfl
theorem bcells_append (a b : List Nat) : bcells (a ++ b) = bcells a ++ bcells b := by simp [bcells]
/-- A slice of one's own, turned round. -/
theorem reverse_own (v : Value) (B : Nat) (ds : List Nat) (w : World) (h0 : ds ≠ []) (hlen : ds.length ≤ 1000) (ho : w.ownsRow B 5 1 v ds.length (bcells ds)) :
    Calls Try.prog 114 #[v] w fun e w' => e = .returned (.tuple #[]) ∧ w'.ownsRow B 5 1 v ds.length (bcells ds.reverse) ∧ w.grownBy w' v.ownBlock := by
  have hl0 : 0 < ds.length := List.length_pos_iff.2 h0
  rcases ho.2 with ⟨rfl, h⟩ | ⟨g, cap, cur, rfl, hb, hg, hn, hc, hs, ht⟩
  · omega
  · have hby : isBy cur ds.length (fun j => ds.getD j 0) := by
      intro j hj
      have h1 : (bcells ds)[j]? = some (.int .u8 ((ds.getD j 0 : Nat) : Int)) := by simp [bcells, hj]
      rw [← ht, List.getElem?_take, if_pos (by omega), Array.getElem?_toList] at h1
      exact h1
    refine (reverse_any g ds.length cap (fun j => ds.getD j 0) cur w hl0 (by omega) hg hby).mono ?_
    rintro e w' ⟨rfl, ⟨cur', hl', hsz, hby'⟩, hgr⟩
    refine ⟨rfl, ⟨by simp [bcells_len], .inr ⟨g, cap, cur', rfl, hb, hl', hn, hc, by rw [hsz, hs], ?_⟩⟩, hgr⟩
    apply List.ext_getElem?
    intro j
    by_cases hj : j < ds.length
    · rw [List.getElem?_take, if_pos (by omega), Array.getElem?_toList, hby' j hj]
      simp only [bcells, List.getElem?_map]
      rw [List.getElem?_reverse hj]
      have hj2 : ds.length - 1 - j < ds.length := by omega
      rw [List.getD_eq_getElem?_getD, List.getElem?_eq_getElem hj2]
      rfl
    · rw [List.getElem?_take, if_neg (by omega), List.getElem?_eq_none (by rw [bcells_len, List.length_reverse]; omega)]
end Go.Proofs.Ytnpofcnibgdjhaa
