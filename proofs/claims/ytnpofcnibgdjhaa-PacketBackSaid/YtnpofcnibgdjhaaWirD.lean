/- The writer of bytes: a whole number; a text; a vector. -/
import Derived.Test.YtnpofcnibgdjhaaWirC
import Derived.Test.YtnpofcnibgdjhaaTotP
namespace Go.Proofs.Ytnpofcnibgdjhaa
open Go.RowKit

theorem not_i64 (m : Nat) (hm : m < 9223372036854775808) : bits .xor .i64 (-1) (-(m : Int) - 1) = (m : Int) := by
  show IntKind.i64.wrap ((BitVec.ofInt 64 (-1) ^^^ BitVec.ofInt 64 (-(m : Int) - 1)).toNat : Int) = _
  have h1 : BitVec.ofInt 64 (-1) = BitVec.allOnes 64 := by decide
  have h2 : (BitVec.ofInt 64 (-(m : Int) - 1)).toNat = 18446744073709551615 - m := by
    rw [BitVec.toNat_ofInt]
    omega
  rw [h1, BitVec.allOnes_xor, BitVec.toNat_not, h2]
  have h3 : 2 ^ 64 - 1 - (18446744073709551615 - m) = m := by omega
  rw [h3]
  exact IntWalk.i64_in _ (by omega)
theorem or_one (m : Nat) (hm : m < 9223372036854775808) : bits .or .u64 ((m : Int) * 2) 1 = ((m * 2 + 1 : Nat) : Int) := by
  have h := Go.bits_or_u64_nat (m * 2) 1 (by omega) (by omega)
  have e : ((m * 2 : Nat) : Int) = (m : Int) * 2 := by omega
  rw [e] at h
  have h2 := Nat.two_pow_add_eq_or_of_lt (i := 1) (b := 1) (by decide) m
  have h3 : m * 2 ||| 1 = m * 2 + 1 := by
    rw [Nat.mul_comm m 2]
    exact h2.symm
  rw [h3] at h
  exact h
theorem add_block (a : Addr) (j : Nat) : (a.add j).block = a.block := by unfold Addr.add; split <;> rfl
/-- A whole number's number. -/
def zigN (n : Int) : Nat := if 0 ≤ n then (2 * n).toNat else (2 * (-n - 1) + 1).toNat
def intB (n : Int) : List Nat := numB (zigN n)

set_option maxRecDepth 100000 in
set_option maxHeartbeats 1600000 in
theorem text_any (p : Nat) (g : Option Nat) (bs ts : List Nat) (v : Value) (w : World) (hlen : bs.length ≤ 1000000) (htl : ts.length ≤ 1000000) (h : WrV w p g bs)
    (hv : (v = .slice none 0 0 ∧ ts.length = 0) ∨ ∃ ad c, v = .slice (some ad) ts.length c ∧ (0 < ts.length → ad.block < w.heap.size ∧ ad.block ≠ p ∧ some ad.block ≠ g) ∧ ∀ j u, (bcells ts)[j]? = some u → w.cell? (ad.add j) = some u) :
    Calls Try.prog 107 #[.pointer (some ⟨p, 0, none⟩), v] w fun e w' => e = .returned (.pointer (some ⟨p, 0, none⟩)) ∧ Wrote w w' p g (bs ++ numB ts.length ++ ts) := by
  obtain ⟨i0, hi, hz0, hz1, hz2⟩ := info_parts infoB
  have hvs : ∃ ad c, v = .slice ad ts.length c := by
    rcases hv with ⟨rfl, h0⟩ | ⟨ad, c, rfl, _⟩
    · exact ⟨none, 0, by rw [h0]⟩
    · exact ⟨_, c, rfl⟩
  obtain ⟨ad, c, rfl⟩ := hvs
  have hv2 := hidP hv
  clear hv
  go_enter Try.func107, Try.ntmps107
  go_wp2_with fail
  refine (num_any p g bs ts.length w (by omega) hlen h).mono ?_
  rintro _ w1 ⟨rfl, g1, ⟨v1, hl1, ho1, rfl⟩, hn1, hk1⟩
  have hc1 : w1.cell? ⟨p, 0, none⟩ = some v1 := by rw [look_cell hl1]; rfl
  have hnl := numB_len ts.length
  go_wp2_with (at_builtin; refine stop_here ?_)
  refine hidP ?_
  have hv3 := hv2.out
  refine append_at _ rfl _ _ 30 rfl 0 5 i0 (.int .u8 0) 1 1 Try.underlying30 hi hz0 hz1 hz2 rfl (by decide) _ _ _ rfl ho1 (.slice ad ts.length c) ts.length (bcells ts) rfl ?d1 ?d2 ?d3 ?d4 ?d5 (Nat.zero_le _) ?_
  case d1 => rw [bcells_len, Nat.mul_one]
  case d2 => exact bcells_ones _
  case d3 =>
    rcases hv3 with ⟨e, h0⟩ | ⟨a, c', e, hab, hcs⟩
    · exact .inl ⟨e, h0⟩
    · refine .inr ⟨a, c', e, fun j u hu => ?_⟩
      have hj := (List.getElem?_eq_some_iff.1 hu).1
      rw [bcells_len] at hj
      obtain ⟨h1, h2, h3⟩ := hab (by omega)
      rw [← hcs j u hu]
      exact World.cell?_of_block (by rw [add_block]; exact hk1.block _ h1 h2 h3)
  case d4 => rw [List.length_append]; unfold maxLen; omega
  case d5 => rw [List.length_append]; omega
  intro v2 w2 ho2 hg2 hat
  have hnot := own_not ho1 hl1 (by decide)
  have hv2 := own_one ho2
  have hl2 : look w2 p = some (.cells #[v1] 161 (0, 0)) := by rw [grown_look hg2 (look_lt hl1) hnot]; exact hl1
  go_wp2
  go_ret
  refine ⟨rfl, Wrote.trans hk1 hn1 ⟨v2.ownBlock, ⟨v2, by rw [look_set_same hl2]; rfl, ?_, rfl⟩, hat.imp id (fun e => ⟨_, e, Nat.le_refl _⟩), wrote_keeps (bel0 w1) hg2 _ _⟩⟩
  refine own_setCell_apart ?_ hl2 (by decide)
  rw [← bcells_append, ← List.length_append] at ho2
  exact ho2
end Go.Proofs.Ytnpofcnibgdjhaa
