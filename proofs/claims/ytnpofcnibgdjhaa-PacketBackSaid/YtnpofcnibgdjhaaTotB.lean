/- Contracts: the reference's kind; the sums. -/
import Derived.Test.YtnpofcnibgdjhaaTotA
import Derived.Test.YtnpofcnibgdjhaaTotQ
namespace Go.Proofs.Ytnpofcnibgdjhaa
open Go.RowKit Flt

def kindP (q m : Nat) : Nat := if q = 2047 then (if 0 < m then 0 else 1) else if q = 0 then (if m = 0 then 2 else 3) else 3
theorem kindP_eq (b : Nat) : kindP (rung b / 4503599627370496) (rung b % 4503599627370496) = kindF b := by
  have := rung_lt b
  unfold kindP kindF
  generalize rung b = r at *
  by_cases h1 : r / 4503599627370496 = 2047
  · rw [if_pos h1]
    by_cases h2 : 0 < r % 4503599627370496
    · rw [if_pos h2, if_pos (by omega)]
    · rw [if_neg h2, if_neg (by omega), if_pos (by omega)]
  · rw [if_neg h1]
    by_cases h2 : r / 4503599627370496 = 0
    · rw [if_pos h2]
      by_cases h3 : r % 4503599627370496 = 0
      · rw [if_pos h3, if_neg (by omega), if_neg (by omega), if_pos (by omega)]
      · rw [if_neg h3, if_neg (by omega), if_neg (by omega), if_neg (by omega)]
    · rw [if_neg h2, if_neg (by omega), if_neg (by omega), if_neg (by omega)]

/-- n floats lie in block b from off on. -/
def Floats (w : World) (b off n : Nat) (L : Nat → Nat) : Prop := b < w.heap.size ∧ ∀ k, k < n → w.cell? ⟨b, off + k, none⟩ = some (.float .f64 (L k)) ∧ L k < 18446744073709551616
theorem Floats.below {w W : World} {b off n : Nat} {L : Nat → Nat} (h : Floats w b off n L) (hb : Below w.heap.size w W) : Floats W b off n L :=
  ⟨Nat.lt_of_lt_of_le h.1 hb.size, fun k hk => ⟨by rw [hb.cell h.1]; exact (h.2 k hk).1, (h.2 k hk).2⟩⟩

end Go.Proofs.Ytnpofcnibgdjhaa
