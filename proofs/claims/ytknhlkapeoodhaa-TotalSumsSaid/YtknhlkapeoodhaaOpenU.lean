/- How a slice of uint64 among a statement's arguments reads. -/
import Derived.Test.YtknhlkapeoodhaaOpenS
import Derived.Test.YtknhlkapeoodhaaLawTotC
namespace Go.Proofs.Ytknhlkapeoodhaa
open Go.ChangeShapes Go.WideShapes Go.ChangeAt Go.RowKit

section
variable {H : Type} {enc : TypeId × Value → H} {W : World} {sp : Nat → Bool} {base : Nat} {held : Bool}
theorem u64_cells : Try.prog.cellsOf 40 = 1 := by kernel_rfl
theorem cells_u64 {fuel : Nat} {cs : List Value} {x : DataW H × List MemPlace} (hl : cs.length = 1) (hf : DataW.trod enc Try.prog W base sp held fuel 40 cs = some x) :
    ∃ n : Nat, cs = [.int .u64 (n : Int)] ∧ n < 18446744073709551616 := by
  obtain ⟨n, hn, _, hw⟩ := DataW.trod_int Try.underlying40 hf
  have h5 := Go.bounds_u64 hw
  exact ⟨n.toNat, by rw [hn]; congr 2; omega, by omega⟩
theorem trod_u64s {v : Value} {d : DataW H} {p : List MemPlace} {b0 : Nat} (hval : Value.okWide Try.prog W .any b0 61 v) (h : DataW.Trod enc Try.prog W base sp held 61 v d p) :
    ∃ (ad : Option Addr) (n cap : Nat) (L : Nat → Nat), v = .slice ad n cap ∧ n ≤ 9223372036854775807 ∧ (n = 0 ∨ ∃ b off, ad = some ⟨b, off, none⟩ ∧ U64s W b off n L) := by
  rcases trod_slice_any Try.underlying61 u64_cells (by decide) hval h with ⟨ad, cap, rfl⟩ | ⟨b, off, n, cap, rfl, h0, hm, hb, hall⟩
  · exact ⟨ad, 0, cap, fun _ => 0, rfl, by omega, .inl rfl⟩
  · have hone : ∀ k, k < n → ∃ m : Nat, W.cell? ⟨b, off + k, none⟩ = some (.int .u64 (m : Int)) ∧ m < 18446744073709551616 := by
      intro k hk
      obtain ⟨cs, fuel, x, hl, ht, hc⟩ := hall k hk
      obtain ⟨m, rfl, hm⟩ := cells_u64 hl ht
      have := hc 0 _ rfl
      rw [Nat.mul_one, Nat.add_zero] at this
      exact ⟨m, this, hm⟩
    refine ⟨_, n, cap, fun k => if hk : k < n then (hone k hk).choose else 0, rfl, hm, .inr ⟨b, off, rfl, hb, fun k hk => ?_⟩⟩
    simp only [dif_pos hk]
    exact (hone k hk).choose_spec
end
end Go.Proofs.Ytknhlkapeoodhaa
