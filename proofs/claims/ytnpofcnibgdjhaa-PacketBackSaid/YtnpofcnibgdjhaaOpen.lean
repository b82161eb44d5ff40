/- How the arguments of the clock's statements read. -/
import Derived.Test.YtnpofcnibgdjhaaFrame
import Derived.Test.YtnpofcnibgdjhaaVecP
namespace Go.Proofs.Ytnpofcnibgdjhaa
open Go.ChangeShapes Go.WideShapes Go.ChangeAt Go.RowKit

theorem agg_of_cells {v : Value} {cs : List Value} (h : v.cells.toList = cs) (hl : cs.length ≠ 1) : v = .agg cs.toArray := by
  cases v <;> first
    | (simp only [Value.cells] at h; subst h; rfl)
    | (exfalso; subst h; exact hl rfl)

section
variable {H : Type} {enc : TypeId × Value → H} {W : World} {sp : Nat → Bool} {base : Nat} {held : Bool}

set_option maxRecDepth 100000 in
theorem trod_int {t : TypeId} {k : IntKind} {b : Nat} (ht : Try.prog.underlying t = some (.int k)) {v : Value} {d : DataW H} {p : List MemPlace} (hval : Value.okWide Try.prog W .any b t v) (h : DataW.Trod enc Try.prog W base sp held t v d p) :
    ∃ n : Int, v = .int k n ∧ (Lit.int k n).wf = true := by
  obtain ⟨n, h1, _, _, h2⟩ := open_int ht hval h
  exact ⟨n, h1, h2⟩

theorem i64_cells : Try.prog.cellsOf 3 = 1 := by kernel_rfl

end
theorem laidOut : laidOutB Try.prog = true := by kernel_rfl
theorem own : ownKnob Try.prog.godebug = none := by kernel_rfl
end Go.Proofs.Ytnpofcnibgdjhaa
