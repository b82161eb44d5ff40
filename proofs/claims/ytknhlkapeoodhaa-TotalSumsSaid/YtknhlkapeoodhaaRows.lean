/-
  No cell of these rows narrows 'for every input' (looked for: loops, veiled, ifaces, maps, wideKeys, modest, calm, conditions, laid).
  DERIVED. THE GIVEN ROWS OF THIS SEAT. 10 by the template 'for every input the law returns true; each argument reads behind the call as it read before'; 0 by the template 'total and deterministic' (their statements: YtknhlkapeoodhaaTotals.lean).
  GIVEN WITH THE SEED: the statements are not yours to turn. If you find one false, say at which input.
  Laid BY PROGRAM, IN A SANDBOX (cutbox-rows.mjs): the forced cells as the released guide's own fill.sh prints them over the translation 2402943012aa4359… (all of the seat's roots in one cut). By AI agents, Wed Nov 11 2026. No macro, syntax, notation, axiom, sorry.
-/
import Derived.Test.YtknhlkapeoodhaaChecked
import GoSem.Claim
import GoSem.ClaimJoined
import GoSem.ClaimMapViews
import Derived.JoinedTies
import Derived.KernelRfl
namespace Go.Proofs.Ytknhlkapeoodhaa
/- THE CELL 'sum', in the pinned program and in every row, IS THE sha256 OF THE DUMP (.gsa) THAT YtknhlkapeoodhaaProg.lean LOADS. Nothing in Lean hashes anything: it is a label: what it is worth is what the hold of that sum in a sandbox is worth. -/
noncomputable def Try.pinned : Pinned := { name := "ytknhlkapeoodhaa", sum := "2402943012aa435956f7aa66069a729a51d56944a95f780be7f67992d551d343", checked := Try.checked }
namespace Rows
def none {H : Type} : Left H := { results := [], args := [] }

/-- 'truglaw04.ClockJoins': WHATEVER THE INPUT: true; the input reads as it did. -/
def clockJoinsSpec : ChangeSpec := { name := "clockJoins", fn := fun _ => fun
  | [d] => { results := [.lit (.bool true)], args := [d] }
  | _ => none }
def clockJoinsRow : OpenClaim := { program := "ytknhlkapeoodhaa", sum := "2402943012aa435956f7aa66069a729a51d56944a95f780be7f67992d551d343", func := "trug/truglaw04.ClockJoins", spec := "clockJoins", apart := false }
def ClockJoinsSaid : Prop := clockJoinsRow.holds Try.pinned (OpenSpec.ofChange clockJoinsSpec)

/-- ITS FALSE NEIGHBOUR: 'it returns false'. Refute it at one input. -/
def clockJoinsWrong : ChangeSpec := { name := "clockJoins", fn := fun _ => fun
  | [d] => { results := [.lit (.bool false)], args := [d] }
  | _ => none }
def ClockJoinsWrongFalsely : Prop := clockJoinsRow.holds Try.pinned (OpenSpec.ofChange clockJoinsWrong)

/-- 'truglaw04.ClockLattice': WHATEVER THE INPUT: true; the input reads as it did. -/
def clockLatticeSpec : ChangeSpec := { name := "clockLattice", fn := fun _ => fun
  | [d1, d2, d3] => { results := [.lit (.bool true)], args := [d1, d2, d3] }
  | _ => none }
def clockLatticeRow : OpenClaim := { program := "ytknhlkapeoodhaa", sum := "2402943012aa435956f7aa66069a729a51d56944a95f780be7f67992d551d343", func := "trug/truglaw04.ClockLattice", spec := "clockLattice", apart := false }
def ClockLatticeSaid : Prop := clockLatticeRow.holds Try.pinned (OpenSpec.ofChange clockLatticeSpec)

/-- ITS FALSE NEIGHBOUR: 'it returns false'. Refute it at one input. -/
def clockLatticeWrong : ChangeSpec := { name := "clockLattice", fn := fun _ => fun
  | [d1, d2, d3] => { results := [.lit (.bool false)], args := [d1, d2, d3] }
  | _ => none }
def ClockLatticeWrongFalsely : Prop := clockLatticeRow.holds Try.pinned (OpenSpec.ofChange clockLatticeWrong)

/-- 'truglaw04.ClockDots': WHATEVER THE INPUT: true; the input reads as it did. -/
def clockDotsSpec : ChangeSpec := { name := "clockDots", fn := fun _ => fun
  | [d1, d2, d3] => { results := [.lit (.bool true)], args := [d1, d2, d3] }
  | _ => none }
def clockDotsRow : OpenClaim := { program := "ytknhlkapeoodhaa", sum := "2402943012aa435956f7aa66069a729a51d56944a95f780be7f67992d551d343", func := "trug/truglaw04.ClockDots", spec := "clockDots", apart := false }
def ClockDotsSaid : Prop := clockDotsRow.holds Try.pinned (OpenSpec.ofChange clockDotsSpec)

/-- ITS FALSE NEIGHBOUR: 'it returns false'. Refute it at one input. -/
def clockDotsWrong : ChangeSpec := { name := "clockDots", fn := fun _ => fun
  | [d1, d2, d3] => { results := [.lit (.bool false)], args := [d1, d2, d3] }
  | _ => none }
def ClockDotsWrongFalsely : Prop := clockDotsRow.holds Try.pinned (OpenSpec.ofChange clockDotsWrong)

/-- 'truglaw04.ClockChain': WHATEVER THE INPUT: true; the input reads as it did. -/
def clockChainSpec : ChangeSpec := { name := "clockChain", fn := fun _ => fun
  | [d1, d2, d3] => { results := [.lit (.bool true)], args := [d1, d2, d3] }
  | _ => none }
def clockChainRow : OpenClaim := { program := "ytknhlkapeoodhaa", sum := "2402943012aa435956f7aa66069a729a51d56944a95f780be7f67992d551d343", func := "trug/truglaw04.ClockChain", spec := "clockChain", apart := false }
def ClockChainSaid : Prop := clockChainRow.holds Try.pinned (OpenSpec.ofChange clockChainSpec)

/-- ITS FALSE NEIGHBOUR: 'it returns false'. Refute it at one input. -/
def clockChainWrong : ChangeSpec := { name := "clockChain", fn := fun _ => fun
  | [d1, d2, d3] => { results := [.lit (.bool false)], args := [d1, d2, d3] }
  | _ => none }
def ClockChainWrongFalsely : Prop := clockChainRow.holds Try.pinned (OpenSpec.ofChange clockChainWrong)

/-- 'truglaw04.ClockTells': WHATEVER THE INPUT: true; the input reads as it did. -/
def clockTellsSpec : ChangeSpec := { name := "clockTells", fn := fun _ => fun
  | [d1, d2, d3, d4] => { results := [.lit (.bool true)], args := [d1, d2, d3, d4] }
  | _ => none }
def clockTellsRow : OpenClaim := { program := "ytknhlkapeoodhaa", sum := "2402943012aa435956f7aa66069a729a51d56944a95f780be7f67992d551d343", func := "trug/truglaw04.ClockTells", spec := "clockTells", apart := false }
def ClockTellsSaid : Prop := clockTellsRow.holds Try.pinned (OpenSpec.ofChange clockTellsSpec)

/-- ITS FALSE NEIGHBOUR: 'it returns false'. Refute it at one input. -/
def clockTellsWrong : ChangeSpec := { name := "clockTells", fn := fun _ => fun
  | [d1, d2, d3, d4] => { results := [.lit (.bool false)], args := [d1, d2, d3, d4] }
  | _ => none }
def ClockTellsWrongFalsely : Prop := clockTellsRow.holds Try.pinned (OpenSpec.ofChange clockTellsWrong)

/-- 'truglaw02.TotalTells': WHATEVER THE INPUT: true; the input reads as it did. -/
def totalTellsSpec : ChangeSpec := { name := "totalTells", fn := fun _ => fun
  | [d1, d2, d3] => { results := [.lit (.bool true)], args := [d1, d2, d3] }
  | _ => none }
def totalTellsRow : OpenClaim := { program := "ytknhlkapeoodhaa", sum := "2402943012aa435956f7aa66069a729a51d56944a95f780be7f67992d551d343", func := "trug/truglaw02.TotalTells", spec := "totalTells", inPlace := ["math.Float64frombits", "math.Float64bits"], unfollowed := true, recurses := true, apart := false }
def TotalTellsSaid : Prop := totalTellsRow.holds Try.pinned (OpenSpec.ofChange totalTellsSpec)

/-- ITS FALSE NEIGHBOUR: 'it returns false'. Refute it at one input. -/
def totalTellsWrong : ChangeSpec := { name := "totalTells", fn := fun _ => fun
  | [d1, d2, d3] => { results := [.lit (.bool false)], args := [d1, d2, d3] }
  | _ => none }
def TotalTellsWrongFalsely : Prop := totalTellsRow.holds Try.pinned (OpenSpec.ofChange totalTellsWrong)

/-- 'truglaw02.TotalSums': WHATEVER THE INPUT: true; the input reads as it did. -/
def totalSumsSpec : ChangeSpec := { name := "totalSums", fn := fun _ => fun
  | [d] => { results := [.lit (.bool true)], args := [d] }
  | _ => none }
def totalSumsRow : OpenClaim := { program := "ytknhlkapeoodhaa", sum := "2402943012aa435956f7aa66069a729a51d56944a95f780be7f67992d551d343", func := "trug/truglaw02.TotalSums", spec := "totalSums", inPlace := ["math.Float64frombits", "math.Float64bits"], unfollowed := true, recurses := true, apart := false }
def TotalSumsSaid : Prop := totalSumsRow.holds Try.pinned (OpenSpec.ofChange totalSumsSpec)

/-- ITS FALSE NEIGHBOUR: 'it returns false'. Refute it at one input. -/
def totalSumsWrong : ChangeSpec := { name := "totalSums", fn := fun _ => fun
  | [d] => { results := [.lit (.bool false)], args := [d] }
  | _ => none }
def TotalSumsWrongFalsely : Prop := totalSumsRow.holds Try.pinned (OpenSpec.ofChange totalSumsWrong)

/-- 'truglaw02.TotalOrder': WHATEVER THE INPUT: true; the input reads as it did. -/
def totalOrderSpec : ChangeSpec := { name := "totalOrder", fn := fun _ => fun
  | [d1, d2, d3] => { results := [.lit (.bool true)], args := [d1, d2, d3] }
  | _ => none }
def totalOrderRow : OpenClaim := { program := "ytknhlkapeoodhaa", sum := "2402943012aa435956f7aa66069a729a51d56944a95f780be7f67992d551d343", func := "trug/truglaw02.TotalOrder", spec := "totalOrder", inPlace := ["math.Float64frombits", "math.Float64bits"], unfollowed := true, recurses := true, apart := false }
def TotalOrderSaid : Prop := totalOrderRow.holds Try.pinned (OpenSpec.ofChange totalOrderSpec)

/-- ITS FALSE NEIGHBOUR: 'it returns false'. Refute it at one input. -/
def totalOrderWrong : ChangeSpec := { name := "totalOrder", fn := fun _ => fun
  | [d1, d2, d3] => { results := [.lit (.bool false)], args := [d1, d2, d3] }
  | _ => none }
def TotalOrderWrongFalsely : Prop := totalOrderRow.holds Try.pinned (OpenSpec.ofChange totalOrderWrong)

/-- 'truglaw02.TotalJoins': WHATEVER THE INPUT: true; the input reads as it did. -/
def totalJoinsSpec : ChangeSpec := { name := "totalJoins", fn := fun _ => fun
  | [d1, d2, d3] => { results := [.lit (.bool true)], args := [d1, d2, d3] }
  | _ => none }
def totalJoinsRow : OpenClaim := { program := "ytknhlkapeoodhaa", sum := "2402943012aa435956f7aa66069a729a51d56944a95f780be7f67992d551d343", func := "trug/truglaw02.TotalJoins", spec := "totalJoins", inPlace := ["math.Float64frombits", "math.Float64bits"], unfollowed := true, recurses := true, apart := false }
def TotalJoinsSaid : Prop := totalJoinsRow.holds Try.pinned (OpenSpec.ofChange totalJoinsSpec)

/-- ITS FALSE NEIGHBOUR: 'it returns false'. Refute it at one input. -/
def totalJoinsWrong : ChangeSpec := { name := "totalJoins", fn := fun _ => fun
  | [d1, d2, d3] => { results := [.lit (.bool false)], args := [d1, d2, d3] }
  | _ => none }
def TotalJoinsWrongFalsely : Prop := totalJoinsRow.holds Try.pinned (OpenSpec.ofChange totalJoinsWrong)

/-- 'truglaw02.TotalOne': WHATEVER THE INPUT: true; the input reads as it did. -/
def totalOneSpec : ChangeSpec := { name := "totalOne", fn := fun _ => fun
  | [d1, d2] => { results := [.lit (.bool true)], args := [d1, d2] }
  | _ => none }
def totalOneRow : OpenClaim := { program := "ytknhlkapeoodhaa", sum := "2402943012aa435956f7aa66069a729a51d56944a95f780be7f67992d551d343", func := "trug/truglaw02.TotalOne", spec := "totalOne", inPlace := ["math.Float64frombits", "math.Float64bits"], unfollowed := true, recurses := true, apart := false }
def TotalOneSaid : Prop := totalOneRow.holds Try.pinned (OpenSpec.ofChange totalOneSpec)

/-- ITS FALSE NEIGHBOUR: 'it returns false'. Refute it at one input. -/
def totalOneWrong : ChangeSpec := { name := "totalOne", fn := fun _ => fun
  | [d1, d2] => { results := [.lit (.bool false)], args := [d1, d2] }
  | _ => none }
def TotalOneWrongFalsely : Prop := totalOneRow.holds Try.pinned (OpenSpec.ofChange totalOneWrong)

/- THE SECOND FORM. 'bulk': how many values and letters a reading holds, each counted each time it is reached (what is shared counts as often as it is met; a slice's spare places count too). A statement '..UptoSaid' is the law's where the arguments, and the package variables that the reading takes, are together of bulk at most 1048576: NARROWER than '..Said'. Prove '..Said' where nothing that the law and all that it calls make is longer than what came in: it says more and counts as full. Else prove '..UptoSaid'. A law counts once. -/
mutual
def uptoBulk {H : Type} : DataW H → Nat
  | .lit (.string bytes) => bytes.length + 1
  | .lit _ => 1
  | .nil => 1
  | .ptr d => uptoBulk d + 1
  | .slice elems spare => uptoBulkAll elems + uptoBulkAll spare + 1
  | .agg parts => uptoBulkAll parts + 1
  | .iface _ d => uptoBulk d + 1
  | .map entries => uptoBulkEntries entries + 1
  | .held _ => 1
def uptoBulkAll {H : Type} : List (DataW H) → Nat
  | [] => 0
  | d :: r => uptoBulk d + uptoBulkAll r
def uptoBulkEntries {H : Type} : List (Lit × DataW H) → Nat
  | [] => 0
  | x :: r => uptoBulkEntry x + uptoBulkEntries r
def uptoBulkEntry {H : Type} : Lit × DataW H → Nat
  | (.string bytes, d) => bytes.length + uptoBulk d + 1
  | (_, d) => uptoBulk d + 1
 end
def uptoSmall : (H : Type) → List (DataW H) → Bool := fun _ ds => decide (uptoBulkAll ds ≤ 1048576)
def OpenSpec.upto (s : _root_.Go.ChangeSpec) : _root_.Go.OpenSpec := { _root_.Go.OpenSpec.ofChange s with cond := some uptoSmall }

/-- 'truglaw04.ClockJoins', WHERE WHAT IT READS IS OF BULK AT MOST 1048576: true; the input reads as it did. -/
def clockJoinsUptoRow : OpenClaim := { program := "ytknhlkapeoodhaa", sum := "2402943012aa435956f7aa66069a729a51d56944a95f780be7f67992d551d343", func := "trug/truglaw04.ClockJoins", spec := "clockJoins", apart := false, narrowed := true }
def ClockJoinsUptoSaid : Prop := clockJoinsUptoRow.holds Try.pinned (OpenSpec.upto clockJoinsSpec)

/-- 'truglaw04.ClockLattice', WHERE WHAT IT READS IS OF BULK AT MOST 1048576: true; the input reads as it did. -/
def clockLatticeUptoRow : OpenClaim := { program := "ytknhlkapeoodhaa", sum := "2402943012aa435956f7aa66069a729a51d56944a95f780be7f67992d551d343", func := "trug/truglaw04.ClockLattice", spec := "clockLattice", apart := false, narrowed := true }
def ClockLatticeUptoSaid : Prop := clockLatticeUptoRow.holds Try.pinned (OpenSpec.upto clockLatticeSpec)

/-- 'truglaw04.ClockDots', WHERE WHAT IT READS IS OF BULK AT MOST 1048576: true; the input reads as it did. -/
def clockDotsUptoRow : OpenClaim := { program := "ytknhlkapeoodhaa", sum := "2402943012aa435956f7aa66069a729a51d56944a95f780be7f67992d551d343", func := "trug/truglaw04.ClockDots", spec := "clockDots", apart := false, narrowed := true }
def ClockDotsUptoSaid : Prop := clockDotsUptoRow.holds Try.pinned (OpenSpec.upto clockDotsSpec)

/-- 'truglaw04.ClockChain', WHERE WHAT IT READS IS OF BULK AT MOST 1048576: true; the input reads as it did. -/
def clockChainUptoRow : OpenClaim := { program := "ytknhlkapeoodhaa", sum := "2402943012aa435956f7aa66069a729a51d56944a95f780be7f67992d551d343", func := "trug/truglaw04.ClockChain", spec := "clockChain", apart := false, narrowed := true }
def ClockChainUptoSaid : Prop := clockChainUptoRow.holds Try.pinned (OpenSpec.upto clockChainSpec)

/-- 'truglaw04.ClockTells', WHERE WHAT IT READS IS OF BULK AT MOST 1048576: true; the input reads as it did. -/
def clockTellsUptoRow : OpenClaim := { program := "ytknhlkapeoodhaa", sum := "2402943012aa435956f7aa66069a729a51d56944a95f780be7f67992d551d343", func := "trug/truglaw04.ClockTells", spec := "clockTells", apart := false, narrowed := true }
def ClockTellsUptoSaid : Prop := clockTellsUptoRow.holds Try.pinned (OpenSpec.upto clockTellsSpec)

/-- 'truglaw02.TotalTells', WHERE WHAT IT READS IS OF BULK AT MOST 1048576: true; the input reads as it did. -/
def totalTellsUptoRow : OpenClaim := { program := "ytknhlkapeoodhaa", sum := "2402943012aa435956f7aa66069a729a51d56944a95f780be7f67992d551d343", func := "trug/truglaw02.TotalTells", spec := "totalTells", inPlace := ["math.Float64frombits", "math.Float64bits"], unfollowed := true, recurses := true, apart := false, narrowed := true }
def TotalTellsUptoSaid : Prop := totalTellsUptoRow.holds Try.pinned (OpenSpec.upto totalTellsSpec)

/-- 'truglaw02.TotalSums', WHERE WHAT IT READS IS OF BULK AT MOST 1048576: true; the input reads as it did. -/
def totalSumsUptoRow : OpenClaim := { program := "ytknhlkapeoodhaa", sum := "2402943012aa435956f7aa66069a729a51d56944a95f780be7f67992d551d343", func := "trug/truglaw02.TotalSums", spec := "totalSums", inPlace := ["math.Float64frombits", "math.Float64bits"], unfollowed := true, recurses := true, apart := false, narrowed := true }
def TotalSumsUptoSaid : Prop := totalSumsUptoRow.holds Try.pinned (OpenSpec.upto totalSumsSpec)

/-- 'truglaw02.TotalOrder', WHERE WHAT IT READS IS OF BULK AT MOST 1048576: true; the input reads as it did. -/
def totalOrderUptoRow : OpenClaim := { program := "ytknhlkapeoodhaa", sum := "2402943012aa435956f7aa66069a729a51d56944a95f780be7f67992d551d343", func := "trug/truglaw02.TotalOrder", spec := "totalOrder", inPlace := ["math.Float64frombits", "math.Float64bits"], unfollowed := true, recurses := true, apart := false, narrowed := true }
def TotalOrderUptoSaid : Prop := totalOrderUptoRow.holds Try.pinned (OpenSpec.upto totalOrderSpec)

/-- 'truglaw02.TotalJoins', WHERE WHAT IT READS IS OF BULK AT MOST 1048576: true; the input reads as it did. -/
def totalJoinsUptoRow : OpenClaim := { program := "ytknhlkapeoodhaa", sum := "2402943012aa435956f7aa66069a729a51d56944a95f780be7f67992d551d343", func := "trug/truglaw02.TotalJoins", spec := "totalJoins", inPlace := ["math.Float64frombits", "math.Float64bits"], unfollowed := true, recurses := true, apart := false, narrowed := true }
def TotalJoinsUptoSaid : Prop := totalJoinsUptoRow.holds Try.pinned (OpenSpec.upto totalJoinsSpec)

/-- 'truglaw02.TotalOne', WHERE WHAT IT READS IS OF BULK AT MOST 1048576: true; the input reads as it did. -/
def totalOneUptoRow : OpenClaim := { program := "ytknhlkapeoodhaa", sum := "2402943012aa435956f7aa66069a729a51d56944a95f780be7f67992d551d343", func := "trug/truglaw02.TotalOne", spec := "totalOne", inPlace := ["math.Float64frombits", "math.Float64bits"], unfollowed := true, recurses := true, apart := false, narrowed := true }
def TotalOneUptoSaid : Prop := totalOneUptoRow.holds Try.pinned (OpenSpec.upto totalOneSpec)

end Rows
end Go.Proofs.Ytknhlkapeoodhaa
