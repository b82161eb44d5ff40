/- Contracts of the package total's small functions and of the reference's. -/
import Derived.Test.YtnpofcnibgdjhaaTotP
import Derived.Test.YtnpofcnibgdjhaaVecP
import Derived.Test.YtnpofcnibgdjhaaReg
import Derived.StillTactics
import Derived.LoopTactic
import Derived.Laws.CopyOwn
import Derived.Laws.Externs
namespace Go.Proofs.Ytnpofcnibgdjhaa
open Go.RowKit Flt

@[go_sem] theorem Flt.max_cast (a b : Nat) : (if (a : Int) < (b : Int) then (b : Int) else (a : Int)) = ((max a b : Nat) : Int) := by
  split <;> omega
@[go_sem] theorem Flt.max_cast' (a b : Nat) : (if a < b then (b : Int) else (a : Int)) = ((max a b : Nat) : Int) := by
  split <;> omega
