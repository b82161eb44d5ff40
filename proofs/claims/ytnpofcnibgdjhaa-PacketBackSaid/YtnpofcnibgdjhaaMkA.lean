/- Contracts: marks, one by one. -/
import Derived.Test.YtnpofcnibgdjhaaMkP
import Derived.Test.YtnpofcnibgdjhaaTotA
import Derived.Test.YtnpofcnibgdjhaaReg
namespace Go.Proofs.Ytnpofcnibgdjhaa
open Go.RowKit Flt

@[go_sem] theorem one_int (k : IntKind) (n : Int) : (Value.int k n).oneCell' = true := rfl
@[go_sem] theorem one_bool (b : Bool) : (Value.bool b).oneCell' = true := rfl
@[go_sem] theorem one_float (k : FloatKind) (n : Nat) : (Value.float k n).oneCell' = true := rfl
theorem si_info : (Try.prog.info? 3).map (·.size) = some 1 := by kernel_rfl
@[go_sem ↓] theorem wp_store_si (dst : Option Tmp) (x y : Operand) (ty : TypeId) (pos : String) (after : Array Edge) (gd : Option (Nat × Bool)) (a : Act) (w : World) (K : Act → World → Prop) (Q : Exit → Act → World → Prop) :
    Oper.wp Try.prog ⟨dst, .store 3 x y, ty, pos, after, gd⟩ a w K Q = match a.eval x with
      | .pointer (some ⟨g, i, none⟩) => (match look w g with
        | some (.cells cs _ (0, 0)) => if i < cs.size ∧ (a.eval y).oneCell' = true then K (a.put dst undef) (w.setCell ⟨g, i, none⟩ (a.eval y)) else wpRest Try.prog ⟨dst, .store 3 x y, ty, pos, after, gd⟩ a w K Q
        | _ => wpRest Try.prog ⟨dst, .store 3 x y, ty, pos, after, gd⟩ a w K Q)
      | _ => wpRest Try.prog ⟨dst, .store 3 x y, ty, pos, after, gd⟩ a w K Q :=
  wp_store_cell (P := Try.prog) 3 si_info dst x y ty pos after gd a w K Q
theorem sb_info : (Try.prog.info? 4).map (·.size) = some 1 := by kernel_rfl
@[go_sem ↓] theorem wp_store_sb (dst : Option Tmp) (x y : Operand) (ty : TypeId) (pos : String) (after : Array Edge) (gd : Option (Nat × Bool)) (a : Act) (w : World) (K : Act → World → Prop) (Q : Exit → Act → World → Prop) :
    Oper.wp Try.prog ⟨dst, .store 4 x y, ty, pos, after, gd⟩ a w K Q = match a.eval x with
      | .pointer (some ⟨g, i, none⟩) => (match look w g with
        | some (.cells cs _ (0, 0)) => if i < cs.size ∧ (a.eval y).oneCell' = true then K (a.put dst undef) (w.setCell ⟨g, i, none⟩ (a.eval y)) else wpRest Try.prog ⟨dst, .store 4 x y, ty, pos, after, gd⟩ a w K Q
        | _ => wpRest Try.prog ⟨dst, .store 4 x y, ty, pos, after, gd⟩ a w K Q)
      | _ => wpRest Try.prog ⟨dst, .store 4 x y, ty, pos, after, gd⟩ a w K Q :=
  wp_store_cell (P := Try.prog) 4 sb_info dst x y ty pos after gd a w K Q
theorem sf_info : (Try.prog.info? 197).map (·.size) = some 1 := by kernel_rfl
@[go_sem ↓] theorem wp_store_sf (dst : Option Tmp) (x y : Operand) (ty : TypeId) (pos : String) (after : Array Edge) (gd : Option (Nat × Bool)) (a : Act) (w : World) (K : Act → World → Prop) (Q : Exit → Act → World → Prop) :
    Oper.wp Try.prog ⟨dst, .store 197 x y, ty, pos, after, gd⟩ a w K Q = match a.eval x with
      | .pointer (some ⟨g, i, none⟩) => (match look w g with
        | some (.cells cs _ (0, 0)) => if i < cs.size ∧ (a.eval y).oneCell' = true then K (a.put dst undef) (w.setCell ⟨g, i, none⟩ (a.eval y)) else wpRest Try.prog ⟨dst, .store 197 x y, ty, pos, after, gd⟩ a w K Q
        | _ => wpRest Try.prog ⟨dst, .store 197 x y, ty, pos, after, gd⟩ a w K Q)
      | _ => wpRest Try.prog ⟨dst, .store 197 x y, ty, pos, after, gd⟩ a w K Q :=
  wp_store_cell (P := Try.prog) 197 sf_info dst x y ty pos after gd a w K Q
theorem su_info : (Try.prog.info? 29).map (·.size) = some 1 := by kernel_rfl
@[go_sem ↓] theorem wp_store_su (dst : Option Tmp) (x y : Operand) (ty : TypeId) (pos : String) (after : Array Edge) (gd : Option (Nat × Bool)) (a : Act) (w : World) (K : Act → World → Prop) (Q : Exit → Act → World → Prop) :
    Oper.wp Try.prog ⟨dst, .store 29 x y, ty, pos, after, gd⟩ a w K Q = match a.eval x with
      | .pointer (some ⟨g, i, none⟩) => (match look w g with
        | some (.cells cs _ (0, 0)) => if i < cs.size ∧ (a.eval y).oneCell' = true then K (a.put dst undef) (w.setCell ⟨g, i, none⟩ (a.eval y)) else wpRest Try.prog ⟨dst, .store 29 x y, ty, pos, after, gd⟩ a w K Q
        | _ => wpRest Try.prog ⟨dst, .store 29 x y, ty, pos, after, gd⟩ a w K Q)
      | _ => wpRest Try.prog ⟨dst, .store 29 x y, ty, pos, after, gd⟩ a w K Q :=
  wp_store_cell (P := Try.prog) 29 su_info dst x y ty pos after gd a w K Q
/-- The mark of a flag alone. -/
def flagV (n : Int) : Int := if 0 ≤ n ∧ n ≤ 3 then n else 0
end Go.Proofs.Ytnpofcnibgdjhaa
