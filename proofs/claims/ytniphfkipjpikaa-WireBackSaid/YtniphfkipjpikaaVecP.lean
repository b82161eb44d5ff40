/- What the machine does with vectors: zero, load, index, ==. Over the seat's program. No condition. -/
import Derived.Test.YtniphfkipjpikaaRows
import Derived.Test.YtniphfkipjpikaaVec
import Derived.Test.YtniphfkipjpikaaRow
namespace Go.Proofs.Ytniphfkipjpikaa
open Go.RowKit

theorem vec_info : (Try.prog.info? 65).map (·.size) = some 12 := by kernel_rfl
theorem vec_cells : Try.prog.cellsOf 65 = 12 := by kernel_rfl
theorem u32_cells : Try.prog.cellsOf 63 = 1 := by kernel_rfl

attribute [go_sem] VA_size VA_get VA_set
@[go_sem] theorem VA_getElem (f : Nat → Nat) (i : Nat) (h : i < (VA f).size) : (VA f)[i]'h = .int .u32 (f i : Int) := by
  have h1 := VA_get f i (by rw [VA_size] at h; exact h)
  rw [Array.getElem?_eq_getElem h] at h1
  exact Option.some.inj h1
@[go_sem] theorem VA_set_lit (f : Nat → Nat) (i n : Nat) : (VA f).setIfInBounds i (.int .u32 (no_index (OfNat.ofNat n))) = VA (upd f i n) := VA_set f i n
@[go_sem] theorem VA_oneCell' (f : Nat → Nat) : (VA f).all (·.oneCell') 0 12 = true := by
  have := VA_oneCell f
  rw [VA_size] at this
  exact this
@[go_sem ↓] theorem wp_load_vec (dst : Option Tmp) (x : Operand) (ty : TypeId) (pos : String) (after : Array Edge) (gd : Option (Nat × Bool)) (a : Act) (w : World) (K : Act → World → Prop) (Q : Exit → Act → World → Prop) :
    Oper.wp Try.prog ⟨dst, .load 65 x, ty, pos, after, gd⟩ a w K Q = match a.eval x with
      | .pointer (some ⟨g, 0, none⟩) => (match look w g with
        | some (.cells cs _ _) => if cs.size = 12 then K (a.put dst (.agg cs)) w else wpRest Try.prog ⟨dst, .load 65 x, ty, pos, after, gd⟩ a w K Q
        | _ => wpRest Try.prog ⟨dst, .load 65 x, ty, pos, after, gd⟩ a w K Q)
      | _ => wpRest Try.prog ⟨dst, .load 65 x, ty, pos, after, gd⟩ a w K Q :=
  wp_load_look (P := Try.prog) 65 12 _ Try.underlying65 rfl vec_info dst x ty pos after gd a w K Q
@[go_sem ↓] theorem wp_store_vec (dst : Option Tmp) (x y : Operand) (ty : TypeId) (pos : String) (after : Array Edge) (gd : Option (Nat × Bool)) (a : Act) (w : World) (K : Act → World → Prop) (Q : Exit → Act → World → Prop) :
    Oper.wp Try.prog ⟨dst, .store 65 x y, ty, pos, after, gd⟩ a w K Q = match a.eval x, a.eval y with
      | .pointer (some ⟨g, 0, none⟩), .agg vs => (match look w g with
        | some (.cells cs _ (0, 0)) => if cs.size = 12 ∧ vs.size = 12 ∧ vs.all (·.oneCell') = true then K (a.put dst undef) (w.setRow g vs) else wpRest Try.prog ⟨dst, .store 65 x y, ty, pos, after, gd⟩ a w K Q
        | _ => wpRest Try.prog ⟨dst, .store 65 x y, ty, pos, after, gd⟩ a w K Q)
      | _, _ => wpRest Try.prog ⟨dst, .store 65 x y, ty, pos, after, gd⟩ a w K Q :=
  wp_store_look (P := Try.prog) 65 12 vec_info dst x y ty pos after gd a w K Q

theorem vec_sizeOf (w : World) : (sizeOf 65).run Try.prog w = .ok 12 w := by kernel_rfl
theorem vec_zeroValue (w : World) : (zeroValue 65).run Try.prog w = .ok (.agg (VA fun _ => 0)) w := by rw [VA_zero]; kernel_rfl
@[go_sem] theorem VA_zero' : #[Value.int .u32 0, .int .u32 0, .int .u32 0, .int .u32 0, .int .u32 0, .int .u32 0, .int .u32 0, .int .u32 0, .int .u32 0, .int .u32 0, .int .u32 0, .int .u32 0] = VA (fun _ => 0) := VA_zero.symm
@[go_sem ↓] theorem wp_buildSlice2_vec (dst : Option Tmp) (x y : Operand) (ty : TypeId) (pos : String) (after : Array Edge) (gd : Option (Nat × Bool)) (a : Act) (w : World) (K : Act → World → Prop) (Q : Exit → Act → World → Prop) :
    Oper.wp Try.prog ⟨dst, .buildSlice 143 2 #[(0, x), (1, y)], ty, pos, after, gd⟩ a w K Q = match a.eval x, a.eval y with
      | .agg p, .agg q => if p.size = 12 ∧ q.size = 12 then K (a.put dst (.slice (some ⟨w.heap.size, 0, none⟩) 2 2)) (w.alloc (.cells (p ++ q) 65)) else wpRest Try.prog ⟨dst, .buildSlice 143 2 #[(0, x), (1, y)], ty, pos, after, gd⟩ a w K Q
      | _, _ => wpRest Try.prog ⟨dst, .buildSlice 143 2 #[(0, x), (1, y)], ty, pos, after, gd⟩ a w K Q :=
  wp_buildSlice2 143 65 12 (VA fun _ => 0) Try.underlying143 vec_sizeOf vec_zeroValue (by omega) (by omega) dst x y ty pos after gd a w K Q

/-- Two vectors are the same. -/
def veq (f g : Nat → Nat) : Bool := (List.range 12).all fun i => decide (f i = g i)

theorem veq_iff (f g : Nat → Nat) : veq f g = true ↔ ∀ i, i < 12 → f i = g i := by
  unfold veq
  rw [List.all_eq_true]
  constructor
  · intro h i hi
    simpa using h i (by simpa using hi)
  · intro h i hi
    simpa using h i (by simpa using hi)

theorem veq_false (f g : Nat → Nat) (i : Nat) (hi : i < 12) (h : f i ≠ g i) : veq f g = false := by
  cases e : veq f g
  · rfl
  · exact absurd ((veq_iff f g).1 e i hi) h

theorem run_part_u32 (cs : Array Value) (i : Nat) (v : Value) (h : cs[i]? = some v) (w : World) : (part 63 cs i).run Try.prog w = .ok v w := by
  have h1 : (isAgg 63).run Try.prog w = .ok false w := by kernel_rfl
  simp [part, Sem.run_bind, h1, h]

@[go_sem] theorem run_index_vec (f : Nat → Nat) (i : Nat) (h : i < 12) (w : World) :
    (Instr.index 65 (.agg (VA f)) (.int .i64 (i : Int))).run Try.prog w = .ok (.int .u32 (f i : Int)) w := by
  have hi : ((i : Int) < 12) := by omega
  have h0 : (0 : Int) ≤ (i : Int) := by omega
  have hs : (sizeOf 63).run Try.prog w = .ok 1 w := by kernel_rfl
  have hc : (0 : Int) ≤ (i : Int) ∧ (i : Int) < ((12 : Nat) : Int) := by omega
  simp only [Instr.index, Sem.run_bind, run_underlying Try.underlying65, asIntOf, Sem.run_pure, Result.andThen_ok]
  rw [if_pos hc, Sem.run_bind, hs]
  simp [run_part_u32 _ _ _ (VA_get f i h)]

theorem run_eql_list (d : Nat) (f g : Nat → Nat) (w : World) : ∀ l : List Nat, (∀ i, i ∈ l → i < 12) →
    (forIn l ((none : Option Bool), ()) fun i __s => do
              let __do_lift ← part 63 (VA f) (i * 1)
              let __do_lift_1 ← part 63 (VA g) (i * 1)
              let __do_lift ← Op.equalIn (d + 1) 63 __do_lift __do_lift_1
              if (!__do_lift) = true then pure (ForInStep.done (some false, ())) else pure (ForInStep.yield (none, ()))).run Try.prog w
      = .ok (if l.all (fun i => decide (f i = g i)) then ((none : Option Bool), ()) else (some false, ())) w
  | [], _ => by simp
  | i :: l, h => by
    have hp : ∀ (f : Nat → Nat), (part 63 (VA f) i).run Try.prog w = .ok (.int .u32 (f i : Int)) w := fun f => run_part_u32 _ _ _ (VA_get f i (h i (by simp))) w
    have he : ∀ (a b : Int), (Op.equalIn (d + 1) 63 (.int .u32 a) (.int .u32 b)).run Try.prog w = .ok (a == b) w := fun a b => run_equalIn_int w d _ _ _ a b Try.underlying63
    rw [List.forIn_cons]
    simp only [Sem.run_bind, Nat.mul_one, hp, he, Result.andThen_ok]
    by_cases e : f i = g i
    · have e1 : ((f i : Int) == (g i : Int)) = true := by simp [e]
      simp only [e1, Bool.not_true, Bool.false_eq_true, if_false, Sem.run_pure, Result.andThen_ok]
      have := run_eql_list d f g w l (fun j hj => h j (by simp [hj]))
      simp only [Nat.mul_one] at this
      rw [this]
      simp [e]
    · have e1 : ((f i : Int) == (g i : Int)) = false := by simp; omega
      simp only [e1, Bool.not_false, if_true, Sem.run_pure, Result.andThen_ok]
      simp [e]

@[go_sem] theorem run_eql_vec (d : Nat) (f g : Nat → Nat) (w : World) : (Op.equalIn (d + 2) 65 (.agg (VA f)) (.agg (VA g))).run Try.prog w = .ok (veq f g) w := by
  have hs : (sizeOf 63).run Try.prog w = .ok 1 w := by kernel_rfl
  rw [Op.equalIn]
  simp only [Sem.run_bind, run_underlying Try.underlying65, Result.andThen_ok, hs]
  have h := run_eql_list d f g w (List.range' 0 12) (by intro i hi; simp [List.mem_range'] at hi; omega)
  have e : (List.range' 0 12).all (fun i => decide (f i = g i)) = veq f g := by rw [veq, List.range_eq_range']
  rw [e] at h
  rw [Std.Legacy.Range.forIn_eq_forIn_range']
  simp only [Std.Legacy.Range.size]
  erw [h]
  cases veq f g <;> rfl

/-- A function that hands back a vector. -/
theorem ret_vec {fn : Func} {R : Ending → World → Prop} {a : Act} {w : World} {p g : Nat} {f : Nat → Nat} {t : TypeId} {fr : Nat × Nat} (h : fn.results = #[.cell p 65])
    (hp : a.tmps.getD p undef = .pointer (some ⟨g, 0, none⟩)) (hg : look w g = some (.cells (VA f) t fr)) (hd : a.defers = []) (hR : R (.returned (.agg (VA f))) w) : bodyPost Try.prog fn R .ret a w :=
  bodyPost_ret (results_cell_row h _ _ g t (VA f) fr _ hp hg Try.underlying65 rfl (by rw [VA_size]; exact vec_info)) hd hR
end Go.Proofs.Ytniphfkipjpikaa
