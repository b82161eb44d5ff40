/- Labels: how they are laid, loaded, stored, compared. -/
import Derived.Test.YtniphfkipjpikaaCod
import Derived.Test.YtniphfkipjpikaaClkC
namespace Go.Proofs.Ytniphfkipjpikaa
open Go.RowKit

/-- A label. -/
structure Lb where
  time : Nat
  node : Int
  n : Nat
  cart : Int
  seller : Int
  deps : Nat → Nat
/-- Its cells. -/
def LA (l : Lb) : Array Value := #[.int .u64 (l.time : Int), .int .i64 l.node, .int .u32 (l.n : Int), .int .i64 l.cart, .int .i64 l.seller] ++ VA l.deps
@[go_sem] theorem LA_size (l : Lb) : (LA l).size = 17 := by
  unfold LA
  rw [Array.size_append, VA_size]
  rfl
theorem LA_low (l : Lb) (i : Nat) (h : i < 5) : (LA l)[i]? = #[Value.int .u64 (l.time : Int), .int .i64 l.node, .int .u32 (l.n : Int), .int .i64 l.cart, .int .i64 l.seller][i]? := by
  unfold LA
  rw [Array.getElem?_append_left (by simpa using h)]
@[go_sem] theorem LA_get0 (l : Lb) : (LA l)[0]? = some (.int .u64 (l.time : Int)) := by rw [LA_low l 0 (by omega)]; rfl
@[go_sem] theorem LA_get1 (l : Lb) : (LA l)[1]? = some (.int .i64 l.node) := by rw [LA_low l 1 (by omega)]; rfl
@[go_sem] theorem LA_get2 (l : Lb) : (LA l)[2]? = some (.int .u32 (l.n : Int)) := by rw [LA_low l 2 (by omega)]; rfl
@[go_sem] theorem LA_get3 (l : Lb) : (LA l)[3]? = some (.int .i64 l.cart) := by rw [LA_low l 3 (by omega)]; rfl
@[go_sem] theorem LA_get4 (l : Lb) : (LA l)[4]? = some (.int .i64 l.seller) := by rw [LA_low l 4 (by omega)]; rfl
theorem LA_deps (l : Lb) (i : Nat) (h : i < 12) : (LA l)[5 + i]? = some (.int .u32 (l.deps i : Int)) := by
  unfold LA
  rw [Array.getElem?_append_right (by simp), ← VA_get l.deps i h]
  congr 1
  simp
@[go_sem] theorem LA_extract (l : Lb) : (LA l).extract 5 17 = VA l.deps := by
  apply Array.ext_getElem?
  intro i
  rw [Array.getElem?_extract]
  by_cases h : i < 12
  · rw [LA_deps l i h, VA_get l.deps i h, if_pos (by rw [LA_size]; omega)]
  · rw [Array.getElem?_eq_none (xs := VA l.deps) (by rw [VA_size]; omega), if_neg (by rw [LA_size]; omega)]
theorem LA_oneCell (l : Lb) : (LA l).all (·.oneCell') = true := by
  unfold LA
  rw [Array.all_append, VA_oneCell, Bool.and_true]
  simp [Value.oneCell']
@[go_sem] theorem LA_oneCell' (l : Lb) : (LA l).all (·.oneCell') 0 17 = true := by
  have := LA_oneCell l
  rw [LA_size] at this
  exact this
theorem LA_ext {l m : Lb} (h1 : l.time = m.time) (h2 : l.node = m.node) (h3 : l.n = m.n) (h4 : l.cart = m.cart) (h5 : l.seller = m.seller) (h6 : ∀ i, i < 12 → l.deps i = m.deps i) : LA l = LA m := by
  unfold LA
  rw [h1, h2, h3, h4, h5, VA_ext h6]

theorem lab_info : (Try.prog.info? 87).map (·.size) = some 17 := by kernel_rfl
@[go_sem ↓] theorem wp_load_lab (dst : Option Tmp) (x : Operand) (ty : TypeId) (pos : String) (after : Array Edge) (gd : Option (Nat × Bool)) (a : Act) (w : World) (K : Act → World → Prop) (Q : Exit → Act → World → Prop) :
    Oper.wp Try.prog ⟨dst, .load 87 x, ty, pos, after, gd⟩ a w K Q = match a.eval x with
      | .pointer (some ⟨g, 0, none⟩) => (match look w g with
        | some (.cells cs _ _) => if cs.size = 17 then K (a.put dst (.agg cs)) w else wpRest Try.prog ⟨dst, .load 87 x, ty, pos, after, gd⟩ a w K Q
        | _ => wpRest Try.prog ⟨dst, .load 87 x, ty, pos, after, gd⟩ a w K Q)
      | _ => wpRest Try.prog ⟨dst, .load 87 x, ty, pos, after, gd⟩ a w K Q :=
  wp_load_look (P := Try.prog) 87 17 _ Try.underlying87 rfl lab_info dst x ty pos after gd a w K Q
@[go_sem ↓] theorem wp_store_lab (dst : Option Tmp) (x y : Operand) (ty : TypeId) (pos : String) (after : Array Edge) (gd : Option (Nat × Bool)) (a : Act) (w : World) (K : Act → World → Prop) (Q : Exit → Act → World → Prop) :
    Oper.wp Try.prog ⟨dst, .store 87 x y, ty, pos, after, gd⟩ a w K Q = match a.eval x, a.eval y with
      | .pointer (some ⟨g, 0, none⟩), .agg vs => (match look w g with
        | some (.cells cs _ (0, 0)) => if cs.size = 17 ∧ vs.size = 17 ∧ vs.all (·.oneCell') = true then K (a.put dst undef) (w.setRow g vs) else wpRest Try.prog ⟨dst, .store 87 x y, ty, pos, after, gd⟩ a w K Q
        | _ => wpRest Try.prog ⟨dst, .store 87 x y, ty, pos, after, gd⟩ a w K Q)
      | _, _ => wpRest Try.prog ⟨dst, .store 87 x y, ty, pos, after, gd⟩ a w K Q :=
  wp_store_look (P := Try.prog) 87 17 lab_info dst x y ty pos after gd a w K Q
theorem ret_lab {fn : Func} {R : Ending → World → Prop} {a : Act} {w : World} {p g : Nat} {cs : Array Value} {t : TypeId} {fr : Nat × Nat} (h : fn.results = #[.cell p 87])
    (hp : a.tmps.getD p undef = .pointer (some ⟨g, 0, none⟩)) (hg : look w g = some (.cells cs t fr)) (hn : cs.size = 17) (hd : a.defers = []) (hR : R (.returned (.agg cs)) w) : bodyPost Try.prog fn R .ret a w :=
  bodyPost_ret (results_cell_row h _ _ g t cs fr _ hp hg Try.underlying87 rfl (by rw [hn]; exact lab_info)) hd hR
theorem plc_info : (Try.prog.info? 128).map (·.size) = some 4 := by kernel_rfl
@[go_sem ↓] theorem wp_load_plc (dst : Option Tmp) (x : Operand) (ty : TypeId) (pos : String) (after : Array Edge) (gd : Option (Nat × Bool)) (a : Act) (w : World) (K : Act → World → Prop) (Q : Exit → Act → World → Prop) :
    Oper.wp Try.prog ⟨dst, .load 128 x, ty, pos, after, gd⟩ a w K Q = match a.eval x with
      | .pointer (some ⟨g, 0, none⟩) => (match look w g with
        | some (.cells cs _ _) => if cs.size = 4 then K (a.put dst (.agg cs)) w else wpRest Try.prog ⟨dst, .load 128 x, ty, pos, after, gd⟩ a w K Q
        | _ => wpRest Try.prog ⟨dst, .load 128 x, ty, pos, after, gd⟩ a w K Q)
      | _ => wpRest Try.prog ⟨dst, .load 128 x, ty, pos, after, gd⟩ a w K Q :=
  wp_load_look (P := Try.prog) 128 4 _ Try.underlying128 rfl plc_info dst x ty pos after gd a w K Q
@[go_sem ↓] theorem wp_store_plc (dst : Option Tmp) (x y : Operand) (ty : TypeId) (pos : String) (after : Array Edge) (gd : Option (Nat × Bool)) (a : Act) (w : World) (K : Act → World → Prop) (Q : Exit → Act → World → Prop) :
    Oper.wp Try.prog ⟨dst, .store 128 x y, ty, pos, after, gd⟩ a w K Q = match a.eval x, a.eval y with
      | .pointer (some ⟨g, 0, none⟩), .agg vs => (match look w g with
        | some (.cells cs _ (0, 0)) => if cs.size = 4 ∧ vs.size = 4 ∧ vs.all (·.oneCell') = true then K (a.put dst undef) (w.setRow g vs) else wpRest Try.prog ⟨dst, .store 128 x y, ty, pos, after, gd⟩ a w K Q
        | _ => wpRest Try.prog ⟨dst, .store 128 x y, ty, pos, after, gd⟩ a w K Q)
      | _, _ => wpRest Try.prog ⟨dst, .store 128 x y, ty, pos, after, gd⟩ a w K Q :=
  wp_store_look (P := Try.prog) 128 4 plc_info dst x y ty pos after gd a w K Q
theorem ret_plc {fn : Func} {R : Ending → World → Prop} {a : Act} {w : World} {p g : Nat} {cs : Array Value} {t : TypeId} {fr : Nat × Nat} (h : fn.results = #[.cell p 128])
    (hp : a.tmps.getD p undef = .pointer (some ⟨g, 0, none⟩)) (hg : look w g = some (.cells cs t fr)) (hn : cs.size = 4) (hd : a.defers = []) (hR : R (.returned (.agg cs)) w) : bodyPost Try.prog fn R .ret a w :=
  bodyPost_ret (results_cell_row h _ _ g t cs fr _ hp hg Try.underlying128 rfl (by rw [hn]; exact plc_info)) hd hR

/-- What an operation asks where that does not tell either. -/
def wpRest2 (P : Program) (o : Oper) (a : Act) (w : World) (K : Act → World → Prop) (Q : Exit → Act → World → Prop) : Prop := o.wp P a w K Q
/-- The vector of a label is loaded. -/
@[go_sem] theorem wp_load_deps (dst : Option Tmp) (x : Operand) (ty : TypeId) (pos : String) (after : Array Edge) (gd : Option (Nat × Bool)) (a : Act) (w : World) (K : Act → World → Prop) (Q : Exit → Act → World → Prop) :
    wpRest Try.prog ⟨dst, .load 65 x, ty, pos, after, gd⟩ a w K Q = match a.eval x with
      | .pointer (some ⟨g, 5, none⟩) => (match look w g with
        | some (.cells cs _ _) => if cs.size = 17 then K (a.put dst (.agg (cs.extract 5 17))) w else wpRest2 Try.prog ⟨dst, .load 65 x, ty, pos, after, gd⟩ a w K Q
        | _ => wpRest2 Try.prog ⟨dst, .load 65 x, ty, pos, after, gd⟩ a w K Q)
      | _ => wpRest2 Try.prog ⟨dst, .load 65 x, ty, pos, after, gd⟩ a w K Q := by
  split
  · rename_i g hx
    split
    · rename_i cs t fr h
      split
      · rename_i hs
        have hr : w.rangeAt g 5 (cs.extract 5 17).toList := fun j v hv => by
          rw [look_cell h]
          have hj : j < 12 := by
            have := (List.getElem?_eq_some_iff.1 hv).1
            rw [Array.length_toList, Array.size_extract, hs] at this
            omega
          rw [Array.getElem?_toList, Array.getElem?_extract] at hv
          split at hv
          · exact hv
          · cases hv
        unfold wpRest Oper.wp execOp
        have hl := run_loadVar_mid (P := Try.prog) w g 5 65 (cs.extract 5 17).toList _ hr Try.underlying65 rfl (by rw [Array.length_toList, Array.size_extract, hs]; exact vec_info)
        simp only [hx, Instr.loadAt, Instr.sureAddr, Sem.run_bind, Sem.run_pure, Result.andThen_ok, hl]
        rfl
      · rfl
    · rfl
  · rfl

/-- Two labels are the same. -/
def leq (l m : Lb) : Bool := decide (l.time = m.time) && (decide (l.node = m.node) && (decide (l.n = m.n) && (decide (l.cart = m.cart) && (decide (l.seller = m.seller) && veq l.deps m.deps))))
theorem part_one (T : TypeId) (cs : Array Value) (i : Nat) (v : Value) (w : World) (h1 : (isAgg T).run Try.prog w = .ok false w) (h : cs[i]? = some v) : (part T cs i).run Try.prog w = .ok v w := by
  simp [part, Sem.run_bind, h1, h]
theorem part_deps (l : Lb) (w : World) : (part 65 (LA l) 5).run Try.prog w = .ok (.agg (VA l.deps)) w := by
  have h1 : (isAgg 65).run Try.prog w = .ok true w := by kernel_rfl
  have h2 := LA_extract l
  simp [part, Sem.run_bind, h1, vec_sizeOf, h2, LA_size]
theorem eqF_step (d : Nat) (xs ys : Array Value) (f : Field) (fs : List Field) (w : World) (n : String) (T o : Nat) (a b : Value) (r : Bool) (hn : f.name = n ∧ f.type = T ∧ f.offset = o) (hne : n ≠ "_") (ha : (part T xs o).run Try.prog w = .ok a w) (hb : (part T ys o).run Try.prog w = .ok b w)
    (hr : (Op.equalIn d T a b).run Try.prog w = .ok r w) : (Op.eqFields d xs ys (f :: fs)).run Try.prog w = if r = true then (Op.eqFields d xs ys fs).run Try.prog w else .ok false w := by
  obtain ⟨h1, rfl, rfl⟩ := hn
  rw [Op.eqFields, if_pos (by rw [h1]; exact hne)]
  simp only [Sem.run_bind, ha, hb, hr, Result.andThen_ok]
  cases r <;> simp
theorem dec_cast (a b : Nat) : ((a : Int) == (b : Int)) = decide (a = b) := by
  by_cases h : a = b
  · subst h; simp
  · rw [decide_eq_false h]; simp; omega
theorem dec_int (a b : Int) : (a == b) = decide (a = b) := by
  by_cases h : a = b <;> simp [h]
theorem run_eql_lab (d : Nat) (l m : Lb) (w : World) : (Op.equalIn (d + 3) 87 (.agg (LA l)) (.agg (LA m))).run Try.prog w = .ok (leq l m) w := by
  obtain ⟨fs, hfs⟩ : ∃ fs, fs = (Try.prog.fieldsOf 87).toList := ⟨_, rfl⟩
  rw [run_equalIn_struct w (d + 2) 87 (LA l) (LA m) (by kernel_rfl) (by kernel_rfl), ← hfs]
  have e : fs = [(Try.prog.fieldsOf 87)[0]!, (Try.prog.fieldsOf 87)[1]!, (Try.prog.fieldsOf 87)[2]!, (Try.prog.fieldsOf 87)[3]!, (Try.prog.fieldsOf 87)[4]!, (Try.prog.fieldsOf 87)[5]!] := by rw [hfs]; kernel_rfl
  have i64 : (isAgg 23).run Try.prog w = .ok false w := by kernel_rfl
  have ii : (isAgg 3).run Try.prog w = .ok false w := by kernel_rfl
  have i32 : (isAgg 63).run Try.prog w = .ok false w := by kernel_rfl
  rw [e, eqF_step _ _ _ _ _ w "Time" _ 0 _ _ _ ⟨by kernel_rfl, by kernel_rfl, by kernel_rfl⟩ (by decide) (part_one _ _ _ _ w i64 (LA_get0 l)) (part_one _ _ _ _ w i64 (LA_get0 m)) (run_equalIn_int w _ _ _ _ _ _ Try.underlying23),
    eqF_step _ _ _ _ _ w "Node" _ 1 _ _ _ ⟨by kernel_rfl, by kernel_rfl, by kernel_rfl⟩ (by decide) (part_one _ _ _ _ w ii (LA_get1 l)) (part_one _ _ _ _ w ii (LA_get1 m)) (run_equalIn_int w _ _ _ _ _ _ Try.underlying3),
    eqF_step _ _ _ _ _ w "N" _ 2 _ _ _ ⟨by kernel_rfl, by kernel_rfl, by kernel_rfl⟩ (by decide) (part_one _ _ _ _ w i32 (LA_get2 l)) (part_one _ _ _ _ w i32 (LA_get2 m)) (run_equalIn_int w _ _ _ _ _ _ Try.underlying63),
    eqF_step _ _ _ _ _ w "Cart" _ 3 _ _ _ ⟨by kernel_rfl, by kernel_rfl, by kernel_rfl⟩ (by decide) (part_one _ _ _ _ w ii (LA_get3 l)) (part_one _ _ _ _ w ii (LA_get3 m)) (run_equalIn_int w _ _ _ _ _ _ Try.underlying3),
    eqF_step _ _ _ _ _ w "Seller" _ 4 _ _ _ ⟨by kernel_rfl, by kernel_rfl, by kernel_rfl⟩ (by decide) (part_one _ _ _ _ w ii (LA_get4 l)) (part_one _ _ _ _ w ii (LA_get4 m)) (run_equalIn_int w _ _ _ _ _ _ Try.underlying3),
    eqF_step _ _ _ _ _ w "Deps" _ 5 _ _ _ ⟨by kernel_rfl, by kernel_rfl, by kernel_rfl⟩ (by decide) (part_deps l w) (part_deps m w) (run_eql_vec d l.deps m.deps w)]
  simp only [dec_cast]
  simp only [dec_int, leq, Op.eqFields, Sem.run_pure]
  by_cases h1 : l.time = m.time
  · by_cases h2 : l.node = m.node
    · by_cases h3 : l.n = m.n
      · by_cases h4 : l.cart = m.cart
        · by_cases h5 : l.seller = m.seller
          · cases h6 : veq l.deps m.deps <;> simp [h1, h2, h3, h4, h5]
          · simp [h1, h2, h3, h4, h5]
        · simp [h1, h2, h3, h4]
      · simp [h1, h2, h3]
    · simp [h1, h2]
  · simp [h1]
@[go_sem ↓] theorem eql_lab (l m : Lb) (w : World) : (binOp .eql 87 (.agg (LA l)) (.agg (LA m))).run Try.prog w = .ok (.bool (leq l m)) w := by
  rw [run_eql_struct, run_eql_lab]
  rfl
@[go_sem ↓] theorem neq_lab (l m : Lb) (w : World) : (binOp .neq 87 (.agg (LA l)) (.agg (LA m))).run Try.prog w = .ok (.bool (!leq l m)) w := by
  rw [run_neq_struct, run_eql_lab]
  rfl
theorem leq_iff (l m : Lb) : leq l m = true ↔ l.time = m.time ∧ l.node = m.node ∧ l.n = m.n ∧ l.cart = m.cart ∧ l.seller = m.seller ∧ ∀ i, i < 12 → l.deps i = m.deps i := by
  unfold leq
  simp only [Bool.and_eq_true, decide_eq_true_eq, veq_iff]
theorem leq_same (l : Lb) : leq l l = true := (leq_iff l l).2 ⟨rfl, rfl, rfl, rfl, rfl, fun _ _ => rfl⟩
/-- A label of parts is built. -/
@[go_sem ↓] theorem build_lab (l : Lb) (w : World) : (Instr.build 87 #[(0, .int .u64 (l.time : Int)), (1, .int .i64 l.node), (2, .int .u32 (l.n : Int)), (3, .int .i64 l.cart), (4, .int .i64 l.seller), (5, .agg (VA l.deps))]).run Try.prog w = .ok (.agg (LA l)) w := by
  refine run_build w _ _ _ ?_
  kernel_rfl
end Go.Proofs.Ytniphfkipjpikaa
