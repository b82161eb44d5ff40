/- Whole rows read and written by a look at the heap: rules for the walk. No condition. -/
import Derived.WalkKit
import Derived.Deep.WholeRow
import Derived.Laws.CopyOwn
import Derived.Deep.QuietTactic
import Derived.BigQuiet
namespace Go.Proofs.Ytnpofcnibgdjhaa
open Go.RowKit

/-- The block of a number. -/
def look (w : World) (g : Nat) : Option Obj := w.heap[g]?
@[go_sem] theorem look_alloc_at (w : World) (o : Obj) (n : Nat) (hn : n = w.heap.size) : look (w.alloc o) n = some o := by
  subst hn; exact heap_alloc_new w o
@[go_sem] theorem look_alloc_past (w : World) (o : Obj) (n : Nat) (hn : n < w.heap.size) : look (w.alloc o) n = look w n := by
  show (w.heap.push o)[n]? = w.heap[n]?
  rw [Array.getElem?_push, if_neg (by omega)]
@[go_sem] theorem look_drew (w : World) (n : Nat) : look w.drew n = look w n := rfl
@[go_sem] theorem look_drewN (w : World) (k n : Nat) : look (w.drewN k) n = look w n := rfl
theorem look_below {B : Nat} {w w' : World} (h : Below B w w') {n : Nat} (hn : n < B) : look w' n = look w n := h.block n hn
theorem look_lt {w : World} {n : Nat} {o : Obj} (h : look w n = some o) : n < w.heap.size := (Array.getElem?_eq_some_iff.1 h).1
theorem look_cell {w : World} {g : Nat} {cs : Array Value} {t : TypeId} {fr : Nat × Nat} (h : look w g = some (.cells cs t fr)) (i : Nat) : w.cell? ⟨g, i, none⟩ = cs[i]? := cell_of_row w g i cs t fr h
theorem look_frozen {w : World} {g : Nat} {cs : Array Value} {t : TypeId} (h : look w g = some (.cells cs t (0, 0))) (i : Nat) : w.frozen? ⟨g, i, none⟩ = false := by
  have h' : w.heap[g]? = some (.cells cs t (0, 0)) := h
  simp [World.frozen?, h']
theorem look_set_same {w : World} {g : Nat} {cs : Array Value} {t : TypeId} (h : look w g = some (.cells cs t (0, 0))) (i : Nat) (v : Value) : look (w.setCell ⟨g, i, none⟩ v) g = some (.cells (cs.setIfInBounds i v) t (0, 0)) := heap_setCell_same w g i cs t v h
theorem look_set_other {w : World} {a : Addr} {g : Nat} (h : g ≠ a.block) (v : Value) : look (w.setCell a v) g = look w g := heap_setCell_other w a g v h
@[go_sem] theorem setRow_alloc_at (w : World) (c c' : Array Value) (t : TypeId) (n : Nat) (hn : n = w.heap.size) : (w.alloc (.cells c t)).setRow n c' = w.alloc (.cells c' t) := by
  subst hn; exact World.setRow_alloc_new w c c' t
@[go_sem] theorem setRow_alloc_past (w : World) (o : Obj) (c' : Array Value) (n : Nat) (hn : n < w.heap.size) : (w.alloc o).setRow n c' = (w.setRow n c').alloc o := by
  simp only [World.setRow, World.alloc]
  congr 1
  apply Array.ext_getElem?
  intro j
  rw [Array.getElem?_modify, Array.getElem?_push, Array.getElem?_push, Array.size_modify, Array.getElem?_modify]
  by_cases e : n = j
  · subst e
    rw [if_pos rfl, if_neg (by omega), if_pos rfl, if_neg (by omega)]
  · rw [if_neg e, if_neg e]
@[go_sem] theorem setRow_drew (w : World) (c' : Array Value) (n : Nat) : w.drew.setRow n c' = (w.setRow n c').drew := rfl

def setObj (i : Nat) (v : Value) : Obj → Obj
  | .cells cs t fr => .cells (cs.setIfInBounds i v) t fr
  | o => o
def rowObj (c : Array Value) : Obj → Obj
  | .cells _ t fr => .cells c t fr
  | o => o
@[go_sem] theorem setObj_cells (i : Nat) (v : Value) (cs : Array Value) (t : TypeId) (fr : Nat × Nat) : setObj i v (.cells cs t fr) = .cells (cs.setIfInBounds i v) t fr := rfl
@[go_sem] theorem rowObj_cells (c cs : Array Value) (t : TypeId) (fr : Nat × Nat) : rowObj c (.cells cs t fr) = .cells c t fr := rfl
@[go_sem] theorem look_setCell (w : World) (g i n : Nat) (v : Value) : look (w.setCell ⟨g, i, none⟩ v) n = if n = g then (look w g).map (setObj i v) else look w n := by
  unfold look
  simp only [World.setCell, Array.getElem?_modify]
  by_cases e : n = g
  · subst e
    rw [if_pos rfl, if_pos rfl]
    congr 1
  · rw [if_neg (fun h => e h.symm), if_neg e]
@[go_sem] theorem look_setRow (w : World) (g n : Nat) (c : Array Value) : look (w.setRow g c) n = if n = g then (look w g).map (rowObj c) else look w n := by
  unfold look
  simp only [World.setRow, Array.getElem?_modify]
  by_cases e : n = g
  · subst e
    rw [if_pos rfl, if_pos rfl]
    congr 1
  · rw [if_neg (fun h => e h.symm), if_neg e]

@[go_sem] theorem succ_ne2 (n : Nat) : (n + 1 + 1 = n) = False := by simp only [eq_iff_iff, iff_false]; omega
@[go_sem] theorem ne_succ2 (n : Nat) : (n = n + 1 + 1) = False := by simp only [eq_iff_iff, iff_false]; omega
@[go_sem] theorem succ_ne3 (n : Nat) : (n + 1 + 1 + 1 = n) = False := by simp only [eq_iff_iff, iff_false]; omega
@[go_sem] theorem ne_succ3 (n : Nat) : (n = n + 1 + 1 + 1) = False := by simp only [eq_iff_iff, iff_false]; omega
@[go_sem] theorem succ_ne4 (n : Nat) : (n + 1 + 1 + 1 + 1 = n) = False := by simp only [eq_iff_iff, iff_false]; omega
@[go_sem] theorem ne_succ4 (n : Nat) : (n = n + 1 + 1 + 1 + 1) = False := by simp only [eq_iff_iff, iff_false]; omega
@[go_sem] theorem succ_ne5 (n : Nat) : (n + 1 + 1 + 1 + 1 + 1 = n) = False := by simp only [eq_iff_iff, iff_false]; omega
@[go_sem] theorem ne_succ5 (n : Nat) : (n = n + 1 + 1 + 1 + 1 + 1) = False := by simp only [eq_iff_iff, iff_false]; omega
@[go_sem] theorem succ_ne6 (n : Nat) : (n + 1 + 1 + 1 + 1 + 1 + 1 = n) = False := by simp only [eq_iff_iff, iff_false]; omega
@[go_sem] theorem ne_succ6 (n : Nat) : (n = n + 1 + 1 + 1 + 1 + 1 + 1) = False := by simp only [eq_iff_iff, iff_false]; omega
@[go_sem] theorem succ_ne7 (n : Nat) : (n + 1 + 1 + 1 + 1 + 1 + 1 + 1 = n) = False := by simp only [eq_iff_iff, iff_false]; omega
@[go_sem] theorem ne_succ7 (n : Nat) : (n = n + 1 + 1 + 1 + 1 + 1 + 1 + 1) = False := by simp only [eq_iff_iff, iff_false]; omega
@[go_sem] theorem succ_ne8 (n : Nat) : (n + 1 + 1 + 1 + 1 + 1 + 1 + 1 + 1 = n) = False := by simp only [eq_iff_iff, iff_false]; omega
@[go_sem] theorem ne_succ8 (n : Nat) : (n = n + 1 + 1 + 1 + 1 + 1 + 1 + 1 + 1) = False := by simp only [eq_iff_iff, iff_false]; omega

theorem belA {w W : World} (h : Below w.heap.size w W) (o : Obj) : Below w.heap.size w (W.alloc o) := h.alloc h.size o
theorem belD {w W : World} (h : Below w.heap.size w W) : Below w.heap.size w W.drew := h.drew
theorem belQ {w W : World} (h : Below w.heap.size w W) (n : Nat) : Below w.heap.size w (W.drewN n) := ⟨h.os, h.tape, h.output, h.size, h.block⟩
theorem belT {w W W' : World} (h : Below w.heap.size w W) (k : Below W.heap.size W W') : Below w.heap.size w W' := h.trans (k.mono h.size)
theorem belS {w W : World} (h : Below w.heap.size w W) {p : Addr} (hp : w.heap.size ≤ p.block) (u : Value) : Below w.heap.size w (W.setCell p u) := h.setCell hp u
theorem belR {w W : World} (h : Below w.heap.size w W) {g : Nat} (hg : w.heap.size ≤ g) (cs : Array Value) : Below w.heap.size w (W.setRow g cs) := below_setRow h hg cs
theorem bel0 (w : World) : Below w.heap.size w w := Below.refl _ _

/-- What an operation asks where the heap does not tell. -/
def wpRest (P : Program) (o : Oper) (a : Act) (w : World) (K : Act → World → Prop) (Q : Exit → Act → World → Prop) : Prop := o.wp P a w K Q

theorem wp_load_look {P : Program} (T n : Nat) (d : TypeDesc) (hu : P.underlying T = some d) (hd : (match d with | .struct _ | .array _ _ => true | _ => false) = true) (hi : (P.info? T).map (·.size) = some n)
    (dst : Option Tmp) (x : Operand) (ty : TypeId) (pos : String) (after : Array Edge) (gd : Option (Nat × Bool)) (a : Act) (w : World) (K : Act → World → Prop) (Q : Exit → Act → World → Prop) :
    Oper.wp P ⟨dst, .load T x, ty, pos, after, gd⟩ a w K Q = match a.eval x with
      | .pointer (some ⟨g, 0, none⟩) => (match look w g with
        | some (.cells cs _ _) => if cs.size = n then K (a.put dst (.agg cs)) w else wpRest P ⟨dst, .load T x, ty, pos, after, gd⟩ a w K Q
        | _ => wpRest P ⟨dst, .load T x, ty, pos, after, gd⟩ a w K Q)
      | _ => wpRest P ⟨dst, .load T x, ty, pos, after, gd⟩ a w K Q := by
  split
  · rename_i g hx
    split
    · rename_i cs t fr h
      split
      · rename_i hs
        unfold Oper.wp execOp
        simp only [hx, Instr.loadAt, Instr.sureAddr, Sem.run_bind, Sem.run_pure, Result.andThen_ok, run_loadVar_row w g t T cs fr d h hu hd (by rw [hi, hs])]
        rfl
      · rfl
    · rfl
  · rfl

theorem wp_store_look {P : Program} (T n : Nat) (hi : (P.info? T).map (·.size) = some n)
    (dst : Option Tmp) (x y : Operand) (ty : TypeId) (pos : String) (after : Array Edge) (gd : Option (Nat × Bool)) (a : Act) (w : World) (K : Act → World → Prop) (Q : Exit → Act → World → Prop) :
    Oper.wp P ⟨dst, .store T x y, ty, pos, after, gd⟩ a w K Q = match a.eval x, a.eval y with
      | .pointer (some ⟨g, 0, none⟩), .agg vs => (match look w g with
        | some (.cells cs _ (0, 0)) => if cs.size = n ∧ vs.size = n ∧ vs.all (·.oneCell') = true then K (a.put dst undef) (w.setRow g vs) else wpRest P ⟨dst, .store T x y, ty, pos, after, gd⟩ a w K Q
        | _ => wpRest P ⟨dst, .store T x y, ty, pos, after, gd⟩ a w K Q)
      | _, _ => wpRest P ⟨dst, .store T x y, ty, pos, after, gd⟩ a w K Q := by
  split
  · rename_i g vs hx hy
    split
    · rename_i cs t h
      split
      · rename_i hs
        unfold Oper.wp execOp
        simp only [hx, hy, Instr.storeAt, Instr.sureAddr, Sem.run_bind, Sem.run_pure, Result.andThen_ok, run_storeVar_row w g t T cs vs h (by rw [hi, hs.2.1]) (by rw [hs.1, hs.2.1]) hs.2.2]
        rfl
      · rfl
    · rfl
  · rfl

theorem cells_one {v : Value} (h : v.oneCell' = true) : v.cells = #[v] := by
  cases v <;> first | (simp [Value.oneCell'] at h; done) | rfl
theorem run_storeVar_one {P : Program} (T : TypeId) (hi : (P.info? T).map (·.size) = some 1) (w : World) (g i : Nat) (cs : Array Value) (t : TypeId) (v : Value)
    (h : look w g = some (.cells cs t (0, 0))) (hlt : i < cs.size) (hv : v.oneCell' = true) : (storeVar T ⟨g, i, none⟩ v).run P w = .ok () (w.setCell ⟨g, i, none⟩ v) := by
  have hc : w.cell? ⟨g, i, none⟩ = some cs[i] := by rw [look_cell h]; exact Array.getElem?_eq_getElem hlt
  have hf := look_frozen h i
  cases hq : P.info? T with
  | none => simp [hq] at hi
  | some inf =>
    have hs : inf.size = 1 := by simpa [hq] using hi
    have ha : (⟨g, i, none⟩ : Addr).add 0 = ⟨g, i, none⟩ := by simp [Addr.add]
    simp [storeVar, sizeOf, typeInfo, hq, cells_one hv, hs, storeCells, ha, run_store P w _ v _ hv, hc, hf]
theorem wp_store_cell {P : Program} (T : Nat) (hi : (P.info? T).map (·.size) = some 1)
    (dst : Option Tmp) (x y : Operand) (ty : TypeId) (pos : String) (after : Array Edge) (gd : Option (Nat × Bool)) (a : Act) (w : World) (K : Act → World → Prop) (Q : Exit → Act → World → Prop) :
    Oper.wp P ⟨dst, .store T x y, ty, pos, after, gd⟩ a w K Q = match a.eval x with
      | .pointer (some ⟨g, i, none⟩) => (match look w g with
        | some (.cells cs _ (0, 0)) => if i < cs.size ∧ (a.eval y).oneCell' = true then K (a.put dst undef) (w.setCell ⟨g, i, none⟩ (a.eval y)) else wpRest P ⟨dst, .store T x y, ty, pos, after, gd⟩ a w K Q
        | _ => wpRest P ⟨dst, .store T x y, ty, pos, after, gd⟩ a w K Q)
      | _ => wpRest P ⟨dst, .store T x y, ty, pos, after, gd⟩ a w K Q := by
  split
  · rename_i g i hx
    split
    · rename_i cs t h
      split
      · rename_i hs
        unfold Oper.wp execOp
        simp only [hx, Instr.storeAt, Instr.sureAddr, Sem.run_bind, Sem.run_pure, Result.andThen_ok, run_storeVar_one T hi w g i cs t _ h hs.1 hs.2]
        rfl
      · rfl
    · rfl
  · rfl

/-! ### A slice literal of rows -/

theorem foldl_set_get (vs : List Value) : ∀ (k off : Nat) (cs : Array Value) (j : Nat),
    ((vs.zipIdx k).foldl (fun (cs : Array Value) (c : Value × Nat) => cs.setIfInBounds (off + c.2) c.1) cs)[j]? =
      if off + k ≤ j ∧ j < off + k + vs.length ∧ j < cs.size then vs[j - (off + k)]? else cs[j]? := by
  induction vs with
  | nil =>
    intro k off cs j
    simp only [List.zipIdx_nil, List.foldl_nil, List.length_nil]
    rw [if_neg (by omega)]
  | cons v vs ih =>
    intro k off cs j
    rw [List.zipIdx_cons, List.foldl_cons, ih, Array.size_setIfInBounds, Array.getElem?_setIfInBounds, List.length_cons]
    by_cases e : off + k = j
    · subst e
      by_cases hj : off + k < cs.size
      · rw [if_neg (by omega), if_pos rfl, if_pos hj, if_pos (by omega)]
        simp
      · rw [if_neg (by omega), if_pos rfl, if_neg hj, if_neg (by omega), Array.getElem?_eq_none (by omega)]
    · rw [if_neg e]
      by_cases h : off + (k + 1) ≤ j ∧ j < off + (k + 1) + vs.length ∧ j < cs.size
      · rw [if_pos h, if_pos (by omega)]
        have : j - (off + k) = (j - (off + (k + 1))) + 1 := by omega
        rw [this]
        simp
      · rw [if_neg h, if_neg (by omega)]

theorem foldl_set_size (vs : List Value) (k off : Nat) : ∀ (cs : Array Value), ((vs.zipIdx k).foldl (fun (cs : Array Value) (c : Value × Nat) => cs.setIfInBounds (off + c.2) c.1) cs).size = cs.size := by
  induction vs generalizing k with
  | nil => intro cs; rfl
  | cons v vs ih =>
    intro cs
    rw [List.zipIdx_cons, List.foldl_cons, ih, Array.size_setIfInBounds]

/-- The cells of parts, one behind the other. -/
def joinCells : List (Array Value) → Array Value
  | [] => #[]
  | p :: ps => p ++ joinCells ps

theorem joinCells_size (n : Nat) : ∀ ps : List (Array Value), (∀ p, p ∈ ps → p.size = n) → (joinCells ps).size = ps.length * n
  | [], _ => by simp [joinCells]
  | p :: ps, h => by
    rw [joinCells, Array.size_append, h p (by simp), joinCells_size n ps (fun q hq => h q (by simp [hq])), List.length_cons, Nat.add_mul]
    omega

/-- All parts in their places: 'acc' are those ahead. -/
theorem fill_rows (n : Nat) : ∀ (ps : List (Array Value)) (i : Nat) (acc : Array Value) (cells : Array Value), (∀ p, p ∈ ps → p.size = n) → acc.size = i * n → cells.size = (i + ps.length) * n →
    (∀ j, j < i * n → cells[j]? = acc[j]?) →
    Instr.fill (fun i => some (i * n, n)) cells ((ps.zipIdx i).map fun (p : Array Value × Nat) => (p.2, Value.agg p.1)) = some (acc ++ joinCells ps)
  | [], i, acc, cells, _, ha, hc, hj => by
    simp only [List.zipIdx_nil, List.map_nil, Instr.fill, joinCells, Array.append_empty]
    congr 1
    apply Array.ext_getElem?
    intro j
    by_cases h : j < i * n
    · exact hj j h
    · rw [Array.getElem?_eq_none (by simp only [List.length_nil, Nat.add_zero] at hc; omega), Array.getElem?_eq_none (by omega)]
  | p :: ps, i, acc, cells, h, ha, hc, hj => by
    have hp := h p (by simp)
    have hle : (i + (p :: ps).length) * n = i * n + n + ps.length * n := by rw [List.length_cons, Nat.add_mul, Nat.add_mul]; omega
    rw [List.zipIdx_cons, List.map_cons]
    unfold Instr.fill
    simp only
    have hcell : (Value.agg p).cells = p := rfl
    rw [hcell]
    have hcond : (decide (p.size ≠ n) || decide (i * n + p.size > cells.size)) = false := by
      rw [hp, hc, hle]
      simp only [ne_eq, not_true_eq_false, decide_false, Bool.false_or, decide_eq_false_iff_not]
      omega
    rw [hcond]
    simp only [Bool.false_eq_true, if_false]
    have ef : p.zipIdx.foldl (fun cs (x : Value × Nat) => cs.setIfInBounds (i * n + x.2) x.1) cells = (p.toList.zipIdx 0).foldl (fun (cs : Array Value) (c : Value × Nat) => cs.setIfInBounds (i * n + c.2) c.1) cells := by
      rw [← Array.foldl_toList, Array.toList_zipIdx]
    rw [ef]
    have := fill_rows n ps (i + 1) (acc ++ p) ((p.toList.zipIdx 0).foldl (fun (cs : Array Value) (c : Value × Nat) => cs.setIfInBounds (i * n + c.2) c.1) cells) (fun q hq => h q (by simp [hq]))
      (by rw [Array.size_append, ha, hp, Nat.add_mul]; omega) (by rw [foldl_set_size, hc, List.length_cons]; congr 1; omega) (by
        intro j hlt
        rw [Nat.add_mul, Nat.one_mul] at hlt
        rw [foldl_set_get]
        by_cases hb : j < i * n
        · rw [if_neg (by omega), hj j hb, Array.getElem?_append_left (by omega)]
        · rw [if_pos (by rw [Array.length_toList, hp, hc, hle]; omega), Array.getElem?_append_right (by omega), ha, Array.getElem?_toList]
          congr 1)
    rw [this, joinCells, Array.append_assoc]

theorem run_buildSlice_rows {P : Program} (T E n z : Nat) (zs : Array Value) (hu : P.underlying T = some (.slice E)) (hs : ∀ w, (sizeOf E).run P w = .ok n w) (hv : ∀ w, (zeroValue E).run P w = .ok (.agg zs) w)
    (ps : List (Array Value)) (hp : ∀ p, p ∈ ps → p.size = n) (hlen : ps.length = z) (hn : 0 < z * n) (hle : z * n ≤ 2 ^ 24) (w : World) :
    (Instr.buildSlice T z ((ps.zipIdx 0).map fun (p : Array Value × Nat) => (p.2, Value.agg p.1)).toArray).run P w = .ok (.slice (some ⟨w.heap.size, 0, none⟩) z z) (w.alloc (.cells (joinCells ps) E)) := by
  have hf := fill_rows n ps 0 #[] ((Array.range (z * n)).map (zs[· % zs.size]!)) hp (by simp) (by simp [hlen]) (by intro j hj; omega)
  rw [Array.empty_append] at hf
  have h1 : ¬ z * n > 2 ^ 24 := by omega
  have h2 : ¬ z * n = 0 := by omega
  simp only [Instr.buildSlice, Sem.run_bind, run_underlying hu, Result.andThen_ok, hs, hv, if_neg h1, if_neg h2, Sem.run_pure, Value.cells, hf]
  rfl

theorem wp_buildSlice2 {P : Program} (T E n : Nat) (zs : Array Value) (hu : P.underlying T = some (.slice E)) (hs : ∀ w, (sizeOf E).run P w = .ok n w) (hv : ∀ w, (zeroValue E).run P w = .ok (.agg zs) w)
    (hn : 0 < n) (hle : n ≤ 2 ^ 23)
    (dst : Option Tmp) (x y : Operand) (ty : TypeId) (pos : String) (after : Array Edge) (gd : Option (Nat × Bool)) (a : Act) (w : World) (K : Act → World → Prop) (Q : Exit → Act → World → Prop) :
    Oper.wp P ⟨dst, .buildSlice T 2 #[(0, x), (1, y)], ty, pos, after, gd⟩ a w K Q = match a.eval x, a.eval y with
      | .agg p, .agg q => if p.size = n ∧ q.size = n then K (a.put dst (.slice (some ⟨w.heap.size, 0, none⟩) 2 2)) (w.alloc (.cells (p ++ q) E)) else wpRest P ⟨dst, .buildSlice T 2 #[(0, x), (1, y)], ty, pos, after, gd⟩ a w K Q
      | _, _ => wpRest P ⟨dst, .buildSlice T 2 #[(0, x), (1, y)], ty, pos, after, gd⟩ a w K Q := by
  split
  · rename_i p q hx hy
    split
    · rename_i hpq
      have h := run_buildSlice_rows T E n 2 zs hu hs hv [p, q] (by intro r hr; simp at hr; rcases hr with rfl | rfl; exact hpq.1; exact hpq.2) rfl (by omega) (by omega) w
      have e : ([p, q].zipIdx 0).map (fun (p : Array Value × Nat) => (p.2, Value.agg p.1)) = [(0, Value.agg p), (1, Value.agg q)] := rfl
      rw [e] at h
      have e2 : joinCells [p, q] = p ++ q := by simp [joinCells]
      rw [e2] at h
      have e3 : (#[(0, x), (1, y)] : Array (Nat × Operand)).map (fun (p : Nat × Operand) => (p.1, a.eval p.2)) = #[(0, Value.agg p), (1, Value.agg q)] := by simp [hx, hy]
      unfold Oper.wp execOp
      simp only [e3]
      simp only [Sem.run_bind, h, Result.andThen_ok]
      rfl
    · rfl
  · rfl

#print axioms fill_rows
#print axioms wp_load_look
#print axioms wp_store_look
end Go.Proofs.Ytnpofcnibgdjhaa
