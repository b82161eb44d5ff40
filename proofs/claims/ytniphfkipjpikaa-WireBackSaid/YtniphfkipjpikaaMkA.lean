/- Contracts: marks, one by one. -/
import Derived.Test.YtniphfkipjpikaaMkP
import Derived.Test.YtniphfkipjpikaaTotA
import Derived.Test.YtniphfkipjpikaaReg
namespace Go.Proofs.Ytniphfkipjpikaa
open Go.RowKit Flt

@[go_sem] theorem one_int (k : IntKind) (n : Int) : (Value.int k n).oneCell' = true := rfl
@[go_sem] theorem one_bool (b : Bool) : (Value.bool b).oneCell' = true := rfl
@[go_sem] theorem one_float (k : FloatKind) (n : Nat) : (Value.float k n).oneCell' = true := rfl
theorem si_info : (Try.prog.info? 3).map (·.size) = some 1 := by kernel_rfl
@[go_sem ↓] theorem wp_store_si (dst : Option Tmp) (x y : Operand) (ty : TypeId) (pos : String) (after : Array Edge) (gd : Option (Nat × Bool)) (a : Act) (w : World) (K : Act → World → Prop) (Q : Exit → Act → World → Prop) :
    Oper.wp Try.prog ⟨dst, .store 3 x y, ty, pos, after, gd⟩ a w K Q = match a.eval x with
      | .pointer (some ⟨g, i, none⟩) => (match look w g with
        | some (.cells cs _ (0, 0)) => if i < cs.size ∧ (a.eval y).oneCell' = true then K (a.put dst undef) (w.setCell ⟨g, i, none⟩ (a.eval y)) else wpRest Try.prog ⟨dst, .store 3 x y, ty, pos, after, gd⟩ a w K Q
        | _ => wpRest Try.prog ⟨dst, .store 3 x y, ty, pos, after, gd⟩ a w K Q)
      | _ => wpRest Try.prog ⟨dst, .store 3 x y, ty, pos, after, gd⟩ a w K Q :=
  wp_store_cell (P := Try.prog) 3 si_info dst x y ty pos after gd a w K Q
theorem sb_info : (Try.prog.info? 4).map (·.size) = some 1 := by kernel_rfl
@[go_sem ↓] theorem wp_store_sb (dst : Option Tmp) (x y : Operand) (ty : TypeId) (pos : String) (after : Array Edge) (gd : Option (Nat × Bool)) (a : Act) (w : World) (K : Act → World → Prop) (Q : Exit → Act → World → Prop) :
    Oper.wp Try.prog ⟨dst, .store 4 x y, ty, pos, after, gd⟩ a w K Q = match a.eval x with
      | .pointer (some ⟨g, i, none⟩) => (match look w g with
        | some (.cells cs _ (0, 0)) => if i < cs.size ∧ (a.eval y).oneCell' = true then K (a.put dst undef) (w.setCell ⟨g, i, none⟩ (a.eval y)) else wpRest Try.prog ⟨dst, .store 4 x y, ty, pos, after, gd⟩ a w K Q
        | _ => wpRest Try.prog ⟨dst, .store 4 x y, ty, pos, after, gd⟩ a w K Q)
      | _ => wpRest Try.prog ⟨dst, .store 4 x y, ty, pos, after, gd⟩ a w K Q :=
  wp_store_cell (P := Try.prog) 4 sb_info dst x y ty pos after gd a w K Q
theorem sf_info : (Try.prog.info? 27).map (·.size) = some 1 := by kernel_rfl
@[go_sem ↓] theorem wp_store_sf (dst : Option Tmp) (x y : Operand) (ty : TypeId) (pos : String) (after : Array Edge) (gd : Option (Nat × Bool)) (a : Act) (w : World) (K : Act → World → Prop) (Q : Exit → Act → World → Prop) :
    Oper.wp Try.prog ⟨dst, .store 27 x y, ty, pos, after, gd⟩ a w K Q = match a.eval x with
      | .pointer (some ⟨g, i, none⟩) => (match look w g with
        | some (.cells cs _ (0, 0)) => if i < cs.size ∧ (a.eval y).oneCell' = true then K (a.put dst undef) (w.setCell ⟨g, i, none⟩ (a.eval y)) else wpRest Try.prog ⟨dst, .store 27 x y, ty, pos, after, gd⟩ a w K Q
        | _ => wpRest Try.prog ⟨dst, .store 27 x y, ty, pos, after, gd⟩ a w K Q)
      | _ => wpRest Try.prog ⟨dst, .store 27 x y, ty, pos, after, gd⟩ a w K Q :=
  wp_store_cell (P := Try.prog) 27 sf_info dst x y ty pos after gd a w K Q
theorem su_info : (Try.prog.info? 23).map (·.size) = some 1 := by kernel_rfl
@[go_sem ↓] theorem wp_store_su (dst : Option Tmp) (x y : Operand) (ty : TypeId) (pos : String) (after : Array Edge) (gd : Option (Nat × Bool)) (a : Act) (w : World) (K : Act → World → Prop) (Q : Exit → Act → World → Prop) :
    Oper.wp Try.prog ⟨dst, .store 23 x y, ty, pos, after, gd⟩ a w K Q = match a.eval x with
      | .pointer (some ⟨g, i, none⟩) => (match look w g with
        | some (.cells cs _ (0, 0)) => if i < cs.size ∧ (a.eval y).oneCell' = true then K (a.put dst undef) (w.setCell ⟨g, i, none⟩ (a.eval y)) else wpRest Try.prog ⟨dst, .store 23 x y, ty, pos, after, gd⟩ a w K Q
        | _ => wpRest Try.prog ⟨dst, .store 23 x y, ty, pos, after, gd⟩ a w K Q)
      | _ => wpRest Try.prog ⟨dst, .store 23 x y, ty, pos, after, gd⟩ a w K Q :=
  wp_store_cell (P := Try.prog) 23 su_info dst x y ty pos after gd a w K Q
theorem mk_info : (Try.prog.info? 29).map (·.size) = some 3 := by kernel_rfl
@[go_sem ↓] theorem wp_load_mk (dst : Option Tmp) (x : Operand) (ty : TypeId) (pos : String) (after : Array Edge) (gd : Option (Nat × Bool)) (a : Act) (w : World) (K : Act → World → Prop) (Q : Exit → Act → World → Prop) :
    Oper.wp Try.prog ⟨dst, .load 29 x, ty, pos, after, gd⟩ a w K Q = match a.eval x with
      | .pointer (some ⟨g, 0, none⟩) => (match look w g with
        | some (.cells cs _ _) => if cs.size = 3 then K (a.put dst (.agg cs)) w else wpRest Try.prog ⟨dst, .load 29 x, ty, pos, after, gd⟩ a w K Q
        | _ => wpRest Try.prog ⟨dst, .load 29 x, ty, pos, after, gd⟩ a w K Q)
      | _ => wpRest Try.prog ⟨dst, .load 29 x, ty, pos, after, gd⟩ a w K Q :=
  wp_load_look (P := Try.prog) 29 3 _ Try.underlying29 rfl mk_info dst x ty pos after gd a w K Q
@[go_sem ↓] theorem wp_store_mk (dst : Option Tmp) (x y : Operand) (ty : TypeId) (pos : String) (after : Array Edge) (gd : Option (Nat × Bool)) (a : Act) (w : World) (K : Act → World → Prop) (Q : Exit → Act → World → Prop) :
    Oper.wp Try.prog ⟨dst, .store 29 x y, ty, pos, after, gd⟩ a w K Q = match a.eval x, a.eval y with
      | .pointer (some ⟨g, 0, none⟩), .agg vs => (match look w g with
        | some (.cells cs _ (0, 0)) => if cs.size = 3 ∧ vs.size = 3 ∧ vs.all (·.oneCell') = true then K (a.put dst undef) (w.setRow g vs) else wpRest Try.prog ⟨dst, .store 29 x y, ty, pos, after, gd⟩ a w K Q
        | _ => wpRest Try.prog ⟨dst, .store 29 x y, ty, pos, after, gd⟩ a w K Q)
      | _, _ => wpRest Try.prog ⟨dst, .store 29 x y, ty, pos, after, gd⟩ a w K Q :=
  wp_store_look (P := Try.prog) 29 3 mk_info dst x y ty pos after gd a w K Q
theorem ret_mk {fn : Func} {R : Ending → World → Prop} {a : Act} {w : World} {p g : Nat} {cs : Array Value} {t : TypeId} {fr : Nat × Nat} (h : fn.results = #[.cell p 29])
    (hp : a.tmps.getD p undef = .pointer (some ⟨g, 0, none⟩)) (hg : look w g = some (.cells cs t fr)) (hn : cs.size = 3) (hd : a.defers = []) (hR : R (.returned (.agg cs)) w) : bodyPost Try.prog fn R .ret a w :=
  bodyPost_ret (results_cell_row h _ _ g t cs fr _ hp hg Try.underlying29 rfl (by rw [hn]; exact mk_info)) hd hR
theorem rk_info : (Try.prog.info? 25).map (·.size) = some 3 := by kernel_rfl
@[go_sem ↓] theorem wp_load_rk (dst : Option Tmp) (x : Operand) (ty : TypeId) (pos : String) (after : Array Edge) (gd : Option (Nat × Bool)) (a : Act) (w : World) (K : Act → World → Prop) (Q : Exit → Act → World → Prop) :
    Oper.wp Try.prog ⟨dst, .load 25 x, ty, pos, after, gd⟩ a w K Q = match a.eval x with
      | .pointer (some ⟨g, 0, none⟩) => (match look w g with
        | some (.cells cs _ _) => if cs.size = 3 then K (a.put dst (.agg cs)) w else wpRest Try.prog ⟨dst, .load 25 x, ty, pos, after, gd⟩ a w K Q
        | _ => wpRest Try.prog ⟨dst, .load 25 x, ty, pos, after, gd⟩ a w K Q)
      | _ => wpRest Try.prog ⟨dst, .load 25 x, ty, pos, after, gd⟩ a w K Q :=
  wp_load_look (P := Try.prog) 25 3 _ Try.underlying25 rfl rk_info dst x ty pos after gd a w K Q
@[go_sem ↓] theorem wp_store_rk (dst : Option Tmp) (x y : Operand) (ty : TypeId) (pos : String) (after : Array Edge) (gd : Option (Nat × Bool)) (a : Act) (w : World) (K : Act → World → Prop) (Q : Exit → Act → World → Prop) :
    Oper.wp Try.prog ⟨dst, .store 25 x y, ty, pos, after, gd⟩ a w K Q = match a.eval x, a.eval y with
      | .pointer (some ⟨g, 0, none⟩), .agg vs => (match look w g with
        | some (.cells cs _ (0, 0)) => if cs.size = 3 ∧ vs.size = 3 ∧ vs.all (·.oneCell') = true then K (a.put dst undef) (w.setRow g vs) else wpRest Try.prog ⟨dst, .store 25 x y, ty, pos, after, gd⟩ a w K Q
        | _ => wpRest Try.prog ⟨dst, .store 25 x y, ty, pos, after, gd⟩ a w K Q)
      | _, _ => wpRest Try.prog ⟨dst, .store 25 x y, ty, pos, after, gd⟩ a w K Q :=
  wp_store_look (P := Try.prog) 25 3 rk_info dst x y ty pos after gd a w K Q
theorem ret_rk {fn : Func} {R : Ending → World → Prop} {a : Act} {w : World} {p g : Nat} {cs : Array Value} {t : TypeId} {fr : Nat × Nat} (h : fn.results = #[.cell p 25])
    (hp : a.tmps.getD p undef = .pointer (some ⟨g, 0, none⟩)) (hg : look w g = some (.cells cs t fr)) (hn : cs.size = 3) (hd : a.defers = []) (hR : R (.returned (.agg cs)) w) : bodyPost Try.prog fn R .ret a w :=
  bodyPost_ret (results_cell_row h _ _ g t cs fr _ hp hg Try.underlying25 rfl (by rw [hn]; exact rk_info)) hd hR
theorem tt_info : (Try.prog.info? 47).map (·.size) = some 4 := by kernel_rfl
@[go_sem ↓] theorem wp_load_tt (dst : Option Tmp) (x : Operand) (ty : TypeId) (pos : String) (after : Array Edge) (gd : Option (Nat × Bool)) (a : Act) (w : World) (K : Act → World → Prop) (Q : Exit → Act → World → Prop) :
    Oper.wp Try.prog ⟨dst, .load 47 x, ty, pos, after, gd⟩ a w K Q = match a.eval x with
      | .pointer (some ⟨g, 0, none⟩) => (match look w g with
        | some (.cells cs _ _) => if cs.size = 4 then K (a.put dst (.agg cs)) w else wpRest Try.prog ⟨dst, .load 47 x, ty, pos, after, gd⟩ a w K Q
        | _ => wpRest Try.prog ⟨dst, .load 47 x, ty, pos, after, gd⟩ a w K Q)
      | _ => wpRest Try.prog ⟨dst, .load 47 x, ty, pos, after, gd⟩ a w K Q :=
  wp_load_look (P := Try.prog) 47 4 _ Try.underlying47 rfl tt_info dst x ty pos after gd a w K Q
@[go_sem ↓] theorem wp_store_tt (dst : Option Tmp) (x y : Operand) (ty : TypeId) (pos : String) (after : Array Edge) (gd : Option (Nat × Bool)) (a : Act) (w : World) (K : Act → World → Prop) (Q : Exit → Act → World → Prop) :
    Oper.wp Try.prog ⟨dst, .store 47 x y, ty, pos, after, gd⟩ a w K Q = match a.eval x, a.eval y with
      | .pointer (some ⟨g, 0, none⟩), .agg vs => (match look w g with
        | some (.cells cs _ (0, 0)) => if cs.size = 4 ∧ vs.size = 4 ∧ vs.all (·.oneCell') = true then K (a.put dst undef) (w.setRow g vs) else wpRest Try.prog ⟨dst, .store 47 x y, ty, pos, after, gd⟩ a w K Q
        | _ => wpRest Try.prog ⟨dst, .store 47 x y, ty, pos, after, gd⟩ a w K Q)
      | _, _ => wpRest Try.prog ⟨dst, .store 47 x y, ty, pos, after, gd⟩ a w K Q :=
  wp_store_look (P := Try.prog) 47 4 tt_info dst x y ty pos after gd a w K Q
theorem ret_tt {fn : Func} {R : Ending → World → Prop} {a : Act} {w : World} {p g : Nat} {cs : Array Value} {t : TypeId} {fr : Nat × Nat} (h : fn.results = #[.cell p 47])
    (hp : a.tmps.getD p undef = .pointer (some ⟨g, 0, none⟩)) (hg : look w g = some (.cells cs t fr)) (hn : cs.size = 4) (hd : a.defers = []) (hR : R (.returned (.agg cs)) w) : bodyPost Try.prog fn R .ret a w :=
  bodyPost_ret (results_cell_row h _ _ g t cs fr _ hp hg Try.underlying47 rfl (by rw [hn]; exact tt_info)) hd hR
theorem rt_info : (Try.prog.info? 45).map (·.size) = some 4 := by kernel_rfl
@[go_sem ↓] theorem wp_load_rt (dst : Option Tmp) (x : Operand) (ty : TypeId) (pos : String) (after : Array Edge) (gd : Option (Nat × Bool)) (a : Act) (w : World) (K : Act → World → Prop) (Q : Exit → Act → World → Prop) :
    Oper.wp Try.prog ⟨dst, .load 45 x, ty, pos, after, gd⟩ a w K Q = match a.eval x with
      | .pointer (some ⟨g, 0, none⟩) => (match look w g with
        | some (.cells cs _ _) => if cs.size = 4 then K (a.put dst (.agg cs)) w else wpRest Try.prog ⟨dst, .load 45 x, ty, pos, after, gd⟩ a w K Q
        | _ => wpRest Try.prog ⟨dst, .load 45 x, ty, pos, after, gd⟩ a w K Q)
      | _ => wpRest Try.prog ⟨dst, .load 45 x, ty, pos, after, gd⟩ a w K Q :=
  wp_load_look (P := Try.prog) 45 4 _ Try.underlying45 rfl rt_info dst x ty pos after gd a w K Q
@[go_sem ↓] theorem wp_store_rt (dst : Option Tmp) (x y : Operand) (ty : TypeId) (pos : String) (after : Array Edge) (gd : Option (Nat × Bool)) (a : Act) (w : World) (K : Act → World → Prop) (Q : Exit → Act → World → Prop) :
    Oper.wp Try.prog ⟨dst, .store 45 x y, ty, pos, after, gd⟩ a w K Q = match a.eval x, a.eval y with
      | .pointer (some ⟨g, 0, none⟩), .agg vs => (match look w g with
        | some (.cells cs _ (0, 0)) => if cs.size = 4 ∧ vs.size = 4 ∧ vs.all (·.oneCell') = true then K (a.put dst undef) (w.setRow g vs) else wpRest Try.prog ⟨dst, .store 45 x y, ty, pos, after, gd⟩ a w K Q
        | _ => wpRest Try.prog ⟨dst, .store 45 x y, ty, pos, after, gd⟩ a w K Q)
      | _, _ => wpRest Try.prog ⟨dst, .store 45 x y, ty, pos, after, gd⟩ a w K Q :=
  wp_store_look (P := Try.prog) 45 4 rt_info dst x y ty pos after gd a w K Q
theorem ret_rt {fn : Func} {R : Ending → World → Prop} {a : Act} {w : World} {p g : Nat} {cs : Array Value} {t : TypeId} {fr : Nat × Nat} (h : fn.results = #[.cell p 45])
    (hp : a.tmps.getD p undef = .pointer (some ⟨g, 0, none⟩)) (hg : look w g = some (.cells cs t fr)) (hn : cs.size = 4) (hd : a.defers = []) (hR : R (.returned (.agg cs)) w) : bodyPost Try.prog fn R .ret a w :=
  bodyPost_ret (results_cell_row h _ _ g t cs fr _ hp hg Try.underlying45 rfl (by rw [hn]; exact rt_info)) hd hR

theorem rright_any (F : Int) (H : Bool) (p : Nat) (w : World) :
    Calls Try.prog 15 #[.agg #[.int .i64 F, .bool H, .int .u64 (p : Int)]] w fun e w' => e = .returned (.bool (rightM F H p)) ∧ Below w.heap.size w w' := by
  unfold rightM
  by_cases h1 : 0 ≤ F
  · by_cases h2 : F ≤ 3
    · have h2' : F < 4 := by omega
      cases H
      · by_cases h3 : p = 0
        · subst h3
          go_enter Try.func15, Try.ntmps15
          go_wp2
          go_ret
          exact ⟨by simp [h1, h2], belA (bel0 _) _⟩
        · have h3' : ¬ (p : Int) = 0 := by omega
          go_enter Try.func15, Try.ntmps15
          go_wp2
          go_ret
          exact ⟨by simp [h1, h2, h3], belA (bel0 _) _⟩
      · go_enter Try.func15, Try.ntmps15
        go_wp2
        go_ret
        exact ⟨by simp [h1, h2], belA (bel0 _) _⟩
    · have h2' : ¬ F < 4 := by omega
      go_enter Try.func15, Try.ntmps15
      go_wp2
      go_ret
      exact ⟨by simp [h2]; intro h; omega, belA (bel0 _) _⟩
  · go_enter Try.func15, Try.ntmps15
    go_wp2
    go_ret
    exact ⟨by simp [h1]; intro h; omega, belA (bel0 _) _⟩

theorem mright_any (F : Int) (H : Bool) (p : Nat) (hp : p < 18446744073709551616) (w : World) :
    Calls Try.prog 20 #[.agg #[.int .i64 F, .bool H, .float .f64 p]] w fun e w' => e = .returned (.bool (rightM F H p)) ∧ Below w.heap.size w w' := by
  unfold rightM
  by_cases h1 : 0 ≤ F
  · by_cases h2 : F ≤ 3
    · cases H
      · go_enter Try.func20, Try.ntmps20
        go_wp2_with fail
        refine (total_same p 0 hp (by decide) _).mono ?_
        rintro _ _ ⟨rfl, rfl⟩
        go_wp2
        go_ret
        exact ⟨by simp [h1, h2], belA (bel0 _) _⟩
      · go_enter Try.func20, Try.ntmps20
        go_wp2
        go_ret
        exact ⟨by simp [h1, h2], belA (bel0 _) _⟩
    · go_enter Try.func20, Try.ntmps20
      go_wp2
      go_ret
      exact ⟨by simp [h2]; intro h; omega, belA (bel0 _) _⟩
  · go_enter Try.func20, Try.ntmps20
    go_wp2
    go_ret
    exact ⟨by simp [h1]; intro h; omega, belA (bel0 _) _⟩

theorem msame_any (F : Int) (H : Bool) (p : Nat) (G : Int) (I : Bool) (q : Nat) (hp : p < 18446744073709551616) (hq : q < 18446744073709551616) (w : World) :
    Calls Try.prog 21 #[.agg #[.int .i64 F, .bool H, .float .f64 p], .agg #[.int .i64 G, .bool I, .float .f64 q]] w fun e w' => e = .returned (.bool (sameM F H p G I q)) ∧ Below w.heap.size w w' := by
  unfold sameM
  by_cases h1 : F = G
  · subst h1
    by_cases h2 : H = I
    · subst h2
      go_enter Try.func21, Try.ntmps21
      go_wp2_with fail
      refine (total_same p q hp hq _).mono ?_
      rintro _ _ ⟨rfl, rfl⟩
      go_wp2
      go_ret
      exact ⟨by simp, belA (belA (bel0 _) _) _⟩
    · have h2' : (H == I) = false := by simp [h2]
      go_enter Try.func21, Try.ntmps21
      go_wp2
      go_ret
      exact ⟨by simp [h2], belA (belA (bel0 _) _) _⟩
  · go_enter Try.func21, Try.ntmps21
    go_wp2
    go_ret
    exact ⟨by simp [h1], belA (belA (bel0 _) _) _⟩

/-- The mark of a flag alone. -/
def flagV (n : Int) : Int := if 0 ≤ n ∧ n ≤ 3 then n else 0
theorem mflag_any (n : Int) (w : World) :
    Calls Try.prog 22 #[.int .i64 n] w fun e w' => e = .returned (.agg #[.int .i64 (flagV n), .bool false, .float .f64 0]) ∧ Below w.heap.size w w' := by
  unfold flagV
  by_cases h1 : n < 0
  · rw [if_neg (by omega)]
    go_enter Try.func22, Try.ntmps22
    go_wp2
    exact ret_mk (g := w.heap.size) (t := 29) (fr := (0, 0)) Try.results22 rfl (by go_simp) rfl rfl ⟨rfl, belA (bel0 _) _⟩
  · by_cases h2 : 3 < n
    · rw [if_neg (by omega)]
      go_enter Try.func22, Try.ntmps22
      go_wp2
      exact ret_mk (g := w.heap.size) (t := 29) (fr := (0, 0)) Try.results22 rfl (by go_simp) rfl rfl ⟨rfl, belA (bel0 _) _⟩
    · rw [if_pos (by omega)]
      go_enter Try.func22, Try.ntmps22
      go_wp2
      exact ret_mk (g := w.heap.size) (t := 29) (fr := (0, 0)) Try.results22 rfl (by go_simp) rfl rfl ⟨rfl, belA (bel0 _) _⟩
theorem mprice_any (p : Nat) (w : World) :
    Calls Try.prog 23 #[.float .f64 p] w fun e w' => e = .returned (.agg #[.int .i64 0, .bool true, .float .f64 p]) ∧ Below w.heap.size w w' := by
  go_enter Try.func23, Try.ntmps23
  go_wp2
  exact ret_mk (g := w.heap.size) (t := 29) (fr := (0, 0)) Try.results23 rfl (by go_simp) rfl rfl ⟨rfl, belA (bel0 _) _⟩

theorem mkey_any (p : Nat) (hp : p < 18446744073709551616) (w : World) :
    Calls Try.prog 61 #[.int .u64 (p : Int)] w fun e w' => e = .returned (.int .u64 (keyF p : Nat)) ∧ Below w.heap.size w w' := by
  go_enter Try.func61, Try.ntmps61
  go_wp2_with fail
  refine (ref_key p hp _).mono ?_
  rintro _ _ ⟨rfl, rfl⟩
  go_wp2
  go_ret
  exact ⟨rfl, bel0 _⟩
end Go.Proofs.Ytniphfkipjpikaa
