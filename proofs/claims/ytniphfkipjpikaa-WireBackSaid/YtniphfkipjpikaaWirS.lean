/- Parts: how they are laid; what a nil writer does. -/
import Derived.Test.YtniphfkipjpikaaWirR
namespace Go.Proofs.Ytniphfkipjpikaa
open Go.RowKit

theorem num_nil (n : Int) (w : World) : Calls Try.prog 31 #[.pointer none, .int .u64 n] w fun e w' => e = .returned (.pointer none) ∧ Below w.heap.size w w' := by
  go_enter Try.func31, Try.ntmps31
  go_wp2
  go_ret
  exact ⟨rfl, bel0 _⟩
theorem text_nil (v : Value) (w : World) : Calls Try.prog 41 #[.pointer none, v] w fun e w' => e = .returned (.pointer none) ∧ Below w.heap.size w w' := by
  go_enter Try.func41, Try.ntmps41
  go_wp2
  go_ret
  exact ⟨rfl, bel0 _⟩
theorem float_nil (v : Value) (w : World) : Calls Try.prog 43 #[.pointer none, v] w fun e w' => e = .returned (.pointer none) ∧ Below w.heap.size w w' := by
  go_enter Try.func43, Try.ntmps43
  go_wp2
  go_ret
  exact ⟨rfl, bel0 _⟩
theorem bytes_nil (w : World) : Calls Try.prog 32 #[.pointer none] w fun e w' => e = .returned (.slice none 0 0) ∧ Below w.heap.size w w' := by
  go_enter Try.func32, Try.ntmps32
  go_wp2
  go_ret
  exact ⟨rfl, bel0 _⟩
set_option maxRecDepth 100000 in
set_option maxHeartbeats 1600000 in
theorem int_nil (n : Int) (w : World) : Calls Try.prog 39 #[.pointer none, .int .i64 n] w fun e w' => e = .returned (.pointer none) ∧ Below w.heap.size w w' := by
  by_cases h0 : 0 ≤ n
  all_goals
    go_enter Try.func39, Try.ntmps39
    go_wp2_with fail
    refine (num_nil _ _).mono ?_
    rintro _ w1 ⟨rfl, hb⟩
    go_wp2
    go_ret
    exact ⟨rfl, hb⟩

set_option maxRecDepth 100000 in
set_option maxHeartbeats 3200000 in
theorem vec_nil (f : Nat → Nat) (w : World) (hf : ∀ k, f k < 4294967296) :
    Calls Try.prog 45 #[.pointer none, .agg (VA f)] w fun e w' => e = .returned (.pointer none) ∧ Below w.heap.size w w' := by
  have hbA := belA (bel0 w) (.cells (VA f) 65)
  have hlx : look (w.alloc (.cells (VA f) 65)) w.heap.size = some (.cells (VA f) 65 (0, 0)) := look_alloc_at _ _ _ rfl
  go_enter Try.func45, Try.ntmps45
  go_wp2
  go_loopw [5] (fun n wr => ∃ m : Nat, m ≤ 12 ∧ n = .int .i64 m ∧ wr = w.alloc (.cells (VA f) 65)) (fun n _ => (intOf n).toNat)
  case atStart => exact ⟨12, by omega, rfl, rfl⟩
  case round =>
    obtain ⟨m, hm, rfl, rfl⟩ := hrel
    by_cases hz : 0 < m ∧ f (m - 1) = 0
    · obtain ⟨k, rfl⟩ : ∃ k, m = k + 1 := ⟨m - 1, by omega⟩
      have hk0 : f k = 0 := hz.2
      have hc : (w.alloc (.cells (VA f) 65)).cell? ⟨w.heap.size, k, none⟩ = some (.int .u32 0) := by
        rw [look_cell hlx, VA_get f k (by omega), hk0]
        rfl
      go_wp2
      go_roundw
      case rel => exact ⟨k, by omega, rfl, by simp⟩
      case measure => simp [intOf]
    · have hstop : m = 0 ∨ ∃ k, m = k + 1 ∧ f k ≠ 0 := by
        cases m with
        | zero => exact .inl rfl
        | succ k => exact .inr ⟨k, rfl, fun e => hz ⟨by omega, e⟩⟩
      have hfh := hidP hf
      clear hz hf
      have hcx : ∀ k, k < 12 → (w.alloc (.cells (VA f) 65)).cell? ⟨w.heap.size, k, none⟩ = some (.int .u32 (f k : Int)) := fun k hk => by
        rw [look_cell hlx, VA_get f k hk]
      have hch := hidP hcx
      clear hcx
      rcases hstop with rfl | ⟨k, rfl, hk0⟩
      · go_wp2_with fail
        refine (num_nil _ _).mono ?_
        rintro _ w1 ⟨rfl, hb1⟩
        have hB1 := belT hbA hb1
        go_wp2_with fail
        go_loopw [26] (fun n wr => n = .int .i64 ((0 : Nat) : Int) ∧ wr = w1) (fun n _ => 0 - (intOf n).toNat)
        case atStart => exact ⟨rfl, rfl⟩
        case round =>
          obtain ⟨rfl, rfl⟩ := hrel
          go_wp2_with fail
          go_ret
          exact ⟨rfl, hB1⟩
      · have hc := hch.out k (by omega)
        go_wp2_with fail
        refine (num_nil _ _).mono ?_
        rintro _ w1 ⟨rfl, hb1⟩
        have hsv := slice_vec w.heap.size k (by omega) w1
        have hB1 := belT hbA hb1
        have hlx1 : look w1 w.heap.size = some (.cells (VA f) 65 (0, 0)) := by rw [look_below hb1 (look_lt hlx)]; exact hlx
        go_wp2_with fail
        go_loopw [26] (fun n wr => ∃ i : Nat, i ≤ k + 1 ∧ n = .int .i64 i ∧ look wr w.heap.size = some (.cells (VA f) 65 (0, 0)) ∧ Below w.heap.size w wr) (fun n _ => k + 1 - (intOf n).toNat)
        case atStart => exact ⟨0, by omega, rfl, hlx1, hB1⟩
        case round =>
          obtain ⟨i, hi, rfl, hlr, hBr⟩ := hrel
          by_cases hlt : i < k + 1
          · have hci : wr.cell? ⟨w.heap.size, i, none⟩ = some (.int .u32 (f i : Int)) := by rw [look_cell hlr, VA_get f i (by omega)]
            go_wp2_with fail
            refine (num_nil _ _).mono ?_
            rintro _ w2 ⟨rfl, hb2⟩
            have hB2 := belT hBr hb2
            have hlr2 : look w2 w.heap.size = some (.cells (VA f) 65 (0, 0)) := by rw [look_below hb2 (look_lt hlr)]; exact hlr
            go_wp2_with fail
            go_roundw
            case rel => exact ⟨i + 1, by omega, by go_num, hlr2, hB2⟩
            case measure => simp [intOf]; omega
          · obtain rfl : i = k + 1 := by omega
            go_wp2_with fail
            go_ret
            exact ⟨rfl, hBr⟩

/-- A part. -/
structure Pt where
  kind : Int
  i : Int
  most : Int
  n : Nat
  ad : Option Addr
  cap : Nat
  bs : List Nat
  v : Nat → Nat
/-- Its text, as a slice. -/
abbrev Pt.sl (p : Pt) : Value := .slice p.ad p.bs.length p.cap
/-- Its cells. -/
def PTA (p : Pt) : Array Value := #[.int .i64 p.kind, .int .i64 p.i, .int .i64 p.most, .int .u64 (p.n : Int), p.sl] ++ VA p.v
@[go_sem] theorem PTA_size (p : Pt) : (PTA p).size = 17 := by
  unfold PTA
  rw [Array.size_append, VA_size]
  rfl
theorem PTA_low (p : Pt) (i : Nat) (h : i < 5) : (PTA p)[i]? = #[Value.int .i64 p.kind, .int .i64 p.i, .int .i64 p.most, .int .u64 (p.n : Int), p.sl][i]? := by
  unfold PTA
  rw [Array.getElem?_append_left (by simpa using h)]
@[go_sem] theorem PTA_get0 (p : Pt) : (PTA p)[0]? = some (.int .i64 p.kind) := by rw [PTA_low p 0 (by omega)]; rfl
@[go_sem] theorem PTA_get1 (p : Pt) : (PTA p)[1]? = some (.int .i64 p.i) := by rw [PTA_low p 1 (by omega)]; rfl
@[go_sem] theorem PTA_get2 (p : Pt) : (PTA p)[2]? = some (.int .i64 p.most) := by rw [PTA_low p 2 (by omega)]; rfl
@[go_sem] theorem PTA_get3 (p : Pt) : (PTA p)[3]? = some (.int .u64 (p.n : Int)) := by rw [PTA_low p 3 (by omega)]; rfl
@[go_sem] theorem PTA_get4 (p : Pt) : (PTA p)[4]? = some p.sl := by rw [PTA_low p 4 (by omega)]; rfl
theorem PTA_v (p : Pt) (i : Nat) (h : i < 12) : (PTA p)[5 + i]? = some (.int .u32 (p.v i : Int)) := by
  unfold PTA
  rw [Array.getElem?_append_right (by simp), ← VA_get p.v i h]
  congr 1
  simp
@[go_sem] theorem PTA_extract (p : Pt) : (PTA p).extract 5 17 = VA p.v := by
  apply Array.ext_getElem?
  intro i
  rw [Array.getElem?_extract]
  by_cases h : i < 12
  · rw [PTA_v p i h, VA_get p.v i h, if_pos (by rw [PTA_size]; omega)]
  · rw [Array.getElem?_eq_none (xs := VA p.v) (by rw [VA_size]; omega), if_neg (by rw [PTA_size]; omega)]
theorem PTA_oneCell (p : Pt) : (PTA p).all (·.oneCell') = true := by
  unfold PTA
  rw [Array.all_append, VA_oneCell, Bool.and_true]
  simp [Value.oneCell']
@[go_sem] theorem PTA_oneCell' (p : Pt) : (PTA p).all (·.oneCell') 0 17 = true := by
  have := PTA_oneCell p
  rw [PTA_size] at this
  exact this
theorem prt_info : (Try.prog.info? 67).map (·.size) = some 17 := by kernel_rfl
@[go_sem ↓] theorem wp_load_prt (dst : Option Tmp) (x : Operand) (ty : TypeId) (pos : String) (after : Array Edge) (gd : Option (Nat × Bool)) (a : Act) (w : World) (K : Act → World → Prop) (Q : Exit → Act → World → Prop) :
    Oper.wp Try.prog ⟨dst, .load 67 x, ty, pos, after, gd⟩ a w K Q = match a.eval x with
      | .pointer (some ⟨g, 0, none⟩) => (match look w g with
        | some (.cells cs _ _) => if cs.size = 17 then K (a.put dst (.agg cs)) w else wpRest Try.prog ⟨dst, .load 67 x, ty, pos, after, gd⟩ a w K Q
        | _ => wpRest Try.prog ⟨dst, .load 67 x, ty, pos, after, gd⟩ a w K Q)
      | _ => wpRest Try.prog ⟨dst, .load 67 x, ty, pos, after, gd⟩ a w K Q :=
  wp_load_look (P := Try.prog) 67 17 _ Try.underlying67 rfl prt_info dst x ty pos after gd a w K Q
@[go_sem ↓] theorem wp_store_prt (dst : Option Tmp) (x y : Operand) (ty : TypeId) (pos : String) (after : Array Edge) (gd : Option (Nat × Bool)) (a : Act) (w : World) (K : Act → World → Prop) (Q : Exit → Act → World → Prop) :
    Oper.wp Try.prog ⟨dst, .store 67 x y, ty, pos, after, gd⟩ a w K Q = match a.eval x, a.eval y with
      | .pointer (some ⟨g, 0, none⟩), .agg vs => (match look w g with
        | some (.cells cs _ (0, 0)) => if cs.size = 17 ∧ vs.size = 17 ∧ vs.all (·.oneCell') = true then K (a.put dst undef) (w.setRow g vs) else wpRest Try.prog ⟨dst, .store 67 x y, ty, pos, after, gd⟩ a w K Q
        | _ => wpRest Try.prog ⟨dst, .store 67 x y, ty, pos, after, gd⟩ a w K Q)
      | _, _ => wpRest Try.prog ⟨dst, .store 67 x y, ty, pos, after, gd⟩ a w K Q :=
  wp_store_look (P := Try.prog) 67 17 prt_info dst x y ty pos after gd a w K Q
theorem ret_prt {fn : Func} {R : Ending → World → Prop} {a : Act} {w : World} {p g : Nat} {cs : Array Value} {t : TypeId} {fr : Nat × Nat} (h : fn.results = #[.cell p 67])
    (hp : a.tmps.getD p undef = .pointer (some ⟨g, 0, none⟩)) (hg : look w g = some (.cells cs t fr)) (hn : cs.size = 17) (hd : a.defers = []) (hR : R (.returned (.agg cs)) w) : bodyPost Try.prog fn R .ret a w :=
  bodyPost_ret (results_cell_row h _ _ g t cs fr _ hp hg Try.underlying67 rfl (by rw [hn]; exact prt_info)) hd hR

/-- What an operation asks where that does not tell either. -/
def wpRestT (P : Program) (o : Oper) (a : Act) (w : World) (K : Act → World → Prop) (Q : Exit → Act → World → Prop) : Prop := o.wp P a w K Q
/-- The vector of a part is loaded. -/
@[go_sem] theorem wp_load_tail (dst : Option Tmp) (x : Operand) (ty : TypeId) (pos : String) (after : Array Edge) (gd : Option (Nat × Bool)) (a : Act) (w : World) (K : Act → World → Prop) (Q : Exit → Act → World → Prop) :
    wpRest Try.prog ⟨dst, .load 65 x, ty, pos, after, gd⟩ a w K Q = match a.eval x with
      | .pointer (some ⟨g, 5, none⟩) => (match look w g with
        | some (.cells cs _ _) => if cs.size = 17 then K (a.put dst (.agg (cs.extract 5 17))) w else wpRestT Try.prog ⟨dst, .load 65 x, ty, pos, after, gd⟩ a w K Q
        | _ => wpRestT Try.prog ⟨dst, .load 65 x, ty, pos, after, gd⟩ a w K Q)
      | _ => wpRestT Try.prog ⟨dst, .load 65 x, ty, pos, after, gd⟩ a w K Q := by
  split
  · rename_i g hx
    split
    · rename_i cs t fr h
      split
      · rename_i hs
        have hr : w.rangeAt g 5 (cs.extract 5 17).toList := fun j v hv => by
          rw [look_cell h]
          have hj : j < 12 := by
            have := (List.getElem?_eq_some_iff.1 hv).1
            rw [Array.length_toList, Array.size_extract, hs] at this
            omega
          rw [Array.getElem?_toList, Array.getElem?_extract] at hv
          split at hv
          · exact hv
          · cases hv
        unfold wpRest Oper.wp execOp
        have hl := run_loadVar_mid (P := Try.prog) w g 5 65 (cs.extract 5 17).toList _ hr Try.underlying65 rfl (by rw [Array.length_toList, Array.size_extract, hs]; exact vec_info)
        simp only [hx, Instr.loadAt, Instr.sureAddr, Sem.run_bind, Sem.run_pure, Result.andThen_ok, hl]
        rfl
      · rfl
    · rfl
  · rfl

theorem great_any (p : Pt) (w : World) (h : p.bs.length ≤ 9223372036854775807) :
    Calls Try.prog 34 #[.agg (PTA p)] w fun e w' => e = .returned (.bool (decide (500 < (p.bs.length : Int)))) ∧ Below w.heap.size w w' := by
  have hb := belA (bel0 w) (.cells (PTA p) 67)
  have hlx : look (w.alloc (.cells (PTA p) 67)) w.heap.size = some (.cells (PTA p) 67 (0, 0)) := look_alloc_at _ _ _ rfl
  have c4 : World.cell? (w.alloc (.cells (PTA p) 67)) ⟨w.heap.size, 4, none⟩ = some p.sl := by rw [look_cell hlx]; exact PTA_get4 _
  go_enter Try.func34, Try.ntmps34
  go_wp2
  go_ret
  exact ⟨rfl, hb⟩
end Go.Proofs.Ytniphfkipjpikaa
