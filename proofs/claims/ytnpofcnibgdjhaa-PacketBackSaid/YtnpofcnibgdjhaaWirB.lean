/- The writer of bytes: a new one; its bytes; a number. -/
import Derived.Test.YtnpofcnibgdjhaaWirA
namespace Go.Proofs.Ytnpofcnibgdjhaa
open Go.RowKit

theorem infoB : (Try.prog.info? 5).map (fun i => (i.zero, i.size, i.bytes)) = some (some (.int .u8 0), 1, 1) := by kernel_rfl
theorem ss_info : (Try.prog.info? 30).map (·.size) = some 1 := by kernel_rfl
@[go_sem ↓] theorem wp_store_ss (dst : Option Tmp) (x y : Operand) (ty : TypeId) (pos : String) (after : Array Edge) (gd : Option (Nat × Bool)) (a : Act) (w : World) (K : Act → World → Prop) (Q : Exit → Act → World → Prop) :
    Oper.wp Try.prog ⟨dst, .store 30 x y, ty, pos, after, gd⟩ a w K Q = match a.eval x with
      | .pointer (some ⟨g, i, none⟩) => (match look w g with
        | some (.cells cs _ (0, 0)) => if i < cs.size ∧ (a.eval y).oneCell' = true then K (a.put dst undef) (w.setCell ⟨g, i, none⟩ (a.eval y)) else wpRest Try.prog ⟨dst, .store 30 x y, ty, pos, after, gd⟩ a w K Q
        | _ => wpRest Try.prog ⟨dst, .store 30 x y, ty, pos, after, gd⟩ a w K Q)
      | _ => wpRest Try.prog ⟨dst, .store 30 x y, ty, pos, after, gd⟩ a w K Q :=
  wp_store_cell (P := Try.prog) 30 ss_info dst x y ty pos after gd a w K Q
theorem ww_info : (Try.prog.info? 161).map (·.size) = some 1 := by kernel_rfl
@[go_sem ↓] theorem wp_load_ww (dst : Option Tmp) (x : Operand) (ty : TypeId) (pos : String) (after : Array Edge) (gd : Option (Nat × Bool)) (a : Act) (w : World) (K : Act → World → Prop) (Q : Exit → Act → World → Prop) :
    Oper.wp Try.prog ⟨dst, .load 161 x, ty, pos, after, gd⟩ a w K Q = match a.eval x with
      | .pointer (some ⟨g, 0, none⟩) => (match look w g with
        | some (.cells cs _ _) => if cs.size = 1 then K (a.put dst (.agg cs)) w else wpRest Try.prog ⟨dst, .load 161 x, ty, pos, after, gd⟩ a w K Q
        | _ => wpRest Try.prog ⟨dst, .load 161 x, ty, pos, after, gd⟩ a w K Q)
      | _ => wpRest Try.prog ⟨dst, .load 161 x, ty, pos, after, gd⟩ a w K Q :=
  wp_load_look (P := Try.prog) 161 1 _ Try.underlying161 rfl ww_info dst x ty pos after gd a w K Q
@[go_sem ↓] theorem wp_store_ww (dst : Option Tmp) (x y : Operand) (ty : TypeId) (pos : String) (after : Array Edge) (gd : Option (Nat × Bool)) (a : Act) (w : World) (K : Act → World → Prop) (Q : Exit → Act → World → Prop) :
    Oper.wp Try.prog ⟨dst, .store 161 x y, ty, pos, after, gd⟩ a w K Q = match a.eval x, a.eval y with
      | .pointer (some ⟨g, 0, none⟩), .agg vs => (match look w g with
        | some (.cells cs _ (0, 0)) => if cs.size = 1 ∧ vs.size = 1 ∧ vs.all (·.oneCell') = true then K (a.put dst undef) (w.setRow g vs) else wpRest Try.prog ⟨dst, .store 161 x y, ty, pos, after, gd⟩ a w K Q
        | _ => wpRest Try.prog ⟨dst, .store 161 x y, ty, pos, after, gd⟩ a w K Q)
      | _, _ => wpRest Try.prog ⟨dst, .store 161 x y, ty, pos, after, gd⟩ a w K Q :=
  wp_store_look (P := Try.prog) 161 1 ww_info dst x y ty pos after gd a w K Q
theorem ret_ww {fn : Func} {R : Ending → World → Prop} {a : Act} {w : World} {p g : Nat} {cs : Array Value} {t : TypeId} {fr : Nat × Nat} (h : fn.results = #[.cell p 161])
    (hp : a.tmps.getD p undef = .pointer (some ⟨g, 0, none⟩)) (hg : look w g = some (.cells cs t fr)) (hn : cs.size = 1) (hd : a.defers = []) (hR : R (.returned (.agg cs)) w) : bodyPost Try.prog fn R .ret a w :=
  bodyPost_ret (results_cell_row h _ _ g t cs fr _ hp hg Try.underlying161 rfl (by rw [hn]; exact ww_info)) hd hR

@[go_sem ↓] theorem eql_bytes_nil (a : Option Addr) (n c : Nat) (w : World) : (binOp .eql 30 (.slice a n c) (.slice none 0 0)).run Try.prog w = .ok (.bool a.isNone) w := by
  have h : (Op.equalIn 10000 30 (.slice a n c) (.slice none 0 0)).run Try.prog w = .ok a.isNone w := by
    rw [Op.equalIn]
    cases a <;> simp [run_underlying Try.underlying30]
  simp only [binOp]
  simp [Op.equal, Op.maxDepth, h]
/-- The digits of a number behind its last one, lowest first, each with the mark that more come. -/
def conts : Nat → Nat → List Nat
  | 0, _ => []
  | f + 1, m => if m = 0 then [] else (m % 128 + 128) :: conts f (m / 128)
/-- A number's bytes. -/
def numB (n : Nat) : List Nat := ((n % 128) :: conts 9 (n / 128)).reverse
theorem conts_len : ∀ f m, (conts f m).length ≤ f
  | 0, _ => by simp [conts]
  | f + 1, m => by
    unfold conts
    split
    · simp
    · have := conts_len f (m / 128)
      simp; omega
theorem numB_len (n : Nat) : 1 ≤ (numB n).length ∧ (numB n).length ≤ 10 := by
  have := conts_len 9 (n / 128)
  simp [numB]; omega

/-- A writer at p, with the bytes bs, which lie in the block g of its own, if any. -/
def WrV (w : World) (p : Nat) (g : Option Nat) (bs : List Nat) : Prop := ∃ v, look w p = some (.cells #[v] 161 (0, 0)) ∧ w.ownsRow 0 5 1 v bs.length (bcells bs) ∧ v.ownBlock = g
/-- All but p and g stays. -/
structure KeepsG (p : Nat) (g : Option Nat) (w w' : World) : Prop where
  os : w'.os = w.os
  tape : w'.tape = w.tape
  output : w'.output = w.output
  size : w.heap.size ≤ w'.heap.size
  block : ∀ k, k < w.heap.size → k ≠ p → some k ≠ g → w'.heap[k]? = w.heap[k]?
/-- The block g is as before, or a new one. -/
def newOr (w : World) (g g' : Option Nat) : Prop := g' = g ∨ ∃ k, g' = some k ∧ w.heap.size ≤ k
/-- What writing does. -/
def Wrote (w w' : World) (p : Nat) (g : Option Nat) (bs : List Nat) : Prop := ∃ g', WrV w' p g' bs ∧ newOr w g g' ∧ KeepsG p g w w'
theorem KeepsG.refl (p : Nat) (g : Option Nat) (w : World) : KeepsG p g w w := ⟨rfl, rfl, rfl, Nat.le_refl _, fun _ _ _ _ => rfl⟩
theorem KeepsG.trans {p : Nat} {g g' : Option Nat} {w w1 w2 : World} (h : KeepsG p g w w1) (hn : newOr w g g') (h' : KeepsG p g' w1 w2) : KeepsG p g w w2 := by
  refine ⟨h'.os.trans h.os, h'.tape.trans h.tape, h'.output.trans h.output, Nat.le_trans h.size h'.size, fun k hk hp hg => ?_⟩
  rw [h'.block k (Nat.lt_of_lt_of_le hk h.size) hp ?_, h.block k hk hp hg]
  rcases hn with rfl | ⟨m, rfl, hm⟩
  · exact hg
  · intro e
    cases e
    omega
theorem newOr.trans {w w1 : World} {g g' g'' : Option Nat} (hs : w.heap.size ≤ w1.heap.size) (h : newOr w g g') (h' : newOr w1 g' g'') : newOr w g g'' := by
  rcases h' with rfl | ⟨k, rfl, hk⟩
  · exact h
  · exact .inr ⟨k, rfl, Nat.le_trans hs hk⟩
theorem Wrote.refl {w : World} {p : Nat} {g : Option Nat} {bs : List Nat} (h : WrV w p g bs) : Wrote w w p g bs := ⟨g, h, .inl rfl, KeepsG.refl _ _ _⟩
theorem Wrote.trans {w w1 w2 : World} {p : Nat} {g g' : Option Nat} {bs : List Nat} (hk : KeepsG p g w w1) (hn : newOr w g g') (h : Wrote w1 w2 p g' bs) : Wrote w w2 p g bs := by
  obtain ⟨g2, h1, h2, h3⟩ := h
  exact ⟨g2, h1, hn.trans hk.size h2, hk.trans hn h3⟩
theorem KeepsG.below {p B : Nat} {g : Option Nat} {w w' : World} (h : KeepsG p g w w') (hB : B ≤ w.heap.size) (hp : B ≤ p) (hg : ∀ k, g = some k → B ≤ k) : Below B w w' :=
  ⟨h.os, h.tape, h.output, h.size, fun k hk => h.block k (by omega) (by omega) (fun e => by have := hg k e.symm; omega)⟩
theorem below_keeps {p : Nat} {g : Option Nat} {w w' : World} (h : Below w.heap.size w w') : KeepsG p g w w' := ⟨h.os, h.tape, h.output, h.size, fun k hk _ _ => h.block k hk⟩
theorem keeps_look {p : Nat} {g : Option Nat} {w w' : World} (h : KeepsG p g w w') {k : Nat} {o : Obj} (hl : look w k = some o) (hp : k ≠ p) (hg : some k ≠ g) : look w' k = some o := (h.block k (look_lt hl) hp hg).trans hl
theorem wr_keeps {w W : World} {p : Nat} {g : Option Nat} {bs : List Nat} (h : WrV w p g bs) (hb : Below w.heap.size w W) : WrV W p g bs := by
  obtain ⟨v, h2, h3, h4⟩ := h
  exact ⟨v, by rw [look_below hb (look_lt h2)]; exact h2, own_below h3 hb, h4⟩
/-- A new writer. -/
theorem wr_new (w : World) : WrV (w.alloc (.cells #[.slice none 0 0] 161)) w.heap.size none [] := ⟨_, look_alloc_at _ _ _ rfl, World.ownsRow_nil _ _ _ _, rfl⟩

theorem new_any (w : World) :
    Calls Try.prog 69 #[] w fun e w' => e = .returned (.pointer (some ⟨w.heap.size, 0, none⟩)) ∧ w' = w.alloc (.cells #[.slice none 0 0] 161) := by
  go_enter Try.func69, Try.ntmps69
  go_wp2
  go_ret
  exact ⟨rfl, rfl⟩

set_option maxRecDepth 100000 in
set_option maxHeartbeats 1600000 in
theorem clone_any (v : Value) (n : Nat) (bs : List Nat) (w : World) (hlen : bs.length = n) (hn : n ≤ 1000000) (hS : (v = .slice none 0 0 ∧ n = 0) ∨ ∃ ad c, v = .slice (some ad) n c ∧ ∀ j u, (bcells bs)[j]? = some u → w.cell? (ad.add j) = some u) :
    Calls Try.prog 66 #[v] w fun e w' => ∃ u, e = .returned u ∧ w'.ownsRow w.heap.size 5 1 u n (bcells bs) ∧ Below w.heap.size w w' := by
  obtain ⟨i0, hi, hz0, hz1, hz2⟩ := info_parts infoB
  rcases hS with ⟨rfl, rfl⟩ | ⟨ad, c, rfl, hc⟩
  · obtain rfl : bs = [] := List.eq_nil_of_length_eq_zero hlen
    go_enter Try.func66, Try.ntmps66
    go_wp2
    go_ret
    exact ⟨_, rfl, World.ownsRow_nil _ _ _ _, bel0 _⟩
  · go_enter Try.func66, Try.ntmps66
    go_wp2_with (at_builtin; refine stop_here ?_)
    refine hidP ?_
    have hc2 : ∀ j u, (bcells bs)[j]? = some u → (w.alloc (.cells #[] 5)).cell? (ad.add j) = some u := by
      intro j u hu
      have h1 := hc j u hu
      have h2 : ((w.alloc (.cells #[] 5)).cell? (ad.add j)) = w.cell? (ad.add j) := (belA (bel0 w) _).cell (World.block_lt_of_cell? w _ h1)
      rw [h2]; exact h1
    refine append_fresh rfl _ _ 30 rfl w.heap.size 5 i0 (.int .u8 0) 1 1 Try.underlying30 hi hz0 hz1 hz2 rfl (by decide) w.heap.size rfl (look_alloc_at _ _ _ rfl) (Nat.le_refl _) (belA (bel0 w) _).size _ n (bcells bs) rfl (by rw [bcells_len, hlen, Nat.mul_one]) (bcells_ones bs) ?c1 (by unfold maxLen; omega) (by omega) ?_
    case c1 => exact .inr ⟨ad, c, rfl, hc2⟩
    intro v' w' h1 h2
    go_wp2
    go_ret
    exact ⟨_, rfl, h1, (belT (belA (bel0 w) _) h2)⟩
end Go.Proofs.Ytnpofcnibgdjhaa
