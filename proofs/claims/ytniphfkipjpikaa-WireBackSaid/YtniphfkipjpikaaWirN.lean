/- truglaw03.alive: it is so. -/
import Derived.Test.YtniphfkipjpikaaWirM
import Derived.Lib.SlBytesConst
namespace Go.Proofs.Ytniphfkipjpikaa
open Go.RowKit
variable {X : Nat → Prop}

theorem enters_of' {P : Program} {f : FuncId} {fn : Func} {c : Code} (hf : P.funcs[f]? = some fn) (hname : (fn.name == "runtime.NumGoroutine") = false) (hb : fn.body = some c) (args : Array Value) (w : World) : (callFunc f args).run P w = .ok (.enter f args) w := by
  have h1 : fn.name ≠ "runtime.NumGoroutine" := by simpa using hname
  simp [callFunc, hf, h1, hb, mark]
/-- Read, with a closure that only reads. -/
theorem read_pure {α : Type} (K : FuncId) (cap : Array Value) (r : Rd α) (bs : List Nat) (v : Value) (w : World) (hlen : bs.length ≤ 1000000)
    (hK : ∀ (a : Array Value) (w : World), (callFunc K a).run Try.prog w = .ok (.enter K a) w)
    (hv : SliceAt w v bs.length 1 (bC bs))
    (hbody : ∀ w1 p, w.heap.size < p → Below w.heap.size w w1 → RdAt (fun b => w.heap.size < b) w1 p bs → Calls Try.prog K (#[.pointer (some ⟨p, 0, none⟩)] ++ cap) w1 fun e w2 => w1.grownBy w2 (some p) ∧ match r with
      | .ok _ rest => e = .returned (.tuple #[]) ∧ RdAt (fun b => w.heap.size < b) w2 p rest
      | .fault k => faultC k e) :
    Calls Try.prog 36 #[v, .func (.func K) #[] cap] w fun e w' => e = .returned (.int .i64 (rdCode r)) ∧ Below w.heap.size w w' := by
  refine read_any K cap r bs v (fun u => Below w.heap.size w u) w hlen hK (slice_news hv) ?_ ?_
  · intro w2 w3 h2 h3
    exact h2.grown h3 h2.size (fun g e => by cases e; exact Nat.le_refl _)
  · intro w1 p hp hb hrd
    have hpw : p < w1.heap.size := by obtain ⟨_, hl, _⟩ := hrd; exact look_lt hl
    refine (hbody w1 p hp hb hrd).mono ?_
    rintro e w2 ⟨hg, hr⟩
    exact ⟨hg.block _ (by omega) (by intro e; cases e; omega), hb.grown hg hb.size (fun g e => by cases e; omega), hr⟩

theorem alive2_any (p : Nat) (w : World) (h : RdAt X w p [128, 0]) :
    Calls Try.prog 70 #[.pointer (some ⟨p, 0, none⟩)] w fun e w' => w.grownBy w' (some p) ∧ faultC 3 e := by
  have hd : decN true 0 [128, 0] = .fault 3 := by rfl
  go_enter Try.func70, Try.ntmps70
  go_wp2_with fail
  refine (rnum_any p _ _ (by decide) h).mono ?_
  rintro e w' ⟨hg, hr⟩
  rw [hd] at hr
  cases hr
  go_wp2
  exact ⟨rfl, hg, rfl⟩
theorem alive3_any (p : Nat) (w : World) (h : RdAt X w p [1, 2]) :
    Calls Try.prog 71 #[.pointer (some ⟨p, 0, none⟩)] w fun e w' => w.grownBy w' (some p) ∧ e = .returned (.tuple #[]) ∧ RdAt X w' p [2] := by
  have hd : decN true 0 [1, 2] = .ok 1 [2] := by rfl
  go_enter Try.func71, Try.ntmps71
  go_wp2_with fail
  refine (rnum_any p _ _ (by decide) h).mono ?_
  rintro e w' ⟨hg, hr⟩
  rw [hd] at hr
  obtain ⟨rfl, hrd⟩ := hr
  go_wp2
  go_end0
  exact ⟨hg, rfl, hrd⟩

theorem alive_lt (k : Nat) : aliveV k < 4294967296 := by
  unfold aliveV upd
  split
  · decide
  · split
    · decide
    · show 0 < 4294967296
      decide
theorem lit_slice (w : World) (bs : List Nat) (h : bs.length ≤ 9223372036854775807 := by decide) : SliceAt (w.alloc (.cells (bcells bs).toArray 5)) (.slice (some ⟨w.heap.size, 0, none⟩) bs.length bs.length) bs.length 1 (bC bs) :=
  SliceAt.row h (fun _ => rfl) (look_alloc_at _ _ _ rfl) (by rw [rows_bC])
set_option maxRecDepth 100000 in
/-- What alive's first Read does. -/
theorem alive_read (B : Nat) (v : Value) (w : World) (hB : B + 4 ≤ w.heap.size) (hv : SliceAt w v 8 1 (bC [130, 44, 1, 1, 97, 2, 0, 5]))
    (l1 : look w B = some (.cells #[.int .u64 0] 23 (0, 0))) (l2 : look w (B + 1) = some (.cells #[.int .i64 0] 3 (0, 0))) (l3 : look w (B + 2) = some (.cells #[.string ⟨#[]⟩] 9 (0, 0))) (l4 : look w (B + 3) = some (.cells (VA fun _ => 0) 65 (0, 0))) :
    Calls Try.prog 36 #[v, .func (.func 69) #[] #[.pointer (some ⟨B, 0, none⟩), .pointer (some ⟨B + 1, 0, none⟩), .pointer (some ⟨B + 2, 0, none⟩), .pointer (some ⟨B + 3, 0, none⟩)]] w fun e w' => e = .returned (.int .i64 0) ∧ Below B w w' ∧
      (look w' B = some (.cells #[.int .u64 300] 23 (0, 0)) ∧ look w' (B + 1) = some (.cells #[.int .i64 (-1)] 3 (0, 0)) ∧ look w' (B + 2) = some (.cells #[.string (strN [97])] 9 (0, 0)) ∧ look w' (B + 3) = some (.cells (VA aliveV) 65 (0, 0))) := by
  refine (read_any 69 _ (Rd.ok () []) [130, 44, 1, 1, 97, 2, 0, 5] v (fun u => Below B w u ∧ (look u B = some (.cells #[.int .u64 300] 23 (0, 0)) ∧ look u (B + 1) = some (.cells #[.int .i64 (-1)] 3 (0, 0)) ∧ look u (B + 2) = some (.cells #[.string (strN [97])] 9 (0, 0)) ∧ look u (B + 3) = some (.cells (VA aliveV) 65 (0, 0)))) w (by decide)
    (enters_of' Try.func69 (by kernel_rfl) rfl) (slice_news hv) ?_ ?_).mono ?_
  · rintro w2 w3 ⟨h0, h1, h2, h3, h4⟩ hg
    refine ⟨⟨hg.os.trans h0.os, hg.tape.trans h0.tape, hg.output.trans h0.output, Nat.le_trans h0.size hg.size, fun k hk => (hg.block k (Nat.lt_of_lt_of_le (by omega) h0.size) (by intro e; cases e; omega)).trans (h0.block k hk)⟩, ?_, ?_, ?_, ?_⟩
    · rw [grown_look hg (look_lt h1) (by intro g e; cases e; omega)]; exact h1
    · rw [grown_look hg (look_lt h2) (by intro g e; cases e; omega)]; exact h2
    · rw [grown_look hg (look_lt h3) (by intro g e; cases e; omega)]; exact h3
    · rw [grown_look hg (look_lt h4) (by intro g e; cases e; omega)]; exact h4
  · intro w1 p hp hb hrd
    have hpw : p < w1.heap.size := by obtain ⟨_, hl, _⟩ := hrd; exact look_lt hl
    refine (alive1_any p B w1 (by omega) hrd (by rw [look_below hb (look_lt l1)]; exact l1) (by rw [look_below hb (look_lt l2)]; exact l2) (by rw [look_below hb (look_lt l3)]; exact l3) (by rw [look_below hb (look_lt l4)]; exact l4)).mono ?_
    rintro e w2 ⟨rfl, hrd2, hl, ⟨o1, o2, o3, o4⟩, hk⟩
    exact ⟨hk w.heap.size (by omega) (.inr ⟨by omega, by omega⟩), ⟨⟨o1.trans hb.os, o2.trans hb.tape, o3.trans hb.output, Nat.le_trans hb.size o4, fun k hkB => (hk k (by omega) (.inl hkB)).trans (hb.block k (by omega))⟩, hl⟩, rfl, hrd2⟩
  · rintro e w' ⟨rfl, h⟩
    exact ⟨rfl, h⟩
theorem look_alloc_slice {w : World} {cs : Array Value} {bs : List Nat} {fr : Nat × Nat} (h : cs.toList = bcells bs) : ∀ j u, (bcells bs)[j]? = some u → (w.alloc (.cells cs 5 fr)).cell? ((⟨w.heap.size, 0, none⟩ : Addr).add j) = some u := by
  intro j u hj
  rw [Addr.add_lit, look_cell (look_alloc_at _ _ _ rfl), ← hj, ← h, Nat.zero_add, Array.getElem?_toList]

set_option maxRecDepth 100000 in
set_option maxHeartbeats 3200000 in
theorem alive03 (w : World) :
    Calls Try.prog 33 #[] w fun e w' => e = .returned (.bool true) ∧ Below w.heap.size w w' := by
  go_enter Try.func33, Try.ntmps33
  go_wp2_with fail
  refine (new_any _).mono ?_
  rintro _ _ ⟨rfl, rfl⟩
  have hb0 := belA (bel0 w) (.cells #[.slice none 0 0] 111)
  go_wp2_with fail
  refine (num_any w.heap.size none [] 300 _ (by decide) (by decide) (wr_new w)).mono ?_
  rintro _ w1 ⟨rfl, hW1⟩
  obtain ⟨g1, hv1, hn1, hk1⟩ := hW1
  go_wp2_with fail
  refine (int_any w.heap.size g1 _ (-1) _ (by decide) (by decide) hv1).mono ?_
  rintro _ w2 ⟨rfl, hW2⟩
  obtain ⟨g2, hv2, hn2, hk2⟩ := (Wrote.trans hk1 hn1 hW2)
  clear hv1 hn1 hk1 hW2
  have kc := Lib.run_convert_bytes_const (P := Try.prog) w2 55 5 #[.int .u8 97] 1 1 Try.underlying55 Try.underlying5
  go_wp2_with fail
  clear kc
  have hbt := belA (bel0 w2) (.cells #[.int .u8 97] 5 (1, 2))
  have hp2 : w.heap.size < w2.heap.size := Nat.lt_of_lt_of_le (by simp) hk2.size
  have hg2 : ∀ k, g2 = some k → k < w2.heap.size := fun k e => by
    obtain ⟨v, _, ho, rfl⟩ := hv2
    exact (ho.lt k e).2
  refine (text_any w.heap.size g2 _ [97] _ _ (by decide) (by decide) (wr_keeps hv2 hbt) (.inr ⟨_, 1, rfl, fun _ => ⟨by simp, by show w2.heap.size ≠ w.heap.size; omega, fun e => by have := hg2 _ e.symm; simp at this⟩, look_alloc_slice rfl⟩)).mono ?_
  rintro _ w3 ⟨rfl, hW3⟩
  obtain ⟨g3, hv3, hn3, hk3⟩ := (Wrote.trans (hk2.trans hn2 (below_keeps hbt)) hn2 hW3)
  clear hW3 hp2 hg2 hbt hk2 hn2 hv2
  go_wp2_with fail
  refine (wvec_any w.heap.size g3 _ aliveV _ alive_lt (by decide) hv3).mono ?_
  rintro _ w4 ⟨rfl, hW4⟩
  obtain ⟨g4, hv4, hn4, hk4⟩ := (Wrote.trans hk3 hn3 hW4)
  clear hW4 hv3 hn3 hk3
  have hbs : [] ++ numB 300 ++ intB (-1) ++ numB [97].length ++ [97] ++ vecB aliveV = [130, 44, 1, 1, 97, 2, 0, 5] := by rfl
  rw [hbs] at hv4
  clear hbs
  go_wp2_with fail
  refine (bytes_any w.heap.size g4 _ _ (by decide) hv4).mono ?_
  rintro _ w5 ⟨vb, rfl, hvb, hb5⟩
  have hB5 : Below w.heap.size w w5 := hb0.trans ((hk4.below (by simp) (Nat.le_refl _) (fun k e => by cases e)).trans (hb5.mono (Nat.le_trans (by simp) hk4.size)))
  have hsb : SliceAt w5 vb [130, 44, 1, 1, 97, 2, 0, 5].length 1 (bC [130, 44, 1, 1, 97, 2, 0, 5]) := own_slice hvb
  clear hb0 hk4 hb5 hvb hn4 hv4
  go_wp2_with fail
  have hBA := belA (belA (belA (belA (bel0 w5) (.cells #[.int .u64 0] 23)) (.cells #[.int .i64 0] 3)) (.cells #[.string ⟨#[]⟩] 9)) (.cells (VA fun _ => 0) 65)
  have l1 : look ((((w5.alloc (.cells #[.int .u64 0] 23)).alloc (.cells #[.int .i64 0] 3)).alloc (.cells #[.string ⟨#[]⟩] 9)).alloc (.cells (VA fun _ => 0) 65)) w5.heap.size = some (.cells #[.int .u64 0] 23 (0, 0)) := by
    rw [look_alloc_past _ _ _ (by simp <;> omega), look_alloc_past _ _ _ (by simp <;> omega), look_alloc_past _ _ _ (by simp)]
    exact look_alloc_at _ _ _ rfl
  have l2 : look ((((w5.alloc (.cells #[.int .u64 0] 23)).alloc (.cells #[.int .i64 0] 3)).alloc (.cells #[.string ⟨#[]⟩] 9)).alloc (.cells (VA fun _ => 0) 65)) (w5.heap.size + 1) = some (.cells #[.int .i64 0] 3 (0, 0)) := by
    rw [look_alloc_past _ _ _ (by simp <;> omega), look_alloc_past _ _ _ (by simp)]
    exact look_alloc_at _ _ _ (by simp)
  have l3 : look ((((w5.alloc (.cells #[.int .u64 0] 23)).alloc (.cells #[.int .i64 0] 3)).alloc (.cells #[.string ⟨#[]⟩] 9)).alloc (.cells (VA fun _ => 0) 65)) (w5.heap.size + 2) = some (.cells #[.string ⟨#[]⟩] 9 (0, 0)) := by
    rw [look_alloc_past _ _ _ (by simp)]
    exact look_alloc_at _ _ _ (by simp)
  have l4 : look ((((w5.alloc (.cells #[.int .u64 0] 23)).alloc (.cells #[.int .i64 0] 3)).alloc (.cells #[.string ⟨#[]⟩] 9)).alloc (.cells (VA fun _ => 0) 65)) (w5.heap.size + 3) = some (.cells (VA fun _ => 0) 65 (0, 0)) := look_alloc_at _ _ _ (by simp)
  refine (alive_read w5.heap.size vb _ (by simp) (hsb.below hBA) l1 l2 l3 l4).mono ?_
  rintro _ w6 ⟨rfl, hb6, k1, k2, k3, k4⟩
  have hB6 : Below w.heap.size w w6 := hB5.trans ((hBA.trans hb6).mono hB5.size)
  have hsb6 := hsb.below (hBA.trans hb6)
  clear hBA hb6 l1 l2 l3 l4 hsb hB5
  go_wp2_with fail
  have s7 := lit_slice w6 [128, 0]
  refine (read_pure 70 #[] (Rd.fault 3 : Rd Unit) [128, 0] _ _ (by decide) (enters_of' Try.func70 (by kernel_rfl) rfl) s7 (fun w1 p _ _ hrd => (alive2_any p w1 hrd).mono (fun e w2 h => h))).mono ?_
  rintro _ w7 ⟨rfl, hb7⟩
  replace hb7 := (belA (bel0 w6) (.cells (bcells [128, 0]).toArray 5)).trans (hb7.mono (by simp))
  have hB7 : Below w.heap.size w w7 := hB6.trans (hb7.mono hB6.size)
  have hsb7 := hsb6.below hb7
  replace k1 : look w7 w5.heap.size = some (.cells #[.int .u64 300] 23 (0, 0)) := by rw [look_below hb7 (look_lt k1)]; exact k1
  replace k2 : look w7 (w5.heap.size + 1) = some (.cells #[.int .i64 (-1)] 3 (0, 0)) := by rw [look_below hb7 (look_lt k2)]; exact k2
  replace k3 : look w7 (w5.heap.size + 2) = some (.cells #[.string (strN [97])] 9 (0, 0)) := by rw [look_below hb7 (look_lt k3)]; exact k3
  replace k4 : look w7 (w5.heap.size + 3) = some (.cells (VA aliveV) 65 (0, 0)) := by rw [look_below hb7 (look_lt k4)]; exact k4
  clear hB6 hsb6 hb7 s7
  go_wp2_with fail
  have s8 := lit_slice w7 [1, 2]
  refine (read_pure 71 #[] (Rd.ok () [2]) [1, 2] _ _ (by decide) (enters_of' Try.func71 (by kernel_rfl) rfl) s8 (fun w1 p _ _ hrd => (alive3_any p w1 hrd).mono (fun e w2 h => h))).mono ?_
  rintro _ w8 ⟨rfl, hb8⟩
  replace hb8 := (belA (bel0 w7) (.cells (bcells [1, 2]).toArray 5)).trans (hb8.mono (by simp))
  have hB8 : Below w.heap.size w w8 := hB7.trans (hb8.mono hB7.size)
  have hsb8 := hsb7.below hb8
  replace k1 : look w8 w5.heap.size = some (.cells #[.int .u64 300] 23 (0, 0)) := by rw [look_below hb8 (look_lt k1)]; exact k1
  replace k2 : look w8 (w5.heap.size + 1) = some (.cells #[.int .i64 (-1)] 3 (0, 0)) := by rw [look_below hb8 (look_lt k2)]; exact k2
  replace k3 : look w8 (w5.heap.size + 1 + 1) = some (.cells #[.string (strN [97])] 9 (0, 0)) := by rw [look_below hb8 (look_lt k3)]; exact k3
  replace k4 : look w8 (w5.heap.size + 1 + 1 + 1) = some (.cells (VA aliveV) 65 (0, 0)) := by rw [look_below hb8 (look_lt k4)]; exact k4
  have c1 : w8.cell? ⟨w5.heap.size, 0, none⟩ = some (.int .u64 300) := by rw [look_cell k1]; rfl
  have c2 : w8.cell? ⟨w5.heap.size + 1, 0, none⟩ = some (.int .i64 (-1)) := by rw [look_cell k2]; rfl
  have c3 : w8.cell? ⟨w5.heap.size + 1 + 1, 0, none⟩ = some (.string (strN [97])) := by rw [look_cell k3]; rfl
  have hcs := conv_str hsb8
  have q1 : (strN [130, 44, 1, 1, 97, 2, 0, 5]).toList = [130, 44, 1, 1, 97, 2, 0, 5] := by kernel_rfl
  have q2 : (strN [97]).toList = [97] := by kernel_rfl
  have q3 : veq aliveV (upd (upd (fun _ => 0) 0 0) 1 5) = true := by kernel_rfl
  have q4 : rdCode (Rd.fault 3 : Rd Unit) = 3 := rfl
  have q5 : rdCode (Rd.ok () [2]) = 2 := rfl
  clear hB7 hsb7 hb8 s8 hsb8 k1 k2 k3
  go_wp2_with fail
  refine (read_nil _ _).mono ?_
  rintro _ w9 ⟨rfl, hb9⟩
  have hB9 : Below w.heap.size w w9 := hB8.trans (hb9.mono hB8.size)
  clear hcs c1 c2 c3 k4
  go_wp2
  go_ret
  exact ⟨rfl, hB9⟩
end Go.Proofs.Ytniphfkipjpikaa
