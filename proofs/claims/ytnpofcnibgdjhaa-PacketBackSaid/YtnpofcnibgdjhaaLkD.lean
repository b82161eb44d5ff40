/- Links: what is taken, and acknowledged. -/
import Derived.Test.YtnpofcnibgdjhaaLkC
namespace Go.Proofs.Ytnpofcnibgdjhaa
open Go.RowKit

theorem row_one {w : World} {v : Value} {n s : Nat} {C : Nat → List Value} (h : SliceAt w v n s C) : ∃ ad cap, v = .slice ad n cap := by
  obtain ⟨ad, cap, rfl, _⟩ := h
  exact ⟨ad, cap, rfl⟩
/-- A link whose own row was written. -/
theorem LinkAt.turn {S : Nat → Prop} {w W : World} {p : Nat} {l : Lk} (h : LinkAt S w p l) (hg : w.grownBy W (some p)) {nx ex : Nat} (hl : ∀ v : Value, look w p = some (.cells #[.int .u64 (l.nx : Int), v, .int .u64 (l.ex : Int)] 51 (0, 0)) → look W p = some (.cells #[.int .u64 (nx : Int), v, .int .u64 (ex : Int)] 51 (0, 0))) : LinkAt S W p ⟨nx, ex, l.q⟩ := by
  obtain ⟨v', us, h1, h2, h3, h4, h5⟩ := h
  have hk : ∀ b, S b → W.heap[b]? = w.heap[b]? := fun b hb => hg.block b (h5 b hb).1 (fun e => (h5 b hb).2 (by cases e; rfl))
  exact ⟨v', us, hl v' h1, h2.kept hg.size fun b hb => hk b (h3 b hb), h3, fun k hk2 => (h4 k hk2).kept hg.size hk (fun _ x => x), fun b hb => ⟨Nat.lt_of_lt_of_le (h5 b hb).1 hg.size, (h5 b hb).2⟩⟩

set_option maxRecDepth 100000 in
set_option maxHeartbeats 1600000 in
theorem ltake_any (p s : Nat) (l : Lk) (S : Nat → Prop) (w : World) (hs : s < 18446744073709551616) (hn : 0 < l.nx) (hx : l.ex < 18446744073709551615) (h : LinkAt S w p l) :
    Calls Try.prog 19 #[.pointer (some ⟨p, 0, none⟩), .int .u64 (s : Int)] w fun e w' => e = .returned (.tuple #[.bool (takeB l s), .int .i64 (takeE l s)]) ∧ LinkAt S w' p (takeL l s) ∧ w.grownBy w' (some p) := by
  have h0 := h
  obtain ⟨v, us, hl, h2, h3, h4, h5⟩ := h
  have hc2 : w.cell? ⟨p, 2, none⟩ = some (.int .u64 (l.ex : Int)) := by rw [look_cell hl]; rfl
  have hmd : decide (0 < l.nx) = true := decide_eq_true hn
  by_cases h1 : s < l.ex
  · have e1 : takeB l s = false := decide_eq_false (by omega)
    have e2 : takeE l s = 0 := by unfold takeE; rw [if_pos h1]
    have e3 : takeL l s = l := by unfold takeL; rw [e1]; rfl
    rw [e1, e2, e3]
    have d1 : decide ((s : Int) < (l.ex : Int)) = true := decide_eq_true (by omega)
    clear e1 e2 e3
    go_enter Try.func19, Try.ntmps19
    go_wp2_with fail
    refine (lmade_any p l.nx v _ _ hl).mono ?_
    rintro _ _ ⟨rfl, rfl⟩
    rw [hmd]
    go_wp2
    refine bodyPost_ret (v := .tuple #[.bool false, .int .i64 0]) (by simp [results, Try.results19, go_sem]) rfl ?_
    exact ⟨rfl, h0, grown_refl _ _⟩
  · have d1 : decide ((s : Int) < (l.ex : Int)) = false := decide_eq_false (by omega)
    by_cases h6 : l.ex < s
    · have e1 : takeB l s = false := decide_eq_false (by omega)
      have e2 : takeE l s = 14 := by unfold takeE; rw [if_neg h1, if_pos h6]
      have e3 : takeL l s = l := by unfold takeL; rw [e1]; rfl
      rw [e1, e2, e3]
      have d2 : decide ((l.ex : Int) < (s : Int)) = true := decide_eq_true (by omega)
      clear e1 e2 e3
      go_enter Try.func19, Try.ntmps19
      go_wp2_with fail
      refine (lmade_any p l.nx v _ _ hl).mono ?_
      rintro _ _ ⟨rfl, rfl⟩
      rw [hmd]
      go_wp2
      refine bodyPost_ret (v := .tuple #[.bool false, .int .i64 14]) (by simp [results, Try.results19, go_sem]) rfl ?_
      exact ⟨rfl, h0, grown_refl _ _⟩
    · have d2 : decide ((l.ex : Int) < (s : Int)) = false := decide_eq_false (by omega)
      have hse : s = l.ex := by omega
      by_cases h7 : l.ex ≤ 1099511627776
      · have e1 : takeB l s = true := decide_eq_true ⟨hse, h7⟩
        have e2 : takeE l s = 0 := by unfold takeE; rw [if_neg h1, if_neg h6, if_pos h7]
        have e3 : takeL l s = ⟨l.nx, l.ex + 1, l.q⟩ := by unfold takeL; rw [e1]; rfl
        rw [e1, e2, e3]
        have d3 : decide ((1099511627776 : Int) < (l.ex : Int)) = false := decide_eq_false (by omega)
        have hw : IntKind.u64.wrap ((l.ex : Int) + 1) = ((l.ex + 1 : Nat) : Int) := by rw [IntWalk.u64_in _ (by omega)]; omega
        have hT : LinkAt S (w.setCell ⟨p, 2, none⟩ (.int .u64 ((l.ex + 1 : Nat) : Int))) p ⟨l.nx, l.ex + 1, l.q⟩ := h0.turn (grown_setCell _ _ _ _) (fun _ e => by rw [look_set_same e]; rfl)
        have hgr := grown_setCell w p 2 (.int .u64 ((l.ex + 1 : Nat) : Int))
        clear e1 e2 e3 h7 h1 h6
        go_enter Try.func19, Try.ntmps19
        go_wp2_with fail
        refine (lmade_any p l.nx v _ _ hl).mono ?_
        rintro _ _ ⟨rfl, rfl⟩
        rw [hmd]
        go_wp2
        refine bodyPost_ret (v := .tuple #[.bool true, .int .i64 0]) (by simp [results, Try.results19, go_sem]) rfl ?_
        exact ⟨rfl, hT, hgr⟩
      · have e1 : takeB l s = false := decide_eq_false (fun h => h7 h.2)
        have e2 : takeE l s = 5 := by unfold takeE; rw [if_neg h1, if_neg h6, if_neg h7]
        have e3 : takeL l s = l := by unfold takeL; rw [e1]; rfl
        rw [e1, e2, e3]
        have d3 : decide ((1099511627776 : Int) < (l.ex : Int)) = true := decide_eq_true (by omega)
        clear e1 e2 e3 h7 h1 h6
        go_enter Try.func19, Try.ntmps19
        go_wp2_with fail
        refine (lmade_any p l.nx v _ _ hl).mono ?_
        rintro _ _ ⟨rfl, rfl⟩
        rw [hmd]
        go_wp2
        refine bodyPost_ret (v := .tuple #[.bool false, .int .i64 5]) (by simp [results, Try.results19, go_sem]) rfl ?_
        exact ⟨rfl, h0, grown_refl _ _⟩

/-- A link whose texts, but the first ones, were put into a slice of their own. -/
theorem LinkAt.cutq {S : Nat → Prop} {w w1 : World} {p n : Nat} {l : Lk} {u : Value} (h : LinkAt S w p l) (hb : Below w.heap.size w w1) (hn : n ≤ l.q.length)
    (hC : ∀ (v : Value) (us : Nat → Value), look w p = some (.cells #[.int .u64 (l.nx : Int), v, .int .u64 (l.ex : Int)] 51 (0, 0)) → (∀ k, k < l.q.length → TextIn S w (us k) (l.q.getD k [])) → SliceAt w v l.q.length 1 (fun k => [us k]) → ∃ us' : Nat → Value, (∀ k, k < l.q.length - n → TextIn S w (us' k) (l.q.getD (n + k) [])) ∧ w1.ownsRow w.heap.size 30 1 u (l.q.length - n) (rowsL (fun k => [us' k]) (l.q.length - n))) :
    ∃ S', LinkAt S' (w1.setCell ⟨p, 1, none⟩ u) p ⟨l.nx, l.ex, l.q.drop n⟩ ∧ Grew w S S' ∧ w.grownBy (w1.setCell ⟨p, 1, none⟩ u) (some p) := by
  obtain ⟨v, us, h1, h2, h3, h4, h5⟩ := h
  obtain ⟨us', hu, ho⟩ := hC v us h1 h4 h2
  have hp := look_lt h1
  have hl1 : look w1 p = some (.cells #[.int .u64 (l.nx : Int), v, .int .u64 (l.ex : Int)] 51 (0, 0)) := by rw [look_below hb hp]; exact h1
  have hgr : w.grownBy (w1.setCell ⟨p, 1, none⟩ u) (some p) := grown_trans (below_grown hb _) (grown_setCell _ _ _ _)
  have hsl := SliceAt.own (C := fun k => [us' k]) (s := 1) (fun _ => rfl) ho
  have hub : ∀ b, blkOf u = some b → w.heap.size ≤ b ∧ b < w1.heap.size := by
    intro b e
    rcases ho.2 with ⟨rfl, _⟩ | ⟨g, cap, cur, rfl, hbg, hg, _⟩
    · cases e
    · cases e
      exact ⟨hbg, look_lt (w := w1) hg⟩
  refine ⟨fun b => S b ∨ (w.heap.size ≤ b ∧ b < w1.heap.size), ⟨u, us', by rw [look_set_same hl1]; rfl, ?_, fun b e => .inr (hub b e), fun k hk => ?_, fun b hbS => ?_⟩, fun b hbS => ?_, hgr⟩
  · have hlen : (l.q.drop n).length = l.q.length - n := List.length_drop
    show SliceAt _ u (l.q.drop n).length 1 _
    rw [hlen]
    refine hsl.kept (by simp) fun b e => heap_setCell_other w1 ⟨p, 1, none⟩ b u ?_
    show b ≠ p
    have := (hub b e).1
    omega
  · have hlen : (l.q.drop n).length = l.q.length - n := List.length_drop
    have hk2 : k < l.q.length - n := by
      have : k < (l.q.drop n).length := hk
      omega
    show TextIn _ _ (us' k) ((l.q.drop n).getD k [])
    rw [getD_drop]
    refine (hu k hk2).kept hgr.size (fun b hb2 => hgr.block b (h5 b hb2).1 (fun e => (h5 b hb2).2 (by cases e; rfl))) (fun b hb2 => .inl hb2)
  · rcases hbS with hbS | hbS
    · exact ⟨Nat.lt_of_lt_of_le (h5 b hbS).1 hgr.size, (h5 b hbS).2⟩
    · have : (w1.setCell ⟨p, 1, none⟩ u).heap.size = w1.heap.size := by simp
      exact ⟨by omega, by omega⟩
  · rcases hbS with hbS | hbS
    · exact .inl hbS
    · exact .inr hbS.1

theorem own_is {w : World} {base s n : Nat} {e : TypeId} {v : Value} {xs : List Value} (h : w.ownsRow base e s v n xs) : ∃ ua un uc, v = .slice ua un uc := by
  rcases h.2 with ⟨rfl, _⟩ | ⟨g, cap, cur, rfl, _⟩
  · exact ⟨_, _, _, rfl⟩
  · exact ⟨_, _, _, rfl⟩
theorem oneC {us : Nat → Value} {S : Nat → Prop} {w : World} {q : List (List Nat)} (h : ∀ k, k < q.length → TextIn S w (us k) (q.getD k [])) (k : Nat) (hk : k < q.length) : (us k).oneCell' = true := by
  obtain ⟨⟨ad, cap, e, _⟩, _⟩ := h k hk
  rw [e]; rfl

set_option maxRecDepth 100000 in
set_option maxHeartbeats 3200000 in
theorem lacked_any (p s : Nat) (l : Lk) (S : Nat → Prop) (w : World) (hs : s < 18446744073709551616) (hx : l.nx < 9223372036854775807) (hq : l.q.length < l.nx) (hq2 : l.q.length ≤ 1000) (h : LinkAt S w p l) :
    Calls Try.prog 17 #[.pointer (some ⟨p, 0, none⟩), .int .u64 (s : Int)] w fun e w' => e = .returned (.tuple #[.int .i64 (ackN l s : Int), .int .i64 (ackE l s)]) ∧ ∃ S', LinkAt S' w' p (ackL l s) ∧ Grew w S S' ∧ w.grownBy w' (some p) := by
  have h0 := h
  obtain ⟨v, us, hl, h2, h3, h4, h5⟩ := h
  obtain ⟨ad, cap, rfl⟩ := row_one h2
  have hc0 : w.cell? ⟨p, 0, none⟩ = some (.int .u64 (l.nx : Int)) := by rw [look_cell hl]; rfl
  have hmd : decide (0 < l.nx) = true := decide_eq_true (by omega)
  by_cases h1 : l.nx ≤ s
  · have e1 : ackN l s = 0 := by unfold ackN; rw [if_pos h1]
    have e2 : ackE l s = 14 := by unfold ackE; rw [if_pos h1]
    have e3 : ackL l s = l := by unfold ackL; rw [if_pos h1]
    rw [e1, e2, e3]
    have d1 : decide ((l.nx : Int) ≤ (s : Int)) = true := decide_eq_true (by omega)
    clear e1 e2 e3
    go_enter Try.func17, Try.ntmps17
    go_wp2_with fail
    refine (lmade_any p l.nx _ _ _ hl).mono ?_
    rintro _ _ ⟨rfl, rfl⟩
    rw [hmd]
    go_wp2
    refine bodyPost_ret (v := .tuple #[.int .i64 0, .int .i64 14]) (by simp [results, Try.results17, go_sem]) rfl ?_
    exact ⟨rfl, S, h0, Grew.refl _ _, grown_refl _ _⟩
  · have d1 : decide (l.nx ≤ s) = false := decide_eq_false h1
    by_cases h6 : s < l.fst
    · have e1 : ackN l s = 0 := by unfold ackN; rw [if_neg h1]; omega
      have e2 : ackE l s = 0 := by unfold ackE; rw [if_neg h1]
      have e3 : ackL l s = l := by unfold ackL; rw [if_neg h1, show s + 1 - l.fst = 0 by omega]; rfl
      rw [e1, e2, e3]
      have d2 : decide (s < l.nx - l.q.length) = true := decide_eq_true (by unfold Lk.fst at h6; omega)
      clear e1 e2 e3
      go_enter Try.func17, Try.ntmps17
      go_wp2_with fail
      refine (lmade_any p l.nx _ _ _ hl).mono ?_
      rintro _ _ ⟨rfl, rfl⟩
      rw [hmd]
      go_wp2_with fail
      refine (lfirst_any p l.nx l.q.length ad cap _ _ hl (by omega) (by omega)).mono ?_
      rintro _ w1 ⟨rfl, hb1⟩
      go_wp2
      refine bodyPost_ret (v := .tuple #[.int .i64 0, .int .i64 0]) (by simp [results, Try.results17, go_sem]) rfl ?_
      exact ⟨rfl, S, h0.below hb1, Grew.refl _ _, below_grown hb1 _⟩
    · have d2 : decide (s < l.nx - l.q.length) = false := decide_eq_false (by unfold Lk.fst at h6; omega)
      obtain ⟨n, hn⟩ : ∃ n, n = s + 1 - l.fst := ⟨_, rfl⟩
      have hn1 : 1 ≤ n ∧ n ≤ l.q.length := by unfold Lk.fst at hn h6; omega
      have e1 : ackN l s = n := by unfold ackN; rw [if_neg h1, hn]
      have e2 : ackE l s = 0 := by unfold ackE; rw [if_neg h1]
      have e3 : ackL l s = ⟨l.nx, l.ex, l.q.drop n⟩ := by unfold ackL; rw [if_neg h1, hn]
      rw [e1, e2, e3]
      have hwn : IntKind.u64.wrap ((s : Int) - ((l.nx - l.q.length : Nat) : Int)) = ((n - 1 : Nat) : Int) := by unfold Lk.fst at hn h6; rw [IntWalk.u64_in _ (by omega)]; omega
      have hwi : IntKind.i64.wrap ((n - 1 : Nat) : Int) = ((n - 1 : Nat) : Int) := IntWalk.i64_in _ (by omega)
      have hwj : IntKind.i64.wrap (((n - 1 : Nat) : Int) + 1) = (n : Int) := by rw [IntWalk.i64_in _ (by omega)]; omega
      clear e1 e2 e3 hn h6 h1
      go_enter Try.func17, Try.ntmps17
      go_wp2_with fail
      refine (lmade_any p l.nx _ _ _ hl).mono ?_
      rintro _ _ ⟨rfl, rfl⟩
      rw [hmd]
      go_wp2_with fail
      refine (lfirst_any p l.nx l.q.length ad cap _ _ hl (by omega) (by omega)).mono ?_
      rintro _ w1 ⟨rfl, hb1⟩
      have hl1 : look w1 p = some (.cells #[.int .u64 (l.nx : Int), .slice ad l.q.length cap, .int .u64 (l.ex : Int)] 51 (0, 0)) := by rw [look_below hb1 (look_lt hl)]; exact hl
      go_wp2_with fail
      refine (lfirst_any p l.nx l.q.length ad cap _ _ hl1 (by omega) (by omega)).mono ?_
      rintro _ w2 ⟨rfl, hb2⟩
      have hB2 := belT hb1 hb2
      have hl2 : look w2 p = some (.cells #[.int .u64 (l.nx : Int), .slice ad l.q.length cap, .int .u64 (l.ex : Int)] 51 (0, 0)) := by rw [look_below hb2 (look_lt hl1)]; exact hl1
      have hc2 : w2.cell? ⟨p, 1, none⟩ = some (.slice ad l.q.length cap) := by rw [look_cell hl2]; rfl
      have hz2 := look_frozen hl2 1
      have hS2 := h2.below hB2
      have hn2 : n ≤ l.q.length := hn1.2
      have hcap : l.q.length ≤ cap := by obtain ⟨_, _, e, _, hx, _⟩ := h2; cases e; omega
      have hone : ∀ k, k < l.q.length - n → ∀ u ∈ fromC (fun k => [us k]) n k, u.oneCell' = true := by
        intro k hk u hu
        unfold fromC at hu
        rw [List.mem_singleton] at hu
        rw [hu]
        exact oneC h4 (n + k) (by omega)
      have hrun : ∀ (sl : Value), SliceAt w2 sl (l.q.length - n) 1 (fromC (fun k => [us k]) n) → Calls Try.prog 68 #[sl] w2 fun e w' => ∃ u, e = .returned u ∧ Hid (∃ S', LinkAt S' (w'.setCell ⟨p, 1, none⟩ u) p ⟨l.nx, l.ex, l.q.drop n⟩ ∧ Grew w S S' ∧ w.grownBy (w'.setCell ⟨p, 1, none⟩ u) (some p)) ∧ Hid (Below w2.heap.size w2 w') ∧ ∃ ua un uc, u = .slice ua un uc := by
        intro sl hsl
        refine (clone2_any sl (l.q.length - n) _ _ (by omega) (fun _ => rfl) hone hsl).mono ?_
        rintro _ w3 ⟨u, rfl, hu, hb3⟩
        have hB3 := belT hB2 hb3
        refine ⟨u, rfl, hidP (h0.cutq hB3 hn2 fun v' us' hlk hus hsl' => ⟨fun k => us' (n + k), fun k hk => hus (n + k) (by omega), ?_⟩), hidP hb3, own_is hu⟩
        have e := hlk.symm.trans hl
        cases e
        have : rowsL (fun k => [us' (n + k)]) (l.q.length - n) = rowsL (fromC (fun k => [us k]) n) (l.q.length - n) := rowsL_same fun k hk => by
          unfold fromC
          obtain ⟨_, _, ee, _, _, hh⟩ := hsl'
          obtain ⟨_, _, ee2, _, _, hh2⟩ := h2
          cases ee; cases ee2
          rcases hh with hh | ⟨b, off, e5, _, hh⟩
          · omega
          · rcases hh2 with hh2 | ⟨b2, off2, e6, _, hh2⟩
            · omega
            · have e7 := e5.symm.trans e6
              cases e7
              have x1 := hh (n + k) (by omega) 0 _ rfl
              have x2 := hh2 (n + k) (by omega) 0 _ rfl
              have := Option.some.inj (x1.symm.trans x2)
              rw [this]
        rw [this]
        exact own_base hu hB2.size
      by_cases hcn : cap = n
      · subst hcn
        have hsl : SliceAt w2 (.slice ad (l.q.length - cap) 0) (l.q.length - cap) 1 (fromC (fun k => [us k]) cap) := SliceAt.last hS2 hn2
        have hb0 : l.q.length - cap = 0 := by omega
        have hr := hrun _ hsl
        rw [hb0] at hr
        go_wp2_with fail
        refine hr.mono ?_
        rintro _ w3 ⟨_, rfl, hfin, hb3, ua, un, uc, rfl⟩
        have hl3 : look w3 p = some (.cells #[.int .u64 (l.nx : Int), .slice ad l.q.length cap, .int .u64 (l.ex : Int)] 51 (0, 0)) := by rw [look_below hb3.out (look_lt hl2)]; exact hl2
        have hc3 : w3.cell? ⟨p, 1, none⟩ = some (.slice ad l.q.length cap) := by rw [look_cell hl3]; rfl
        have hz3 := look_frozen hl3 1
        clear hrun hr hone
        go_wp2
        refine bodyPost_ret (v := .tuple #[.int .i64 (cap : Int), .int .i64 0]) (by simp [results, Try.results17, go_sem]) rfl ?_
        exact ⟨rfl, hfin.out⟩
      · have hsl : SliceAt w2 (.slice (ad.map fun x => x.add n) (l.q.length - n) (cap - n)) (l.q.length - n) 1 (fromC (fun k => [us k]) n) := SliceAt.behind hS2 hn2 hcn
        have hr := hrun _ hsl
        go_wp2_with fail
        refine hr.mono ?_
        rintro _ w3 ⟨_, rfl, hfin, hb3, ua, un, uc, rfl⟩
        have hl3 : look w3 p = some (.cells #[.int .u64 (l.nx : Int), .slice ad l.q.length cap, .int .u64 (l.ex : Int)] 51 (0, 0)) := by rw [look_below hb3.out (look_lt hl2)]; exact hl2
        have hc3 : w3.cell? ⟨p, 1, none⟩ = some (.slice ad l.q.length cap) := by rw [look_cell hl3]; rfl
        have hz3 := look_frozen hl3 1
        clear hrun hr hone
        go_wp2
        refine bodyPost_ret (v := .tuple #[.int .i64 (n : Int), .int .i64 0]) (by simp [results, Try.results17, go_sem]) rfl ?_
        exact ⟨rfl, hfin.out⟩
end Go.Proofs.Ytnpofcnibgdjhaa
