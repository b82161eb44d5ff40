/- The writer of bytes: its bytes; a number. -/
import Derived.Test.YtnpofcnibgdjhaaWirB
namespace Go.Proofs.Ytnpofcnibgdjhaa
open Go.RowKit

theorem own_news {w : World} {B : Nat} {v : Value} {bs : List Nat} (h : w.ownsRow B 5 1 v bs.length (bcells bs)) : (v = .slice none 0 0 ∧ bs.length = 0) ∨ ∃ ad c, v = .slice (some ad) bs.length c ∧ ∀ j u, (bcells bs)[j]? = some u → w.cell? (ad.add j) = some u := by
  rcases h.2 with ⟨rfl, h2⟩ | ⟨g, cap, cur, rfl, hb, hg, hn, hc, hs, ht⟩
  · exact .inl ⟨rfl, h2⟩
  · exact .inr ⟨_, cap, rfl, h.cells (g := g) rfl⟩

set_option maxRecDepth 100000 in
set_option maxHeartbeats 1600000 in
theorem bytes_any (p : Nat) (g : Option Nat) (bs : List Nat) (w : World) (hlen : bs.length ≤ 1000000) (h : WrV w p g bs) :
    Calls Try.prog 71 #[.pointer (some ⟨p, 0, none⟩)] w fun e w' => ∃ u, e = .returned u ∧ w'.ownsRow w.heap.size 5 1 u bs.length (bcells bs) ∧ Below w.heap.size w w' := by
  obtain ⟨v, hl, ho, _⟩ := h
  have hc : w.cell? ⟨p, 0, none⟩ = some v := by rw [look_cell hl]; rfl
  go_enter Try.func71, Try.ntmps71
  go_wp2_with fail
  refine (clone_any v bs.length bs _ rfl hlen (own_news ho)).mono ?_
  rintro _ w' ⟨u, rfl, h1, h2⟩
  go_wp2
  go_ret
  exact ⟨_, rfl, h1, h2⟩

theorem own_setCell_apart {w : World} {base s n p i : Nat} {u : Value} {e t : TypeId} {cs : Array Value} {v : Value} {xs : List Value} (h : w.ownsRow base e s v n xs) (hp : look w p = some (.cells cs t (0, 0))) (hne : t ≠ e) : (w.setCell ⟨p, i, none⟩ u).ownsRow base e s v n xs := by
  refine h.kept (row := some p) (grown_setCell w p i u) ?_
  cases ho : v.ownBlock with
  | none => exact .inl rfl
  | some k =>
    right
    intro e1
    cases e1
    rcases h.2 with ⟨rfl, _⟩ | ⟨g, cap, cur, rfl, _, hl, _⟩
    · cases ho
    · cases ho
      have h9 := hp.symm.trans hl
      cases h9
      exact hne rfl
theorem own_not {w : World} {base s n p : Nat} {e t : TypeId} {cs : Array Value} {v : Value} {xs : List Value} (h : w.ownsRow base e s v n xs) (hp : look w p = some (.cells cs t (0, 0))) (hne : t ≠ e) : ∀ g, v.ownBlock = some g → p ≠ g := by
  rintro g hg rfl
  rcases h.2 with ⟨rfl, _⟩ | ⟨g', cap, cur, rfl, _, hl, _⟩
  · cases hg
  · cases hg
    have h9 := hp.symm.trans hl
    cases h9
    exact hne rfl
theorem own_one {w : World} {base s n : Nat} {e : TypeId} {v : Value} {xs : List Value} (h : w.ownsRow base e s v n xs) : v.oneCell' = true := by
  rcases h.2 with ⟨rfl, _⟩ | ⟨g, cap, cur, rfl, _⟩ <;> rfl
theorem wrote_keeps {w w1 w2 : World} {p : Nat} {g : Option Nat} (hB : Below w.heap.size w w1) (hg : w1.grownBy w2 g) (i : Nat) (u : Value) : KeepsG p g w (w2.setCell ⟨p, i, none⟩ u) := by
  refine ⟨hg.os.trans hB.os, hg.tape.trans hB.tape, hg.output.trans hB.output, ?_, fun k hk hp hne => ?_⟩
  · have := Nat.le_trans hB.size hg.size
    simpa using this
  · rw [heap_setCell_other w2 ⟨p, i, none⟩ k u hp, hg.block k (Nat.lt_of_lt_of_le hk hB.size) hne, hB.block k hk]
/-- An append behind what is owned, or nil; and whose the row then is. -/
theorem append_at {P : Program} (w : World) {ops : Array Oper} {rest : List Oper} {o : Oper} {a : Act} {Q : Exit → Act → World → Prop} (hgd : o.guard = none) (s x : Operand) (t : TypeId)
    (ho : o.op = .call { callee := .builtin .append, args := #[s, x], argTypes := #[t, t] })
    (base : Nat) (e : TypeId) (i : TypeInfo) (z : Value) (size bytes : Nat) (ht : P.underlying t = some (.slice e)) (hi : P.info? e = some i) (hz : i.zero = some z)
    (hsize : i.size = size) (hby : i.bytes = bytes) (hzs : z.cells.size = size) (hsz : 0 < size)
    (v : Value) (n : Nat) (xs : List Value) (hs : a.eval s = v) (hown : w.ownsRow base e size v n xs)
    (vx : Value) (m : Nat) (news : List Value) (hx : a.eval x = vx) (hl : news.length = m * size) (h1 : ∀ u ∈ news, u.oneCell' = true)
    (hv : (vx = .slice none 0 0 ∧ m = 0) ∨ ∃ ad c, vx = .slice (some ad) m c ∧ ∀ j u, news[j]? = some u → w.cell? (ad.add j) = some u)
    (h63 : n + m ≤ maxLen) (hbytes : (n + m) * bytes ≤ 140737488355328) (hbase : base ≤ w.heap.size)
    (h : ∀ v' w', w'.ownsRow base e size v' (n + m) (xs ++ news) → w.grownBy w' v.ownBlock → (v'.ownBlock = v.ownBlock ∨ v'.ownBlock = some w.heap.size) → wpList P ops Q rest (a.put o.dst v') w') :
    wpList P ops Q (o :: rest) a w := by
  rcases hv with ⟨rfl, rfl⟩ | ⟨ad, c, rfl, hc⟩
  · refine wpList_append_own_none hgd s x t ho base e i size ht hi v n xs hs hown hx ?_
    have hn : news = [] := List.eq_nil_of_length_eq_zero (by simpa using hl)
    subst hn
    exact h v w (by simpa using hown) (grown_refl _ _) (.inl rfl)
  · exact wpList_append_own_at w hgd s x t ho base e i z size bytes ht hi hz hsize hby hzs hsz v n xs hs hown ad m c news hx hl hc h1 h63 hbytes hbase (fun v' w' h2 h3 _ h4 => h v' w' h2 h3 h4)
theorem conts_zero : ∀ f, conts f 0 = []
  | 0 => rfl
  | f + 1 => by unfold conts; rw [if_pos rfl]

set_option maxRecDepth 100000 in
set_option maxHeartbeats 3200000 in
theorem num_any (p : Nat) (g : Option Nat) (bs : List Nat) (n : Nat) (w : World) (hn : n < 18446744073709551616) (hlen : bs.length ≤ 1000000) (h : WrV w p g bs) :
    Calls Try.prog 79 #[.pointer (some ⟨p, 0, none⟩), .int .u64 (n : Int)] w fun e w' => e = .returned (.pointer (some ⟨p, 0, none⟩)) ∧ Wrote w w' p g (bs ++ numB n) := by
  obtain ⟨v, hl, ho, rfl⟩ := h
  obtain ⟨i0, hi, hz0, hz1, hz2⟩ := info_parts infoB
  go_enter Try.func79, Try.ntmps79
  go_wp2
  go_loopw [1, 5] (fun x l wr => ∃ (f m : Nat) (ds : List Nat), f ≤ 9 ∧ m < 128 ^ f ∧ x = .int .u64 (m : Int) ∧ ds ≠ [] ∧ ds.length + f ≤ 10 ∧ ds ++ conts f m = (n % 128) :: conts 9 (n / 128) ∧ wr.ownsRow w.heap.size 5 1 l ds.length (bcells ds) ∧ Below w.heap.size w wr) (fun x _ _ => (intOf x).toNat)
  case atStart =>
    have e9 : n / 128 < 128 ^ 9 := by
      rw [show (128 : Nat) ^ 9 = 9223372036854775808 by decide]
      omega
    refine ⟨9, n / 128, [n % 128], by omega, e9, rfl, by simp, by simp, rfl, ⟨rfl, .inr ⟨w.heap.size, 1, _, rfl, Nat.le_refl _, look_alloc_at _ _ _ rfl, Nat.le_refl _, by decide, rfl, rfl⟩⟩, belA (bel0 _) _⟩
  case round =>
    obtain ⟨f, m, ds, hf, hm, rfl, hne, hdl, hds, hown, hBl⟩ := hrel
    by_cases h0 : 0 < m
    · obtain ⟨f', rfl⟩ : ∃ f', f = f' + 1 := by
        cases f with
        | zero => exfalso; rw [Nat.pow_zero] at hm; omega
        | succ k => exact ⟨k, rfl⟩
      have hd : decide ((0 : Int) < (m : Int)) = true := decide_eq_true (by omega)
      have hmp : (0 : Int) < (m : Int) := by omega
      have hm9 : m < 18446744073709551616 := by
        have h1 : (128 : Nat) ^ (f' + 1) ≤ 128 ^ 9 := Nat.pow_le_pow_right (by omega) hf
        have e : (128 : Nat) ^ 9 = 9223372036854775808 := by decide
        rw [e] at h1
        omega
      have hm2 : m / 128 < 128 ^ f' := by
        rw [Nat.pow_succ] at hm
        exact Nat.div_lt_of_lt_mul (by rw [Nat.mul_comm]; exact hm)
      have hds2 : ds ++ [m % 128 + 128] ++ conts f' (m / 128) = (n % 128) :: conts 9 (n / 128) := by
        rw [← hds]
        have e : conts (f' + 1) m = (m % 128 + 128) :: conts f' (m / 128) := by
          rw [conts, if_neg (by omega)]
        rw [e, List.append_assoc]
        rfl
      have hdsh := hidP hds2
      clear hds hds2
      go_wp2_with (at_builtin; refine stop_here ?_)
      refine hidP ?_
      refine wpList_append_own_at _ rfl _ _ 30 rfl w.heap.size 5 i0 (.int .u8 0) 1 1 Try.underlying30 hi hz0 hz1 hz2 rfl (by decide) _ _ _ rfl (hown.alloc _) ⟨_, 0, none⟩ 1 1 [.int .u8 ((m : Int) % 128 + 128)] rfl rfl ?c1 ?c2 ?c3 ?c4 ?c5 ?_
      case c1 => exact cell_one_new _ _ _
      case c2 => exact one_one _ rfl
      case c3 => unfold maxLen; omega
      case c4 => omega
      case c5 => exact (belA hBl _).size
      intro v' w1 hown' hgrow _ _
      have hB1 := (belA hBl _).grown hgrow (belA hBl _).size (fun g e => (hown.lt g e).1)
      go_wp2
      go_roundw
      case rel => exact ⟨f', m / 128, ds ++ [m % 128 + 128], by omega, hm2, rfl, by simp, by rw [List.length_append, List.length_singleton]; omega, hdsh.out, by rw [List.length_append, bcells_append]; exact hown', hB1⟩
      case measure => simp [intOf]; omega
    · obtain rfl : m = 0 := by omega
      rw [conts_zero, List.append_nil] at hds
      have hnb : numB n = ds.reverse := by unfold numB; rw [hds]
      have hdsh := hidP hds
      clear hds hm
      have hp := look_lt hl
      go_wp2_with fail
      refine (reverse_own _ w.heap.size ds _ hne (by omega) hown).mono ?_
      rintro _ w1 ⟨rfl, hrev, hgr⟩
      have hB1 := hBl.grown hgr hBl.size (fun g e => (hown.lt g e).1)
      have hl1 : look w1 p = some (.cells #[v] 161 (0, 0)) := by rw [look_below hB1 hp]; exact hl
      have ho1 := own_below ho hB1
      have hc1 : w1.cell? ⟨p, 0, none⟩ = some v := by rw [look_cell hl1]; rfl
      go_wp2_with (at_builtin; refine stop_here ?_)
      refine hidP ?_
      refine append_at _ rfl _ _ 30 rfl 0 5 i0 (.int .u8 0) 1 1 Try.underlying30 hi hz0 hz1 hz2 rfl (by decide) _ _ _ rfl ho1 _ ds.reverse.length (bcells ds.reverse) rfl ?d1 ?d2 ?d3 ?d4 ?d5 (Nat.zero_le _) ?_
      case d1 => rw [bcells_len, Nat.mul_one]
      case d2 => exact bcells_ones _
      case d3 => exact own_news (by rw [List.length_reverse]; exact hrev)
      case d4 => rw [List.length_reverse]; unfold maxLen; omega
      case d5 => rw [List.length_reverse]; omega
      intro v2 w2 ho2 hg2 hat
      have hnot := own_not ho1 hl1 (by decide)
      have hv2 := own_one ho2
      have hl2 : look w2 p = some (.cells #[v] 161 (0, 0)) := by rw [grown_look hg2 (look_lt hl1) hnot]; exact hl1
      go_wp2
      go_ret
      refine ⟨rfl, v2.ownBlock, ⟨v2, by rw [look_set_same hl2]; rfl, ?_, rfl⟩, ?_, wrote_keeps hB1 hg2 _ _⟩
      · refine own_setCell_apart ?_ hl2 (by decide)
        rw [hnb, List.length_append, bcells_append]
        exact ho2
      · exact hat.imp id (fun e => ⟨_, e, hB1.size⟩)
end Go.Proofs.Ytnpofcnibgdjhaa
