/- LinkBack: saved and loaded, a link goes on alike; its bytes, cut or with one more, are none's. No condition but that the numbers are such as their types hold. -/
import Derived.Test.YtnpofcnibgdjhaaLkL
import Derived.Deep.CutRange
namespace Go.Proofs.Ytnpofcnibgdjhaa
open Go.RowKit

theorem append_fresh_if {P : Program} {w : World} {ops : Array Oper} {rest : List Oper} {o : Oper} {a : Act} {Q : Exit → Act → World → Prop} (hw : Region.wanted o (yielded ops a.tmps) = true) (s x : Operand) (t : TypeId)
    (ho : o.op = .call { callee := .builtin .append, args := #[s, x], argTypes := #[t, t] })
    (base : Nat) (e : TypeId) (i : TypeInfo) (z : Value) (size bytes : Nat) (ht : P.underlying t = some (.slice e)) (hi : P.info? e = some i) (hz : i.zero = some z)
    (hsize : i.size = size) (hby : i.bytes = bytes) (hzs : z.cells.size = size) (hsz : 0 < size)
    (g : Nat) (hs : a.eval s = .slice (some ⟨g, 0, none⟩) 0 0) (hg : look w g = some (.cells #[] e (0, 0))) (hbg : base ≤ g) (hbase : base ≤ w.heap.size)
    (vx : Value) (m : Nat) (news : List Value) (hx : a.eval x = vx) (hl : news.length = m * size) (h1 : ∀ u ∈ news, u.oneCell' = true)
    (hv : (vx = .slice none 0 0 ∧ m = 0) ∨ ∃ ad c, vx = .slice (some ad) m c ∧ ∀ j u, news[j]? = some u → w.cell? (ad.add j) = some u)
    (h63 : m ≤ maxLen) (hbytes : m * bytes ≤ 140737488355328)
    (h : ∀ v' w', w'.ownsRow base e size v' m news → Below w.heap.size w w' → wpList P ops Q rest (a.put o.dst v') w') : wpList P ops Q (o :: rest) a w :=
  wpList_step fun K hK => by
    simp only [hw, if_true]
    obtain ⟨v', w', hr, h2, h3⟩ := run_append_fresh (P := P) w base t o.type e i z size bytes ht hi hz hsize hby hzs hsz g hg hbg hbase vx m news hl h1 hv h63 hbytes
    unfold Oper.wp execOp
    simp only [ho, resolve, invoke, builtin, Sem.run_bind, Sem.run_pure, Result.andThen_ok, List.map_toArray, List.map_cons, List.map_nil, hs, hx, hr]
    exact hK _ _ (h v' w' h2 h3)
theorem append_own_if {P : Program} {w : World} {ops : Array Oper} {rest : List Oper} {o : Oper} {a : Act} {Q : Exit → Act → World → Prop} (hw : Region.wanted o (yielded ops a.tmps) = true) (s x : Operand) (t : TypeId)
    (ho : o.op = .call { callee := .builtin .append, args := #[s, x], argTypes := #[t, t] })
    (base : Nat) (e : TypeId) (i : TypeInfo) (z : Value) (size bytes : Nat) (ht : P.underlying t = some (.slice e)) (hi : P.info? e = some i) (hz : i.zero = some z)
    (hsize : i.size = size) (hby : i.bytes = bytes) (hzs : z.cells.size = size) (hsz : 0 < size)
    (v : Value) (n : Nat) (xs : List Value) (hs : a.eval s = v) (hown : w.ownsRow base e size v n xs)
    (ad : Addr) (m c : Nat) (news : List Value) (hx : a.eval x = .slice (some ad) m c) (hl : news.length = m * size) (hnews : ∀ j u, news[j]? = some u → w.cell? (ad.add j) = some u) (h1 : ∀ u ∈ news, u.oneCell' = true)
    (h63 : n + m ≤ maxLen) (hbytes : (n + m) * bytes ≤ 140737488355328) (hbase : base ≤ w.heap.size)
    (h : ∀ v' w', w'.ownsRow base e size v' (n + m) (xs ++ news) → w.grownBy w' v.ownBlock → wpList P ops Q rest (a.put o.dst v') w') : wpList P ops Q (o :: rest) a w :=
  wpList_step fun K hK => by
    simp only [hw, if_true]
    obtain ⟨v', w', hr, h2, h3, _⟩ := run_append_own (P := P) w base t o.type e i z size bytes ht hi hz hsize hby hzs hsz v n xs hown ad m c news hl hnews h1 h63 hbytes hbase
    unfold Oper.wp execOp
    simp only [ho, resolve, invoke, builtin, Sem.run_bind, Sem.run_pure, Result.andThen_ok, List.map_toArray, List.map_cons, List.map_nil, hs, hx, hr]
    exact hK _ _ (h v' w' h2 h3)

/-- The link behind k ops. -/
def stG (l : Lk) (L : Nat → LOp) : Nat → Lk
  | 0 => l
  | k + 1 => doL (stG l L k) (L k)
theorem ok_stG {l : Lk} {L : Nat → LOp} (h : okLk l) : ∀ k, (∀ j, j < k → ∀ x ∈ (L j).bs, x < 256) → okLk (stG l L k)
  | 0, _ => h
  | k + 1, hb => ok_do (ok_stG h k (fun j hj => hb j (by omega))) (hb k (by omega))
/-- All but p and q stays. -/
structure Two (p q : Nat) (w w' : World) : Prop where
  os : w'.os = w.os
  tape : w'.tape = w.tape
  output : w'.output = w.output
  size : w.heap.size ≤ w'.heap.size
  block : ∀ k, k < w.heap.size → k ≠ p → k ≠ q → w'.heap[k]? = w.heap[k]?
theorem Two.of1 {p q : Nat} {w w1 w2 : World} (h : Two p q w w1) (hg : w1.grownBy w2 (some p)) : Two p q w w2 :=
  ⟨hg.os.trans h.os, hg.tape.trans h.tape, hg.output.trans h.output, Nat.le_trans h.size hg.size, fun k hk hp hq => (hg.block k (Nat.lt_of_lt_of_le hk h.size) (fun e => by cases e; exact hp rfl)).trans (h.block k hk hp hq)⟩
theorem Two.of2 {p q : Nat} {w w1 w2 : World} (h : Two p q w w1) (hg : w1.grownBy w2 (some q)) : Two p q w w2 :=
  ⟨hg.os.trans h.os, hg.tape.trans h.tape, hg.output.trans h.output, Nat.le_trans h.size hg.size, fun k hk hp hq => (hg.block k (Nat.lt_of_lt_of_le hk h.size) (fun e => by cases e; exact hq rfl)).trans (h.block k hk hp hq)⟩
theorem Two.below {p q : Nat} {w w1 w2 : World} (h : Two p q w w1) (hb : Below w1.heap.size w1 w2) : Two p q w w2 := h.of1 (below_grown hb _)
theorem Two.refl (p q : Nat) (w : World) : Two p q w w := ⟨rfl, rfl, rfl, Nat.le_refl _, fun _ _ _ _ => rfl⟩
/-- Two links, apart from each other, in a world in which all below is as in w. -/
structure Pair (w : World) (p q : Nat) (l m : Lk) (u : World) : Prop where
  it : ∃ S T : Nat → Prop, LinkAt S u p l ∧ LinkAt T u q m ∧ ¬ S q ∧ ¬ T p
  ne : p ≠ q
  lo : w.heap.size ≤ p ∧ w.heap.size ≤ q
  two : Below w.heap.size w u
theorem Pair.below {w u u' : World} {p q : Nat} {l m : Lk} (h : Pair w p q l m u) (hb : Below u.heap.size u u') : Pair w p q l m u' := by
  obtain ⟨⟨S, T, h1, h2, h3, h4⟩, h5, h6, h7⟩ := h
  exact ⟨⟨S, T, h1.below hb, h2.below hb, h3, h4⟩, h5, h6, h7.trans (hb.mono h7.size)⟩
theorem Pair.did1 {w u u' : World} {p q : Nat} {l m l' : Lk} (h5 : p ≠ q) (h6 : w.heap.size ≤ p ∧ w.heap.size ≤ q) (h7 : Below w.heap.size w u) {S T S' : Nat → Prop} (h1 : LinkAt S u p l) (h2 : LinkAt T u q m) (h3 : ¬ S q) (h4 : ¬ T p) (hL : LinkAt S' u' p l') (hG : Grew u S S') (hg : u.grownBy u' (some p)) : Pair w p q l' m u' := by
  refine ⟨⟨S', T, hL, h2.kept hg.size fun b hb => ?_, fun hq => ?_, h4⟩, h5, h6, h7.grown hg h7.size (fun k e => by cases e; exact h6.1)⟩
  · have hlt : b < u.heap.size := by
      rcases hb with rfl | hb
      · exact h2.lt
      · exact (h2.blocks b hb).1
    refine hg.block b hlt fun e => ?_
    have e2 := Option.some.inj e
    rcases hb with rfl | hb
    · exact h5 e2.symm
    · rw [e2] at hb; exact h4 hb
  · rcases hG q hq with h | h
    · exact h3 h
    · have := h2.lt; omega
theorem Pair.swap {w u : World} {p q : Nat} {l m : Lk} (h : Pair w p q l m u) : Pair w q p m l u := by
  obtain ⟨⟨S, T, h1, h2, h3, h4⟩, h5, h6, h7⟩ := h
  exact ⟨⟨T, S, h2, h1, h4, h3⟩, fun e => h5 e.symm, ⟨h6.2, h6.1⟩, h7⟩
/-- Two links that do the same op, one and then the other. -/
def J2 (w wr : World) (p q : Nat) (l l' : Lk) (L : Nat → Bool) (u : World) : Prop := Pair w p q (if L 5 = true then l' else l) (if L 11 = true then l' else l) u ∧ Two p q wr u
section
variable {w wr u u' : World} {p q : Nat} {l l' : Lk} {L : Nat → Bool}
theorem J2.other (h : J2 w wr p q l l' L u) (i : Nat) (h5 : 5 ≠ i) (h11 : 11 ≠ i) : J2 w wr p q l l' (setL L i) u := by
  unfold J2 setL
  rw [if_neg h5, if_neg h11]
  exact h
theorem J2.at1 (h : J2 w wr p q l l' L u) (hL : L 5 = false) : ∃ S, LinkAt S u p l ∧ ∃ T, LinkAt T u q (if L 11 = true then l' else l) ∧ ¬ S q ∧ ¬ T p := by
  obtain ⟨⟨⟨S, T, h1, h2, h3, h4⟩, _⟩, _⟩ := h
  rw [hL] at h1
  exact ⟨S, h1, T, h2, h3, h4⟩
theorem J2.at2 (h : J2 w wr p q l l' L u) (hL : L 11 = false) : ∃ S, LinkAt S u q l ∧ ∃ T, LinkAt T u p (if L 5 = true then l' else l) ∧ ¬ S p ∧ ¬ T q := by
  obtain ⟨⟨⟨S, T, h1, h2, h3, h4⟩, _⟩, _⟩ := h
  rw [hL] at h2
  exact ⟨T, h2, S, h1, h4, h3⟩
theorem J2.did1 (h : J2 w wr p q l l' L u) (hL : L 5 = false) {S S' : Nat → Prop} (hS : LinkAt S u p l ∧ ∃ T, LinkAt T u q (if L 11 = true then l' else l) ∧ ¬ S q ∧ ¬ T p) (hL' : LinkAt S' u' p l') (hG : Grew u S S') (hg : u.grownBy u' (some p)) : J2 w wr p q l l' (setL L 5) u' := by
  obtain ⟨h1, T, h2, h3, h4⟩ := hS
  have := Pair.did1 h.1.ne h.1.lo h.1.two h1 h2 h3 h4 hL' hG hg
  refine ⟨?_, h.2.of1 hg⟩
  unfold setL
  simpa using this
theorem J2.did2 (h : J2 w wr p q l l' L u) (hL : L 11 = false) {S S' : Nat → Prop} (hS : LinkAt S u q l ∧ ∃ T, LinkAt T u p (if L 5 = true then l' else l) ∧ ¬ S p ∧ ¬ T q) (hL' : LinkAt S' u' q l') (hG : Grew u S S') (hg : u.grownBy u' (some q)) : J2 w wr p q l l' (setL L 11) u' := by
  obtain ⟨h1, T, h2, h3, h4⟩ := hS
  have := (Pair.did1 (Ne.symm h.1.ne) ⟨h.1.lo.2, h.1.lo.1⟩ h.1.two h1 h2 h3 h4 hL' hG hg).swap
  refine ⟨?_, h.2.of2 hg⟩
  unfold setL
  simpa using this
theorem J2.fin (h : J2 w wr p q l l' L u) (h5 : L 5 = true) (h11 : L 11 = true) : Pair w p q l' l' u ∧ Two p q wr u := by
  unfold J2 at h
  rw [h5, h11] at h
  exact h
theorem J2.range (h : J2 w wr p q l l' L u) {b o : Nat} {cs : List Value} (hb : b < w.heap.size) (hc : w.rangeAt b o cs) : u.rangeAt b o cs := fun j v hv => by
  rw [h.1.two.cell hb]
  exact hc j v hv
theorem J2.op {P : LOp} (h : J2 w wr p q l l' L u) (hP : LOpOk w P) : LOpOk u P := hP.below h.1.two
end
/-- The cells of the k-th op. -/
def opC (L : Nat → LOp) (k : Nat) : List Value := (opA (L k)).toList
theorem op_info : (Try.prog.info? 32).map (·.size) = some 3 := by kernel_rfl
theorem infoU : (Try.prog.info? 5).map (fun i => (i.zero, i.size, i.bytes)) = some (some (.int .u8 0), 1, 1) := by kernel_rfl
theorem whole_more {α : Type} {dec : List Nat → Rd α} {enc : α → List Nat} {good : α → Prop} (c : Code dec enc good) {x : α} (hx : good x) (t : Nat) : whole (dec (enc x ++ [t])) = none := by
  rw [c.whole [t] hx]
  rfl
theorem encLk_pos (l : Lk) : 0 < (encLk l).length := by
  have := (numB_len l.nx).1
  unfold encLk
  simp only [List.length_append]
  omega

set_option maxRecDepth 100000 in
set_option maxHeartbeats 12800000 in
theorem linkBack_any (n cap n2 cap2 : Nat) (ad ad2 : Option Addr) (K M : Nat → LOp) (w : World) (hv : SliceAt w (.slice ad n cap) n 3 (opC K)) (hK : ∀ k, k < n → LOpOk w (K k)) (hv2 : SliceAt w (.slice ad2 n2 cap2) n2 3 (opC M)) (hM : ∀ k, k < n2 → LOpOk w (M k)) :
    Calls Try.prog 5 #[.slice ad n cap, .slice ad2 n2 cap2] w fun e w' => e = .returned (.bool true) ∧ Below w.heap.size w w' := by
  obtain ⟨i0, hi, hz0, hz1, hz2⟩ := info_parts infoU
  obtain ⟨_, _, e1, _, hcap1, h4⟩ := hv
  cases e1
  obtain ⟨_, _, e2, _, hcap2, h42⟩ := hv2
  cases e2
  have hn63 : n ≤ 9223372036854775807 := hcap1.2
  have hm63 : n2 ≤ 9223372036854775807 := hcap2.2
  go_enter Try.func5, Try.ntmps5
  go_wp2_with fail
  refine (lnew_any _).mono ?_
  rintro _ _ ⟨rfl, rfl⟩
  have hL0 := link_new w
  have hB0 := belA (bel0 w) (.cells #[.int .u64 1, .slice none 0 0, .int .u64 1] 51)
  obtain ⟨w0, hw0⟩ : ∃ w0, Hid (w0 = w.alloc (.cells #[.int .u64 1, .slice none 0 0, .int .u64 1] 51)) := ⟨_, hidP rfl⟩
  rw [← hw0.out] at hL0 hB0 ⊢
  obtain ⟨p, hp⟩ : ∃ p, Hid (p = w.heap.size) := ⟨_, hidP rfl⟩
  rw [← hp.out] at hL0 ⊢
  have hpB : w.heap.size ≤ p := Nat.le_of_eq hp.out.symm
  go_wp2_with fail
  go_loopw [6] (fun i wr => ∃ (k : Nat) (S : Nat → Prop), k ≤ n ∧ k ≤ 80 ∧ i = .int .i64 (k : Int) ∧ LinkAt S wr p (stG newL K k) ∧ Below w.heap.size w wr) (fun i _ => 80 - (intOf i).toNat)
  case atStart => exact ⟨0, _, by omega, by omega, rfl, hL0, hB0⟩
  case round =>
    obtain ⟨k, S, hkn, hk80, rfl, hL, hB⟩ := hrel
    have hokk : okLk (stG newL K k) := ok_stG ok_new k (fun j hj => (hK j (by omega)).by')
    go_upto_region 3 with fail
    go_cut [18] from 11 to 19 (fun s wc => s = .bool (decide (k < n ∧ k < 80)) ∧ wr = wc)
    case first =>
      by_cases c1 : k < n
      · by_cases c2 : k < 80
        · have e : decide (k < n ∧ k < 80) = true := decide_eq_true ⟨c1, c2⟩
          go_wp2_with fail
          go_meet
          case rel => exact ⟨by first | (rw [e]; first | rfl | exact congrArg Value.bool (by first | exact decide_eq_true (by omega) | exact decide_eq_false (by omega))) | rw [e], rfl⟩
        · have e : decide (k < n ∧ k < 80) = false := decide_eq_false (fun h => c2 h.2)
          go_wp2_with fail
          go_meet
          case rel => exact ⟨by first | (rw [e]; first | rfl | exact congrArg Value.bool (by first | exact decide_eq_true (by omega) | exact decide_eq_false (by omega))) | rw [e], rfl⟩
      · have e : decide (k < n ∧ k < 80) = false := decide_eq_false (fun h => c1 h.1)
        go_wp2_with fail
        go_meet
        case rel => exact ⟨by first | (rw [e]; first | rfl | exact congrArg Value.bool (by first | exact decide_eq_true (by omega) | exact decide_eq_false (by omega))) | rw [e], rfl⟩
    case rest =>
    obtain ⟨rfl, rfl⟩ := hcut
    by_cases hgo : k < n ∧ k < 80
    · have dgo : decide (k < n ∧ k < 80) = true := decide_eq_true hgo
      rw [dgo]
      obtain ⟨hlt, h80⟩ := hgo
      obtain ⟨b, off, rfl, hb, hR⟩ := h4.resolve_left (by omega)
      have hPk := hK k hlt
      have hri0 : wr.rangeAt b (off + k * 3) (opA (K k)).toList := fun j y hy => by
        rw [hB.cell hb]
        exact hR k hlt j y hy
      obtain ⟨P, hP⟩ : ∃ P, Hid (P = K k) := ⟨_, hidP rfl⟩
      rw [← hP.out] at hri0 hPk
      have hpar : (Try.prog.info? 32).map (·.size) = some (opA P).toList.length := op_info
      have c2 : wr.cell? ⟨b, off + k * 3 + 2, none⟩ = some (.slice P.ad P.bs.length P.cap) := hri0 2 _ rfl
      have hl63 : P.bs.length ≤ 9223372036854775807 := by
        obtain ⟨_, _, e, _, h, _⟩ := hPk.sl
        cases e
        exact h.2
      by_cases hbig : 1810 < P.bs.length
      · have d3 : decide ((1810 : Int) < (P.bs.length : Int)) = true := decide_eq_true (by omega)
        go_wp2_with fail
        refine (alive16 _).mono ?_
        rintro _ w4 ⟨rfl, hb4⟩
        have hB4 := belT hB hb4
        go_wp2
        go_ret
        exact ⟨rfl, hB4⟩
      · have d3 : decide ((1810 : Int) < (P.bs.length : Int)) = false := decide_eq_false (by omega)
        clear hbig hl63
        go_wp2_with (refine wpList_load_mid rfl 32 _ rfl b (off + k * 3) rfl (opA P).toList _ hri0 Try.underlying32 rfl hpar ?_; refine stop_here ?_)
        refine hidP ?_
        go_wp2_with fail
        refine (ldo_any p P (stG newL K k) S _ hokk (hPk.below hB) hL).mono ?_
        rintro _ w2 ⟨rfl, S2, hL2, hG2, hg2⟩
        have hB2 : Below w.heap.size w w2 := hB.grown hg2 hB.size (fun k e => by cases e; exact hpB)
        have hL3 : LinkAt S2 w2 p (stG newL K (k + 1)) := by
          show LinkAt S2 w2 p (doL (stG newL K k) (K k))
          rw [← hP.out]
          exact hL2
        clear hL hL2 hG2 hg2 hri0 c2
        go_wp2
        go_roundw
        case rel => exact ⟨k + 1, S2, by omega, by omega, by go_num, hL3, hB2⟩
        case measure => simp [intOf]; omega
    · have dgo : decide (k < n ∧ k < 80) = false := decide_eq_false hgo
      rw [dgo]
      obtain ⟨l0, hl0⟩ : ∃ l0, Hid (l0 = stG newL K k) := ⟨_, hidP rfl⟩
      rw [← hl0.out] at hL hokk
      have hel := encLk_len hokk.few.2 (fun b hb => ((txt_iff b).1 (hokk.texts b hb)).2)
      have hpos := encLk_pos l0
      have hby := encLk_byte hokk
      have hwh : whole (decLk (encLk l0)) = some l0 := by
        have := codeLk.whole (x := l0) [] hokk
        rw [List.append_nil] at this
        rw [this]; rfl
      have hcut := code_cut codeLk hokk hby (k := (encLk l0).length - 1) (by omega)
      have hmore := whole_more codeLk hokk 0
      have hsave : ∀ (pl : Nat) (l : Lk) (S : Nat → Prop) (u : World), okLk l → LinkAt S u pl l → Calls Try.prog 24 #[.pointer (some ⟨pl, 0, none⟩)] u fun e w' => e = .returned (.string (strN (encLk l))) ∧ Below u.heap.size u w' := fun pl l S u h1 h2 => lsave_any pl l S u h1 h2
      have hsv := hsave p l0 S wr hokk hL
      clear hsave hgo hkn hk80 dgo
      obtain ⟨BS, hBS⟩ : ∃ BS, Hid (BS = encLk l0) := ⟨_, hidP rfl⟩
      rw [← hBS.out] at hsv hel hpos hby hwh hcut hmore
      have hb63 : BS.length ≤ 9223372036854775807 := by omega
      go_wp2_with fail
      refine hsv.mono ?_
      rintro _ w1 ⟨rfl, hb1⟩
      have hB1 := belT hB hb1
      have hL1 := hL.below hb1
      go_wp2_with (with_reducible refine wpList_str_bytes rfl _ rfl BS rfl hby (by omega) ?_; refine stop_here ?_)
      refine hidP ?_
      intro c2 w2 hc2 hs2 hb2
      have hB2 := belT hB1 hb2
      have hL2 := hL1.below hb2
      have hp1 : p < w1.heap.size := hL1.lt
      obtain ⟨B0, hB0e⟩ : ∃ B0, Hid (B0 = w1.heap.size) := ⟨_, hidP rfl⟩
      rw [← hB0e.out] at hs2 ⊢
      have hB0p : p < B0 := by rw [hB0e.out]; exact hp1
      have hB0s : B0 < w2.heap.size := by
        obtain ⟨_, _, e, _, _, h9⟩ := hs2
        cases e
        rcases h9 with h9 | ⟨b', off', e', hb', _⟩
        · omega
        · cases e'; exact hb'
      clear hb1 hb2 hL hL1 hB hB1 hsv
      go_wp2_with fail
      refine (lload_any _ BS _ hby (by omega) hs2).mono ?_
      rintro e w3 ⟨hP, hb3⟩
      rw [hwh] at hP
      obtain ⟨q, T, rfl, hqS, hTS, hLq⟩ := hP
      have hB3 := belT hB2 hb3
      have hs3 := hs2.below hb3
      have hpair : Pair w p q l0 l0 w3 := ⟨⟨S, T, hL2.below hb3, hLq, fun h => by have := (hL2.blocks q h).1; omega, fun h => by have := hTS p h; omega⟩, by omega, ⟨hpB, by omega⟩, hB3⟩
      have hqB0 : B0 ≠ q := by omega
      clear hb3 hL2 hTS hB2 hs2 hwh
      have hsvq : ∀ u, Below w3.heap.size w3 u → Calls Try.prog 24 #[.pointer (some ⟨q, 0, none⟩)] u fun e w' => e = .returned (.string (strN BS)) ∧ Below u.heap.size u w' := fun u hb => by
        rw [hBS.out]
        exact lsave_any q l0 T u hokk (hLq.below hb)
      go_wp2_with fail
      refine wp_region_words wmixed 14 ([] :: [40] :: [41] :: [42] :: [43, 42] :: [42] :: [45, 42] :: [44, 46, 42] :: [42, 47] :: [48] :: [49] :: [50, 49] :: [51, 49] :: [49, 52] :: []) (isV (.pointer (some ⟨q, 0, none⟩)) :: isV (.bool false) :: isV (.bool false) :: isV (.pointer (some ⟨q, 0, none⟩)) :: isV (.string (strN BS)) :: isV (.slice (some ⟨B0, 0, none⟩) BS.length c2) :: isV (.string (strN BS)) :: isV (.bool false) :: isV (.bool false) :: isV (.bool false) :: isV (.slice (some ⟨B0, 0, none⟩) BS.length c2) :: isV (.int .i64 (BS.length : Int)) :: isV (.bool false) :: isV (.bool false) :: []) (by decide) (by kernel_rfl)
        ⟨stab_isV _, stab_isV _, stab_isV _, stab_isV _, stab_isV _, stab_isV _, stab_isV _, stab_isV _, stab_isV _, stab_isV _, stab_isV _, stab_isV _, stab_isV _, stab_isV _, trivial⟩ ⟨?_, ?_, ?_, ?_, ?_, ?_, ?_, ?_, ?_, ?_, ?_, ?_, ?_, ?_, trivial⟩ ?_
      · intro vs wq hB hm
        clear hm
        simp only [fill]
        go_wp2
        exact ⟨_, rfl, rfl, Below.refl _ _, trivial⟩
      · intro vs wq hB hm
        have h40 : vs 40 = .pointer (some ⟨q, 0, none⟩) := meets_get hm 0 rfl rfl rfl rfl
        clear hm
        simp only [fill, h40]
        go_wp2
        exact ⟨_, rfl, rfl, Below.refl _ _, trivial⟩
      · intro vs wq hB hm
        have h41 : vs 41 = .bool false := meets_get hm 1 rfl rfl rfl rfl
        clear hm
        simp only [fill, h41]
        go_wp2
        exact ⟨_, rfl, rfl, Below.refl _ _, trivial⟩
      · intro vs wq hB hm
        have h42 : vs 42 = .bool false := meets_get hm 2 rfl rfl rfl rfl
        clear hm
        simp only [fill, h42]
        go_wp2
        exact ⟨_, rfl, rfl, Below.refl _ _, trivial⟩
      · intro vs wq hB hm
        have h43 : vs 43 = .pointer (some ⟨q, 0, none⟩) := meets_get hm 3 rfl rfl rfl rfl
        have h42 : vs 42 = .bool false := meets_get hm 2 rfl rfl rfl rfl
        clear hm
        simp only [fill, h43, h42]
        go_wp2_with fail
        refine (hsvq _ hB).mono ?_
        rintro e w1 ⟨rfl, hb1⟩
        go_wp2
        exact ⟨_, rfl, rfl, hb1, trivial⟩
      · intro vs wq hB hm
        have h42 : vs 42 = .bool false := meets_get hm 2 rfl rfl rfl rfl
        clear hm
        simp only [fill, h42]
        go_wp2
        exact ⟨_, rfl, rfl, Below.refl _ _, trivial⟩
      · intro vs wq hB hm
        have h45 : vs 45 = .slice (some ⟨B0, 0, none⟩) BS.length c2 := meets_get hm 5 rfl rfl rfl rfl
        have h42 : vs 42 = .bool false := meets_get hm 2 rfl rfl rfl rfl
        clear hm
        have hc1 := conv_str (hs3.below hB)
        simp only [fill, h45, h42]
        go_wp2
        exact ⟨_, rfl, rfl, Below.refl _ _, trivial⟩
      · intro vs wq hB hm
        have h44 : vs 44 = .string (strN BS) := meets_get hm 4 rfl rfl rfl rfl
        have h46 : vs 46 = .string (strN BS) := meets_get hm 6 rfl rfl rfl rfl
        have h42 : vs 42 = .bool false := meets_get hm 2 rfl rfl rfl rfl
        clear hm
        simp only [fill, h44, h46, h42]
        go_wp2
        exact ⟨_, rfl, rfl, Below.refl _ _, trivial⟩
      · intro vs wq hB hm
        have h42 : vs 42 = .bool false := meets_get hm 2 rfl rfl rfl rfl
        have h47 : vs 47 = .bool false := meets_get hm 7 rfl rfl rfl rfl
        clear hm
        simp only [fill, h42, h47]
        go_wp2
        exact ⟨_, rfl, rfl, Below.refl _ _, trivial⟩
      · intro vs wq hB hm
        have h48 : vs 48 = .bool false := meets_get hm 8 rfl rfl rfl rfl
        clear hm
        simp only [fill, h48]
        go_wp2
        exact ⟨_, rfl, rfl, Below.refl _ _, trivial⟩
      · intro vs wq hB hm
        have h49 : vs 49 = .bool false := meets_get hm 9 rfl rfl rfl rfl
        clear hm
        simp only [fill, h49]
        go_wp2
        exact ⟨_, rfl, rfl, Below.refl _ _, trivial⟩
      · intro vs wq hB hm
        have h50 : vs 50 = .slice (some ⟨B0, 0, none⟩) BS.length c2 := meets_get hm 10 rfl rfl rfl rfl
        have h49 : vs 49 = .bool false := meets_get hm 9 rfl rfl rfl rfl
        clear hm
        simp only [fill, h50, h49]
        go_wp2
        exact ⟨_, rfl, rfl, Below.refl _ _, trivial⟩
      · intro vs wq hB hm
        have h51 : vs 51 = .int .i64 (BS.length : Int) := meets_get hm 11 rfl rfl rfl rfl
        have h49 : vs 49 = .bool false := meets_get hm 9 rfl rfl rfl rfl
        clear hm
        simp only [fill, h51, h49]
        go_wp2
        exact ⟨_, rfl, (by show (_ : Value) = _; first | rfl | exact congrArg Value.bool (by first | (simp; omega) | exact beq_eq_false_iff_ne.2 (by omega))), Below.refl _ _, trivial⟩
      · intro vs wq hB hm
        have h49 : vs 49 = .bool false := meets_get hm 9 rfl rfl rfl rfl
        have h52 : vs 52 = .bool false := meets_get hm 12 rfl rfl rfl rfl
        clear hm
        simp only [fill, h49, h52]
        go_wp2
        exact ⟨_, rfl, rfl, Below.refl _ _, trivial⟩
      intro vs wq hB hm hne hlo
      have h53 : vs 53 = .bool false := hm 13 _ _ _ rfl rfl rfl
      clear hne hlo
      simp only [fill, List.filterMap, List.take, List.drop, List.setIfInBounds_toArray, List.set_cons_zero, List.set_cons_succ, h53]
      clear hm h53
      have hpair2 := hpair.below hB
      have hs4 := hs3.below hB
      clear hpair hs3 hLq hsvq hB3
      go_wp2_with fail
      go_loopw [9] (fun i wr => ∃ (k : Nat), k ≤ n2 ∧ k ≤ 40 ∧ i = .int .i64 (k : Int) ∧ Pair w p q (stG l0 M k) (stG l0 M k) wr ∧ SliceAt wr (.slice (some ⟨B0, 0, none⟩) BS.length c2) BS.length 1 (bC BS)) (fun i _ => 40 - (intOf i).toNat)
      case atStart => exact ⟨0, by omega, by omega, rfl, hpair2, hs4⟩
      case round =>
        obtain ⟨k, hkn, hk40, rfl, hPr, hsB⟩ := hrel
        have hok : okLk (stG l0 M k) := ok_stG hokk k (fun j hj => (hM j (by omega)).by')
        go_upto_region 13 with fail
        go_cut [61] from 54 to 62 (fun s wc => s = .bool (decide (k < n2 ∧ k < 40)) ∧ wr = wc)
        case first =>
          by_cases c1 : k < n2
          · by_cases c2 : k < 40
            · have e : decide (k < n2 ∧ k < 40) = true := decide_eq_true ⟨c1, c2⟩
              go_wp2_with fail
              go_meet
              case rel => exact ⟨by first | (rw [e]; first | rfl | exact congrArg Value.bool (by first | exact decide_eq_true (by omega) | exact decide_eq_false (by omega))) | rw [e], rfl⟩
            · have e : decide (k < n2 ∧ k < 40) = false := decide_eq_false (fun h => c2 h.2)
              go_wp2_with fail
              go_meet
              case rel => exact ⟨by first | (rw [e]; first | rfl | exact congrArg Value.bool (by first | exact decide_eq_true (by omega) | exact decide_eq_false (by omega))) | rw [e], rfl⟩
          · have e : decide (k < n2 ∧ k < 40) = false := decide_eq_false (fun h => c1 h.1)
            go_wp2_with fail
            go_meet
            case rel => exact ⟨by first | (rw [e]; first | rfl | exact congrArg Value.bool (by first | exact decide_eq_true (by omega) | exact decide_eq_false (by omega))) | rw [e], rfl⟩
        case rest =>
        obtain ⟨rfl, rfl⟩ := hcut
        by_cases hgo : k < n2 ∧ k < 40
        · have dgo : decide (k < n2 ∧ k < 40) = true := decide_eq_true hgo
          rw [dgo]
          obtain ⟨hlt, h40⟩ := hgo
          obtain ⟨b, off, rfl, hb, hR⟩ := h42.resolve_left (by omega)
          have hP := hM k hlt
          have hri0 : w.rangeAt b (off + k * 3) (opA (M k)).toList := hR k hlt
          obtain ⟨P, hPe⟩ : ∃ P, Hid (P = M k) := ⟨_, hidP rfl⟩
          rw [← hPe.out] at hri0 hP
          have hpar : (Try.prog.info? 32).map (·.size) = some (opA P).toList.length := op_info
          have c2' : wr.cell? ⟨b, off + k * 3 + 2, none⟩ = some (.slice P.ad P.bs.length P.cap) := by
            rw [hPr.two.cell hb]
            exact hri0 2 _ rfl
          have hl63 : P.bs.length ≤ 9223372036854775807 := by
            obtain ⟨_, _, e, _, h, _⟩ := hP.sl
            cases e
            exact h.2
          by_cases hbig : 1810 < P.bs.length
          · have d3 : decide ((1810 : Int) < (P.bs.length : Int)) = true := decide_eq_true (by omega)
            go_wp2_with fail
            refine (alive16 _).mono ?_
            rintro _ w4 ⟨rfl, hb4⟩
            have hB4 := belT hPr.two hb4
            go_wp2
            go_ret
            exact ⟨rfl, hB4⟩
          · have d3 : decide ((1810 : Int) < (P.bs.length : Int)) = false := decide_eq_false (by omega)
            have hJ0 : J2 w wr p q (stG l0 M k) (doL (stG l0 M k) P) (fun _ => false) wr.drew := ⟨hPr.below (Below.refl _ _).drew, (Two.refl p q wr).below (Below.refl _ _).drew⟩
            clear hbig hl63
            go_wp2_with fail
            clear c2' d3
            refine wp_region_lst wmixed (J2 w wr p q (stG l0 M k) (doL (stG l0 M k) P)) (fun _ _ => False) (fun _ _ _ h => h.elim) (fun _ _ _ => True) hJ0 13
              ([] :: [] :: [] :: [73, 74] :: [75] :: [72, 76] :: [] :: [] :: [] :: [79, 80] :: [81] :: [78, 82] :: [77, 83] :: [])
              (isV (.pointer (some ⟨p, 0, none⟩)) :: isV (.slice (some ⟨b, off, none⟩) n2 cap2) :: isV (.int .i64 (k : Int)) :: isV (.pointer (some ⟨b, off + k * 3, none⟩)) :: isV (.agg (opA P)) :: isV (.int .i64 (doE (stG l0 M k) P)) :: isV (.pointer (some ⟨q, 0, none⟩)) :: isV (.slice (some ⟨b, off, none⟩) n2 cap2) :: isV (.int .i64 (k : Int)) :: isV (.pointer (some ⟨b, off + k * 3, none⟩)) :: isV (.agg (opA P)) :: isV (.int .i64 (doE (stG l0 M k) P)) :: isV (.bool false) :: [])
              (by decide) (by kernel_rfl) ?_ ⟨?_, ?_, ?_, ?_, ?_, ?_, ?_, ?_, ?_, ?_, ?_, ?_, ?_, trivial⟩ ?_
            · intro i j S hij hS v u u' hv hR
              match j, hS with
              | 0, e => cases e; exact hv
              | 1, e => cases e; exact hv
              | 2, e => cases e; exact hv
              | 3, e => cases e; exact hv
              | 4, e => cases e; exact hv
              | 5, e => cases e; exact hv
              | 6, e => cases e; exact hv
              | 7, e => cases e; exact hv
              | 8, e => cases e; exact hv
              | 9, e => cases e; exact hv
              | 10, e => cases e; exact hv
              | 11, e => cases e; exact hv
              | 12, e => cases e; exact hv
              | n + 13, e => simp at e
            · intro L vs u hL hw hcl hJ hm
              clear hm hw hcl
              simp only [fill]
              go_wp2
              exact ⟨_, rfl, rfl, ⟨trivial, hJ.other 0 (by decide) (by decide), Nat.le_refl _⟩, trivial⟩
            · intro L vs u hL hw hcl hJ hm
              clear hm hw hcl
              simp only [fill]
              go_wp2
              exact ⟨_, rfl, rfl, ⟨trivial, hJ.other 1 (by decide) (by decide), Nat.le_refl _⟩, trivial⟩
            · intro L vs u hL hw hcl hJ hm
              clear hm hw hcl
              simp only [fill]
              go_wp2
              exact ⟨_, rfl, rfl, ⟨trivial, hJ.other 2 (by decide) (by decide), Nat.le_refl _⟩, trivial⟩
            · intro L vs u hL hw hcl hJ hm
              have h73 : vs 73 = .slice (some ⟨b, off, none⟩) n2 cap2 := meets_get hm 1 rfl rfl rfl rfl
              have h74 : vs 74 = .int .i64 (k : Int) := meets_get hm 2 rfl rfl rfl rfl
              clear hm hw hcl
              simp only [fill, h73, h74]
              go_wp2
              exact ⟨_, rfl, rfl, ⟨trivial, hJ.other 3 (by decide) (by decide), Nat.le_refl _⟩, trivial⟩
            · intro L vs u hL hw hcl hJ hm
              have h75 : vs 75 = .pointer (some ⟨b, off + k * 3, none⟩) := meets_get hm 3 rfl rfl rfl rfl
              have hri := hJ.range hb hri0
              clear hm hw hcl
              simp only [fill, h75]
              go_wp2_with (refine wpList_load_mid rfl 32 _ rfl b (off + k * 3) rfl (opA P).toList _ hri Try.underlying32 rfl hpar ?_)
              exact ⟨_, rfl, rfl, ⟨trivial, hJ.other 4 (by decide) (by decide), Nat.le_refl _⟩, trivial⟩
            · intro L vs u hL hw hcl hJ hm
              have h72 : vs 72 = .pointer (some ⟨p, 0, none⟩) := meets_get hm 0 rfl rfl rfl rfl
              have h76 : vs 76 = .agg (opA P) := meets_get hm 4 rfl rfl rfl rfl
              clear hm hw hcl
              simp only [fill, h72, h76]
              obtain ⟨S, hS⟩ := hJ.at1 hL
              go_wp2_with fail
              refine (ldo_any p P (stG l0 M k) S _ hok (hJ.op hP) hS.1).mono ?_
              rintro e u' ⟨rfl, S', hL', hG', hg'⟩
              have hJ' := hJ.did1 hL hS hL' hG' hg'
              have hsz := hg'.size
              clear hJ hL' hG' hg'
              go_wp2
              exact ⟨_, rfl, rfl, ⟨trivial, hJ', hsz⟩, trivial⟩
            · intro L vs u hL hw hcl hJ hm
              clear hm hw hcl
              simp only [fill]
              go_wp2
              exact ⟨_, rfl, rfl, ⟨trivial, hJ.other 6 (by decide) (by decide), Nat.le_refl _⟩, trivial⟩
            · intro L vs u hL hw hcl hJ hm
              clear hm hw hcl
              simp only [fill]
              go_wp2
              exact ⟨_, rfl, rfl, ⟨trivial, hJ.other 7 (by decide) (by decide), Nat.le_refl _⟩, trivial⟩
            · intro L vs u hL hw hcl hJ hm
              clear hm hw hcl
              simp only [fill]
              go_wp2
              exact ⟨_, rfl, rfl, ⟨trivial, hJ.other 8 (by decide) (by decide), Nat.le_refl _⟩, trivial⟩
            · intro L vs u hL hw hcl hJ hm
              have h79 : vs 79 = .slice (some ⟨b, off, none⟩) n2 cap2 := meets_get hm 7 rfl rfl rfl rfl
              have h80 : vs 80 = .int .i64 (k : Int) := meets_get hm 8 rfl rfl rfl rfl
              clear hm hw hcl
              simp only [fill, h79, h80]
              go_wp2
              exact ⟨_, rfl, rfl, ⟨trivial, hJ.other 9 (by decide) (by decide), Nat.le_refl _⟩, trivial⟩
            · intro L vs u hL hw hcl hJ hm
              have h81 : vs 81 = .pointer (some ⟨b, off + k * 3, none⟩) := meets_get hm 9 rfl rfl rfl rfl
              have hri := hJ.range hb hri0
              clear hm hw hcl
              simp only [fill, h81]
              go_wp2_with (refine wpList_load_mid rfl 32 _ rfl b (off + k * 3) rfl (opA P).toList _ hri Try.underlying32 rfl hpar ?_)
              exact ⟨_, rfl, rfl, ⟨trivial, hJ.other 10 (by decide) (by decide), Nat.le_refl _⟩, trivial⟩
            · intro L vs u hL hw hcl hJ hm
              have h78 : vs 78 = .pointer (some ⟨q, 0, none⟩) := meets_get hm 6 rfl rfl rfl rfl
              have h82 : vs 82 = .agg (opA P) := meets_get hm 10 rfl rfl rfl rfl
              clear hm hw hcl
              simp only [fill, h78, h82]
              obtain ⟨S, hS⟩ := hJ.at2 hL
              go_wp2_with fail
              refine (ldo_any q P (stG l0 M k) S _ hok (hJ.op hP) hS.1).mono ?_
              rintro e u' ⟨rfl, S', hL', hG', hg'⟩
              have hJ' := hJ.did2 hL hS hL' hG' hg'
              have hsz := hg'.size
              clear hJ hL' hG' hg'
              go_wp2
              exact ⟨_, rfl, rfl, ⟨trivial, hJ', hsz⟩, trivial⟩
            · intro L vs u hL hw hcl hJ hm
              have h77 : vs 77 = .int .i64 (doE (stG l0 M k) P) := meets_get hm 5 rfl rfl rfl rfl
              have h83 : vs 83 = .int .i64 (doE (stG l0 M k) P) := meets_get hm 11 rfl rfl rfl rfl
              clear hm hw hcl
              simp only [fill, h77, h83]
              go_wp2
              exact ⟨_, rfl, rfl, ⟨trivial, hJ.other 12 (by decide) (by decide), Nat.le_refl _⟩, trivial⟩
            intro L hall vs ws hJ hsz hm hne hlo
            have h84 : vs 84 = .bool false := hm 12 _ _ _ rfl rfl rfl
            have hJe := hJ.fin (hall 5 (by decide)) (hall 11 (by decide))
            clear hne hlo hm hall hJ
            simp only [fill, List.filterMap, List.take, List.drop, List.setIfInBounds_toArray, List.set_cons_zero, List.set_cons_succ, h84]
            have hB0r : B0 < wr.heap.size := by
              obtain ⟨_, _, e, _, _, h9⟩ := hsB
              cases e
              rcases h9 with h9 | ⟨b9, off9, e9, hb9, _⟩
              · omega
              · cases e9
                exact hb9
            have hsB2 : SliceAt ws (.slice (some ⟨B0, 0, none⟩) BS.length c2) BS.length 1 (bC BS) := hsB.kept hsz fun b' hb' => by
              cases hb'
              exact hJe.2.block B0 hB0r (by omega) hqB0
            have hPr2 : Pair w p q (stG l0 M (k + 1)) (stG l0 M (k + 1)) ws := by
              show Pair w p q (doL (stG l0 M k) (M k)) (doL (stG l0 M k) (M k)) ws
              rw [← hPe.out]
              exact hJe.1
            clear hJ0 hPr hsB hJe
            go_wp2
            go_roundw
            case rel => exact ⟨k + 1, by omega, by omega, by go_num, hPr2, hsB2⟩
            case measure => simp [intOf]; omega
        · have dgo : decide (k < n2 ∧ k < 40) = false := decide_eq_false hgo
          rw [dgo]
          obtain ⟨m0, hm0⟩ : ∃ m0, Hid (m0 = stG l0 M k) := ⟨_, hidP rfl⟩
          rw [← hm0.out] at hPr hok
          obtain ⟨cu, hcu⟩ : ∃ cu, Hid (cu = BS.length - 1) := ⟨_, hidP rfl⟩
          have hcu1 : cu + 1 = BS.length := by rw [hcu.out]; omega
          have hwl : IntKind.i64.wrap ((BS.length : Int) - 1) = (cu : Int) := by rw [IntWalk.i64_in _ (by omega)]; omega
          have hcule : cu ≤ BS.length := by omega
          have hcuc : cu ≤ c2 := by omega
          rw [← hcu.out] at hcut
          have hcuh := hidP hcu1
          clear hgo hkn hk40 hcu1 dgo
          go_wp2_with fail
          refine (alive16 _).mono ?_
          rintro _ w4 ⟨rfl, hb4⟩
          have hPr4 := hPr.below hb4
          have hsB4 := hsB.below hb4
          have hB4 := hPr4.two
          obtain ⟨⟨S4, T4, hLp, hLq, _, _⟩, _, _, _⟩ := hPr4
          clear hPr hsB hb4
          go_wp2_with fail
          refine (lsave_any p m0 S4 _ hok hLp).mono ?_
          rintro _ w5 ⟨rfl, hb5⟩
          have hB5 := belT hB4 hb5
          have hsB5 := hsB4.below hb5
          have hLq5 := hLq.below hb5
          clear hLp hLq hb5 hsB4
          go_wp2_with fail
          refine (lsave_any q m0 T4 _ hok hLq5).mono ?_
          rintro _ w6 ⟨rfl, hb6⟩
          have hB6 := belT hB5 hb6
          have hsB6 := hsB5.below hb6
          have hsc := hsB6.upto2 (m := cu) hcule rfl
          clear hLq5 hb6 hsB5
          go_wp2_with fail
          refine (lload_any _ (BS.take cu) _ (fun x hx => hby x (List.mem_of_mem_take hx)) (by rw [List.length_take]; omega) hsc).mono ?_
          rintro e w7 ⟨hP7, hb7⟩
          rw [hcut] at hP7
          have hP8 : e = .returned (.pointer none) := hP7
          subst hP8
          have hB7 := belT hB6 hb7
          have hsB7 := hsB6.below hb7
          clear hP7 hsc hsB6 hb7
          go_wp2_with (at_builtin; refine stop_here ?_)
          refine hidP ?_
          have hbA := belA (bel0 w7) (.cells #[] 5)
          have hB8 := belT hB7 hbA
          have hsB8 := hsB7.below hbA
          refine append_fresh_if rfl _ _ 30 rfl w7.heap.size 5 i0 (.int .u8 0) 1 1 Try.underlying30 hi hz0 hz1 hz2 rfl (by decide) w7.heap.size rfl (look_alloc_at _ _ _ rfl) (Nat.le_refl _) hbA.size (.slice (some ⟨B0, 0, none⟩) BS.length c2) BS.length (bcells BS) rfl (by rw [bcells_len, Nat.mul_one]) (bcells_ones _) (slice_news hsB8) (by unfold maxLen; omega) (by omega) ?_
          intro v8 w8 ho8 hb8
          have hB9 := belT hB8 hb8
          clear hsB7 hsB8
          go_wp2_with (at_builtin; refine stop_here ?_)
          refine hidP ?_
          have hbC := belA (bel0 w8) (.cells #[.int .u8 0] 5)
          have ho9 := own_below ho8 hbC
          have hB10 := belT hB9 hbC
          have l9 : look (w8.alloc (.cells #[.int .u8 0] 5)) w8.heap.size = some (.cells #[.int .u8 0] 5 (0, 0)) := look_alloc_at _ _ _ rfl
          have hs9 : w7.heap.size ≤ (w8.alloc (.cells #[.int .u8 0] 5)).heap.size := by
            have h1 := hbA.size
            have h2 := hb8.size
            have h3 := hbC.size
            omega
          refine append_own_if rfl _ _ 30 rfl w7.heap.size 5 i0 (.int .u8 0) 1 1 Try.underlying30 hi hz0 hz1 hz2 rfl (by decide) v8 BS.length (bcells BS) rfl ho9 ⟨w8.heap.size, 0, none⟩ 1 1 [.int .u8 0] rfl rfl (lone_cells l9) (by intro u hu; rw [List.mem_singleton] at hu; rw [hu]; rfl) (by unfold maxLen; omega) (by omega) hs9 ?_
          intro v10 w10 ho10 hg10
          have hB11 : Below w.heap.size w w10 := hB10.grown hg10 hB10.size (fun g e => by
            have h1 := (ho9.lt g e).1
            have h2 := hB7.size
            omega)
          have ho11 : w10.ownsRow w7.heap.size 5 1 v10 (BS ++ [0]).length (bcells (BS ++ [0])) := by
            rw [bcells_append, List.length_append]
            exact ho10
          have hs11 := own_slice ho11
          clear ho8 ho9 ho10 ho11 hg10 l9 hbC hbA hb8
          go_wp2_with fail
          refine (lload_any _ (BS ++ [0]) _ (fun x hx => by
            rcases List.mem_append.1 hx with hx | hx
            · exact hby x hx
            · rw [List.mem_singleton.1 hx]; decide) (by rw [List.length_append]; show BS.length + 1 ≤ _; omega) hs11).mono ?_
          rintro e w12 ⟨hP9, hb12⟩
          rw [hmore] at hP9
          have hP10 : e = .returned (.pointer none) := hP9
          subst hP10
          have hB12 := belT hB11 hb12
          go_wp2
          go_ret
          exact ⟨rfl, hB12⟩
end Go.Proofs.Ytnpofcnibgdjhaa
