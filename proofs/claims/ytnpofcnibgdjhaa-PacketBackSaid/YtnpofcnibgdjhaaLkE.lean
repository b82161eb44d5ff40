/- Links: a text is sent. -/
import Derived.Test.YtnpofcnibgdjhaaLkD
namespace Go.Proofs.Ytnpofcnibgdjhaa
open Go.RowKit

/-- The word 'bytes of one's own, in a block from B on'. -/
theorem stab_ownB (B : Nat) (ts : List Nat) : ∀ v w w', ownB B ts v w → Below w.heap.size w w' → ownB B ts v w' := fun _ _ _ h hb => own_below h hb
theorem clone_in (B : Nat) (v : Value) (bs : List Nat) (w : World) (hB : B ≤ w.heap.size) (hlen : bs.length ≤ 1000000) (hv : SliceAt w v bs.length 1 (bC bs)) :
    Calls Try.prog 66 #[v] w fun e w' => ∃ u, e = .returned u ∧ ownB B bs u w' ∧ Below w.heap.size w w' := by
  refine (clone_any v bs.length bs w rfl hlen (slice_news hv)).mono ?_
  rintro _ w' ⟨u, rfl, hu, hb⟩
  exact ⟨u, rfl, own_base hu hB, hb⟩
/-- A slice of one thing, that lies in a block of its own. -/
def isLone (B : Nat) (ts : List Nat) (v : Value) (w : World) : Prop := ∃ b x, v = .slice (some ⟨b, 0, none⟩) 1 1 ∧ look w b = some (.cells #[x] 30 (0, 0)) ∧ ownB B ts x w
theorem stab_lone (B : Nat) (ts : List Nat) : ∀ v w w', isLone B ts v w → Below w.heap.size w w' → isLone B ts v w' := fun _ _ _ ⟨b, x, h1, h2, h3⟩ hb => ⟨b, x, h1, by rw [look_below hb (look_lt h2)]; exact h2, own_below h3 hb⟩
/-- Texts, and one more. -/
def isMore (B : Nat) (C : Nat → List Value) (n : Nat) (ts : List Nat) (v : Value) (w : World) : Prop := ∃ x, w.ownsRow B 30 1 v (n + 1) (rowsL C n ++ [x]) ∧ ownB B ts x w
theorem stab_more (B : Nat) (C : Nat → List Value) (n : Nat) (ts : List Nat) : ∀ v w w', isMore B C n ts v w → Below w.heap.size w w' → isMore B C n ts v w' := fun _ _ _ ⟨x, h1, h2⟩ hb => ⟨x, own_below h1 hb, own_below h2 hb⟩
theorem lone_cells {w : World} {b : Nat} {x : Value} {t : TypeId} (h : look w b = some (.cells #[x] t (0, 0))) : ∀ j u, [x][j]? = some u → w.cell? ((⟨b, 0, none⟩ : Addr).add j) = some u := by
  intro j u hu
  rw [Addr.add_lit, look_cell h, Nat.zero_add, ← hu]
  cases j <;> rfl

set_option maxRecDepth 100000 in
set_option maxHeartbeats 3200000 in
theorem append_full {P : Program} {w : World} {ops : Array Oper} {rest : List Oper} {o : Oper} {a : Act} {Q : Exit → Act → World → Prop} (hg : o.guard = none) (s x : Operand) (t : TypeId) (hop : o.op = Op.call { callee := Callee.builtin Builtin.append, args := #[s, x], argTypes := #[t, t] })
    (e : TypeId) (i : TypeInfo) (z : Value) (bytes : Nat) (h1 : P.underlying t = some (.slice e)) (h2 : P.info? e = some i) (h3 : i.zero = some z) (h4 : i.size = 1) (h5 : i.bytes = bytes) (h6 : z.cells.size = 1)
    (v : Value) (n : Nat) (C : Nat → List Value) (ad : Option Addr) (hs : a.eval s = .slice ad n n) (hS : SliceAt w (.slice ad n n) n 1 C) (hC : ∀ k, (C k).length = 1)
    (b : Nat) (y : Value) (hy : y.oneCell' = true) (ty : TypeId) (hx : a.eval x = .slice (some ⟨b, 0, none⟩) 1 1) (hl : look w b = some (.cells #[y] ty (0, 0)))
    (b1 : n + 1 ≤ maxLen) (b2 : (n + 1) * bytes ≤ 140737488355328)
    (hK : ∀ v' w', w'.ownsRow w.heap.size e 1 v' (n + 1) (rowsL C n ++ [y]) → Below w.heap.size w w' → wpList P ops Q rest (a.put o.dst v') w') :
    wpList P ops Q (o :: rest) a w := by
  refine wpList_append_grows w hg s x t hop e i z 1 bytes h1 h2 h3 h4 h5 h6 (by decide) ad n n (rowsL C n) hs ?_ (by rw [rowsL_len hC]) ?_ ⟨b, 0, none⟩ 1 1 [y] hx rfl (lone_cells hl) ?_ (by omega) b1 b2 ?_
  · intro e
    obtain ⟨_, _, e2, h, _⟩ := hS
    cases e2
    exact h e
  · intro b' e j u hu
    rcases hS.news (by decide) hC with ⟨e2, _⟩ | ⟨ad2, c2, e2, hc⟩
    · subst e
      cases e2
    · subst e
      cases e2
      exact hc j u hu
  · intro u hu
    rw [List.mem_singleton] at hu
    rw [hu]; exact hy
  · intro v' w' h7 h8
    exact hK v' w' h7 ⟨h8.os, h8.tape, h8.output, h8.size, fun k hk => h8.block k hk (by simp)⟩

/-- A link to whose texts one was added. -/
theorem LinkAt.more {S : Nat → Prop} {w w1 : World} {p : Nat} {l : Lk} {u v : Value} {us : Nat → Value} {bs : List Nat} (h : LinkAt S w p l) (hb : Below w.heap.size w w1)
    (hv : look w p = some (.cells #[.int .u64 (l.nx : Int), v, .int .u64 (l.ex : Int)] 51 (0, 0))) (hsl : SliceAt w v l.q.length 1 (fun k => [us k])) (hm : isMore w.heap.size (fun k => [us k]) l.q.length bs u w1)
    {W : World} (hW : w1.grownBy W (some p)) (hlW : look W p = some (.cells #[.int .u64 ((l.nx + 1 : Nat) : Int), u, .int .u64 (l.ex : Int)] 51 (0, 0))) :
    ∃ S', LinkAt S' W p ⟨l.nx + 1, l.ex, l.q ++ [bs]⟩ ∧ Grew w S S' ∧ w.grownBy W (some p) := by
  obtain ⟨v', us', h1, h2, h3, h4, h5⟩ := h
  have e := h1.symm.trans hv
  obtain rfl : v' = v := by
    have := Option.some.inj e
    simp at this
    exact this
  have hus : ∀ k, k < l.q.length → us' k = us k := by
    intro k hk
    obtain ⟨_, _, ee, _, _, hh⟩ := h2
    obtain ⟨_, _, ee2, _, _, hh2⟩ := hsl
    cases ee; cases ee2
    rcases hh with hh | ⟨b, off, e5, _, hh⟩
    · omega
    · rcases hh2 with hh2 | ⟨b2, off2, e6, _, hh2⟩
      · omega
      · have e7 := e5.symm.trans e6
        cases e7
        have x1 := hh k hk 0 _ rfl
        have x2 := hh2 k hk 0 _ rfl
        exact Option.some.inj (x1.symm.trans x2)
  obtain ⟨x, ho, hx⟩ := hm
  have hp := look_lt h1
  have hgr : w.grownBy W (some p) := grown_trans (below_grown hb _) hW
  have er : rowsL (fun k => [us k]) l.q.length ++ [x] = rowsL (fun k => [if k < l.q.length then us k else x]) (l.q.length + 1) := by
    rw [← rowsL_succ]
    congr 1
    · exact rowsL_same fun k hk => by rw [if_pos hk]
    · rw [if_neg (by omega)]
  rw [er] at ho
  have hsl2 := SliceAt.own (C := fun k => [if k < l.q.length then us k else x]) (s := 1) (fun _ => rfl) ho
  have blk : ∀ {s n : Nat} {t : TypeId} {y : Value} {xs : List Value}, w1.ownsRow w.heap.size t s y n xs → ∀ b, blkOf y = some b → w.heap.size ≤ b ∧ b < w1.heap.size := by
    intro s n t y xs hy b e
    rcases hy.2 with ⟨rfl, _⟩ | ⟨g, cap, cur, rfl, hbg, hg, _⟩
    · cases e
    · cases e
      exact ⟨hbg, look_lt (w := w1) hg⟩
  have hlen : (l.q ++ [bs]).length = l.q.length + 1 := by rw [List.length_append]; rfl
  have hkW : ∀ b, w.heap.size ≤ b ∧ b < w1.heap.size → W.heap[b]? = w1.heap[b]? := fun b hb2 => hW.block b hb2.2 (fun e => by cases e; omega)
  refine ⟨fun b => S b ∨ (w.heap.size ≤ b ∧ b < w1.heap.size), ⟨u, fun k => if k < l.q.length then us k else x, hlW, ?_, fun b e => .inr (blk ho b e), fun k hk => ?_, fun b hbS => ?_⟩, fun b hbS => ?_, hgr⟩
  · show SliceAt _ u (l.q ++ [bs]).length 1 _
    rw [hlen]
    exact hsl2.kept hW.size fun b e => hkW b (blk ho b e)
  · have hk2 : k < l.q.length + 1 := by
      have : k < (l.q ++ [bs]).length := hk
      omega
    show TextIn _ _ (if k < l.q.length then us k else x) ((l.q ++ [bs]).getD k [])
    rw [getD_snoc]
    by_cases h9 : k < l.q.length
    · rw [if_pos h9, if_pos h9, ← hus k h9]
      exact (h4 k h9).kept hgr.size (fun b hb2 => hgr.block b (h5 b hb2).1 (fun e => (h5 b hb2).2 (by cases e; rfl))) (fun b hb2 => .inl hb2)
    · rw [if_neg h9, if_neg h9, if_pos (by omega)]
      exact ⟨(own_slice hx).kept hW.size fun b e => hkW b (blk hx b e), fun b e => .inr (blk hx b e)⟩
  · rcases hbS with hbS | hbS
    · exact ⟨Nat.lt_of_lt_of_le (h5 b hbS).1 hgr.size, (h5 b hbS).2⟩
    · exact ⟨Nat.lt_of_lt_of_le hbS.2 hW.size, by omega⟩
  · rcases hbS with hbS | hbS
    · exact .inl hbS
    · exact .inr hbS.1

set_option maxRecDepth 100000 in
set_option maxHeartbeats 3200000 in
theorem lsend_no (p : Nat) (ad : Option Addr) (cap : Nat) (bs : List Nat) (l : Lk) (S : Nat → Prop) (w : World) (hn : 0 < l.nx) (hlen : bs.length ≤ 9223372036854775807) (ht : txt bs = false) (h : LinkAt S w p l) :
    Calls Try.prog 15 #[.pointer (some ⟨p, 0, none⟩), .slice ad bs.length cap] w fun e w' => e = .returned (.tuple #[.int .u64 0, .int .i64 3]) ∧ w = w' := by
  obtain ⟨v, us, hl, h2, h3, h4, h5⟩ := h
  have hmd : decide (0 < l.nx) = true := decide_eq_true hn
  go_enter Try.func15, Try.ntmps15
  go_wp2_with fail
  refine (lmade_any p l.nx v _ _ hl).mono ?_
  rintro _ _ ⟨rfl, rfl⟩
  rw [hmd]
  go_wp2_with fail
  refine (istext_any ad cap bs _ hlen).mono ?_
  rintro _ _ ⟨rfl, rfl⟩
  rw [ht]
  go_wp2
  refine bodyPost_ret (v := .tuple #[.int .u64 0, .int .i64 3]) (by simp [results, Try.results15, go_sem]) rfl ?_
  exact ⟨rfl, rfl⟩
set_option maxRecDepth 100000 in
set_option maxHeartbeats 3200000 in
theorem lsend_full (p : Nat) (ad : Option Addr) (cap : Nat) (bs : List Nat) (l : Lk) (S : Nat → Prop) (w : World) (hn : 0 < l.nx) (hlen : bs.length ≤ 9223372036854775807) (ht : txt bs = true) (hf : ¬ (l.q.length < 250 ∧ l.nx ≤ 1099511627776)) (h : LinkAt S w p l) :
    Calls Try.prog 15 #[.pointer (some ⟨p, 0, none⟩), .slice ad bs.length cap] w fun e w' => e = .returned (.tuple #[.int .u64 0, .int .i64 5]) ∧ w = w' := by
  obtain ⟨v, us, hl, h2, h3, h4, h5⟩ := h
  obtain ⟨qa, qc, rfl⟩ := row_one h2
  have hc0 : w.cell? ⟨p, 0, none⟩ = some (.int .u64 (l.nx : Int)) := by rw [look_cell hl]; rfl
  have hc1 : w.cell? ⟨p, 1, none⟩ = some (.slice qa l.q.length qc) := by rw [look_cell hl]; rfl
  have hmd : decide (0 < l.nx) = true := decide_eq_true hn
  by_cases hq : 250 ≤ l.q.length
  · go_enter Try.func15, Try.ntmps15
    go_wp2_with fail
    refine (lmade_any p l.nx _ _ _ hl).mono ?_
    rintro _ _ ⟨rfl, rfl⟩
    rw [hmd]
    go_wp2_with fail
    refine (istext_any ad cap bs _ hlen).mono ?_
    rintro _ _ ⟨rfl, rfl⟩
    rw [ht]
    go_wp2
    refine bodyPost_ret (v := .tuple #[.int .u64 0, .int .i64 5]) (by simp [results, Try.results15, go_sem]) rfl ?_
    exact ⟨rfl, rfl⟩
  · have d2 : decide ((1099511627776 : Int) < (l.nx : Int)) = true := decide_eq_true (by omega)
    clear hf
    go_enter Try.func15, Try.ntmps15
    go_wp2_with fail
    refine (lmade_any p l.nx _ _ _ hl).mono ?_
    rintro _ _ ⟨rfl, rfl⟩
    rw [hmd]
    go_wp2_with fail
    refine (istext_any ad cap bs _ hlen).mono ?_
    rintro _ _ ⟨rfl, rfl⟩
    rw [ht]
    go_wp2
    refine bodyPost_ret (v := .tuple #[.int .u64 0, .int .i64 5]) (by simp [results, Try.results15, go_sem]) rfl ?_
    exact ⟨rfl, rfl⟩
set_option maxRecDepth 100000 in
set_option maxHeartbeats 3200000 in
theorem lsend_yes (p : Nat) (bv : Value) (bs : List Nat) (l : Lk) (S : Nat → Prop) (w : World) (hn : 0 < l.nx) (ht : txt bs = true) (hq : l.q.length < 250) (hx : l.nx ≤ 1099511627776) (hb : SliceAt w bv bs.length 1 (bC bs)) (h : LinkAt S w p l) :
    Calls Try.prog 15 #[.pointer (some ⟨p, 0, none⟩), bv] w fun e w' => e = .returned (.tuple #[.int .u64 (l.nx : Int), .int .i64 0]) ∧ ∃ S', LinkAt S' w' p ⟨l.nx + 1, l.ex, l.q ++ [bs]⟩ ∧ Grew w S S' ∧ w.grownBy w' (some p) := by
  have h0 := h
  obtain ⟨ad, cap, rfl⟩ := row_one hb
  have htl := (txt_iff bs).1 ht
  have hlen : bs.length ≤ 1000000 := by omega
  obtain ⟨i0, hi, hz0, hz1, hz2⟩ := info_parts infoT
  obtain ⟨v, us, hl, h2, h3, h4, h5⟩ := h
  obtain ⟨qa, qc, rfl⟩ := row_one h2
  have hp := look_lt hl
  have hc0 : w.cell? ⟨p, 0, none⟩ = some (.int .u64 (l.nx : Int)) := by rw [look_cell hl]; rfl
  have hc1 : w.cell? ⟨p, 1, none⟩ = some (.slice qa l.q.length qc) := by rw [look_cell hl]; rfl
  have hmd : decide (0 < l.nx) = true := decide_eq_true hn
  have hqc : l.q.length ≤ qc := by obtain ⟨_, _, e, _, hx, _⟩ := h2; cases e; omega
  have hsr : SliceAt w (.slice qa l.q.length l.q.length) l.q.length 1 (fun k => [us k]) := SliceAt.recap h2 (Nat.le_refl _)
  have d2 : decide ((1099511627776 : Int) < (l.nx : Int)) = false := decide_eq_false (by omega)
  have hwx : IntKind.u64.wrap ((l.nx : Int) + 1) = ((l.nx + 1 : Nat) : Int) := by rw [IntWalk.u64_in _ (by omega)]; omega
  have hwy : IntKind.u64.wrap (((l.nx + 1 : Nat) : Int) - 1) = (l.nx : Int) := by rw [IntWalk.u64_in _ (by omega)]; omega
  have hwz : IntKind.u64.wrap (l.nx : Int) = (l.nx : Int) := IntWalk.u64_in _ (by omega)
  have htb : bs.length ≤ 9223372036854775807 := by omega
  clear htl
  have hxh := hidP hx
  clear hx
  go_enter Try.func15, Try.ntmps15
  go_wp2_with fail
  refine (lmade_any p l.nx _ _ _ hl).mono ?_
  rintro _ _ ⟨rfl, rfl⟩
  rw [hmd]
  go_wp2_with fail
  refine (istext_any ad cap bs _ htb).mono ?_
  rintro _ _ ⟨rfl, rfl⟩
  rw [ht]
  go_wp2_with fail
  refine wp_region_words wmixed 21 ([] :: [] :: [29] :: [30] :: [31] :: [] :: [33] :: [34] :: [35] :: [36] :: [] :: [38] :: [39] :: [40] :: [41] :: [32, 37, 42] :: [] :: [44] :: [45] :: [43, 46] :: [28] :: []) (isV (.pointer (some ⟨p, 0, none⟩)) :: isV (.pointer (some ⟨p, 0, none⟩)) :: isV (.pointer (some ⟨p, 0, none⟩)) :: isV (.pointer (some ⟨p, 1, none⟩)) :: isV (.slice qa l.q.length qc) :: isV (.pointer (some ⟨p, 0, none⟩)) :: isV (.pointer (some ⟨p, 0, none⟩)) :: isV (.pointer (some ⟨p, 1, none⟩)) :: isV (.slice qa l.q.length qc) :: isV (.int .i64 (l.q.length : Int)) :: isV (.pointer (some ⟨p, 0, none⟩)) :: isV (.pointer (some ⟨p, 0, none⟩)) :: isV (.pointer (some ⟨p, 1, none⟩)) :: isV (.slice qa l.q.length qc) :: isV (.int .i64 (l.q.length : Int)) :: isV (.slice qa l.q.length l.q.length) :: isV (.slice ad bs.length cap) :: ownB w.heap.size bs :: isLone w.heap.size bs :: isMore w.heap.size (fun k => [us k]) l.q.length bs :: isV (.pointer (some ⟨p, 0, none⟩)) :: []) (by decide) (by kernel_rfl)
    ⟨stab_isV _, stab_isV _, stab_isV _, stab_isV _, stab_isV _, stab_isV _, stab_isV _, stab_isV _, stab_isV _, stab_isV _, stab_isV _, stab_isV _, stab_isV _, stab_isV _, stab_isV _, stab_isV _, stab_isV _, stab_ownB _ _, stab_lone _ _, stab_more _ _ _ _, stab_isV _, trivial⟩ ⟨?_, ?_, ?_, ?_, ?_, ?_, ?_, ?_, ?_, ?_, ?_, ?_, ?_, ?_, ?_, ?_, ?_, ?_, ?_, ?_, ?_, trivial⟩ ?_
  · intro vs wq hB hm
    clear hm
    simp only [fill]
    go_wp2
    exact ⟨_, rfl, rfl, Below.refl _ _, trivial⟩
  · intro vs wq hB hm
    clear hm
    simp only [fill]
    go_wp2
    exact ⟨_, rfl, rfl, Below.refl _ _, trivial⟩
  · intro vs wq hB hm
    have h29 : vs 29 = .pointer (some ⟨p, 0, none⟩) := meets_get hm 1 rfl rfl rfl rfl
    clear hm
    simp only [fill, h29]
    go_wp2
    exact ⟨_, rfl, rfl, Below.refl _ _, trivial⟩
  · intro vs wq hB hm
    have h30 : vs 30 = .pointer (some ⟨p, 0, none⟩) := meets_get hm 2 rfl rfl rfl rfl
    clear hm
    simp only [fill, h30]
    go_wp2
    exact ⟨_, rfl, rfl, Below.refl _ _, trivial⟩
  · intro vs wq hB hm
    have hl : look wq (p) = some (.cells (#[.int .u64 (l.nx : Int), .slice qa l.q.length qc, .int .u64 (l.ex : Int)]) 51 (0, 0)) := by rw [look_below hB (by first | omega | (simp only [World.size_alloc]; omega) | exact look_lt (by assumption) | (simp only [World.size_alloc, World.size_setCell]; omega) | (simp; omega))]; first | assumption | go_simp
    have hc : World.cell? wq ⟨p, 1, none⟩ = some (.slice qa l.q.length qc) := by rw [look_cell hl]; rfl
    have h31 : vs 31 = .pointer (some ⟨p, 1, none⟩) := meets_get hm 3 rfl rfl rfl rfl
    clear hm
    simp only [fill, h31]
    go_wp2
    exact ⟨_, rfl, rfl, Below.refl _ _, trivial⟩
  · intro vs wq hB hm
    clear hm
    simp only [fill]
    go_wp2
    exact ⟨_, rfl, rfl, Below.refl _ _, trivial⟩
  · intro vs wq hB hm
    have h33 : vs 33 = .pointer (some ⟨p, 0, none⟩) := meets_get hm 5 rfl rfl rfl rfl
    clear hm
    simp only [fill, h33]
    go_wp2
    exact ⟨_, rfl, rfl, Below.refl _ _, trivial⟩
  · intro vs wq hB hm
    have h34 : vs 34 = .pointer (some ⟨p, 0, none⟩) := meets_get hm 6 rfl rfl rfl rfl
    clear hm
    simp only [fill, h34]
    go_wp2
    exact ⟨_, rfl, rfl, Below.refl _ _, trivial⟩
  · intro vs wq hB hm
    have hl : look wq (p) = some (.cells (#[.int .u64 (l.nx : Int), .slice qa l.q.length qc, .int .u64 (l.ex : Int)]) 51 (0, 0)) := by rw [look_below hB (by first | omega | (simp only [World.size_alloc]; omega) | exact look_lt (by assumption) | (simp only [World.size_alloc, World.size_setCell]; omega) | (simp; omega))]; first | assumption | go_simp
    have hc : World.cell? wq ⟨p, 1, none⟩ = some (.slice qa l.q.length qc) := by rw [look_cell hl]; rfl
    have h35 : vs 35 = .pointer (some ⟨p, 1, none⟩) := meets_get hm 7 rfl rfl rfl rfl
    clear hm
    simp only [fill, h35]
    go_wp2
    exact ⟨_, rfl, rfl, Below.refl _ _, trivial⟩
  · intro vs wq hB hm
    have h36 : vs 36 = .slice qa l.q.length qc := meets_get hm 8 rfl rfl rfl rfl
    clear hm
    simp only [fill, h36]
    go_wp2
    exact ⟨_, rfl, rfl, Below.refl _ _, trivial⟩
  · intro vs wq hB hm
    clear hm
    simp only [fill]
    go_wp2
    exact ⟨_, rfl, rfl, Below.refl _ _, trivial⟩
  · intro vs wq hB hm
    have h38 : vs 38 = .pointer (some ⟨p, 0, none⟩) := meets_get hm 10 rfl rfl rfl rfl
    clear hm
    simp only [fill, h38]
    go_wp2
    exact ⟨_, rfl, rfl, Below.refl _ _, trivial⟩
  · intro vs wq hB hm
    have h39 : vs 39 = .pointer (some ⟨p, 0, none⟩) := meets_get hm 11 rfl rfl rfl rfl
    clear hm
    simp only [fill, h39]
    go_wp2
    exact ⟨_, rfl, rfl, Below.refl _ _, trivial⟩
  · intro vs wq hB hm
    have hl : look wq (p) = some (.cells (#[.int .u64 (l.nx : Int), .slice qa l.q.length qc, .int .u64 (l.ex : Int)]) 51 (0, 0)) := by rw [look_below hB (by first | omega | (simp only [World.size_alloc]; omega) | exact look_lt (by assumption) | (simp only [World.size_alloc, World.size_setCell]; omega) | (simp; omega))]; first | assumption | go_simp
    have hc : World.cell? wq ⟨p, 1, none⟩ = some (.slice qa l.q.length qc) := by rw [look_cell hl]; rfl
    have h40 : vs 40 = .pointer (some ⟨p, 1, none⟩) := meets_get hm 12 rfl rfl rfl rfl
    clear hm
    simp only [fill, h40]
    go_wp2
    exact ⟨_, rfl, rfl, Below.refl _ _, trivial⟩
  · intro vs wq hB hm
    have h41 : vs 41 = .slice qa l.q.length qc := meets_get hm 13 rfl rfl rfl rfl
    clear hm
    simp only [fill, h41]
    go_wp2
    exact ⟨_, rfl, rfl, Below.refl _ _, trivial⟩
  · intro vs wq hB hm
    have h32 : vs 32 = .slice qa l.q.length qc := meets_get hm 4 rfl rfl rfl rfl
    have h37 : vs 37 = .int .i64 (l.q.length : Int) := meets_get hm 9 rfl rfl rfl rfl
    have h42 : vs 42 = .int .i64 (l.q.length : Int) := meets_get hm 14 rfl rfl rfl rfl
    clear hm
    simp only [fill, h32, h37, h42]
    go_wp2
    exact ⟨_, rfl, rfl, Below.refl _ _, trivial⟩
  · intro vs wq hB hm
    clear hm
    simp only [fill]
    go_wp2
    exact ⟨_, rfl, rfl, Below.refl _ _, trivial⟩
  · intro vs wq hB hm
    have h44 : vs 44 = .slice ad bs.length cap := meets_get hm 16 rfl rfl rfl rfl
    clear hm
    simp only [fill, h44]
    go_wp2_with fail
    refine (clone_in w.heap.size (.slice ad bs.length cap) bs _ hB.size hlen (hb.below hB)).mono ?_
    rintro e w1 ⟨v, rfl, hW, hb1⟩
    go_wp2
    exact ⟨_, rfl, hW, hb1, trivial⟩
  · intro vs wq hB hm
    have h45 := meets_get hm 17 rfl rfl rfl rfl
    clear hm
    simp only [fill]
    obtain ⟨xa, xn, xc, e45⟩ := own_is h45
    rw [e45] at h45
    simp only [e45]
    go_wp2
    exact ⟨_, rfl, ⟨_, _, rfl, look_alloc_at _ _ _ rfl, own_below h45 (belA (bel0 wq) _)⟩, belA (bel0 wq) _, fun b hb => by cases hb; exact ⟨Nat.le_refl _, by simp⟩⟩
  · intro vs wq hB hm
    have h43 : vs 43 = .slice qa l.q.length l.q.length := meets_get hm 15 rfl rfl rfl rfl
    have h46 := meets_get hm 18 rfl rfl rfl rfl
    clear hm
    simp only [fill, h43]
    obtain ⟨b46, y46, e46, l46, o46⟩ := h46
    refine append_full rfl _ _ 49 rfl 30 i0 (.slice none 0 0) 24 Try.underlying49 hi hz0 hz1 hz2 rfl (.slice none 0 0) l.q.length (fun k => [us k]) qa rfl (hsr.below hB) (fun _ => rfl) b46 y46 (own_one o46) _ e46 l46 (by unfold maxLen; omega) (by omega) ?_
    intro v' w' h7 h8
    exact ⟨_, rfl, ⟨y46, own_base h7 hB.size, own_below o46 h8⟩, h8, trivial⟩
  · intro vs wq hB hm
    have h28 : vs 28 = .pointer (some ⟨p, 0, none⟩) := meets_get hm 0 rfl rfl rfl rfl
    clear hm
    simp only [fill, h28]
    go_wp2
    exact ⟨_, rfl, rfl, Below.refl _ _, trivial⟩
  intro vs wq hB hm hne hlo
  have h28 : vs 28 = .pointer (some ⟨p, 0, none⟩) := hm 0 _ _ _ rfl rfl rfl
  have h29 : vs 29 = .pointer (some ⟨p, 0, none⟩) := hm 1 _ _ _ rfl rfl rfl
  have h30 : vs 30 = .pointer (some ⟨p, 0, none⟩) := hm 2 _ _ _ rfl rfl rfl
  have h31 : vs 31 = .pointer (some ⟨p, 1, none⟩) := hm 3 _ _ _ rfl rfl rfl
  have h32 : vs 32 = .slice qa l.q.length qc := hm 4 _ _ _ rfl rfl rfl
  have h33 : vs 33 = .pointer (some ⟨p, 0, none⟩) := hm 5 _ _ _ rfl rfl rfl
  have h34 : vs 34 = .pointer (some ⟨p, 0, none⟩) := hm 6 _ _ _ rfl rfl rfl
  have h35 : vs 35 = .pointer (some ⟨p, 1, none⟩) := hm 7 _ _ _ rfl rfl rfl
  have h36 : vs 36 = .slice qa l.q.length qc := hm 8 _ _ _ rfl rfl rfl
  have h37 : vs 37 = .int .i64 (l.q.length : Int) := hm 9 _ _ _ rfl rfl rfl
  have h38 : vs 38 = .pointer (some ⟨p, 0, none⟩) := hm 10 _ _ _ rfl rfl rfl
  have h39 : vs 39 = .pointer (some ⟨p, 0, none⟩) := hm 11 _ _ _ rfl rfl rfl
  have h40 : vs 40 = .pointer (some ⟨p, 1, none⟩) := hm 12 _ _ _ rfl rfl rfl
  have h41 : vs 41 = .slice qa l.q.length qc := hm 13 _ _ _ rfl rfl rfl
  have h42 : vs 42 = .int .i64 (l.q.length : Int) := hm 14 _ _ _ rfl rfl rfl
  have h43 : vs 43 = .slice qa l.q.length l.q.length := hm 15 _ _ _ rfl rfl rfl
  have h44 : vs 44 = .slice ad bs.length cap := hm 16 _ _ _ rfl rfl rfl
  have h45 := hm 17 _ _ _ rfl rfl rfl
  have h46 := hm 18 _ _ _ rfl rfl rfl
  have h47 := hm 19 _ _ _ rfl rfl rfl
  have h48 : vs 48 = .pointer (some ⟨p, 0, none⟩) := hm 20 _ _ _ rfl rfl rfl
  clear hne hlo
  simp only [fill, List.filterMap, List.take, List.drop, List.setIfInBounds_toArray, List.set_cons_zero, List.set_cons_succ, h28, h29, h30, h31, h32, h33, h34, h35, h36, h37, h38, h39, h40, h41, h42, h43, h44, h48]
  clear hm h28 h29 h30 h31 h32 h33 h34 h35 h36 h37 h38 h39 h40 h41 h42 h43 h44 h48
  obtain ⟨x47, o47, p47⟩ := h47
  obtain ⟨ua, un, uc, h47e⟩ := own_is o47
  have hm47 : isMore w.heap.size (fun k => [us k]) l.q.length bs (vs 47) wq := ⟨x47, o47, p47⟩
  rw [h47e] at hm47
  simp only [h47e]
  have hlq : look wq p = some (.cells #[.int .u64 (l.nx : Int), .slice qa l.q.length qc, .int .u64 (l.ex : Int)] 51 (0, 0)) := by rw [look_below hB hp]; exact hl
  have hW : wq.grownBy ((wq.setCell ⟨p, 1, none⟩ (.slice ua un uc)).setCell ⟨p, 0, none⟩ (.int .u64 ((l.nx + 1 : Nat) : Int))) (some p) := grown_trans (grown_setCell _ _ _ _) (grown_setCell _ _ _ _)
  have l1 : look (wq.setCell ⟨p, 1, none⟩ (.slice ua un uc)) p = some (.cells #[.int .u64 (l.nx : Int), .slice ua un uc, .int .u64 (l.ex : Int)] 51 (0, 0)) := by rw [look_set_same hlq]; rfl
  have l2 : look ((wq.setCell ⟨p, 1, none⟩ (.slice ua un uc)).setCell ⟨p, 0, none⟩ (.int .u64 ((l.nx + 1 : Nat) : Int))) p = some (.cells #[.int .u64 ((l.nx + 1 : Nat) : Int), .slice ua un uc, .int .u64 (l.ex : Int)] 51 (0, 0)) := by rw [look_set_same l1]; rfl
  have hfin := hidP (h0.more hB hl h2 hm47 hW l2)
  clear o47 p47 hm47
  have cq1 : wq.cell? ⟨p, 1, none⟩ = some (.slice qa l.q.length qc) := by rw [look_cell hlq]; rfl
  have zq1 := look_frozen hlq 1
  have cq0 : (wq.setCell ⟨p, 1, none⟩ (.slice ua un uc)).cell? ⟨p, 0, none⟩ = some (.int .u64 (l.nx : Int)) := by rw [look_cell l1]; rfl
  have zq0 := look_frozen l1 0
  have cr0 : ((wq.setCell ⟨p, 1, none⟩ (.slice ua un uc)).setCell ⟨p, 0, none⟩ (.int .u64 ((l.nx + 1 : Nat) : Int))).cell? ⟨p, 0, none⟩ = some (.int .u64 ((l.nx + 1 : Nat) : Int)) := by rw [look_cell l2]; rfl
  go_wp2
  refine bodyPost_ret (v := .tuple #[.int .u64 (l.nx : Int), .int .i64 0]) (by simp [results, Try.results15, go_sem]) rfl ?_
  exact ⟨rfl, hfin.out⟩
end Go.Proofs.Ytnpofcnibgdjhaa
