/- Parts of slices; append onto a fresh slice without room, as an operation of a region that draws its order. -/
import Derived.Test.YtnpofcnibgdjhaaSl
import Derived.Test.YtnpofcnibgdjhaaReg
namespace Go.Proofs.Ytnpofcnibgdjhaa
open Go.RowKit

/-- The elements from t on, of whatever kind. -/
def fromC {α : Type} (C : Nat → α) (t : Nat) : Nat → α := fun k => C (t + k)
theorem SliceAt.from {w : World} {ad : Option Addr} {n cap s i : Nat} {C : Nat → List Value} (h : SliceAt w (.slice ad n cap) n s C) (hi : i ≤ n) : SliceAt w (sliced ad i n cap s) (n - i) s (fromC C i) := by
  obtain ⟨ad', cap', e, h2, h3, h4⟩ := h
  cases e
  unfold sliced
  refine ⟨_, _, rfl, fun hn => ?_, by omega, ?_⟩
  · split at hn
    · have := h2 hn; omega
    · rw [Option.map_eq_none_iff] at hn
      have := h2 hn; omega
  · by_cases e : i = n
    · exact .inl (by omega)
    · right
      rcases h4 with h4 | ⟨b, off, rfl, hb, hR⟩
      · omega
      · refine ⟨b, off + i * s, ?_, hb, fun k hk j u hu => ?_⟩
        · rw [if_neg (by omega)]
          simp only [Option.map_some, Addr.add_lit]
        · have := hR (i + k) (by omega) j u hu
          rw [← this]
          congr 2
          rw [Nat.add_mul]
          omega
theorem SliceAt.upto {w : World} {ad : Option Addr} {n cap s i : Nat} {C : Nat → List Value} (h : SliceAt w (.slice ad n cap) n s C) (hi : i ≤ n) : SliceAt w (sliced ad 0 i cap s) i s C := by
  obtain ⟨ad', cap', e, h2, h3, h4⟩ := h
  cases e
  unfold sliced
  refine ⟨_, _, rfl, fun hn => ?_, by omega, ?_⟩
  · split at hn
    · have := h2 hn; omega
    · rw [Option.map_eq_none_iff] at hn
      have := h2 hn; omega
  · by_cases e : i = 0
    · exact .inl (by omega)
    · right
      rcases h4 with h4 | ⟨b, off, rfl, hb, hR⟩
      · omega
      · refine ⟨b, off, ?_, hb, fun k hk => hR k (by omega)⟩
        rw [if_neg (by omega)]
        simp only [Option.map_some, Addr.add_lit, Nat.zero_mul, Nat.add_zero]

theorem load_mid_if {P : Program} {ops : Array Oper} {rest : List Oper} {op : Oper} {a : Act} {w : World} {Q : Exit → Act → World → Prop} (hw : Region.wanted op (yielded ops a.tmps) = true) (ty : TypeId) (x : Operand) (ho : op.op = .load ty x)
    (b o : Nat) (hx : a.eval x = .pointer (some ⟨b, o, none⟩)) (cs : List Value) (d : TypeDesc) (hc : w.rangeAt b o cs)
    (hu : P.underlying ty = some d) (hd : d.isRow = true) (hi : (P.info? ty).map (·.size) = some cs.length)
    (h : wpList P ops Q rest (a.put op.dst (.agg cs.toArray)) w) : wpList P ops Q (op :: rest) a w :=
  wpList_step fun _ hK => by
    simp only [hw, if_true]
    exact wp_load_mid ty x ho b o hx cs d hc hu hd hi (hK _ _ h)
theorem run_append_fresh {P : Program} (w : World) (base : Nat) (t ty e : TypeId) (i : TypeInfo) (z : Value) (size bytes : Nat) (ht : P.underlying t = some (.slice e)) (hi : P.info? e = some i) (hz : i.zero = some z)
    (hsize : i.size = size) (hby : i.bytes = bytes) (hzs : z.cells.size = size) (hsz : 0 < size)
    (g : Nat) (hg : look w g = some (.cells #[] e (0, 0))) (hbg : base ≤ g) (hbase : base ≤ w.heap.size)
    (vx : Value) (m : Nat) (news : List Value) (hl : news.length = m * size) (h1 : ∀ u ∈ news, u.oneCell' = true)
    (hv : (vx = .slice none 0 0 ∧ m = 0) ∨ ∃ ad c, vx = .slice (some ad) m c ∧ ∀ j u, news[j]? = some u → w.cell? (ad.add j) = some u)
    (h63 : m ≤ maxLen) (hbytes : m * bytes ≤ 140737488355328) :
    ∃ v' w', (Builtin.append_ #[t, t] ty #[.slice (some ⟨g, 0, none⟩) 0 0, vx]).run P w = .ok v' w' ∧ w'.ownsRow base e size v' m news ∧ Below w.heap.size w w' := by
  subst hsize
  subst hby
  have hown : w.ownsRow base e i.size (.slice (some ⟨g, 0, none⟩) 0 0) 0 [] := ⟨by simp, .inr ⟨g, 0, #[], rfl, hbg, hg, Nat.le_refl _, by decide, by simp, by simp⟩⟩
  rcases hv with ⟨rfl, rfl⟩ | ⟨ad, c, rfl, hc⟩
  · have hn : news = [] := List.eq_nil_of_length_eq_zero (by simpa using hl)
    subst hn
    have hrun := run_append_owned_none (P := P) (w := w) base t ty e i i.size ht hi _ 0 [] hown
    exact ⟨_, _, hrun, hown, Below.refl _ _⟩
  · by_cases hm : m = 0
    · subst hm
      have hn : news = [] := List.eq_nil_of_length_eq_zero (by simpa using hl)
      subst hn
      have hr := run_append_room (P := P) w t ty e i ht hi g 0 0 #[] hg ad 0 c [] hl hc h1 (Nat.le_refl _) (by simp)
      refine ⟨_, _, hr, ⟨by simp, .inr ⟨g, 0, #[], rfl, hbg, ?_, Nat.le_refl _, by decide, by simp, by simp⟩⟩, ⟨rfl, rfl, rfl, by simp, fun k hk => ?_⟩⟩
      · have := look_setRow w g g #[]
        rw [if_pos rfl, hg] at this
        simpa [look, rowObj] using this
      · have := look_setRow w g k #[]
        by_cases e : k = g
        · subst e
          rw [if_pos rfl, hg] at this
          have h2 : look w k = w.heap[k]? := rfl
          rw [← h2, hg]
          simpa [look, rowObj] using this
        · rw [if_neg e] at this
          simpa [look] using this
    · have hr := run_append_grow (P := P) w t ty e i z ht hi hz ⟨g, 0, none⟩ 0 0 [] (by simp) (by simp) ad m c news hl hc (by omega) (by unfold maxLen at h63; omega) (growslice_fits (by omega) (by rw [Nat.zero_add]; exact hbytes))
      rw [Nat.zero_add] at hr
      have hge := grownCap_ge w m 0 e
      have hcm : grownCap w m 0 e ≤ maxLen := grownCap_le_maxLen w m 0 e h63
      refine ⟨_, _, hr, ⟨hl, .inr ⟨w.heap.size, grownCap w m 0 e, _, rfl, hbase, heap_alloc_new w.drew _, hge, hcm, ?_, ?_⟩⟩, ⟨rfl, rfl, rfl, by simp, fun k hk => heap_alloc_old w.drew _ hk⟩⟩
      · simp only [Array.size_append, List.size_toArray, size_zeroCells, hzs, hl, List.length_nil, Nat.zero_add, ← Nat.add_mul]
        congr 1
        omega
      · simp only [Array.toList_append, List.append_assoc, List.nil_append]
        rw [← hl]
        exact List.take_left
theorem append_fresh {P : Program} {w : World} {ops : Array Oper} {rest : List Oper} {o : Oper} {a : Act} {Q : Exit → Act → World → Prop} (hgd : o.guard = none) (s x : Operand) (t : TypeId)
    (ho : o.op = .call { callee := .builtin .append, args := #[s, x], argTypes := #[t, t] })
    (base : Nat) (e : TypeId) (i : TypeInfo) (z : Value) (size bytes : Nat) (ht : P.underlying t = some (.slice e)) (hi : P.info? e = some i) (hz : i.zero = some z)
    (hsize : i.size = size) (hby : i.bytes = bytes) (hzs : z.cells.size = size) (hsz : 0 < size)
    (g : Nat) (hs : a.eval s = .slice (some ⟨g, 0, none⟩) 0 0) (hg : look w g = some (.cells #[] e (0, 0))) (hbg : base ≤ g) (hbase : base ≤ w.heap.size)
    (vx : Value) (m : Nat) (news : List Value) (hx : a.eval x = vx) (hl : news.length = m * size) (h1 : ∀ u ∈ news, u.oneCell' = true)
    (hv : (vx = .slice none 0 0 ∧ m = 0) ∨ ∃ ad c, vx = .slice (some ad) m c ∧ ∀ j u, news[j]? = some u → w.cell? (ad.add j) = some u)
    (h63 : m ≤ maxLen) (hbytes : m * bytes ≤ 140737488355328)
    (h : ∀ v' w', w'.ownsRow base e size v' m news → Below w.heap.size w w' → wpList P ops Q rest (a.put o.dst v') w') : wpList P ops Q (o :: rest) a w :=
  wpList_plain hgd fun K hK => by
    obtain ⟨v', w', hr, h2, h3⟩ := run_append_fresh (P := P) w base t o.type e i z size bytes ht hi hz hsize hby hzs hsz g hg hbg hbase vx m news hl h1 hv h63 hbytes
    unfold Oper.wp execOp
    simp only [ho, resolve, invoke, builtin, Sem.run_bind, Sem.run_pure, Result.andThen_ok, List.map_toArray, List.map_cons, List.map_nil, hs, hx, hr]
    exact hK _ _ (h v' w' h2 h3)
/-- The word 'a slice without room, in a block of the region's own'. -/
def isFresh (e : TypeId) (base : Nat) (v : Value) (w : World) : Prop := ∃ b, v = .slice (some ⟨b, 0, none⟩) 0 0 ∧ look w b = some (.cells #[] e (0, 0)) ∧ base ≤ b
theorem stab_isFresh (e : TypeId) (base : Nat) : ∀ v w w', isFresh e base v w → Below w.heap.size w w' → isFresh e base v w' := fun _ _ _ ⟨b, h1, h2, h3⟩ hb => ⟨b, h1, by rw [look_below hb (look_lt h2)]; exact h2, h3⟩
/-- The word 'the call's own, with these cells'. -/
def isOwn (base : Nat) (e : TypeId) (s n : Nat) (xs : List Value) (v : Value) (w : World) : Prop := w.ownsRow base e s v n xs
theorem stab_isOwn (base : Nat) (e : TypeId) (s n : Nat) (xs : List Value) : ∀ v w w', isOwn base e s n xs v w → Below w.heap.size w w' → isOwn base e s n xs v w' := fun _ _ _ h hb => own_below h hb
end Go.Proofs.Ytnpofcnibgdjhaa
