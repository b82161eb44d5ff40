/- Slices of floats that the call itself appends to; the sums of such slices, nil or not. -/
import Derived.Test.YtnpofcnibgdjhaaTotB
import Derived.Maps.AppendAt
import Derived.OwnWalk
import Derived.Laws.AppendOwnNone
namespace Go.Proofs.Ytnpofcnibgdjhaa
open Go.RowKit Flt

theorem infoF : (Try.prog.info? 197).map (fun i => (i.zero, i.size, i.bytes)) = some (some (.float .f64 0), 1, 8) := by kernel_rfl
/-- The first k floats of L. -/
def flts (L : Nat → Nat) (k : Nat) : List Value := (List.range k).map fun i => .float .f64 (L i)
theorem flts_succ (L : Nat → Nat) (k : Nat) : flts L k ++ [.float .f64 (L k)] = flts L (k + 1) := by
  unfold flts
  rw [List.range_succ, List.map_append]
  rfl
theorem flts_get (L : Nat → Nat) (k i : Nat) (h : i < k) : (flts L k)[i]? = some (.float .f64 (L i)) := by
  unfold flts
  simp [h]
theorem flts_len (L : Nat → Nat) (k : Nat) : (flts L k).length = k := by simp [flts]
theorem one_cell (w : World) (g : Nat) (v : Value) (h : w.cell? ⟨g, 0, none⟩ = some v) : ∀ j u, [v][j]? = some u → w.cell? ((⟨g, 0, none⟩ : Addr).add j) = some u := by
  intro j u hu
  match j, hu with
  | 0, hu =>
    simp at hu
    subst hu
    rw [Addr.add_lit]
    exact h
theorem one_one (v : Value) (h : v.oneCell' = true) : ∀ u ∈ [v], u.oneCell' = true := by
  intro u hu
  rw [List.mem_singleton] at hu
  subst hu
  exact h
theorem Below.grown {B : Nat} {w0 w w' : World} {row : Option Nat} (h : Below B w0 w) (hg : w.grownBy w' row) (hB : B ≤ w.heap.size) (hrow : ∀ k, row = some k → B ≤ k) : Below B w0 w' := by
  have hs := hg.size
  exact ⟨hg.os.trans h.os, hg.tape.trans h.tape, hg.output.trans h.output, Nat.le_trans h.size hs, fun i hi => (hg.block i (Nat.lt_of_lt_of_le hi hB) (fun e => by have := hrow i e.symm; omega)).trans (h.block i hi)⟩

theorem grown_refl (w : World) (row : Option Nat) : w.grownBy w row := ⟨rfl, rfl, rfl, Nat.le_refl _, fun _ _ _ => rfl⟩
/-- append of a slice that is nil or lies somewhere, onto one that the call owns. -/
theorem append_any {P : Program} (w : World) {ops : Array Oper} {rest : List Oper} {o : Oper} {a : Act} {Q : Exit → Act → World → Prop} (hgd : o.guard = none) (s x : Operand) (t : TypeId)
    (ho : o.op = .call { callee := .builtin .append, args := #[s, x], argTypes := #[t, t] })
    (base : Nat) (e : TypeId) (i : TypeInfo) (z : Value) (size bytes : Nat) (ht : P.underlying t = some (.slice e)) (hi : P.info? e = some i) (hz : i.zero = some z)
    (hsize : i.size = size) (hby : i.bytes = bytes) (hzs : z.cells.size = size) (hsz : 0 < size)
    (v : Value) (n : Nat) (xs : List Value) (hs : a.eval s = v) (hown : w.ownsRow base e size v n xs)
    (vx : Value) (m : Nat) (news : List Value) (hx : a.eval x = vx) (hl : news.length = m * size) (h1 : ∀ u ∈ news, u.oneCell' = true)
    (hv : (vx = .slice none 0 0 ∧ m = 0) ∨ ∃ ad c, vx = .slice (some ad) m c ∧ ∀ j u, news[j]? = some u → w.cell? (ad.add j) = some u)
    (h63 : n + m ≤ maxLen) (hbytes : (n + m) * bytes ≤ 140737488355328) (hbase : base ≤ w.heap.size)
    (h : ∀ v' w', w'.ownsRow base e size v' (n + m) (xs ++ news) → w.grownBy w' v.ownBlock → wpList P ops Q rest (a.put o.dst v') w') :
    wpList P ops Q (o :: rest) a w := by
  rcases hv with ⟨rfl, rfl⟩ | ⟨ad, c, rfl, hc⟩
  · refine wpList_append_own_none hgd s x t ho base e i size ht hi v n xs hs hown hx ?_
    have hn : news = [] := List.eq_nil_of_length_eq_zero (by simpa using hl)
    subst hn
    exact h v w (by simpa using hown) (grown_refl _ _)
  · exact wpList_append_own w hgd s x t ho base e i z size bytes ht hi hz hsize hby hzs hsz v n xs hs hown ad m c news hx hl hc h1 h63 hbytes hbase (fun v' w' h2 h3 _ => h v' w' h2 h3)
theorem flts_ones (L : Nat → Nat) (k : Nat) : ∀ u ∈ flts L k, u.oneCell' = true := by
  intro u hu
  obtain ⟨_, _, rfl⟩ := List.mem_map.1 hu
  rfl
theorem flts_same {L M : Nat → Nat} {k : Nat} (h : ∀ i, i < k → L i = M i) : flts L k = flts M k := by
  unfold flts
  refine List.map_congr_left fun i hi => ?_
  rw [h i (List.mem_range.1 hi)]
/-- A slice of the floats L, nil or not. -/
def IsF (w : World) (v : Value) (n : Nat) (L : Nat → Nat) : Prop := (v = .slice none 0 0 ∧ n = 0) ∨ ∃ b off cap, v = .slice (some ⟨b, off, none⟩) n cap ∧ Floats w b off n L
theorem isF_own {w : World} {base n : Nat} {v : Value} {L : Nat → Nat} (h : w.ownsRow base 197 1 v n (flts L n)) (hL : ∀ k, k < n → L k < 18446744073709551616) : IsF w v n L := by
  rcases h.2 with ⟨rfl, rfl⟩ | ⟨g, cap, cur, rfl, hb, hg, hn, hc, hs, ht⟩
  · exact .inl ⟨rfl, rfl⟩
  · refine .inr ⟨g, 0, cap, rfl, ?_, fun k hk => ⟨?_, hL k hk⟩⟩
    · exact (h.lt g rfl).2
    · have := h.cells (g := g) rfl k _ (flts_get L n k hk)
      rwa [Addr.add_lit] at this
theorem IsF.below {w W : World} {v : Value} {n : Nat} {L : Nat → Nat} (h : IsF w v n L) (hb : Below w.heap.size w W) : IsF W v n L := by
  rcases h with ⟨h1, h2⟩ | ⟨b, off, cap, h1, h2⟩
  · exact .inl ⟨h1, h2⟩
  · exact .inr ⟨b, off, cap, h1, h2.below hb⟩

theorem IsF.news {w : World} {v : Value} {n : Nat} {L : Nat → Nat} (h : IsF w v n L) : (v = .slice none 0 0 ∧ n = 0) ∨ ∃ ad c, v = .slice (some ad) n c ∧ ∀ j u, (flts L n)[j]? = some u → w.cell? (ad.add j) = some u := by
  rcases h with h | ⟨b, off, cap, rfl, h⟩
  · exact .inl h
  · refine .inr ⟨_, _, rfl, fun j u hu => ?_⟩
    have hj : j < n := by
      have := (List.getElem?_eq_some_iff.1 hu).1
      rwa [flts_len] at this
    rw [flts_get L n j hj] at hu
    rw [Addr.add_lit, ← hu]
    exact (h.2 j hj).1

end Go.Proofs.Ytnpofcnibgdjhaa
