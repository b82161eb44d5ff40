/- What rows come to, put one behind the other, or with those left out that play no part. Plain. And append, after which the elder slice is owned still. -/
import Derived.Test.YtniphfkipjpikaaMkS
import Derived.Test.YtniphfkipjpikaaSlf
namespace Go.Proofs.Ytniphfkipjpikaa
open Go.RowKit Flt

def Tot.plus (a b : Tot) : Tot := ⟨a.lines + b.lines, a.pieces + b.pieces, a.free + b.free, a.prices ++ b.prices⟩
theorem step_plus (a b : Tot) (q : Int) (m : Mk) : stepT (a.plus b) q m = a.plus (stepT b q m) := by
  unfold stepT
  by_cases h : playB q m = true
  · rw [if_pos h, if_pos h]
    cases hh : m.has
    · simp [Tot.plus, Nat.add_assoc]
    · simp [Tot.plus, Nat.add_assoc]
  · rw [if_neg h, if_neg h]
theorem tot_then (q1 : Nat → Int) (L1 : Nat → Mk) (n : Nat) (q2 : Nat → Int) (L2 : Nat → Mk) : ∀ m, totF (thenC q1 n q2) (thenC L1 n L2) (n + m) = (totF q1 L1 n).plus (totF q2 L2 m)
  | 0 => by
    have h : (totF q1 L1 n).plus (totF q2 L2 0) = totF q1 L1 n := by simp [Tot.plus, totF, tot0]
    rw [h, Nat.add_zero]
    exact tot_same n (fun i hi => by unfold thenC; rw [if_pos hi, if_pos hi]; exact ⟨rfl, rfl⟩)
  | m + 1 => by
    have e1 : thenC q1 n q2 (n + m) = q2 m := by unfold thenC; rw [if_neg (by omega)]; congr 1; omega
    have e2 : thenC L1 n L2 (n + m) = L2 m := by unfold thenC; rw [if_neg (by omega)]; congr 1; omega
    have s1 : totF (thenC q1 n q2) (thenC L1 n L2) (n + (m + 1)) = stepT (totF (thenC q1 n q2) (thenC L1 n L2) (n + m)) (thenC q1 n q2 (n + m)) (thenC L1 n L2 (n + m)) := rfl
    rw [s1, e1, e2, tot_then q1 L1 n q2 L2 m, step_plus]
    rfl
/-- f, and a in the place n. -/
def snocF {α : Type} (f : Nat → α) (n : Nat) (a : α) : Nat → α := fun i => if i = n then a else f i
theorem tot_snoc (q : Nat → Int) (L : Nat → Mk) (n : Nat) (a : Int) (m : Mk) : totF (snocF q n a) (snocF L n m) (n + 1) = stepT (totF q L n) a m := by
  have s1 : totF (snocF q n a) (snocF L n m) (n + 1) = stepT (totF (snocF q n a) (snocF L n m) n) (snocF q n a n) (snocF L n m n) := rfl
  have e1 : snocF q n a n = a := by unfold snocF; rw [if_pos rfl]
  have e2 : snocF L n m n = m := by unfold snocF; rw [if_pos rfl]
  rw [s1, e1, e2, tot_same n (fun i hi => by unfold snocF; rw [if_neg (by omega), if_neg (by omega)]; exact ⟨rfl, rfl⟩)]
theorem rows_snoc {α : Type} (D : (Nat → α) → Nat → List Value) (hD : ∀ f g k, f k = g k → D f k = D g k) (f : Nat → α) (n : Nat) (a : α) : rowsL (D f) n ++ D (fun _ => a) n = rowsL (D (snocF f n a)) (n + 1) := by
  rw [← rowsL_succ]
  congr 1
  · exact rowsL_same (fun k hk => hD _ _ _ (by unfold snocF; rw [if_neg (by omega)]))
  · exact hD _ _ _ (by unfold snocF; rw [if_pos rfl])

/-- append onto a slice of the call's own: the elder slice is owned still, and the new one lies in its row or in a new block. -/
theorem run_append_keep {P : Program} (w : World) (base : Nat) (t ty e : TypeId) (i : TypeInfo) (z : Value) (size bytes : Nat) (ht : P.underlying t = some (.slice e)) (hi : P.info? e = some i) (hz : i.zero = some z)
    (hsize : i.size = size) (hby : i.bytes = bytes) (hzs : z.cells.size = size) (hsz : 0 < size)
    (v : Value) (n : Nat) (xs : List Value) (hown : w.ownsRow base e size v n xs)
    (a : Addr) (m c : Nat) (news : List Value) (hl : news.length = m * size) (hnews : ∀ j u, news[j]? = some u → w.cell? (a.add j) = some u) (h1 : ∀ u ∈ news, u.oneCell' = true)
    (hm : 0 < m) (h63 : n + m ≤ maxLen) (hbytes : (n + m) * bytes ≤ 140737488355328) (hbase : base ≤ w.heap.size) :
    ∃ v' w', (Builtin.append_ #[t, t] ty #[v, .slice (some a) m c]).run P w = .ok v' w' ∧ w'.ownsRow base e size v' (n + m) (xs ++ news) ∧ w.grownBy w' v.ownBlock ∧ w'.ownsRow base e size v n xs := by
  subst hsize
  subst hby
  have hlen : (xs ++ news).length = (n + m) * i.size := by rw [List.length_append, hown.1, hl, Nat.add_mul]
  have grown : ∀ (old : Nat), old < n + m → ∀ (row : Option Nat),
      (w.drew.alloc (.cells (xs.toArray ++ news.toArray ++ Builtin.zeroCells z.cells (grownCap w (n + m) old e - (n + m))) e)).ownsRow base e i.size
        (.slice (some ⟨w.heap.size, 0, none⟩) (n + m) (grownCap w (n + m) old e)) (n + m) (xs ++ news) ∧
      w.grownBy (w.drew.alloc (.cells (xs.toArray ++ news.toArray ++ Builtin.zeroCells z.cells (grownCap w (n + m) old e - (n + m))) e)) row := by
    intro old ho row
    have hge := grownCap_ge w (n + m) old e
    have hcm : grownCap w (n + m) old e ≤ maxLen := grownCap_le_maxLen w (n + m) old e h63
    refine ⟨⟨hlen, .inr ⟨w.heap.size, _, _, rfl, hbase, heap_alloc_new w.drew _, hge, hcm, ?_, ?_⟩⟩, ⟨rfl, rfl, rfl, by simp, fun k hk _ => heap_alloc_old w.drew _ hk⟩⟩
    · simp only [Array.size_append, List.size_toArray, size_zeroCells, hzs, hown.1, hl, ← Nat.add_mul]
      congr 1
      omega
    · simp only [Array.toList_append, List.append_assoc]
      rw [← List.append_assoc, ← hlen]
      exact List.take_left
  have hkeep : ∀ o : Obj, (w.drew.alloc o).ownsRow base e i.size v n xs := fun o => World.ownsRow.alloc (w := w.drew) hown o
  rcases hown.2 with ⟨rfl, rfl⟩ | ⟨g, cap, cur, rfl, hbg, hg, hnc, hcm, hcs, htake⟩
  · have hx : xs = [] := List.eq_nil_of_length_eq_zero (by simpa using hown.1)
    subst hx
    have hr := run_append_nil (P := P) w t ty e i z ht hi hz a m c news hl hnews hm (by unfold maxLen at h63; omega) (by have hb := hbytes; simp only [Nat.zero_add] at hb; omega)
    have hgr := grown 0 (by omega) (Value.ownBlock (.slice none 0 0))
    simp only [Nat.zero_add, List.nil_append, Array.empty_append] at hgr ⊢
    exact ⟨_, _, hr, hgr.1, hgr.2, World.ownsRow_nil _ _ _ _⟩
  · by_cases hroom : n + m ≤ cap
    · have hfit : n * i.size + news.length ≤ cur.size := by rw [hl, hcs, ← Nat.add_mul]; exact Nat.mul_le_mul_right _ hroom
      have hr := run_append_room (P := P) w t ty e i ht hi g n cap cur hg a m c news hl hnews h1 hroom hfit
      have hsize : (cur.toList.take (n * i.size) ++ news ++ cur.toList.drop (n * i.size + news.length)).toArray.size = cap * i.size := by
        simp only [List.size_toArray, List.length_append, List.length_take, List.length_drop, Array.length_toList]
        omega
      refine ⟨_, _, hr, ⟨hlen, .inr ⟨g, cap, _, rfl, hbg, setRow_heap w g cur _ e _ hg, hroom, hcm, hsize, ?_⟩⟩, ⟨rfl, rfl, rfl, by simp, fun k _ hk => setRow_other w g k _ (fun e => hk (by simp [Value.ownBlock, e]))⟩, ⟨hown.1, .inr ⟨g, cap, _, rfl, hbg, setRow_heap w g cur _ e _ hg, hnc, hcm, hsize, ?_⟩⟩⟩
      · rw [htake, ← hlen]
        exact List.take_left
      · rw [htake, List.append_assoc, ← hown.1]
        exact List.take_left
    · have holds : ∀ j u, xs[j]? = some u → w.cell? ((⟨g, 0, none⟩ : Addr).add j) = some u := hown.cells (g := g) rfl
      have hr := run_append_grow (P := P) w t ty e i z ht hi hz ⟨g, 0, none⟩ n cap xs hown.1 holds a m c news hl hnews (by omega) (by unfold maxLen at h63; omega) (growslice_fits (by omega) hbytes)
      have hgr := grown cap (by omega) (Value.ownBlock (.slice (some ⟨g, 0, none⟩) n cap))
      exact ⟨_, _, hr, hgr.1, hgr.2, hkeep _⟩
theorem append_keep {P : Program} {w : World} {ops : Array Oper} {rest : List Oper} {o : Oper} {a : Act} {Q : Exit → Act → World → Prop} (hgd : o.guard = none) (s x : Operand) (t : TypeId)
    (ho : o.op = .call { callee := .builtin .append, args := #[s, x], argTypes := #[t, t] })
    (base : Nat) (e : TypeId) (i : TypeInfo) (z : Value) (size bytes : Nat) (ht : P.underlying t = some (.slice e)) (hi : P.info? e = some i) (hz : i.zero = some z)
    (hsize : i.size = size) (hby : i.bytes = bytes) (hzs : z.cells.size = size) (hsz : 0 < size)
    (v : Value) (n : Nat) (xs : List Value) (hs : a.eval s = v) (hown : w.ownsRow base e size v n xs)
    (ad : Addr) (m c : Nat) (news : List Value) (hx : a.eval x = .slice (some ad) m c) (hl : news.length = m * size) (hnews : ∀ j u, news[j]? = some u → w.cell? (ad.add j) = some u) (h1 : ∀ u ∈ news, u.oneCell' = true)
    (hm : 0 < m) (h63 : n + m ≤ maxLen) (hbytes : (n + m) * bytes ≤ 140737488355328) (hbase : base ≤ w.heap.size)
    (h : ∀ v' w', w'.ownsRow base e size v' (n + m) (xs ++ news) → w.grownBy w' v.ownBlock → w'.ownsRow base e size v n xs → wpList P ops Q rest (a.put o.dst v') w') : wpList P ops Q (o :: rest) a w :=
  wpList_plain hgd fun K hK => by
    obtain ⟨v', w', hr, h2, h3, h4⟩ := run_append_keep (P := P) w base t o.type e i z size bytes ht hi hz hsize hby hzs hsz v n xs hown ad m c news hl hnews h1 hm h63 hbytes hbase
    unfold Oper.wp execOp
    simp only [ho, resolve, invoke, builtin, Sem.run_bind, Sem.run_pure, Result.andThen_ok, List.map_toArray, List.map_cons, List.map_nil, hs, hx, hr]
    exact hK _ _ (h v' w' h2 h3 h4)
end Go.Proofs.Ytniphfkipjpikaa
