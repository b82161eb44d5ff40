/- truglaw03.alive: it is so. -/
import Derived.Test.YtnpofcnibgdjhaaWirM
import Derived.Lib.SlBytesConst
namespace Go.Proofs.Ytnpofcnibgdjhaa
open Go.RowKit
variable {X : Nat → Prop}

theorem enters_of' {P : Program} {f : FuncId} {fn : Func} {c : Code} (hf : P.funcs[f]? = some fn) (hname : (fn.name == "runtime.NumGoroutine") = false) (hb : fn.body = some c) (args : Array Value) (w : World) : (callFunc f args).run P w = .ok (.enter f args) w := by
  have h1 : fn.name ≠ "runtime.NumGoroutine" := by simpa using hname
  simp [callFunc, hf, h1, hb, mark]
/-- Read, with a closure that only reads. -/
theorem read_pure {α : Type} (K : FuncId) (cap : Array Value) (r : Rd α) (bs : List Nat) (v : Value) (w : World) (hlen : bs.length ≤ 1000000)
    (hK : ∀ (a : Array Value) (w : World), (callFunc K a).run Try.prog w = .ok (.enter K a) w)
    (hv : SliceAt w v bs.length 1 (bC bs))
    (hbody : ∀ w1 p, w.heap.size < p → Below w.heap.size w w1 → RdAt (fun b => w.heap.size < b) w1 p bs → Calls Try.prog K (#[.pointer (some ⟨p, 0, none⟩)] ++ cap) w1 fun e w2 => w1.grownBy w2 (some p) ∧ match r with
      | .ok _ rest => e = .returned (.tuple #[]) ∧ RdAt (fun b => w.heap.size < b) w2 p rest
      | .fault k => faultC k e) :
    Calls Try.prog 74 #[v, .func (.func K) #[] cap] w fun e w' => e = .returned (.int .i64 (rdCode r)) ∧ Below w.heap.size w w' := by
  refine read_any K cap r bs v (fun u => Below w.heap.size w u) w hlen hK (slice_news hv) ?_ ?_
  · intro w2 w3 h2 h3
    exact h2.grown h3 h2.size (fun g e => by cases e; exact Nat.le_refl _)
  · intro w1 p hp hb hrd
    have hpw : p < w1.heap.size := by obtain ⟨_, hl, _⟩ := hrd; exact look_lt hl
    refine (hbody w1 p hp hb hrd).mono ?_
    rintro e w2 ⟨hg, hr⟩
    exact ⟨hg.block _ (by omega) (by intro e; cases e; omega), hb.grown hg hb.size (fun g e => by cases e; omega), hr⟩

theorem alive_lt (k : Nat) : aliveV k < 4294967296 := by
  unfold aliveV upd
  split
  · decide
  · split
    · decide
    · show 0 < 4294967296
      decide
theorem lit_slice (w : World) (bs : List Nat) (h : bs.length ≤ 9223372036854775807 := by decide) : SliceAt (w.alloc (.cells (bcells bs).toArray 5)) (.slice (some ⟨w.heap.size, 0, none⟩) bs.length bs.length) bs.length 1 (bC bs) :=
  SliceAt.row h (fun _ => rfl) (look_alloc_at _ _ _ rfl) (by rw [rows_bC])
theorem look_alloc_slice {w : World} {cs : Array Value} {bs : List Nat} {fr : Nat × Nat} (h : cs.toList = bcells bs) : ∀ j u, (bcells bs)[j]? = some u → (w.alloc (.cells cs 5 fr)).cell? ((⟨w.heap.size, 0, none⟩ : Addr).add j) = some u := by
  intro j u hj
  rw [Addr.add_lit, look_cell (look_alloc_at _ _ _ rfl), ← hj, ← h, Nat.zero_add, Array.getElem?_toList]

end Go.Proofs.Ytnpofcnibgdjhaa
