/- Read: what a closure reads of bytes is told. -/
import Derived.Test.YtnpofcnibgdjhaaWirH
namespace Go.Proofs.Ytnpofcnibgdjhaa
open Go.RowKit
variable {X : Nat → Prop}

/-- What Read answers. -/
def rdCode {α : Type} : Rd α → Int
  | .ok _ [] => 0
  | .ok _ (_ :: _) => 2
  | .fault k => k

@[go_sem ↓] theorem eql_func_nil (K : FuncId) (cap : Array Value) (w : World) : (binOp .eql 136 (.func (.func K) #[] cap) .nilFunc).run Try.prog w = .ok (.bool false) w := by
  have h : (Op.equalIn 10000 136 (.func (.func K) #[] cap) .nilFunc).run Try.prog w = .ok false w := by
    rw [Op.equalIn]
    simp [run_underlying Try.underlying136]
  simp only [binOp]
  simp [Op.equal, Op.maxDepth, h]
@[go_sem ↓] theorem eql_nil_func (w : World) : (binOp .eql 136 .nilFunc .nilFunc).run Try.prog w = .ok (.bool true) w := by
  have h : (Op.equalIn 10000 136 .nilFunc .nilFunc).run Try.prog w = .ok true w := by
    rw [Op.equalIn]
    simp [run_underlying Try.underlying136]
  simp only [binOp]
  simp [Op.equal, Op.maxDepth, h]

set_option maxRecDepth 100000 in
set_option maxHeartbeats 3200000 in
theorem read_any {α : Type} (K : FuncId) (cap : Array Value) (r : Rd α) (bs : List Nat) (v : Value) (Q : World → Prop) (w : World) (hlen : bs.length ≤ 1000000)
    (hK : ∀ (a : Array Value) (w : World), (callFunc K a).run Try.prog w = .ok (.enter K a) w)
    (hv : (v = .slice none 0 0 ∧ bs.length = 0) ∨ ∃ ad c, v = .slice (some ad) bs.length c ∧ ∀ j u, (bcells bs)[j]? = some u → w.cell? (ad.add j) = some u)
    (hQ : ∀ w2 w3, Q w2 → w2.grownBy w3 (some w.heap.size) → Q w3)
    (hbody : ∀ w1 p, w.heap.size < p → Below w.heap.size w w1 → RdAt (fun b => w.heap.size < b) w1 p bs → Calls Try.prog K (#[.pointer (some ⟨p, 0, none⟩)] ++ cap) w1 fun e w2 => look w2 w.heap.size = look w1 w.heap.size ∧ Q w2 ∧ match r with
      | .ok _ rest => e = .returned (.tuple #[]) ∧ RdAt (fun b => w.heap.size < b) w2 p rest
      | .fault k => faultC k e) :
    Calls Try.prog 74 #[v, .func (.func K) #[] cap] w fun e w' => e = .returned (.int .i64 (rdCode r)) ∧ Q w' := by
  go_enter_defers Try.func74, Try.ntmps74
  go_wp2_with fail
  have hv1 : (v = .slice none 0 0 ∧ bs.length = 0) ∨ ∃ ad c, v = .slice (some ad) bs.length c ∧ ∀ j u, (bcells bs)[j]? = some u → (w.alloc (.cells #[.int .i64 0] 34)).cell? (ad.add j) = some u := by
    rcases hv with hv | ⟨ad, c, e, hc⟩
    · exact .inl hv
    · refine .inr ⟨ad, c, e, fun j u hu => ?_⟩
      have h1 := hc j u hu
      rw [(belA (bel0 w) _).cell (World.block_lt_of_cell? w _ h1)]
      exact h1
  refine (clone_any v bs.length bs _ rfl hlen hv1).mono ?_
  rintro _ w1 ⟨u, rfl, hu, hb1⟩
  have hsl : ∃ a c, u = .slice a bs.length c := by
    rcases hu.2 with ⟨rfl, h0⟩ | ⟨g, cp, cur, rfl, _⟩
    · exact ⟨none, 0, by rw [h0]⟩
    · exact ⟨_, cp, rfl⟩
  obtain ⟨a, c, rfl⟩ := hsl
  have hXu : ∀ b, blkOf (.slice a bs.length c) = some b → w.heap.size < b := by
    rcases hu.2 with ⟨e, _⟩ | ⟨g, cp, cur, e, hbg, _⟩
    · intro b hb
      rw [e] at hb
      cases hb
    · intro b hb
      rw [e] at hb
      cases hb
      simp at hbg
      show w.heap.size < g
      omega
  have hB1 : Below w.heap.size w w1 := (belA (bel0 w) _).trans (hb1.mono (by simp))
  have hszE : w.heap.size < w1.heap.size := Nat.lt_of_lt_of_le (by simp) hb1.size
  have hSu : SliceAt w1 (.slice a bs.length c) bs.length 1 (bC bs) := SliceAt.own (fun _ => rfl) (by rw [rows_bC]; exact hu)
  have hrd : RdAt (fun b => w.heap.size < b) (w1.alloc (.cells #[.slice a bs.length c, .bool true] 166)) w1.heap.size bs := ⟨_, look_alloc_at _ _ _ rfl, hSu.below (belA (bel0 w1) _), hXu⟩
  have hlE : look w1 w.heap.size = some (.cells #[.int .i64 0] 34 (0, 0)) := by
    rw [look_below hb1 (by simp)]
    exact look_alloc_at _ _ _ rfl
  go_wp2_with fail
  refine (hbody _ w1.heap.size hszE (hB1.trans (belA (bel0 w1) _ |>.mono (by omega))) hrd).mono ?_
  rintro e w2 ⟨hkeep, hQ2, hr⟩
  have hlE2 : look w2 w.heap.size = some (.cells #[.int .i64 0] 34 (0, 0)) := by
    rw [hkeep, look_below (belA (bel0 w1) _) hszE]
    exact hlE
  have hcE2 : w2.cell? ⟨w.heap.size, 0, none⟩ = some (.int .i64 0) := by rw [look_cell hlE2]; rfl
  have hzE2 := look_frozen hlE2 0
  have hg3 : ∀ u, w2.grownBy (w2.setCell ⟨w.heap.size, 0, none⟩ u) (some w.heap.size) := fun u => grown_setCell _ _ _ _
  cases r with
  | fault k =>
    cases hr
    go_wp2
    refine leaves_cons (f := 108) (args := #[.pointer (some ⟨w.heap.size, 0, none⟩)]) (by simp) (by simp [go_sem]) ?_
    refine (caught_panicking w.heap.size _ k [] _ hlE2).mono ?_
    rintro e u' w'' ⟨rfl, rfl, rfl⟩
    have hlE3 : look ((w2.alloc (.cells #[.int .i64 k] 176)).setCell ⟨w.heap.size, 0, none⟩ (.int .i64 k)) w.heap.size = some (.cells #[.int .i64 k] 34 (0, 0)) := by
      rw [look_set_same (by rw [look_below (belA (bel0 w2) _) (look_lt hlE2)]; exact hlE2)]
      rfl
    have hcE3 : ((w2.alloc (.cells #[.int .i64 k] 176)).setCell ⟨w.heap.size, 0, none⟩ (.int .i64 k)).cell? ⟨w.heap.size, 0, none⟩ = some (.int .i64 k) := by rw [look_cell hlE3]; rfl
    have hQ3 : Q ((w2.alloc (.cells #[.int .i64 k] 176)).setCell ⟨w.heap.size, 0, none⟩ (.int .i64 k)) := hQ _ _ hQ2 (grown_trans (below_grown (belA (bel0 w2) _) _) (grown_setCell _ _ _ _))
    simp [Leaves, settle, results, Try.results74, go_sem, hcE3, rdCode, hQ3]
  | ok x rest =>
    obtain ⟨rfl, hrd2⟩ := hr
    obtain ⟨v2, hl2, ⟨a2, c2, rfl, _⟩, _⟩ := hrd2
    have hc2 : w2.cell? ⟨w1.heap.size, 0, none⟩ = some (.slice a2 rest.length c2) := by rw [look_cell hl2]; rfl
    have hfin : ∀ k, (w2.setCell ⟨w.heap.size, 0, none⟩ (.int .i64 k)).cell? ⟨w.heap.size, 0, none⟩ = some (.int .i64 k) := fun k => by
      rw [look_cell (look_set_same hlE2 _ _)]
      rfl
    cases rest with
    | nil =>
      have hQ3 := hQ _ _ hQ2 (hg3 (.int .i64 0))
      have hf0 := hfin 0
      go_wp2
      refine leaves_cons (f := 108) (args := #[.pointer (some ⟨w.heap.size, 0, none⟩)]) (by simp) (by simp [go_sem]) ?_
      refine (caught_idle ⟨w.heap.size, 0, none⟩ _).mono ?_
      rintro e u' w'' ⟨rfl, rfl, rfl⟩
      simp [Leaves, settle, results, Try.results74, go_sem, hf0, rdCode, hQ3]
    | cons b t =>
      have hQ3 := hQ _ _ hQ2 (hg3 (.int .i64 2))
      have hf0 := hfin 2
      go_wp2
      refine leaves_cons (f := 108) (args := #[.pointer (some ⟨w.heap.size, 0, none⟩)]) (by simp) (by simp [go_sem]) ?_
      refine (caught_idle ⟨w.heap.size, 0, none⟩ _).mono ?_
      rintro e u' w'' ⟨rfl, rfl, rfl⟩
      simp [Leaves, settle, results, Try.results74, go_sem, hf0, rdCode, hQ3]

theorem read_nil (v : Value) (w : World) :
    Calls Try.prog 74 #[v, .nilFunc] w fun e w' => e = .returned (.int .i64 6) ∧ Below w.heap.size w w' := by
  go_enter_defers Try.func74, Try.ntmps74
  go_wp2
  have hb := belA (bel0 w) (.cells #[.int .i64 6] 34)
  have hc : (w.alloc (.cells #[.int .i64 6] 34)).cell? ⟨w.heap.size, 0, none⟩ = some (.int .i64 6) := by rw [look_cell (look_alloc_at _ _ _ rfl)]; rfl
  simp [bodyPostD, Leaves, settle, results, Try.results74, go_sem, hb, hc]
end Go.Proofs.Ytnpofcnibgdjhaa
