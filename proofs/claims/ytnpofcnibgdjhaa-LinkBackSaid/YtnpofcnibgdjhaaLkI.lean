/- Links: the link of bytes. -/
import Derived.Test.YtnpofcnibgdjhaaLkH
namespace Go.Proofs.Ytnpofcnibgdjhaa
open Go.RowKit
variable {X : Nat → Prop}

/-- What the closure leaves. -/
def kgotP (X : Nat → Prop) (r : Rd Lk) (p B : Nat) (w : World) (e : Ending) (w' : World) : Prop := match r with
  | .ok l rest => e = .returned (.tuple #[]) ∧ RdAt X w' p rest ∧ ∃ (q : Nat) (S : Nat → Prop), look w' B = some (.cells #[.pointer (some ⟨q, 0, none⟩)] 23 (0, 0)) ∧ w.heap.size ≤ q ∧ (∀ b, S b → w.heap.size ≤ b) ∧ LinkAt S w' q l
  | .fault k => faultC k e

set_option maxRecDepth 100000 in
set_option maxHeartbeats 1600000 in
theorem lload1_any (p B : Nat) (bs : List Nat) (w : World) (hn : p ≠ B) (hby : ∀ x ∈ bs, x < 256) (hlen : bs.length ≤ 1000000) (h : RdAt X w p bs) (hl : look w B = some (.cells #[.pointer none] 23 (0, 0))) :
    Calls Try.prog 75 #[.pointer (some ⟨p, 0, none⟩), .pointer (some ⟨B, 0, none⟩)] w fun e w' => (w'.os = w.os ∧ w'.tape = w.tape ∧ w'.output = w.output ∧ w.heap.size ≤ w'.heap.size ∧ ∀ k, k < w.heap.size → k ≠ p → k ≠ B → w'.heap[k]? = w.heap[k]?) ∧ kgotP X (decLk bs) p B w e w' := by
  have hBw := look_lt hl
  go_enter Try.func75, Try.ntmps75
  go_wp2_with fail
  refine (lkget_any p bs _ hlen hby h).mono ?_
  rintro e w1 ⟨hg1, hr⟩
  have hl1 : look w1 B = some (.cells #[.pointer none] 23 (0, 0)) := by rw [grown_look hg1 hBw (by intro g e; cases e; omega)]; exact hl
  cases hd : decLk bs with
  | fault k =>
    rw [hd] at hr
    cases hr
    go_wp2
    refine ⟨rfl, ⟨hg1.os, hg1.tape, hg1.output, hg1.size, fun k hk hp _ => hg1.block k hk (by intro e; cases e; exact hp rfl)⟩, ?_⟩
    rw [hd]
    exact rfl
  | ok l rest =>
    rw [hd] at hr
    obtain ⟨⟨_, rfl, q, S, rfl, hq, hS, hL⟩, hrd⟩ := hr
    have hc1 : w1.cell? ⟨B, 0, none⟩ = some (.pointer none) := by rw [look_cell hl1]; rfl
    have hz1 := look_frozen hl1 0
    have hfin : RdAt X (w1.setCell ⟨B, 0, none⟩ (.pointer (some ⟨q, 0, none⟩))) p rest := rd_aside hrd hl1 hn (fun j x e => by
      match j, e with
      | 0, e => cases e
      | j + 1, e => simp at e)
    have hlf : look (w1.setCell ⟨B, 0, none⟩ (.pointer (some ⟨q, 0, none⟩))) B = some (.cells #[.pointer (some ⟨q, 0, none⟩)] 23 (0, 0)) := by rw [look_set_same hl1]; rfl
    have hkf : ∀ k, k < w.heap.size → k ≠ p → k ≠ B → (w1.setCell ⟨B, 0, none⟩ (.pointer (some ⟨q, 0, none⟩))).heap[k]? = w.heap[k]? := fun k hk hp hB => by
      rw [heap_setCell_other w1 ⟨B, 0, none⟩ k _ hB]
      exact hg1.block k hk (by intro e; cases e; exact hp rfl)
    have hLf : LinkAt S (w1.setCell ⟨B, 0, none⟩ (.pointer (some ⟨q, 0, none⟩))) q l := hL.kept (by simp) fun b hb => heap_setCell_other w1 ⟨B, 0, none⟩ b _ (by
      show b ≠ B
      rcases hb with rfl | hb
      · omega
      · have := hS b hb; omega)
    have hsz := hg1.size
    go_wp2
    go_end0
    exact ⟨⟨hg1.os, hg1.tape, hg1.output, by simpa using hsz, hkf⟩, by rw [hd]; exact ⟨rfl, hfin, q, S, hlf, hq, hS, hLf⟩⟩

/-- What load hands back. -/
def loadP (r : Option Lk) (B : Nat) (e : Ending) (w' : World) : Prop := match r with
  | some l => ∃ (q : Nat) (S : Nat → Prop), e = .returned (.pointer (some ⟨q, 0, none⟩)) ∧ B ≤ q ∧ (∀ b, S b → B ≤ b) ∧ LinkAt S w' q l
  | none => e = .returned (.pointer none)
set_option maxRecDepth 100000 in
set_option maxHeartbeats 1600000 in
theorem lload_any (v : Value) (bs : List Nat) (w : World) (hby : ∀ x ∈ bs, x < 256) (hlen : bs.length ≤ 1000000) (hv : SliceAt w v bs.length 1 (bC bs)) :
    Calls Try.prog 30 #[v] w fun e w' => loadP (whole (decLk bs)) w.heap.size e w' ∧ Below w.heap.size w w' := by
  have hbA := belA (bel0 w) (.cells #[.pointer none] 23)
  have hv1 := hv.below hbA
  have hl0 : look (w.alloc (.cells #[.pointer none] 23)) w.heap.size = some (.cells #[.pointer none] 23 (0, 0)) := look_alloc_at _ _ _ rfl
  have hsz : (w.alloc (.cells #[.pointer none] 23)).heap.size = w.heap.size + 1 := by simp
  go_enter Try.func30, Try.ntmps30
  go_wp2_with fail
  refine (read_any 75 #[.pointer (some ⟨w.heap.size, 0, none⟩)] (decLk bs) bs v (fun u => Below w.heap.size w u ∧ ∀ x r, decLk bs = .ok x r → ∃ (q : Nat) (S : Nat → Prop), look u w.heap.size = some (.cells #[.pointer (some ⟨q, 0, none⟩)] 23 (0, 0)) ∧ w.heap.size + 1 < q ∧ (∀ b, S b → w.heap.size + 1 < b) ∧ LinkAt S u q x) _ hlen
    (enters_of' Try.func75 (by kernel_rfl) rfl) (slice_news hv1) ?_ ?_).mono ?_
  · rintro w2 w3 ⟨h0, h2⟩ hg
    refine ⟨h0.grown hg h0.size (fun g e => by cases e; omega), fun x r e => ?_⟩
    obtain ⟨q, S, k1, k2, k3, k4⟩ := h2 x r e
    refine ⟨q, S, ?_, k2, k3, k4.kept hg.size fun b hb => ?_⟩
    · rw [grown_look hg (look_lt k1) (by intro g e; cases e; omega)]; exact k1
    · have hlt : b < w2.heap.size := by
        rcases hb with rfl | hb
        · exact k4.lt
        · exact (k4.blocks b hb).1
      refine hg.block b hlt (fun e => ?_)
      have e2 := Option.some.inj e
      rcases hb with rfl | hb
      · omega
      · have := k3 b hb; omega
  · intro w1 p hp hb hrd
    have hlb : look w1 w.heap.size = some (.cells #[.pointer none] 23 (0, 0)) := by rw [look_below hb (look_lt hl0)]; exact hl0
    refine (lload1_any p w.heap.size bs w1 (by omega) hby hlen hrd hlb).mono ?_
    rintro e w2 ⟨⟨k1, k2, k3, k4, k5⟩, hr⟩
    have hszb := hb.size
    have hpw : p < w1.heap.size := rd_lt hrd
    have hE : look w2 (w.alloc (.cells #[.pointer none] 23)).heap.size = look w1 (w.alloc (.cells #[.pointer none] 23)).heap.size := k5 _ (by omega) (by omega) (by omega)
    have hB2 : Below w.heap.size w w2 := by
      refine ⟨k1.trans (hb.os.trans hbA.os), k2.trans (hb.tape.trans hbA.tape), k3.trans (hb.output.trans hbA.output), by omega, fun k hk => ?_⟩
      rw [k5 k (by omega) (by omega) (by omega), hb.block k (by omega), hbA.block k hk]
    refine ⟨hE, ⟨hB2, ?_⟩, ?_⟩
    · intro x r e
      rw [e] at hr
      obtain ⟨_, _, q, S, h1, h2, h3, h4⟩ := hr
      exact ⟨q, S, h1, by omega, fun b hb => by have := h3 b hb; omega, h4⟩
    · cases hd : decLk bs with
      | ok x r =>
        rw [hd] at hr
        exact ⟨hr.1, hr.2.1⟩
      | fault k =>
        rw [hd] at hr
        exact hr
  · rintro _ w3 ⟨rfl, hB3, hlb3⟩
    rcases whole_code (fal_Lk bs) with ⟨h0, x, hx, hx2⟩ | ⟨h0, hx2⟩
    · rw [h0]
      obtain ⟨q, S, h1, h2, h3, h4⟩ := hlb3 x [] hx
      have hxh := hidP hx2
      have hc3 : w3.cell? ⟨w.heap.size, 0, none⟩ = some (.pointer (some ⟨q, 0, none⟩)) := by rw [look_cell h1]; rfl
      clear hx hx2 h0 hlb3
      go_wp2
      go_ret
      refine ⟨?_, hB3⟩
      rw [hxh.out]
      exact ⟨q, S, rfl, by omega, fun b hb => by have := h3 b hb; omega, h4⟩
    · have hxh := hidP hx2
      have hne : decide (rdCode (decLk bs) = 0) = false := decide_eq_false h0
      clear hx2 hlb3
      go_wp2
      go_ret
      refine ⟨?_, hB3⟩
      rw [hxh.out]
      exact rfl
end Go.Proofs.Ytnpofcnibgdjhaa
