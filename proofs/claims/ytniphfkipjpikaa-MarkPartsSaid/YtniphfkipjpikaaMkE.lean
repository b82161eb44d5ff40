/- Contracts: the document's marks as marks; what must come of fixed calls. -/
import Derived.Test.YtniphfkipjpikaaMkS
namespace Go.Proofs.Ytniphfkipjpikaa
open Go.RowKit Flt

/-- Elements of known places, in a world that came later. -/
theorem SliceAt.at {w : World} {ad : Option Addr} {n s : Nat} {C : Nat → List Value} (h : n = 0 ∨ ∃ b off, ad = some ⟨b, off, none⟩ ∧ b < w.heap.size ∧ ∀ k, k < n → w.rangeAt b (off + k * s) (C k)) {k : Nat} (hk : k < n) {W : World} (hB : Below w.heap.size w W) :
    ∃ b off, ad = some ⟨b, off, none⟩ ∧ b < w.heap.size ∧ W.rangeAt b (off + k * s) (C k) := by
  obtain ⟨b, off, rfl, hb, hR⟩ := h.resolve_left (by omega)
  exact ⟨b, off, rfl, hb, fun j u hu => by rw [hB.cell hb]; exact hR k hk j u hu⟩

set_option maxHeartbeats 1600000 in
theorem marks_any (v : Value) (n : Nat) (L : Nat → Mk) (w : World) (hn : n ≤ 1000) (hS : SliceAt w v n 3 (rC L)) :
    Calls Try.prog 19 #[v] w fun e w' => ∃ u, e = .returned u ∧ isSl n 3 (mC L) u w' ∧ Below w.heap.size w w' := by
  obtain ⟨ad, cap, rfl, _, _, hR⟩ := hS
  obtain ⟨i0, hi, hz0, hz1, hz2⟩ := info_parts infoMk
  go_enter Try.func19, Try.ntmps19
  go_wp2
  go_loopw [3, 4] (fun o i wr => ∃ k : Nat, k ≤ n ∧ i = .int .i64 k ∧ wr.ownsRow w.heap.size 29 3 o k (rowsL (mC L) k) ∧ Below w.heap.size w wr) (fun _ i _ => n - (intOf i).toNat)
  case atStart => exact ⟨0, Nat.zero_le _, rfl, World.ownsRow_nil _ _ _ _, Below.refl _ _⟩
  case round =>
    obtain ⟨k, hk, rfl, hown, hB⟩ := hrel
    by_cases hlt : k < n
    · obtain ⟨b, off, rfl, hb, hr⟩ := SliceAt.at hR hlt hB
      unfold rC at hr
      go_wp2_with (refine wpList_load_mid rfl 25 _ rfl b (off + k * 3) rfl _ _ hr Try.underlying25 rfl rk_info ?_)
      refine (of_any (L k).flag (L k).has (L k).price _).mono ?_
      rintro _ w1 ⟨rfl, hB1⟩
      have hBn := belT hB hB1
      have hon1 := (hown.kept (w' := w1) ⟨hB1.os, hB1.tape, hB1.output, hB1.size, fun g hg _ => hB1.block g hg⟩ (row := none) (by cases o : u3.ownBlock <;> simp))
      go_wp2_with (at_builtin; refine wpList_append_own_at _ rfl _ _ 35 rfl w.heap.size 29 i0 (.agg #[.int .i64 0, .bool false, .float .f64 0]) 3 24 Try.underlying35 hi hz0 hz1 hz2 rfl (by decide) _ _ _ rfl (hon1.alloc _) ⟨_, 0, none⟩ 1 1 (mC L k) rfl rfl ?c1 ?c2 ?c3 ?c4 ?c5 ?_)
      case c1 => exact cells_new _ _ _
      case c2 => exact mC_ones L k
      case c3 => unfold maxLen; omega
      case c4 => omega
      case c5 => exact (belA hBn _).size
      intro v' w2 hown' hgrow _ _
      rw [rowsL_succ] at hown'
      have hB2 := (belA hBn _).grown hgrow (belA hBn _).size (fun g e => (hown.lt g e).1)
      go_wp2
      go_roundw
      case rel => exact ⟨k + 1, by omega, by go_num, hown', hB2⟩
      case measure => simp [intOf]; omega
    · obtain rfl : k = n := by omega
      go_wp2
      go_ret
      exact ⟨_, rfl, SliceAt.own (mC_len L) hown, hB⟩
end Go.Proofs.Ytniphfkipjpikaa
