/- Two appends of one statement, in whatever order: what each leaves alone. -/
import Derived.Test.YtniphfkipjpikaaMkQ
import Derived.Test.YtniphfkipjpikaaRegB
namespace Go.Proofs.Ytniphfkipjpikaa
open Go.RowKit Flt

/-- What operation i of the statement may write: the row of the one slice (6), of the other (13), or none. -/
def row2 (a b : Option Nat) (i : Nat) : Option Nat := if i = 6 then a else if i = 13 then b else none
def ty2 (s t : TypeId) (i : Nat) : TypeId := if i = 6 then s else t
def rowR (a b : Option Nat) (s t : TypeId) (lim : Nat) (i : Nat) (u u' : World) : Prop :=
  u.heap.size ≤ u'.heap.size ∧ (∀ g, g < u.heap.size → row2 a b i ≠ some g → look u' g = look u g) ∧ (∀ g, row2 a b i = some g → g < lim ∧ ∃ cs, look u g = some (.cells cs (ty2 s t i) (0, 0)))
theorem rowR_below {a b : Option Nat} {s t : TypeId} {lim i : Nat} {u u' : World} (h1 : i ≠ 6) (h2 : i ≠ 13) (h : Below u.heap.size u u') : rowR a b s t lim i u u' := by
  refine ⟨h.size, fun g hg _ => h.block g hg, fun g hg => ?_⟩
  unfold row2 at hg
  rw [if_neg h1, if_neg h2] at hg
  cases hg
theorem own_look {w : World} {base s n : Nat} {e : TypeId} {v : Value} {xs : List Value} (h : w.ownsRow base e s v n xs) {g : Nat} (hg : v.ownBlock = some g) : ∃ cs, look w g = some (.cells cs e (0, 0)) := by
  rcases h.2 with ⟨rfl, _⟩ | ⟨g', cap, cur, rfl, _, hl, _⟩
  · cases hg
  · cases hg
    exact ⟨cur, hl⟩
theorem rowR_own {a b : Option Nat} {s t : TypeId} {lim i base sz n : Nat} {u u' : World} {v : Value} {xs : List Value} (hi : row2 a b i = v.ownBlock) (ho : u.ownsRow base (ty2 s t i) sz v n xs) (hl : ∀ g, v.ownBlock = some g → g < lim) (hg : u.grownBy u' v.ownBlock) : rowR a b s t lim i u u' := by
  refine ⟨hg.size, fun g hgs hne => ?_, fun g hg => ?_⟩
  · rw [hi] at hne
    exact hg.block g hgs (fun e => hne e.symm)
  · rw [hi] at hg
    exact ⟨hl g hg, own_look ho hg⟩
/-- The word 'a literal slice in a new block'. -/
def isNewRow (T n : Nat) (cs : Array Value) (lim : Nat) (v : Value) (w : World) : Prop := ∃ b, v = .slice (some ⟨b, 0, none⟩) n n ∧ look w b = some (.cells cs T (0, 0)) ∧ lim ≤ b
theorem stab_newRow {a b : Option Nat} {s t : TypeId} {lim i T n : Nat} {cs : Array Value} {v : Value} {u u' : World} (h : isNewRow T n cs lim v u) (hR : rowR a b s t lim i u u') : isNewRow T n cs lim v u' := by
  obtain ⟨c, h1, h2, h3⟩ := h
  refine ⟨c, h1, ?_, h3⟩
  rw [hR.2.1 c (look_lt h2) (fun e => by have := (hR.2.2 c e).1; omega)]
  exact h2
theorem stab_own2 {a b : Option Nat} {s t : TypeId} {lim i base sz n : Nat} {e : TypeId} {xs : List Value} {v : Value} {u u' : World} (hne : row2 a b i = none ∨ ty2 s t i ≠ e) (h : isOwn base e sz n xs v u) (hR : rowR a b s t lim i u u') : isOwn base e sz n xs v u' := by
  refine ⟨h.1, ?_⟩
  rcases h.2 with h2 | ⟨g, cap, cur, e1, hb, hl, hn, hc, hs, ht⟩
  · exact .inl h2
  · refine .inr ⟨g, cap, cur, e1, hb, ?_, hn, hc, hs, ht⟩
    have hlu : look u g = some (.cells cur e (0, 0)) := hl
    have := hR.2.1 g (look_lt hlu) (fun er => by
      rcases hne with h0 | h0
      · rw [h0] at er; cases er
      · obtain ⟨_, cs, h3⟩ := hR.2.2 g er
        rw [hlu] at h3
        cases h3
        exact h0 rfl)
    exact this.trans hl
theorem own_apart {w : World} {base s n base' s' n' : Nat} {e e' : TypeId} {v v' : Value} {xs xs' : List Value} (h : w.ownsRow base e s v n xs) (h' : w.ownsRow base' e' s' v' n' xs') (hne : e ≠ e') : v'.ownBlock = none ∨ v'.ownBlock ≠ v.ownBlock := by
  cases hv : v'.ownBlock with
  | none => exact .inl rfl
  | some g =>
    right
    intro e1
    obtain ⟨cs, h1⟩ := own_look h' hv
    obtain ⟨cs', h2⟩ := own_look h e1.symm
    rw [h1] at h2
    cases h2
    exact hne rfl
end Go.Proofs.Ytniphfkipjpikaa
