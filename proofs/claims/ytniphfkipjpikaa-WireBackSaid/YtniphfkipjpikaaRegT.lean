/- Drawn regions: the operations walked in a frame of which only what they look at is known. -/
import Derived.Test.YtniphfkipjpikaaRegB
namespace Go.Proofs.Ytniphfkipjpikaa
open Go.RowKit

section
variable {P : Program} {ops : Array Oper} {Q : Exit → Act → World → Prop}
theorem wp_region_wordsT {id : Nat} {a0 : Act} {w : World} (hm : P.follows .mixedOrders = true) (n : Nat) (Lk : List (List Nat)) (Sp : List Word)
    (hn : n ≤ ops.size) (hok : regOkB ops n a0.tmps.size Lk = true) (hst : stable Sp)
    (hob : ∀ T : Array Value, T.size = a0.tmps.size → (∀ t : Nat, T[t]? = a0.tmps[t]?) → stepObs P ops (ops.toList.take n) Sp ⟨T, a0.defers⟩ w (ops.toList.take n) Lk Sp)
    (hend : ∀ (vs : Nat → Value) (w' : World), Below w.heap.size w w' →
      (∀ (i : Nat) (o : Oper) (d : Nat) (S : Word), (ops.toList.take n)[i]? = some o → o.dst = some d → Sp[i]? = some S → S (vs d) w') →
      (∀ (i j : Nat) (oi oj : Oper) (di dj : Nat), i ≠ j → (ops.toList.take n)[i]? = some oi → (ops.toList.take n)[j]? = some oj → oi.dst = some di → oj.dst = some dj → isNew oi.op = true → isNew oj.op = true → ∀ b, addrOf (vs di) = some b → addrOf (vs dj) ≠ some b) →
      (∀ (i : Nat) (oi : Oper) (di : Nat), (ops.toList.take n)[i]? = some oi → oi.dst = some di → isNew oi.op = true → ∀ b, addrOf (vs di) = some b → w.heap.size ≤ b ∧ b < w'.heap.size) →
      wpList P ops Q (ops.toList.drop n) { tmps := fill a0.tmps vs ((ops.toList.take n).filterMap (·.dst)), defers := a0.defers } w') :
    (Code.region id ops true).wp P Q a0 w :=
  wp_region_wordsB hm n Lk Sp hn hok hst (hob a0.tmps rfl (fun _ => rfl)) hend
end
theorem fill_in {T : Array Value} {vs : Nat → Value} {ds : List Nat} {t n : Nat} {v : Value} (hT : T.size = n) (ht : t < n) (hd : ds.contains t = true) (h : vs t = v) : (fill T vs ds)[t]? = some v := by
  rw [fill_get T vs t (by omega) ds, if_pos hd, h]
theorem fill_out {T : Array Value} {vs : Nat → Value} {ds : List Nat} {t n : Nat} {v : Value} (hT : T.size = n) (ht : t < n) (hd : ¬ ds.contains t = true) (h : T[t]? = some v) : (fill T vs ds)[t]? = some v := by
  rw [fill_get T vs t (by omega) ds, if_neg hd, h]
/-- What a guard reads. -/
def gdOf : Value → Option Bool
  | .bool b => some b
  | _ => none
theorem skip_at {ops : Array Oper} {F : Array Value} {o oj : Oper} {j d : Nat} {want : Bool} {v : Value} (hF : F[d]? = some v) (hg : o.guard = some (j, want)) (ho : ops[j]? = some oj) (hd : oj.dst = some d) (hne : (gdOf v == some want) = false) : Region.wanted o (yielded ops F) = false := by
  unfold Region.wanted yielded
  rw [hg]
  simp only [ho, Option.bind_some, hd, hF]
  cases v <;> exact hne
/-- What a slot holds that an operation of the region has filled. -/
theorem at_in {T : Array Value} {vs : Nat → Value} {ds : List Nat} {t n : Nat} {v : Value} (hT : T.size = n) (ht : t < n) (hd : ds.contains t = true) {free : List Oper} {Sp : List Word} {look : List Nat} {w : World} (hm : meets free Sp look vs w) (i : Nat) {o : Oper} (ho : free[i]? = some o) (hdst : o.dst = some t) (hS : Sp[i]? = some (isV v)) (hl : look.contains t = true) : (fill T vs ds)[t]? = some v :=
  fill_in hT ht hd (meets_get hm i ho hdst hS hl)
/-- An operation that its guard does not let run. -/
theorem skip_ob {P : Program} {ops : Array Oper} {free : List Oper} {Sp : List Word} {T : Array Value} {w0 : World} {o oj : Oper} {look : List Nat} {d n : Nat} {want : Bool} {v : Value} {a : Act} (ha : a.tmps = T) (hT : T.size = n) (j : Nat) (ht : d < n) (hf : free[j]? = some oj) (hdst : oj.dst = some d) (hS : Sp[j]? = some (isV v)) (hl : look.contains d = true) (hg : o.guard = some (j, want)) (ho : ops[j]? = some oj) (hne : (gdOf v == some want) = false) :
    stepOb P ops free Sp a w0 o look (isV undef) := by
  intro vs wq hB hm
  subst ha
  have q := at_in (ds := look) hT ht hl hm j hf hdst hS hl
  refine wpList_skip (skip_at q hg ho hdst hne) ?_
  exact ⟨_, rfl, rfl, Below.refl _ _, freshIf_none rfl⟩
end Go.Proofs.Ytniphfkipjpikaa
