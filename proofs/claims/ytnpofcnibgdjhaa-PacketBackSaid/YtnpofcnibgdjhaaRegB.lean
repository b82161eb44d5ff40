/- A region that draws its order, with a relation of its own for each operation: an operation may write what the region's own words speak of, if the others' words bear it; and chains of operations of any length. No condition. -/
import Derived.Test.YtnpofcnibgdjhaaReg
namespace Go.Proofs.Ytnpofcnibgdjhaa
open Go.RowKit

/-- The end of one operation, as OpEnd; but what it leaves alone is told by a relation, and an invariant holds. -/
def OpEndR (dst : Option Tmp) (op : Op) (a : Act) (w : World) (S : Word) (R : World → World → Prop) (J : World → Prop) : Exit → Act → World → Prop
  | .normal, a', w' => ∃ v, a' = a.put dst v ∧ S v w' ∧ (R w w' ∧ J w' ∧ w.heap.size ≤ w'.heap.size) ∧ freshIf op v w w'
  | _, _, _ => False
def stepObR (P : Program) (ops : Array Oper) (free : List Oper) (Sp : List Word) (a0 : Act) (J : World → Prop) (R : World → World → Prop) (o : Oper) (look : List Nat) (S : Word) : Prop :=
  ∀ (vs : Nat → Value) (w : World), J w → meets free Sp look vs w →
    wpList P ops (OpEndR o.dst o.op { tmps := fill a0.tmps vs look, defers := a0.defers } w S R J) [o] { tmps := fill a0.tmps vs look, defers := a0.defers } w
def stepObsR (P : Program) (ops : Array Oper) (free : List Oper) (Sp : List Word) (a0 : Act) (J : World → Prop) (R : Nat → World → World → Prop) : Nat → List Oper → List (List Nat) → List Word → Prop
  | _, [], _, [] => True
  | k, o :: os, l :: ls, S :: Ss => stepObR P ops free Sp a0 J (R k) o l S ∧ stepObsR P ops free Sp a0 J R (k + 1) os ls Ss
  | _, _, _, _ => False
theorem stepObsR_get {P : Program} {ops : Array Oper} {free : List Oper} {Sp : List Word} {a0 : Act} {J : World → Prop} {R : Nat → World → World → Prop} : ∀ {k : Nat} {os : List Oper} {ls : List (List Nat)} {Ss : List Word}, stepObsR P ops free Sp a0 J R k os ls Ss →
    ∀ (i : Nat) (o : Oper), os[i]? = some o → ∃ l S, ls[i]? = some l ∧ Ss[i]? = some S ∧ stepObR P ops free Sp a0 J (R (k + i)) o l S
  | k, [], _, [], h, i, o, ho => by simp at ho
  | k, o :: os, l :: ls, S :: Ss, h, 0, o', ho => by
    simp at ho; subst ho
    exact ⟨l, S, rfl, rfl, h.1⟩
  | k, o :: os, l :: ls, S :: Ss, h, i + 1, o', ho => by
    simp at ho
    obtain ⟨l', S', h0, h1, h2⟩ := stepObsR_get h.2 i o' ho
    refine ⟨l', S', by simpa using h0, by simpa using h1, ?_⟩
    have e : k + (i + 1) = k + 1 + i := by omega
    rw [e]
    exact h2
  | _, [], _, _ :: _, h, _, _, _ => h.elim
  | _, _ :: _, [], _, h, _, _, _ => h.elim
  | _, _ :: _, _ :: _, [], h, _, _, _ => h.elim

/-- Does an operation wait for another one, be it through others? -/
def reach (ops : Array Oper) : Nat → Oper → Nat → Bool
  | 0, o, j => waits o j
  | f + 1, o, j => waits o j || (List.range ops.size).any fun k => waits o k && (match ops[k]? with | some ok => reach ops f ok j | none => false)
theorem reach_listed {ops : Array Oper} {listed : Array Bool} (hc : ∀ (i : Nat) (o : Oper), listed.getD i false = true → ops[i]? = some o → ∀ j, waits o j = true → listed.getD j false = true) :
    ∀ {o : Oper} {j : Nat}, (∀ e ∈ o.after, Region.binds .any e = true → listed.getD e.on false = true) → ∀ (f : Nat), reach ops f o j = true → listed.getD j false = true
  | o, j, hw, 0, h => waits_listed h hw
  | o, j, hw, f + 1, h => by
    unfold reach at h
    rw [Bool.or_eq_true] at h
    rcases h with h | h
    · exact waits_listed h hw
    · obtain ⟨k, _, hk⟩ := List.any_eq_true.1 h
      rw [Bool.and_eq_true] at hk
      cases hok : ops[k]? with
      | none => rw [hok] at hk; exact absurd hk.2 (by simp)
      | some ok =>
        rw [hok] at hk
        have hl := waits_listed hk.1 hw
        refine reach_listed hc (o := ok) (fun e he hb => ?_) f hk.2
        refine hc k ok hl hok e.on ?_
        unfold waits
        rw [Array.any_eq_true']
        exact ⟨e, he, by simp [hb]⟩
/-- The text's own form: the first n operations are free (each writes a slot of its own, and waits for whom it looks at); the others wait for all ahead of them. -/
def regOkB (ops : Array Oper) (n size : Nat) (Lk : List (List Nat)) : Bool :=
  (List.range ops.size).all fun i => match ops[i]? with
    | none => true
    | some o => (o.after.all fun e => !Region.binds .any e || decide (e.on < i)) &&
      (decide (i < n) || (List.range i).all fun j => waits o j || (decide (j < n) && reach ops 8 o j)) &&
      (decide (n ≤ i) || ((match o.dst with | some d => decide (d < size) | none => true) && (match o.op with | .select .. => false | _ => true) &&
        (List.range n).all fun j => match ops[j]? with
          | none => true
          | some oj => match oj.dst with
            | none => true
            | some d => (i == j || o.dst != some d) && (!(o.looksAt ops).contains d || (Lk.getD i []).contains d) && (!(Lk.getD i []).contains d || waits o j)))


section
variable {P : Program} {ops : Array Oper} {Q : Exit → Act → World → Prop}
theorem regOkB_spec {n size : Nat} {Lk : List (List Nat)} (h : regOkB ops n size Lk = true) (i : Nat) (o : Oper) (ho : ops[i]? = some o) :
    (∀ e, e ∈ o.after → Region.binds .any e = true → e.on < i) ∧ (n ≤ i → ∀ j, j < i → waits o j = true ∨ (j < n ∧ reach ops 8 o j = true)) ∧
    (i < n → (∀ d, o.dst = some d → d < size) ∧ (∀ cs b, o.op ≠ .select cs b) ∧ ∀ j oj d, j < n → ops[j]? = some oj → oj.dst = some d → (i ≠ j → o.dst ≠ some d) ∧ (d ∈ o.looksAt ops → d ∈ Lk.getD i []) ∧ (d ∈ Lk.getD i [] → waits o j = true)) := by
  have hlt := (Array.getElem?_eq_some_iff.1 ho).1
  have h1 := List.all_eq_true.1 h i (by simpa using hlt)
  rw [ho] at h1
  simp only [Bool.and_eq_true, Bool.or_eq_true, decide_eq_true_eq] at h1
  obtain ⟨⟨h2, h3⟩, h4⟩ := h1
  refine ⟨fun e he hb => ?_, fun hn j hj => ?_, fun hn => ⟨fun d hd => ?_, fun cs b hsel => ?_, fun j oj d hj hoj hd => ?_⟩⟩
  · rw [Array.all_eq_true_iff_forall_mem] at h2
    have := h2 e he
    simpa [hb] using this
  · rcases h3 with h3 | h3
    · omega
    · have h5 := List.all_eq_true.1 h3 j (by simpa using hj)
      simp only [Bool.or_eq_true, Bool.and_eq_true, decide_eq_true_eq] at h5
      exact h5
  · rcases h4 with h4 | h4
    · omega
    · have := h4.1.1
      rw [hd] at this
      simpa using this
  · rcases h4 with h4 | h4
    · omega
    · have := h4.1.2
      rw [hsel] at this
      simp at this
  · rcases h4 with h4 | h4
    · omega
    · have := List.all_eq_true.1 h4.2 j (by simpa using hj)
      rw [hoj] at this
      simp only [hd, Bool.and_eq_true, Bool.or_eq_true, beq_iff_eq, bne_iff_ne, Bool.not_eq_true', List.contains_eq_mem, decide_eq_false_iff_not, decide_eq_true_eq] at this
      refine ⟨fun hne => ?_, fun hm => ?_, fun hm => ?_⟩
      · rcases this.1.1 with e | e
        · exact absurd e hne
        · exact e
      · rcases this.1.2 with e | e
        · exact absurd hm e
        · exact e
      · rcases this.2 with e | e
        · exact absurd hm e
        · exact e

/-- THE RULE, at the orders' own level: begun in w itself, or in w behind a draw. -/
theorem wpAny_rel {a0 : Act} {w wb : World} (J : World → Prop) (R : Nat → World → World → Prop) (hJ : J wb) (hwb : w.heap.size ≤ wb.heap.size) (n : Nat) (Lk : List (List Nat)) (Sp : List Word)
    (hn : n ≤ ops.size) (hok : regOkB ops n a0.tmps.size Lk = true) (hst : ∀ (i j : Nat) (S : Word), i ≠ j → Sp[j]? = some S → ∀ v u u', S v u → R i u u' → S v u')
    (hob : stepObsR P ops (ops.toList.take n) Sp a0 J R 0 (ops.toList.take n) Lk Sp)
    (hend : ∀ (vs : Nat → Value) (w' : World), J w' → w.heap.size ≤ w'.heap.size →
      (∀ (i : Nat) (o : Oper) (d : Nat) (S : Word), (ops.toList.take n)[i]? = some o → o.dst = some d → Sp[i]? = some S → S (vs d) w') →
      (∀ (i j : Nat) (oi oj : Oper) (di dj : Nat), i ≠ j → (ops.toList.take n)[i]? = some oi → (ops.toList.take n)[j]? = some oj → oi.dst = some di → oj.dst = some dj → isNew oi.op = true → isNew oj.op = true → ∀ b, addrOf (vs di) = some b → addrOf (vs dj) ≠ some b) →
      (∀ (i : Nat) (oi : Oper) (di : Nat), (ops.toList.take n)[i]? = some oi → oi.dst = some di → isNew oi.op = true → ∀ b, addrOf (vs di) = some b → w.heap.size ≤ b ∧ b < w'.heap.size) →
      wpList P ops Q (ops.toList.drop n) { tmps := fill a0.tmps vs ((ops.toList.take n).filterMap (·.dst)), defers := a0.defers } w') :
    wpAny P .any ops Q ops.size (Array.replicate ops.size false) a0 wb := by
  have hfree : ∀ (i : Nat) (o : Oper), (ops.toList.take n)[i]? = some o ↔ i < n ∧ ops[i]? = some o := by
    intro i o
    rw [List.getElem?_take]
    split
    · rename_i h; simp [h]
    · rename_i h; simp [h]
  let I : Array Bool → Act → World → Prop := fun listed a w' =>
    listed.size = ops.size ∧ (∀ i, n ≤ i → i < ops.size → listed.getD i true = false) ∧ a.defers = a0.defers ∧ a.tmps.size = a0.tmps.size ∧
    (∀ t, outTmp (ops.toList.take n) t = false → a.tmps[t]? = a0.tmps[t]?) ∧ (J w' ∧ w.heap.size ≤ w'.heap.size) ∧
    (∀ (i : Nat) (o : Oper), listed.getD i false = true → ops[i]? = some o → ∀ j, waits o j = true → listed.getD j false = true) ∧
    (∀ (i j : Nat) (oi oj : Oper) (di dj : Nat), i < n → j < n → i ≠ j → listed.getD i false = true → listed.getD j false = true → ops[i]? = some oi → ops[j]? = some oj → oi.dst = some di → oj.dst = some dj → isNew oi.op = true → isNew oj.op = true →
      ∀ b, addrOf (a.tmps.getD di undef) = some b → addrOf (a.tmps.getD dj undef) ≠ some b) ∧
    (∀ (i : Nat) (oi : Oper) (di : Nat), i < n → listed.getD i false = true → ops[i]? = some oi → oi.dst = some di → isNew oi.op = true → ∀ b, addrOf (a.tmps.getD di undef) = some b → w.heap.size ≤ b ∧ b < w'.heap.size) ∧
    ∀ (i : Nat) (o : Oper) (d : Nat) (S : Word), i < n → listed.getD i false = true → ops[i]? = some o → o.dst = some d → Sp[i]? = some S → S (a.tmps.getD d undef) w'
  have start : I (Array.replicate ops.size false) a0 wb := by
    refine ⟨by simp, fun i _ hi => ?_, rfl, rfl, fun _ _ => rfl, ⟨hJ, hwb⟩, fun i o hl => ?_, fun i j oi oj di dj _ _ _ hl => ?_, fun i oi di _ hl => ?_, fun i o d S _ hl _ _ _ => ?_⟩
    · simp [hi]
    · exfalso
      rw [Array.getD_eq_getD_getElem?, Array.getElem?_replicate] at hl
      split at hl <;> simp at hl
    · exfalso
      rw [Array.getD_eq_getD_getElem?, Array.getElem?_replicate] at hl
      split at hl <;> simp at hl
    · exfalso
      rw [Array.getD_eq_getD_getElem?, Array.getElem?_replicate] at hl
      split at hl <;> simp at hl
    · exfalso
      rw [Array.getD_eq_getD_getElem?, Array.getElem?_replicate] at hl
      split at hl <;> simp at hl
  refine wpAny_inv I (fun listed a w' h => h.1) ?_ ops.size (Array.replicate ops.size false) a0 wb (by simp) start
  intro listed a w' hI
  obtain ⟨i1, i2, i3, i4, i5, i6, i8, i9, i10, i7⟩ := hI
  by_cases hall : ∀ i, i < n → listed.getD i true = true
  · refine .inl ?_
    have hdec : ∀ i, i < ops.size → listed.getD i true = decide (i < n) := by
      intro i hi
      by_cases h : i < n
      · rw [hall i h]; simp [h]
      · rw [i2 i (by omega) hi]; simp [h]
    have hcnt : listed.count false = ops.size - n := by
      have e : listed = (List.replicate n true ++ List.replicate (ops.size - n) false).toArray := by
        apply Array.ext_getElem?
        intro i
        by_cases hi : i < ops.size
        · have := hdec i hi
          rw [Array.getD_eq_getD_getElem?, Array.getElem?_eq_getElem (by omega : i < listed.size)] at this
          rw [Array.getElem?_eq_getElem (by omega : i < listed.size)]
          simp only [Option.getD_some] at this
          rw [this, List.getElem?_toArray, List.getElem?_append, List.length_replicate]
          split
          · rename_i h; simp [h]
          · rename_i h; rw [List.getElem?_replicate, if_pos (by omega)]; simp [h]
        · rw [Array.getElem?_eq_none (by omega), Array.getElem?_eq_none (by simp; omega)]
      rw [e]
      simp [List.count_append, List.count_replicate]
    rw [hcnt]
    have ht : ops.size - (ops.size - n) = n := by omega
    refine wpAny_tail (ops.size - n) listed a w' i1 (by omega) (by rw [ht]; exact hdec) (fun i o j hi ho hj => by
        rcases (regOkB_spec hok i o ho).2.1 (by omega) j hj with h | h
        · exact h
        · exact absurd h.1 (by omega))
      (fun i o ho => (regOkB_spec hok i o ho).1) ?_
    rw [ht]
    have ha : a = { tmps := fill a0.tmps (fun t => a.tmps.getD t undef) ((ops.toList.take n).filterMap (·.dst)), defers := a0.defers } := by
      obtain ⟨tm, df⟩ := a
      simp only at i3 i4 i5 i7
      subst i3
      congr 1
      apply Array.ext_getElem?
      intro t
      by_cases ht : t < a0.tmps.size
      · rw [fill_get _ _ _ ht]
        by_cases ho : outTmp (ops.toList.take n) t = true
        · have : ((ops.toList.take n).filterMap (·.dst)).contains t = true := by
            obtain ⟨i, o, h1, h2⟩ := (outTmp_iff _ _).1 ho
            rw [List.contains_iff_mem]
            exact List.mem_filterMap.2 ⟨o, List.mem_of_getElem? h1, h2⟩
          rw [if_pos this, Array.getD_eq_getD_getElem?, Array.getElem?_eq_getElem (by omega : t < tm.size)]
          rfl
        · have ho' : outTmp (ops.toList.take n) t = false := by simpa using ho
          have : ¬ ((ops.toList.take n).filterMap (·.dst)).contains t = true := by
            intro hc
            rw [List.contains_iff_mem] at hc
            obtain ⟨o, h1, h2⟩ := List.mem_filterMap.1 hc
            obtain ⟨i, hi, he⟩ := List.mem_iff_getElem.1 h1
            exact ho ((outTmp_iff _ _).2 ⟨i, o, by rw [List.getElem?_eq_getElem hi, he], h2⟩)
          rw [if_neg this, i5 t ho']
      · rw [Array.getElem?_eq_none (by omega), Array.getElem?_eq_none (by rw [fill_size]; omega)]
    rw [ha]
    have hl : ∀ i, i < n → listed.getD i false = true := by
      intro i hi
      have h1 := hall i hi
      rw [Array.getD_eq_getD_getElem?, Array.getElem?_eq_getElem (by omega : i < listed.size)] at h1 ⊢
      exact h1
    refine hend _ _ i6.1 i6.2 ?_ ?_ ?_
    · intro i o d S ho hd hS
      obtain ⟨hi, ho'⟩ := (hfree i o).1 ho
      exact i7 i o d S hi (hl i hi) ho' hd hS
    · intro i j oi oj di dj hne hoi hoj
      obtain ⟨hi, hoi'⟩ := (hfree i oi).1 hoi
      obtain ⟨hj, hoj'⟩ := (hfree j oj).1 hoj
      exact i9 i j oi oj di dj hi hj hne (hl i hi) (hl j hj) hoi' hoj'
    · intro i oi di hoi
      obtain ⟨hi, hoi'⟩ := (hfree i oi).1 hoi
      exact i10 i oi di hi (hl i hi) hoi'
  · refine .inr ⟨?_, ?_⟩
    · -- the least that has not come up is ready
      have : ∃ i, i < n ∧ listed.getD i true = false ∧ ∀ j, j < i → listed.getD j true = true := by
        apply Classical.byContradiction
        intro hno
        apply hall
        intro i
        induction i using Nat.strongRecOn with
        | _ i ih =>
          intro hi
          cases hl : listed.getD i true with
          | true => rfl
          | false => exact absurd ⟨i, hi, hl, fun j hj => ih j hj (by omega)⟩ hno
      obtain ⟨i, hi, hl, hb⟩ := this
      have hlt : i < ops.size := by omega
      refine ⟨i, mem_ready.2 ⟨hl, _, Array.getElem?_eq_getElem hlt, fun e he hbd => ?_⟩⟩
      have h1 := (regOkB_spec hok i _ (Array.getElem?_eq_getElem hlt)).1 e he hbd
      have h2 := hb e.on h1
      rw [Array.getD_eq_getD_getElem?, Array.getElem?_eq_getElem (by omega : e.on < listed.size)] at h2 ⊢
      exact h2
    · intro i hi
      obtain ⟨h0, o, ho, hw⟩ := mem_ready.1 hi
      have hlt := (Array.getElem?_eq_some_iff.1 ho).1
      have hin : i < n := by
        apply Classical.byContradiction
        intro hge
        apply hall
        intro j hj
        have : listed.getD j false = true := by
          rcases (regOkB_spec hok i o ho).2.1 (by omega) j (by omega) with h | ⟨_, h1⟩
          · exact waits_listed h hw
          · exact reach_listed i8 hw 8 h1
        rw [Array.getD_eq_getD_getElem?, Array.getElem?_eq_getElem (by omega : j < listed.size)] at this ⊢
        exact this
      obtain ⟨_, _, hfr⟩ := regOkB_spec hok i o ho
      obtain ⟨hds, hsel, hfr⟩ := hfr hin
      obtain ⟨lk, S, hlk, hS, hstep⟩ := stepObsR_get hob i o ((hfree i o).2 ⟨hin, ho⟩)
      have hlk' : Lk.getD i [] = lk := by rw [List.getD_eq_getElem?_getD, hlk]; rfl
      -- the act that the obligation speaks of, and the act at hand: alike wherever the operation looks
      have hag : ∀ t, t ∈ o.looksAt ops → (fill a0.tmps (fun t => a.tmps.getD t undef) lk)[t]? = a.tmps[t]? := by
        intro t ht
        by_cases hts : t < a0.tmps.size
        · rw [fill_get _ _ _ hts]
          by_cases hc : lk.contains t = true
          · rw [if_pos hc, Array.getD_eq_getD_getElem?, Array.getElem?_eq_getElem (by rw [i4]; exact hts : t < a.tmps.size)]
            rfl
          · rw [if_neg hc]
            refine (i5 t ?_).symm
            cases hot : outTmp (ops.toList.take n) t with
            | false => rfl
            | true =>
              exfalso
              obtain ⟨j, oj, h1, h2⟩ := (outTmp_iff _ _).1 hot
              obtain ⟨hjn, hoj⟩ := (hfree j oj).1 h1
              have := (hfr j oj t hjn hoj h2).2.1 ht
              rw [hlk'] at this
              exact hc (by simpa using this)
        · rw [Array.getElem?_eq_none (by rw [fill_size]; exact Nat.le_of_not_lt hts), Array.getElem?_eq_none (by rw [i4]; exact Nat.le_of_not_lt hts)]
      have hev : execOp ({ tmps := fill a0.tmps (fun t => a.tmps.getD t undef) lk, defers := a0.defers } : Act).eval o = execOp a.eval o := by
        refine execOp_congr o hsel fun x hx => ?_
        cases x with
        | tmp t =>
          simp only [Act.eval]
          rw [Array.getD_eq_getD_getElem?, Array.getD_eq_getD_getElem?, hag t (List.mem_append_left _ (List.mem_filterMap.2 ⟨.tmp t, by simpa using hx, rfl⟩))]
        | _ => rfl
      have hwt : Region.wanted o (yielded ops (fill a0.tmps (fun t => a.tmps.getD t undef) lk)) = Region.wanted o (yielded ops a.tmps) := by
        unfold Region.wanted
        cases hg : o.guard with
        | none => rfl
        | some gw =>
          obtain ⟨g, want⟩ := gw
          simp only
          congr 1
          unfold yielded
          cases hgd : (ops[g]?).bind (·.dst) with
          | none => rfl
          | some d =>
            simp only [Option.bind_some]
            rw [hag d (List.mem_append_right _ (by simp [hg, hgd]))]
      have hmt : meets (ops.toList.take n) Sp lk (fun t => a.tmps.getD t undef) w' := by
        intro j oj d Sj hj hd hSj hl
        obtain ⟨hjn, hoj⟩ := (hfree j oj).1 hj
        refine i7 j oj d Sj hjn (waits_listed ((hfr j oj d hjn hoj hd).2.2 ?_) hw) hoj hd hSj
        rw [hlk']
        simpa using hl
      rw [Nat.zero_add] at hstep
      have hs1 := hstep (fun t => a.tmps.getD t undef) w' i6.1 hmt
      -- behind it
      have hslot : ∀ (v : Value) (j : Nat) (oj : Oper) (d : Nat), i ≠ j → j < n → ops[j]? = some oj → oj.dst = some d → (a.put o.dst v).tmps.getD d undef = a.tmps.getD d undef := by
        intro v j oj d e hj hoj hd
        cases hd' : o.dst with
        | none => rfl
        | some d' =>
          have hne : d' ≠ d := by
            intro e'
            subst e'
            exact (hfr j oj d' hj hoj hd).1 e hd'
          simp only [Act.put]
          rw [Array.getD_eq_getD_getElem?, Array.getD_eq_getD_getElem?, Array.getElem?_setIfInBounds_ne hne]
      have hself : ∀ (v : Value) (d : Nat), o.dst = some d → (a.put o.dst v).tmps.getD d undef = v := by
        intro v d hd
        have hdl := hds d hd
        simp only [hd, Act.put]
        rw [Array.getD_eq_getD_getElem?, Array.getElem?_setIfInBounds_self_of_lt (by rw [i4]; exact hdl)]
        rfl
      have hold : ∀ (j : Nat), i ≠ j → (listed.setIfInBounds i true).getD j false = true → listed.getD j false = true := by
        intro j e hl
        rw [Array.getD_eq_getD_getElem?, Array.getElem?_setIfInBounds_ne e, ← Array.getD_eq_getD_getElem?] at hl
        exact hl
      have keep : ∀ (v : Value) (w'' : World), S v w'' → (R i w' w'' ∧ J w'' ∧ w'.heap.size ≤ w''.heap.size) → freshIf o.op v w' w'' → I (listed.setIfInBounds i true) (a.put o.dst v) w'' := by
        intro v w'' hSv hb hfresh
        refine ⟨by simpa using i1, fun j hj hjs => ?_, ?_, ?_, fun t ht => ?_, ⟨hb.2.1, Nat.le_trans i6.2 hb.2.2⟩, fun j oj hl hoj q hq => ?_, ?_, ?_, ?_⟩
        · rw [Array.getD_eq_getD_getElem?, Array.getElem?_setIfInBounds_ne (by omega), ← Array.getD_eq_getD_getElem?]
          exact i2 j hj hjs
        · cases o.dst <;> exact i3
        · cases o.dst <;> simp [Act.put, i4]
        · cases hd : o.dst with
          | none => exact i5 t ht
          | some d =>
            have hne : d ≠ t := by
              intro e
              subst e
              have := (outTmp_iff (ops.toList.take n) d).2 ⟨i, o, (hfree i o).2 ⟨hin, ho⟩, hd⟩
              rw [this] at ht
              cases ht
            simp only [Act.put]
            rw [Array.getElem?_setIfInBounds_ne hne]
            exact i5 t ht
        · by_cases e : i = j
          · subst e
            rw [ho] at hoj
            cases hoj
            exact getD_set_true (waits_listed hq hw)
          · rw [Array.getD_eq_getD_getElem?, Array.getElem?_setIfInBounds_ne e, ← Array.getD_eq_getD_getElem?] at hl
            exact getD_set_true (i8 j oj hl hoj q hq)
        · intro j k oj ok dj dk hj hk hne hlj hlk hoj hok hdj hdk hnj hnk b hbj hbk
          by_cases e1 : i = j
          · subst e1
            rw [ho] at hoj; cases hoj
            rw [hself v dj hdj] at hbj
            rw [hslot v k ok dk hne hk hok hdk] at hbk
            have h1 := freshIf_new hnj hfresh b hbj
            have h2 := i10 k ok dk hk (hold k hne hlk) hok hdk hnk b hbk
            omega
          · by_cases e2 : i = k
            · subst e2
              rw [ho] at hok; cases hok
              rw [hself v dk hdk] at hbk
              rw [hslot v j oj dj e1 hj hoj hdj] at hbj
              have h1 := freshIf_new hnk hfresh b hbk
              have h2 := i10 j oj dj hj (hold j e1 hlj) hoj hdj hnj b hbj
              omega
            · rw [hslot v j oj dj e1 hj hoj hdj] at hbj
              rw [hslot v k ok dk e2 hk hok hdk] at hbk
              exact i9 j k oj ok dj dk hj hk hne (hold j e1 hlj) (hold k e2 hlk) hoj hok hdj hdk hnj hnk b hbj hbk
        · intro j oj dj hj hlj hoj hdj hnj b hbj
          by_cases e1 : i = j
          · subst e1
            rw [ho] at hoj; cases hoj
            rw [hself v dj hdj] at hbj
            have h1 := freshIf_new hnj hfresh b hbj
            exact ⟨Nat.le_trans i6.2 h1.1, h1.2⟩
          · rw [hslot v j oj dj e1 hj hoj hdj] at hbj
            have h2 := i10 j oj dj hj (hold j e1 hlj) hoj hdj hnj b hbj
            exact ⟨h2.1, Nat.lt_of_lt_of_le h2.2 hb.2.2⟩
        · intro j oj d Sj hj hl hoj hd hSj
          by_cases e : i = j
          · subst e
            rw [ho] at hoj
            cases hoj
            rw [hS] at hSj
            cases hSj
            have hdl := hds d hd
            simp only [hd, Act.put]
            rw [Array.getD_eq_getD_getElem?, Array.getElem?_setIfInBounds_self_of_lt (by rw [i4]; exact hdl)]
            exact hSv
          · have hl' : listed.getD j false = true := by
              rw [Array.getD_eq_getD_getElem?, Array.getElem?_setIfInBounds_ne e, ← Array.getD_eq_getD_getElem?] at hl
              exact hl
            have h1 := i7 j oj d Sj hj hl' hoj hd hSj
            have h2 : (a.put o.dst v).tmps.getD d undef = a.tmps.getD d undef := by
              cases hd' : o.dst with
              | none => rfl
              | some d' =>
                have hne : d' ≠ d := by
                  intro e'
                  subst e'
                  exact (hfr j oj d' hj hoj hd).1 e hd'
                simp only [Act.put]
                rw [Array.getD_eq_getD_getElem?, Array.getD_eq_getD_getElem?, Array.getElem?_setIfInBounds_ne hne]
            rw [h2]
            exact hst i j Sj e hSj _ _ _ h1 hb.1
      unfold wpList at hs1
      simp only [hwt] at hs1
      unfold wpOp
      rw [ho]
      simp only
      -- a value in the slot of the one act is the same value in the slot of the other
      have same : ∀ (v : Value) (w'' : World), (∃ u, (({ tmps := fill a0.tmps (fun t => a.tmps.getD t undef) lk, defers := a0.defers } : Act).put o.dst v) = (({ tmps := fill a0.tmps (fun t => a.tmps.getD t undef) lk, defers := a0.defers } : Act).put o.dst u) ∧ S u w'' ∧ (R i w' w'' ∧ J w'' ∧ w'.heap.size ≤ w''.heap.size) ∧ freshIf o.op u w' w'') → I (listed.setIfInBounds i true) (a.put o.dst v) w'' := by
        rintro v w'' ⟨u, hu, h1, h2, h4⟩
        cases hd : o.dst with
        | none => have := keep u w'' h1 h2 h4; rw [hd] at this; exact this
        | some d =>
          have hv : v = u := by
            rw [hd] at hu
            have h3 := congrArg (fun (a : Act) => a.tmps[d]?) hu
            simp only [Act.put] at h3
            have hdl : d < (fill a0.tmps (fun t => a.tmps.getD t undef) lk).size := by rw [fill_size]; exact hds d hd
            rw [Array.getElem?_setIfInBounds_self_of_lt hdl, Array.getElem?_setIfInBounds_self_of_lt hdl] at h3
            exact Option.some.inj h3
          subst hv
          have := keep v w'' h1 h2 h4
          rw [hd] at this
          exact this
      split
      · rename_i hr
        rw [if_pos hr] at hs1
        refine .inl ?_
        rcases hs1 with hs1 | ⟨_, a1, w1, h1⟩
        case inr => exact h1.elim
        unfold Oper.wp at hs1 ⊢
        rw [hev] at hs1
        generalize (execOp a.eval o).run P w' = r at hs1 ⊢
        cases r with
        | ok nx w'' =>
          cases nx with
          | value v => exact same v w'' hs1
          | skip => exact same undef w'' hs1
          | defer d =>
            exfalso
            obtain ⟨v, hv, _⟩ := hs1
            have h3 := congrArg (fun (a : Act) => a.defers) hv
            cases hd : o.dst <;> rw [hd] at h3 <;> exact List.cons_ne_self _ _ h3
          | enter f args =>
            refine Calls.mono hs1 ?_
            rintro e w3 h3
            cases e with
            | returned v => exact same v w3 h3
            | panicked c => exact h3.elim
            | outgrown =>
              obtain ⟨_, _, h4⟩ := h3
              exact h4.elim
          | row r args => exact Rows.mono hs1 fun v w3 h3 => same v w3 h3
          | _ => exact hs1.elim
        | halt x w'' => cases x <;> exact hs1.elim
      · rename_i hr
        rw [if_neg hr] at hs1
        exact same undef w' hs1
/-- THE RULE with relations, at a region that draws its order. -/
theorem wp_region_rel {id : Nat} {a0 : Act} {w : World} (hm : P.follows .mixedOrders = true) (J : World → Prop) (R : Nat → World → World → Prop) (hJ : J w.drew) (n : Nat) (Lk : List (List Nat)) (Sp : List Word)
    (hn : n ≤ ops.size) (hok : regOkB ops n a0.tmps.size Lk = true) (hst : ∀ (i j : Nat) (S : Word), i ≠ j → Sp[j]? = some S → ∀ v u u', S v u → R i u u' → S v u')
    (hob : stepObsR P ops (ops.toList.take n) Sp a0 J R 0 (ops.toList.take n) Lk Sp)
    (hend : ∀ (vs : Nat → Value) (w' : World), J w' → w.heap.size ≤ w'.heap.size →
      (∀ (i : Nat) (o : Oper) (d : Nat) (S : Word), (ops.toList.take n)[i]? = some o → o.dst = some d → Sp[i]? = some S → S (vs d) w') →
      (∀ (i j : Nat) (oi oj : Oper) (di dj : Nat), i ≠ j → (ops.toList.take n)[i]? = some oi → (ops.toList.take n)[j]? = some oj → oi.dst = some di → oj.dst = some dj → isNew oi.op = true → isNew oj.op = true → ∀ b, addrOf (vs di) = some b → addrOf (vs dj) ≠ some b) →
      (∀ (i : Nat) (oi : Oper) (di : Nat), (ops.toList.take n)[i]? = some oi → oi.dst = some di → isNew oi.op = true → ∀ b, addrOf (vs di) = some b → w.heap.size ≤ b ∧ b < w'.heap.size) →
      wpList P ops Q (ops.toList.drop n) { tmps := fill a0.tmps vs ((ops.toList.take n).filterMap (·.dst)), defers := a0.defers } w') :
    (Code.region id ops true).wp P Q a0 w :=
  wp_region_any hm (wpAny_rel J R hJ (Nat.le_refl _) n Lk Sp hn hok hst hob hend)

theorem wpList_one_mono {Q Q' : Exit → Act → World → Prop} {o : Oper} {a : Act} {w : World} (hQ : ∀ e a w, Q e a w → Q' e a w) (h : wpList P ops Q [o] a w) : wpList P ops Q' [o] a w := by
  unfold wpList at h ⊢
  split
  · rename_i hw
    rw [if_pos hw] at h
    rcases h with h | ⟨h1, a1, w1, h2⟩
    · refine .inl ?_
      unfold Oper.wp at h ⊢
      generalize (execOp a.eval o).run P w = r at h ⊢
      cases r with
      | ok nx w'' =>
        cases nx with
        | value v => exact hQ _ _ _ h
        | skip => exact hQ _ _ _ h
        | defer d => exact hQ _ _ _ h
        | enter f args =>
          refine Calls.mono h ?_
          rintro e w3 h3
          cases e with
          | returned v => exact hQ _ _ _ h3
          | panicked c => exact hQ _ _ _ h3
          | outgrown =>
            obtain ⟨a1, w1, h4⟩ := h3
            exact ⟨a1, w1, hQ _ _ _ h4⟩
        | row r args => exact Rows.mono h fun v w3 h3 => hQ _ _ _ h3
        | _ => exact h.elim
      | halt x w'' => cases x <;> first | exact h.elim | exact hQ _ _ _ h
    · exact .inr ⟨h1, a1, w1, hQ _ _ _ h2⟩
  · rename_i hw
    rw [if_neg hw] at h
    exact hQ _ _ _ h
theorem stepObs_rel {a0 : Act} {w : World} {free : List Oper} {Sp : List Word} : ∀ (k : Nat) (os : List Oper) (ls : List (List Nat)) (Ss : List Word), stepObs P ops free Sp a0 w os ls Ss →
    stepObsR P ops free Sp a0 (fun u => Below w.heap.size w u) (fun _ u u' => Below u.heap.size u u') k os ls Ss
  | _, [], _, [], _ => trivial
  | k, o :: os, l :: ls, S :: Ss, h => by
    refine ⟨fun vs u hu hm => ?_, stepObs_rel (k + 1) os ls Ss h.2⟩
    refine wpList_one_mono (fun e a' w' h' => ?_) (h.1 vs u hu hm)
    cases e <;> first
      | exact h'.elim
      | (obtain ⟨v, h1, h2, h3, h4⟩ := h'
         exact ⟨v, h1, h2, ⟨h3, hu.trans (h3.mono hu.size), h3.size⟩, h4⟩)
  | _, [], _, _ :: _, h => h.elim
  | _, _ :: _, [], _, h => h.elim
  | _, _ :: _, _ :: _, [], h => h.elim
/-- THE RULE as wp_region_words, with chains of any length. -/
theorem wp_region_wordsB {id : Nat} {a0 : Act} {w : World} (hm : P.follows .mixedOrders = true) (n : Nat) (Lk : List (List Nat)) (Sp : List Word)
    (hn : n ≤ ops.size) (hok : regOkB ops n a0.tmps.size Lk = true) (hst : stable Sp)
    (hob : stepObs P ops (ops.toList.take n) Sp a0 w (ops.toList.take n) Lk Sp)
    (hend : ∀ (vs : Nat → Value) (w' : World), Below w.heap.size w w' →
      (∀ (i : Nat) (o : Oper) (d : Nat) (S : Word), (ops.toList.take n)[i]? = some o → o.dst = some d → Sp[i]? = some S → S (vs d) w') →
      (∀ (i j : Nat) (oi oj : Oper) (di dj : Nat), i ≠ j → (ops.toList.take n)[i]? = some oi → (ops.toList.take n)[j]? = some oj → oi.dst = some di → oj.dst = some dj → isNew oi.op = true → isNew oj.op = true → ∀ b, addrOf (vs di) = some b → addrOf (vs dj) ≠ some b) →
      (∀ (i : Nat) (oi : Oper) (di : Nat), (ops.toList.take n)[i]? = some oi → oi.dst = some di → isNew oi.op = true → ∀ b, addrOf (vs di) = some b → w.heap.size ≤ b ∧ b < w'.heap.size) →
      wpList P ops Q (ops.toList.drop n) { tmps := fill a0.tmps vs ((ops.toList.take n).filterMap (·.dst)), defers := a0.defers } w') :
    (Code.region id ops true).wp P Q a0 w :=
  wp_region_rel hm (fun u => Below w.heap.size w u) (fun _ u u' => Below u.heap.size u u') (Below.refl _ _).drew n Lk Sp hn hok
    (fun i j S _ hS v u u' h hb => stable_mem hst S (List.mem_of_getElem? hS) v u u' h hb) (stepObs_rel 0 _ _ _ hob)
    (fun vs w' hJ _ => hend vs w' hJ)
end
end Go.Proofs.Ytnpofcnibgdjhaa
