/- A region that draws its order, each of whose operations leaves what was there alone: whatever the order, each operation's value meets its own word. No condition. -/
import Derived.WalkKit
import Derived.Orders
import Derived.Test.YtnpofcnibgdjhaaRow
namespace Go.Proofs.Ytnpofcnibgdjhaa
open Go.RowKit

/-- What is said of an operation's value, and of the world behind it. -/
abbrev Word := Value → World → Prop

/-- Is the slot written by one of these operations? -/
def outTmp (ops : List Oper) (t : Nat) : Bool := ops.any fun o => o.dst == some t

def fill (tmps : Array Value) (vs : Nat → Value) : List Nat → Array Value
  | [] => tmps
  | d :: ds => (fill tmps vs ds).setIfInBounds d (vs d)

/-- What is known of the slots that an operation looks at. -/
def meets (ops : List Oper) (Sp : List Word) (look : List Nat) (vs : Nat → Value) (w : World) : Prop :=
  ∀ (i : Nat) (o : Oper) (d : Nat) (S : Word), ops[i]? = some o → o.dst = some d → Sp[i]? = some S → look.contains d = true → S (vs d) w

theorem meets_get {ops : List Oper} {Sp : List Word} {look : List Nat} {vs : Nat → Value} {w : World} (h : meets ops Sp look vs w) (i : Nat) {o : Oper} {d : Nat} {S : Word}
    (ho : ops[i]? = some o) (hd : o.dst = some d) (hS : Sp[i]? = some S) (hl : look.contains d = true) : S (vs d) w := h i o d S ho hd hS hl

/-- The block that a value points to. -/
def addrOf : Value → Option Nat
  | .pointer (some a) => some a.block
  | .slice (some a) _ _ => some a.block
  | _ => none

/-- Does the operation make a block, and hand back where it lies? -/
def isNew : Op → Bool
  | .alloc _ => true
  | .box _ _ => true
  | .buildSlice _ _ _ => true
  | _ => false

/-- Of such an operation: the block is a new one. -/
def freshIf (op : Op) (v : Value) (w w' : World) : Prop :=
  match op with
  | .alloc _ => ∀ b, addrOf v = some b → w.heap.size ≤ b ∧ b < w'.heap.size
  | .box _ _ => ∀ b, addrOf v = some b → w.heap.size ≤ b ∧ b < w'.heap.size
  | .buildSlice _ _ _ => ∀ b, addrOf v = some b → w.heap.size ≤ b ∧ b < w'.heap.size
  | _ => True
theorem freshIf_new {op : Op} {v : Value} {w w' : World} (hn : isNew op = true) (h : freshIf op v w w') : ∀ b, addrOf v = some b → w.heap.size ≤ b ∧ b < w'.heap.size := by
  cases op <;> first | exact h | cases hn
theorem freshIf_none {op : Op} {v : Value} {w w' : World} (h : addrOf v = none) : freshIf op v w w' := by
  cases op <;> first | trivial | (intro b hb; rw [h] at hb; cases hb)

/-- The end of one operation: its slot holds a value that meets its word; what was there lies as it lay. -/
def OpEnd (dst : Option Tmp) (op : Op) (a : Act) (w : World) (S : Word) : Exit → Act → World → Prop
  | .normal, a', w' => ∃ v, a' = a.put dst v ∧ S v w' ∧ Below w.heap.size w w' ∧ freshIf op v w w'
  | _, _, _ => False

def stepOb (P : Program) (ops : Array Oper) (free : List Oper) (Sp : List Word) (a0 : Act) (w0 : World) (o : Oper) (look : List Nat) (S : Word) : Prop :=
  ∀ (vs : Nat → Value) (w : World), Below w0.heap.size w0 w → meets free Sp look vs w →
    wpList P ops (OpEnd o.dst o.op { tmps := fill a0.tmps vs look, defers := a0.defers } w S) [o] { tmps := fill a0.tmps vs look, defers := a0.defers } w

/-- All obligations, one behind the other. -/
def stepObs (P : Program) (ops : Array Oper) (free : List Oper) (Sp : List Word) (a0 : Act) (w0 : World) : List Oper → List (List Nat) → List Word → Prop
  | [], _, [] => True
  | o :: os, l :: ls, S :: Ss => stepOb P ops free Sp a0 w0 o l S ∧ stepObs P ops free Sp a0 w0 os ls Ss
  | _, _, _ => False

theorem stepObs_get {P : Program} {ops : Array Oper} {free : List Oper} {Sp : List Word} {a0 : Act} {w0 : World} : ∀ {os : List Oper} {ls : List (List Nat)} {Ss : List Word}, stepObs P ops free Sp a0 w0 os ls Ss →
    ∀ (i : Nat) (o : Oper), os[i]? = some o → ∃ l S, ls[i]? = some l ∧ Ss[i]? = some S ∧ stepOb P ops free Sp a0 w0 o l S
  | [], _, [], h, i, o, ho => by simp at ho
  | o :: os, l :: ls, S :: Ss, h, 0, o', ho => by
    simp at ho; subst ho
    exact ⟨l, S, rfl, rfl, h.1⟩
  | o :: os, l :: ls, S :: Ss, h, i + 1, o', ho => by
    simp at ho
    obtain ⟨l', S', h0, h1, h2⟩ := stepObs_get h.2 i o' ho
    exact ⟨l', S', by simpa using h0, by simpa using h1, h2⟩
  | [], _, _ :: _, h, _, _, _ => h.elim
  | _ :: _, [], _, h, _, _, _ => h.elim
  | _ :: _, _ :: _, [], h, _, _, _ => h.elim

def stab (S : Word) : Prop := ∀ v w w', S v w → Below w.heap.size w w' → S v w'
def stable : List Word → Prop
  | [] => True
  | S :: Ss => stab S ∧ stable Ss
theorem stable_mem : ∀ {Sp : List Word}, stable Sp → ∀ S, S ∈ Sp → stab S
  | [], _, S, h => by cases h
  | T :: Sp, h, S, hS => by
    rcases List.mem_cons.1 hS with e | e
    · rw [e]; exact h.1
    · exact stable_mem h.2 S e
/-- The word 'it is x'. -/
def isV (x : Value) : Word := fun v _ => v = x
theorem stab_isV (x : Value) : stab (isV x) := fun _ _ _ h _ => h
/-- The word 'a variable of its own, which holds cs'. -/
def isVar (T : Nat) (cs : Array Value) : Word := fun v w => ∃ b, v = .pointer (some ⟨b, 0, none⟩) ∧ look w b = some (.cells cs T (0, 0))
theorem stab_isVar (T : Nat) (cs : Array Value) : stab (isVar T cs) := fun _ _ _ ⟨b, h1, h2⟩ hb => ⟨b, h1, by rw [look_below hb (look_lt h2)]; exact h2⟩
/-- The word 'a slice of a block of its own, which holds cs'. -/
def isRow (T n : Nat) (cs : Array Value) : Word := fun v w => ∃ b, v = .slice (some ⟨b, 0, none⟩) n n ∧ look w b = some (.cells cs T (0, 0))
theorem stab_isRow (T n : Nat) (cs : Array Value) : stab (isRow T n cs) := fun _ _ _ ⟨b, h1, h2⟩ hb => ⟨b, h1, by rw [look_below hb (look_lt h2)]; exact h2⟩

def waits (o : Oper) (j : Nat) : Bool := o.after.any fun e => e.on == j && Region.binds .any e

/-- The text's own form: the first n operations are free (each writes a slot of its own, and waits for whom it looks at); the others wait for all ahead of them. -/
def regOk (ops : Array Oper) (n size : Nat) (Lk : List (List Nat)) : Bool :=
  (List.range ops.size).all fun i => match ops[i]? with
    | none => true
    | some o => (o.after.all fun e => !Region.binds .any e || decide (e.on < i)) &&
      (decide (i < n) || (List.range i).all fun j => waits o j || (decide (j < n) && (List.range i).any fun k => waits o k && (match ops[k]? with | some ok => waits ok j | none => false))) &&
      (decide (n ≤ i) || ((match o.dst with | some d => decide (d < size) | none => true) && (match o.op with | .select .. => false | _ => true) &&
        (List.range n).all fun j => match ops[j]? with
          | none => true
          | some oj => match oj.dst with
            | none => true
            | some d => (i == j || o.dst != some d) && (!(o.looksAt ops).contains d || (Lk.getD i []).contains d) && (!(Lk.getD i []).contains d || waits o j)))

theorem fill_size (tmps : Array Value) (vs : Nat → Value) : ∀ ds, (fill tmps vs ds).size = tmps.size
  | [] => rfl
  | d :: ds => by simp [fill, fill_size tmps vs ds]

theorem fill_get (tmps : Array Value) (vs : Nat → Value) (t : Nat) (ht : t < tmps.size) : ∀ ds, (fill tmps vs ds)[t]? = if ds.contains t = true then some (vs t) else tmps[t]?
  | [] => by simp [fill]
  | d :: ds => by
    rw [fill, Array.getElem?_setIfInBounds, fill_size, fill_get tmps vs t ht ds]
    by_cases e : d = t
    · subst e; simp [ht]
    · have e' : t ≠ d := fun h => e h.symm
      simp [e, e']

section
variable {P : Program} {ops : Array Oper} {Q : Exit → Act → World → Prop}

/-- The general form: an invariant over the operations that have come up, till it hands over. -/
theorem wpAny_inv (I : Array Bool → Act → World → Prop)
    (hs : ∀ listed a w, I listed a w → listed.size = ops.size)
    (hstep : ∀ listed a w, I listed a w → wpAny P .any ops Q (listed.count false) listed a w ∨
      ((∃ i, i ∈ Region.ready .any ops listed) ∧ ∀ i, i ∈ Region.ready .any ops listed → wpOp P ops Q i (fun a' w' => I (listed.setIfInBounds i true) a' w') a w)) :
    ∀ (k : Nat) (listed : Array Bool) (a : Act) (w : World), listed.count false = k → I listed a w → wpAny P .any ops Q k listed a w := by
  intro k
  induction k with
  | zero =>
    intro listed a w hk hI
    rcases hstep listed a w hI with h | ⟨⟨i, hi⟩, _⟩
    · rw [hk] at h; exact h
    · obtain ⟨h0, o, ho, _⟩ := mem_ready.1 hi
      have hlt : i < listed.size := by
        rw [hs _ _ _ hI]
        exact (Array.getElem?_eq_some_iff.1 ho).1
      have hm : false ∈ listed := by
        rw [Array.getD_eq_getD_getElem?, Array.getElem?_eq_getElem hlt] at h0
        simp at h0
        rw [← h0]
        exact Array.getElem_mem hlt
      have := Array.count_pos_iff.2 hm
      omega
  | succ k ih =>
    intro listed a w hk hI
    rcases hstep listed a w hI with h | ⟨⟨i0, hi0⟩, h⟩
    · rw [hk] at h; exact h
    · refine ⟨fun hr => (by rw [hr] at hi0; cases hi0), fun i hi => ?_⟩
      refine wpOp_mono (fun a' w' h => ?_) (h i hi)
      refine ih _ _ _ ?_ h
      obtain ⟨h0, o, ho, _⟩ := mem_ready.1 hi
      have hlt : i < listed.size := by
        rw [hs _ _ _ hI]
        exact (Array.getElem?_eq_some_iff.1 ho).1
      rw [Array.getD_eq_getD_getElem?, Array.getElem?_eq_getElem hlt] at h0
      simp at h0
      rw [Array.setIfInBounds, dif_pos hlt, Array.count_set]
      simp [h0, hk]

/-- What is forced: each operation that is left waits for all ahead of it. -/
theorem wpAny_tail : ∀ (m : Nat) (listed : Array Bool) (a : Act) (w : World), listed.size = ops.size → m ≤ ops.size →
    (∀ i, i < ops.size → listed.getD i true = decide (i < ops.size - m)) →
    (∀ i o j, ops.size - m ≤ j → ops[i]? = some o → j < i → waits o j = true) →
    (∀ i o, ops[i]? = some o → ∀ e, e ∈ o.after → Region.binds .any e = true → e.on < i) →
    wpList P ops Q (ops.toList.drop (ops.size - m)) a w → wpAny P .any ops Q m listed a w
  | 0, listed, a, w, hsz, hm, hl, hw, he, h => by
    have hd : ops.toList.drop (ops.size - 0) = [] := by simp
    rw [hd] at h
    refine ⟨?_, h⟩
    cases hc : Region.ready .any ops listed with
    | nil => rfl
    | cons j js =>
      have hj : j ∈ Region.ready .any ops listed := by rw [hc]; simp
      obtain ⟨h0, o, ho, _⟩ := mem_ready.1 hj
      have hlt := (Array.getElem?_eq_some_iff.1 ho).1
      rw [hl j hlt] at h0
      simp at h0
      omega
  | m + 1, listed, a, w, hsz, hm, hl, hw, he, h => by
    have hn : ops.size - (m + 1) < ops.size := by omega
    have hd : ops.toList.drop (ops.size - (m + 1)) = ops[ops.size - (m + 1)] :: ops.toList.drop (ops.size - m) := by
      rw [List.drop_eq_getElem_cons (by simpa using hn)]
      simp only [Array.getElem_toList]
      congr 2
      omega
    have hon : ops[ops.size - (m + 1)]? = some ops[ops.size - (m + 1)] := Array.getElem?_eq_getElem hn
    rw [hd] at h
    have hone : ∀ i, i ∈ Region.ready .any ops listed → i = ops.size - (m + 1) := by
      intro i hi
      obtain ⟨h0, o, ho, hall⟩ := mem_ready.1 hi
      have hlt := (Array.getElem?_eq_some_iff.1 ho).1
      rw [hl i hlt] at h0
      simp at h0
      by_cases e : i = ops.size - (m + 1)
      · exact e
      · exfalso
        have hj : ops.size - (m + 1) < i := by omega
        have := hw i o (ops.size - (m + 1)) (Nat.le_refl _) ho hj
        unfold waits at this
        rw [Array.any_eq_true'] at this
        obtain ⟨ed, hed, hb⟩ := this
        simp only [Bool.and_eq_true, beq_iff_eq] at hb
        have h2 := hall ed hed hb.2
        rw [hb.1] at h2
        have h3 := hl (ops.size - (m + 1)) hn
        simp at h3
        have hq : ops.size - (m + 1) < listed.size := by omega
        simp only [Array.getD_eq_getD_getElem?, Array.getElem?_eq_getElem hq, Option.getD_some] at h2 h3
        rw [h2] at h3
        cases h3
    have hmem : ops.size - (m + 1) ∈ Region.ready .any ops listed := by
      refine mem_ready.2 ⟨?_, _, hon, ?_⟩
      · rw [hl _ hn]; simp
      · intro ed hed hb
        have h1 := he _ _ hon ed hed hb
        have h2 := hl ed.on (by omega)
        have h3 : decide (ed.on < ops.size - (m + 1)) = true := by simpa using h1
        rw [h3] at h2
        rw [Array.getD_eq_getD_getElem?, Array.getElem?_eq_getElem (by omega : ed.on < listed.size)] at h2 ⊢
        simpa using h2
    refine ⟨fun hr => (by rw [hr] at hmem; cases hmem), fun i hi => ?_⟩
    obtain rfl := hone i hi
    unfold wpOp
    rw [hon]
    unfold wpList at h
    have key : ∀ a' w', wpList P ops Q (ops.toList.drop (ops.size - m)) a' w' → wpAny P .any ops Q m (listed.setIfInBounds (ops.size - (m + 1)) true) a' w' := by
      intro a' w' h'
      refine wpAny_tail m _ a' w' (by simpa using hsz) (by omega) ?_ (fun i o j hj => hw i o j (by omega)) he h'
      intro i hi
      by_cases e : ops.size - (m + 1) = i
      · subst e
        rw [Array.getD_eq_getD_getElem?, Array.getElem?_setIfInBounds_self_of_lt (by omega)]
        simp
        omega
      · rw [Array.getD_eq_getD_getElem?, Array.getElem?_setIfInBounds_ne e, ← Array.getD_eq_getD_getElem?, hl i hi]
        have : (i < ops.size - (m + 1)) ↔ (i < ops.size - m) := by omega
        simp [this]
    simp only
    split
    · rename_i hwt
      rw [if_pos hwt] at h
      exact h.imp (Oper.wp_mono key) id
    · rename_i hwt
      rw [if_neg hwt] at h
      exact key _ _ h

theorem regOk_spec {n size : Nat} {Lk : List (List Nat)} (h : regOk ops n size Lk = true) (i : Nat) (o : Oper) (ho : ops[i]? = some o) :
    (∀ e, e ∈ o.after → Region.binds .any e = true → e.on < i) ∧ (n ≤ i → ∀ j, j < i → waits o j = true ∨ (j < n ∧ ∃ k ok, waits o k = true ∧ ops[k]? = some ok ∧ waits ok j = true)) ∧
    (i < n → (∀ d, o.dst = some d → d < size) ∧ (∀ cs b, o.op ≠ .select cs b) ∧ ∀ j oj d, j < n → ops[j]? = some oj → oj.dst = some d → (i ≠ j → o.dst ≠ some d) ∧ (d ∈ o.looksAt ops → d ∈ Lk.getD i []) ∧ (d ∈ Lk.getD i [] → waits o j = true)) := by
  have hlt := (Array.getElem?_eq_some_iff.1 ho).1
  have h1 := List.all_eq_true.1 h i (by simpa using hlt)
  rw [ho] at h1
  simp only [Bool.and_eq_true, Bool.or_eq_true, decide_eq_true_eq] at h1
  obtain ⟨⟨h2, h3⟩, h4⟩ := h1
  refine ⟨fun e he hb => ?_, fun hn j hj => ?_, fun hn => ⟨fun d hd => ?_, fun cs b hsel => ?_, fun j oj d hj hoj hd => ?_⟩⟩
  · rw [Array.all_eq_true_iff_forall_mem] at h2
    have := h2 e he
    simpa [hb] using this
  · rcases h3 with h3 | h3
    · omega
    · have h5 := List.all_eq_true.1 h3 j (by simpa using hj)
      simp only [Bool.or_eq_true, Bool.and_eq_true, decide_eq_true_eq] at h5
      rcases h5 with h5 | ⟨h5, h6⟩
      · exact .inl h5
      · right
        obtain ⟨k, _, hk⟩ := List.any_eq_true.1 h6
        rw [Bool.and_eq_true] at hk
        cases hok : ops[k]? with
        | none => rw [hok] at hk; exact absurd hk.2 (by simp)
        | some ok => rw [hok] at hk; exact ⟨h5, k, ok, hk.1, hok, hk.2⟩
  · rcases h4 with h4 | h4
    · omega
    · have := h4.1.1
      rw [hd] at this
      simpa using this
  · rcases h4 with h4 | h4
    · omega
    · have := h4.1.2
      rw [hsel] at this
      simp at this
  · rcases h4 with h4 | h4
    · omega
    · have := List.all_eq_true.1 h4.2 j (by simpa using hj)
      rw [hoj] at this
      simp only [hd, Bool.and_eq_true, Bool.or_eq_true, beq_iff_eq, bne_iff_ne, Bool.not_eq_true', List.contains_eq_mem, decide_eq_false_iff_not, decide_eq_true_eq] at this
      refine ⟨fun hne => ?_, fun hm => ?_, fun hm => ?_⟩
      · rcases this.1.1 with e | e
        · exact absurd e hne
        · exact e
      · rcases this.1.2 with e | e
        · exact absurd hm e
        · exact e
      · rcases this.2 with e | e
        · exact absurd hm e
        · exact e

theorem waits_listed {o : Oper} {j : Nat} {listed : Array Bool} (h : waits o j = true) (hall : ∀ e ∈ o.after, Region.binds .any e = true → listed.getD e.on false = true) : listed.getD j false = true := by
  unfold waits at h
  rw [Array.any_eq_true'] at h
  obtain ⟨e, he, hb⟩ := h
  simp only [Bool.and_eq_true, beq_iff_eq] at hb
  rw [← hb.1]
  exact hall e he hb.2

theorem outTmp_iff (l : List Oper) (t : Nat) : outTmp l t = true ↔ ∃ (i : Nat) (o : Oper), l[i]? = some o ∧ o.dst = some t := by
  unfold outTmp
  rw [List.any_eq_true]
  constructor
  · rintro ⟨o, ho, hd⟩
    obtain ⟨i, hi, he⟩ := List.mem_iff_getElem.1 ho
    exact ⟨i, o, by rw [List.getElem?_eq_getElem hi, he], by simpa using hd⟩
  · rintro ⟨i, o, ho, hd⟩
    exact ⟨o, List.mem_of_getElem? ho, by simpa using hd⟩

/-- The text's own order is one of those that the edges allow. -/
theorem wpAny_text : ∀ (m : Nat) (listed : Array Bool) (a : Act) (w : World), listed.size = ops.size → m ≤ ops.size →
    (∀ i, i < ops.size → listed.getD i true = decide (i < ops.size - m)) →
    (∀ i o, ops[i]? = some o → ∀ e, e ∈ o.after → Region.binds .any e = true → e.on < i) →
    wpAny P .any ops Q m listed a w → wpOps P ops Q (List.range' (ops.size - m) m) a w
  | 0, listed, a, w, hsz, hm, hl, he, h => by
    simp only [List.range'_zero, wpOps]
    exact h.2
  | m + 1, listed, a, w, hsz, hm, hl, he, h => by
    have hn : ops.size - (m + 1) < ops.size := by omega
    have hon : ops[ops.size - (m + 1)]? = some ops[ops.size - (m + 1)] := Array.getElem?_eq_getElem hn
    have hmem : ops.size - (m + 1) ∈ Region.ready .any ops listed := by
      refine mem_ready.2 ⟨?_, _, hon, ?_⟩
      · rw [hl _ hn]; simp
      · intro ed hed hb
        have h1 := he _ _ hon ed hed hb
        have h2 := hl ed.on (by omega)
        have h3 : decide (ed.on < ops.size - (m + 1)) = true := by simpa using h1
        rw [h3] at h2
        rw [Array.getD_eq_getD_getElem?, Array.getElem?_eq_getElem (by omega : ed.on < listed.size)] at h2 ⊢
        simpa using h2
    rw [List.range'_succ, wpOps_cons]
    refine wpOp_mono (fun a' w' h' => ?_) (h.2 _ hmem)
    have e : ops.size - (m + 1) + 1 = ops.size - m := by omega
    rw [e]
    refine wpAny_text m _ a' w' (by simpa using hsz) (by omega) ?_ he h'
    intro i hi
    by_cases e : ops.size - (m + 1) = i
    · subst e
      rw [Array.getD_eq_getD_getElem?, Array.getElem?_setIfInBounds_self_of_lt (by omega)]
      simp
      omega
    · rw [Array.getD_eq_getD_getElem?, Array.getElem?_setIfInBounds_ne e, ← Array.getD_eq_getD_getElem?, hl i hi]
      have : (i < ops.size - (m + 1)) ↔ (i < ops.size - m) := by omega
      simp [this]

/-- THE RULE, at the orders' own level: begun in w itself, or in w behind a draw. -/
theorem wpAny_words {a0 : Act} {w wb : World} (hwb : Below w.heap.size w wb) (n : Nat) (Lk : List (List Nat)) (Sp : List Word)
    (hn : n ≤ ops.size) (hok : regOk ops n a0.tmps.size Lk = true) (hst : stable Sp)
    (hob : stepObs P ops (ops.toList.take n) Sp a0 w (ops.toList.take n) Lk Sp)
    (hend : ∀ (vs : Nat → Value) (w' : World), Below w.heap.size w w' →
      (∀ (i : Nat) (o : Oper) (d : Nat) (S : Word), (ops.toList.take n)[i]? = some o → o.dst = some d → Sp[i]? = some S → S (vs d) w') →
      (∀ (i j : Nat) (oi oj : Oper) (di dj : Nat), i ≠ j → (ops.toList.take n)[i]? = some oi → (ops.toList.take n)[j]? = some oj → oi.dst = some di → oj.dst = some dj → isNew oi.op = true → isNew oj.op = true → ∀ b, addrOf (vs di) = some b → addrOf (vs dj) ≠ some b) →
      (∀ (i : Nat) (oi : Oper) (di : Nat), (ops.toList.take n)[i]? = some oi → oi.dst = some di → isNew oi.op = true → ∀ b, addrOf (vs di) = some b → w.heap.size ≤ b ∧ b < w'.heap.size) →
      wpList P ops Q (ops.toList.drop n) { tmps := fill a0.tmps vs ((ops.toList.take n).filterMap (·.dst)), defers := a0.defers } w') :
    wpAny P .any ops Q ops.size (Array.replicate ops.size false) a0 wb := by
  have hfree : ∀ (i : Nat) (o : Oper), (ops.toList.take n)[i]? = some o ↔ i < n ∧ ops[i]? = some o := by
    intro i o
    rw [List.getElem?_take]
    split
    · rename_i h; simp [h]
    · rename_i h; simp [h]
  let I : Array Bool → Act → World → Prop := fun listed a w' =>
    listed.size = ops.size ∧ (∀ i, n ≤ i → i < ops.size → listed.getD i true = false) ∧ a.defers = a0.defers ∧ a.tmps.size = a0.tmps.size ∧
    (∀ t, outTmp (ops.toList.take n) t = false → a.tmps[t]? = a0.tmps[t]?) ∧ Below w.heap.size w w' ∧
    (∀ (i : Nat) (o : Oper), listed.getD i false = true → ops[i]? = some o → ∀ j, waits o j = true → listed.getD j false = true) ∧
    (∀ (i j : Nat) (oi oj : Oper) (di dj : Nat), i < n → j < n → i ≠ j → listed.getD i false = true → listed.getD j false = true → ops[i]? = some oi → ops[j]? = some oj → oi.dst = some di → oj.dst = some dj → isNew oi.op = true → isNew oj.op = true →
      ∀ b, addrOf (a.tmps.getD di undef) = some b → addrOf (a.tmps.getD dj undef) ≠ some b) ∧
    (∀ (i : Nat) (oi : Oper) (di : Nat), i < n → listed.getD i false = true → ops[i]? = some oi → oi.dst = some di → isNew oi.op = true → ∀ b, addrOf (a.tmps.getD di undef) = some b → w.heap.size ≤ b ∧ b < w'.heap.size) ∧
    ∀ (i : Nat) (o : Oper) (d : Nat) (S : Word), i < n → listed.getD i false = true → ops[i]? = some o → o.dst = some d → Sp[i]? = some S → S (a.tmps.getD d undef) w'
  have start : I (Array.replicate ops.size false) a0 wb := by
    refine ⟨by simp, fun i _ hi => ?_, rfl, rfl, fun _ _ => rfl, hwb, fun i o hl => ?_, fun i j oi oj di dj _ _ _ hl => ?_, fun i oi di _ hl => ?_, fun i o d S _ hl _ _ _ => ?_⟩
    · simp [hi]
    · exfalso
      rw [Array.getD_eq_getD_getElem?, Array.getElem?_replicate] at hl
      split at hl <;> simp at hl
    · exfalso
      rw [Array.getD_eq_getD_getElem?, Array.getElem?_replicate] at hl
      split at hl <;> simp at hl
    · exfalso
      rw [Array.getD_eq_getD_getElem?, Array.getElem?_replicate] at hl
      split at hl <;> simp at hl
    · exfalso
      rw [Array.getD_eq_getD_getElem?, Array.getElem?_replicate] at hl
      split at hl <;> simp at hl
  refine wpAny_inv I (fun listed a w' h => h.1) ?_ ops.size (Array.replicate ops.size false) a0 wb (by simp) start
  intro listed a w' hI
  obtain ⟨i1, i2, i3, i4, i5, i6, i8, i9, i10, i7⟩ := hI
  by_cases hall : ∀ i, i < n → listed.getD i true = true
  · refine .inl ?_
    have hdec : ∀ i, i < ops.size → listed.getD i true = decide (i < n) := by
      intro i hi
      by_cases h : i < n
      · rw [hall i h]; simp [h]
      · rw [i2 i (by omega) hi]; simp [h]
    have hcnt : listed.count false = ops.size - n := by
      have e : listed = (List.replicate n true ++ List.replicate (ops.size - n) false).toArray := by
        apply Array.ext_getElem?
        intro i
        by_cases hi : i < ops.size
        · have := hdec i hi
          rw [Array.getD_eq_getD_getElem?, Array.getElem?_eq_getElem (by omega : i < listed.size)] at this
          rw [Array.getElem?_eq_getElem (by omega : i < listed.size)]
          simp only [Option.getD_some] at this
          rw [this, List.getElem?_toArray, List.getElem?_append, List.length_replicate]
          split
          · rename_i h; simp [h]
          · rename_i h; rw [List.getElem?_replicate, if_pos (by omega)]; simp [h]
        · rw [Array.getElem?_eq_none (by omega), Array.getElem?_eq_none (by simp; omega)]
      rw [e]
      simp [List.count_append, List.count_replicate]
    rw [hcnt]
    have ht : ops.size - (ops.size - n) = n := by omega
    refine wpAny_tail (ops.size - n) listed a w' i1 (by omega) (by rw [ht]; exact hdec) (fun i o j hi ho hj => by
        rcases (regOk_spec hok i o ho).2.1 (by omega) j hj with h | h
        · exact h
        · omega)
      (fun i o ho => (regOk_spec hok i o ho).1) ?_
    rw [ht]
    have ha : a = { tmps := fill a0.tmps (fun t => a.tmps.getD t undef) ((ops.toList.take n).filterMap (·.dst)), defers := a0.defers } := by
      obtain ⟨tm, df⟩ := a
      simp only at i3 i4 i5 i7
      subst i3
      congr 1
      apply Array.ext_getElem?
      intro t
      by_cases ht : t < a0.tmps.size
      · rw [fill_get _ _ _ ht]
        by_cases ho : outTmp (ops.toList.take n) t = true
        · have : ((ops.toList.take n).filterMap (·.dst)).contains t = true := by
            obtain ⟨i, o, h1, h2⟩ := (outTmp_iff _ _).1 ho
            rw [List.contains_iff_mem]
            exact List.mem_filterMap.2 ⟨o, List.mem_of_getElem? h1, h2⟩
          rw [if_pos this, Array.getD_eq_getD_getElem?, Array.getElem?_eq_getElem (by omega : t < tm.size)]
          rfl
        · have ho' : outTmp (ops.toList.take n) t = false := by simpa using ho
          have : ¬ ((ops.toList.take n).filterMap (·.dst)).contains t = true := by
            intro hc
            rw [List.contains_iff_mem] at hc
            obtain ⟨o, h1, h2⟩ := List.mem_filterMap.1 hc
            obtain ⟨i, hi, he⟩ := List.mem_iff_getElem.1 h1
            exact ho ((outTmp_iff _ _).2 ⟨i, o, by rw [List.getElem?_eq_getElem hi, he], h2⟩)
          rw [if_neg this, i5 t ho']
      · rw [Array.getElem?_eq_none (by omega), Array.getElem?_eq_none (by rw [fill_size]; omega)]
    rw [ha]
    have hl : ∀ i, i < n → listed.getD i false = true := by
      intro i hi
      have h1 := hall i hi
      rw [Array.getD_eq_getD_getElem?, Array.getElem?_eq_getElem (by omega : i < listed.size)] at h1 ⊢
      exact h1
    refine hend _ _ i6 ?_ ?_ ?_
    · intro i o d S ho hd hS
      obtain ⟨hi, ho'⟩ := (hfree i o).1 ho
      exact i7 i o d S hi (hl i hi) ho' hd hS
    · intro i j oi oj di dj hne hoi hoj
      obtain ⟨hi, hoi'⟩ := (hfree i oi).1 hoi
      obtain ⟨hj, hoj'⟩ := (hfree j oj).1 hoj
      exact i9 i j oi oj di dj hi hj hne (hl i hi) (hl j hj) hoi' hoj'
    · intro i oi di hoi
      obtain ⟨hi, hoi'⟩ := (hfree i oi).1 hoi
      exact i10 i oi di hi (hl i hi) hoi'
  · refine .inr ⟨?_, ?_⟩
    · -- the least that has not come up is ready
      have : ∃ i, i < n ∧ listed.getD i true = false ∧ ∀ j, j < i → listed.getD j true = true := by
        apply Classical.byContradiction
        intro hno
        apply hall
        intro i
        induction i using Nat.strongRecOn with
        | _ i ih =>
          intro hi
          cases hl : listed.getD i true with
          | true => rfl
          | false => exact absurd ⟨i, hi, hl, fun j hj => ih j hj (by omega)⟩ hno
      obtain ⟨i, hi, hl, hb⟩ := this
      have hlt : i < ops.size := by omega
      refine ⟨i, mem_ready.2 ⟨hl, _, Array.getElem?_eq_getElem hlt, fun e he hbd => ?_⟩⟩
      have h1 := (regOk_spec hok i _ (Array.getElem?_eq_getElem hlt)).1 e he hbd
      have h2 := hb e.on h1
      rw [Array.getD_eq_getD_getElem?, Array.getElem?_eq_getElem (by omega : e.on < listed.size)] at h2 ⊢
      exact h2
    · intro i hi
      obtain ⟨h0, o, ho, hw⟩ := mem_ready.1 hi
      have hlt := (Array.getElem?_eq_some_iff.1 ho).1
      have hin : i < n := by
        apply Classical.byContradiction
        intro hge
        apply hall
        intro j hj
        have : listed.getD j false = true := by
          rcases (regOk_spec hok i o ho).2.1 (by omega) j (by omega) with h | ⟨_, k, ok, h1, h2, h3⟩
          · exact waits_listed h hw
          · exact i8 k ok (waits_listed h1 hw) h2 j h3
        rw [Array.getD_eq_getD_getElem?, Array.getElem?_eq_getElem (by omega : j < listed.size)] at this ⊢
        exact this
      obtain ⟨_, _, hfr⟩ := regOk_spec hok i o ho
      obtain ⟨hds, hsel, hfr⟩ := hfr hin
      obtain ⟨lk, S, hlk, hS, hstep⟩ := stepObs_get hob i o ((hfree i o).2 ⟨hin, ho⟩)
      have hlk' : Lk.getD i [] = lk := by rw [List.getD_eq_getElem?_getD, hlk]; rfl
      -- the act that the obligation speaks of, and the act at hand: alike wherever the operation looks
      have hag : ∀ t, t ∈ o.looksAt ops → (fill a0.tmps (fun t => a.tmps.getD t undef) lk)[t]? = a.tmps[t]? := by
        intro t ht
        by_cases hts : t < a0.tmps.size
        · rw [fill_get _ _ _ hts]
          by_cases hc : lk.contains t = true
          · rw [if_pos hc, Array.getD_eq_getD_getElem?, Array.getElem?_eq_getElem (by rw [i4]; exact hts : t < a.tmps.size)]
            rfl
          · rw [if_neg hc]
            refine (i5 t ?_).symm
            cases hot : outTmp (ops.toList.take n) t with
            | false => rfl
            | true =>
              exfalso
              obtain ⟨j, oj, h1, h2⟩ := (outTmp_iff _ _).1 hot
              obtain ⟨hjn, hoj⟩ := (hfree j oj).1 h1
              have := (hfr j oj t hjn hoj h2).2.1 ht
              rw [hlk'] at this
              exact hc (by simpa using this)
        · rw [Array.getElem?_eq_none (by rw [fill_size]; exact Nat.le_of_not_lt hts), Array.getElem?_eq_none (by rw [i4]; exact Nat.le_of_not_lt hts)]
      have hev : execOp ({ tmps := fill a0.tmps (fun t => a.tmps.getD t undef) lk, defers := a0.defers } : Act).eval o = execOp a.eval o := by
        refine execOp_congr o hsel fun x hx => ?_
        cases x with
        | tmp t =>
          simp only [Act.eval]
          rw [Array.getD_eq_getD_getElem?, Array.getD_eq_getD_getElem?, hag t (List.mem_append_left _ (List.mem_filterMap.2 ⟨.tmp t, by simpa using hx, rfl⟩))]
        | _ => rfl
      have hwt : Region.wanted o (yielded ops (fill a0.tmps (fun t => a.tmps.getD t undef) lk)) = Region.wanted o (yielded ops a.tmps) := by
        unfold Region.wanted
        cases hg : o.guard with
        | none => rfl
        | some gw =>
          obtain ⟨g, want⟩ := gw
          simp only
          congr 1
          unfold yielded
          cases hgd : (ops[g]?).bind (·.dst) with
          | none => rfl
          | some d =>
            simp only [Option.bind_some]
            rw [hag d (List.mem_append_right _ (by simp [hg, hgd]))]
      have hmt : meets (ops.toList.take n) Sp lk (fun t => a.tmps.getD t undef) w' := by
        intro j oj d Sj hj hd hSj hl
        obtain ⟨hjn, hoj⟩ := (hfree j oj).1 hj
        refine i7 j oj d Sj hjn (waits_listed ((hfr j oj d hjn hoj hd).2.2 ?_) hw) hoj hd hSj
        rw [hlk']
        simpa using hl
      have hs1 := hstep (fun t => a.tmps.getD t undef) w' i6 hmt
      -- behind it
      have hslot : ∀ (v : Value) (j : Nat) (oj : Oper) (d : Nat), i ≠ j → j < n → ops[j]? = some oj → oj.dst = some d → (a.put o.dst v).tmps.getD d undef = a.tmps.getD d undef := by
        intro v j oj d e hj hoj hd
        cases hd' : o.dst with
        | none => rfl
        | some d' =>
          have hne : d' ≠ d := by
            intro e'
            subst e'
            exact (hfr j oj d' hj hoj hd).1 e hd'
          simp only [Act.put]
          rw [Array.getD_eq_getD_getElem?, Array.getD_eq_getD_getElem?, Array.getElem?_setIfInBounds_ne hne]
      have hself : ∀ (v : Value) (d : Nat), o.dst = some d → (a.put o.dst v).tmps.getD d undef = v := by
        intro v d hd
        have hdl := hds d hd
        simp only [hd, Act.put]
        rw [Array.getD_eq_getD_getElem?, Array.getElem?_setIfInBounds_self_of_lt (by rw [i4]; exact hdl)]
        rfl
      have hold : ∀ (j : Nat), i ≠ j → (listed.setIfInBounds i true).getD j false = true → listed.getD j false = true := by
        intro j e hl
        rw [Array.getD_eq_getD_getElem?, Array.getElem?_setIfInBounds_ne e, ← Array.getD_eq_getD_getElem?] at hl
        exact hl
      have keep : ∀ (v : Value) (w'' : World), S v w'' → Below w'.heap.size w' w'' → freshIf o.op v w' w'' → I (listed.setIfInBounds i true) (a.put o.dst v) w'' := by
        intro v w'' hSv hb hfresh
        refine ⟨by simpa using i1, fun j hj hjs => ?_, ?_, ?_, fun t ht => ?_, i6.trans (hb.mono i6.size), fun j oj hl hoj q hq => ?_, ?_, ?_, ?_⟩
        · rw [Array.getD_eq_getD_getElem?, Array.getElem?_setIfInBounds_ne (by omega), ← Array.getD_eq_getD_getElem?]
          exact i2 j hj hjs
        · cases o.dst <;> exact i3
        · cases o.dst <;> simp [Act.put, i4]
        · cases hd : o.dst with
          | none => exact i5 t ht
          | some d =>
            have hne : d ≠ t := by
              intro e
              subst e
              have := (outTmp_iff (ops.toList.take n) d).2 ⟨i, o, (hfree i o).2 ⟨hin, ho⟩, hd⟩
              rw [this] at ht
              cases ht
            simp only [Act.put]
            rw [Array.getElem?_setIfInBounds_ne hne]
            exact i5 t ht
        · by_cases e : i = j
          · subst e
            rw [ho] at hoj
            cases hoj
            exact getD_set_true (waits_listed hq hw)
          · rw [Array.getD_eq_getD_getElem?, Array.getElem?_setIfInBounds_ne e, ← Array.getD_eq_getD_getElem?] at hl
            exact getD_set_true (i8 j oj hl hoj q hq)
        · intro j k oj ok dj dk hj hk hne hlj hlk hoj hok hdj hdk hnj hnk b hbj hbk
          by_cases e1 : i = j
          · subst e1
            rw [ho] at hoj; cases hoj
            rw [hself v dj hdj] at hbj
            rw [hslot v k ok dk hne hk hok hdk] at hbk
            have h1 := freshIf_new hnj hfresh b hbj
            have h2 := i10 k ok dk hk (hold k hne hlk) hok hdk hnk b hbk
            omega
          · by_cases e2 : i = k
            · subst e2
              rw [ho] at hok; cases hok
              rw [hself v dk hdk] at hbk
              rw [hslot v j oj dj e1 hj hoj hdj] at hbj
              have h1 := freshIf_new hnk hfresh b hbk
              have h2 := i10 j oj dj hj (hold j e1 hlj) hoj hdj hnj b hbj
              omega
            · rw [hslot v j oj dj e1 hj hoj hdj] at hbj
              rw [hslot v k ok dk e2 hk hok hdk] at hbk
              exact i9 j k oj ok dj dk hj hk hne (hold j e1 hlj) (hold k e2 hlk) hoj hok hdj hdk hnj hnk b hbj hbk
        · intro j oj dj hj hlj hoj hdj hnj b hbj
          by_cases e1 : i = j
          · subst e1
            rw [ho] at hoj; cases hoj
            rw [hself v dj hdj] at hbj
            have h1 := freshIf_new hnj hfresh b hbj
            exact ⟨Nat.le_trans i6.size h1.1, h1.2⟩
          · rw [hslot v j oj dj e1 hj hoj hdj] at hbj
            have h2 := i10 j oj dj hj (hold j e1 hlj) hoj hdj hnj b hbj
            exact ⟨h2.1, Nat.lt_of_lt_of_le h2.2 hb.size⟩
        · intro j oj d Sj hj hl hoj hd hSj
          by_cases e : i = j
          · subst e
            rw [ho] at hoj
            cases hoj
            rw [hS] at hSj
            cases hSj
            have hdl := hds d hd
            simp only [hd, Act.put]
            rw [Array.getD_eq_getD_getElem?, Array.getElem?_setIfInBounds_self_of_lt (by rw [i4]; exact hdl)]
            exact hSv
          · have hl' : listed.getD j false = true := by
              rw [Array.getD_eq_getD_getElem?, Array.getElem?_setIfInBounds_ne e, ← Array.getD_eq_getD_getElem?] at hl
              exact hl
            have h1 := i7 j oj d Sj hj hl' hoj hd hSj
            have h2 : (a.put o.dst v).tmps.getD d undef = a.tmps.getD d undef := by
              cases hd' : o.dst with
              | none => rfl
              | some d' =>
                have hne : d' ≠ d := by
                  intro e'
                  subst e'
                  exact (hfr j oj d' hj hoj hd).1 e hd'
                simp only [Act.put]
                rw [Array.getD_eq_getD_getElem?, Array.getD_eq_getD_getElem?, Array.getElem?_setIfInBounds_ne hne]
            rw [h2]
            exact stable_mem hst Sj (List.mem_of_getElem? hSj) _ _ _ h1 hb
      unfold wpList at hs1
      simp only [hwt] at hs1
      unfold wpOp
      rw [ho]
      simp only
      -- a value in the slot of the one act is the same value in the slot of the other
      have same : ∀ (v : Value) (w'' : World), (∃ u, (({ tmps := fill a0.tmps (fun t => a.tmps.getD t undef) lk, defers := a0.defers } : Act).put o.dst v) = (({ tmps := fill a0.tmps (fun t => a.tmps.getD t undef) lk, defers := a0.defers } : Act).put o.dst u) ∧ S u w'' ∧ Below w'.heap.size w' w'' ∧ freshIf o.op u w' w'') → I (listed.setIfInBounds i true) (a.put o.dst v) w'' := by
        rintro v w'' ⟨u, hu, h1, h2, h4⟩
        cases hd : o.dst with
        | none => have := keep u w'' h1 h2 h4; rw [hd] at this; exact this
        | some d =>
          have hv : v = u := by
            rw [hd] at hu
            have h3 := congrArg (fun (a : Act) => a.tmps[d]?) hu
            simp only [Act.put] at h3
            have hdl : d < (fill a0.tmps (fun t => a.tmps.getD t undef) lk).size := by rw [fill_size]; exact hds d hd
            rw [Array.getElem?_setIfInBounds_self_of_lt hdl, Array.getElem?_setIfInBounds_self_of_lt hdl] at h3
            exact Option.some.inj h3
          subst hv
          have := keep v w'' h1 h2 h4
          rw [hd] at this
          exact this
      split
      · rename_i hr
        rw [if_pos hr] at hs1
        refine .inl ?_
        rcases hs1 with hs1 | ⟨_, a1, w1, h1⟩
        case inr => exact h1.elim
        unfold Oper.wp at hs1 ⊢
        rw [hev] at hs1
        generalize (execOp a.eval o).run P w' = r at hs1 ⊢
        cases r with
        | ok nx w'' =>
          cases nx with
          | value v => exact same v w'' hs1
          | skip => exact same undef w'' hs1
          | defer d =>
            exfalso
            obtain ⟨v, hv, _⟩ := hs1
            have h3 := congrArg (fun (a : Act) => a.defers) hv
            cases hd : o.dst <;> rw [hd] at h3 <;> exact List.cons_ne_self _ _ h3
          | enter f args =>
            refine Calls.mono hs1 ?_
            rintro e w3 h3
            cases e with
            | returned v => exact same v w3 h3
            | panicked c => exact h3.elim
            | outgrown =>
              obtain ⟨_, _, h4⟩ := h3
              exact h4.elim
          | row r args => exact Rows.mono hs1 fun v w3 h3 => same v w3 h3
          | _ => exact hs1.elim
        | halt x w'' => cases x <;> exact hs1.elim
      · rename_i hr
        rw [if_neg hr] at hs1
        exact same undef w' hs1
/-- THE RULE, at a region that draws its order. -/
theorem wp_region_words {id : Nat} {a0 : Act} {w : World} (hm : P.follows .mixedOrders = true) (n : Nat) (Lk : List (List Nat)) (Sp : List Word)
    (hn : n ≤ ops.size) (hok : regOk ops n a0.tmps.size Lk = true) (hst : stable Sp)
    (hob : stepObs P ops (ops.toList.take n) Sp a0 w (ops.toList.take n) Lk Sp)
    (hend : ∀ (vs : Nat → Value) (w' : World), Below w.heap.size w w' →
      (∀ (i : Nat) (o : Oper) (d : Nat) (S : Word), (ops.toList.take n)[i]? = some o → o.dst = some d → Sp[i]? = some S → S (vs d) w') →
      (∀ (i j : Nat) (oi oj : Oper) (di dj : Nat), i ≠ j → (ops.toList.take n)[i]? = some oi → (ops.toList.take n)[j]? = some oj → oi.dst = some di → oj.dst = some dj → isNew oi.op = true → isNew oj.op = true → ∀ b, addrOf (vs di) = some b → addrOf (vs dj) ≠ some b) →
      (∀ (i : Nat) (oi : Oper) (di : Nat), (ops.toList.take n)[i]? = some oi → oi.dst = some di → isNew oi.op = true → ∀ b, addrOf (vs di) = some b → w.heap.size ≤ b ∧ b < w'.heap.size) →
      wpList P ops Q (ops.toList.drop n) { tmps := fill a0.tmps vs ((ops.toList.take n).filterMap (·.dst)), defers := a0.defers } w') :
    (Code.region id ops true).wp P Q a0 w :=
  wp_region_any hm (wpAny_words ((Below.refl _ _).drew) n Lk Sp hn hok hst hob hend)

/-- THE RULE, at a region in the text's order. -/
theorem wp_region_words_text {id : Nat} {a0 : Act} {w : World} (n : Nat) (Lk : List (List Nat)) (Sp : List Word)
    (hn : n ≤ ops.size) (hok : regOk ops n a0.tmps.size Lk = true) (hst : stable Sp)
    (hob : stepObs P ops (ops.toList.take n) Sp a0 w (ops.toList.take n) Lk Sp)
    (hend : ∀ (vs : Nat → Value) (w' : World), Below w.heap.size w w' →
      (∀ (i : Nat) (o : Oper) (d : Nat) (S : Word), (ops.toList.take n)[i]? = some o → o.dst = some d → Sp[i]? = some S → S (vs d) w') →
      (∀ (i j : Nat) (oi oj : Oper) (di dj : Nat), i ≠ j → (ops.toList.take n)[i]? = some oi → (ops.toList.take n)[j]? = some oj → oi.dst = some di → oj.dst = some dj → isNew oi.op = true → isNew oj.op = true → ∀ b, addrOf (vs di) = some b → addrOf (vs dj) ≠ some b) →
      (∀ (i : Nat) (oi : Oper) (di : Nat), (ops.toList.take n)[i]? = some oi → oi.dst = some di → isNew oi.op = true → ∀ b, addrOf (vs di) = some b → w.heap.size ≤ b ∧ b < w'.heap.size) →
      wpList P ops Q (ops.toList.drop n) { tmps := fill a0.tmps vs ((ops.toList.take n).filterMap (·.dst)), defers := a0.defers } w') :
    (Code.region id ops false).wp P Q a0 w := by
  refine wp_region ?_
  have h := wpAny_text (ops := ops) ops.size (Array.replicate ops.size false) a0 w (by simp) (Nat.le_refl _) (by intro i hi; simp [hi]) (fun i o ho => (regOk_spec hok i o ho).1)
    (wpAny_words (Below.refl _ _) n Lk Sp hn hok hst hob hend)
  rw [Nat.sub_self, ← List.range_eq_range'] at h
  exact h
end

#print axioms wp_region_words
#print axioms wp_region_words_text
end Go.Proofs.Ytnpofcnibgdjhaa
