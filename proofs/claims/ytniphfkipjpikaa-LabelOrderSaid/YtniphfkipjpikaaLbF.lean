/- Labels: read from bytes. -/
import Derived.Test.YtniphfkipjpikaaLbE
namespace Go.Proofs.Ytniphfkipjpikaa
open Go.RowKit
variable {X : Nat → Prop}

/-- A function that hands back a row and one thing more. -/
theorem ret_row_tmp {fn : Func} {R : Ending → World → Prop} {a : Act} {w : World} {p q g : Nat} {T : TypeId} {cs : Array Value} {t : TypeId} {fr : Nat × Nat} {d : TypeDesc} {v : Value} (h : fn.results = #[.cell p T, .tmp q])
    (hp : a.tmps.getD p undef = .pointer (some ⟨g, 0, none⟩)) (hq : a.tmps.getD q undef = v) (hg : look w g = some (.cells cs t fr)) (hd : (match d with | .struct _ | .array _ _ => true | _ => false) = true) (hu : Try.prog.underlying T = some d) (hi : (Try.prog.info? T).map (·.size) = some cs.size)
    (hdf : a.defers = []) (hR : R (.returned (.tuple #[.agg cs, v])) w) : bodyPost Try.prog fn R .ret a w := by
  refine bodyPost_ret (v := .tuple #[.agg cs, v]) ?_ hdf hR
  have hp' : a.tmps[p]?.getD undef = .pointer (some ⟨g, 0, none⟩) := by simpa using hp
  have hq' : a.tmps[q]?.getD undef = v := by simpa using hq
  have hl : (loadVar T ⟨g, 0, none⟩).run Try.prog w = .ok (.agg cs) w := by
    cases d with
    | struct f => exact run_loadVar_row w g t T cs fr _ hg hu rfl hi
    | array n e => exact run_loadVar_row w g t T cs fr _ hg hu rfl hi
    | _ => cases hd
  simp [results, h, hp', hq', asAddr, hl]

/-- What is read is a fault of form, or too short. -/
def Fal {α : Type} (r : Rd α) : Prop := ∀ k, r = .fault k → k = 3 ∨ k = 8
theorem fal_ok {α : Type} (x : α) (r : List Nat) : Fal (.ok x r) := by intro k e; cases e
theorem fal_3 {α : Type} : Fal (.fault 3 : Rd α) := by intro k e; cases e; exact .inl rfl
theorem fal_8 {α : Type} : Fal (.fault 8 : Rd α) := by intro k e; cases e; exact .inr rfl
theorem fal_N : ∀ (bs : List Nat) (fi : Bool) (m : Nat), Fal (decN fi m bs)
  | [], fi, m => by unfold decN; exact fal_8
  | c :: t, fi, m => by
    rw [decN_cons]
    split
    · exact fal_3
    · split
      · exact fal_3
      · split
        · exact fal_ok _ _
        · exact fal_N t _ _
theorem fal_S (most : Nat) (bs : List Nat) : Fal (decS most bs) := by
  unfold decS
  have h := fal_N bs true 0
  cases e : decN true 0 bs with
  | fault k => intro k2 e2; cases e2; exact h k e
  | ok x r =>
    simp only
    split
    · exact fal_ok _ _
    · exact fal_3
theorem fal_Vs : ∀ (k : Nat) (f : Nat → Nat) (i : Nat) (bs : List Nat), Fal (decVs f i k bs)
  | 0, f, i, bs => fal_ok _ _
  | k + 1, f, i, bs => by
    have h := fal_S 4294967295 bs
    cases e : decS 4294967295 bs with
    | fault z => rw [decVs_fault e]; intro k2 e2; cases e2; exact h z e
    | ok x r => rw [decVs_ok e]; exact fal_Vs k _ _ _
theorem fal_V (bs : List Nat) : Fal (decV bs) := by
  unfold decV
  have h := fal_S 12 bs
  cases e : decS 12 bs with
  | fault k => intro k2 e2; cases e2; exact h k e
  | ok n r =>
    simp only
    have h2 := fal_Vs n (fun _ => 0) 0 r
    cases e2 : decVs (fun _ => 0) 0 n r with
    | fault k => intro k2 e3; cases e3; exact h2 k e2
    | ok f r2 =>
      simp only
      split
      · exact fal_ok _ _
      · exact fal_3
theorem fal_fault {α β : Type} {r : Rd α} {k : Int} (h : Fal r) (e : r = .fault k) : Fal (.fault k : Rd β) := fun k2 e2 => by
  cases e2
  exact h k e
theorem fal_L (bs : List Nat) : Fal (decL bs) := by
  unfold decL
  cases e0 : decN true 0 bs with
  | fault k => exact fal_fault (fal_N bs true 0) e0
  | ok t r1 =>
    simp only
    cases e1 : decS 12 r1 with
    | fault k => exact fal_fault (fal_S 12 r1) e1
    | ok nd r2 =>
      simp only
      cases e2 : decS 1048576 r2 with
      | fault k => exact fal_fault (fal_S 1048576 r2) e2
      | ok n r3 =>
        simp only
        cases e3 : decS 12 r3 with
        | fault k => exact fal_fault (fal_S 12 r3) e3
        | ok c r4 =>
          simp only
          cases e4 : decS 12 r4 with
          | fault k => exact fal_fault (fal_S 12 r4) e4
          | ok s r5 =>
            simp only
            cases e5 : decV r5 with
            | fault k => exact fal_fault (fal_V r5) e5
            | ok d r6 =>
              simp only
              split
              · exact fal_ok _ _
              · exact fal_3
/-- A whole thing: read, and nothing left. -/
def whole {α : Type} : Rd α → Option α
  | .ok x [] => some x
  | _ => none
theorem whole_code {α : Type} {r : Rd α} (h : Fal r) : (rdCode r = 0 ∧ ∃ x, r = .ok x [] ∧ whole r = some x) ∨ (rdCode r ≠ 0 ∧ whole r = none) := by
  cases r with
  | ok x l =>
    cases l with
    | nil => exact .inl ⟨rfl, x, rfl, rfl⟩
    | cons a t => exact .inr ⟨by show (2 : Int) ≠ 0; decide, rfl⟩
  | fault k =>
    right
    refine ⟨?_, rfl⟩
    rcases h k rfl with rfl | rfl
    · show (3 : Int) ≠ 0; decide
    · show (8 : Int) ≠ 0; decide

/-- The error's number: none, or that of the form. -/
def errO {α : Type} : Option α → Int
  | some _ => 0
  | none => 3
/-- No label. -/
def zeroL : Lb := ⟨0, 0, 0, 0, 0, fun _ => 0⟩

/-- What the closure leaves. -/
def lgotP (X : Nat → Prop) (r : Rd Lb) (p B : Nat) (e : Ending) (w' : World) : Prop := match r with
  | .ok l rest => e = .returned (.tuple #[]) ∧ RdAt X w' p rest ∧ look w' B = some (.cells (LA l) 87 (0, 0))
  | .fault k => faultC k e

set_option maxRecDepth 100000 in
set_option maxHeartbeats 1600000 in
theorem lread1_any (p B : Nat) (bs : List Nat) (cs : Array Value) (w : World) (hn : p ≠ B) (hcs : cs.size = 17) (hnb : ∀ (j : Nat) (x : Int), cs[j]? ≠ some (.int .u8 x)) (hby : ∀ x ∈ bs, x < 256) (h : RdAt X w p bs) (hl : look w B = some (.cells cs 87 (0, 0))) :
    Calls Try.prog 86 #[.pointer (some ⟨p, 0, none⟩), .pointer (some ⟨B, 0, none⟩)] w fun e w' => (w'.os = w.os ∧ w'.tape = w.tape ∧ w'.output = w.output ∧ w.heap.size ≤ w'.heap.size ∧ ∀ k, k < w.heap.size → k ≠ p → k ≠ B → w'.heap[k]? = w.heap[k]?) ∧ lgotP X (decL bs) p B e w' := by
  go_enter Try.func86, Try.ntmps86
  go_wp2_with fail
  refine (lget_any p bs _ hby h).mono ?_
  rintro e w1 ⟨hg1, hr⟩
  have hl1 : look w1 B = some (.cells cs 87 (0, 0)) := by rw [grown_look hg1 (look_lt hl) (by intro g e; cases e; omega)]; exact hl
  cases hd : decL bs with
  | fault k =>
    rw [hd] at hr
    cases hr
    go_wp2
    refine ⟨rfl, ⟨hg1.os, hg1.tape, hg1.output, hg1.size, fun k hk hp _ => hg1.block k hk (by intro e; cases e; exact hp rfl)⟩, ?_⟩
    rw [hd]
    exact rfl
  | ok l rest =>
    rw [hd] at hr
    obtain ⟨rfl, hrd⟩ := hr
    have hfin : RdAt X (w1.setRow B (LA l)) p rest := rd_aside_row hrd hl1 hn hnb
    have hlf : look (w1.setRow B (LA l)) B = some (.cells (LA l) 87 (0, 0)) := by rw [look_setRow, if_pos rfl, hl1]; rfl
    have hkf : ∀ k, k < w.heap.size → k ≠ p → k ≠ B → (w1.setRow B (LA l)).heap[k]? = w.heap[k]? := fun k hk hp hB => by
      have h0 := look_setRow w1 B k (LA l)
      rw [if_neg hB] at h0
      exact Eq.trans h0 (hg1.block k hk (by intro e; cases e; exact hp rfl))
    have hsz := hg1.size
    go_wp2
    go_end0
    exact ⟨⟨hg1.os, hg1.tape, hg1.output, by simpa [World.setRow] using hsz, hkf⟩, by rw [hd]; exact ⟨rfl, hfin, hlf⟩⟩

set_option maxRecDepth 100000 in
set_option maxHeartbeats 1600000 in
theorem lread_any (v : Value) (bs : List Nat) (w : World) (hby : ∀ x ∈ bs, x < 256) (hlen : bs.length ≤ 1000000) (hv : SliceAt w v bs.length 1 (bC bs)) :
    Calls Try.prog 51 #[v] w fun e w' => e = .returned (.tuple #[.agg (LA ((whole (decL bs)).getD zeroL)), .int .i64 (errO (whole (decL bs)))]) ∧ Below w.heap.size w w' := by
  have hbA := belA (belA (bel0 w) (.cells (LA zeroL) 87)) (.cells (LA zeroL) 87)
  have hv1 := hv.below hbA
  have hl0 : look ((w.alloc (.cells (LA zeroL) 87)).alloc (.cells (LA zeroL) 87)) w.heap.size = some (.cells (LA zeroL) 87 (0, 0)) := by
    rw [look_alloc_past _ _ _ (by simp)]
    exact look_alloc_at _ _ _ rfl
  have hl1 : look ((w.alloc (.cells (LA zeroL) 87)).alloc (.cells (LA zeroL) 87)) (w.heap.size + 1) = some (.cells (LA zeroL) 87 (0, 0)) := look_alloc_at _ _ _ (by simp)
  have hsz : ((w.alloc (.cells (LA zeroL) 87)).alloc (.cells (LA zeroL) 87)).heap.size = w.heap.size + 2 := by simp
  obtain ⟨W, hW⟩ : ∃ W, W = (w.alloc (.cells (LA zeroL) 87)).alloc (.cells (LA zeroL) 87) := ⟨_, rfl⟩
  go_enter Try.func51, Try.ntmps51
  go_wp2_with fail
  refine (read_any 86 #[.pointer (some ⟨w.heap.size + 1, 0, none⟩)] (decL bs) bs v (fun u => Below w.heap.size w u ∧ look u w.heap.size = some (.cells (LA zeroL) 87 (0, 0)) ∧ ∀ x r, decL bs = .ok x r → look u (w.heap.size + 1) = some (.cells (LA x) 87 (0, 0))) _ hlen
    (enters_of' Try.func86 (by kernel_rfl) rfl) (slice_news hv1) ?_ ?_).mono ?_
  · rintro w2 w3 ⟨h0, h1, h2⟩ hg
    refine ⟨h0.grown hg h0.size (fun g e => by cases e; omega), ?_, fun x r e => ?_⟩
    · rw [grown_look hg (look_lt h1) (by intro g e; cases e; omega)]; exact h1
    · rw [grown_look hg (look_lt (h2 x r e)) (by intro g e; cases e; omega)]; exact h2 x r e
  · intro w1 p hp hb hrd
    have hla : look w1 w.heap.size = some (.cells (LA zeroL) 87 (0, 0)) := by rw [look_below hb (look_lt hl0)]; exact hl0
    have hlb : look w1 (w.heap.size + 1) = some (.cells (LA zeroL) 87 (0, 0)) := by rw [look_below hb (look_lt hl1)]; exact hl1
    refine (lread1_any p (w.heap.size + 1) bs (LA zeroL) w1 (by omega) (LA_size _) (LA_not_byte _) hby hrd hlb).mono ?_
    rintro e w2 ⟨⟨k1, k2, k3, k4, k5⟩, hr⟩
    have hszb := hb.size
    have hpw : p < w1.heap.size := by obtain ⟨_, hl, _⟩ := hrd; exact look_lt hl
    have hE : look w2 ((w.alloc (.cells (LA zeroL) 87)).alloc (.cells (LA zeroL) 87)).heap.size = look w1 ((w.alloc (.cells (LA zeroL) 87)).alloc (.cells (LA zeroL) 87)).heap.size := k5 _ (by omega) (by omega) (by omega)
    have hB2 : Below w.heap.size w w2 := by
      refine ⟨k1.trans (hb.os.trans hbA.os), k2.trans (hb.tape.trans hbA.tape), k3.trans (hb.output.trans hbA.output), by omega, fun k hk => ?_⟩
      rw [k5 k (by omega) (by omega) (by omega), hb.block k (by omega), hbA.block k hk]
    have hla2 : look w2 w.heap.size = some (.cells (LA zeroL) 87 (0, 0)) := (k5 _ (by omega) (by omega) (by omega)).trans hla
    refine ⟨hE, ⟨hB2, hla2, ?_⟩, ?_⟩
    · intro x r e
      rw [e] at hr
      exact hr.2.2
    · cases hd : decL bs with
      | ok x r =>
        rw [hd] at hr
        exact ⟨hr.1, hr.2.1⟩
      | fault k =>
        rw [hd] at hr
        exact hr
  · rintro _ w3 ⟨rfl, hB3, hla3, hlb3⟩
    rcases whole_code (fal_L bs) with ⟨h0, x, hx, hx2⟩ | ⟨h0, hx2⟩
    · rw [h0]
      have hxh := hidP hx2
      have hlx := hlb3 x [] hx
      have hfin := belR hB3 (Nat.le_refl _) (LA x)
      clear hx hx2 h0 hlb3
      go_wp2
      refine ret_row_tmp (g := w.heap.size) (cs := LA x) (t := 87) (fr := (0, 0)) Try.results51 rfl rfl ?_ rfl Try.underlying87 (by rw [LA_size]; exact lab_info) rfl ?_
      · rw [look_setRow, if_pos rfl, hla3]; rfl
      · exact ⟨by rw [hxh.out]; rfl, hfin⟩
    · have hxh := hidP hx2
      have hz : LA zeroL = #[.int .u64 0, .int .i64 0, .int .u32 0, .int .i64 0, .int .i64 0, .int .u32 0, .int .u32 0, .int .u32 0, .int .u32 0, .int .u32 0, .int .u32 0, .int .u32 0, .int .u32 0, .int .u32 0, .int .u32 0, .int .u32 0, .int .u32 0] := rfl
      have hfin := belR hB3 (Nat.le_refl _) (LA zeroL)
      clear hx2 hlb3
      go_wp2
      refine ret_row_tmp (g := w.heap.size) (cs := LA zeroL) (t := 87) (fr := (0, 0)) Try.results51 rfl rfl ?_ rfl Try.underlying87 (by rw [LA_size]; exact lab_info) rfl ?_
      · rw [look_setRow, if_pos rfl, hla3]; rfl
      · exact ⟨by rw [hxh.out]; rfl, hfin⟩
end Go.Proofs.Ytniphfkipjpikaa
