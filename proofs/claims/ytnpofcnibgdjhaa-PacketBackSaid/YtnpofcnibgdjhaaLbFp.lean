/- What codes and readers share: faults, what is whole, what was cut. -/
import Derived.Test.YtnpofcnibgdjhaaCod
namespace Go.Proofs.Ytnpofcnibgdjhaa
open Go.RowKit
variable {X : Nat → Prop}

theorem Code.rest {α : Type} {dec : List Nat → Rd α} {enc : α → List Nat} {good : α → Prop} (c : Code dec enc good) {bs : List Nat} {x : α} {r : List Nat} (hb : ∀ b ∈ bs, b < 256) (h : dec bs = .ok x r) : ∀ b ∈ r, b < 256 :=
  fun b hx => hb b (by rw [(c.sound hb h).2]; exact List.mem_append_right _ hx)

set_option maxRecDepth 100000 in
theorem rmust_any (p : Nat) (bs : List Nat) (b : Bool) (w : World) (h : RdAt X w p bs) :
    Calls Try.prog 111 #[.pointer (some ⟨p, 0, none⟩), .bool b] w fun e w' => (if b = true then e = .returned (.tuple #[]) else faultC 3 e) ∧ w = w' := by
  go_enter Try.func111, Try.ntmps111
  go_wp2_with fail
  refine (made_any p bs _ h).mono ?_
  rintro _ _ ⟨rfl, rfl⟩
  cases b
  · go_wp2_with fail
    refine (must_no _).mono ?_
    rintro e _ ⟨hf, rfl⟩
    cases hf
    go_wp2
    exact ⟨rfl, rfl, rfl⟩
  · go_wp2_with fail
    refine (must_yes _).mono ?_
    rintro _ _ ⟨rfl, rfl⟩
    go_wp2
    go_end0
    exact ⟨rfl, rfl⟩

/-- A function that hands back a row and one thing more. -/
theorem ret_row_tmp {fn : Func} {R : Ending → World → Prop} {a : Act} {w : World} {p q g : Nat} {T : TypeId} {cs : Array Value} {t : TypeId} {fr : Nat × Nat} {d : TypeDesc} {v : Value} (h : fn.results = #[.cell p T, .tmp q])
    (hp : a.tmps.getD p undef = .pointer (some ⟨g, 0, none⟩)) (hq : a.tmps.getD q undef = v) (hg : look w g = some (.cells cs t fr)) (hd : (match d with | .struct _ | .array _ _ => true | _ => false) = true) (hu : Try.prog.underlying T = some d) (hi : (Try.prog.info? T).map (·.size) = some cs.size)
    (hdf : a.defers = []) (hR : R (.returned (.tuple #[.agg cs, v])) w) : bodyPost Try.prog fn R .ret a w := by
  refine bodyPost_ret (v := .tuple #[.agg cs, v]) ?_ hdf hR
  have hp' : a.tmps[p]?.getD undef = .pointer (some ⟨g, 0, none⟩) := by simpa using hp
  have hq' : a.tmps[q]?.getD undef = v := by simpa using hq
  have hl : (loadVar T ⟨g, 0, none⟩).run Try.prog w = .ok (.agg cs) w := by
    cases d with
    | struct f => exact run_loadVar_row w g t T cs fr _ hg hu rfl hi
    | array n e => exact run_loadVar_row w g t T cs fr _ hg hu rfl hi
    | _ => cases hd
  simp [results, h, hp', hq', asAddr, hl]

/-- What is read is a fault of form, or too short. -/
def Fal {α : Type} (r : Rd α) : Prop := ∀ k, r = .fault k → k = 3 ∨ k = 8
theorem fal_ok {α : Type} (x : α) (r : List Nat) : Fal (.ok x r) := by intro k e; cases e
theorem fal_3 {α : Type} : Fal (.fault 3 : Rd α) := by intro k e; cases e; exact .inl rfl
theorem fal_8 {α : Type} : Fal (.fault 8 : Rd α) := by intro k e; cases e; exact .inr rfl
theorem fal_N : ∀ (bs : List Nat) (fi : Bool) (m : Nat), Fal (decN fi m bs)
  | [], fi, m => by unfold decN; exact fal_8
  | c :: t, fi, m => by
    rw [decN_cons]
    split
    · exact fal_3
    · split
      · exact fal_3
      · split
        · exact fal_ok _ _
        · exact fal_N t _ _
theorem fal_S (most : Nat) (bs : List Nat) : Fal (decS most bs) := by
  unfold decS
  have h := fal_N bs true 0
  cases e : decN true 0 bs with
  | fault k => intro k2 e2; cases e2; exact h k e
  | ok x r =>
    simp only
    split
    · exact fal_ok _ _
    · exact fal_3
theorem fal_fault {α β : Type} {r : Rd α} {k : Int} (h : Fal r) (e : r = .fault k) : Fal (.fault k : Rd β) := fun k2 e2 => by
  cases e2
  exact h k e
def whole {α : Type} : Rd α → Option α
  | .ok x [] => some x
  | _ => none
theorem whole_code {α : Type} {r : Rd α} (h : Fal r) : (rdCode r = 0 ∧ ∃ x, r = .ok x [] ∧ whole r = some x) ∨ (rdCode r ≠ 0 ∧ whole r = none) := by
  cases r with
  | ok x l =>
    cases l with
    | nil => exact .inl ⟨rfl, x, rfl, rfl⟩
    | cons a t => exact .inr ⟨by show (2 : Int) ≠ 0; decide, rfl⟩
  | fault k =>
    right
    refine ⟨?_, rfl⟩
    rcases h k rfl with rfl | rfl
    · show (3 : Int) ≠ 0; decide
    · show (8 : Int) ≠ 0; decide

def errO {α : Type} : Option α → Int
  | some _ => 0
  | none => 3
theorem Code.mono {α : Type} {dec : List Nat → Rd α} {enc : α → List Nat} {good : α → Prop} (c : Code dec enc good) {p : List Nat} {x : α} {r : List Nat} (q : List Nat) (hb : ∀ b ∈ p, b < 256) (h : dec p = .ok x r) : dec (p ++ q) = .ok x (r ++ q) := by
  obtain ⟨h1, h2⟩ := c.sound hb h
  rw [h2, List.append_assoc]
  exact c.whole _ h1
theorem code_cut {α : Type} {dec : List Nat → Rd α} {enc : α → List Nat} {good : α → Prop} (c : Code dec enc good) {x : α} (hx : good x) (hb : ∀ b ∈ enc x, b < 256) {k : Nat} (hk : k < (enc x).length) : whole (dec ((enc x).take k)) = none := by
  cases e : dec ((enc x).take k) with
  | fault _ => rfl
  | ok y r =>
    cases r with
    | cons _ _ => rfl
    | nil =>
      exfalso
      have h1 := c.mono ((enc x).drop k) (fun b h => hb b (List.mem_of_mem_take h)) e
      rw [List.take_append_drop, List.nil_append] at h1
      have h2 := c.whole (x := x) [] hx
      rw [List.append_nil, h1] at h2
      have h3 : (enc x).drop k = [] := by injection h2
      have h4 := congrArg List.length h3
      rw [List.length_drop, List.length_nil] at h4
      omega

theorem wpList_build_is {ops : Array Oper} {rest : List Oper} {a : Act} {w : World} {Q : Exit → Act → World → Prop} {dst : Option Tmp} {ty : TypeId} {pos : String} {after : Array Edge} (t : TypeId) (parts : Array (Nat × Operand)) (cells : Array Value)
    (hb : Try.prog.built t (parts.map fun (i, x) => (i, a.eval x)).toList = some cells) (h : wpList Try.prog ops Q rest (a.put dst (.agg cells)) w) : wpList Try.prog ops Q (⟨dst, .build t parts, ty, pos, after, none⟩ :: rest) a w := by
  refine wpList_plain rfl fun _ hK => ?_
  unfold Oper.wp execOp
  simp only [Sem.run_bind, run_build w t _ cells hb, Result.andThen_ok]
  exact hK _ _ h
theorem whole_some {α : Type} {r : Rd α} {x : α} (h : whole r = some x) : r = .ok x [] := by
  cases r with
  | fault k => cases h
  | ok y t =>
    cases t with
    | nil => cases h; rfl
    | cons a b => cases h
theorem SliceAt.upto2 {w : World} {ad : Option Addr} {n cap m : Nat} {bs : List Nat} (h : SliceAt w (.slice ad n cap) n 1 (bC bs)) (hm : m ≤ n) (hn : bs.length = n) : SliceAt w (.slice ad m cap) (bs.take m).length 1 (bC (bs.take m)) := by
  have hl : (bs.take m).length = m := by rw [List.length_take]; omega
  rw [hl]
  obtain ⟨_, _, e, h2, h3, h4⟩ := h
  cases e
  refine ⟨ad, cap, rfl, fun hx => ⟨by have := h2 hx; omega, (h2 hx).2⟩, by omega, ?_⟩
  rcases h4 with h4 | ⟨b, off, e, hb, hR⟩
  · exact .inl (by omega)
  · exact .inr ⟨b, off, e, hb, fun k hk => by rw [← bC_take bs m k hk]; exact hR k (by omega)⟩
end Go.Proofs.Ytnpofcnibgdjhaa
