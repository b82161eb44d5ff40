/- Labels: the code of labels; what must come of fixed calls. -/
import Derived.Test.YtniphfkipjpikaaLbF
namespace Go.Proofs.Ytniphfkipjpikaa
open Go.RowKit

/-- A label that may be, and whose vector has no number behind the twelfth. -/
def goodL (l : Lb) : Prop := rightL l = true ∧ vok l.deps
theorem codeL : Code decL encL goodL := by
  constructor
  · intro bs l r hb h
    unfold decL at h
    cases e0 : decN true 0 bs with
    | fault k => rw [e0] at h; cases h
    | ok t r1 =>
    rw [e0] at h; simp only at h
    have b1 := codeN.rest hb e0
    cases e1 : decS 12 r1 with
    | fault k => rw [e1] at h; cases h
    | ok nd r2 =>
    rw [e1] at h; simp only at h
    have b2 := (codeS 12 (by decide)).rest b1 e1
    cases e2 : decS 1048576 r2 with
    | fault k => rw [e2] at h; cases h
    | ok n r3 =>
    rw [e2] at h; simp only at h
    have b3 := (codeS 1048576 (by decide)).rest b2 e2
    cases e3 : decS 12 r3 with
    | fault k => rw [e3] at h; cases h
    | ok c r4 =>
    rw [e3] at h; simp only at h
    have b4 := (codeS 12 (by decide)).rest b3 e3
    cases e4 : decS 12 r4 with
    | fault k => rw [e4] at h; cases h
    | ok s r5 =>
    rw [e4] at h; simp only at h
    have b5 := (codeS 12 (by decide)).rest b4 e4
    cases e5 : decV r5 with
    | fault k => rw [e5] at h; cases h
    | ok d r6 =>
    rw [e5] at h; simp only at h
    split at h
    · rename_i hr
      cases h
      have h0 := codeN.sound hb e0
      have h1 := (codeS 12 (by decide)).sound b1 e1
      have h2 := (codeS 1048576 (by decide)).sound b2 e2
      have h3 := (codeS 12 (by decide)).sound b3 e3
      have h4 := (codeS 12 (by decide)).sound b4 e4
      have h5 := codeV.sound b5 e5
      refine ⟨⟨hr, h5.1⟩, ?_⟩
      unfold encL
      rw [h0.2, h1.2, h2.2, h3.2, h4.2, h5.2]
      simp
    · cases h
  · intro l r ⟨hr, hd⟩
    obtain ⟨⟨r1, r2, r3, r4, r5, r6⟩, ⟨r7, r8, r9, r10⟩, _, _⟩ := (rightL_iff l).1 hr
    have e1 : ((l.node.toNat : Nat) : Int) = l.node := by omega
    have e2 : ((l.cart.toNat : Nat) : Int) = l.cart := by omega
    have e3 : ((l.seller.toNat : Nat) : Int) = l.seller := by omega
    unfold encL decL
    simp only [List.append_assoc]
    rw [codeN.whole _ (by omega)]
    simp only
    rw [(codeS 12 (by decide)).whole _ (by omega)]
    simp only
    rw [(codeS 1048576 (by decide)).whole _ (by omega)]
    simp only
    rw [(codeS 12 (by decide)).whole _ (by omega)]
    simp only
    rw [(codeS 12 (by decide)).whole _ (by omega)]
    simp only
    rw [codeV.whole _ hd]
    simp only [e1, e2, e3]
    rw [if_pos hr]
theorem Code.mono {α : Type} {dec : List Nat → Rd α} {enc : α → List Nat} {good : α → Prop} (c : Code dec enc good) {p : List Nat} {x : α} {r : List Nat} (q : List Nat) (hb : ∀ b ∈ p, b < 256) (h : dec p = .ok x r) : dec (p ++ q) = .ok x (r ++ q) := by
  obtain ⟨h1, h2⟩ := c.sound hb h
  rw [h2, List.append_assoc]
  exact c.whole _ h1
/-- What was written, cut anywhere, is nothing whole. -/
theorem code_cut {α : Type} {dec : List Nat → Rd α} {enc : α → List Nat} {good : α → Prop} (c : Code dec enc good) {x : α} (hx : good x) (hb : ∀ b ∈ enc x, b < 256) {k : Nat} (hk : k < (enc x).length) : whole (dec ((enc x).take k)) = none := by
  cases e : dec ((enc x).take k) with
  | fault _ => rfl
  | ok y r =>
    cases r with
    | cons _ _ => rfl
    | nil =>
      exfalso
      have h1 := c.mono ((enc x).drop k) (fun b h => hb b (List.mem_of_mem_take h)) e
      rw [List.take_append_drop, List.nil_append] at h1
      have h2 := c.whole (x := x) [] hx
      rw [List.append_nil, h1] at h2
      have h3 : (enc x).drop k = [] := by injection h2
      have h4 := congrArg List.length h3
      rw [List.length_drop, List.length_nil] at h4
      omega

/-- A value of a type is built of its parts. -/
theorem wpList_build_is {ops : Array Oper} {rest : List Oper} {a : Act} {w : World} {Q : Exit → Act → World → Prop} {dst : Option Tmp} {ty : TypeId} {pos : String} {after : Array Edge} (t : TypeId) (parts : Array (Nat × Operand)) (cells : Array Value)
    (hb : Try.prog.built t (parts.map fun (i, x) => (i, a.eval x)).toList = some cells) (h : wpList Try.prog ops Q rest (a.put dst (.agg cells)) w) : wpList Try.prog ops Q (⟨dst, .build t parts, ty, pos, after, none⟩ :: rest) a w := by
  refine wpList_plain rfl fun _ hK => ?_
  unfold Oper.wp execOp
  simp only [Sem.run_bind, run_build w t _ cells hb, Result.andThen_ok]
  exact hK _ _ h
def alA : Lb := ⟨3, 2, 1, 1, 4, fun _ => 0⟩
def alV : Nat → Nat := upd (upd (fun _ => 0) 0 1) 1 1
def alB : Lb := ⟨4, 1, 2, 1, 0, alV⟩
def alC : Lb := ⟨3, 2, 2, 1, 0, fun _ => 0⟩
theorem typed_small {l : Lb} (h1 : l.time < 100) (h2 : 0 ≤ l.node ∧ l.node < 100) (h3 : l.n < 100) (h4 : 0 ≤ l.cart ∧ l.cart < 100) (h5 : 0 ≤ l.seller ∧ l.seller < 100) (h6 : ∀ k, l.deps k < 100) : Typed l :=
  ⟨by omega, ⟨by omega, by omega⟩, by omega, ⟨by omega, by omega⟩, ⟨by omega, by omega⟩, fun k => by have := h6 k; omega⟩
theorem alV_lt (k : Nat) : alV k ≤ 1 := by
  unfold alV upd
  split
  · omega
  · split
    · omega
    · show 0 ≤ 1; omega
theorem typed_A : Typed alA := typed_small (by decide) (by decide) (by decide) (by decide) (by decide) (fun _ => by show 0 < 100; omega)
theorem typed_B : Typed alB := typed_small (by decide) (by decide) (by decide) (by decide) (by decide) (fun k => by have := alV_lt k; show alV k < 100; omega)
theorem typed_C : Typed alC := typed_small (by decide) (by decide) (by decide) (by decide) (by decide) (fun _ => by show 0 < 100; omega)
theorem right_A : rightL alA = true := by kernel_rfl
theorem right_B : rightL alB = true := by kernel_rfl
theorem right_C : rightL alC = false := by kernel_rfl
theorem good_B : goodL alB := ⟨right_B, fun j => by have := alV_lt j; show alV j ≤ _; omega, fun j hj => by
  show alV j = 0
  unfold alV upd
  rw [if_neg (by omega), if_neg (by omega)]⟩
theorem enc_B : encL alB = [4, 1, 2, 1, 0, 2, 1, 1] := by kernel_rfl
theorem dec_B : decL [4, 1, 2, 1, 0, 2, 1, 1] = .ok alB [] := by
  have := codeL.whole (x := alB) [] good_B
  rw [List.append_nil, enc_B] at this
  exact this
theorem lread_ok (v : Value) (bs : List Nat) (l : Lb) (w : World) (hby : ∀ x ∈ bs, x < 256) (hlen : bs.length ≤ 1000000) (hv : SliceAt w v bs.length 1 (bC bs)) (h : whole (decL bs) = some l) :
    Calls Try.prog 51 #[v] w fun e w' => e = .returned (.tuple #[.agg (LA l), .int .i64 0]) ∧ Below w.heap.size w w' := by
  have := lread_any v bs w hby hlen hv
  rw [h] at this
  exact this
theorem lread_no (v : Value) (bs : List Nat) (w : World) (hby : ∀ x ∈ bs, x < 256) (hlen : bs.length ≤ 1000000) (hv : SliceAt w v bs.length 1 (bC bs)) (h : whole (decL bs) = none) :
    Calls Try.prog 51 #[v] w fun e w' => e = .returned (.tuple #[.agg (LA zeroL), .int .i64 3]) ∧ Below w.heap.size w w' := by
  have := lread_any v bs w hby hlen hv
  rw [h] at this
  exact this
end Go.Proofs.Ytniphfkipjpikaa
