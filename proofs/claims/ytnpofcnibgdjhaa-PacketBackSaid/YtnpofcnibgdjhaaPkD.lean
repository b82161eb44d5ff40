/- Packets: what is the same; read from a reader. -/
import Derived.Test.YtnpofcnibgdjhaaPkC
namespace Go.Proofs.Ytnpofcnibgdjhaa
open Go.RowKit
variable {X : Nat → Prop}

set_option maxRecDepth 100000 in
set_option maxHeartbeats 1600000 in
theorem psame_yes (k : Pk) (ad ad2 : Option Addr) (cap cap2 : Nat) (w : World) (hby : ∀ x ∈ k.bs, x < 256) (h1 : DatAt w k ad cap) (h2 : DatAt w k ad2 cap2) :
    Calls Try.prog 35 #[.agg (pkA k ad cap), .agg (pkA k ad2 cap2)] w fun e w' => e = .returned (.bool true) ∧ Below w.heap.size w w' := by
  obtain ⟨ack, frm, to, seq, bs⟩ := k
  have h1 : SliceAt w (.slice ad bs.length cap) bs.length 1 (bC bs) := h1
  have h2 : SliceAt w (.slice ad2 bs.length cap2) bs.length 1 (bC bs) := h2
  have hby : ∀ x ∈ bs, x < 256 := hby
  show Calls Try.prog 35 #[.agg #[.bool ack, .int .i64 frm, .int .i64 to, .int .u64 (seq : Int), .slice ad bs.length cap], .agg #[.bool ack, .int .i64 frm, .int .i64 to, .int .u64 (seq : Int), .slice ad2 bs.length cap2]] w _
  have hbA := belA (belA (bel0 w) (.cells #[.bool ack, .int .i64 frm, .int .i64 to, .int .u64 (seq : Int), .slice ad bs.length cap] 69)) (.cells #[.bool ack, .int .i64 frm, .int .i64 to, .int .u64 (seq : Int), .slice ad2 bs.length cap2] 69)
  have heq := equal_any _ _ bs bs _ hby hby (h1.below hbA) (h2.below hbA)
  rw [decide_eq_true rfl] at heq
  go_enter Try.func35, Try.ntmps35
  go_wp2_with fail
  refine heq.mono ?_
  rintro _ _ ⟨rfl, rfl⟩
  go_wp2
  go_ret
  exact ⟨rfl, hbA⟩

def decPE (k : Pk) (r : List Nat) : Rd Pk := if rightP k = true then .ok k r else .fault 3
/-- What follows the four numbers. -/
def decPT (a f t s : Nat) (r : List Nat) : Rd Pk := if a = 1 then decPE ⟨true, f, t, s, []⟩ r else match decT 1800 r with
  | .ok d r5 => decPE ⟨false, f, t, s, d⟩ r5
  | .fault e => .fault e
/-- A packet that lies before a reader. -/
def decP (bs : List Nat) : Rd Pk := match decS 1 bs with
  | .ok a r1 => (match decS 12 r1 with
    | .ok f r2 => (match decS 12 r2 with
      | .ok t r3 => (match decN true 0 r3 with
        | .ok s r4 => decPT a f t s r4
        | .fault e => .fault e)
      | .fault e => .fault e)
    | .fault e => .fault e)
  | .fault e => .fault e
def goodP (k : Pk) : Prop := rightP k = true ∧ ∀ x ∈ k.bs, x < 256
theorem codeP : Code decP encP goodP := by
  constructor
  · intro bs k r hb h
    unfold decP at h
    cases e0 : decS 1 bs with
    | fault z => rw [e0] at h; cases h
    | ok a r1 =>
    rw [e0] at h; simp only at h
    have s0 := (codeS 1 (by decide)).sound hb e0
    have b1 := (codeS 1 (by decide)).rest hb e0
    cases e1 : decS 12 r1 with
    | fault z => rw [e1] at h; cases h
    | ok f r2 =>
    rw [e1] at h; simp only at h
    have s1 := (codeS 12 (by decide)).sound b1 e1
    have b2 := (codeS 12 (by decide)).rest b1 e1
    cases e2 : decS 12 r2 with
    | fault z => rw [e2] at h; cases h
    | ok t r3 =>
    rw [e2] at h; simp only at h
    have s2 := (codeS 12 (by decide)).sound b2 e2
    have b3 := (codeS 12 (by decide)).rest b2 e2
    cases e3 : decN true 0 r3 with
    | fault z => rw [e3] at h; cases h
    | ok s r4 =>
    rw [e3] at h; simp only at h
    have s3 := codeN.sound b3 e3
    have b4 := codeN.rest b3 e3
    unfold decPT at h
    split at h
    · rename_i ha
      unfold decPE at h
      split at h
      · rename_i hr
        cases h
        refine ⟨⟨hr, fun x hx => by cases hx⟩, ?_⟩
        unfold encP
        rw [s0.2, s1.2, s2.2, s3.2, ha]
        simp
      · cases h
    · rename_i ha
      cases e4 : decT 1800 r4 with
      | fault z => rw [e4] at h; cases h
      | ok d r5 =>
      rw [e4] at h; simp only at h
      have s4 := (codeT 1800 (by decide)).sound b4 e4
      unfold decPE at h
      split at h
      · rename_i hr
        cases h
        refine ⟨⟨hr, s4.1.2⟩, ?_⟩
        have ha0 : a = 0 := by have := s0.1; omega
        unfold encP
        rw [s0.2, s1.2, s2.2, s3.2, s4.2, ha0]
        simp
      · cases h
  · intro k r ⟨hr, hb⟩
    obtain ⟨⟨r1, r2⟩, ⟨r3, r4⟩, r5, r6, r7, r8⟩ := (rightP_iff k).1 hr
    obtain ⟨ack, frm, to, seq, bs⟩ := k
    simp only at r1 r2 r3 r4 r6 r7 hb
    obtain ⟨nf, rfl⟩ : ∃ n : Nat, frm = n := ⟨frm.toNat, by omega⟩
    obtain ⟨nt, rfl⟩ : ∃ n : Nat, to = n := ⟨to.toNat, by omega⟩
    unfold encP decP
    simp only [Int.toNat_natCast, List.append_assoc]
    cases ack
    · have hd : txt bs = true := r8
      have hd2 := (txt_iff bs).1 hd
      rw [show (if (false : Bool) = true then 1 else 0) = 0 from rfl, (codeS 1 (by decide)).whole _ (by omega)]
      simp only
      rw [(codeS 12 (by decide)).whole _ (by omega)]
      simp only
      rw [(codeS 12 (by decide)).whole _ (by omega)]
      simp only
      rw [num_whole _ (by omega)]
      simp only
      unfold decPT
      rw [if_neg (by decide), show (if (false : Bool) = true then [] else encT bs) = encT bs from rfl, (codeT 1800 (by decide)).whole _ ⟨hd2.2, hb⟩]
      simp only
      unfold decPE
      rw [if_pos hr]
    · have hd : bs.length = 0 := of_decide_eq_true r8
      obtain rfl : bs = [] := List.eq_nil_of_length_eq_zero hd
      rw [show (if (true : Bool) = true then 1 else 0) = 1 from rfl, (codeS 1 (by decide)).whole _ (by omega)]
      simp only
      rw [(codeS 12 (by decide)).whole _ (by omega)]
      simp only
      rw [(codeS 12 (by decide)).whole _ (by omega)]
      simp only
      rw [num_whole _ (by omega)]
      simp only
      unfold decPT
      rw [if_pos rfl]
      unfold decPE
      rw [if_pos hr]
      rfl
/-- A packet and its sum. -/
def decR (bs : List Nat) : Rd (Pk × Nat) := match decP bs with
  | .ok k r => (match decS 4294967295 r with
    | .ok s r2 => .ok (k, s) r2
    | .fault e => .fault e)
  | .fault e => .fault e
def encR (x : Pk × Nat) : List Nat := encP x.1 ++ numB x.2
theorem codeR : Code decR encR (fun x => goodP x.1 ∧ x.2 ≤ 4294967295) := by
  constructor
  · intro bs x r hb h
    unfold decR at h
    cases e0 : decP bs with
    | fault z => rw [e0] at h; cases h
    | ok k r1 =>
    rw [e0] at h; simp only at h
    have s0 := codeP.sound hb e0
    have b1 := codeP.rest hb e0
    cases e1 : decS 4294967295 r1 with
    | fault z => rw [e1] at h; cases h
    | ok s r2 =>
    rw [e1] at h; simp only at h
    have s1 := (codeS 4294967295 (by decide)).sound b1 e1
    cases h
    refine ⟨⟨s0.1, s1.1⟩, ?_⟩
    unfold encR
    rw [s0.2, s1.2, List.append_assoc]
  · intro x r ⟨h1, h2⟩
    unfold encR decR
    rw [List.append_assoc, codeP.whole _ h1]
    simp only
    rw [(codeS 4294967295 (by decide)).whole _ h2]
theorem encW_is (k : Pk) : encW k = encR (k, crcN (encP k)) := rfl
theorem fal_P (bs : List Nat) : Fal (decP bs) := by
  unfold decP
  cases e0 : decS 1 bs with
  | fault z => exact fal_fault (fal_S 1 bs) e0
  | ok a r1 =>
    simp only
    cases e1 : decS 12 r1 with
    | fault z => exact fal_fault (fal_S 12 r1) e1
    | ok f r2 =>
      simp only
      cases e2 : decS 12 r2 with
      | fault z => exact fal_fault (fal_S 12 r2) e2
      | ok t r3 =>
        simp only
        cases e3 : decN true 0 r3 with
        | fault z => exact fal_fault (fal_N r3 true 0) e3
        | ok s r4 =>
          simp only
          unfold decPT
          split
          · unfold decPE
            split
            · exact fal_ok _ _
            · exact fal_3
          · cases e4 : decT 1800 r4 with
            | fault z => exact fal_fault (fal_T r4) e4
            | ok d r5 =>
              simp only
              unfold decPE
              split
              · exact fal_ok _ _
              · exact fal_3
theorem fal_R (bs : List Nat) : Fal (decR bs) := by
  unfold decR
  cases e0 : decP bs with
  | fault z => exact fal_fault (fal_P bs) e0
  | ok k r =>
    simp only
    cases e1 : decS 4294967295 r with
    | fault z => exact fal_fault (fal_S 4294967295 r) e1
    | ok s r2 => exact fal_ok _ _

/-- What a packet's reader hands back. -/
def pkV (B : Nat) (k : Pk) (v : Value) (w : World) : Prop := ∃ ad cap, v = .agg (pkA k ad cap) ∧ DatAt w k ad cap ∧ (0 < k.bs.length → ∀ b, blkOf (.slice ad k.bs.length cap) = some b → B ≤ b)
theorem dat_set {w : World} {k : Pk} {ad : Option Addr} {cap q : Nat} {W : World} (h : DatAt w k ad cap) (hg : w.grownBy W (some q)) (hne : 0 < k.bs.length → ∀ b, blkOf (.slice ad k.bs.length cap) = some b → b ≠ q) : DatAt W k ad cap := by
  by_cases h0 : 0 < k.bs.length
  · refine SliceAt.kept h hg.size fun b hb => hg.block b (h.blk h0 b hb) fun e => ?_
    exact hne h0 b hb (Option.some.inj e)
  · obtain ⟨_, _, e, h2, h3, _⟩ := h
    cases e
    exact ⟨ad, cap, rfl, h2, h3, .inl (by omega)⟩
end Go.Proofs.Ytnpofcnibgdjhaa
