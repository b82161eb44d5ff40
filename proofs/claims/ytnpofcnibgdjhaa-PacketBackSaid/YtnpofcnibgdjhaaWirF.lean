/- The reader of bytes: a number. -/
import Derived.Test.YtnpofcnibgdjhaaWirE
namespace Go.Proofs.Ytnpofcnibgdjhaa
open Go.RowKit
variable {X : Nat → Prop}

/-- What comes of reading: something and what is left; or a fault. -/
inductive Rd (α : Type) where
  | ok (x : α) (rest : List Nat)
  | fault (e : Int)
/-- A number, so far m; 'fi': no byte was read yet. -/
def decN : Bool → Nat → List Nat → Rd Nat
  | _, _, [] => .fault 8
  | fi, m, c :: t => if fi = true ∧ c = 128 then .fault 3 else if 144115188075855872 ≤ m then .fault 3 else if c < 128 then .ok (m * 128 + c % 128) t else decN false (m * 128 + c % 128) t
/-- How many bytes lie before the reader. -/
def rdLen (w : World) (p : Nat) : Nat := match w.cell? ⟨p, 0, none⟩ with
  | some (.slice _ n _) => n
  | _ => 0
theorem rdLen_at {w : World} {p : Nat} {bs : List Nat} (h : RdAt X w p bs) : rdLen w p = bs.length := by
  obtain ⟨v, hl, ⟨ad, cap, rfl, _⟩, _⟩ := h
  unfold rdLen
  rw [look_cell hl]
  rfl
theorem or_low (m c : Nat) (hm : m < 144115188075855872) : bits .or .u64 ((m : Int) * 128) ((c : Int) % 128) = ((m * 128 + c % 128 : Nat) : Int) := by
  have h := Go.bits_or_u64_nat (m * 128) (c % 128) (by omega) (by omega)
  have e : ((m * 128 : Nat) : Int) = (m : Int) * 128 := by omega
  have e2 : ((c % 128 : Nat) : Int) = (c : Int) % 128 := by omega
  rw [e, e2] at h
  have h2 := Nat.two_pow_add_eq_or_of_lt (i := 7) (b := c % 128) (by have := Nat.mod_lt c (show 128 > 0 by decide); omega) m
  have h3 : m * 128 ||| c % 128 = m * 128 + c % 128 := by
    rw [Nat.mul_comm m 128]
    exact h2.symm
  rw [h3] at h
  exact h

set_option maxRecDepth 100000 in
set_option maxHeartbeats 1600000 in
theorem take_short (p n : Nat) (bs : List Nat) (w : World) (hn : bs.length < n) (hn2 : n ≤ 9223372036854775807) (h : RdAt X w p bs) :
    Calls Try.prog 122 #[.pointer (some ⟨p, 0, none⟩), .int .i64 (n : Int)] w fun e w' => faultC 8 e ∧ w = w' := by
  obtain ⟨v, hl, hS, _⟩ := h
  obtain ⟨ad, cap, rfl, hnil, hlc, hR⟩ := hS
  have hc0 : w.cell? ⟨p, 0, none⟩ = some (.slice ad bs.length cap) := by rw [look_cell hl]; rfl
  go_enter Try.func122, Try.ntmps122
  go_wp2
  exact ⟨rfl, rfl, rfl⟩

/-- What a reader's call leaves, told by what was to be read. -/
def rdPost (X : Nat → Prop) {α : Type} (r : Rd α) (val : α → Value) (p : Nat) (w : World) (e : Ending) (w' : World) : Prop :=
  w.grownBy w' (some p) ∧ match r with
    | .ok x rest => e = .returned (val x) ∧ RdAt X w' p rest
    | .fault k => faultC k e

set_option maxRecDepth 100000 in
set_option maxHeartbeats 3200000 in
theorem rnum_any (p : Nat) (bs : List Nat) (w : World) (hby : ∀ x ∈ bs, x < 256) (h : RdAt X w p bs) :
    Calls Try.prog 109 #[.pointer (some ⟨p, 0, none⟩)] w fun e w' => rdPost X (decN true 0 bs) (fun x => .int .u64 (x : Int)) p w e w' := by
  go_enter Try.func109, Try.ntmps109
  go_wp2_with fail
  refine (made_any p bs _ h).mono ?_
  rintro _ _ ⟨rfl, rfl⟩
  go_wp2
  go_loopw [3, 4] (fun s f wr => ∃ (m : Nat) (fi : Bool) (rest : List Nat), s = .int .u64 (m : Int) ∧ f = .bool fi ∧ m < 18446744073709551616 ∧ decN true 0 bs = decN fi m rest ∧ (∀ x ∈ rest, x < 256) ∧ RdAt X wr p rest ∧ w.grownBy wr (some p)) (fun _ _ wr => rdLen wr p)
  case atStart => exact ⟨0, true, bs, rfl, rfl, by omega, rfl, hby, h, grown_refl _ _⟩
  case round =>
    obtain ⟨m, fi, rest, rfl, rfl, hm, hdec, hbr, hrd, hgr⟩ := hrel
    have hlen := hidP (rdLen_at hrd)
    cases rest with
    | nil =>
      go_wp2_with fail
      refine (take_short p 1 [] _ (by simp) (by omega) hrd).mono ?_
      rintro e w1 ⟨hf, rfl⟩
      cases hf
      go_wp2
      refine ⟨rfl, hgr, ?_⟩
      rw [hdec]
      rfl
    | cons c t =>
      have hc := hbr c (by simp)
      have hbt : ∀ x ∈ t, x < 256 := fun x hx => hbr x (by simp [hx])
      go_wp2_with fail
      refine (take_any p 1 (c :: t) _ (by simp) hrd).mono ?_
      rintro e w1 ⟨⟨u, rfl, hu⟩, hrd1, hg1⟩
      have hrd2 : RdAt X w1 p t := hrd1
      have hgr1 := grown_trans hgr hg1
      obtain ⟨ad, cap, rfl, _, _, hR⟩ := hu
      obtain ⟨b, off, rfl, _, hcell⟩ := hR.resolve_left (by omega)
      have hc1 : w1.cell? ⟨b, off, none⟩ = some (.int .u8 (c : Int)) := hcell 0 (by omega) 0 _ rfl
      clear hcell hR hrd1 hg1
      have hle2 : rdLen w1 p < rdLen wr p := by rw [rdLen_at hrd2, hlen.out]; simp
      have hlh := hidP hle2
      clear hle2 hlen hrd
      by_cases h128 : fi = true ∧ c = 128
      · obtain ⟨rfl, rfl⟩ := h128
        have hdv : decN true 0 bs = .fault 3 := by rw [hdec]; unfold decN; rw [if_pos ⟨rfl, rfl⟩]
        go_wp2_with fail
        refine (must_bad (by simp <;> omega) _).mono ?_
        rintro e w2 ⟨hf, rfl⟩
        cases hf
        go_wp2
        refine ⟨rfl, hgr1, ?_⟩
        rw [hdv]
        rfl
      · have hgo : decN true 0 bs = if 144115188075855872 ≤ m then .fault 3 else if c < 128 then .ok (m * 128 + c % 128) t else decN false (m * 128 + c % 128) t := by
          rw [hdec, decN, if_neg h128]
        clear hdec
        have hgh := hidP hgo
        clear hgo
        have hfi : fi = false ∨ (fi = true ∧ ¬ c = 128) := by cases fi <;> simp_all
        by_cases hbig : 144115188075855872 ≤ m
        · have hdv : decN true 0 bs = .fault 3 := by rw [hgh.out, if_pos hbig]
          have hdh := hidP hdv
          clear hdv
          rcases hfi with rfl | ⟨rfl, hne⟩
          all_goals
            go_wp2_with fail
            refine (must_ok (by simp <;> omega) _).mono ?_
            rintro _ w2 ⟨rfl, rfl⟩
            go_wp2_with fail
            refine (must_bad (by simp <;> omega) _).mono ?_
            rintro e w2 ⟨hf, rfl⟩
            cases hf
            go_wp2
            refine ⟨rfl, hgr1, ?_⟩
            rw [hdh.out]
            rfl
        · have hor := or_low m c (by omega)
          rw [if_neg hbig] at hgh
          have e2 : IntKind.u64.wrap ((m : Int) * 128) = (m : Int) * 128 := by rw [IntKind.wrap_u64]; omega
          rcases hfi with rfl | ⟨rfl, hne⟩
          all_goals
            go_wp2_with fail
            refine (must_ok (by simp <;> omega) _).mono ?_
            rintro _ w2 ⟨rfl, rfl⟩
            go_wp2_with fail
            refine (must_ok (by simp <;> omega) _).mono ?_
            rintro _ w2 ⟨rfl, rfl⟩
            by_cases hlow : c < 128
            · have hdv : decN true 0 bs = .ok (m * 128 + c % 128) t := by rw [hgh.out, if_pos hlow]
              have hdh := hidP hdv
              clear hdv
              go_wp2
              go_ret
              refine ⟨hgr1, ?_⟩
              rw [hdh.out]
              exact ⟨rfl, hrd2⟩
            · have hdv : decN true 0 bs = decN false (m * 128 + c % 128) t := by rw [hgh.out, if_neg hlow]
              have hdh := hidP hdv
              clear hdv
              go_wp2
              go_roundw
              case rel => exact ⟨m * 128 + c % 128, false, t, rfl, rfl, by omega, hdh.out, hbt, hrd2, hgr1⟩
              case measure => exact hlh.out
end Go.Proofs.Ytnpofcnibgdjhaa
