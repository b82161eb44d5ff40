/- The reader of bytes: a float. -/
import Derived.Test.YtniphfkipjpikaaWirP
namespace Go.Proofs.Ytniphfkipjpikaa
open Go.RowKit
variable {X : Nat → Prop}

/-- The number of bytes, the highest first. -/
def valB (l : List Nat) : Nat := l.foldl (fun a c => a * 256 + c) 0
/-- A float, by its bits. -/
def decF (bs : List Nat) : Rd Nat := if 8 ≤ bs.length then .ok (Flt.ofF (valB (bs.take 8))) (bs.drop 8) else .fault 8
theorem valB_snoc (l : List Nat) (c : Nat) : valB (l ++ [c]) = valB l * 256 + c := by
  unfold valB
  rw [List.foldl_append]
  rfl
theorem take_snoc (l : List Nat) (m : Nat) (h : m < l.length) : l.take (m + 1) = l.take m ++ [l.getD m 0] := by
  rw [List.take_add_one, List.getD_eq_getElem?_getD]
  congr 1
  rw [List.getElem?_eq_getElem h]
  rfl
theorem valB_lt (l : List Nat) (hb : ∀ x ∈ l, x < 256) : ∀ m, m ≤ l.length → valB (l.take m) < 256 ^ m
  | 0, _ => by simp [valB]
  | m + 1, h => by
    have ih := valB_lt l hb m (by omega)
    have hm : m < l.length := by omega
    rw [take_snoc l m hm, valB_snoc, Nat.pow_succ]
    have hc : l.getD m 0 < 256 := by
      rw [List.getD_eq_getElem?_getD, List.getElem?_eq_getElem hm]
      exact hb _ (List.getElem_mem hm)
    omega
theorem or_byte (m c : Nat) (hm : m < 72057594037927936) (hc : c < 256) : bits .or .u64 ((m : Int) * 256) (c : Int) = ((m * 256 + c : Nat) : Int) := by
  have h := Go.bits_or_u64_nat (m * 256) c (by omega) (by omega)
  have e : ((m * 256 : Nat) : Int) = (m : Int) * 256 := by omega
  rw [e] at h
  have h2 := Nat.two_pow_add_eq_or_of_lt (i := 8) (b := c) (by omega) m
  have h3 : m * 256 ||| c = m * 256 + c := by
    rw [Nat.mul_comm m 256]
    exact h2.symm
  rw [h3] at h
  exact h
theorem pow7 {m : Nat} (h : m ≤ 7) : 256 ^ m ≤ 72057594037927936 := by
  have h1 : 256 ^ m ≤ 256 ^ 7 := Nat.pow_le_pow_right (by omega) h
  rw [show (256 : Nat) ^ 7 = 72057594037927936 by decide] at h1
  exact h1

set_option maxRecDepth 100000 in
set_option maxHeartbeats 3200000 in
theorem rfloat_any (p : Nat) (bs : List Nat) (w : World) (hby : ∀ x ∈ bs, x < 256) (h : RdAt X w p bs) :
    Calls Try.prog 44 #[.pointer (some ⟨p, 0, none⟩)] w fun e w' => rdPost X (decF bs) (fun b => .float .f64 b) p w e w' := by
  go_enter Try.func44, Try.ntmps44
  go_wp2_with fail
  refine (made_any p bs _ h).mono ?_
  rintro _ _ ⟨rfl, rfl⟩
  by_cases h8 : 8 ≤ bs.length
  · have hdv : decF bs = .ok (Flt.ofF (valB (bs.take 8))) (bs.drop 8) := by unfold decF; rw [if_pos h8]
    have htl : (bs.take 8).length = 8 := by rw [List.length_take]; omega
    have hbt : ∀ x ∈ bs.take 8, x < 256 := fun x hx => hby x (List.mem_of_mem_take hx)
    go_wp2_with fail
    refine (take_any p 8 bs _ h8 h).mono ?_
    rintro _ w1 ⟨⟨u, rfl, hu⟩, hrd, hg⟩
    obtain ⟨ad, cap, rfl, _, hcap, h4⟩ := hu
    obtain ⟨b, off, rfl, hb, hR⟩ := h4.resolve_left (by omega)
    have hcx : Hid (∀ m, m < 8 → w1.cell? ⟨b, off + m, none⟩ = some (.int .u8 (((bs.take 8).getD m 0 : Nat) : Int))) := hidP (fun m hm => by
      have := hR m hm 0 _ rfl
      simpa using this)
    have hfin := rd_ok (val := fun b => Value.float .f64 b) hdv hg hrd
    have hfh := hidP hfin
    have hvl := valB_lt (bs.take 8) hbt
    have hbl : ∀ m, m < 8 → (bs.take 8).getD m 0 < 256 := fun m hm => by
      rw [List.getD_eq_getElem?_getD, List.getElem?_eq_getElem (by omega)]
      exact hbt _ (List.getElem_mem _)
    generalize bs.take 8 = xs at hcx htl hvl hbl hfh
    have hvh := hidP hvl
    have hbh := hidP hbl
    clear hfin hR hbt hdv h8 hvl hbl h4
    go_wp2_with fail
    go_loopw [3, 12] (fun q x wr => ∃ m : Nat, m ≤ 8 ∧ x = .int .i64 (m : Int) ∧ q = .int .u64 ((valB (xs.take m) : Nat) : Int) ∧ wr = w1) (fun _ x _ => (8 - intOf x).toNat)
    case atStart => exact ⟨0, by omega, rfl, by simp [valB], rfl⟩
    case round =>
      obtain ⟨m, hm, rfl, rfl, rfl⟩ := hrel
      by_cases hlt : m < 8
      · have hd : decide ((m : Int) < 8) = true := decide_eq_true (by omega)
        have hc := hcx.out m hlt
        have hcb := hbh.out m hlt
        have hvm := hvh.out m (by omega)
        have hp7 := pow7 (m := m) (by omega)
        have hsn : Hid (valB (xs.take (m + 1)) = valB (xs.take m) * 256 + xs.getD m 0) := hidP (by rw [take_snoc xs m (by omega), valB_snoc])
        generalize xs.getD m 0 = c at hc hcb hsn
        generalize valB (xs.take m) = k at hvm hsn ⊢
        have hk7 : k < 72057594037927936 := by omega
        have hor := or_byte k c hk7 hcb
        have hw1 : IntKind.u64.wrap ((k : Int) * 256) = (k : Int) * 256 := by rw [IntKind.wrap_u64]; omega
        have hw2 : IntKind.u64.wrap (c : Int) = (c : Int) := by rw [IntKind.wrap_u64]; omega
        clear hvm hp7
        go_wp2_with fail
        go_roundw
        case rel => exact ⟨m + 1, by omega, by go_num, by rw [hsn.out]; go_num, trivial⟩
        case measure => simp [intOf]; omega
      · obtain rfl : m = 8 := by omega
        have e8 : Hid (xs.take 8 = xs) := hidP (by rw [List.take_of_length_le (by omega)])
        have hv8 := hvh.out 8 (by omega)
        rw [show (256 : Nat) ^ 8 = 18446744073709551616 by decide, e8.out] at hv8
        rw [e8.out]
        generalize valB xs = k at hv8 hfh ⊢
        go_wp2_with fail
        refine (total_of k hv8 _).mono ?_
        rintro _ _ ⟨rfl, rfl⟩
        go_wp2
        go_ret
        exact hfh.out
  · have hdv : decF bs = .fault 8 := by unfold decF; rw [if_neg h8]
    go_wp2_with fail
    refine (take_short p 8 bs _ (by omega) (by omega) h).mono ?_
    rintro e w2 ⟨hf, rfl⟩
    cases hf
    go_wp2
    exact ⟨rfl, rd_fault hdv (grown_refl _ _)⟩
end Go.Proofs.Ytniphfkipjpikaa
