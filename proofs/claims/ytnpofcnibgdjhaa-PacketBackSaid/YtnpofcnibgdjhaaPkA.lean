/- The check sum; bytes that are equal, or begin with others. -/
import Derived.Test.YtnpofcnibgdjhaaLkH
namespace Go.Proofs.Ytnpofcnibgdjhaa
open Go.RowKit

/-- A bit further. -/
def stepC (x : Int) : Int := if (x / 2147483648 == 1) = true then bits .xor .u32 (x * 2 % 4294967296) 79764919 else x * 2 % 4294967296
def itC' : Nat → Int → Int
  | 0, x => x
  | k + 1, x => stepC (itC' k x)
def onI (s : Int) (c : Nat) : Int := itC' 8 (bits .xor .u32 s ((c : Int) * 16777216))
def crcS (bs : List Nat) : Int := bs.foldl onI 4294967295
/-- The sum of bytes. -/
def crcI (bs : List Nat) : Int := bits .xor .u32 (crcS bs) 4294967295
def crcN (bs : List Nat) : Nat := (crcI bs).toNat
theorem crc_range (bs : List Nat) : 0 ≤ crcI bs ∧ crcI bs < 4294967296 := by
  have h : ∃ m : Int, crcI bs = IntKind.u32.wrap m := ⟨_, rfl⟩
  obtain ⟨m, h⟩ := h
  rw [h, IntKind.wrap_u32]
  omega
theorem crc_nat (bs : List Nat) : crcI bs = (crcN bs : Int) ∧ crcN bs ≤ 4294967295 := by
  have := crc_range bs
  unfold crcN
  omega

set_option maxRecDepth 100000 in
theorem on_any (s : Int) (c : Nat) (w : World) (hc : c < 256) :
    Calls Try.prog 123 #[.int .u32 s, .int .u8 (c : Int)] w fun e w' => e = .returned (.int .u32 (onI s c)) ∧ w = w' := by
  go_enter Try.func123, Try.ntmps123
  go_wp2_with fail
  go_loopw [0, 11] (fun v i wr => ∃ (k : Nat), k ≤ 8 ∧ i = .int .i64 (k : Int) ∧ v = .int .u32 (itC' k (bits .xor .u32 s ((c : Int) * 16777216))) ∧ w = wr) (fun _ i _ => 8 - (intOf i).toNat)
  case atStart => exact ⟨0, by omega, rfl, rfl, rfl⟩
  case round =>
    obtain ⟨k, hk, rfl, rfl, rfl⟩ := hrel
    have hs : itC' (k + 1) (bits .xor .u32 s ((c : Int) * 16777216)) = stepC (itC' k (bits .xor .u32 s ((c : Int) * 16777216))) := rfl
    by_cases hlt : k < 8
    · obtain ⟨x, hx⟩ : ∃ x, Hid (x = itC' k (bits .xor .u32 s ((c : Int) * 16777216))) := ⟨_, hidP rfl⟩
      rw [← hx.out] at hs ⊢
      have hsh := hidP hs
      clear hs
      cases hb : (x / 2147483648 == 1)
      · have e : stepC x = x * 2 % 4294967296 := by unfold stepC; rw [hb]; rfl
        have eh := hidP e
        clear e
        go_wp2
        go_roundw
        case rel => exact ⟨k + 1, by omega, by go_num, by rw [hsh.out, eh.out], by simp⟩
        case measure => simp [intOf]; omega
      · have e : stepC x = bits .xor .u32 (x * 2 % 4294967296) 79764919 := by unfold stepC; rw [hb]; rfl
        have eh := hidP e
        clear e
        go_wp2
        go_roundw
        case rel => exact ⟨k + 1, by omega, by go_num, by rw [hsh.out, eh.out], by simp⟩
        case measure => simp [intOf]; omega
    · obtain rfl : k = 8 := by omega
      clear hs
      go_wp2
      go_ret
      exact ⟨rfl, rfl⟩
theorem crc_take (bs : List Nat) (k : Nat) (h : k < bs.length) : (bs.take (k + 1)).foldl onI 4294967295 = onI ((bs.take k).foldl onI 4294967295) (bs.getD k 0) := by
  rw [List.take_add_one, List.getElem?_eq_getElem h, List.foldl_append, List.getD_eq_getElem?_getD, List.getElem?_eq_getElem h]
  rfl

set_option maxRecDepth 100000 in
set_option maxHeartbeats 1600000 in
theorem join_any (b : Nat) (bv : Value) (bs : List Nat) (w : World) (hby : ∀ x ∈ bs, x < 256) (hv : SliceAt w bv bs.length 1 (bC bs)) (hl : look w b = some (.cells #[bv] 30 (0, 0))) :
    Calls Try.prog 115 #[.slice (some ⟨b, 0, none⟩) 1 1] w fun e w' => e = .returned (.int .u32 (crcI bs)) ∧ w = w' := by
  obtain ⟨ad, cap, rfl, _, hcap, h4⟩ := hv
  have hc0 : w.cell? ⟨b, 0, none⟩ = some (.slice ad bs.length cap) := by rw [look_cell hl]; rfl
  have hlen : bs.length ≤ 9223372036854775807 := hcap.2
  go_enter Try.func115, Try.ntmps115
  go_wp2_with fail
  go_loopw [3, 10] (fun s i wr => ((i = .int .i64 0 ∧ s = .int .u32 4294967295) ∨ (i = .int .i64 1 ∧ s = .int .u32 (crcS bs))) ∧ w = wr) (fun _ i _ => 1 - (intOf i).toNat)
  case atStart => exact ⟨.inl ⟨rfl, rfl⟩, rfl⟩
  case round =>
    obtain ⟨hs, rfl⟩ := hrel
    rcases hs with ⟨rfl, rfl⟩ | ⟨rfl, rfl⟩
    · go_wp2_with fail
      go_loopw [3, 16] (fun s i wr => ∃ k : Nat, k ≤ bs.length ∧ i = .int .i64 (k : Int) ∧ s = .int .u32 ((bs.take k).foldl onI 4294967295) ∧ w = wr) (fun _ i _ => bs.length - (intOf i).toNat)
      case atStart => exact ⟨0, by omega, rfl, rfl, rfl⟩
      case round =>
        obtain ⟨k, hk, rfl, rfl, rfl⟩ := hrel
        by_cases hlt : k < bs.length
        · obtain ⟨g, off, rfl, _, hR⟩ := h4.resolve_left (by omega)
          obtain ⟨c, hc⟩ : ∃ c, Hid (c = bs.getD k 0) := ⟨_, hidP rfl⟩
          have hck : w.cell? ⟨g, off + k, none⟩ = some (.int .u8 (c : Int)) := by
            have := hR k hlt 0 _ rfl
            rw [Nat.mul_one, Nat.add_zero] at this
            rw [hc.out]
            exact this
          have hc256 : c < 256 := by
            rw [hc.out, List.getD_eq_getElem?_getD, List.getElem?_eq_getElem hlt]
            exact hby _ (List.getElem_mem hlt)
          have hst := hidP (crc_take bs k hlt)
          obtain ⟨x, hx⟩ : ∃ x, Hid (x = (bs.take k).foldl onI 4294967295) := ⟨_, hidP rfl⟩
          rw [← hx.out]
          clear hR
          go_wp2_with fail
          refine (on_any x c _ hc256).mono ?_
          rintro _ _ ⟨rfl, rfl⟩
          go_wp2
          go_roundw
          case rel => exact ⟨k + 1, by omega, by go_num, by rw [hst.out, hc.out, hx.out], by simp⟩
          case measure => simp [intOf]; omega
        · have hkn : k = bs.length := by omega
          have e : (bs.take k).foldl onI 4294967295 = crcS bs := by rw [hkn, List.take_length]; rfl
          rw [e]
          have hkh := hidP hkn
          clear hkn e
          go_wp2
          go_roundw
          case rel => exact ⟨.inr ⟨rfl, rfl⟩, by simp⟩
          case measure => simp [intOf]
    · go_wp2
      go_ret
      exact ⟨rfl, rfl⟩

set_option maxRecDepth 100000 in
theorem crcof_any (bv : Value) (bs : List Nat) (w : World) (hby : ∀ x ∈ bs, x < 256) (hv : SliceAt w bv bs.length 1 (bC bs)) :
    Calls Try.prog 80 #[bv] w fun e w' => e = .returned (.int .u32 (crcI bs)) ∧ Below w.heap.size w w' := by
  obtain ⟨ad, cap, rfl⟩ := row_one hv
  have hbA := belA (bel0 w) (.cells #[.slice ad bs.length cap] 30)
  go_enter Try.func80, Try.ntmps80
  go_wp2_with fail
  refine (join_any w.heap.size _ bs _ hby (hv.below hbA) (look_alloc_at _ _ _ rfl)).mono ?_
  rintro _ _ ⟨rfl, rfl⟩
  go_wp2
  go_ret
  exact ⟨rfl, hbA⟩

set_option maxRecDepth 100000 in
theorem equal_any (va vb : Value) (a b : List Nat) (w : World) (ha : ∀ x ∈ a, x < 256) (hb : ∀ x ∈ b, x < 256) (hva : SliceAt w va a.length 1 (bC a)) (hvb : SliceAt w vb b.length 1 (bC b)) :
    Calls Try.prog 84 #[va, vb] w fun e w' => e = .returned (.bool (decide (a = b))) ∧ w = w' := by
  have q1 := conv_str hva
  have q2 := conv_str hvb
  have q3 := str_eq ha hb
  go_enter Try.func84, Try.ntmps84
  go_wp2
  go_ret
  exact ⟨rfl, rfl⟩
set_option maxRecDepth 100000 in
set_option maxHeartbeats 1600000 in
theorem prefix_any (va vb : Value) (a b : List Nat) (w : World) (ha : ∀ x ∈ a ++ b, x < 256) (hva : SliceAt w va (a ++ b).length 1 (bC (a ++ b))) (hvb : SliceAt w vb a.length 1 (bC a)) :
    Calls Try.prog 85 #[va, vb] w fun e w' => e = .returned (.bool true) ∧ w = w' := by
  obtain ⟨ad, cap, rfl⟩ := row_one hva
  obtain ⟨bd, bcap, rfl⟩ := row_one hvb
  have hle : a.length ≤ (a ++ b).length := by rw [List.length_append]; omega
  have htk : (a ++ b).take a.length = a := by simp
  have hup := hva.upto2 (m := a.length) hle rfl
  rw [htk] at hup
  have hcap : a.length ≤ cap := by obtain ⟨_, _, e, _, h, _⟩ := hva; cases e; omega
  have ha1 : ∀ x ∈ a, x < 256 := fun x hx => ha x (List.mem_append_left _ hx)
  have heq := equal_any _ _ a a w ha1 ha1 hup hvb
  rw [decide_eq_true rfl] at heq
  have hl63 : (a ++ b).length ≤ 9223372036854775807 := by obtain ⟨_, _, e, _, h, _⟩ := hva; cases e; exact h.2
  obtain ⟨n, hn⟩ : ∃ n, Hid (n = (a ++ b).length) := ⟨_, hidP rfl⟩
  rw [← hn.out] at hle hl63 ⊢
  have dle : decide ((a.length : Int) ≤ (n : Int)) = true := decide_eq_true (by omega)
  clear htk hup hva hvb
  go_enter Try.func85, Try.ntmps85
  go_wp2_with fail
  refine heq.mono ?_
  rintro _ _ ⟨rfl, rfl⟩
  go_wp2
  go_ret
  exact ⟨rfl, rfl⟩
end Go.Proofs.Ytnpofcnibgdjhaa
