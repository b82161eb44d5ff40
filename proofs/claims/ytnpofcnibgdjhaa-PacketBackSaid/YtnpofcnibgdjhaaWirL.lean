/- Bytes as a string; whether two of them are equal, or less. -/
import Derived.Test.YtnpofcnibgdjhaaWirK
import Derived.Laws.BytesArg
namespace Go.Proofs.Ytnpofcnibgdjhaa
open Go.RowKit

/-- Bytes as a string. -/
def strN (bs : List Nat) : ByteArray := ⟨(bs.map fun x => UInt8.ofNat x).toArray⟩
theorem strN_list (bs : List Nat) : (strN bs).toList = bs.map fun x => UInt8.ofNat x := ByteArray.toList_mk _
theorem conv_zero {P : Program} (w : World) (src e : TypeId) (hs : P.underlying src = some (.slice e)) (he : P.underlying e = some (.int .u8)) (p : Option Addr) (c : Nat) :
    ∀ dst, P.underlying dst = some .string → (convert src dst (.slice p 0 c)).run P w = .ok (.string ByteArray.empty) w := by
  intro dst hd
  rw [run_convert_bytes_string w src dst e _ 0 c hs he hd]
  cases p <;> simp [Conv.bytesToString, loadCells]
  all_goals rfl
theorem conv_str {w : World} {v : Value} {bs : List Nat} (h : SliceAt w v bs.length 1 (bC bs)) : (convert 30 9 v).run Try.prog w = .ok (.string (strN bs)) w := by
  obtain ⟨ad, cap, rfl, h2, h3, h4⟩ := h
  by_cases hn : bs.length = 0
  · obtain rfl : bs = [] := List.eq_nil_of_length_eq_zero hn
    exact conv_zero w 30 5 Try.underlying30 Try.underlying5 ad cap 9 Try.underlying9
  · obtain ⟨b, off, rfl, hb, hR⟩ := h4.resolve_left hn
    have h := run_convert_bytes_arg (P := Try.prog) w 30 5 Try.underlying30 Try.underlying5 b off bs.length cap (bs.map Int.ofNat) (by rw [List.length_map]) (fun i hi => by
      have := hR i hi 0 _ rfl
      rw [Nat.mul_one, Nat.add_zero] at this
      rw [this, List.getD_eq_getElem?_getD, List.getD_eq_getElem?_getD, List.getElem?_map, List.getElem?_eq_getElem hi]
      rfl) 9 Try.underlying9
    rw [h]
    have e : strOfNums (bs.map Int.ofNat) = strN bs := by
      unfold strOfNums strN
      rw [List.map_map]
      rfl
    rw [e]
theorem own_slice {w : World} {B : Nat} {v : Value} {bs : List Nat} (h : w.ownsRow B 5 1 v bs.length (bcells bs)) : SliceAt w v bs.length 1 (bC bs) := SliceAt.own (fun _ => rfl) (by rw [rows_bC]; exact h)

theorem u8_inj {a b : Nat} (ha : a < 256) (hb : b < 256) : UInt8.ofNat a = UInt8.ofNat b ↔ a = b := by
  constructor
  · intro h
    have := congrArg UInt8.toNat h
    rw [UInt8.toNat_ofNat', UInt8.toNat_ofNat'] at this
    omega
  · rintro rfl; rfl
theorem u8_lt {a b : Nat} (ha : a < 256) (hb : b < 256) : UInt8.ofNat a < UInt8.ofNat b ↔ a < b := by
  rw [UInt8.lt_iff_toNat_lt, UInt8.toNat_ofNat', UInt8.toNat_ofNat']
  omega
/-- Two texts are the same just if their bytes are. -/
theorem str_eq : ∀ {a b : List Nat}, (∀ x ∈ a, x < 256) → (∀ x ∈ b, x < 256) → ((strN a).toList == (strN b).toList) = decide (a = b) := by
  intro a b ha hb
  rw [strN_list, strN_list]
  by_cases h : a = b
  · subst h; simp
  · rw [decide_eq_false h]
    apply beq_eq_false_iff_ne.2
    intro e
    apply h
    clear h
    induction a generalizing b with
    | nil => cases b with
      | nil => rfl
      | cons y b => simp at e
    | cons x a ih => cases b with
      | nil => simp at e
      | cons y b =>
        simp only [List.map_cons, List.cons.injEq] at e
        rw [(u8_inj (ha x (by simp)) (hb y (by simp))).1 e.1, ih (fun z hz => ha z (by simp [hz])) (fun z hz => hb z (by simp [hz])) e.2]
/-- Of as many bytes, the lesser ones. -/
def lexN : List Nat → List Nat → Bool
  | _, [] => false
  | [], _ :: _ => true
  | a :: x, b :: y => decide (a < b) || (decide (a = b) && lexN x y)
theorem str_lt : ∀ {a b : List Nat}, (∀ x ∈ a, x < 256) → (∀ x ∈ b, x < 256) → Op.bytesLess (strN a).toList (strN b).toList = lexN a b := by
  intro a b ha hb
  rw [strN_list, strN_list]
  induction a generalizing b with
  | nil => cases b <;> simp [Op.bytesLess, lexN]
  | cons x a ih => cases b with
    | nil => simp [Op.bytesLess, lexN]
    | cons y b =>
      simp only [List.map_cons, Op.bytesLess, lexN]
      rw [ih (fun z hz => ha z (by simp [hz])) (fun z hz => hb z (by simp [hz]))]
      have h1 := u8_lt (ha x (by simp)) (hb y (by simp))
      have h2 := u8_inj (ha x (by simp)) (hb y (by simp))
      simp only [h1, decide_eq_true_eq]
      congr 1
      congr 1
      by_cases e : x = y
      · subst e; simp
      · simp [e, beq_eq_false_iff_ne.2 (fun h => e (h2.1 h))]
end Go.Proofs.Ytnpofcnibgdjhaa
