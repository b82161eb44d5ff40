/- PacketBack: packets go there and back, in one way alone; cut anywhere, their bytes are none. No condition but that the numbers are such as their types hold. -/
import Derived.Test.YtnpofcnibgdjhaaPkG
import Derived.Lib.SlBytesConst
namespace Go.Proofs.Ytnpofcnibgdjhaa
open Go.RowKit

def alK : Pk := ⟨true, 1, 2, 3, []⟩
def alB : List Nat := [1, 1, 2, 3, 132, 199, 254, 216, 98]
theorem al_encW : encW alK = alB := by kernel_rfl
theorem al_right : rightP alK = true := by kernel_rfl
theorem al_wrong : rightP ⟨false, 1, 1, 1, [120]⟩ = false := by kernel_rfl
theorem al_dec : whole (decR alB) = some (alK, crcN (encP alK)) := by
  have h := codeR.whole (x := (alK, crcN (encP alK))) [] ⟨⟨al_right, fun x hx => by cases hx⟩, (crc_nat _).2⟩
  rw [List.append_nil, ← encW_is, al_encW] at h
  rw [h]; rfl
theorem al_dec0 : whole (decR [1, 1, 2, 3, 0]) = some (alK, 0) := by kernel_rfl
theorem al_nil : whole (decR []) = none := by kernel_rfl
theorem dat_nil (w : World) (k : Pk) (h : k.bs = []) : DatAt w k none 0 := by
  unfold DatAt
  rw [h]
  exact SliceAt.nil _ _ _
theorem pread_ok {bs : List Nat} {B : Nat} {e : Ending} {w' : World} {x : Pk × Nat} (h : preadP bs B e w') (hw : whole (decR bs) = some x) (he : encW x.1 = bs) : ∃ ad cap, e = .returned (.tuple #[.agg (pkA x.1 ad cap), .int .i64 0]) ∧ DatAt w' x.1 ad cap ∧ (0 < x.1.bs.length → ∀ b, blkOf (.slice ad x.1.bs.length cap) = some b → B ≤ b) := by
  unfold preadP at h
  rw [hw] at h
  have h2 : if encW x.1 = bs then ∃ ad cap, e = .returned (.tuple #[.agg (pkA x.1 ad cap), .int .i64 0]) ∧ DatAt w' x.1 ad cap ∧ (0 < x.1.bs.length → ∀ b, blkOf (.slice ad x.1.bs.length cap) = some b → B ≤ b) else e = .returned (.tuple #[.agg (pkA zeroP none 0), .int .i64 9]) := h
  rw [if_pos he] at h2
  exact h2
theorem pread_sum {bs : List Nat} {B : Nat} {e : Ending} {w' : World} {x : Pk × Nat} (h : preadP bs B e w') (hw : whole (decR bs) = some x) (he : encW x.1 ≠ bs) : e = .returned (.tuple #[.agg (pkA zeroP none 0), .int .i64 9]) := by
  unfold preadP at h
  rw [hw] at h
  have h2 : if encW x.1 = bs then ∃ ad cap, e = .returned (.tuple #[.agg (pkA x.1 ad cap), .int .i64 0]) ∧ DatAt w' x.1 ad cap ∧ (0 < x.1.bs.length → ∀ b, blkOf (.slice ad x.1.bs.length cap) = some b → B ≤ b) else e = .returned (.tuple #[.agg (pkA zeroP none 0), .int .i64 9]) := h
  rw [if_neg he] at h2
  exact h2
theorem pread_no {bs : List Nat} {B : Nat} {e : Ending} {w' : World} (h : preadP bs B e w') (hw : whole (decR bs) = none) : e = .returned (.tuple #[.agg (pkA zeroP none 0), .int .i64 3]) := by
  unfold preadP at h
  rw [hw] at h
  exact h
/-- A literal of bytes, marked as those of a text. -/
theorem lits_mark (w : World) (cs : Array Value) (bs : List Nat) (fr : Nat × Nat) (h : cs.toList = bcells bs) (hl : bs.length ≤ 1000) : SliceAt (w.alloc (.cells cs 5 fr)) (.slice (some ⟨w.heap.size, 0, none⟩) bs.length bs.length) bs.length 1 (bC bs) := by
  refine ⟨_, _, rfl, fun e => (by cases e), ⟨Nat.le_refl _, by omega⟩, .inr ⟨w.heap.size, 0, rfl, by simp, fun k hk j u hu => ?_⟩⟩
  have hj : j = 0 := by
    have := (List.getElem?_eq_some_iff.1 hu).1
    rw [bC_len] at this
    omega
  subst hj
  have h1 : look (w.alloc (.cells cs 5 fr)) w.heap.size = some (.cells cs 5 fr) := look_alloc_at _ _ _ rfl
  rw [look_cell h1, ← Array.getElem?_toList, h]
  have e1 : 0 + k * 1 + 0 = k := by omega
  rw [e1, ← hu]
  simp [bcells, bC, hk]

set_option maxRecDepth 100000 in
set_option maxHeartbeats 6400000 in
theorem alive15 (w : World) :
    Calls Try.prog 32 #[] w fun e w' => e = .returned (.bool true) ∧ Below w.heap.size w w' := by
  have hb1 := belA (bel0 w) (.cells #[.bool true, .int .i64 1, .int .i64 2, .int .u64 3, .slice none 0 0] 69)
  have l1 : look (w.alloc (.cells #[.bool true, .int .i64 1, .int .i64 2, .int .u64 3, .slice none 0 0] 69)) w.heap.size = some (.cells #[.bool true, .int .i64 1, .int .i64 2, .int .u64 3, .slice none 0 0] 69 (0, 0)) := look_alloc_at _ _ _ rfl
  have hW := pwrite_yes alK none 0 (w.alloc (.cells #[.bool true, .int .i64 1, .int .i64 2, .int .u64 3, .slice none 0 0] 69)) (fun x hx => by cases hx) (dat_nil _ _ rfl) al_right
  rw [al_encW] at hW
  go_enter Try.func32, Try.ntmps32
  go_wp2_with fail
  refine hW.mono ?_
  rintro _ w2 ⟨u2, rfl, hu2, hb2⟩
  have hB2 := belT hb1 hb2
  have l2 : look w2 w.heap.size = some (.cells #[.bool true, .int .i64 1, .int .i64 2, .int .u64 3, .slice none 0 0] 69 (0, 0)) := by rw [look_below hb2 (look_lt l1)]; exact l1
  obtain ⟨ua, uc, rfl⟩ := own_form hu2
  have hs2 := own_slice hu2
  have huc : alB.length ≤ uc := by obtain ⟨_, _, e, _, h, _⟩ := hs2; cases e; exact h.1
  have hbl : alB.length = 9 := rfl
  rw [hbl] at hs2 huc ⊢
  clear hu2 hW l1
  go_wp2_with fail
  refine (pread_any _ alB _ (by decide) (by decide) (by rw [hbl]; exact hs2)).mono ?_
  rintro e w3 ⟨hP, hb3⟩
  obtain ⟨ad3, cap3, rfl, hD3, _⟩ := pread_ok hP al_dec al_encW
  have hD3 : DatAt w3 alK ad3 cap3 := hD3
  have hB3 := belT hB2 hb3
  have l3 : look w3 w.heap.size = some (.cells #[.bool true, .int .i64 1, .int .i64 2, .int .u64 3, .slice none 0 0] 69 (0, 0)) := by rw [look_below hb3 (look_lt l2)]; exact l2
  have hs3 := hs2.below hb3
  simp only [pkA, alK]
  have hb4 := belA (bel0 w3) (.cells #[.bool true, .int .i64 1, .int .i64 2, .int .u64 3, .slice ad3 0 cap3] 69)
  have hb4' := belA hb4 (.cells #[.int .u8 120] 5 (1, 2))
  have l4 : look (w3.alloc (.cells #[.bool true, .int .i64 1, .int .i64 2, .int .u64 3, .slice ad3 0 cap3] 69)) w3.heap.size = some (.cells #[.bool true, .int .i64 1, .int .i64 2, .int .u64 3, .slice ad3 0 cap3] 69 (0, 0)) := look_alloc_at _ _ _ rfl
  have kc := Lib.run_convert_bytes_const (P := Try.prog) (w3.alloc (.cells #[.bool true, .int .i64 1, .int .i64 2, .int .u64 3, .slice ad3 0 cap3] 69)) 30 5 #[.int .u8 120] 1 1 Try.underlying30 Try.underlying5
  rw [show (w3.alloc (.cells #[.bool true, .int .i64 1, .int .i64 2, .int .u64 3, .slice ad3 0 cap3] 69)).heap.size = w3.heap.size + 1 by simp] at kc
  go_wp2_with fail
  refine (pwrite_no ⟨false, 1, 1, 1, [120]⟩ (some ⟨_, 0, none⟩) 1 _ (by decide) al_wrong).mono ?_
  rintro _ w5 ⟨rfl, hb5⟩
  clear kc
  have hb5' : Below w3.heap.size w3 w5 := belT hb4' hb5
  have hB5 := belT hB3 hb5'
  have l5 : look w5 w.heap.size = some (.cells #[.bool true, .int .i64 1, .int .i64 2, .int .u64 3, .slice none 0 0] 69 (0, 0)) := by rw [look_below hb5' (look_lt l3)]; exact l3
  have m5 : look w5 w3.heap.size = some (.cells #[.bool true, .int .i64 1, .int .i64 2, .int .u64 3, .slice ad3 0 cap3] 69 (0, 0)) := by
    rw [look_below hb5 (by simp; omega), look_below (belA (bel0 _) _) (look_lt l4)]; exact l4
  have hs5 := hs3.below hb5'
  have hD5 := hD3.below hb5'
  clear hs2 hs3 hD3 l2 l3 l4 hb4 hb4' hb5 hb3 hb2
  go_wp2_with fail
  refine (pread_any (.slice none 0 0) [] _ (fun x hx => by cases hx) (by decide) (SliceAt.nil _ _ _)).mono ?_
  rintro e w6 ⟨hP6, hb6⟩
  have he6 := pread_no hP6 al_nil
  subst he6
  have hb7 := belA hb6 (.cells #[.bool false, .int .i64 0, .int .i64 0, .int .u64 0, .slice none 0 0] 69)
  have hB7 := belT hB5 hb7
  have l7 : look (w6.alloc (.cells #[.bool false, .int .i64 0, .int .i64 0, .int .u64 0, .slice none 0 0] 69)) w.heap.size = some (.cells #[.bool true, .int .i64 1, .int .i64 2, .int .u64 3, .slice none 0 0] 69 (0, 0)) := by rw [look_below hb7 (look_lt l5)]; exact l5
  have m7 : look (w6.alloc (.cells #[.bool false, .int .i64 0, .int .i64 0, .int .u64 0, .slice none 0 0] 69)) w3.heap.size = some (.cells #[.bool true, .int .i64 1, .int .i64 2, .int .u64 3, .slice ad3 0 cap3] 69 (0, 0)) := by rw [look_below hb7 (look_lt m5)]; exact m5
  have hs7 := hs5.below hb7
  have hD7 := hD5.below hb7
  simp only [pkA, zeroP]
  have kc := Lib.run_convert_bytes_const (P := Try.prog) (w6.alloc (.cells #[.bool false, .int .i64 0, .int .i64 0, .int .u64 0, .slice none 0 0] 69)) 30 5 #[.int .u8 1, .int .u8 1, .int .u8 2, .int .u8 3, .int .u8 0] 5 5 Try.underlying30 Try.underlying5
  rw [show (w6.alloc (.cells #[.bool false, .int .i64 0, .int .i64 0, .int .u64 0, .slice none 0 0] 69)).heap.size = w6.heap.size + 1 by simp] at kc
  have hs8 := lits_mark (w6.alloc (.cells #[.bool false, .int .i64 0, .int .i64 0, .int .u64 0, .slice none 0 0] 69)) #[.int .u8 1, .int .u8 1, .int .u8 2, .int .u8 3, .int .u8 0] [1, 1, 2, 3, 0] (5, 6) rfl (by decide)
  rw [show (w6.alloc (.cells #[.bool false, .int .i64 0, .int .i64 0, .int .u64 0, .slice none 0 0] 69)).heap.size = w6.heap.size + 1 by simp] at hs8
  have hb8 := belA (bel0 (w6.alloc (.cells #[.bool false, .int .i64 0, .int .i64 0, .int .u64 0, .slice none 0 0] 69))) (.cells #[.int .u8 1, .int .u8 1, .int .u8 2, .int .u8 3, .int .u8 0] 5 (5, 6))
  clear l5 m5 hs5 hD5 hb6 hP6
  go_wp2_with fail
  refine (pread_any _ [1, 1, 2, 3, 0] _ (by decide) (by decide) hs8).mono ?_
  rintro e w9 ⟨hP9, hb9⟩
  have he9 := pread_sum hP9 al_dec0 (by rw [al_encW]; decide)
  subst he9
  clear kc
  have hb10 := belT hb8 hb9
  have hb11 := belA hb10 (.cells #[.bool false, .int .i64 0, .int .i64 0, .int .u64 0, .slice none 0 0] 69)
  have hB11 := belT hB7 hb11
  have l11 : look (w9.alloc (.cells #[.bool false, .int .i64 0, .int .i64 0, .int .u64 0, .slice none 0 0] 69)) w.heap.size = some (.cells #[.bool true, .int .i64 1, .int .i64 2, .int .u64 3, .slice none 0 0] 69 (0, 0)) := by rw [look_below hb11 (look_lt l7)]; exact l7
  have m11 : look (w9.alloc (.cells #[.bool false, .int .i64 0, .int .i64 0, .int .u64 0, .slice none 0 0] 69)) w3.heap.size = some (.cells #[.bool true, .int .i64 1, .int .i64 2, .int .u64 3, .slice ad3 0 cap3] 69 (0, 0)) := by rw [look_below hb11 (look_lt m7)]; exact m7
  have hs11 : SliceAt (w9.alloc (.cells #[.bool false, .int .i64 0, .int .i64 0, .int .u64 0, .slice none 0 0] 69)) (.slice ua alB.length uc) alB.length 1 (bC alB) := hs7.below hb11
  have hD11 := hD7.below hb11
  have hup := hs11.upto2 (m := 4) (by decide) rfl
  have hcs : (convert 30 9 (.slice ua 4 uc)).run Try.prog (w9.alloc (.cells #[.bool false, .int .i64 0, .int .i64 0, .int .u64 0, .slice none 0 0] 69)) = .ok (.string ⟨#[1, 1, 2, 3]⟩) (w9.alloc (.cells #[.bool false, .int .i64 0, .int .i64 0, .int .u64 0, .slice none 0 0] 69)) := conv_str hup
  have huc4 : 4 ≤ uc := by omega
  simp only [pkA, zeroP]
  clear l7 m7 hs7 hD7 hs8 hP9 hb8 hb9 hb10 hup hs11 hb7
  go_wp2_with fail
  refine (psame_yes alK none ad3 0 cap3 _ (fun x hx => by cases hx) (dat_nil _ _ rfl) hD11).mono ?_
  rintro _ w12 ⟨rfl, hb12⟩
  have hB12 := belT hB11 hb12
  go_wp2
  go_ret
  exact ⟨rfl, hB12⟩

theorem zero_wrong : rightP zeroP = false := by kernel_rfl
theorem pread_cases {bs : List Nat} {B : Nat} {e : Ending} {w' : World} (h : preadP bs B e w') (hby : ∀ x ∈ bs, x < 256) : (∃ (x : Pk × Nat) (ad : Option Addr) (cap : Nat), e = .returned (.tuple #[.agg (pkA x.1 ad cap), .int .i64 0]) ∧ encW x.1 = bs ∧ goodP x.1 ∧ DatAt w' x.1 ad cap) ∨ ∃ c : Int, (c == 0) = false ∧ e = .returned (.tuple #[.agg (pkA zeroP none 0), .int .i64 c]) := by
  cases hw : whole (decR bs) with
  | none => exact .inr ⟨3, by decide, pread_no h hw⟩
  | some x =>
    by_cases he : encW x.1 = bs
    · obtain ⟨ad, cap, h1, h2, _⟩ := pread_ok h hw he
      exact .inl ⟨x, ad, cap, h1, he, (codeR.sound hby (whole_some hw)).1.1, h2⟩
    · exact .inr ⟨9, by decide, pread_sum h hw he⟩
set_option maxRecDepth 100000 in
theorem pgreat_any (k : Pk) (ad : Option Addr) (cap : Nat) (w : World) :
    Calls Try.prog 31 #[.agg (pkA k ad cap)] w fun e w' => e = .returned (.bool (decide (1810 < k.bs.length))) ∧ Below w.heap.size w w' := by
  obtain ⟨ack, frm, to, seq, bs⟩ := k
  show Calls Try.prog 31 #[.agg #[.bool ack, .int .i64 frm, .int .i64 to, .int .u64 (seq : Int), .slice ad bs.length cap]] w fun e w' => e = .returned (.bool (decide (1810 < bs.length))) ∧ Below w.heap.size w w'
  have hb := belA (bel0 w) (.cells #[.bool ack, .int .i64 frm, .int .i64 to, .int .u64 (seq : Int), .slice ad bs.length cap] 69)
  by_cases h : 1810 < bs.length
  · rw [decide_eq_true h]
    have d : decide ((1810 : Int) < (bs.length : Int)) = true := decide_eq_true (by omega)
    go_enter Try.func31, Try.ntmps31
    go_wp2
    go_ret
    exact ⟨rfl, hb⟩
  · rw [decide_eq_false h]
    have d : decide ((1810 : Int) < (bs.length : Int)) = false := decide_eq_false (by omega)
    go_enter Try.func31, Try.ntmps31
    go_wp2
    go_ret
    exact ⟨rfl, hb⟩

set_option maxRecDepth 100000 in
set_option maxHeartbeats 12800000 in
theorem packetBack_any (k : Pk) (ad : Option Addr) (cap : Nat) (v : Value) (bs : List Nat) (cut : Int) (w : World) (hkb : ∀ x ∈ k.bs, x < 256) (hD : DatAt w k ad cap) (hby : ∀ x ∈ bs, x < 256) (hv : SliceAt w v bs.length 1 (bC bs)) (hcut : -9223372036854775808 ≤ cut ∧ cut ≤ 9223372036854775807) :
    Calls Try.prog 7 #[.agg (pkA k ad cap), v, .int .i64 cut] w fun e w' => e = .returned (.bool true) ∧ Below w.heap.size w w' := by
  obtain ⟨bd, bcap, rfl⟩ := row_one hv
  have hl63 : bs.length ≤ 9223372036854775807 := by obtain ⟨_, _, e, _, h, _⟩ := hv; cases e; exact h.2
  have hk63 : k.bs.length ≤ 9223372036854775807 := by obtain ⟨_, _, e, _, h, _⟩ := hD; cases e; exact h.2
  have hbA := belA (bel0 w) (.cells (pkA k ad cap) 69)
  have hD1 := hD.below hbA
  have hv1 := hv.below hbA
  have lk : look (w.alloc (.cells (pkA k ad cap) 69)) w.heap.size = some (.cells (pkA k ad cap) 69 (0, 0)) := look_alloc_at _ _ _ rfl
  have hpn : (pkA k ad cap).size = 5 := rfl
  by_cases hgr : 1810 < k.bs.length
  · have hG := pgreat_any k ad cap (w.alloc (.cells (pkA k ad cap) 69))
    rw [decide_eq_true hgr] at hG
    go_enter Try.func7, Try.ntmps7
    go_wp2_with fail
    refine hG.mono ?_
    rintro _ w2 ⟨rfl, hb2⟩
    have hB2 := belT hbA hb2
    go_wp2_with fail
    refine (alive15 _).mono ?_
    rintro _ w3 ⟨rfl, hb3⟩
    have hB3 := belT hB2 hb3
    go_wp2
    go_ret
    exact ⟨rfl, hB3⟩
  have hG := pgreat_any k ad cap (w.alloc (.cells (pkA k ad cap) 69))
  rw [decide_eq_false hgr] at hG
  by_cases h2000 : 2000 < bs.length
  · have d2 : decide ((2000 : Int) < (bs.length : Int)) = true := decide_eq_true (by omega)
    go_enter Try.func7, Try.ntmps7
    go_wp2_with fail
    refine hG.mono ?_
    rintro _ w2 ⟨rfl, hb2⟩
    have hB2 := belT hbA hb2
    go_wp2_with fail
    refine (alive15 _).mono ?_
    rintro _ w3 ⟨rfl, hb3⟩
    have hB3 := belT hB2 hb3
    go_wp2
    go_ret
    exact ⟨rfl, hB3⟩
  have d2 : decide ((2000 : Int) < (bs.length : Int)) = false := decide_eq_false (by omega)
  have hlen2 : bs.length ≤ 900000 := by omega
  have pread_cases := fun {B : Nat} {e : Ending} {w' : World} (h : preadP bs B e w') => pread_cases h hby
  clear hgr h2000 hl63
  cases hr : rightP k
  · have hW := fun u => pwrite_no k ad cap u hk63 hr
    clear hr
    go_enter Try.func7, Try.ntmps7
    go_wp2_with fail
    refine hG.mono ?_
    rintro _ w2 ⟨rfl, hb2⟩
    have hB2 := belT hbA hb2
    have hv2 := hv1.below hb2
    have l2 : look w2 w.heap.size = some (.cells (pkA k ad cap) 69 (0, 0)) := by rw [look_below hb2 (look_lt lk)]; exact lk
    clear hG lk
    go_wp2_with fail
    refine (hW _).mono ?_
    rintro _ w3 ⟨rfl, hb3⟩
    have hB3 := belT hB2 hb3
    have hv3 := hv2.below hb3
    clear hW l2 hD1 hD
    go_wp2_with fail
    refine (pread_any _ bs _ hby hlen2 hv3).mono ?_
    rintro e y1 ⟨hPr, hc1⟩
    have hY1 := belT hB3 hc1
    have hsb1 := hv3.below hc1
    rcases pread_cases hPr with ⟨x, ad9, cap9, rfl, hxe, hxg, hD9⟩ | ⟨c, hc0, rfl⟩
    · obtain ⟨kx, sx⟩ := x
      have hxe : encW kx = bs := hxe
      have hxg : goodP kx := hxg
      have hD9 : DatAt y1 kx ad9 cap9 := hD9
      have hxeh := hidP hxe
      clear hxe hPr
      have hcA := belA (bel0 y1) (.cells (pkA kx ad9 cap9) 69)
      have hall : (pkA kx ad9 cap9).all (·.oneCell') = true := by simp [pkA, Value.oneCell']
      have hpn : (pkA kx ad9 cap9).size = 5 := rfl
      have hone : ((pkA kx ad9 cap9).size = 5 ∧ (pkA kx ad9 cap9).size = 5) := ⟨rfl, rfl⟩
      have hW9 := pwrite_yes kx ad9 cap9 (y1.alloc (.cells (pkA kx ad9 cap9) 69)) hxg.2 (hD9.below hcA) hxg.1
      rw [hxeh.out] at hW9
      go_wp2_with fail
      refine hW9.mono ?_
      rintro _ y2 ⟨u9, rfl, hu9, hc2⟩
      have hY2 := belT (belT hY1 hcA) hc2
      have hsb2 := (hsb1.below hcA).below hc2
      have hs9 := own_slice hu9
      obtain ⟨va9, vc9, rfl⟩ := own_form hu9
      clear hu9 hW9
      go_wp2_with fail
      refine (alive15 _).mono ?_
      rintro _ y3 ⟨rfl, hc3⟩
      have hY3 := belT hY2 hc3
      have q1 := conv_str (hs9.below hc3)
      have q2 := conv_str (hsb2.below hc3)
      go_wp2
      go_ret
      exact ⟨rfl, hY3⟩
    · have hc1b : (c != 0) = true := by rw [bne, hc0]; rfl
      have hc2b : ¬ c = 0 := fun e => by rw [e] at hc0; cases hc0
      have hcA := belA (bel0 y1) (.cells #[.bool false, .int .i64 0, .int .i64 0, .int .u64 0, .slice none 0 0] 69)
      have hW9 := pwrite_no zeroP none 0 (y1.alloc (.cells #[.bool false, .int .i64 0, .int .i64 0, .int .u64 0, .slice none 0 0] 69)) (by decide) zero_wrong
      simp only [pkA, zeroP]
      go_wp2_with fail
      refine hW9.mono ?_
      rintro _ y2 ⟨rfl, hc2⟩
      have hY2 := belT (belT hY1 hcA) hc2
      go_wp2_with fail
      refine (alive15 _).mono ?_
      rintro _ y3 ⟨rfl, hc3⟩
      have hY3 := belT hY2 hc3
      go_wp2
      go_ret
      exact ⟨rfl, hY3⟩
  · have hW := fun u hu => pwrite_yes k ad cap u hkb hu hr
    have r2 := (rightP_iff k).1 hr
    have hkl : k.bs.length ≤ 1800 := by
      have r8 := r2.2.2.2.2.2
      unfold dataB at r8
      split at r8
      · have := of_decide_eq_true r8; omega
      · exact ((txt_iff _).1 r8).2
    have hES := encP_small hkl
    have hEb := encW_byte k hkb
    have hcr := crc_nat (encP k)
    have hEl : (encW k).length ≤ 2010 := by
      have := (numB_len (crcN (encP k))).2
      unfold encW
      rw [List.length_append]; omega
    have hgood : goodP k ∧ crcN (encP k) ≤ 4294967295 := ⟨⟨hr, hkb⟩, hcr.2⟩
    have hwh : whole (decR (encW k)) = some (k, crcN (encP k)) := by
      have h := codeR.whole (x := (k, crcN (encP k))) [] hgood
      rw [List.append_nil, ← encW_is] at h
      rw [h]; rfl
    have hcutn : ∀ n, n < (encW k).length → whole (decR ((encW k).take n)) = none := fun n hn => code_cut codeR (x := (k, crcN (encP k))) hgood hEb hn
    obtain ⟨EW, hEW⟩ : ∃ EW, Hid (EW = encW k) := ⟨_, hidP rfl⟩
    rw [← hEW.out] at hEb hEl hwh hcutn
    replace hW : ∀ u, DatAt u k ad cap → Calls Try.prog 33 #[.agg (pkA k ad cap)] u fun e w' => ∃ v, e = .returned (.tuple #[v, .int .i64 0]) ∧ w'.ownsRow u.heap.size 5 1 v EW.length (bcells EW) ∧ Below u.heap.size u w' := by rw [hEW.out]; exact hW
    have hpok : ∀ B e w', preadP EW B e w' → ∃ ad cap, e = .returned (.tuple #[.agg (pkA k ad cap), .int .i64 0]) ∧ DatAt w' k ad cap := fun B e w' h => by
      obtain ⟨a, c, h1, h2, _⟩ := pread_ok h hwh hEW.out.symm
      exact ⟨a, c, h1, h2⟩
    clear hr r2 hES hcr hgood hwh
    by_cases hc : 0 ≤ cut ∧ cut < EW.length
    · obtain ⟨cu, rfl⟩ : ∃ n : Nat, cut = n := ⟨cut.toNat, by omega⟩
      have hcu : cu < EW.length := by omega
      have dc1 : decide ((0 : Int) ≤ (cu : Int)) = true := decide_eq_true (by omega)
      have dc2 : decide ((cu : Int) < (EW.length : Int)) = true := decide_eq_true (by omega)
      have hno := hcutn cu hcu
      clear hc hcut hcutn
      go_enter Try.func7, Try.ntmps7
      go_wp2_with fail
      refine hG.mono ?_
      rintro _ w2 ⟨rfl, hb2⟩
      have hB2 := belT hbA hb2
      have hv2 := hv1.below hb2
      have hD2 := hD1.below hb2
      have l2 : look w2 w.heap.size = some (.cells (pkA k ad cap) 69 (0, 0)) := by rw [look_below hb2 (look_lt lk)]; exact lk
      clear hG lk
      go_wp2_with fail
      refine (hW _ hD2).mono ?_
      rintro _ w3 ⟨u3, rfl, hu3, hb3⟩
      obtain ⟨ua, uc, rfl⟩ := own_form hu3
      have hB3 := belT hB2 hb3
      have hv3 := hv2.below hb3
      have hD3 := hD2.below hb3
      have l3 : look w3 w.heap.size = some (.cells (pkA k ad cap) 69 (0, 0)) := by rw [look_below hb3 (look_lt l2)]; exact l2
      have hs3 := own_slice hu3
      clear hW l2 hD1 hD hD2 hu3 hv2
      go_wp2_with fail
      refine (pread_any _ EW _ hEb (by omega) hs3).mono ?_
      rintro e w4 ⟨hP4, hb4⟩
      obtain ⟨a4, c4, rfl, hD4⟩ := hpok _ _ _ hP4
      have hb4A := belA hb4 (.cells (pkA k a4 c4) 69)
      have hB4 := belT hB3 hb4A
      have hv4 := hv3.below hb4A
      have hu4 := hs3.below hb4A
      have hD34 := hD3.below hb4A
      have hD4A := hD4.below (belA (bel0 w4) (.cells (pkA k a4 c4) 69))
      have hall : (pkA k a4 c4).all (·.oneCell') = true := by simp [pkA, Value.oneCell']
      have hpn4 : (pkA k a4 c4).size = 5 := rfl
      have l4 : look (w4.alloc (.cells (pkA k a4 c4) 69)) w.heap.size = some (.cells (pkA k ad cap) 69 (0, 0)) := by rw [look_below hb4A (look_lt l3)]; exact l3
      have m4 : look (w4.alloc (.cells (pkA k a4 c4) 69)) w4.heap.size = some (.cells (pkA k a4 c4) 69 (0, 0)) := look_alloc_at _ _ _ rfl
      clear hP4 hpok hs3 hv3 hD3 l3 hb4 hD4 hb4A
      go_wp2_with fail
      refine (psame_yes k ad a4 cap c4 _ hkb hD34 hD4A).mono ?_
      rintro _ w5 ⟨rfl, hb5⟩
      have hB5 := belT hB4 hb5
      have hv5 := hv4.below hb5
      have hu5 := hu4.below hb5
      clear hD34 hD4A l4 m4 hv4 hu4 hb5
      have hsc := hu5.upto2 (m := cu) (by omega) rfl
      have hcule : cu ≤ uc := by
        obtain ⟨_, _, e, _, h, _⟩ := hu5
        cases e
        omega
      go_wp2_with fail
      refine (pread_any _ (EW.take cu) _ (fun x hx => hEb x (List.mem_of_mem_take hx)) (by rw [List.length_take]; omega) hsc).mono ?_
      rintro e w6 ⟨hP6, hb6⟩
      have he6 := pread_no hP6 hno
      subst he6
      have hb7 := belA hb6 (.cells #[.bool false, .int .i64 0, .int .i64 0, .int .u64 0, .slice none 0 0] 69)
      have hB7 := belT hB5 hb7
      have hv7 := hv5.below hb7
      simp only [pkA, zeroP]
      clear hsc hP6 hb6 hb7 hu5 hv5 dc1 dc2
      go_wp2_with fail
      refine (pread_any _ bs _ hby hlen2 hv7).mono ?_
      rintro e y1 ⟨hPr, hc1⟩
      have hY1 := belT hB7 hc1
      have hsb1 := hv7.below hc1
      rcases pread_cases hPr with ⟨x, ad9, cap9, rfl, hxe, hxg, hD9⟩ | ⟨c, hc0, rfl⟩
      · obtain ⟨kx, sx⟩ := x
        have hxe : encW kx = bs := hxe
        have hxg : goodP kx := hxg
        have hD9 : DatAt y1 kx ad9 cap9 := hD9
        have hxeh := hidP hxe
        clear hxe hPr
        have hcA := belA (bel0 y1) (.cells (pkA kx ad9 cap9) 69)
        have hall : (pkA kx ad9 cap9).all (·.oneCell') = true := by simp [pkA, Value.oneCell']
        have hpn : (pkA kx ad9 cap9).size = 5 := rfl
        have hone : ((pkA kx ad9 cap9).size = 5 ∧ (pkA kx ad9 cap9).size = 5) := ⟨rfl, rfl⟩
        have hW9 := pwrite_yes kx ad9 cap9 (y1.alloc (.cells (pkA kx ad9 cap9) 69)) hxg.2 (hD9.below hcA) hxg.1
        rw [hxeh.out] at hW9
        go_wp2_with fail
        refine hW9.mono ?_
        rintro _ y2 ⟨u9, rfl, hu9, hc2⟩
        have hY2 := belT (belT hY1 hcA) hc2
        have hsb2 := (hsb1.below hcA).below hc2
        have hs9 := own_slice hu9
        obtain ⟨va9, vc9, rfl⟩ := own_form hu9
        clear hu9 hW9
        go_wp2_with fail
        refine (alive15 _).mono ?_
        rintro _ y3 ⟨rfl, hc3⟩
        have hY3 := belT hY2 hc3
        have q1 := conv_str (hs9.below hc3)
        have q2 := conv_str (hsb2.below hc3)
        go_wp2
        go_ret
        exact ⟨rfl, hY3⟩
      · have hc1b : (c != 0) = true := by rw [bne, hc0]; rfl
        have hc2b : ¬ c = 0 := fun e => by rw [e] at hc0; cases hc0
        have hcA := belA (bel0 y1) (.cells #[.bool false, .int .i64 0, .int .i64 0, .int .u64 0, .slice none 0 0] 69)
        have hW9 := pwrite_no zeroP none 0 (y1.alloc (.cells #[.bool false, .int .i64 0, .int .i64 0, .int .u64 0, .slice none 0 0] 69)) (by decide) zero_wrong
        simp only [pkA, zeroP]
        go_wp2_with fail
        refine hW9.mono ?_
        rintro _ y2 ⟨rfl, hc2⟩
        have hY2 := belT (belT hY1 hcA) hc2
        go_wp2_with fail
        refine (alive15 _).mono ?_
        rintro _ y3 ⟨rfl, hc3⟩
        have hY3 := belT hY2 hc3
        go_wp2
        go_ret
        exact ⟨rfl, hY3⟩
    · have hd : decide ((0 : Int) ≤ cut) = false ∨ (decide ((0 : Int) ≤ cut) = true ∧ decide (cut < (EW.length : Int)) = false) := by
        by_cases h0 : 0 ≤ cut
        · exact .inr ⟨decide_eq_true h0, decide_eq_false (fun h => hc ⟨h0, h⟩)⟩
        · exact .inl (decide_eq_false h0)
      clear hc hcutn
      rcases hd with hd | ⟨hd, hd2⟩
      · skip
        go_enter Try.func7, Try.ntmps7
        go_wp2_with fail
        refine hG.mono ?_
        rintro _ w2 ⟨rfl, hb2⟩
        have hB2 := belT hbA hb2
        have hv2 := hv1.below hb2
        have hD2 := hD1.below hb2
        have l2 : look w2 w.heap.size = some (.cells (pkA k ad cap) 69 (0, 0)) := by rw [look_below hb2 (look_lt lk)]; exact lk
        clear hG lk
        go_wp2_with fail
        refine (hW _ hD2).mono ?_
        rintro _ w3 ⟨u3, rfl, hu3, hb3⟩
        obtain ⟨ua, uc, rfl⟩ := own_form hu3
        have hB3 := belT hB2 hb3
        have hv3 := hv2.below hb3
        have hD3 := hD2.below hb3
        have l3 : look w3 w.heap.size = some (.cells (pkA k ad cap) 69 (0, 0)) := by rw [look_below hb3 (look_lt l2)]; exact l2
        have hs3 := own_slice hu3
        clear hW l2 hD1 hD hD2 hu3 hv2
        go_wp2_with fail
        refine (pread_any _ EW _ hEb (by omega) hs3).mono ?_
        rintro e w4 ⟨hP4, hb4⟩
        obtain ⟨a4, c4, rfl, hD4⟩ := hpok _ _ _ hP4
        have hb4A := belA hb4 (.cells (pkA k a4 c4) 69)
        have hB4 := belT hB3 hb4A
        have hv4 := hv3.below hb4A
        have hu4 := hs3.below hb4A
        have hD34 := hD3.below hb4A
        have hD4A := hD4.below (belA (bel0 w4) (.cells (pkA k a4 c4) 69))
        have hall : (pkA k a4 c4).all (·.oneCell') = true := by simp [pkA, Value.oneCell']
        have hpn4 : (pkA k a4 c4).size = 5 := rfl
        have l4 : look (w4.alloc (.cells (pkA k a4 c4) 69)) w.heap.size = some (.cells (pkA k ad cap) 69 (0, 0)) := by rw [look_below hb4A (look_lt l3)]; exact l3
        have m4 : look (w4.alloc (.cells (pkA k a4 c4) 69)) w4.heap.size = some (.cells (pkA k a4 c4) 69 (0, 0)) := look_alloc_at _ _ _ rfl
        clear hP4 hpok hs3 hv3 hD3 l3 hb4 hD4 hb4A
        go_wp2_with fail
        refine (psame_yes k ad a4 cap c4 _ hkb hD34 hD4A).mono ?_
        rintro _ w5 ⟨rfl, hb5⟩
        have hB5 := belT hB4 hb5
        have hv5 := hv4.below hb5
        have hu5 := hu4.below hb5
        clear hD34 hD4A l4 m4 hv4 hu4 hb5
        go_wp2_with fail
        refine (pread_any _ bs _ hby hlen2 hv5).mono ?_
        rintro e y1 ⟨hPr, hc1⟩
        have hY1 := belT hB5 hc1
        have hsb1 := hv5.below hc1
        rcases pread_cases hPr with ⟨x, ad9, cap9, rfl, hxe, hxg, hD9⟩ | ⟨c, hc0, rfl⟩
        · obtain ⟨kx, sx⟩ := x
          have hxe : encW kx = bs := hxe
          have hxg : goodP kx := hxg
          have hD9 : DatAt y1 kx ad9 cap9 := hD9
          have hxeh := hidP hxe
          clear hxe hPr
          have hcA := belA (bel0 y1) (.cells (pkA kx ad9 cap9) 69)
          have hall : (pkA kx ad9 cap9).all (·.oneCell') = true := by simp [pkA, Value.oneCell']
          have hpn : (pkA kx ad9 cap9).size = 5 := rfl
          have hone : ((pkA kx ad9 cap9).size = 5 ∧ (pkA kx ad9 cap9).size = 5) := ⟨rfl, rfl⟩
          have hW9 := pwrite_yes kx ad9 cap9 (y1.alloc (.cells (pkA kx ad9 cap9) 69)) hxg.2 (hD9.below hcA) hxg.1
          rw [hxeh.out] at hW9
          go_wp2_with fail
          refine hW9.mono ?_
          rintro _ y2 ⟨u9, rfl, hu9, hc2⟩
          have hY2 := belT (belT hY1 hcA) hc2
          have hsb2 := (hsb1.below hcA).below hc2
          have hs9 := own_slice hu9
          obtain ⟨va9, vc9, rfl⟩ := own_form hu9
          clear hu9 hW9
          go_wp2_with fail
          refine (alive15 _).mono ?_
          rintro _ y3 ⟨rfl, hc3⟩
          have hY3 := belT hY2 hc3
          have q1 := conv_str (hs9.below hc3)
          have q2 := conv_str (hsb2.below hc3)
          go_wp2
          go_ret
          exact ⟨rfl, hY3⟩
        · have hc1b : (c != 0) = true := by rw [bne, hc0]; rfl
          have hc2b : ¬ c = 0 := fun e => by rw [e] at hc0; cases hc0
          have hcA := belA (bel0 y1) (.cells #[.bool false, .int .i64 0, .int .i64 0, .int .u64 0, .slice none 0 0] 69)
          have hW9 := pwrite_no zeroP none 0 (y1.alloc (.cells #[.bool false, .int .i64 0, .int .i64 0, .int .u64 0, .slice none 0 0] 69)) (by decide) zero_wrong
          simp only [pkA, zeroP]
          go_wp2_with fail
          refine hW9.mono ?_
          rintro _ y2 ⟨rfl, hc2⟩
          have hY2 := belT (belT hY1 hcA) hc2
          go_wp2_with fail
          refine (alive15 _).mono ?_
          rintro _ y3 ⟨rfl, hc3⟩
          have hY3 := belT hY2 hc3
          go_wp2
          go_ret
          exact ⟨rfl, hY3⟩
      · skip
        go_enter Try.func7, Try.ntmps7
        go_wp2_with fail
        refine hG.mono ?_
        rintro _ w2 ⟨rfl, hb2⟩
        have hB2 := belT hbA hb2
        have hv2 := hv1.below hb2
        have hD2 := hD1.below hb2
        have l2 : look w2 w.heap.size = some (.cells (pkA k ad cap) 69 (0, 0)) := by rw [look_below hb2 (look_lt lk)]; exact lk
        clear hG lk
        go_wp2_with fail
        refine (hW _ hD2).mono ?_
        rintro _ w3 ⟨u3, rfl, hu3, hb3⟩
        obtain ⟨ua, uc, rfl⟩ := own_form hu3
        have hB3 := belT hB2 hb3
        have hv3 := hv2.below hb3
        have hD3 := hD2.below hb3
        have l3 : look w3 w.heap.size = some (.cells (pkA k ad cap) 69 (0, 0)) := by rw [look_below hb3 (look_lt l2)]; exact l2
        have hs3 := own_slice hu3
        clear hW l2 hD1 hD hD2 hu3 hv2
        go_wp2_with fail
        refine (pread_any _ EW _ hEb (by omega) hs3).mono ?_
        rintro e w4 ⟨hP4, hb4⟩
        obtain ⟨a4, c4, rfl, hD4⟩ := hpok _ _ _ hP4
        have hb4A := belA hb4 (.cells (pkA k a4 c4) 69)
        have hB4 := belT hB3 hb4A
        have hv4 := hv3.below hb4A
        have hu4 := hs3.below hb4A
        have hD34 := hD3.below hb4A
        have hD4A := hD4.below (belA (bel0 w4) (.cells (pkA k a4 c4) 69))
        have hall : (pkA k a4 c4).all (·.oneCell') = true := by simp [pkA, Value.oneCell']
        have hpn4 : (pkA k a4 c4).size = 5 := rfl
        have l4 : look (w4.alloc (.cells (pkA k a4 c4) 69)) w.heap.size = some (.cells (pkA k ad cap) 69 (0, 0)) := by rw [look_below hb4A (look_lt l3)]; exact l3
        have m4 : look (w4.alloc (.cells (pkA k a4 c4) 69)) w4.heap.size = some (.cells (pkA k a4 c4) 69 (0, 0)) := look_alloc_at _ _ _ rfl
        clear hP4 hpok hs3 hv3 hD3 l3 hb4 hD4 hb4A
        go_wp2_with fail
        refine (psame_yes k ad a4 cap c4 _ hkb hD34 hD4A).mono ?_
        rintro _ w5 ⟨rfl, hb5⟩
        have hB5 := belT hB4 hb5
        have hv5 := hv4.below hb5
        have hu5 := hu4.below hb5
        clear hD34 hD4A l4 m4 hv4 hu4 hb5
        go_wp2_with fail
        refine (pread_any _ bs _ hby hlen2 hv5).mono ?_
        rintro e y1 ⟨hPr, hc1⟩
        have hY1 := belT hB5 hc1
        have hsb1 := hv5.below hc1
        rcases pread_cases hPr with ⟨x, ad9, cap9, rfl, hxe, hxg, hD9⟩ | ⟨c, hc0, rfl⟩
        · obtain ⟨kx, sx⟩ := x
          have hxe : encW kx = bs := hxe
          have hxg : goodP kx := hxg
          have hD9 : DatAt y1 kx ad9 cap9 := hD9
          have hxeh := hidP hxe
          clear hxe hPr
          have hcA := belA (bel0 y1) (.cells (pkA kx ad9 cap9) 69)
          have hall : (pkA kx ad9 cap9).all (·.oneCell') = true := by simp [pkA, Value.oneCell']
          have hpn : (pkA kx ad9 cap9).size = 5 := rfl
          have hone : ((pkA kx ad9 cap9).size = 5 ∧ (pkA kx ad9 cap9).size = 5) := ⟨rfl, rfl⟩
          have hW9 := pwrite_yes kx ad9 cap9 (y1.alloc (.cells (pkA kx ad9 cap9) 69)) hxg.2 (hD9.below hcA) hxg.1
          rw [hxeh.out] at hW9
          go_wp2_with fail
          refine hW9.mono ?_
          rintro _ y2 ⟨u9, rfl, hu9, hc2⟩
          have hY2 := belT (belT hY1 hcA) hc2
          have hsb2 := (hsb1.below hcA).below hc2
          have hs9 := own_slice hu9
          obtain ⟨va9, vc9, rfl⟩ := own_form hu9
          clear hu9 hW9
          go_wp2_with fail
          refine (alive15 _).mono ?_
          rintro _ y3 ⟨rfl, hc3⟩
          have hY3 := belT hY2 hc3
          have q1 := conv_str (hs9.below hc3)
          have q2 := conv_str (hsb2.below hc3)
          go_wp2
          go_ret
          exact ⟨rfl, hY3⟩
        · have hc1b : (c != 0) = true := by rw [bne, hc0]; rfl
          have hc2b : ¬ c = 0 := fun e => by rw [e] at hc0; cases hc0
          have hcA := belA (bel0 y1) (.cells #[.bool false, .int .i64 0, .int .i64 0, .int .u64 0, .slice none 0 0] 69)
          have hW9 := pwrite_no zeroP none 0 (y1.alloc (.cells #[.bool false, .int .i64 0, .int .i64 0, .int .u64 0, .slice none 0 0] 69)) (by decide) zero_wrong
          simp only [pkA, zeroP]
          go_wp2_with fail
          refine hW9.mono ?_
          rintro _ y2 ⟨rfl, hc2⟩
          have hY2 := belT (belT hY1 hcA) hc2
          go_wp2_with fail
          refine (alive15 _).mono ?_
          rintro _ y3 ⟨rfl, hc3⟩
          have hY3 := belT hY2 hc3
          go_wp2
          go_ret
          exact ⟨rfl, hY3⟩
end Go.Proofs.Ytnpofcnibgdjhaa
