/- Links: what must come of fixed calls. -/
import Derived.Test.YtnpofcnibgdjhaaLkI
import Derived.Lib.ConvBytes
import Derived.Lib.SlBytesConst
namespace Go.Proofs.Ytnpofcnibgdjhaa
open Go.RowKit

theorem strN_size (bs : List Nat) : (strN bs).size = bs.length := by
  show (strN bs).data.size = _
  simp [strN]
theorem conv_world {w : World} {bs : List Nat} (hby : ∀ x ∈ bs, x < 256) (hlen : bs.length ≤ 1000000) :
    SliceAt (Lib.bytesWorld w 5 (strN bs)) (.slice (some ⟨w.heap.size, 0, none⟩) bs.length (grownCap w bs.length 0 5)) bs.length 1 (bC bs) ∧ Below w.heap.size w (Lib.bytesWorld w 5 (strN bs)) := by
  refine ⟨⟨_, _, rfl, fun e => (by cases e), ⟨grownCap_ge w bs.length 0 _, by omega⟩, .inr ⟨w.heap.size, 0, rfl, by rw [Lib.bytesWorld_size]; omega, fun k hk j u hu => ?_⟩⟩, ⟨rfl, rfl, rfl, by rw [Lib.bytesWorld_size]; omega, fun k hk => Lib.bytesWorld_at_old w _ _ k hk⟩⟩
  have hj : j = 0 := by
    have := (List.getElem?_eq_some_iff.1 hu).1
    rw [bC_len] at this
    omega
  subst hj
  have h1 := Lib.bytesWorld_cell w 5 (strN bs) k (by rw [strN_size]; exact hk)
  have e1 : 0 + k * 1 + 0 = k := by omega
  rw [e1, h1]
  unfold bC at hu
  have hu2 : Value.int .u8 ((bs.getD k 0 : Nat) : Int) = u := Option.some.inj hu
  rw [← hu2]
  congr 2
  have e2 : (strN bs).data.toList = bs.map fun x => UInt8.ofNat x := by simp [strN]
  rw [e2, List.getD_eq_getElem?_getD, List.getD_eq_getElem?_getD, List.getElem?_map, List.getElem?_eq_getElem hk]
  show ((UInt8.ofNat bs[k]).toNat : Int) = (bs[k] : Int)
  have := hby _ (List.getElem_mem hk)
  rw [UInt8.toNat_ofNat']
  omega
/-- A text's bytes, in a block of their own. -/
theorem wpList_str_bytes {ops : Array Oper} {rest : List Oper} {o : Oper} {a : Act} {w : World} {Q : Exit → Act → World → Prop} (hgd : o.guard = none) (x : Operand) (ho : o.op = .convert 9 30 x) (bs : List Nat) (hx : a.eval x = .string (strN bs)) (hby : ∀ x ∈ bs, x < 256) (hlen : bs.length ≤ 1000000)
    (h : ∀ (cap : Nat) (w' : World), bs.length ≤ cap → SliceAt w' (.slice (some ⟨w.heap.size, 0, none⟩) bs.length cap) bs.length 1 (bC bs) → Below w.heap.size w w' → wpList Try.prog ops Q rest (a.put o.dst (.slice (some ⟨w.heap.size, 0, none⟩) bs.length cap)) w') : wpList Try.prog ops Q (o :: rest) a w :=
  wpList_plain hgd fun K hK => by
    have hr := Lib.run_convert_string_bytes (P := Try.prog) w 9 30 5 (strN bs) Try.underlying9 Try.underlying30 Try.underlying5
    obtain ⟨h1, h2⟩ := conv_world (w := w) hby hlen
    rw [strN_size] at hr
    unfold Oper.wp execOp
    simp only [ho, Sem.run_bind, hx, hr, Result.andThen_ok, Sem.run_pure]
    exact hK _ _ (h _ _ (grownCap_ge w bs.length 0 _) h1 h2)

/-- The link of alive, step by step. -/
def alL1 : Lk := ⟨2, 1, [[120]]⟩
def alL2 : Lk := ⟨3, 1, [[120], [121]]⟩
def alL3 : Lk := ⟨3, 1, [[121]]⟩
def alL4 : Lk := ⟨3, 2, [[121]]⟩
theorem ok_al4 : okLk alL4 := ⟨by decide, by decide, by decide, fun b hb => by rw [List.mem_singleton.1 hb]; decide, fun b hb x hx => by rw [List.mem_singleton.1 hb] at hx; rw [List.mem_singleton.1 hx]; decide⟩
/-- A literal of one byte. -/
theorem lit_one (w : World) (c : Nat) : SliceAt (w.alloc (.cells #[.int .u8 (c : Int)] 5)) (.slice (some ⟨w.heap.size, 0, none⟩) 1 1) [c].length 1 (bC [c]) :=
  SliceAt.row (n := 1) (by decide) (fun _ => rfl) (look_alloc_at _ _ _ rfl) rfl

/-- The same, marked as the bytes of a text. -/
theorem lit_mark (w : World) (c : Nat) : SliceAt (w.alloc (.cells #[.int .u8 (c : Int)] 5 (1, 2))) (.slice (some ⟨w.heap.size, 0, none⟩) 1 1) [c].length 1 (bC [c]) := by
  refine ⟨_, 1, rfl, fun e => (by cases e), ⟨Nat.le_refl _, by show 1 ≤ 9223372036854775807; decide⟩, .inr ⟨w.heap.size, 0, rfl, by simp, fun k hk j u hu => ?_⟩⟩
  have hk0 : k = 0 := by have : k < 1 := hk; omega
  subst hk0
  have hj : j = 0 := by
    have := (List.getElem?_eq_some_iff.1 hu).1
    rw [bC_len] at this
    omega
  subst hj
  have h1 : look (w.alloc (.cells #[.int .u8 (c : Int)] 5 (1, 2))) w.heap.size = some (.cells #[.int .u8 (c : Int)] 5 (1, 2)) := look_alloc_at _ _ _ rfl
  rw [look_cell h1]
  exact hu

set_option maxRecDepth 100000 in
set_option maxHeartbeats 6400000 in
theorem alive16 (w : World) :
    Calls Try.prog 14 #[] w fun e w' => e = .returned (.bool true) ∧ Below w.heap.size w w' := by
  go_enter Try.func14, Try.ntmps14
  go_wp2_with fail
  refine (lnew_any _).mono ?_
  rintro _ _ ⟨rfl, rfl⟩
  have hL0 := link_new w
  have hB0 := belA (bel0 w) (.cells #[.int .u64 1, .slice none 0 0, .int .u64 1] 51)
  obtain ⟨w0, hw0⟩ : ∃ w0, Hid (w0 = w.alloc (.cells #[.int .u64 1, .slice none 0 0, .int .u64 1] 51)) := ⟨_, hidP rfl⟩
  rw [← hw0.out] at hL0 hB0 ⊢
  obtain ⟨p, hp⟩ : ∃ p, Hid (p = w.heap.size) := ⟨_, hidP rfl⟩
  rw [← hp.out] at hL0 ⊢
  have hpB : w.heap.size ≤ p := Nat.le_of_eq hp.out.symm
  -- x
  have hb1 := belA (bel0 w0) (.cells #[.int .u8 120] 5 (1, 2))
  have hx1 := lit_mark w0 120
  have kc1 := Lib.run_convert_bytes_const (P := Try.prog) w0 30 5 #[.int .u8 120] 1 1 Try.underlying30 Try.underlying5
  go_wp2_with fail
  refine (lsend_yes p _ [120] newL _ _ (by decide) (by decide) (by decide) (by decide) hx1 (hL0.below hb1)).mono ?_
  rintro _ w1 ⟨rfl, S1, hL1, hG1, hg1⟩
  clear kc1
  have hL1 : LinkAt S1 w1 p alL1 := hL1
  have hB1 : Below w.heap.size w w1 := (belT hB0 hb1).grown hg1 (by have := hB0.size; simp; omega) (fun k e => by cases e; exact hpB)
  -- y
  have hb2 := belA (bel0 w1) (.cells #[.int .u8 121] 5 (1, 2))
  have hx2 := lit_mark w1 121
  have kc2 := Lib.run_convert_bytes_const (P := Try.prog) w1 30 5 #[.int .u8 121] 1 1 Try.underlying30 Try.underlying5
  go_wp2_with fail
  refine (lsend_yes p _ [121] alL1 _ _ (by decide) (by decide) (by decide) (by decide) hx2 (hL1.below hb2)).mono ?_
  rintro _ w2 ⟨rfl, S2, hL2, hG2, hg2⟩
  clear kc2
  have hL2 : LinkAt S2 w2 p alL2 := hL2
  have hB2 : Below w.heap.size w w2 := (belT hB1 hb2).grown hg2 (by have := hB1.size; simp; omega) (fun k e => by cases e; exact hpB)
  go_wp2_with fail
  refine (lacked_any p 1 alL2 _ _ (by decide) (by decide) (by decide) (by decide) hL2).mono ?_
  rintro _ w3 ⟨rfl, S3, hL3, hG3, hg3⟩
  have hL3 : LinkAt S3 w3 p alL3 := hL3
  have hB3 : Below w.heap.size w w3 := hB2.grown hg3 hB2.size (fun k e => by cases e; exact hpB)
  go_wp2_with fail
  refine (lqueue_any p alL3 _ _ (by decide) (by decide) (by decide) (by decide) (fun b hb => by rw [List.mem_singleton.1 hb]; decide) hL3).mono ?_
  rintro _ w4 ⟨qv, rfl, hI4, hb4⟩
  have hL4 := hL3.below hb4
  have hB4 := belT hB3 hb4
  have hp3 : p < w3.heap.size := hL3.lt
  go_wp2_with fail
  refine (ltake_any p 1 alL3 _ _ (by decide) (by decide) (by decide) hL4).mono ?_
  rintro _ w5 ⟨rfl, hL5, hg5⟩
  have hL5 : LinkAt S3 w5 p alL4 := hL5
  have hB5 : Below w.heap.size w w5 := hB4.grown hg5 hB4.size (fun k e => by cases e; exact hpB)
  have hI5 := hI4.kept hg5.size (fun b hb => hg5.block b hb.2 (fun e => by cases e; omega))
  have t1 : takeB alL3 1 = true := by decide
  have t2 : takeE alL3 1 = 0 := by decide
  rw [t1, t2]
  go_wp2_with fail
  refine (ltake_any p 1 alL4 _ _ (by decide) (by decide) (by decide) hL5).mono ?_
  rintro _ w6 ⟨rfl, hL6, hg6⟩
  have hL6 : LinkAt S3 w6 p alL4 := hL6
  have hB6 : Below w.heap.size w w6 := hB5.grown hg6 hB5.size (fun k e => by cases e; exact hpB)
  have hs5 := hg5.size
  have hI6 := hI5.kept hg6.size (fun b hb => hg6.block b (by omega) (fun e => by cases e; omega))
  have t3 : takeB alL4 1 = false := by decide
  have t4 : takeE alL4 1 = 0 := by decide
  rw [t3, t4]
  go_wp2_with fail
  refine (ltake_any p 3 alL4 _ _ (by decide) (by decide) (by decide) hL6).mono ?_
  rintro _ w7 ⟨rfl, hL7, hg7⟩
  have hL7 : LinkAt S3 w7 p alL4 := hL7
  have hB7 : Below w.heap.size w w7 := hB6.grown hg7 hB6.size (fun k e => by cases e; exact hpB)
  have hs6 := hg6.size
  have hI7 := hI6.kept hg7.size (fun b hb => hg7.block b (by omega) (fun e => by cases e; omega))
  have t5 : takeB alL4 3 = false := by decide
  have t6 : takeE alL4 3 = 14 := by decide
  rw [t5, t6]
  go_wp2_with fail
  refine (lacked_any p 3 alL4 _ _ (by decide) (by decide) (by decide) (by decide) hL7).mono ?_
  rintro _ w8 ⟨rfl, S8, hL8, hG8, hg8⟩
  have hL8 : LinkAt S8 w8 p alL4 := hL8
  have hB8 : Below w.heap.size w w8 := hB7.grown hg8 hB7.size (fun k e => by cases e; exact hpB)
  have hs7 := hg7.size
  have hI8 := hI7.kept hg8.size (fun b hb => hg8.block b (by omega) (fun e => by cases e; omega))
  have t7 : ackE alL4 3 = 14 := by decide
  have t8 : ackN alL4 3 = 0 := by decide
  rw [t7, t8]
  clear hI4 hI5 hI6 hI7 hL1 hL2 hL3 hL4 hL5 hL6 hL7 hB1 hB2 hB3 hB4 hB5 hB6 hB7 hG1 hG2 hG3 hG8 hx1 hx2 hL0 hB0 t1 t2 t3 t4 t5 t6 t7 t8 hb1 hb2
  have hs8 := hg8.size
  go_wp2_with fail
  refine (lsave_any p alL4 _ _ ok_al4 hL8).mono ?_
  rintro _ w9 ⟨rfl, hb9⟩
  have hB9 := belT hB8 hb9
  have hI9 := hI8.kept hb9.size (fun b hb => hb9.block b (by omega))
  have hel : encLk alL4 = [3, 1, 1, 121, 2] := by kernel_rfl
  rw [hel]
  go_wp2_with (with_reducible refine wpList_str_bytes rfl _ rfl [3, 1, 1, 121, 2] rfl (by decide) (by decide) ?_; refine stop_here ?_)
  refine hidP ?_
  intro c10 w10 hc10 hs10 hb10
  have hB10 := belT hB9 hb10
  have hI10 := hI9.kept hb10.size (fun b hb => hb10.block b (by have := hb9.size; omega))
  have hwd : whole (decLk [3, 1, 1, 121, 2]) = some alL4 := by
    have h := codeLk.whole (x := alL4) [] ok_al4
    rw [List.append_nil, hel] at h
    rw [h]; rfl
  go_wp2_with fail
  refine (lload_any _ [3, 1, 1, 121, 2] _ (by decide) (by decide) hs10).mono ?_
  rintro e w11 ⟨hP, hb11⟩
  rw [hwd] at hP
  obtain ⟨q, Sq, rfl, hq, hSq, hLq⟩ := hP
  have hB11 := belT hB10 hb11
  have hI11 := hI10.kept hb11.size (fun b hb => hb11.block b (by have := hb9.size; have := hb10.size; omega))
  obtain ⟨us, hi1, _, hi3⟩ := hI11
  obtain ⟨ia, ic, rfl⟩ := row_one hi1
  have hi2 : SliceAt w11 (us 0) [121].length 1 (bC [121]) := (hi3 0 (by decide)).1
  obtain ⟨ua, uc, hue⟩ := row_one hi2
  rw [hue] at hi2
  obtain ⟨b, off, rfl, _, hR⟩ : ∃ b off, ia = some ⟨b, off, none⟩ ∧ b < w11.heap.size ∧ ∀ k, k < 1 → w11.rangeAt b (off + k * 2) (itC alL3.fst us k) := by
    obtain ⟨_, _, e, _, _, hh⟩ := hi1
    cases e
    exact hh.resolve_left (by decide)
  have hc0 : w11.cell? ⟨b, off, none⟩ = some (.int .u64 2) := hR 0 (by decide) 0 _ rfl
  have hc1 : w11.cell? ⟨b, off + 1, none⟩ = some (.slice ua 1 uc) := by
    have := hR 0 (by decide) 1 _ rfl
    rw [hue] at this
    exact this
  have hcs : (convert 30 9 (.slice ua 1 uc)).run Try.prog w11 = .ok (.string ⟨#[121]⟩) w11 := conv_str hi2
  obtain ⟨vq, usq, hlq, _⟩ := hLq
  have hn0 : whole (decLk []) = none := by kernel_rfl
  have hnil : SliceAt w11 (.slice none 0 0) ([] : List Nat).length 1 (bC []) := SliceAt.nil _ _ _
  clear hR hi1 hi3 hI8 hI9 hI10 hwd hs10 hB8 hB9 hB10
  go_wp2_with fail
  refine (lexpect_any q 2 vq _ _ hlq).mono ?_
  rintro _ _ ⟨rfl, rfl⟩
  go_wp2_with fail
  refine (lnext_any q 3 vq _ _ hlq).mono ?_
  rintro _ _ ⟨rfl, rfl⟩
  go_wp2_with fail
  refine (lload_any _ [] _ (fun x hx => by cases hx) (by decide) hnil).mono ?_
  rintro e w12 ⟨hP, hb12⟩
  rw [hn0] at hP
  have hP2 : e = .returned (.pointer none) := hP
  subst hP2
  have hB12 := belT hB11 hb12
  go_wp2
  go_ret
  exact ⟨rfl, hB12⟩
end Go.Proofs.Ytnpofcnibgdjhaa
