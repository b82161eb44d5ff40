/- LabelBack: labels go there and back, in one way alone; cut anywhere, their bytes are none. No condition but that the numbers are such as their types hold. -/
import Derived.Test.YtniphfkipjpikaaLbH
namespace Go.Proofs.Ytniphfkipjpikaa
open Go.RowKit

theorem typed_zero : Typed zeroL := typed_small (by decide) (by decide) (by decide) (by decide) (by decide) (fun _ => by show 0 < 100; omega)
theorem right_zero : rightL zeroL = false := by kernel_rfl
theorem vecB_byte (f : Nat → Nat) : ∀ x ∈ vecB f, x < 256 := by
  intro x hx
  unfold vecB at hx
  rcases List.mem_append.1 hx with h | h
  · exact numB_byte _ x h
  · unfold vbs at h
    obtain ⟨i, _, h2⟩ := List.mem_flatMap.1 h
    exact numB_byte _ x h2
theorem encL_byte (l : Lb) : ∀ x ∈ encL l, x < 256 := by
  intro x hx
  unfold encL at hx
  simp only [List.mem_append] at hx
  rcases hx with ((((h | h) | h) | h) | h) | h
  · exact numB_byte _ x h
  · exact numB_byte _ x h
  · exact numB_byte _ x h
  · exact numB_byte _ x h
  · exact numB_byte _ x h
  · exact vecB_byte _ x h
theorem whole_some {α : Type} {r : Rd α} {x : α} (h : whole r = some x) : r = .ok x [] := by
  cases r with
  | fault k => cases h
  | ok y t =>
    cases t with
    | nil => cases h; rfl
    | cons a b => cases h
/-- A slice, cut. -/
theorem SliceAt.upto2 {w : World} {ad : Option Addr} {n cap m : Nat} {bs : List Nat} (h : SliceAt w (.slice ad n cap) n 1 (bC bs)) (hm : m ≤ n) (hn : bs.length = n) : SliceAt w (.slice ad m cap) (bs.take m).length 1 (bC (bs.take m)) := by
  have hl : (bs.take m).length = m := by rw [List.length_take]; omega
  rw [hl]
  obtain ⟨_, _, e, h2, h3, h4⟩ := h
  cases e
  refine ⟨ad, cap, rfl, fun hx => ⟨by have := h2 hx; omega, (h2 hx).2⟩, by omega, ?_⟩
  rcases h4 with h4 | ⟨b, off, e, hb, hR⟩
  · exact .inl (by omega)
  · exact .inr ⟨b, off, e, hb, fun k hk => by rw [← bC_take bs m k hk]; exact hR k (by omega)⟩
theorem Typed.of_right {l : Lb} (h : rightL l = true) (hv : vok l.deps) : Typed l := by
  obtain ⟨⟨r1, r2, r3, r4, r5, r6⟩, ⟨r7, r8, r9, r10⟩, _, _⟩ := (rightL_iff l).1 h
  exact ⟨by omega, ⟨by omega, by omega⟩, by omega, ⟨by omega, by omega⟩, ⟨by omega, by omega⟩, fun k => by have := hv.1 k; omega⟩

set_option maxRecDepth 100000 in
set_option maxHeartbeats 3200000 in
theorem labelBack_any (l : Lb) (v : Value) (bs : List Nat) (cut : Int) (w : World) (ht : Typed l) (hd : vok l.deps) (hby : ∀ x ∈ bs, x < 256) (hlen : bs.length ≤ 9223372036854775807) (hv : SliceAt w v bs.length 1 (bC bs)) (hcut : -9223372036854775808 ≤ cut ∧ cut ≤ 9223372036854775807) :
    Calls Try.prog 10 #[.agg (LA l), v, .int .i64 cut] w fun e w' => e = .returned (.bool true) ∧ Below w.heap.size w w' := by
  obtain ⟨ad, cap, rfl, hv2⟩ := hv
  have hv : SliceAt w (.slice ad bs.length cap) bs.length 1 (bC bs) := ⟨ad, cap, rfl, hv2⟩
  clear hv2
  have hb0 := belA (bel0 w) (.cells (LA l) 87)
  have hs0 := hv.below hb0
  have l0 : look (w.alloc (.cells (LA l) 87)) w.heap.size = some (.cells (LA l) 87 (0, 0)) := look_alloc_at _ _ _ rfl
  by_cases h300 : bs.length ≤ 300
  · have d300 : decide ((300 : Int) < (bs.length : Int)) = false := decide_eq_false (by omega)
    have hlen2 : bs.length ≤ 1000000 := by omega
    clear h300 hlen
    cases hr : rightL l
    · go_enter Try.func10, Try.ntmps10
      go_wp2_with fail
      refine (lwrite_no l _ ht hr).mono ?_
      rintro _ w1 ⟨rfl, hb1⟩
      have hB1 := belT hb0 hb1
      have hs1 := hs0.below hb1
      clear d300
      cases hdw : whole (decL bs) with
      | none =>
        go_wp2_with fail
        refine (lread_no _ bs _ hby hlen2 hs1 hdw).mono ?_
        rintro _ x1 ⟨rfl, hx1⟩
        have hx2 := belA hx1 (.cells (LA zeroL) 87)
        have hX2 := belT hB1 hx2
        go_wp2_with fail
        refine (lwrite_no zeroL _ typed_zero right_zero).mono ?_
        rintro _ x3 ⟨rfl, hx3⟩
        have hX3 := belT hX2 hx3
        go_wp2_with fail
        refine (alive05 _).mono ?_
        rintro _ x4 ⟨rfl, hx4⟩
        have hX4 := belT hX3 hx4
        go_wp2
        go_ret
        exact ⟨rfl, hX4⟩
      | some m =>
        have hso := codeL.sound hby (whole_some hdw)
        rw [List.append_nil] at hso
        obtain ⟨⟨hmr, hmd⟩, hme⟩ := hso
        have hmt := Typed.of_right hmr hmd
        have hmh := hidP hme
        clear hme
        go_wp2_with fail
        refine (lread_ok _ bs m _ hby hlen2 hs1 hdw).mono ?_
        rintro _ x1 ⟨rfl, hx1⟩
        have hx2 := belA hx1 (.cells (LA m) 87)
        have hX2 := belT hB1 hx2
        have hy2 := hs1.below hx2
        go_wp2_with fail
        refine (lwrite_yes m _ hmt hmr).mono ?_
        rintro _ x3 ⟨u3, rfl, hu3, hx3⟩
        rw [← hmh.out] at hu3
        have hz3 := own_slice hu3
        have hX3 := belT hX2 hx3
        have hy3 := hy2.below hx3
        clear hu3 hdw
        go_wp2_with fail
        refine (alive05 _).mono ?_
        rintro _ x4 ⟨rfl, hx4⟩
        have hX4 := belT hX3 hx4
        have q1 := conv_str (hz3.below hx4)
        have q2 := conv_str (hy3.below hx4)
        go_wp2
        go_ret
        exact ⟨rfl, hX4⟩
    · have hg : goodL l := ⟨hr, hd⟩
      have hel := encL_len l
      have hwb : whole (decL (encL l)) = some l := by
        have := codeL.whole (x := l) [] hg
        rw [List.append_nil] at this
        rw [this]; rfl
      have hq := leq_same l
      by_cases hc : 0 ≤ cut ∧ cut < (encL l).length
      · obtain ⟨cu, rfl⟩ : ∃ k : Nat, cut = k := ⟨cut.toNat, by omega⟩
        have hcu : cu < (encL l).length := by omega
        have dc1 : decide ((0 : Int) ≤ (cu : Int)) = true := decide_eq_true (by omega)
        have dc2 : decide ((cu : Int) < ((encL l).length : Int)) = true := decide_eq_true (by omega)
        have hwc := code_cut codeL hg (encL_byte l) hcu
        clear hc
        go_enter Try.func10, Try.ntmps10
        go_wp2_with fail
        refine (lwrite_yes l _ ht hr).mono ?_
        rintro _ w1 ⟨u, rfl, hu, hb1⟩
        obtain ⟨ua, uc, rfl⟩ := own_form hu
        have hsu := own_slice hu
        have hB1 := belT hb0 hb1
        have hs1 := hs0.below hb1
        have l1 : look w1 w.heap.size = some (.cells (LA l) 87 (0, 0)) := by rw [look_below hb1 (look_lt l0)]; exact l0
        clear hu
        go_wp2_with fail
        refine (lread_ok _ (encL l) l _ (encL_byte l) (by omega) hsu hwb).mono ?_
        rintro _ w2 ⟨rfl, hb2⟩
        have hb3 := belA hb2 (.cells (LA l) 87)
        have hB3 := belT hB1 hb3
        have hs3 := hs1.below hb3
        have hsu3 := hsu.below hb3
        have l3 : look (w2.alloc (.cells (LA l) 87)) w.heap.size = some (.cells (LA l) 87 (0, 0)) := by rw [look_below hb3 (look_lt l1)]; exact l1
        have m3 : look (w2.alloc (.cells (LA l) 87)) w2.heap.size = some (.cells (LA l) 87 (0, 0)) := look_alloc_at _ _ _ rfl
        have hsc := hsu3.upto2 (m := cu) (by omega) rfl
        have hcap : cu ≤ uc := by
          obtain ⟨_, _, e, _, hx, _⟩ := hsu
          cases e
          omega
        go_wp2_with fail
        refine (lread_no _ ((encL l).take cu) _ (fun x hx => encL_byte l x (List.mem_of_mem_take hx)) (by rw [List.length_take]; omega) hsc hwc).mono ?_
        rintro _ w4 ⟨rfl, hb4⟩
        have hb5 := belA hb4 (.cells (LA zeroL) 87)
        have hB5 := belT hB3 hb5
        have hs5 := hs3.below hb5
        clear d300 dc1 dc2
        cases hdw : whole (decL bs) with
        | none =>
          go_wp2_with fail
          refine (lread_no _ bs _ hby hlen2 hs5 hdw).mono ?_
          rintro _ x1 ⟨rfl, hx1⟩
          have hx2 := belA hx1 (.cells (LA zeroL) 87)
          have hX2 := belT hB5 hx2
          go_wp2_with fail
          refine (lwrite_no zeroL _ typed_zero right_zero).mono ?_
          rintro _ x3 ⟨rfl, hx3⟩
          have hX3 := belT hX2 hx3
          go_wp2_with fail
          refine (alive05 _).mono ?_
          rintro _ x4 ⟨rfl, hx4⟩
          have hX4 := belT hX3 hx4
          go_wp2
          go_ret
          exact ⟨rfl, hX4⟩
        | some m =>
          have hso := codeL.sound hby (whole_some hdw)
          rw [List.append_nil] at hso
          obtain ⟨⟨hmr, hmd⟩, hme⟩ := hso
          have hmt := Typed.of_right hmr hmd
          have hmh := hidP hme
          clear hme
          go_wp2_with fail
          refine (lread_ok _ bs m _ hby hlen2 hs5 hdw).mono ?_
          rintro _ x1 ⟨rfl, hx1⟩
          have hx2 := belA hx1 (.cells (LA m) 87)
          have hX2 := belT hB5 hx2
          have hy2 := hs5.below hx2
          go_wp2_with fail
          refine (lwrite_yes m _ hmt hmr).mono ?_
          rintro _ x3 ⟨u3, rfl, hu3, hx3⟩
          rw [← hmh.out] at hu3
          have hz3 := own_slice hu3
          have hX3 := belT hX2 hx3
          have hy3 := hy2.below hx3
          clear hu3 hdw
          go_wp2_with fail
          refine (alive05 _).mono ?_
          rintro _ x4 ⟨rfl, hx4⟩
          have hX4 := belT hX3 hx4
          have q1 := conv_str (hz3.below hx4)
          have q2 := conv_str (hy3.below hx4)
          go_wp2
          go_ret
          exact ⟨rfl, hX4⟩
      · go_enter Try.func10, Try.ntmps10
        go_wp2_with fail
        refine (lwrite_yes l _ ht hr).mono ?_
        rintro _ w1 ⟨u, rfl, hu, hb1⟩
        obtain ⟨ua, uc, rfl⟩ := own_form hu
        have hsu := own_slice hu
        have hB1 := belT hb0 hb1
        have hs1 := hs0.below hb1
        have l1 : look w1 w.heap.size = some (.cells (LA l) 87 (0, 0)) := by rw [look_below hb1 (look_lt l0)]; exact l0
        clear hu
        have hch := hidP hc
        clear hc
        go_wp2_with fail
        refine (lread_ok _ (encL l) l _ (encL_byte l) (by omega) hsu hwb).mono ?_
        rintro _ w2 ⟨rfl, hb2⟩
        have hb3 := belA hb2 (.cells (LA l) 87)
        have hB3 := belT hB1 hb3
        have hs3 := hs1.below hb3
        have l3 : look (w2.alloc (.cells (LA l) 87)) w.heap.size = some (.cells (LA l) 87 (0, 0)) := by rw [look_below hb3 (look_lt l1)]; exact l1
        have m3 : look (w2.alloc (.cells (LA l) 87)) w2.heap.size = some (.cells (LA l) 87 (0, 0)) := look_alloc_at _ _ _ rfl
        by_cases hc0 : 0 ≤ cut
        · have hc1 : ¬ cut < ((encL l).length : Int) := fun e => hch.out ⟨hc0, e⟩
          have dc1 : decide ((0 : Int) ≤ cut) = true := decide_eq_true hc0
          have dc2 : decide (cut < ((encL l).length : Int)) = false := decide_eq_false hc1
          clear hc0 hc1 hch
          cases hdw : whole (decL bs) with
          | none =>
            go_wp2_with fail
            refine (lread_no _ bs _ hby hlen2 hs3 hdw).mono ?_
            rintro _ x1 ⟨rfl, hx1⟩
            have hx2 := belA hx1 (.cells (LA zeroL) 87)
            have hX2 := belT hB3 hx2
            go_wp2_with fail
            refine (lwrite_no zeroL _ typed_zero right_zero).mono ?_
            rintro _ x3 ⟨rfl, hx3⟩
            have hX3 := belT hX2 hx3
            go_wp2_with fail
            refine (alive05 _).mono ?_
            rintro _ x4 ⟨rfl, hx4⟩
            have hX4 := belT hX3 hx4
            go_wp2
            go_ret
            exact ⟨rfl, hX4⟩
          | some m =>
            have hso := codeL.sound hby (whole_some hdw)
            rw [List.append_nil] at hso
            obtain ⟨⟨hmr, hmd⟩, hme⟩ := hso
            have hmt := Typed.of_right hmr hmd
            have hmh := hidP hme
            clear hme
            go_wp2_with fail
            refine (lread_ok _ bs m _ hby hlen2 hs3 hdw).mono ?_
            rintro _ x1 ⟨rfl, hx1⟩
            have hx2 := belA hx1 (.cells (LA m) 87)
            have hX2 := belT hB3 hx2
            have hy2 := hs3.below hx2
            go_wp2_with fail
            refine (lwrite_yes m _ hmt hmr).mono ?_
            rintro _ x3 ⟨u3, rfl, hu3, hx3⟩
            rw [← hmh.out] at hu3
            have hz3 := own_slice hu3
            have hX3 := belT hX2 hx3
            have hy3 := hy2.below hx3
            clear hu3 hdw
            go_wp2_with fail
            refine (alive05 _).mono ?_
            rintro _ x4 ⟨rfl, hx4⟩
            have hX4 := belT hX3 hx4
            have q1 := conv_str (hz3.below hx4)
            have q2 := conv_str (hy3.below hx4)
            go_wp2
            go_ret
            exact ⟨rfl, hX4⟩
        · have dc1 : decide ((0 : Int) ≤ cut) = false := decide_eq_false hc0
          clear hc0 hch
          cases hdw : whole (decL bs) with
          | none =>
            go_wp2_with fail
            refine (lread_no _ bs _ hby hlen2 hs3 hdw).mono ?_
            rintro _ x1 ⟨rfl, hx1⟩
            have hx2 := belA hx1 (.cells (LA zeroL) 87)
            have hX2 := belT hB3 hx2
            go_wp2_with fail
            refine (lwrite_no zeroL _ typed_zero right_zero).mono ?_
            rintro _ x3 ⟨rfl, hx3⟩
            have hX3 := belT hX2 hx3
            go_wp2_with fail
            refine (alive05 _).mono ?_
            rintro _ x4 ⟨rfl, hx4⟩
            have hX4 := belT hX3 hx4
            go_wp2
            go_ret
            exact ⟨rfl, hX4⟩
          | some m =>
            have hso := codeL.sound hby (whole_some hdw)
            rw [List.append_nil] at hso
            obtain ⟨⟨hmr, hmd⟩, hme⟩ := hso
            have hmt := Typed.of_right hmr hmd
            have hmh := hidP hme
            clear hme
            go_wp2_with fail
            refine (lread_ok _ bs m _ hby hlen2 hs3 hdw).mono ?_
            rintro _ x1 ⟨rfl, hx1⟩
            have hx2 := belA hx1 (.cells (LA m) 87)
            have hX2 := belT hB3 hx2
            have hy2 := hs3.below hx2
            go_wp2_with fail
            refine (lwrite_yes m _ hmt hmr).mono ?_
            rintro _ x3 ⟨u3, rfl, hu3, hx3⟩
            rw [← hmh.out] at hu3
            have hz3 := own_slice hu3
            have hX3 := belT hX2 hx3
            have hy3 := hy2.below hx3
            clear hu3 hdw
            go_wp2_with fail
            refine (alive05 _).mono ?_
            rintro _ x4 ⟨rfl, hx4⟩
            have hX4 := belT hX3 hx4
            have q1 := conv_str (hz3.below hx4)
            have q2 := conv_str (hy3.below hx4)
            go_wp2
            go_ret
            exact ⟨rfl, hX4⟩
  · have d300 : decide ((300 : Int) < (bs.length : Int)) = true := decide_eq_true (by omega)
    clear h300 hlen
    go_enter Try.func10, Try.ntmps10
    go_wp2_with fail
    refine (alive05 _).mono ?_
    rintro _ w1 ⟨rfl, hb1⟩
    have hB1 := belT hb0 hb1
    go_wp2
    go_ret
    exact ⟨rfl, hB1⟩
end Go.Proofs.Ytniphfkipjpikaa
