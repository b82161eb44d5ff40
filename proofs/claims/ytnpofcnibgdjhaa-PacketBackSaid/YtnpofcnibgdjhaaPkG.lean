/- Packets: read from bytes. -/
import Derived.Test.YtnpofcnibgdjhaaPkE
namespace Go.Proofs.Ytnpofcnibgdjhaa
open Go.RowKit
variable {X : Nat → Prop}

theorem encP_small {k : Pk} (h : k.bs.length ≤ 1800) : (encP k).length ≤ 2000 := by
  have h1 := (numB_len (if k.ack = true then 1 else 0)).2
  have h2 := (numB_len k.frm.toNat).2
  have h3 := (numB_len k.to.toNat).2
  have h4 := (numB_len k.seq).2
  have h5 := (numB_len k.bs.length).2
  have h6 : (if k.ack = true then [] else encT k.bs).length ≤ k.bs.length + 10 := by
    split
    · simp
    · unfold encT
      rw [List.length_append]; omega
  unfold encP
  simp only [List.length_append]
  omega
def zeroP : Pk := ⟨false, 0, 0, 0, []⟩
/-- What Read hands back. -/
def preadP (bs : List Nat) (B : Nat) (e : Ending) (w' : World) : Prop := match whole (decR bs) with
  | none => e = .returned (.tuple #[.agg (pkA zeroP none 0), .int .i64 3])
  | some x => if encW x.1 = bs then ∃ ad cap, e = .returned (.tuple #[.agg (pkA x.1 ad cap), .int .i64 0]) ∧ DatAt w' x.1 ad cap ∧ (0 < x.1.bs.length → ∀ b, blkOf (.slice ad x.1.bs.length cap) = some b → B ≤ b) else e = .returned (.tuple #[.agg (pkA zeroP none 0), .int .i64 9])

set_option maxRecDepth 100000 in
set_option maxHeartbeats 6400000 in
theorem pread_any (v : Value) (bs : List Nat) (w : World) (hby : ∀ x ∈ bs, x < 256) (hlen : bs.length ≤ 900000) (hv : SliceAt w v bs.length 1 (bC bs)) :
    Calls Try.prog 34 #[v] w fun e w' => preadP bs w.heap.size e w' ∧ Below w.heap.size w w' := by
  have hbA := belA (belA (belA (bel0 w) (.cells #[.bool false, .int .i64 0, .int .i64 0, .int .u64 0, .slice none 0 0] 69)) (.cells #[.bool false, .int .i64 0, .int .i64 0, .int .u64 0, .slice none 0 0] 69)) (.cells #[.int .i64 0] 3)
  have hv1 := hv.below hbA
  have hsz : (((w.alloc (.cells #[.bool false, .int .i64 0, .int .i64 0, .int .u64 0, .slice none 0 0] 69)).alloc (.cells #[.bool false, .int .i64 0, .int .i64 0, .int .u64 0, .slice none 0 0] 69)).alloc (.cells #[.int .i64 0] 3)).heap.size = w.heap.size + 3 := by simp
  have l0 : look (((w.alloc (.cells #[.bool false, .int .i64 0, .int .i64 0, .int .u64 0, .slice none 0 0] 69)).alloc (.cells #[.bool false, .int .i64 0, .int .i64 0, .int .u64 0, .slice none 0 0] 69)).alloc (.cells #[.int .i64 0] 3)) w.heap.size = some (.cells #[.bool false, .int .i64 0, .int .i64 0, .int .u64 0, .slice none 0 0] 69 (0, 0)) := by
    rw [look_alloc_past _ _ _ (by simp; omega), look_alloc_past _ _ _ (by simp)]
    exact look_alloc_at _ _ _ rfl
  have l1 : look (((w.alloc (.cells #[.bool false, .int .i64 0, .int .i64 0, .int .u64 0, .slice none 0 0] 69)).alloc (.cells #[.bool false, .int .i64 0, .int .i64 0, .int .u64 0, .slice none 0 0] 69)).alloc (.cells #[.int .i64 0] 3)) (w.heap.size + 1) = some (.cells #[.bool false, .int .i64 0, .int .i64 0, .int .u64 0, .slice none 0 0] 69 (0, 0)) := by
    rw [look_alloc_past _ _ _ (by simp)]
    exact look_alloc_at _ _ _ (by simp)
  have l2 : look (((w.alloc (.cells #[.bool false, .int .i64 0, .int .i64 0, .int .u64 0, .slice none 0 0] 69)).alloc (.cells #[.bool false, .int .i64 0, .int .i64 0, .int .u64 0, .slice none 0 0] 69)).alloc (.cells #[.int .i64 0] 3)) (w.heap.size + 2) = some (.cells #[.int .i64 0] 3 (0, 0)) := look_alloc_at _ _ _ (by simp)
  go_enter Try.func34, Try.ntmps34
  go_wp2_with fail
  refine (read_any 81 #[.pointer (some ⟨w.heap.size + 1, 0, none⟩), .pointer (some ⟨w.heap.size + 2, 0, none⟩)] (decR bs) bs v (fun u => Below w.heap.size w u ∧ look u w.heap.size = some (.cells #[.bool false, .int .i64 0, .int .i64 0, .int .u64 0, .slice none 0 0] 69 (0, 0)) ∧ ∀ x r, decR bs = .ok x r → ∃ (ad : Option Addr) (cap : Nat), look u (w.heap.size + 1) = some (.cells (pkA x.1 ad cap) 69 (0, 0)) ∧ look u (w.heap.size + 2) = some (.cells #[.int .i64 (x.2 : Int)] 3 (0, 0)) ∧ DatAt u x.1 ad cap ∧ (0 < x.1.bs.length → ∀ b, blkOf (.slice ad x.1.bs.length cap) = some b → w.heap.size + 3 < b)) _ (by omega)
    (enters_of' Try.func81 (by kernel_rfl) rfl) (slice_news hv1) ?_ ?_).mono ?_
  · rintro w2 w3 ⟨h0, hz, h2⟩ hg
    refine ⟨h0.grown hg h0.size (fun g e => by cases e; omega), ?_, fun x r e => ?_⟩
    · rw [grown_look hg (look_lt hz) (by intro g e; cases e; omega)]; exact hz
    · obtain ⟨ad, cap, k1, k2, k3, k4⟩ := h2 x r e
      refine ⟨ad, cap, ?_, ?_, dat_set k3 hg (fun h0 b hb => by have := k4 h0 b hb; omega), k4⟩
      · rw [grown_look hg (look_lt k1) (by intro g e; cases e; omega)]; exact k1
      · rw [grown_look hg (look_lt k2) (by intro g e; cases e; omega)]; exact k2
  · intro w1 p hp hb hrd
    have hszb := hb.size
    have hpw : p < w1.heap.size := rd_lt hrd
    have m0 : look w1 w.heap.size = some (.cells #[.bool false, .int .i64 0, .int .i64 0, .int .u64 0, .slice none 0 0] 69 (0, 0)) := by rw [look_below hb (look_lt l0)]; exact l0
    have m1 : look w1 (w.heap.size + 1) = some (.cells #[.bool false, .int .i64 0, .int .i64 0, .int .u64 0, .slice none 0 0] 69 (0, 0)) := by rw [look_below hb (look_lt l1)]; exact l1
    have m2 : look w1 (w.heap.size + 2) = some (.cells #[.int .i64 0] 3 (0, 0)) := by rw [look_below hb (look_lt l2)]; exact l2
    refine (rread1_any p (w.heap.size + 1) (w.heap.size + 2) bs w1 (by omega) (by omega) (by omega) (by omega) hby hrd m1 m2).mono ?_
    rintro e w2 ⟨⟨k1, k2, k3, k4, k5⟩, hr⟩
    have hE : look w2 (((w.alloc (.cells #[.bool false, .int .i64 0, .int .i64 0, .int .u64 0, .slice none 0 0] 69)).alloc (.cells #[.bool false, .int .i64 0, .int .i64 0, .int .u64 0, .slice none 0 0] 69)).alloc (.cells #[.int .i64 0] 3)).heap.size = look w1 (((w.alloc (.cells #[.bool false, .int .i64 0, .int .i64 0, .int .u64 0, .slice none 0 0] 69)).alloc (.cells #[.bool false, .int .i64 0, .int .i64 0, .int .u64 0, .slice none 0 0] 69)).alloc (.cells #[.int .i64 0] 3)).heap.size := k5 _ (by omega) (by omega) (by omega) (by omega)
    have hB2 : Below w.heap.size w w2 := by
      refine ⟨k1.trans (hb.os.trans hbA.os), k2.trans (hb.tape.trans hbA.tape), k3.trans (hb.output.trans hbA.output), by omega, fun k hk => ?_⟩
      rw [k5 k (by omega) (by omega) (by omega) (by omega), hb.block k (by omega), hbA.block k hk]
    refine ⟨hE, ⟨hB2, ?_, ?_⟩, ?_⟩
    · exact (k5 _ (by omega) (by omega) (by omega) (by omega)).trans m0
    · intro x r e
      rw [e] at hr
      obtain ⟨_, _, ad, cap, x1, x2, x3, x4⟩ := hr
      exact ⟨ad, cap, x1, x2, x3, fun h0 b hb => by have := x4 h0 b hb; omega⟩
    · cases hd : decR bs with
      | ok x r =>
        rw [hd] at hr
        exact ⟨hr.1, hr.2.1⟩
      | fault k =>
        rw [hd] at hr
        exact hr
  · rintro _ w3 ⟨rfl, hB3, hz3, hx3⟩
    rcases whole_code (fal_R bs) with ⟨h0, x, hx, hx2⟩ | ⟨h0, hx2⟩
    · rw [h0]
      obtain ⟨ad, cap, y1, y2, y3, y4⟩ := hx3 x [] hx
      obtain ⟨⟨⟨hr, hbx⟩, hsx⟩, hbs⟩ := codeR.sound hby hx
      rw [List.append_nil] at hbs
      have hxh := hidP hx2
      have hbsh : Hid (bs = encP x.1 ++ numB x.2) := hidP hbs
      have hv3 := hv.below hB3
      clear hx hx2 h0 hx3 hbs hv1 l0 l1 l2 hbA
      obtain ⟨k, sm⟩ := x
      have hwr := fun u hu => pwrite_yes k ad cap u hbx hu hr
      have hr2 := (rightP_iff k).1 hr
      have hkl : k.bs.length ≤ 1800 := by
        have r8 := hr2.2.2.2.2.2
        unfold dataB at r8
        split at r8
        · have := of_decide_eq_true r8; omega
        · exact ((txt_iff _).1 r8).2
      have hpt := fun (p : Nat) (u : World) (h1 : DatAt u k ad cap) (h2 : 0 < k.bs.length → ∀ b, blkOf (.slice ad k.bs.length cap) = some b → b ≠ p) (h3 : WrV u p none []) => pput_any p k ad cap u ⟨by omega, by omega⟩ ⟨by omega, by omega⟩ (by omega) (by omega) h1 h2 h3
      have hEW := encW_byte k hbx
      have hEPl := encP_small hkl
      have hEPb := encP_byte k hbx
      have hl1 : look w3 (w.heap.size + 1) = some (.cells (pkA k ad cap) 69 (0, 0)) := y1
      have hl2 : look w3 (w.heap.size + 2) = some (.cells #[.int .i64 (sm : Int)] 3 (0, 0)) := y2
      have hD3 : DatAt w3 k ad cap := y3
      have hbsh : Hid (bs = encP k ++ numB sm) := hbsh
      clear y1 y2 y3 hr2
      go_wp2_with fail
      refine (hwr _ hD3).mono ?_
      rintro _ w4 ⟨u4, rfl, hu4, hb4⟩
      have hB4 := belT hB3 hb4
      have hD4 := hD3.below hb4
      have hz4 : look w4 w.heap.size = some (.cells #[.bool false, .int .i64 0, .int .i64 0, .int .u64 0, .slice none 0 0] 69 (0, 0)) := by rw [look_below hb4 (look_lt hz3)]; exact hz3
      have hl41 : look w4 (w.heap.size + 1) = some (.cells (pkA k ad cap) 69 (0, 0)) := by rw [look_below hb4 (look_lt hl1)]; exact hl1
      have hl42 : look w4 (w.heap.size + 2) = some (.cells #[.int .i64 (sm : Int)] 3 (0, 0)) := by rw [look_below hb4 (look_lt hl2)]; exact hl2
      have hv4 := hv3.below hb4
      have hs4 := own_slice hu4
      clear hu4 hv3 hz3 hl1 hl2 hD3 hwr
      go_wp2_with fail
      refine (new_any _).mono ?_
      rintro _ _ ⟨rfl, rfl⟩
      have hbB := belA (bel0 w4) (.cells #[.slice none 0 0] 161)
      have hW5 := wr_new w4
      have hB5 := belT hB4 hbB
      have hD5 := hD4.below hbB
      have hz5 : look (w4.alloc (.cells #[.slice none 0 0] 161)) w.heap.size = some (.cells #[.bool false, .int .i64 0, .int .i64 0, .int .u64 0, .slice none 0 0] 69 (0, 0)) := by rw [look_below hbB (look_lt hz4)]; exact hz4
      have hl51 : look (w4.alloc (.cells #[.slice none 0 0] 161)) (w.heap.size + 1) = some (.cells (pkA k ad cap) 69 (0, 0)) := by rw [look_below hbB (look_lt hl41)]; exact hl41
      have hl52 : look (w4.alloc (.cells #[.slice none 0 0] 161)) (w.heap.size + 2) = some (.cells #[.int .i64 (sm : Int)] 3 (0, 0)) := by rw [look_below hbB (look_lt hl42)]; exact hl42
      have hv5 := hv4.below hbB
      have hs5 := hs4.below hbB
      have hDb4 := hD4.blk
      have h4lt := look_lt hl42
      go_wp2_with fail
      refine (hpt w4.heap.size _ hD5 (fun h0 b hb => by have := hDb4 h0 b hb; omega) hW5).mono ?_
      rintro _ w6 ⟨rfl, g6, hW6, hn6, hk6⟩
      have hb6 : Below w4.heap.size w4 w6 := hbB.trans (hk6.below (by simp) (Nat.le_refl _) (fun k e => by cases e))
      have hB6 := belT hB4 hb6
      have hD6 := hD4.below hb6
      have hz6 : look w6 w.heap.size = some (.cells #[.bool false, .int .i64 0, .int .i64 0, .int .u64 0, .slice none 0 0] 69 (0, 0)) := by rw [look_below hb6 (look_lt hz4)]; exact hz4
      have hl61 : look w6 (w.heap.size + 1) = some (.cells (pkA k ad cap) 69 (0, 0)) := by rw [look_below hb6 (look_lt hl41)]; exact hl41
      have hl62 : look w6 (w.heap.size + 2) = some (.cells #[.int .i64 (sm : Int)] 3 (0, 0)) := by rw [look_below hb6 (look_lt hl42)]; exact hl42
      have hv6 := hv4.below hb6
      have hs6 := hs4.below hb6
      have hsz6 := look_lt hl62
      have heq := equal_any u4 v (encW k) bs w6 hEW hby hs6 hv6
      clear hz4 hz5 hl41 hl42 hl51 hl52 hv4 hv5 hs4 hs5 hD4 hD5 hW5 hbB hB5 hk6 hb4 hb6 hpt
      by_cases hec : encW k = bs
      · rw [decide_eq_true hec] at heq
        have hPd : ∀ e w', (∃ ad cap, e = .returned (.tuple #[.agg (pkA k ad cap), .int .i64 0]) ∧ DatAt w' k ad cap ∧ (0 < k.bs.length → ∀ b, blkOf (.slice ad k.bs.length cap) = some b → w.heap.size ≤ b)) → preadP bs w.heap.size e w' := fun e w' h => by
          unfold preadP
          rw [hxh.out]
          show if encW k = bs then _ else _
          rw [if_pos hec]
          exact h
        clear hec
        go_wp2_with fail
        refine heq.mono ?_
        rintro _ _ ⟨rfl, rfl⟩
        have hD7 : DatAt (w6.setRow w.heap.size (pkA k ad cap)) k ad cap := by
          by_cases h0 : 0 < k.bs.length
          · refine SliceAt.kept hD6 (by rw [row_size]; exact Nat.le_refl _) fun b hb => ?_
            have h1 := y4 h0 b hb
            have h2 := look_setRow w6 w.heap.size b (pkA k ad cap)
            rw [if_neg (by omega)] at h2
            exact h2
          · obtain ⟨_, _, e, x2, x3, _⟩ := hD6
            cases e
            exact ⟨ad, cap, rfl, x2, x3, .inl (by omega)⟩
        have hfin := belR hB6 (Nat.le_refl _) (pkA k ad cap)
        have hall : (pkA k ad cap).all (·.oneCell') = true := by simp [pkA, Value.oneCell']
        have hpn : (pkA k ad cap).size = 5 := rfl
        go_wp2
        refine ret_row_tmp (g := w.heap.size) (cs := pkA k ad cap) (t := 69) (fr := (0, 0)) Try.results34 rfl rfl ?_ rfl Try.underlying69 pk_info rfl ?_
        · rw [look_setRow, if_pos rfl, hz6]; rfl
        · exact ⟨hPd _ _ ⟨ad, cap, rfl, hD7, fun h0 b hb => by have := y4 h0 b hb; omega⟩, hfin⟩
      · rw [decide_eq_false hec] at heq
        have hPd : ∀ w', preadP bs w.heap.size (.returned (.tuple #[.agg (pkA zeroP none 0), .int .i64 9])) w' := fun w' => by
          unfold preadP
          rw [hxh.out]
          show if encW k = bs then _ else _
          rw [if_neg hec]
        clear hec
        go_wp2_with fail
        refine heq.mono ?_
        rintro _ _ ⟨rfl, rfl⟩
        go_wp2_with fail
        refine (bytes_any w4.heap.size g6 (encP k) _ (by omega) hW6).mono ?_
        rintro _ w7 ⟨u7, rfl, hu7, hb7⟩
        have hB7 := hB6.trans (hb7.mono hB6.size)
        have hv7 := hv6.below hb7
        rw [hbsh.out] at hv7
        have hz7 : look w7 w.heap.size = some (.cells #[.bool false, .int .i64 0, .int .i64 0, .int .u64 0, .slice none 0 0] 69 (0, 0)) := by rw [look_below hb7 (look_lt hz6)]; exact hz6
        have hl72 : look w7 (w.heap.size + 2) = some (.cells #[.int .i64 (sm : Int)] 3 (0, 0)) := by rw [look_below hb7 (look_lt hl62)]; exact hl62
        have c7 : w7.cell? ⟨w.heap.size + 2, 0, none⟩ = some (.int .i64 (sm : Int)) := by rw [look_cell hl72]; rfl
        have hpf := prefix_any v u7 (encP k) (numB sm) w7 (by rw [← hbsh.out]; exact hby) hv7 (own_slice hu7)
        have hfin := belR hB7 (Nat.le_refl _) #[.bool false, .int .i64 0, .int .i64 0, .int .u64 0, .slice none 0 0]
        clear hv6 hv7 hu7 hW6 heq
        go_wp2_with fail
        refine hpf.mono ?_
        rintro _ _ ⟨rfl, rfl⟩
        go_wp2
        refine ret_row_tmp (g := w.heap.size) (cs := #[.bool false, .int .i64 0, .int .i64 0, .int .u64 0, .slice none 0 0]) (t := 69) (fr := (0, 0)) Try.results34 rfl rfl ?_ rfl Try.underlying69 pk_info rfl ?_
        · rw [look_setRow, if_pos rfl, hz7]; rfl
        · exact ⟨hPd _, hfin⟩
    · have hxh := hidP hx2
      have hPd : ∀ w', preadP bs w.heap.size (.returned (.tuple #[.agg (pkA zeroP none 0), .int .i64 3])) w' := fun w' => by
        unfold preadP
        rw [hxh.out]
      have hfin := belR hB3 (Nat.le_refl _) #[.bool false, .int .i64 0, .int .i64 0, .int .u64 0, .slice none 0 0]
      have hne : (rdCode (decR bs) == 0) = false := beq_eq_false_iff_ne.2 h0
      clear hx2 hx3
      go_wp2
      refine ret_row_tmp (g := w.heap.size) (cs := #[.bool false, .int .i64 0, .int .i64 0, .int .u64 0, .slice none 0 0]) (t := 69) (fr := (0, 0)) Try.results34 rfl rfl ?_ rfl Try.underlying69 pk_info rfl ?_
      · rw [look_setRow, if_pos rfl, hz3]; rfl
      · exact ⟨hPd _, hfin⟩
end Go.Proofs.Ytnpofcnibgdjhaa
