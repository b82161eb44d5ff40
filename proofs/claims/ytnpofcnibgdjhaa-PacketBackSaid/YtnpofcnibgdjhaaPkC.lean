/- Packets: written, and the same. -/
import Derived.Test.YtnpofcnibgdjhaaPkB
namespace Go.Proofs.Ytnpofcnibgdjhaa
open Go.RowKit

/-- A packet's data lie somewhere. -/
def DatAt (w : World) (k : Pk) (ad : Option Addr) (cap : Nat) : Prop := SliceAt w (.slice ad k.bs.length cap) k.bs.length 1 (bC k.bs)
theorem DatAt.below {w W : World} {k : Pk} {ad : Option Addr} {cap : Nat} (h : DatAt w k ad cap) (hb : Below w.heap.size w W) : DatAt W k ad cap := SliceAt.below h hb
theorem DatAt.blk {w : World} {k : Pk} {ad : Option Addr} {cap : Nat} (h : DatAt w k ad cap) (h0 : 0 < k.bs.length) : ∀ b, blkOf (.slice ad k.bs.length cap) = some b → b < w.heap.size := by
  intro b e
  obtain ⟨_, _, e1, _, _, h4⟩ := h
  cases e1
  rcases h4 with h4 | ⟨b', off, rfl, hb, _⟩
  · omega
  · cases e; exact hb

set_option maxRecDepth 100000 in
set_option maxHeartbeats 1600000 in
theorem pwrite_no (k : Pk) (ad : Option Addr) (cap : Nat) (w : World) (hlen : k.bs.length ≤ 9223372036854775807) (hr : rightP k = false) :
    Calls Try.prog 33 #[.agg (pkA k ad cap)] w fun e w' => e = .returned (.tuple #[.slice none 0 0, .int .i64 3]) ∧ Below w.heap.size w w' := by
  have hrg := fun u => pright_any k ad cap u hlen
  rw [hr] at hrg
  obtain ⟨ack, frm, to, seq, bs⟩ := k
  show Calls Try.prog 33 #[.agg #[.bool ack, .int .i64 frm, .int .i64 to, .int .u64 (seq : Int), .slice ad bs.length cap]] w _
  replace hrg : ∀ u, Calls Try.prog 77 #[.agg #[.bool ack, .int .i64 frm, .int .i64 to, .int .u64 (seq : Int), .slice ad bs.length cap]] u fun e w' => e = .returned (.bool false) ∧ Below u.heap.size u w' := hrg
  have hb := belA (bel0 w) (.cells #[.bool ack, .int .i64 frm, .int .i64 to, .int .u64 (seq : Int), .slice ad bs.length cap] 69)
  have hlx : look (w.alloc (.cells #[.bool ack, .int .i64 frm, .int .i64 to, .int .u64 (seq : Int), .slice ad bs.length cap] 69)) w.heap.size = some (.cells #[.bool ack, .int .i64 frm, .int .i64 to, .int .u64 (seq : Int), .slice ad bs.length cap] 69 (0, 0)) := look_alloc_at _ _ _ rfl
  go_enter Try.func33, Try.ntmps33
  go_wp2_with fail
  refine (hrg _).mono ?_
  rintro _ w2 ⟨rfl, hb2⟩
  have hB2 := belT hb hb2
  go_wp2
  refine bodyPost_ret (v := .tuple #[.slice none 0 0, .int .i64 3]) (by simp [results, Try.results33, go_sem]) rfl ?_
  exact ⟨rfl, hB2⟩

set_option maxRecDepth 100000 in
set_option maxHeartbeats 3200000 in
theorem pwrite_yes (k : Pk) (ad : Option Addr) (cap : Nat) (w : World) (hby : ∀ x ∈ k.bs, x < 256) (hd : DatAt w k ad cap) (hr : rightP k = true) :
    Calls Try.prog 33 #[.agg (pkA k ad cap)] w fun e w' => ∃ u, e = .returned (.tuple #[u, .int .i64 0]) ∧ w'.ownsRow w.heap.size 5 1 u (encW k).length (bcells (encW k)) ∧ Below w.heap.size w w' := by
  obtain ⟨⟨r1, r2⟩, ⟨r3, r4⟩, r5, r6, r7, r8⟩ := (rightP_iff k).1 hr
  have hl18 : k.bs.length ≤ 1800 := by
    unfold dataB at r8
    split at r8
    · have := of_decide_eq_true r8; omega
    · exact ((txt_iff _).1 r8).2
  have hrg := fun u => pright_any k ad cap u (by omega)
  rw [hr] at hrg
  have hput := fun (p : Nat) (u : World) (h1 : DatAt u k ad cap) (h2 : 0 < k.bs.length → ∀ b, blkOf (.slice ad k.bs.length cap) = some b → b ≠ p) (h3 : WrV u p none []) => pput_any p k ad cap u ⟨by omega, by omega⟩ ⟨by omega, by omega⟩ (by omega) (by omega) h1 h2 h3
  have hle := encP_len k (by omega)
  have hle2 : (encP k).length ≤ 2000 := by
    have h1 := (numB_len (if k.ack = true then 1 else 0)).2
    have h2 := (numB_len k.frm.toNat).2
    have h3 := (numB_len k.to.toNat).2
    have h4 := (numB_len k.seq).2
    have h5 := (numB_len k.bs.length).2
    have h6 : (if k.ack = true then [] else encT k.bs).length ≤ k.bs.length + 10 := by
      split
      · simp
      · unfold encT
        rw [List.length_append]; omega
    unfold encP
    simp only [List.length_append]
    omega
  have hbyP := encP_byte k hby
  have hcn := crc_nat (encP k)
  have henc : Hid (encW k = encP k ++ numB (crcN (encP k))) := hidP rfl
  obtain ⟨EP, hEP⟩ : ∃ EP, Hid (EP = encP k) := ⟨_, hidP rfl⟩
  rw [← hEP.out] at hput hle2 hbyP hcn henc
  obtain ⟨EW, hEW⟩ : ∃ EW, Hid (EW = encW k) := ⟨_, hidP rfl⟩
  rw [← hEW.out] at henc ⊢
  have hdb := fun h0 => hd.blk h0
  clear r1 r2 r3 r4 r5 r6 r7 r8 hle hEW hEP
  obtain ⟨ack, frm, to, seq, bs⟩ := k
  show Calls Try.prog 33 #[.agg #[.bool ack, .int .i64 frm, .int .i64 to, .int .u64 (seq : Int), .slice ad bs.length cap]] w _
  replace hrg : ∀ u, Calls Try.prog 77 #[.agg #[.bool ack, .int .i64 frm, .int .i64 to, .int .u64 (seq : Int), .slice ad bs.length cap]] u fun e w' => e = .returned (.bool true) ∧ Below u.heap.size u w' := hrg
  replace hput : ∀ (p : Nat) (u : World), DatAt u ⟨ack, frm, to, seq, bs⟩ ad cap → (0 < bs.length → ∀ b, blkOf (.slice ad bs.length cap) = some b → b ≠ p) → WrV u p none [] → Calls Try.prog 78 #[.pointer (some ⟨p, 0, none⟩), .agg #[.bool ack, .int .i64 frm, .int .i64 to, .int .u64 (seq : Int), .slice ad bs.length cap]] u fun e w' => e = .returned (.tuple #[]) ∧ Wrote u w' p none EP := hput
  have hb := belA (bel0 w) (.cells #[.bool ack, .int .i64 frm, .int .i64 to, .int .u64 (seq : Int), .slice ad bs.length cap] 69)
  have hlx : look (w.alloc (.cells #[.bool ack, .int .i64 frm, .int .i64 to, .int .u64 (seq : Int), .slice ad bs.length cap] 69)) w.heap.size = some (.cells #[.bool ack, .int .i64 frm, .int .i64 to, .int .u64 (seq : Int), .slice ad bs.length cap] 69 (0, 0)) := look_alloc_at _ _ _ rfl
  have hd1 := hd.below hb
  go_enter Try.func33, Try.ntmps33
  go_wp2_with fail
  refine (hrg _).mono ?_
  rintro _ w1 ⟨rfl, hb1⟩
  have hB1 := belT hb hb1
  have hl1 : look w1 w.heap.size = some (.cells #[.bool ack, .int .i64 frm, .int .i64 to, .int .u64 (seq : Int), .slice ad bs.length cap] 69 (0, 0)) := by rw [look_below hb1 (look_lt hlx)]; exact hlx
  have hs1 := look_lt hl1
  go_wp2_with fail
  refine (new_any _).mono ?_
  rintro _ _ ⟨rfl, rfl⟩
  have hbB := belA (bel0 w1) (.cells #[.slice none 0 0] 161)
  have hB2 := belT hB1 hbB
  have hl2 : look (w1.alloc (.cells #[.slice none 0 0] 161)) w.heap.size = some (.cells #[.bool ack, .int .i64 frm, .int .i64 to, .int .u64 (seq : Int), .slice ad bs.length cap] 69 (0, 0)) := by rw [look_below hbB hs1]; exact hl1
  have hW2 := wr_new w1
  have hd2 := (hd1.below hb1).below hbB
  have hput2 := fun hx => hput w1.heap.size _ hd2 hx hW2
  go_wp2_with fail
  refine (hput2 ?_).mono ?_
  · intro h0 b e
    have := hdb h0 b e
    have := hb1.size
    have := hb.size
    omega
  rintro _ w3 ⟨rfl, g3, hW3, hn3, hk3⟩
  have hB3 : Below w.heap.size w w3 := hB2.trans (hk3.below (by have := hB1.size; simp; omega) (by have := hB1.size; omega) (fun k e => by cases e))
  go_wp2_with fail
  refine (bytes_any w1.heap.size g3 EP _ (by omega) hW3).mono ?_
  rintro _ w4 ⟨u4, rfl, hu4, hb4⟩
  have hB4 := hB3.trans (hb4.mono hB3.size)
  have hW4 := wr_keeps hW3 hb4
  go_wp2_with fail
  refine (crcof_any u4 EP _ hbyP (own_slice hu4)).mono ?_
  rintro _ w5 ⟨rfl, hb5⟩
  have hB5 := hB4.trans (hb5.mono hB4.size)
  have hW5 := wr_keeps hW4 hb5
  have hcn1 := hcn.1
  obtain ⟨cn, hcne⟩ : ∃ cn, Hid (cn = crcN EP) := ⟨_, hidP rfl⟩
  rw [← hcne.out] at hcn1 hcn henc
  rw [hcn1]
  have hwc : IntKind.u64.wrap (cn : Int) = (cn : Int) := IntWalk.u64_in _ (by omega)
  clear hcn1 hu4 hW3 hW4 hput hput2 hrg
  go_wp2_with fail
  refine (num_any w1.heap.size g3 EP cn _ (by omega) (by omega) hW5).mono ?_
  rintro _ w6 ⟨rfl, g6, hW6, hn6, hk6⟩
  have hg3 : ∀ k, g3 = some k → w.heap.size ≤ k := fun k e => by
    rcases hn3 with e2 | ⟨m, e2, hm⟩
    · rw [e2] at e; cases e
    · rw [e2] at e; cases e
      have := hB2.size
      omega
  have hB6 : Below w.heap.size w w6 := hB5.trans (hk6.below hB5.size (by have := hB1.size; omega) hg3)
  have hnl := (numB_len cn).2
  go_wp2_with fail
  refine (bytes_any w1.heap.size g6 _ _ (by rw [List.length_append]; omega) hW6).mono ?_
  rintro _ w7 ⟨u7, rfl, hu7, hb7⟩
  have hB7 := hB6.trans (hb7.mono hB6.size)
  have hu8 := own_base hu7 hB6.size
  rw [← henc.out] at hu8
  clear hu7 hW5 hW6
  go_wp2
  refine bodyPost_ret (v := .tuple #[u7, .int .i64 0]) (by simp [results, Try.results33, go_sem]) rfl ?_
  exact ⟨_, rfl, hu8, hB7⟩
end Go.Proofs.Ytnpofcnibgdjhaa
