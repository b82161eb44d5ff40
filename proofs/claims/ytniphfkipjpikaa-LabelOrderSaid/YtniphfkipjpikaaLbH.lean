/- Labels: what must come of fixed calls. -/
import Derived.Test.YtniphfkipjpikaaLbG
namespace Go.Proofs.Ytniphfkipjpikaa
open Go.RowKit

set_option maxRecDepth 100000 in
set_option maxHeartbeats 1600000 in
theorem alive05 (w : World) :
    Calls Try.prog 49 #[] w fun e w' => e = .returned (.bool true) ∧ Below w.heap.size w w' := by
  go_enter Try.func49, Try.ntmps49
  go_wp2_with (with_reducible refine wpList_build_is 87 _ (LA alA) (by kernel_rfl) ?_; refine stop_here ?_)
  refine hidP ?_
  obtain ⟨A, hA⟩ : ∃ A, Hid (A = alA) := ⟨_, hidP rfl⟩
  rw [show LA alA = LA A by rw [hA.out]]
  go_wp2_with (with_reducible refine wpList_build_is 87 _ (LA alB) (by kernel_rfl) ?_; refine stop_here ?_)
  refine hidP ?_
  obtain ⟨B, hBe⟩ : ∃ B, Hid (B = alB) := ⟨_, hidP rfl⟩
  rw [show LA alB = LA B by rw [hBe.out]]
  have hB0 := belA (belA (bel0 w) (.cells (LA A) 87)) (.cells (LA B) 87)
  have lA0 : look ((w.alloc (.cells (LA A) 87)).alloc (.cells (LA B) 87)) w.heap.size = some (.cells (LA A) 87 (0, 0)) := by
    rw [look_alloc_past _ _ _ (by simp)]
    exact look_alloc_at _ _ _ rfl
  have lB0 : look ((w.alloc (.cells (LA A) 87)).alloc (.cells (LA B) 87)) (w.heap.size + 1) = some (.cells (LA B) 87 (0, 0)) := look_alloc_at _ _ _ (by simp)
  have tB : Typed B := by rw [hBe.out]; exact typed_B
  have tA : Typed A := by rw [hA.out]; exact typed_A
  have rA : rightL A = true := by rw [hA.out]; exact right_A
  have rB : rightL B = true := by rw [hBe.out]; exact right_B
  have eB : encL B = [4, 1, 2, 1, 0, 2, 1, 1] := by rw [hBe.out]; exact enc_B
  have dB : whole (decL [4, 1, 2, 1, 0, 2, 1, 1]) = some B := by rw [hBe.out, dec_B]; rfl
  have k1 : beforeL A B = true := by rw [hA.out, hBe.out]; kernel_rfl
  have k2 : beforeL B A = false := by rw [hA.out, hBe.out]; kernel_rfl
  have k3 : lessL A B = true := by rw [hA.out, hBe.out]; kernel_rfl
  have k4 : veq (withN A.deps 2 1) (upd (upd (fun _ => 0) 0 0) 1 1) = true := by rw [hA.out]; kernel_rfl
  have k5 : A.node = 2 := by rw [hA.out]; rfl
  have k6 : A.n = 1 := by rw [hA.out]; rfl
  have k7 := leq_same B
  have q1 : (strN [4, 1, 2, 1, 0, 2, 1, 1]).toList = [4, 1, 2, 1, 0, 2, 1, 1] := by kernel_rfl
  go_wp2_with fail
  refine (lwrite_yes B _ tB rB).mono ?_
  rintro _ w1 ⟨u, rfl, hu, hb1⟩
  rw [eB] at hu
  have hs1 := own_slice hu
  have hB1 := belT hB0 hb1
  have lA1 : look w1 w.heap.size = some (.cells (LA A) 87 (0, 0)) := by rw [look_below hb1 (look_lt lA0)]; exact lA0
  have lB1 : look w1 (w.heap.size + 1) = some (.cells (LA B) 87 (0, 0)) := by rw [look_below hb1 (look_lt lB0)]; exact lB0
  clear hu
  go_wp2_with fail
  refine (lread_ok _ [4, 1, 2, 1, 0, 2, 1, 1] B _ (by decide) (by decide) hs1 dB).mono ?_
  rintro _ w2 ⟨rfl, hb2⟩
  have hb3 := belA hb2 (.cells (LA B) 87)
  have hB3 := belT hB1 hb3
  have hs3 := hs1.below hb3
  have lA3 : look (w2.alloc (.cells (LA B) 87)) w.heap.size = some (.cells (LA A) 87 (0, 0)) := by rw [look_below hb3 (look_lt lA1)]; exact lA1
  have lB3 : look (w2.alloc (.cells (LA B) 87)) (w.heap.size + 1) = some (.cells (LA B) 87 (0, 0)) := by rw [look_below hb3 (look_lt lB1)]; exact lB1
  have lY3 : look (w2.alloc (.cells (LA B) 87)) w2.heap.size = some (.cells (LA B) 87 (0, 0)) := look_alloc_at _ _ _ rfl
  go_wp2_with (with_reducible refine wpList_build_is 87 _ (LA alC) (by kernel_rfl) ?_; refine stop_here ?_)
  refine hidP ?_
  go_wp2_with fail
  refine (lwrite_no alC _ typed_C right_C).mono ?_
  rintro _ w4 ⟨rfl, hb4⟩
  have hB4 := belT hB3 hb4
  have hs4 := hs3.below hb4
  have lA4 : look w4 w.heap.size = some (.cells (LA A) 87 (0, 0)) := by rw [look_below hb4 (look_lt lA3)]; exact lA3
  have lB4 : look w4 (w.heap.size + 1) = some (.cells (LA B) 87 (0, 0)) := by rw [look_below hb4 (look_lt lB3)]; exact lB3
  have lY4 : look w4 w2.heap.size = some (.cells (LA B) 87 (0, 0)) := by rw [look_below hb4 (look_lt lY3)]; exact lY3
  clear hs1 hs3 hB0 hB1 hB3 lA0 lA1 lA3 lB0 lB1 lB3 lY3 hb1 hb2 hb3 hb4 eB dB
  go_wp2_with fail
  refine (lright_any A _ tA.n).mono ?_
  rintro _ w5 ⟨rfl, hb5⟩
  rw [rA]
  have hB5 := belT hB4 hb5
  have hs5 := hs4.below hb5
  have lA5 : look w5 w.heap.size = some (.cells (LA A) 87 (0, 0)) := by rw [look_below hb5 (look_lt lA4)]; exact lA4
  have lB5 : look w5 (w.heap.size + 1) = some (.cells (LA B) 87 (0, 0)) := by rw [look_below hb5 (look_lt lB4)]; exact lB4
  have lY5 : look w5 w2.heap.size = some (.cells (LA B) 87 (0, 0)) := by rw [look_below hb5 (look_lt lY4)]; exact lY4
  have hcs := conv_str hs5
  clear hs4 hB4 lA4 lB4 lY4 hb5
  go_wp2_with fail
  refine (lbefore_any A B _).mono ?_
  rintro _ w6 ⟨rfl, hb6⟩
  rw [k1]
  have hB6 := belT hB5 hb6
  have lA6 : look w6 w.heap.size = some (.cells (LA A) 87 (0, 0)) := by rw [look_below hb6 (look_lt lA5)]; exact lA5
  have lB6 : look w6 (w.heap.size + 1) = some (.cells (LA B) 87 (0, 0)) := by rw [look_below hb6 (look_lt lB5)]; exact lB5
  clear hs5 hB5 lA5 lB5 lY5 hb6 hcs
  go_wp2_with fail
  refine (lbefore_any B A _).mono ?_
  rintro _ w7 ⟨rfl, hb7⟩
  rw [k2]
  have hB7 := belT hB6 hb7
  have lA7 : look w7 w.heap.size = some (.cells (LA A) 87 (0, 0)) := by rw [look_below hb7 (look_lt lA6)]; exact lA6
  have lB7 : look w7 (w.heap.size + 1) = some (.cells (LA B) 87 (0, 0)) := by rw [look_below hb7 (look_lt lB6)]; exact lB6
  clear hB6 lA6 lB6 hb7
  go_wp2_with fail
  refine (lless_any A B _).mono ?_
  rintro _ w8 ⟨rfl, hb8⟩
  rw [k3]
  have hB8 := belT hB7 hb8
  have lA8 : look w8 w.heap.size = some (.cells (LA A) 87 (0, 0)) := by rw [look_below hb8 (look_lt lA7)]; exact lA7
  clear hB7 lA7 lB7 hb8
  go_wp2_with fail
  refine (lpast_any A _).mono ?_
  rintro _ w9 ⟨rfl, hb9⟩
  have hB9 := belT hB8 hb9
  have lA9 : look w9 w.heap.size = some (.cells (LA A) 87 (0, 0)) := by rw [look_below hb9 (look_lt lA8)]; exact lA8
  clear hB8 lA8 hb9
  go_wp2_with fail
  refine (ldot_any A _).mono ?_
  rintro _ w10 ⟨rfl, hb10⟩
  have hB10 := belT hB9 hb10
  go_wp2
  go_ret
  exact ⟨rfl, hB10⟩
end Go.Proofs.Ytniphfkipjpikaa
