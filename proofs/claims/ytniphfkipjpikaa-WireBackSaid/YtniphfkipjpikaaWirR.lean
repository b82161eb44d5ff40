/- The document's bytes: whole numbers, texts, floats, vectors. -/
import Derived.Test.YtniphfkipjpikaaWirQ
namespace Go.Proofs.Ytniphfkipjpikaa
open Go.RowKit

set_option maxRecDepth 100000 in
set_option maxHeartbeats 1600000 in
theorem refint_any (n : Int) (w : World) (hn : -9223372036854775808 ≤ n ∧ n ≤ 9223372036854775807) :
    Calls Try.prog 73 #[.int .i64 n] w fun e w' => Handed w (intB n) e w' := by
  by_cases h0 : 0 ≤ n
  · obtain ⟨m, rfl⟩ := Int.eq_ofNat_of_zero_le h0
    have hz : Hid (intB (m : Int) = numB (2 * m)) := hidP (by unfold intB zigN; rw [if_pos h0]; congr 1)
    have hd : decide ((0 : Int) ≤ (m : Int)) = true := decide_eq_true h0
    have e1 : IntKind.u64.wrap (m : Int) = (m : Int) := by rw [IntKind.wrap_u64]; omega
    have e2 : IntKind.u64.wrap (2 * (m : Int)) = 2 * (m : Int) := by rw [IntKind.wrap_u64]; omega
    go_enter Try.func73, Try.ntmps73
    go_wp2_with fail
    refine (refnum_any (2 * m) _ (by omega)).mono ?_
    rintro _ w1 ⟨u, rfl, hu, hb⟩
    go_wp2
    go_ret
    rw [hz.out]
    exact ⟨u, rfl, hu, hb⟩
  · obtain ⟨m, hm⟩ : ∃ m : Nat, n = -(m : Int) - 1 := ⟨(-n - 1).toNat, by omega⟩
    subst hm
    have hz : Hid (intB (-(m : Int) - 1) = numB (2 * m + 1)) := hidP (by unfold intB zigN; rw [if_neg h0]; congr 1; omega)
    have hd : decide ((0 : Int) ≤ -(m : Int) - 1) = false := decide_eq_false h0
    have e0 : IntKind.i64.wrap (-(m : Int) - 1 + 1) = -(m : Int) := by rw [IntWalk.i64_in _ (by omega)]; omega
    have e3 : IntKind.i64.wrap (m : Int) = (m : Int) := IntWalk.i64_in _ (by omega)
    have e1 : IntKind.u64.wrap (m : Int) = (m : Int) := by rw [IntKind.wrap_u64]; omega
    have e2 : IntKind.u64.wrap (2 * (m : Int)) = 2 * (m : Int) := by rw [IntKind.wrap_u64]; omega
    have e4 : IntKind.u64.wrap (2 * (m : Int) + 1) = 2 * (m : Int) + 1 := by rw [IntKind.wrap_u64]; omega
    go_enter Try.func73, Try.ntmps73
    go_wp2_with fail
    refine (refnum_any (2 * m + 1) _ (by omega)).mono ?_
    rintro _ w1 ⟨u, rfl, hu, hb⟩
    go_wp2
    go_ret
    rw [hz.out]
    exact ⟨u, rfl, hu, hb⟩

set_option maxRecDepth 100000 in
set_option maxHeartbeats 1600000 in
theorem reftext_any (ts : List Nat) (v : Value) (w : World) (htl : ts.length ≤ 1000000) (hv : SliceAt w v ts.length 1 (bC ts)) :
    Calls Try.prog 74 #[v] w fun e w' => Handed w (numB ts.length ++ ts) e w' := by
  obtain ⟨i0, hi, hz0, hz1, hz2⟩ := info_parts infoB
  obtain ⟨ad, cap, rfl, hv2⟩ := hv
  have hv : SliceAt w (.slice ad ts.length cap) ts.length 1 (bC ts) := ⟨ad, cap, rfl, hv2⟩
  clear hv2
  have e1 : IntKind.u64.wrap (ts.length : Int) = (ts.length : Int) := by rw [IntKind.wrap_u64]; omega
  go_enter Try.func74, Try.ntmps74
  go_wp2_with fail
  refine (refnum_any ts.length _ (by omega)).mono ?_
  rintro _ w1 ⟨u, rfl, hu, hb⟩
  have hs1 := hv.below hb
  have hnl := (numB_len ts.length).2
  go_wp2_with (at_builtin; refine stop_here ?_)
  refine hidP ?_
  refine append_at _ rfl _ _ 55 rfl w.heap.size 5 i0 (.int .u8 0) 1 1 Try.underlying55 hi hz0 hz1 hz2 rfl (by decide) _ _ _ rfl hu (.slice ad ts.length cap) ts.length (bcells ts) rfl ?d1 ?d2 ?d3 ?d4 ?d5 hb.size ?_
  case d1 => rw [bcells_len, Nat.mul_one]
  case d2 => exact bcells_ones _
  case d3 => exact slice_news hs1
  case d4 => unfold maxLen; omega
  case d5 => omega
  intro v2 w2 ho2 hg2 hat
  have hB2 := hb.grown hg2 hb.size (fun g e => (hu.lt g e).1)
  rw [← bcells_append, ← List.length_append] at ho2
  go_wp2
  go_ret
  exact ⟨_, rfl, ho2, hB2⟩

theorem drop_step (k i : Nat) (hi : i < 8) : (fltTo k 8).drop (8 - (i + 1)) = (k / 256 ^ i % 256) :: (fltTo k 8).drop (8 - i) := by
  rcases (show i = 0 ∨ i = 1 ∨ i = 2 ∨ i = 3 ∨ i = 4 ∨ i = 5 ∨ i = 6 ∨ i = 7 by omega) with rfl | rfl | rfl | rfl | rfl | rfl | rfl | rfl <;> rfl

set_option maxRecDepth 100000 in
set_option maxHeartbeats 3200000 in
theorem reffloat_any (b : Nat) (w : World) (hb : b < 18446744073709551616) :
    Calls Try.prog 75 #[.float .f64 b] w fun e w' => Handed w (fltB b) e w' := by
  obtain ⟨i0, hi, hz0, hz1, hz2⟩ := info_parts infoB
  go_enter Try.func75, Try.ntmps75
  go_wp2_with fail
  refine (ref_key b hb w).mono ?_
  rintro _ _ ⟨rfl, rfl⟩
  have hfin := hidP (show fltB b = fltTo (Flt.keyF b) 8 from rfl)
  have hkl := Flt.keyF_lt hb
  generalize Flt.keyF b = k at hfin hkl ⊢
  go_wp2_with fail
  go_loopw [3, 4, 5] (fun q l x wr => ∃ (i : Nat) (ds : List Nat), i ≤ 8 ∧ x = .int .i64 (i : Int) ∧ q = .int .u64 ((k / 256 ^ i : Nat) : Int) ∧ ds = (fltTo k 8).drop (8 - i) ∧ wr.ownsRow w.heap.size 5 1 l ds.length (bcells ds) ∧ Below w.heap.size w wr) (fun _ _ x _ => (8 - intOf x).toNat)
  case atStart => exact ⟨0, [], by omega, rfl, by simp, by simp [fltTo], World.ownsRow_nil _ _ _ _, bel0 _⟩
  case round =>
    obtain ⟨i, ds, hi8, rfl, rfl, hds, hown, hBl⟩ := hrel
    have hdl : ds.length = i := by rw [hds, List.length_drop, fltTo_len]; omega
    by_cases hlt : i < 8
    · have hd : decide ((i : Int) < 8) = true := decide_eq_true (by omega)
      have hdh : Hid ((fltTo k 8).drop (8 - (i + 1)) = (k / 256 ^ i % 256) :: ds) := hidP (by rw [drop_step k i hlt, ← hds])
      have hqs : Hid (k / 256 ^ i / 256 = k / 256 ^ (i + 1)) := hidP (by rw [Nat.div_div_eq_div_mul, Nat.pow_succ])
      have hql : k / 256 ^ i < 18446744073709551616 := Nat.lt_of_le_of_lt (Nat.div_le_self _ _) hkl
      have hoh := hidP hown
      have hBh := hidP hBl
      generalize k / 256 ^ i = q at hdh hqs hql ⊢
      have hw2 : IntKind.u8.wrap ((q : Int) % 256) = (q : Int) % 256 := by rw [IntKind.wrap_u8]; omega
      clear hds
      go_wp2_with (at_builtin; refine stop_here ?_)
      refine hidP ?_
      refine append_at _ rfl _ _ 55 rfl w.heap.size 5 i0 (.int .u8 0) 1 1 Try.underlying55 hi hz0 hz1 hz2 rfl (by decide) _ 1 [.int .u8 ((q : Int) % 256)] rfl (lit_one _ _ _ hBl.size) _ ds.length (bcells ds) rfl ?d1 ?d2 ?d3 ?d4 ?d5 (belA hBl _).size ?_
      case d1 => rw [bcells_len, Nat.mul_one]
      case d2 => exact bcells_ones _
      case d3 => exact own_news (hown.alloc _)
      case d4 => unfold maxLen; omega
      case d5 => omega
      intro v' w1 hown' hgrow hat
      have hB1 := (belA hBh.out _).grown hgrow (belA hBh.out _).size (fun g e => by cases e; exact hBh.out.size)
      clear hown hBl hoh
      go_wp2
      go_roundw
      case rel => exact ⟨i + 1, (q % 256) :: ds, by omega, by go_num, by rw [← hqs.out]; rfl, hdh.out.symm, by rw [List.length_cons, Nat.add_comm]; exact hown', hB1⟩
      case measure => simp [intOf]; omega
    · obtain rfl : i = 8 := by omega
      have hd2 : ds = fltTo k 8 := by rw [hds]; rfl
      have hdh := hidP hd2
      clear hds hd2
      go_wp2
      go_ret
      unfold Handed
      rw [hfin.out, ← hdh.out]
      exact ⟨_, rfl, hown, hBl⟩

set_option maxRecDepth 100000 in
set_option maxHeartbeats 3200000 in
theorem refvec_any (f : Nat → Nat) (w : World) (hf : ∀ k, f k < 4294967296) :
    Calls Try.prog 76 #[.agg (VA f)] w fun e w' => Handed w (vecB f) e w' := by
  obtain ⟨i0, hi, hz0, hz1, hz2⟩ := info_parts infoB
  have hbA := belA (bel0 w) (.cells (VA f) 65)
  have hlx : look (w.alloc (.cells (VA f) 65)) w.heap.size = some (.cells (VA f) 65 (0, 0)) := look_alloc_at _ _ _ rfl
  go_enter Try.func76, Try.ntmps76
  go_wp2
  go_loopw [3, 4] (fun n x wr => ∃ i : Nat, i ≤ 12 ∧ x = .int .i64 (i : Int) ∧ n = .int .i64 ((trimN f i : Nat) : Int) ∧ wr = w.alloc (.cells (VA f) 65)) (fun _ x _ => (12 - intOf x).toNat)
  case atStart => exact ⟨0, by omega, rfl, rfl, rfl⟩
  case round =>
    obtain ⟨i, hi12, rfl, rfl, rfl⟩ := hrel
    by_cases hlt : i < 12
    · have hc : (w.alloc (.cells (VA f) 65)).cell? ⟨w.heap.size, i, none⟩ = some (.int .u32 (f i : Int)) := by rw [look_cell hlx, VA_get f i hlt]
      by_cases h0 : f i = 0
      · have hts : Hid (trimN f (i + 1) = trimN f i) := hidP (by rw [trimN_succ, if_pos h0])
        generalize trimN f i = t at hts ⊢
        have hd : decide ((0 : Int) < (f i : Int)) = false := decide_eq_false (by omega)
        rw [h0] at hc hd
        clear h0
        go_wp2
        go_roundw
        case rel => exact ⟨i + 1, by omega, by go_num, by rw [hts.out], trivial⟩
        case measure => simp [intOf]; omega
      · have hts : Hid (trimN f (i + 1) = i + 1) := hidP (by rw [trimN_succ, if_neg h0])
        have hd : decide ((0 : Int) < (f i : Int)) = true := decide_eq_true (by omega)
        have hp : 0 < f i := by omega
        go_wp2
        go_roundw
        case rel => exact ⟨i + 1, by omega, by go_num, by rw [hts.out]; go_num, trivial⟩
        case measure => simp [intOf]; omega
    · obtain rfl : i = 12 := by omega
      have hnl := numB_len (trimN f 12)
      have htl := trimN_le f 12
      have hbs : Hid (vecB f = numB (trimN f 12) ++ vbs f (trimN f 12)) := hidP rfl
      generalize trimN f 12 = n at hnl htl hbs ⊢
      have e1 : IntKind.u64.wrap (n : Int) = (n : Int) := by rw [IntKind.wrap_u64]; omega
      go_wp2_with fail
      refine (refnum_any n _ (by omega)).mono ?_
      rintro _ w1 ⟨u, rfl, hu, hb1⟩
      have hB1 := belT hbA hb1
      have hu1 := own_base hu hbA.size
      have hl1 : look w1 w.heap.size = some (.cells (VA f) 65 (0, 0)) := by rw [look_below hb1 (look_lt hlx)]; exact hlx
      have hg1 : ∀ q, u.ownBlock = some q → w.heap.size < q := fun q e => by
        have := (hu.lt q e).1
        simp at this
        omega
      go_wp2_with fail
      go_loopw [5, 6] (fun l x wr => ∃ i : Nat, i ≤ n ∧ x = .int .i64 (i : Int) ∧ look wr w.heap.size = some (.cells (VA f) 65 (0, 0)) ∧ wr.ownsRow w.heap.size 5 1 l (numB n ++ vbs f i).length (bcells (numB n ++ vbs f i)) ∧ (∀ q, l.ownBlock = some q → w.heap.size < q) ∧ Below w.heap.size w wr) (fun _ x _ => (n - intOf x).toNat)
      case atStart => exact ⟨0, by omega, rfl, hl1, by simpa [vbs] using hu1, hg1, hB1⟩
      case round =>
        obtain ⟨i, hin, rfl, hlr, hown, hgo, hBl⟩ := hrel
        by_cases hlt2 : i < n
        · have hc : wr.cell? ⟨w.heap.size, i, none⟩ = some (.int .u32 (f i : Int)) := by rw [look_cell hlr, VA_get f i (by omega)]
          have hd : decide ((i : Int) < (n : Int)) = true := decide_eq_true (by omega)
          have hfi := hf i
          have hvl := vbs_len f i
          have hfl := (numB_len (f i)).2
          have hws : Hid (numB n ++ vbs f (i + 1) = (numB n ++ vbs f i) ++ numB (f i)) := hidP (by rw [vbs_succ, List.append_assoc])
          have hll : (numB n ++ vbs f i).length ≤ 1000000 := by rw [List.length_append]; omega
          have e2 : IntKind.u64.wrap (f i : Int) = (f i : Int) := by rw [IntKind.wrap_u64]; omega
          obtain ⟨N, hN⟩ : ∃ N, Hid ((numB n ++ vbs f i).length = N) := ⟨_, hidP rfl⟩
          have hlth := hidP hlt2
          rw [hN.out] at hll hown
          clear hvl
          go_wp2_with fail
          refine (refnum_any (f i) _ (by omega)).mono ?_
          rintro _ w2 ⟨u2, rfl, hu2, hb2⟩
          have hB2 := belT hBl hb2
          have hown2 := own_below hown hb2
          have hlr2 : look w2 w.heap.size = some (.cells (VA f) 65 (0, 0)) := by rw [look_below hb2 (look_lt hlr)]; exact hlr
          go_wp2_with (at_builtin; refine stop_here ?_)
          refine hidP ?_
          refine append_at _ rfl _ _ 55 rfl w.heap.size 5 i0 (.int .u8 0) 1 1 Try.underlying55 hi hz0 hz1 hz2 rfl (by decide) _ N _ rfl hown2 _ (numB (f i)).length (bcells (numB (f i))) rfl ?d1 ?d2 ?d3 ?d4 ?d5 hB2.size ?_
          case d1 => rw [bcells_len, Nat.mul_one]
          case d2 => exact bcells_ones _
          case d3 => exact own_news hu2
          case d4 => unfold maxLen; omega
          case d5 => omega
          intro v3 w3 ho3 hg3 hat
          have hB3 := hB2.grown hg3 hB2.size (fun g e => (hown2.lt g e).1)
          have hlr3 : look w3 w.heap.size = some (.cells (VA f) 65 (0, 0)) := by rw [grown_look hg3 (look_lt hlr2) (fun g e => by have := hgo g e; omega)]; exact hlr2
          have hgo3 : ∀ q, v3.ownBlock = some q → w.heap.size < q := fun q e => by
            rcases hat with h | h
            · exact hgo q (h.symm.trans e)
            · rw [h] at e
              cases e
              exact look_lt hlr2
          have hfin : w3.ownsRow w.heap.size 5 1 v3 (numB n ++ vbs f (i + 1)).length (bcells (numB n ++ vbs f (i + 1))) := by
            rw [hws.out, List.length_append, bcells_append, hN.out]
            exact ho3
          clear hown hown2 ho3 hu2
          go_wp2
          go_roundw
          case rel => exact ⟨i + 1, by have := hlth.out; omega, by go_num, hlr3, hfin, hgo3, hB3⟩
          case measure => have := hlth.out; simp [intOf]; omega
        · obtain rfl : i = n := by omega
          go_wp2
          go_ret
          unfold Handed
          rw [hbs.out]
          exact ⟨_, rfl, hown, hBl⟩
end Go.Proofs.Ytniphfkipjpikaa
