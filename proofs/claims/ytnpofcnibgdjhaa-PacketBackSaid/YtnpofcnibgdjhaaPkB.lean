/- Packets: which may be, and their bytes. -/
import Derived.Test.YtnpofcnibgdjhaaPkA
namespace Go.Proofs.Ytnpofcnibgdjhaa
open Go.RowKit

/-- A packet. -/
structure Pk where
  ack : Bool
  frm : Int
  to : Int
  seq : Nat
  bs : List Nat
theorem pk_info : (Try.prog.info? 69).map (·.size) = some 5 := by kernel_rfl
@[go_sem ↓] theorem wp_load_pk (dst : Option Tmp) (x : Operand) (ty : TypeId) (pos : String) (after : Array Edge) (gd : Option (Nat × Bool)) (a : Act) (w : World) (K : Act → World → Prop) (Q : Exit → Act → World → Prop) :
    Oper.wp Try.prog ⟨dst, .load 69 x, ty, pos, after, gd⟩ a w K Q = match a.eval x with
      | .pointer (some ⟨g, 0, none⟩) => (match look w g with
        | some (.cells cs _ _) => if cs.size = 5 then K (a.put dst (.agg cs)) w else wpRest Try.prog ⟨dst, .load 69 x, ty, pos, after, gd⟩ a w K Q
        | _ => wpRest Try.prog ⟨dst, .load 69 x, ty, pos, after, gd⟩ a w K Q)
      | _ => wpRest Try.prog ⟨dst, .load 69 x, ty, pos, after, gd⟩ a w K Q :=
  wp_load_look (P := Try.prog) 69 5 _ Try.underlying69 rfl pk_info dst x ty pos after gd a w K Q
@[go_sem ↓] theorem wp_store_pk (dst : Option Tmp) (x y : Operand) (ty : TypeId) (pos : String) (after : Array Edge) (gd : Option (Nat × Bool)) (a : Act) (w : World) (K : Act → World → Prop) (Q : Exit → Act → World → Prop) :
    Oper.wp Try.prog ⟨dst, .store 69 x y, ty, pos, after, gd⟩ a w K Q = match a.eval x, a.eval y with
      | .pointer (some ⟨g, 0, none⟩), .agg vs => (match look w g with
        | some (.cells cs _ (0, 0)) => if cs.size = 5 ∧ vs.size = 5 ∧ vs.all (·.oneCell') = true then K (a.put dst undef) (w.setRow g vs) else wpRest Try.prog ⟨dst, .store 69 x y, ty, pos, after, gd⟩ a w K Q
        | _ => wpRest Try.prog ⟨dst, .store 69 x y, ty, pos, after, gd⟩ a w K Q)
      | _, _ => wpRest Try.prog ⟨dst, .store 69 x y, ty, pos, after, gd⟩ a w K Q :=
  wp_store_look (P := Try.prog) 69 5 pk_info dst x y ty pos after gd a w K Q
theorem ret_pk {fn : Func} {R : Ending → World → Prop} {a : Act} {w : World} {p g : Nat} {cs : Array Value} {t : TypeId} {fr : Nat × Nat} (h : fn.results = #[.cell p 69])
    (hp : a.tmps.getD p undef = .pointer (some ⟨g, 0, none⟩)) (hg : look w g = some (.cells cs t fr)) (hn : cs.size = 5) (hd : a.defers = []) (hR : R (.returned (.agg cs)) w) : bodyPost Try.prog fn R .ret a w :=
  bodyPost_ret (results_cell_row h _ _ g t cs fr _ hp hg Try.underlying69 rfl (by rw [hn]; exact pk_info)) hd hR
def pkA (k : Pk) (ad : Option Addr) (cap : Nat) : Array Value := #[.bool k.ack, .int .i64 k.frm, .int .i64 k.to, .int .u64 (k.seq : Int), .slice ad k.bs.length cap]
def nodeB (n : Int) : Bool := decide (1 ≤ n ∧ n ≤ 12)
def dataB (k : Pk) : Bool := if k.ack = true then decide (k.bs.length = 0) else txt k.bs
def rightP (k : Pk) : Bool := nodeB k.frm && (nodeB k.to && (!decide (k.frm = k.to) && (decide (1 ≤ k.seq) && (decide (k.seq ≤ 1099511627776) && dataB k))))
theorem rightP_iff (k : Pk) : rightP k = true ↔ (1 ≤ k.frm ∧ k.frm ≤ 12) ∧ (1 ≤ k.to ∧ k.to ≤ 12) ∧ k.frm ≠ k.to ∧ 1 ≤ k.seq ∧ k.seq ≤ 1099511627776 ∧ dataB k = true := by
  unfold rightP nodeB
  simp [Bool.and_eq_true]

set_option maxRecDepth 100000 in
theorem isnode_any (n : Int) (w : World) :
    Calls Try.prog 112 #[.int .i64 n] w fun e w' => e = .returned (.bool (nodeB n)) ∧ w = w' := by
  unfold nodeB
  go_enter Try.func112, Try.ntmps112
  by_cases h1 : 1 ≤ n
  · by_cases h2 : n ≤ 12
    · rw [decide_eq_true ⟨h1, h2⟩]
      have d1 : decide (1 ≤ n) = true := decide_eq_true h1
      have d2 : decide (n ≤ 12) = true := decide_eq_true h2
      go_wp2
      go_ret
      exact ⟨rfl, rfl⟩
    · rw [decide_eq_false (fun h => h2 h.2)]
      have d1 : decide (1 ≤ n) = true := decide_eq_true h1
      have d2 : decide (n ≤ 12) = false := decide_eq_false h2
      go_wp2
      go_ret
      exact ⟨rfl, rfl⟩
  · rw [decide_eq_false (fun h => h1 h.1)]
    have d1 : decide (1 ≤ n) = false := decide_eq_false h1
    go_wp2
    go_ret
    exact ⟨rfl, rfl⟩

set_option maxRecDepth 100000 in
theorem isdata_any (k : Pk) (ad : Option Addr) (cap : Nat) (w : World) (hlen : k.bs.length ≤ 9223372036854775807) :
    Calls Try.prog 113 #[.agg (pkA k ad cap)] w fun e w' => e = .returned (.bool (dataB k)) ∧ Below w.heap.size w w' := by
  obtain ⟨ack, frm, to, seq, bs⟩ := k
  have hlen : bs.length ≤ 9223372036854775807 := hlen
  show Calls Try.prog 113 #[.agg #[.bool ack, .int .i64 frm, .int .i64 to, .int .u64 (seq : Int), .slice ad bs.length cap]] w _
  have hb := belA (bel0 w) (.cells #[.bool ack, .int .i64 frm, .int .i64 to, .int .u64 (seq : Int), .slice ad bs.length cap] 69)
  cases ack
  · have e : dataB ⟨false, frm, to, seq, bs⟩ = txt bs := rfl
    rw [e]
    unfold txt
    go_enter Try.func113, Try.ntmps113
    by_cases h1 : 1 ≤ bs.length
    · by_cases h2 : bs.length ≤ 1800
      · rw [decide_eq_true ⟨h1, h2⟩]
        have d2 : decide ((bs.length : Int) ≤ 1800) = true := decide_eq_true (by omega)
        go_wp2
        go_ret
        exact ⟨rfl, hb⟩
      · rw [decide_eq_false (fun h => h2 h.2)]
        have d2 : decide ((bs.length : Int) ≤ 1800) = false := decide_eq_false (by omega)
        go_wp2
        go_ret
        exact ⟨rfl, hb⟩
    · rw [decide_eq_false (fun h => h1 h.1)]
      go_wp2
      go_ret
      exact ⟨rfl, hb⟩
  · have e : dataB ⟨true, frm, to, seq, bs⟩ = decide (bs.length = 0) := rfl
    rw [e]
    go_enter Try.func113, Try.ntmps113
    by_cases h0 : bs.length = 0
    · rw [decide_eq_true h0]
      have d0 : ((bs.length : Int) == 0) = true := beq_iff_eq.2 (by omega)
      clear h0
      go_wp2
      go_ret
      exact ⟨by first | rfl | rw [d0], hb⟩
    · rw [decide_eq_false h0]
      have d0 : ((bs.length : Int) == 0) = false := beq_eq_false_iff_ne.2 (by omega)
      go_wp2
      go_ret
      exact ⟨by first | rfl | rw [d0], hb⟩

set_option maxRecDepth 100000 in
set_option maxHeartbeats 1600000 in
theorem pright_any (k : Pk) (ad : Option Addr) (cap : Nat) (w : World) (hlen : k.bs.length ≤ 9223372036854775807) :
    Calls Try.prog 77 #[.agg (pkA k ad cap)] w fun e w' => e = .returned (.bool (rightP k)) ∧ Below w.heap.size w w' := by
  have hdat := fun u => isdata_any k ad cap u hlen
  have hrw : rightP k = (nodeB k.frm && (nodeB k.to && (!decide (k.frm = k.to) && (decide (1 ≤ k.seq) && (decide (k.seq ≤ 1099511627776) && dataB k))))) := rfl
  rw [hrw]
  generalize dataB k = D at hdat ⊢
  clear hrw
  obtain ⟨ack, frm, to, seq, bs⟩ := k
  show Calls Try.prog 77 #[.agg #[.bool ack, .int .i64 frm, .int .i64 to, .int .u64 (seq : Int), .slice ad bs.length cap]] w fun e w' => e = .returned (.bool (nodeB frm && (nodeB to && (!decide (frm = to) && (decide (1 ≤ seq) && (decide (seq ≤ 1099511627776) && D)))))) ∧ Below w.heap.size w w'
  replace hdat : ∀ u, Calls Try.prog 113 #[.agg #[.bool ack, .int .i64 frm, .int .i64 to, .int .u64 (seq : Int), .slice ad bs.length cap]] u fun e w' => e = .returned (.bool D) ∧ Below u.heap.size u w' := hdat
  have hb := belA (bel0 w) (.cells #[.bool ack, .int .i64 frm, .int .i64 to, .int .u64 (seq : Int), .slice ad bs.length cap] 69)
  have hi1 := fun u => isnode_any frm u
  have hi2 := fun u => isnode_any to u
  generalize nodeB frm = F at hi1 ⊢
  generalize nodeB to = T at hi2 ⊢
  cases F
  · show Calls _ _ _ w fun e w' => e = .returned (.bool false) ∧ _
    go_enter Try.func77, Try.ntmps77
    go_wp2_with fail
    refine (hi1 _).mono ?_
    rintro _ _ ⟨rfl, rfl⟩
    go_wp2
    go_ret
    exact ⟨rfl, hb⟩
  · cases T
    · show Calls _ _ _ w fun e w' => e = .returned (.bool false) ∧ _
      go_enter Try.func77, Try.ntmps77
      go_wp2_with fail
      refine (hi1 _).mono ?_
      rintro _ _ ⟨rfl, rfl⟩
      go_wp2_with fail
      refine (hi2 _).mono ?_
      rintro _ _ ⟨rfl, rfl⟩
      go_wp2
      go_ret
      exact ⟨rfl, hb⟩
    · by_cases h3 : frm = to
      · subst h3
        rw [decide_eq_true rfl]
        show Calls _ _ _ w fun e w' => e = .returned (.bool false) ∧ _
        go_enter Try.func77, Try.ntmps77
        go_wp2_with fail
        refine (hi1 _).mono ?_
        rintro _ _ ⟨rfl, rfl⟩
        go_wp2_with fail
        refine (hi1 _).mono ?_
        rintro _ _ ⟨rfl, rfl⟩
        go_wp2
        go_ret
        exact ⟨rfl, hb⟩
      · rw [decide_eq_false h3]
        have b3 : (frm != to) = true := bne_iff_ne.2 h3
        by_cases h4 : 1 ≤ seq
        · rw [decide_eq_true h4]
          by_cases h5 : seq ≤ 1099511627776
          · rw [decide_eq_true h5]
            have d5 : decide ((seq : Int) ≤ 1099511627776) = true := decide_eq_true (by omega)
            clear h5
            show Calls _ _ _ w fun e w' => e = .returned (.bool D) ∧ _
            go_enter Try.func77, Try.ntmps77
            go_wp2_with fail
            refine (hi1 _).mono ?_
            rintro _ _ ⟨rfl, rfl⟩
            go_wp2_with fail
            refine (hi2 _).mono ?_
            rintro _ _ ⟨rfl, rfl⟩
            go_wp2_with fail
            refine (hdat _).mono ?_
            rintro _ w2 ⟨rfl, hb2⟩
            have hB2 := belT hb hb2
            go_wp2
            go_ret
            exact ⟨rfl, hB2⟩
          · rw [decide_eq_false h5]
            have d5 : decide ((seq : Int) ≤ 1099511627776) = false := decide_eq_false (by omega)
            clear h5 hdat
            show Calls _ _ _ w fun e w' => e = .returned (.bool false) ∧ _
            go_enter Try.func77, Try.ntmps77
            go_wp2_with fail
            refine (hi1 _).mono ?_
            rintro _ _ ⟨rfl, rfl⟩
            go_wp2_with fail
            refine (hi2 _).mono ?_
            rintro _ _ ⟨rfl, rfl⟩
            go_wp2
            go_ret
            exact ⟨rfl, hb⟩
        · rw [decide_eq_false h4]
          clear hdat
          obtain rfl : seq = 0 := by omega
          show Calls _ _ _ w fun e w' => e = .returned (.bool false) ∧ _
          go_enter Try.func77, Try.ntmps77
          go_wp2_with fail
          refine (hi1 _).mono ?_
          rintro _ _ ⟨rfl, rfl⟩
          go_wp2_with fail
          refine (hi2 _).mono ?_
          rintro _ _ ⟨rfl, rfl⟩
          go_wp2
          go_ret
          exact ⟨rfl, hb⟩

/-- A packet's bytes, all but the sum. -/
def encP (k : Pk) : List Nat := numB (if k.ack = true then 1 else 0) ++ numB k.frm.toNat ++ numB k.to.toNat ++ numB k.seq ++ (if k.ack = true then [] else encT k.bs)
def encW (k : Pk) : List Nat := encP k ++ numB (crcN (encP k))
theorem encP_len (k : Pk) (h : k.bs.length ≤ 1000000) : (encP k).length ≤ 1000060 := by
  unfold encP
  have h1 := (numB_len (if k.ack = true then 1 else 0)).2
  have h2 := (numB_len k.frm.toNat).2
  have h3 := (numB_len k.to.toNat).2
  have h4 := (numB_len k.seq).2
  have h5 := (numB_len k.bs.length).2
  have h6 : (if k.ack = true then [] else encT k.bs).length ≤ k.bs.length + 10 := by
    split
    · simp
    · unfold encT
      rw [List.length_append]; omega
  simp only [List.length_append]
  omega
theorem encP_byte (k : Pk) (h : ∀ x ∈ k.bs, x < 256) : ∀ x ∈ encP k, x < 256 := by
  intro x hx
  unfold encP at hx
  simp only [List.mem_append] at hx
  rcases hx with (((hx | hx) | hx) | hx) | hx
  · exact numB_byte _ x hx
  · exact numB_byte _ x hx
  · exact numB_byte _ x hx
  · exact numB_byte _ x hx
  · split at hx
    · cases hx
    · exact encT_byte h x hx
theorem encW_byte (k : Pk) (h : ∀ x ∈ k.bs, x < 256) : ∀ x ∈ encW k, x < 256 := by
  intro x hx
  rcases List.mem_append.1 hx with hx | hx
  · exact encP_byte k h x hx
  · exact numB_byte _ x hx

set_option maxRecDepth 100000 in
set_option maxHeartbeats 3200000 in
theorem pput_any (p : Nat) (k : Pk) (ad : Option Addr) (cap : Nat) (w : World) (hf : 0 ≤ k.frm ∧ k.frm < 9223372036854775808) (ht : 0 ≤ k.to ∧ k.to < 9223372036854775808) (hs : k.seq < 18446744073709551616) (hl : k.bs.length ≤ 1000000)
    (hsl : SliceAt w (.slice ad k.bs.length cap) k.bs.length 1 (bC k.bs)) (hX : 0 < k.bs.length → ∀ b, blkOf (.slice ad k.bs.length cap) = some b → b ≠ p) (h : WrV w p none []) :
    Calls Try.prog 78 #[.pointer (some ⟨p, 0, none⟩), .agg (pkA k ad cap)] w fun e w' => e = .returned (.tuple #[]) ∧ Wrote w w' p none (encP k) := by
  obtain ⟨ack, frm, to, seq, bs⟩ := k
  obtain ⟨nf, rfl⟩ : ∃ n : Nat, frm = n := ⟨frm.toNat, by have := hf.1; simp only at this; omega⟩
  obtain ⟨nt, rfl⟩ : ∃ n : Nat, to = n := ⟨to.toNat, by have := ht.1; simp only at this; omega⟩
  have hf : nf < 9223372036854775808 := by have := hf.2; simp only at this; omega
  have ht : nt < 9223372036854775808 := by have := ht.2; simp only at this; omega
  have hs : seq < 18446744073709551616 := hs
  have hl : bs.length ≤ 1000000 := hl
  have hsl : SliceAt w (.slice ad bs.length cap) bs.length 1 (bC bs) := hsl
  have hX : 0 < bs.length → ∀ b, blkOf (.slice ad bs.length cap) = some b → b ≠ p := hX
  show Calls Try.prog 78 #[.pointer (some ⟨p, 0, none⟩), .agg #[.bool ack, .int .i64 (nf : Int), .int .i64 (nt : Int), .int .u64 (seq : Int), .slice ad bs.length cap]] w _
  have hpw : p < w.heap.size := by obtain ⟨_, hl, _⟩ := h; exact look_lt hl
  have hbA := belA (bel0 w) (.cells #[.bool ack, .int .i64 (nf : Int), .int .i64 (nt : Int), .int .u64 (seq : Int), .slice ad bs.length cap] 69)
  have hW0 := wr_keeps h hbA
  have hlx : look (w.alloc (.cells #[.bool ack, .int .i64 (nf : Int), .int .i64 (nt : Int), .int .u64 (seq : Int), .slice ad bs.length cap] 69)) w.heap.size = some (.cells #[.bool ack, .int .i64 (nf : Int), .int .i64 (nt : Int), .int .u64 (seq : Int), .slice ad bs.length cap] 69 (0, 0)) := look_alloc_at _ _ _ rfl
  have hWd := wrote_drew hW0
  have hnp : w.heap.size ≠ p := by omega
  have w1 : IntKind.u64.wrap (nf : Int) = (nf : Int) := IntWalk.u64_in _ (by omega)
  have w2 : IntKind.u64.wrap (nt : Int) = (nt : Int) := IntWalk.u64_in _ (by omega)
  have hbs0 : ([] : List Nat).length ≤ 900000 := by decide
  cases ack
  · have he : encP ⟨false, (nf : Int), (nt : Int), seq, bs⟩ = [] ++ numB 0 ++ numB nf ++ numB nt ++ numB seq ++ numB bs.length ++ bs := by
      unfold encP encT
      simp
    rw [he]
    have heh := hidP he
    clear he
    go_enter Try.func78, Try.ntmps78
    go_wp2_with fail
    obtain ⟨stg, hstg⟩ : ∃ s : (Nat → Bool) → List Nat, Hid (s = fun L => if L 13 = true then [] ++ numB (0) ++ numB (nf) ++ numB (nt) ++ numB (seq) else (if L 10 = true then [] ++ numB (0) ++ numB (nf) ++ numB (nt) else (if L 6 = true then [] ++ numB (0) ++ numB (nf) else (if L 2 = true then [] ++ numB (0) else ([]))))) := ⟨_, hidP rfl⟩
    have hset : Hid (∀ (L : Nat → Bool) (i : Nat), (∀ c ∈ [2, 6, 10, 13], c ≠ i) → stg (setL L i) = stg L) := by
      refine hidP ?_
      intro L i h
      have k2 : (2 = i) = False := eq_false (h 2 (by simp))
      have k6 : (6 = i) = False := eq_false (h 6 (by simp))
      have k10 : (10 = i) = False := eq_false (h 10 (by simp))
      have k13 : (13 = i) = False := eq_false (h 13 (by simp))
      simp only [hstg.out, setL, k2, k6, k10, k13, if_false]
    have hst0 : Hid (stg (fun _ => false) = []) := hidP (by simp only [hstg.out, Bool.false_eq_true, if_false])
    refine wp_region_lst wmixed (fun L u => Wrote ((w.alloc (.cells #[.bool false, .int .i64 (nf : Int), .int .i64 (nt : Int), .int .u64 (seq : Int), .slice ad bs.length cap] 69))) u (p) (none) (stg L)) (fun _ _ => False) (fun _ _ _ h => h.elim) (fun _ _ _ => True) (by rw [hst0.out]; exact hWd) 14
      ([] :: [] :: [7, 8] :: [] :: [10] :: [11] :: [9, 12] :: [] :: [14] :: [15] :: [13, 16] :: [] :: [18] :: [17, 19] :: [])
      (isV (.pointer (some ⟨p, 0, none⟩)) :: isV (.int .u64 0) :: isV (.pointer (some ⟨p, 0, none⟩)) :: isV (.pointer (some ⟨w.heap.size, 1, none⟩)) :: isV (.int .i64 (nf : Int)) :: isV (.int .u64 (nf : Int)) :: isV (.pointer (some ⟨p, 0, none⟩)) :: isV (.pointer (some ⟨w.heap.size, 2, none⟩)) :: isV (.int .i64 (nt : Int)) :: isV (.int .u64 (nt : Int)) :: isV (.pointer (some ⟨p, 0, none⟩)) :: isV (.pointer (some ⟨w.heap.size, 3, none⟩)) :: isV (.int .u64 (seq : Int)) :: isV (.pointer (some ⟨p, 0, none⟩)) :: [])
      (by decide) (by kernel_rfl) ?_ ⟨?_, ?_, ?_, ?_, ?_, ?_, ?_, ?_, ?_, ?_, ?_, ?_, ?_, ?_, trivial⟩ ?_
    · intro i j S hij hS v u u' hv hR
      match j, hS with
      | 0, e => cases e; exact hv
      | 1, e => cases e; exact hv
      | 2, e => cases e; exact hv
      | 3, e => cases e; exact hv
      | 4, e => cases e; exact hv
      | 5, e => cases e; exact hv
      | 6, e => cases e; exact hv
      | 7, e => cases e; exact hv
      | 8, e => cases e; exact hv
      | 9, e => cases e; exact hv
      | 10, e => cases e; exact hv
      | 11, e => cases e; exact hv
      | 12, e => cases e; exact hv
      | 13, e => cases e; exact hv
      | n + 14, e => simp at e
    · intro L vs u hL hw hcl hJ hm
      simp only [fill]
      go_wp2
      exact ⟨_, rfl, rfl, ⟨trivial, (by rw [hset.out L 0 (by decide)]; exact hJ), Nat.le_refl _⟩, trivial⟩
    · intro L vs u hL hw hcl hJ hm
      simp only [fill]
      go_wp2
      exact ⟨_, rfl, rfl, ⟨trivial, (by rw [hset.out L 1 (by decide)]; exact hJ), Nat.le_refl _⟩, trivial⟩
    · intro L vs u hL hw hcl hJ hm
      have h7 : vs 7 = .pointer (some ⟨p, 0, none⟩) := meets_get hm 0 rfl rfl rfl rfl
      have h8 : vs 8 = .int .u64 0 := meets_get hm 1 rfl rfl rfl rfl
      have L6 : L 6 = false := by
        cases e : L 6 with
        | false => rfl
        | true => exact absurd (hcl 6 _ e rfl 2 (by kernel_rfl)) (by rw [hL]; decide)
      have L10 : L 10 = false := by
        cases e : L 10 with
        | false => rfl
        | true => exact absurd (hcl 10 _ e rfl 6 (by kernel_rfl)) (by rw [L6]; decide)
      have L13 : L 13 = false := by
        cases e : L 13 with
        | false => rfl
        | true => exact absurd (hcl 13 _ e rfl 10 (by kernel_rfl)) (by rw [L10]; decide)
      have hst : stg L = [] := by simp only [hstg.out, hL, L6, L10, L13, Bool.false_eq_true, if_false, if_true]
      have hst2 : stg (setL L 2) = [] ++ numB (0) := by simp [hstg.out, setL, L6, L10, L13]
      rw [hst] at hJ
      obtain ⟨gq, hvq, hnq, hkq⟩ := hJ
      clear hm hw hcl hst
      simp only [fill, h7, h8]
      go_wp2_with fail
      refine (num_any p gq _ (0) _ (by decide) (by have z0 := hbs0;  (try simp only [List.length_append]); omega) hvq).mono ?_
      rintro e u' ⟨rfl, hWq⟩
      have hszq : u.heap.size ≤ u'.heap.size := by
        obtain ⟨_, _, _, hq⟩ := hWq
        exact hq.size
      go_wp2
      exact ⟨_, rfl, rfl, ⟨trivial, (by rw [hst2]; exact Wrote.trans hkq hnq hWq), hszq⟩, trivial⟩
    · intro L vs u hL hw hcl hJ hm
      simp only [fill]
      go_wp2
      exact ⟨_, rfl, rfl, ⟨trivial, (by rw [hset.out L 3 (by decide)]; exact hJ), Nat.le_refl _⟩, trivial⟩
    · intro L vs u hL hw hcl hJ hm
      have h10 : vs 10 = .pointer (some ⟨w.heap.size, 1, none⟩) := meets_get hm 3 rfl rfl rfl rfl
      have hl := wrote_look hJ (hlx) (hnp) (by simp)
      have hc : World.cell? u ⟨w.heap.size, 1, none⟩ = some (.int .i64 (nf : Int)) := by rw [look_cell hl]; rfl
      simp only [fill, h10]
      go_wp2
      exact ⟨_, rfl, rfl, ⟨trivial, (by rw [hset.out L 4 (by decide)]; exact hJ), Nat.le_refl _⟩, trivial⟩
    · intro L vs u hL hw hcl hJ hm
      have h11 : vs 11 = .int .i64 (nf : Int) := meets_get hm 4 rfl rfl rfl rfl
      simp only [fill, h11]
      go_wp2
      exact ⟨_, rfl, rfl, ⟨trivial, (by rw [hset.out L 5 (by decide)]; exact hJ), Nat.le_refl _⟩, trivial⟩
    · intro L vs u hL hw hcl hJ hm
      have h9 : vs 9 = .pointer (some ⟨p, 0, none⟩) := meets_get hm 2 rfl rfl rfl rfl
      have h12 : vs 12 = .int .u64 (nf : Int) := meets_get hm 5 rfl rfl rfl rfl
      have L10 : L 10 = false := by
        cases e : L 10 with
        | false => rfl
        | true => exact absurd (hcl 10 _ e rfl 6 (by kernel_rfl)) (by rw [hL]; decide)
      have L13 : L 13 = false := by
        cases e : L 13 with
        | false => rfl
        | true => exact absurd (hcl 13 _ e rfl 10 (by kernel_rfl)) (by rw [L10]; decide)
      have P2 : L 2 = true := hw 2 (by kernel_rfl)
      have hst : stg L = [] ++ numB (0) := by simp only [hstg.out, hL, L10, L13, P2, Bool.false_eq_true, if_false, if_true]
      have hst2 : stg (setL L 6) = [] ++ numB (0) ++ numB (nf) := by simp [hstg.out, setL, L10, L13]
      rw [hst] at hJ
      obtain ⟨gq, hvq, hnq, hkq⟩ := hJ
      clear hm hw hcl hst
      simp only [fill, h9, h12]
      go_wp2_with fail
      refine (num_any p gq _ (nf) _ (by omega) (by have z0 := hbs0; have z1 := (numB_len (0)).2; (try simp only [List.length_append]); omega) hvq).mono ?_
      rintro e u' ⟨rfl, hWq⟩
      have hszq : u.heap.size ≤ u'.heap.size := by
        obtain ⟨_, _, _, hq⟩ := hWq
        exact hq.size
      go_wp2
      exact ⟨_, rfl, rfl, ⟨trivial, (by rw [hst2]; exact Wrote.trans hkq hnq hWq), hszq⟩, trivial⟩
    · intro L vs u hL hw hcl hJ hm
      simp only [fill]
      go_wp2
      exact ⟨_, rfl, rfl, ⟨trivial, (by rw [hset.out L 7 (by decide)]; exact hJ), Nat.le_refl _⟩, trivial⟩
    · intro L vs u hL hw hcl hJ hm
      have h14 : vs 14 = .pointer (some ⟨w.heap.size, 2, none⟩) := meets_get hm 7 rfl rfl rfl rfl
      have hl := wrote_look hJ (hlx) (hnp) (by simp)
      have hc : World.cell? u ⟨w.heap.size, 2, none⟩ = some (.int .i64 (nt : Int)) := by rw [look_cell hl]; rfl
      simp only [fill, h14]
      go_wp2
      exact ⟨_, rfl, rfl, ⟨trivial, (by rw [hset.out L 8 (by decide)]; exact hJ), Nat.le_refl _⟩, trivial⟩
    · intro L vs u hL hw hcl hJ hm
      have h15 : vs 15 = .int .i64 (nt : Int) := meets_get hm 8 rfl rfl rfl rfl
      simp only [fill, h15]
      go_wp2
      exact ⟨_, rfl, rfl, ⟨trivial, (by rw [hset.out L 9 (by decide)]; exact hJ), Nat.le_refl _⟩, trivial⟩
    · intro L vs u hL hw hcl hJ hm
      have h13 : vs 13 = .pointer (some ⟨p, 0, none⟩) := meets_get hm 6 rfl rfl rfl rfl
      have h16 : vs 16 = .int .u64 (nt : Int) := meets_get hm 9 rfl rfl rfl rfl
      have L13 : L 13 = false := by
        cases e : L 13 with
        | false => rfl
        | true => exact absurd (hcl 13 _ e rfl 10 (by kernel_rfl)) (by rw [hL]; decide)
      have P6 : L 6 = true := hw 6 (by kernel_rfl)
      have hst : stg L = [] ++ numB (0) ++ numB (nf) := by simp only [hstg.out, hL, L13, P6, Bool.false_eq_true, if_false, if_true]
      have hst2 : stg (setL L 10) = [] ++ numB (0) ++ numB (nf) ++ numB (nt) := by simp [hstg.out, setL, L13]
      rw [hst] at hJ
      obtain ⟨gq, hvq, hnq, hkq⟩ := hJ
      clear hm hw hcl hst
      simp only [fill, h13, h16]
      go_wp2_with fail
      refine (num_any p gq _ (nt) _ (by omega) (by have z0 := hbs0; have z1 := (numB_len (0)).2; have z2 := (numB_len (nf)).2; (try simp only [List.length_append]); omega) hvq).mono ?_
      rintro e u' ⟨rfl, hWq⟩
      have hszq : u.heap.size ≤ u'.heap.size := by
        obtain ⟨_, _, _, hq⟩ := hWq
        exact hq.size
      go_wp2
      exact ⟨_, rfl, rfl, ⟨trivial, (by rw [hst2]; exact Wrote.trans hkq hnq hWq), hszq⟩, trivial⟩
    · intro L vs u hL hw hcl hJ hm
      simp only [fill]
      go_wp2
      exact ⟨_, rfl, rfl, ⟨trivial, (by rw [hset.out L 11 (by decide)]; exact hJ), Nat.le_refl _⟩, trivial⟩
    · intro L vs u hL hw hcl hJ hm
      have h18 : vs 18 = .pointer (some ⟨w.heap.size, 3, none⟩) := meets_get hm 11 rfl rfl rfl rfl
      have hl := wrote_look hJ (hlx) (hnp) (by simp)
      have hc : World.cell? u ⟨w.heap.size, 3, none⟩ = some (.int .u64 (seq : Int)) := by rw [look_cell hl]; rfl
      simp only [fill, h18]
      go_wp2
      exact ⟨_, rfl, rfl, ⟨trivial, (by rw [hset.out L 12 (by decide)]; exact hJ), Nat.le_refl _⟩, trivial⟩
    · intro L vs u hL hw hcl hJ hm
      have h17 : vs 17 = .pointer (some ⟨p, 0, none⟩) := meets_get hm 10 rfl rfl rfl rfl
      have h19 : vs 19 = .int .u64 (seq : Int) := meets_get hm 12 rfl rfl rfl rfl
      have P10 : L 10 = true := hw 10 (by kernel_rfl)
      have hst : stg L = [] ++ numB (0) ++ numB (nf) ++ numB (nt) := by simp only [hstg.out, hL, P10, Bool.false_eq_true, if_false, if_true]
      have hst2 : stg (setL L 13) = [] ++ numB (0) ++ numB (nf) ++ numB (nt) ++ numB (seq) := by simp [hstg.out, setL]
      rw [hst] at hJ
      obtain ⟨gq, hvq, hnq, hkq⟩ := hJ
      clear hm hw hcl hst
      simp only [fill, h17, h19]
      go_wp2_with fail
      refine (num_any p gq _ (seq) _ (hs) (by have z0 := hbs0; have z1 := (numB_len (0)).2; have z2 := (numB_len (nf)).2; have z3 := (numB_len (nt)).2; (try simp only [List.length_append]); omega) hvq).mono ?_
      rintro e u' ⟨rfl, hWq⟩
      have hszq : u.heap.size ≤ u'.heap.size := by
        obtain ⟨_, _, _, hq⟩ := hWq
        exact hq.size
      go_wp2
      exact ⟨_, rfl, rfl, ⟨trivial, (by rw [hst2]; exact Wrote.trans hkq hnq hWq), hszq⟩, trivial⟩
    intro L hall vs ws hJ hsz hm hne hlo
    have h7 : vs 7 = .pointer (some ⟨p, 0, none⟩) := hm 0 _ _ _ rfl rfl rfl
    have h8 : vs 8 = .int .u64 0 := hm 1 _ _ _ rfl rfl rfl
    have h9 : vs 9 = .pointer (some ⟨p, 0, none⟩) := hm 2 _ _ _ rfl rfl rfl
    have h10 : vs 10 = .pointer (some ⟨w.heap.size, 1, none⟩) := hm 3 _ _ _ rfl rfl rfl
    have h11 : vs 11 = .int .i64 (nf : Int) := hm 4 _ _ _ rfl rfl rfl
    have h12 : vs 12 = .int .u64 (nf : Int) := hm 5 _ _ _ rfl rfl rfl
    have h13 : vs 13 = .pointer (some ⟨p, 0, none⟩) := hm 6 _ _ _ rfl rfl rfl
    have h14 : vs 14 = .pointer (some ⟨w.heap.size, 2, none⟩) := hm 7 _ _ _ rfl rfl rfl
    have h15 : vs 15 = .int .i64 (nt : Int) := hm 8 _ _ _ rfl rfl rfl
    have h16 : vs 16 = .int .u64 (nt : Int) := hm 9 _ _ _ rfl rfl rfl
    have h17 : vs 17 = .pointer (some ⟨p, 0, none⟩) := hm 10 _ _ _ rfl rfl rfl
    have h18 : vs 18 = .pointer (some ⟨w.heap.size, 3, none⟩) := hm 11 _ _ _ rfl rfl rfl
    have h19 : vs 19 = .int .u64 (seq : Int) := hm 12 _ _ _ rfl rfl rfl
    have h20 : vs 20 = .pointer (some ⟨p, 0, none⟩) := hm 13 _ _ _ rfl rfl rfl
    have hst : stg L = [] ++ numB (0) ++ numB (nf) ++ numB (nt) ++ numB (seq) := by simp only [hstg.out]; rw [if_pos (hall 13 (by decide))]
    rw [hst] at hJ
    clear hne hlo hm hall hst hsz hset hst0 hstg
    simp only [fill, List.filterMap, List.take, List.drop, List.setIfInBounds_toArray, List.set_cons_zero, List.set_cons_succ, h7, h8, h9, h10, h11, h12, h13, h14, h15, h16, h17, h18, h19, h20]
    clear h7 h8 h9 h10 h11 h12 h13 h14 h15 h16 h17 h18 h19 h20
    obtain ⟨g1, hW1, hn1, hk1⟩ := hJ
    have l1 : look ws w.heap.size = some (.cells #[.bool false, .int .i64 (nf : Int), .int .i64 (nt : Int), .int .u64 (seq : Int), .slice ad bs.length cap] 69 (0, 0)) := keeps_look hk1 hlx hnp (by simp)
    have c0 : ws.cell? ⟨w.heap.size, 0, none⟩ = some (.bool false) := by rw [look_cell l1]; rfl
    have c4 : ws.cell? ⟨w.heap.size, 4, none⟩ = some (.slice ad bs.length cap) := by rw [look_cell l1]; rfl
    have hk0 := below_keeps (p := p) (g := none) hbA
    have hkw := hk0.trans (.inl rfl) hk1
    have hnw : newOr w none g1 := newOr.trans hbA.size (.inl rfl) hn1
    have hz1 := (numB_len 0).2
    have hz2 := (numB_len nf).2
    have hz3 := (numB_len nt).2
    have hz4 := (numB_len seq).2
    have hlk : ([] ++ numB 0 ++ numB nf ++ numB nt ++ numB seq).length ≤ 1000000 := by simp only [List.length_append, List.length_nil]; omega
    have hsrc : ((.slice ad bs.length cap : Value) = .slice none 0 0 ∧ bs.length = 0) ∨ ∃ a c, (.slice ad bs.length cap : Value) = .slice (some a) bs.length c ∧ (0 < bs.length → a.block < ws.heap.size ∧ a.block ≠ p ∧ some a.block ≠ g1) ∧ ∀ j u, (bcells bs)[j]? = some u → ws.cell? (a.add j) = some u := by
      have hblk : ∀ a, ad = some a → 0 < bs.length → a.block < w.heap.size := fun a e h0 => by
        obtain ⟨_, _, e2, _, _, h4⟩ := hsl
        cases e2
        rcases h4 with h4 | ⟨b, off, e3, hb, _⟩
        · omega
        · rw [e] at e3; cases e3; exact hb
      rcases slice_news hsl with h1 | ⟨a, c, e, hc⟩
      · exact .inl h1
      · refine .inr ⟨a, c, e, fun h0 => ?_, fun j u hu => ?_⟩
        · cases e
          have h1 := hblk a rfl h0
          have h2 := hX h0 a.block rfl
          refine ⟨Nat.lt_of_lt_of_le h1 hkw.size, h2, fun e => ?_⟩
          rcases hnw with rfl | ⟨m, rfl, hm⟩
          · cases e
          · cases e; omega
        · rw [← hc j u hu]
          cases e
          have h0 : 0 < bs.length := by
            have := (List.getElem?_eq_some_iff.1 hu).1
            rw [bcells_len] at this
            omega
          exact World.cell?_of_block (by rw [add_block]; exact hkw.block _ (hblk a rfl h0) (hX h0 a.block rfl) (by simp))
    clear hz1 hz2 hz3 hz4 hWd hW0 hlx
    go_wp2_with fail
    refine (text_any p g1 _ bs _ _ hlk hl hW1 hsrc).mono ?_
    rintro _ w2 ⟨rfl, hW2⟩
    go_wp2
    go_end0
    exact ⟨rfl, Wrote.trans hkw hnw hW2⟩
  · have he : encP ⟨true, (nf : Int), (nt : Int), seq, bs⟩ = [] ++ numB 1 ++ numB nf ++ numB nt ++ numB seq := by
      unfold encP
      simp
    rw [he]
    have heh := hidP he
    clear he
    go_enter Try.func78, Try.ntmps78
    go_wp2_with fail
    obtain ⟨stg, hstg⟩ : ∃ s : (Nat → Bool) → List Nat, Hid (s = fun L => if L 13 = true then [] ++ numB (1) ++ numB (nf) ++ numB (nt) ++ numB (seq) else (if L 10 = true then [] ++ numB (1) ++ numB (nf) ++ numB (nt) else (if L 6 = true then [] ++ numB (1) ++ numB (nf) else (if L 2 = true then [] ++ numB (1) else ([]))))) := ⟨_, hidP rfl⟩
    have hset : Hid (∀ (L : Nat → Bool) (i : Nat), (∀ c ∈ [2, 6, 10, 13], c ≠ i) → stg (setL L i) = stg L) := by
      refine hidP ?_
      intro L i h
      have k2 : (2 = i) = False := eq_false (h 2 (by simp))
      have k6 : (6 = i) = False := eq_false (h 6 (by simp))
      have k10 : (10 = i) = False := eq_false (h 10 (by simp))
      have k13 : (13 = i) = False := eq_false (h 13 (by simp))
      simp only [hstg.out, setL, k2, k6, k10, k13, if_false]
    have hst0 : Hid (stg (fun _ => false) = []) := hidP (by simp only [hstg.out, Bool.false_eq_true, if_false])
    refine wp_region_lst wmixed (fun L u => Wrote ((w.alloc (.cells #[.bool true, .int .i64 (nf : Int), .int .i64 (nt : Int), .int .u64 (seq : Int), .slice ad bs.length cap] 69))) u (p) (none) (stg L)) (fun _ _ => False) (fun _ _ _ h => h.elim) (fun _ _ _ => True) (by rw [hst0.out]; exact hWd) 14
      ([] :: [] :: [7, 8] :: [] :: [10] :: [11] :: [9, 12] :: [] :: [14] :: [15] :: [13, 16] :: [] :: [18] :: [17, 19] :: [])
      (isV (.pointer (some ⟨p, 0, none⟩)) :: isV (.int .u64 1) :: isV (.pointer (some ⟨p, 0, none⟩)) :: isV (.pointer (some ⟨w.heap.size, 1, none⟩)) :: isV (.int .i64 (nf : Int)) :: isV (.int .u64 (nf : Int)) :: isV (.pointer (some ⟨p, 0, none⟩)) :: isV (.pointer (some ⟨w.heap.size, 2, none⟩)) :: isV (.int .i64 (nt : Int)) :: isV (.int .u64 (nt : Int)) :: isV (.pointer (some ⟨p, 0, none⟩)) :: isV (.pointer (some ⟨w.heap.size, 3, none⟩)) :: isV (.int .u64 (seq : Int)) :: isV (.pointer (some ⟨p, 0, none⟩)) :: [])
      (by decide) (by kernel_rfl) ?_ ⟨?_, ?_, ?_, ?_, ?_, ?_, ?_, ?_, ?_, ?_, ?_, ?_, ?_, ?_, trivial⟩ ?_
    · intro i j S hij hS v u u' hv hR
      match j, hS with
      | 0, e => cases e; exact hv
      | 1, e => cases e; exact hv
      | 2, e => cases e; exact hv
      | 3, e => cases e; exact hv
      | 4, e => cases e; exact hv
      | 5, e => cases e; exact hv
      | 6, e => cases e; exact hv
      | 7, e => cases e; exact hv
      | 8, e => cases e; exact hv
      | 9, e => cases e; exact hv
      | 10, e => cases e; exact hv
      | 11, e => cases e; exact hv
      | 12, e => cases e; exact hv
      | 13, e => cases e; exact hv
      | n + 14, e => simp at e
    · intro L vs u hL hw hcl hJ hm
      simp only [fill]
      go_wp2
      exact ⟨_, rfl, rfl, ⟨trivial, (by rw [hset.out L 0 (by decide)]; exact hJ), Nat.le_refl _⟩, trivial⟩
    · intro L vs u hL hw hcl hJ hm
      simp only [fill]
      go_wp2
      exact ⟨_, rfl, rfl, ⟨trivial, (by rw [hset.out L 1 (by decide)]; exact hJ), Nat.le_refl _⟩, trivial⟩
    · intro L vs u hL hw hcl hJ hm
      have h7 : vs 7 = .pointer (some ⟨p, 0, none⟩) := meets_get hm 0 rfl rfl rfl rfl
      have h8 : vs 8 = .int .u64 1 := meets_get hm 1 rfl rfl rfl rfl
      have L6 : L 6 = false := by
        cases e : L 6 with
        | false => rfl
        | true => exact absurd (hcl 6 _ e rfl 2 (by kernel_rfl)) (by rw [hL]; decide)
      have L10 : L 10 = false := by
        cases e : L 10 with
        | false => rfl
        | true => exact absurd (hcl 10 _ e rfl 6 (by kernel_rfl)) (by rw [L6]; decide)
      have L13 : L 13 = false := by
        cases e : L 13 with
        | false => rfl
        | true => exact absurd (hcl 13 _ e rfl 10 (by kernel_rfl)) (by rw [L10]; decide)
      have hst : stg L = [] := by simp only [hstg.out, hL, L6, L10, L13, Bool.false_eq_true, if_false, if_true]
      have hst2 : stg (setL L 2) = [] ++ numB (1) := by simp [hstg.out, setL, L6, L10, L13]
      rw [hst] at hJ
      obtain ⟨gq, hvq, hnq, hkq⟩ := hJ
      clear hm hw hcl hst
      simp only [fill, h7, h8]
      go_wp2_with fail
      refine (num_any p gq _ (1) _ (by decide) (by have z0 := hbs0;  (try simp only [List.length_append]); omega) hvq).mono ?_
      rintro e u' ⟨rfl, hWq⟩
      have hszq : u.heap.size ≤ u'.heap.size := by
        obtain ⟨_, _, _, hq⟩ := hWq
        exact hq.size
      go_wp2
      exact ⟨_, rfl, rfl, ⟨trivial, (by rw [hst2]; exact Wrote.trans hkq hnq hWq), hszq⟩, trivial⟩
    · intro L vs u hL hw hcl hJ hm
      simp only [fill]
      go_wp2
      exact ⟨_, rfl, rfl, ⟨trivial, (by rw [hset.out L 3 (by decide)]; exact hJ), Nat.le_refl _⟩, trivial⟩
    · intro L vs u hL hw hcl hJ hm
      have h10 : vs 10 = .pointer (some ⟨w.heap.size, 1, none⟩) := meets_get hm 3 rfl rfl rfl rfl
      have hl := wrote_look hJ (hlx) (hnp) (by simp)
      have hc : World.cell? u ⟨w.heap.size, 1, none⟩ = some (.int .i64 (nf : Int)) := by rw [look_cell hl]; rfl
      simp only [fill, h10]
      go_wp2
      exact ⟨_, rfl, rfl, ⟨trivial, (by rw [hset.out L 4 (by decide)]; exact hJ), Nat.le_refl _⟩, trivial⟩
    · intro L vs u hL hw hcl hJ hm
      have h11 : vs 11 = .int .i64 (nf : Int) := meets_get hm 4 rfl rfl rfl rfl
      simp only [fill, h11]
      go_wp2
      exact ⟨_, rfl, rfl, ⟨trivial, (by rw [hset.out L 5 (by decide)]; exact hJ), Nat.le_refl _⟩, trivial⟩
    · intro L vs u hL hw hcl hJ hm
      have h9 : vs 9 = .pointer (some ⟨p, 0, none⟩) := meets_get hm 2 rfl rfl rfl rfl
      have h12 : vs 12 = .int .u64 (nf : Int) := meets_get hm 5 rfl rfl rfl rfl
      have L10 : L 10 = false := by
        cases e : L 10 with
        | false => rfl
        | true => exact absurd (hcl 10 _ e rfl 6 (by kernel_rfl)) (by rw [hL]; decide)
      have L13 : L 13 = false := by
        cases e : L 13 with
        | false => rfl
        | true => exact absurd (hcl 13 _ e rfl 10 (by kernel_rfl)) (by rw [L10]; decide)
      have P2 : L 2 = true := hw 2 (by kernel_rfl)
      have hst : stg L = [] ++ numB (1) := by simp only [hstg.out, hL, L10, L13, P2, Bool.false_eq_true, if_false, if_true]
      have hst2 : stg (setL L 6) = [] ++ numB (1) ++ numB (nf) := by simp [hstg.out, setL, L10, L13]
      rw [hst] at hJ
      obtain ⟨gq, hvq, hnq, hkq⟩ := hJ
      clear hm hw hcl hst
      simp only [fill, h9, h12]
      go_wp2_with fail
      refine (num_any p gq _ (nf) _ (by omega) (by have z0 := hbs0; have z1 := (numB_len (1)).2; (try simp only [List.length_append]); omega) hvq).mono ?_
      rintro e u' ⟨rfl, hWq⟩
      have hszq : u.heap.size ≤ u'.heap.size := by
        obtain ⟨_, _, _, hq⟩ := hWq
        exact hq.size
      go_wp2
      exact ⟨_, rfl, rfl, ⟨trivial, (by rw [hst2]; exact Wrote.trans hkq hnq hWq), hszq⟩, trivial⟩
    · intro L vs u hL hw hcl hJ hm
      simp only [fill]
      go_wp2
      exact ⟨_, rfl, rfl, ⟨trivial, (by rw [hset.out L 7 (by decide)]; exact hJ), Nat.le_refl _⟩, trivial⟩
    · intro L vs u hL hw hcl hJ hm
      have h14 : vs 14 = .pointer (some ⟨w.heap.size, 2, none⟩) := meets_get hm 7 rfl rfl rfl rfl
      have hl := wrote_look hJ (hlx) (hnp) (by simp)
      have hc : World.cell? u ⟨w.heap.size, 2, none⟩ = some (.int .i64 (nt : Int)) := by rw [look_cell hl]; rfl
      simp only [fill, h14]
      go_wp2
      exact ⟨_, rfl, rfl, ⟨trivial, (by rw [hset.out L 8 (by decide)]; exact hJ), Nat.le_refl _⟩, trivial⟩
    · intro L vs u hL hw hcl hJ hm
      have h15 : vs 15 = .int .i64 (nt : Int) := meets_get hm 8 rfl rfl rfl rfl
      simp only [fill, h15]
      go_wp2
      exact ⟨_, rfl, rfl, ⟨trivial, (by rw [hset.out L 9 (by decide)]; exact hJ), Nat.le_refl _⟩, trivial⟩
    · intro L vs u hL hw hcl hJ hm
      have h13 : vs 13 = .pointer (some ⟨p, 0, none⟩) := meets_get hm 6 rfl rfl rfl rfl
      have h16 : vs 16 = .int .u64 (nt : Int) := meets_get hm 9 rfl rfl rfl rfl
      have L13 : L 13 = false := by
        cases e : L 13 with
        | false => rfl
        | true => exact absurd (hcl 13 _ e rfl 10 (by kernel_rfl)) (by rw [hL]; decide)
      have P6 : L 6 = true := hw 6 (by kernel_rfl)
      have hst : stg L = [] ++ numB (1) ++ numB (nf) := by simp only [hstg.out, hL, L13, P6, Bool.false_eq_true, if_false, if_true]
      have hst2 : stg (setL L 10) = [] ++ numB (1) ++ numB (nf) ++ numB (nt) := by simp [hstg.out, setL, L13]
      rw [hst] at hJ
      obtain ⟨gq, hvq, hnq, hkq⟩ := hJ
      clear hm hw hcl hst
      simp only [fill, h13, h16]
      go_wp2_with fail
      refine (num_any p gq _ (nt) _ (by omega) (by have z0 := hbs0; have z1 := (numB_len (1)).2; have z2 := (numB_len (nf)).2; (try simp only [List.length_append]); omega) hvq).mono ?_
      rintro e u' ⟨rfl, hWq⟩
      have hszq : u.heap.size ≤ u'.heap.size := by
        obtain ⟨_, _, _, hq⟩ := hWq
        exact hq.size
      go_wp2
      exact ⟨_, rfl, rfl, ⟨trivial, (by rw [hst2]; exact Wrote.trans hkq hnq hWq), hszq⟩, trivial⟩
    · intro L vs u hL hw hcl hJ hm
      simp only [fill]
      go_wp2
      exact ⟨_, rfl, rfl, ⟨trivial, (by rw [hset.out L 11 (by decide)]; exact hJ), Nat.le_refl _⟩, trivial⟩
    · intro L vs u hL hw hcl hJ hm
      have h18 : vs 18 = .pointer (some ⟨w.heap.size, 3, none⟩) := meets_get hm 11 rfl rfl rfl rfl
      have hl := wrote_look hJ (hlx) (hnp) (by simp)
      have hc : World.cell? u ⟨w.heap.size, 3, none⟩ = some (.int .u64 (seq : Int)) := by rw [look_cell hl]; rfl
      simp only [fill, h18]
      go_wp2
      exact ⟨_, rfl, rfl, ⟨trivial, (by rw [hset.out L 12 (by decide)]; exact hJ), Nat.le_refl _⟩, trivial⟩
    · intro L vs u hL hw hcl hJ hm
      have h17 : vs 17 = .pointer (some ⟨p, 0, none⟩) := meets_get hm 10 rfl rfl rfl rfl
      have h19 : vs 19 = .int .u64 (seq : Int) := meets_get hm 12 rfl rfl rfl rfl
      have P10 : L 10 = true := hw 10 (by kernel_rfl)
      have hst : stg L = [] ++ numB (1) ++ numB (nf) ++ numB (nt) := by simp only [hstg.out, hL, P10, Bool.false_eq_true, if_false, if_true]
      have hst2 : stg (setL L 13) = [] ++ numB (1) ++ numB (nf) ++ numB (nt) ++ numB (seq) := by simp [hstg.out, setL]
      rw [hst] at hJ
      obtain ⟨gq, hvq, hnq, hkq⟩ := hJ
      clear hm hw hcl hst
      simp only [fill, h17, h19]
      go_wp2_with fail
      refine (num_any p gq _ (seq) _ (hs) (by have z0 := hbs0; have z1 := (numB_len (1)).2; have z2 := (numB_len (nf)).2; have z3 := (numB_len (nt)).2; (try simp only [List.length_append]); omega) hvq).mono ?_
      rintro e u' ⟨rfl, hWq⟩
      have hszq : u.heap.size ≤ u'.heap.size := by
        obtain ⟨_, _, _, hq⟩ := hWq
        exact hq.size
      go_wp2
      exact ⟨_, rfl, rfl, ⟨trivial, (by rw [hst2]; exact Wrote.trans hkq hnq hWq), hszq⟩, trivial⟩
    intro L hall vs ws hJ hsz hm hne hlo
    have h7 : vs 7 = .pointer (some ⟨p, 0, none⟩) := hm 0 _ _ _ rfl rfl rfl
    have h8 : vs 8 = .int .u64 1 := hm 1 _ _ _ rfl rfl rfl
    have h9 : vs 9 = .pointer (some ⟨p, 0, none⟩) := hm 2 _ _ _ rfl rfl rfl
    have h10 : vs 10 = .pointer (some ⟨w.heap.size, 1, none⟩) := hm 3 _ _ _ rfl rfl rfl
    have h11 : vs 11 = .int .i64 (nf : Int) := hm 4 _ _ _ rfl rfl rfl
    have h12 : vs 12 = .int .u64 (nf : Int) := hm 5 _ _ _ rfl rfl rfl
    have h13 : vs 13 = .pointer (some ⟨p, 0, none⟩) := hm 6 _ _ _ rfl rfl rfl
    have h14 : vs 14 = .pointer (some ⟨w.heap.size, 2, none⟩) := hm 7 _ _ _ rfl rfl rfl
    have h15 : vs 15 = .int .i64 (nt : Int) := hm 8 _ _ _ rfl rfl rfl
    have h16 : vs 16 = .int .u64 (nt : Int) := hm 9 _ _ _ rfl rfl rfl
    have h17 : vs 17 = .pointer (some ⟨p, 0, none⟩) := hm 10 _ _ _ rfl rfl rfl
    have h18 : vs 18 = .pointer (some ⟨w.heap.size, 3, none⟩) := hm 11 _ _ _ rfl rfl rfl
    have h19 : vs 19 = .int .u64 (seq : Int) := hm 12 _ _ _ rfl rfl rfl
    have h20 : vs 20 = .pointer (some ⟨p, 0, none⟩) := hm 13 _ _ _ rfl rfl rfl
    have hst : stg L = [] ++ numB (1) ++ numB (nf) ++ numB (nt) ++ numB (seq) := by simp only [hstg.out]; rw [if_pos (hall 13 (by decide))]
    rw [hst] at hJ
    clear hne hlo hm hall hst hsz hset hst0 hstg
    simp only [fill, List.filterMap, List.take, List.drop, List.setIfInBounds_toArray, List.set_cons_zero, List.set_cons_succ, h7, h8, h9, h10, h11, h12, h13, h14, h15, h16, h17, h18, h19, h20]
    clear h7 h8 h9 h10 h11 h12 h13 h14 h15 h16 h17 h18 h19 h20
    obtain ⟨g1, hW1, hn1, hk1⟩ := hJ
    have l1 : look ws w.heap.size = some (.cells #[.bool true, .int .i64 (nf : Int), .int .i64 (nt : Int), .int .u64 (seq : Int), .slice ad bs.length cap] 69 (0, 0)) := keeps_look hk1 hlx hnp (by simp)
    have c0 : ws.cell? ⟨w.heap.size, 0, none⟩ = some (.bool true) := by rw [look_cell l1]; rfl
    have c4 : ws.cell? ⟨w.heap.size, 4, none⟩ = some (.slice ad bs.length cap) := by rw [look_cell l1]; rfl
    have hfin := hidP (Wrote.trans (below_keeps hbA) (.inl rfl) ⟨g1, hW1, hn1, hk1⟩)
    clear hW1 hn1 hk1 hlx
    go_wp2
    go_end0
    exact ⟨rfl, hfin.out⟩
end Go.Proofs.Ytnpofcnibgdjhaa
