/- Links: an op. -/
import Derived.Test.YtnpofcnibgdjhaaLkJ
namespace Go.Proofs.Ytnpofcnibgdjhaa
open Go.RowKit

/-- An op: its kind, its number, and its bytes. -/
structure LOp where
  kind : Int
  seq : Nat
  ad : Option Addr
  cap : Nat
  bs : List Nat
def LOp.sl (o : LOp) : Value := .slice o.ad o.bs.length o.cap
def opA (o : LOp) : Array Value := #[.int .i64 o.kind, .int .u64 (o.seq : Int), o.sl]
structure LOpOk (w : World) (o : LOp) : Prop where
  sl : SliceAt w o.sl o.bs.length 1 (bC o.bs)
  by' : ∀ x ∈ o.bs, x < 256
  seq : o.seq < 18446744073709551616
theorem LOpOk.below {w W : World} {o : LOp} (h : LOpOk w o) (hb : Below w.heap.size w W) : LOpOk W o := ⟨h.sl.below hb, h.by', h.seq⟩
def doL (l : Lk) (o : LOp) : Lk := if o.kind = 0 then sendL l o.bs else if o.kind = 1 then ackL l o.seq else if o.kind = 2 then takeL l o.seq else l
def doE (l : Lk) (o : LOp) : Int := if o.kind = 0 then sendE l o.bs else if o.kind = 1 then ackE l o.seq else if o.kind = 2 then takeE l o.seq else 0
theorem ok_do {l : Lk} {o : LOp} (h : okLk l) (hb : ∀ x ∈ o.bs, x < 256) : okLk (doL l o) := by
  unfold doL
  split
  · exact ok_send h hb
  · split
    · exact ok_ack h
    · split
      · exact ok_take h
      · exact h

set_option maxRecDepth 100000 in
theorem lsend_any (p : Nat) (bv : Value) (bs : List Nat) (l : Lk) (S : Nat → Prop) (w : World) (ho : okLk l) (hb : SliceAt w bv bs.length 1 (bC bs)) (h : LinkAt S w p l) :
    Calls Try.prog 15 #[.pointer (some ⟨p, 0, none⟩), bv] w fun e w' => e = .returned (.tuple #[.int .u64 (sendN l bs : Int), .int .i64 (sendE l bs)]) ∧ ∃ S', LinkAt S' w' p (sendL l bs) ∧ Grew w S S' ∧ w.grownBy w' (some p) := by
  have hn : 0 < l.nx := ho.nx.1
  have hlen : bs.length ≤ 9223372036854775807 := by obtain ⟨_, _, _, _, hx, _⟩ := hb; omega
  cases ht : txt bs
  · have e1 : sendE l bs = 3 := by unfold sendE; rw [ht]; rfl
    have e2 : sendN l bs = 0 := by unfold sendN; rw [e1]; rfl
    have e3 : sendL l bs = l := by unfold sendL; rw [e1]; rfl
    rw [e1, e2, e3]
    obtain ⟨ad, cap, rfl⟩ := row_one hb
    refine (lsend_no p ad cap bs l S w hn hlen ht h).mono ?_
    rintro _ _ ⟨rfl, rfl⟩
    exact ⟨rfl, S, h, Grew.refl _ _, grown_refl _ _⟩
  · by_cases hf : l.q.length < 250 ∧ l.nx ≤ 1099511627776
    · have e1 : sendE l bs = 0 := by unfold sendE; rw [ht, if_pos rfl, if_pos hf]
      have e2 : sendN l bs = l.nx := by unfold sendN; rw [e1]; rfl
      have e3 : sendL l bs = ⟨l.nx + 1, l.ex, l.q ++ [bs]⟩ := by unfold sendL; rw [e1]; rfl
      rw [e1, e2, e3]
      exact lsend_yes p bv bs l S w hn ht hf.1 hf.2 hb h
    · have e1 : sendE l bs = 5 := by unfold sendE; rw [ht, if_pos rfl, if_neg hf]
      have e2 : sendN l bs = 0 := by unfold sendN; rw [e1]; rfl
      have e3 : sendL l bs = l := by unfold sendL; rw [e1]; rfl
      rw [e1, e2, e3]
      obtain ⟨ad, cap, rfl⟩ := row_one hb
      refine (lsend_full p ad cap bs l S w hn hlen ht hf h).mono ?_
      rintro _ _ ⟨rfl, rfl⟩
      exact ⟨rfl, S, h, Grew.refl _ _, grown_refl _ _⟩
theorem lackd_any (p s : Nat) (l : Lk) (S : Nat → Prop) (w : World) (ho : okLk l) (hs : s < 18446744073709551616) (h : LinkAt S w p l) :
    Calls Try.prog 17 #[.pointer (some ⟨p, 0, none⟩), .int .u64 (s : Int)] w fun e w' => e = .returned (.tuple #[.int .i64 (ackN l s : Int), .int .i64 (ackE l s)]) ∧ ∃ S', LinkAt S' w' p (ackL l s) ∧ Grew w S S' ∧ w.grownBy w' (some p) :=
  lacked_any p s l S w hs (by have := ho.nx; omega) ho.few.1 (by have := ho.few; omega) h
theorem ltakd_any (p s : Nat) (l : Lk) (S : Nat → Prop) (w : World) (ho : okLk l) (hs : s < 18446744073709551616) (h : LinkAt S w p l) :
    Calls Try.prog 19 #[.pointer (some ⟨p, 0, none⟩), .int .u64 (s : Int)] w fun e w' => e = .returned (.tuple #[.bool (takeB l s), .int .i64 (takeE l s)]) ∧ LinkAt S w' p (takeL l s) ∧ w.grownBy w' (some p) :=
  ltake_any p s l S w hs ho.nx.1 (by have := ho.ex; omega) h

set_option maxRecDepth 100000 in
set_option maxHeartbeats 3200000 in
theorem ldo_any (p : Nat) (o : LOp) (l : Lk) (S : Nat → Prop) (w : World) (ho : okLk l) (hop : LOpOk w o) (h : LinkAt S w p l) :
    Calls Try.prog 29 #[.pointer (some ⟨p, 0, none⟩), .agg (opA o)] w fun e w' => e = .returned (.int .i64 (doE l o)) ∧ ∃ S', LinkAt S' w' p (doL l o) ∧ Grew w S S' ∧ w.grownBy w' (some p) := by
  obtain ⟨kind, seq, ad, cap, bs⟩ := o
  obtain ⟨hsl, hby, hsq⟩ := hop
  have hsl : SliceAt w (.slice ad bs.length cap) bs.length 1 (bC bs) := hsl
  have hsq : seq < 18446744073709551616 := hsq
  show Calls Try.prog 29 #[.pointer (some ⟨p, 0, none⟩), .agg #[.int .i64 kind, .int .u64 (seq : Int), .slice ad bs.length cap]] w _
  have hbA := belA (bel0 w) (.cells #[.int .i64 kind, .int .u64 (seq : Int), .slice ad bs.length cap] 32)
  have h1 := h.below hbA
  have hsl1 := hsl.below hbA
  have hg1 := below_grown hbA (some p)
  have hgr : ∀ w2, World.grownBy (w.alloc (.cells #[.int .i64 kind, .int .u64 (seq : Int), .slice ad bs.length cap] 32)) w2 (some p) → w.grownBy w2 (some p) := fun w2 hg => grown_trans hg1 hg
  have hGr : ∀ S', Grew (w.alloc (.cells #[.int .i64 kind, .int .u64 (seq : Int), .slice ad bs.length cap] 32)) S S' → Grew w S S' := fun S' hG b hb => by
    rcases hG b hb with h | h
    · exact .inl h
    · have := hbA.size
      exact .inr (by omega)
  by_cases k0 : kind = 0
  · subst k0
    have e1 : doE l ⟨0, seq, ad, cap, bs⟩ = sendE l bs := rfl
    have e2 : doL l ⟨0, seq, ad, cap, bs⟩ = sendL l bs := rfl
    rw [e1, e2]
    clear e1 e2
    go_enter Try.func29, Try.ntmps29
    go_wp2_with fail
    refine (lsend_any p _ bs l S _ ho hsl1 h1).mono ?_
    rintro _ w2 ⟨rfl, S2, hL2, hG2, hg2⟩
    have hfin := hidP (And.intro hL2 (And.intro (hGr _ hG2) (hgr _ hg2)))
    clear hL2 hG2 hg2
    go_wp2
    go_ret
    exact ⟨rfl, S2, hfin.out⟩
  · by_cases k1 : kind = 1
    · subst k1
      have e1 : doE l ⟨1, seq, ad, cap, bs⟩ = ackE l seq := rfl
      have e2 : doL l ⟨1, seq, ad, cap, bs⟩ = ackL l seq := rfl
      rw [e1, e2]
      clear e1 e2 k0
      go_enter Try.func29, Try.ntmps29
      go_wp2_with fail
      refine (lackd_any p seq l S _ ho hsq h1).mono ?_
      rintro _ w2 ⟨rfl, S2, hL2, hG2, hg2⟩
      have hfin := hidP (And.intro hL2 (And.intro (hGr _ hG2) (hgr _ hg2)))
      clear hL2 hG2 hg2
      go_wp2
      go_ret
      exact ⟨rfl, S2, hfin.out⟩
    · by_cases k2 : kind = 2
      · subst k2
        have e1 : doE l ⟨2, seq, ad, cap, bs⟩ = takeE l seq := rfl
        have e2 : doL l ⟨2, seq, ad, cap, bs⟩ = takeL l seq := rfl
        rw [e1, e2]
        clear e1 e2 k0 k1
        go_enter Try.func29, Try.ntmps29
        go_wp2_with fail
        refine (ltakd_any p seq l S _ ho hsq h1).mono ?_
        rintro _ w2 ⟨rfl, hL2, hg2⟩
        have hfin := hidP (And.intro hL2 (hgr _ hg2))
        clear hL2 hg2
        go_wp2
        go_ret
        exact ⟨rfl, S, hfin.out.1, Grew.refl _ _, hfin.out.2⟩
      · have e1 : doE l ⟨kind, seq, ad, cap, bs⟩ = 0 := by unfold doE; rw [if_neg k0, if_neg k1, if_neg k2]
        have e2 : doL l ⟨kind, seq, ad, cap, bs⟩ = l := by unfold doL; rw [if_neg k0, if_neg k1, if_neg k2]
        rw [e1, e2]
        have d0 : (kind == 0) = false := beq_eq_false_iff_ne.2 k0
        have d1 : (kind == 1) = false := beq_eq_false_iff_ne.2 k1
        have d2 : (kind == 2) = false := beq_eq_false_iff_ne.2 k2
        clear e1 e2
        go_enter Try.func29, Try.ntmps29
        go_wp2
        go_ret
        exact ⟨rfl, S, h1, Grew.refl _ _, hg1⟩
end Go.Proofs.Ytnpofcnibgdjhaa
