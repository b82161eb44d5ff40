/- Read: a deferred function that catches a fault; a closure that reads. -/
import Derived.Test.YtnpofcnibgdjhaaWirG
import Derived.Defers
import Derived.Recover
import Derived.Laws.Pointers
namespace Go.Proofs.Ytnpofcnibgdjhaa
open Go.RowKit

set_option maxRecDepth 100000 in
theorem caught_idle (p : Addr) (w : World) :
    CallsD Try.prog 108 #[.pointer (some p)] .returning w fun e u' w' => e = .returned (.tuple #[]) ∧ u' = .returning ∧ w' = w := by
  refine callsD_of_wpS Try.func108 rfl fun c₀ cs hu => ?_
  apply wpS_seq
  apply wpS_region
  simp [wpOpsS, go_sem, recoverD, hu, Try.ntmps108, Exit.thenS]
  refine wpS_of_wp ?_
  have ht : (#[Value.pointer (some p)] ++ ((Array.replicate 19 undef).setIfInBounds 4 .nilIface).setIfInBounds 1 .nilIface) = #[.pointer (some p), undef, .nilIface, undef, undef, .nilIface, undef, undef, undef, undef, undef, undef, undef, undef, undef, undef, undef, undef, undef, undef] := by simp [Array.replicate, List.replicate]
  rw [ht]
  clear ht
  go_wp2
  cases c₀
  simp_all [bodyPostS, results, Try.results108]

@[go_sem] theorem assert_fault (v : Value) (w : World) : (Instr.typeAssert (.iface 176 v) 20 176 true).run Try.prog w = .ok (.tuple #[v, .bool true]) w := by kernel_rfl

set_option maxRecDepth 100000 in
theorem caught_panicking (b : Nat) (x : Value) (k : Int) (older : List PanicEntry) (w : World) (hl : look w b = some (.cells #[x] 34 (0, 0))) :
    CallsD Try.prog 108 #[.pointer (some ⟨b, 0, none⟩)] (.panicking ({ v := .iface 176 (.agg #[.int .i64 k]), recovered := false } :: older)) w fun e u' w' =>
      e = .returned (.tuple #[]) ∧ u' = .panicking ({ v := .iface 176 (.agg #[.int .i64 k]), recovered := true } :: older) ∧ w' = (w.alloc (.cells #[.int .i64 k] 176)).setCell ⟨b, 0, none⟩ (.int .i64 k) := by
  have hl2 : look (w.alloc (.cells #[.int .i64 k] 176)) b = some (.cells #[x] 34 (0, 0)) := by rw [look_below (belA (bel0 w) _) (look_lt hl)]; exact hl
  have hc : (w.alloc (.cells #[.int .i64 k] 176)).cell? ⟨b, 0, none⟩ = some x := by rw [look_cell hl2]; rfl
  have hz := look_frozen hl2 0
  refine callsD_of_wpS Try.func108 rfl fun c₀ cs hu => ?_
  apply wpS_seq
  apply wpS_region
  simp [wpOpsS, go_sem, recoverD, hu, Try.ntmps108, Exit.thenS]
  refine wpS_of_wp ?_
  have ht : (#[Value.pointer (some ⟨b, 0, none⟩)] ++ ((Array.replicate 19 undef).setIfInBounds 4 (Value.iface 176 (.agg #[.int .i64 k]))).setIfInBounds 1 (Value.iface 176 (.agg #[.int .i64 k]))) = #[.pointer (some ⟨b, 0, none⟩), undef, (Value.iface 176 (.agg #[.int .i64 k])), undef, undef, (Value.iface 176 (.agg #[.int .i64 k])), undef, undef, undef, undef, undef, undef, undef, undef, undef, undef, undef, undef, undef, undef] := by simp [Array.replicate, List.replicate]
  rw [ht]
  clear ht
  go_wp2
  simp [bodyPostS, results, Try.results108]
end Go.Proofs.Ytnpofcnibgdjhaa
