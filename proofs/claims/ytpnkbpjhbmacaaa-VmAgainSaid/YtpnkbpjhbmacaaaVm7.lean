/- The VM: the deferred closure of goes. -/
import Derived.Test.YtpnkbpjhbmacaaaVm6
import Derived.Defers
import Derived.Recover
set_option linter.unusedVariables false
set_option linter.unusedSimpArgs false
namespace Go.Proofs.Ytpnkbpjhbmacaaa
open Go.RowKit

theorem stop_is (why : Int) (w : World) : (binOp .eql 20 (.iface 109 (.agg #[.int .i64 why])) .nilIface).run Try.prog w = .ok (.bool false) w := by kernel_rfl
theorem stop_none (w : World) : (binOp .eql 20 .nilIface .nilIface).run Try.prog w = .ok (.bool true) w := by kernel_rfl
theorem stop_as (v : Value) (w : World) : (Instr.typeAssert (.iface 109 v) 20 109 true).run Try.prog w = .ok (.tuple #[v, .bool true]) w := by kernel_rfl

theorem catch_idle (b : Nat) (w : World) :
    CallsD Try.prog 42 #[.pointer (some ⟨b, 0, none⟩)] .returning w fun e u' w' => e = .returned (.tuple #[]) ∧ u' = .returning ∧ w' = w := by
  have h1 := stop_none
  refine callsD_of_wpS Try.func42 rfl fun c₀ cs hu => ?_
  apply wpS_seq
  apply wpS_region
  simp [wpOpsS, go_sem, recoverD, hu, Try.ntmps42, Exit.thenS]
  refine wpS_of_wp ?_
  go_wp2
  cases c₀
  simp_all [bodyPostS, results, Try.results42]

set_option maxRecDepth 100000 in
set_option maxHeartbeats 200000 in
theorem catch_stop (b x : Nat) (why : Int) (w : World) (hp : w.cell? ⟨b, 0, none⟩ = some (.pointer (some ⟨x, 0, none⟩))) {c : Value} (hc : w.cell? ⟨x, 26, none⟩ = some c) (hf : w.frozen? ⟨x, 26, none⟩ = false) (hx : x < w.heap.size) (hb : b < w.heap.size) :
    CallsD Try.prog 42 #[.pointer (some ⟨b, 0, none⟩)] (.panicking (stopP why)) w fun e u' w' =>
      e = .returned (.tuple #[]) ∧ settle u' = .returning ∧ w' = (w.setCell ⟨x, 26, none⟩ (.int .i64 why)).alloc (.cells #[.int .i64 why] 109) := by
  unfold stopP
  refine callsD_of_wpS Try.func42 rfl fun c₀ cs hu => ?_
  apply wpS_seq
  apply wpS_region
  simp [wpOpsS, go_sem, recoverD, hu, Try.ntmps42, Exit.thenS]
  have HU := Lib.hid hu; clear hu
  refine wpS_of_wp ?_
  rw [show (#[Value.pointer (some ⟨b, 0, none⟩)] ++ (Array.replicate 15 undef).setIfInBounds 3 (Value.iface 109 (Value.agg #[Value.int IntKind.i64 why]))) = #[Value.pointer (some ⟨b, 0, none⟩), undef, undef, undef, Value.iface 109 (Value.agg #[Value.int IntKind.i64 why]), undef, undef, undef, undef, undef, undef, undef, undef, undef, undef, undef] from rfl]
  have h1 := stop_is why
  have h2 := stop_as
  go_wp2
  cases c₀
  simp [bodyPostS, results, Try.results42, settle, go_sem]
end Go.Proofs.Ytpnkbpjhbmacaaa
