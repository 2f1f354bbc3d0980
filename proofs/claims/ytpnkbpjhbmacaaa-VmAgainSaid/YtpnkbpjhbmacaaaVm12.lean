/- The VM: what may be. -/
import Derived.Test.YtpnkbpjhbmacaaaVm11
set_option linter.unusedVariables false
set_option linter.unusedSimpArgs false
namespace Go.Proofs.Ytpnkbpjhbmacaaa
open Go.RowKit

def withinB (u : Bool) (n l g : Int) : Bool := (!u && decide (n = 0)) || (u && decide (l ≤ n) && decide (n ≤ g))
theorem within_ok (w : World) (u : Bool) (n l g : Int) :
    Calls Try.prog 48 #[.bool u, .int .i64 n, .int .i64 l, .int .i64 g] w fun e w' => e = .returned (.bool (withinB u n l g)) ∧ w = w' := by
  cases u
  · by_cases h1 : n = 0
    · have e : (n == 0) = true := by simp [h1]
      have H := Lib.hid h1; clear h1
      go_enter Try.func48, Try.ntmps48
      go_wp2
      go_ret
      exact ⟨by simp [withinB, H.out], rfl⟩
    · have e : (n == 0) = false := by simp [h1]
      go_enter Try.func48, Try.ntmps48
      go_wp2
      go_ret
      exact ⟨by simp [withinB, h1], rfl⟩
  · by_cases h2 : l ≤ n
    · by_cases h3 : n ≤ g
      · go_enter Try.func48, Try.ntmps48
        go_wp2
        go_ret
        exact ⟨by simp [withinB, h2, h3], rfl⟩
      · go_enter Try.func48, Try.ntmps48
        go_wp2
        go_ret
        exact ⟨by simp [withinB, h2, h3], rfl⟩
    · go_enter Try.func48, Try.ntmps48
      go_wp2
      go_ret
      exact ⟨by simp [withinB]; omega, rfl⟩
end Go.Proofs.Ytpnkbpjhbmacaaa
