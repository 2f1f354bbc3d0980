/- DiskPlays: the walk. -/
import Derived.Test.YtmajfiljajbipaaPlayed08
set_option linter.unusedVariables false
set_option linter.unusedSimpArgs false
namespace Go.Proofs.Ytmajfiljajbipaa
open Go.RowKit

set_option maxHeartbeats 1000000 in
theorem plays_walk (w : World) (size : Int) (A : Option Addr) (c : Nat) (xs : List Act8) (hs : Script w A c xs) (hl : xs.length ≤ 9223372036854775807) :
    Calls Try.prog 5 #[.int .i64 size, .slice A xs.length c] w fun e w' => e = .returned (.bool true) ∧ Below w.heap.size w w' := by
  have LW := works_ok w
  have hcase : size < 1 ∨ (¬ size < 1 ∧ 400 < size) ∨ (¬ size < 1 ∧ ¬ 400 < size) := by omega
  rcases hcase with g1 | ⟨g1, g2⟩ | ⟨g1, g2⟩
  · go_enter Try.func5, Try.ntmps5
    go_wp2_with (go_at_call 12; refine LW.mono ?_; rintro e w1 ⟨rfl, hb⟩)
    go_ret
    exact ⟨rfl, hb⟩
  · go_enter Try.func5, Try.ntmps5
    go_wp2_with (go_at_call 12; refine LW.mono ?_; rintro e w1 ⟨rfl, hb⟩)
    go_ret
    exact ⟨rfl, hb⟩
  · obtain ⟨n, rfl⟩ : ∃ n : Nat, size = n := ⟨size.toNat, by omega⟩
    have F := few_any w A c xs hs hl
    go_enter Try.func5, Try.ntmps5
    go_wp2_with fail
    refine F.mono ?_
    rintro e w' ⟨rfl, r, rfl, hr⟩
    cases r with
    | false =>
      go_wp2_with (go_at_call 12; refine LW.mono ?_; rintro e w1 ⟨rfl, hb⟩)
      go_ret
      exact ⟨rfl, hb⟩
    | true =>
      obtain ⟨h50, h3⟩ := hr rfl
      go_wp2_with fail
      refine (played_ok w n (by omega) (by omega) A c xs hs h50 h3).mono ?_
      rintro e w1 ⟨p, S, T, v, d, rfl, hbo, hde, _, hb1, _⟩
      clear hde
      obtain ⟨LA, lc, WA, wc, wcs, rfl, _, _, _⟩ := id hbo.ref
      go_wp2_with (go_at_call 12; refine (works_ok _).mono ?_; rintro e w2 ⟨rfl, hb⟩)
      go_ret
      have hbA := hb1.alloc hb1.size (.cells #[.slice LA d.lasts.length lc, .slice WA d.waits.length wc, .int .i64 d.steps, .int .i64 d.armed] 48)
      exact ⟨rfl, hbA.trans (hb.mono hbA.size)⟩
end Go.Proofs.Ytmajfiljajbipaa
