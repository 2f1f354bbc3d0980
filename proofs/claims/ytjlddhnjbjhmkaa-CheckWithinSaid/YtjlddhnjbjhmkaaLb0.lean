/- Layer 6: bytes of memory at their bounds. -/
import Derived.Test.YtjlddhnjbjhmkaaLj
import Derived.BigQuiet
set_option linter.unusedVariables false
set_option linter.unusedSimpArgs false
namespace Go.Proofs.Ytjlddhnjbjhmkaa
open Go.RowKit

set_option maxRecDepth 100000 in
set_option maxHeartbeats 2000000 in
theorem bounds_out (w : World) (r : Rg) (off ctx : Int) (hl : r.l < 4294967296) (hg : r.g < 4294967296) (hc1 : -9223372036854775808 ≤ ctx ∧ ctx ≤ 9223372036854775807) (ho1 : -9223372036854775808 ≤ off ∧ off ≤ 9223372036854775807) (hout : r.s = false ∨ r.g < r.l ∨ off < -32768 ∨ 32767 < off ∨ ctx < 0 ∨ 256 < ctx) :
    Calls Try.prog 6 #[.agg #[.bool r.s, .int .u32 (r.l : Int), .int .u32 (r.g : Int)], .int .i64 off, .int .i64 ctx] w fun e w' => e = .returned (.bool true) ∧ Below w.heap.size w w' := by
  have HKN := Lib.hid lawknown_ok
  have HB0 : Hid (Below w.heap.size w (w.alloc (.cells #[.bool r.s, .int .u32 (r.l : Int), .int .u32 (r.g : Int)] 37))) := Lib.hid ((Below.refl _ _).alloc (Nat.le_refl _) _)
  go_enter Try.func6, Try.ntmps6
  obtain ⟨s, l, g⟩ := r
  cases s with
  | false =>
    go_wp2_with (go_at_call 11; (with_reducible refine (HKN.out _).mono ?_); rintro e' W9 ⟨rfl, hb9⟩; have HB9 := Lib.hid hb9; clear hb9)
    go_ret
    exact ⟨rfl, HB0.out.trans (HB9.out.mono HB0.out.size)⟩
  | true =>
    by_cases hx0 : g < l
    · have hy : (g : Int) < (l : Int) := by omega
      go_wp2_with (go_at_call 11; (with_reducible refine (HKN.out _).mono ?_); rintro e' W9 ⟨rfl, hb9⟩; have HB9 := Lib.hid hb9; clear hb9)
      go_ret
      exact ⟨rfl, HB0.out.trans (HB9.out.mono HB0.out.size)⟩
    have hy0 : ¬ (g : Int) < (l : Int) := by omega
    by_cases hx1 : off < -32768
    · skip
      go_wp2_with (go_at_call 11; (with_reducible refine (HKN.out _).mono ?_); rintro e' W9 ⟨rfl, hb9⟩; have HB9 := Lib.hid hb9; clear hb9)
      go_ret
      exact ⟨rfl, HB0.out.trans (HB9.out.mono HB0.out.size)⟩
    by_cases hx2 : 32767 < off
    · skip
      go_wp2_with (go_at_call 11; (with_reducible refine (HKN.out _).mono ?_); rintro e' W9 ⟨rfl, hb9⟩; have HB9 := Lib.hid hb9; clear hb9)
      go_ret
      exact ⟨rfl, HB0.out.trans (HB9.out.mono HB0.out.size)⟩
    by_cases hx3 : ctx < 0
    · skip
      go_wp2_with (go_at_call 11; (with_reducible refine (HKN.out _).mono ?_); rintro e' W9 ⟨rfl, hb9⟩; have HB9 := Lib.hid hb9; clear hb9)
      go_ret
      exact ⟨rfl, HB0.out.trans (HB9.out.mono HB0.out.size)⟩
    have hx5 : 256 < ctx := by
      rcases hout with h | h | h | h | h | h
      · cases h
      · exact absurd h hx0
      · exact absurd h hx1
      · exact absurd h hx2
      · exact absurd h hx3
      · exact h
    go_wp2_with (go_at_call 11; (with_reducible refine (HKN.out _).mono ?_); rintro e' W9 ⟨rfl, hb9⟩; have HB9 := Lib.hid hb9; clear hb9)
    go_ret
    exact ⟨rfl, HB0.out.trans (HB9.out.mono HB0.out.size)⟩
end Go.Proofs.Ytjlddhnjbjhmkaa
