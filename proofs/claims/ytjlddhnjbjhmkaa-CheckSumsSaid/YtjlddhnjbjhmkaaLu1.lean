/- Layer 6: what jumps make of two ranges. -/
import Derived.Test.YtjlddhnjbjhmkaaLw0
import Derived.BigQuiet
set_option linter.unusedVariables false
set_option linter.unusedSimpArgs false
namespace Go.Proofs.Ytjlddhnjbjhmkaa
open Go.RowKit

theorem Kp.below_of {w W W1 : World} {g : Nat} (hb : Below w.heap.size w W) (hk : Kp (fun b => b = g) W W1) (hg : w.heap.size ≤ g) : Below w.heap.size w W1 :=
  hb.trans ((⟨hk.os, hk.tape, hk.output, hk.size, fun b hbs => hk.block b (Nat.lt_of_lt_of_le hbs hb.size) (by omega)⟩ : Below w.heap.size W W1))

theorem jumps_may (I : Nat) (hI : I < 4294967296) : mayB ⟨20, 3, 0, 1, I⟩ = true ∧ mayB ⟨21, 3, 0, 1, I⟩ = true ∧ mayB ⟨22, 3, 4, 1, 0⟩ = true ∧ mayB ⟨22, 3, 3, 1, 0⟩ = true := by
  refine ⟨?_, ?_, rfl, rfl⟩ <;> (simp [mayB, mayN, withinB, uD, uS, uO, uI, usesN, mostN]; omega)
theorem two_right (x y dl dg sl sg : Nat) (h1 : dl ≤ dg) (h2 : dg < 4294967296) (h3 : sl ≤ sg) (h4 : sg < 4294967296) : (Kn.mk true (upd (upd (fun _ => rg0) x ⟨true, dl, dg⟩) y ⟨true, sl, sg⟩)).right := by
  intro n
  show (upd (upd (fun _ => rg0) x ⟨true, dl, dg⟩) y ⟨true, sl, sg⟩ n).ok
  unfold upd
  by_cases h5 : n = y
  · rw [if_pos h5]; exact ⟨h3, by show sg ≤ _; omega, fun h => by cases h⟩
  · rw [if_neg h5]
    by_cases h2 : n = x
    · rw [if_pos h2]; exact ⟨h1, by show dg ≤ _; omega, fun h => by cases h⟩
    · rw [if_neg h2]; exact ⟨Nat.le_refl _, Nat.zero_le _, fun _ => ⟨rfl, rfl⟩⟩

set_option maxRecDepth 100000 in
set_option maxHeartbeats 2000000 in
theorem jumps_out (w : World) (d s : Rg) (A B I : Nat) (hout : d.s = false ∨ s.s = false ∨ d.g < d.l ∨ s.g < s.l) :
    Calls Try.prog 5 #[.agg #[.bool d.s, .int .u32 (d.l : Int), .int .u32 (d.g : Int)], .agg #[.bool s.s, .int .u32 (s.l : Int), .int .u32 (s.g : Int)], .agg #[.int .u32 (A : Int), .int .u32 (B : Int), .int .u32 (I : Int)]] w fun e w' => e = .returned (.bool true) ∧ Below w.heap.size w w' := by
  have HKN := Lib.hid lawknown_ok
  have HB0 : Hid (Below w.heap.size w (((w.alloc (.cells #[.bool d.s, .int .u32 (d.l : Int), .int .u32 (d.g : Int)] 37)).alloc (.cells #[.bool s.s, .int .u32 (s.l : Int), .int .u32 (s.g : Int)] 37)).alloc (.cells #[.int .u32 (A : Int), .int .u32 (B : Int), .int .u32 (I : Int)] 52))) := Lib.hid ((((Below.refl _ _).alloc (Nat.le_refl _) _).alloc (by simp) _).alloc (by simp <;> omega) _)
  go_enter Try.func5, Try.ntmps5
  obtain ⟨ds, dl, dg⟩ := d
  obtain ⟨ss, sl, sg⟩ := s
  cases ds with
  | false =>
    go_wp2_with (go_at_call 11; (with_reducible refine (HKN.out _).mono ?_); rintro e' W9 ⟨rfl, hb9⟩; have HB9 := Lib.hid hb9; clear hb9)
    go_ret
    exact ⟨rfl, HB0.out.trans (HB9.out.mono HB0.out.size)⟩
  | true =>
    cases ss with
    | false =>
      go_wp2_with (go_at_call 11; (with_reducible refine (HKN.out _).mono ?_); rintro e' W9 ⟨rfl, hb9⟩; have HB9 := Lib.hid hb9; clear hb9)
      go_ret
      exact ⟨rfl, HB0.out.trans (HB9.out.mono HB0.out.size)⟩
    | true =>
      by_cases h1 : dg < dl
      · have hy : (dg : Int) < (dl : Int) := by omega
        go_wp2_with (go_at_call 11; (with_reducible refine (HKN.out _).mono ?_); rintro e' W9 ⟨rfl, hb9⟩; have HB9 := Lib.hid hb9; clear hb9)
        go_ret
        exact ⟨rfl, HB0.out.trans (HB9.out.mono HB0.out.size)⟩
      have hy0 : ¬ (dg : Int) < (dl : Int) := by omega
      have hy1 : (sg : Int) < (sl : Int) := by
        rcases hout with h | h | h | h
        · cases h
        · cases h
        · exact absurd h h1
        · have h : sg < sl := h
          omega
      go_wp2_with (go_at_call 11; (with_reducible refine (HKN.out _).mono ?_); rintro e' W9 ⟨rfl, hb9⟩; have HB9 := Lib.hid hb9; clear hb9)
      go_ret
      exact ⟨rfl, HB0.out.trans (HB9.out.mono HB0.out.size)⟩
end Go.Proofs.Ytjlddhnjbjhmkaa
