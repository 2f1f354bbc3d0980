/- The chapter's rows. -/
import Derived.Test.YtmajfiljajbipaaDsk7
import Derived.Test.YtmajfiljajbipaaStr
set_option linter.unusedVariables false
namespace Go.Proofs.Ytmajfiljajbipaa
open Go.RowKit

theorem lit2 (w : World) (a b : UInt8) (x y : Int) (ha : (a.toNat : Int) = x) (hb : (b.toNat : Int) = y) : By (w.alloc (.cells #[.int .u8 x, .int .u8 y] 5)) Any (some ⟨w.heap.size, 0, none⟩) 2 2 [a, b] := by
  subst ha; subst hb
  exact Sl.lit w _ 1 #[.int .u8 (a.toNat : Int), .int .u8 (b.toNat : Int)] 2 (by simp [maxLen]) rfl

theorem by_own {w : World} {base n c : Nat} {A : Option Addr} {l : List UInt8} (h : w.ownsRow base 5 1 (.slice A n c) n (bv l)) : By w Any A n c l := by
  obtain ⟨A2, c2, he, hs⟩ := Sl.of_own (ok := Any) h (fun _ _ _ => trivial)
  injection he with he1 he2 he3
  subst he1; subst he3
  exact hs
/-- The disk of the chapter's rows, step by step. -/
def rowD1 : Dk := ⟨[1, 2, 0], [0, 0, 0], [(0, [1, 2])], 1, -1⟩
def rowD2 : Dk := ⟨[1, 2, 0], [1, 2, 0], [], 2, -1⟩
def rowD3 : Dk := ⟨[1, 8, 9], [1, 2, 0], [(1, [8, 9])], 3, -1⟩
def rowD4 : Dk := ⟨[1, 8, 9], [1, 2, 0], [(1, [8, 9])], 3, 1⟩
def rowD5 : Dk := ⟨[1, 8, 9], [1, 8, 9], [], 4, 0⟩
theorem row1 : (Dk.of (List.replicate 3 0)).wr 0 [1, 2] = (rowD1, 0) := by kernel_rfl
theorem row2 : rowD1.fl = (rowD2, 0) := by kernel_rfl
theorem row3 : rowD2.wr 1 [8, 9] = (rowD3, 0) := by kernel_rfl
theorem row4 : rowD3.wr 2 [5, 6] = (rowD3, 4) := rfl
theorem row5 : rowD3.crash 0 1 = Dk.of [1, 8, 0] := rfl
theorem row6 : rowD3.arm 1 = rowD4 := rfl
theorem row7 : rowD4.fl = (rowD5, 0) := by kernel_rfl
theorem row8 : rowD5.fl = (rowD5, 180) := rfl

set_option maxHeartbeats 1000000 in
theorem works_ok (w : World) : Calls Try.prog 12 #[] w fun e w' => e = .returned (.bool true) ∧ Below w.heap.size w w' := by
  go_enter Try.func12, Try.ntmps12
  go_wp2_with fail
  refine (new_S w 3 (by omega) (by omega)).mono ?_
  rintro e w1 ⟨p, S1, rfl, hd1, hS1, hb1⟩
  go_wp2_with fail
  have hd1' := hd1.below ((Below.refl _ w1).alloc (Nat.le_refl _) (.cells #[.int .u8 1, .int .u8 2] 5))
  have hb1' := hb1.alloc hb1.size (.cells #[.int .u8 1, .int .u8 2] 5)
  have C := write_S hd1' 0 _ 2 2 [1, 2] (lit2 w1 1 2 1 2 rfl rfl) (by decide)
  rw [row1] at C
  refine C.mono ?_
  rintro e w2 ⟨rfl, S2, hd2, hk2, hS2⟩
  have hb2 := chg_below hb1' hk2 hb1'.size hS1
  replace hS2 := from_chg hS1 hb1'.size hS2
  clear C hd1 hd1' hb1 hb1' hk2 hS1
  go_wp2_with fail
  have C := flush_S hd2
  rw [row2] at C
  refine C.mono ?_
  rintro e w3 ⟨rfl, S3, hd3, hk3, hS3⟩
  have hb3 := chg_below hb2 hk3 hb2.size hS2
  replace hS3 := from_chg hS2 hb2.size hS3
  clear C hd2 hb2 hk3 hS2
  go_wp2_with fail
  have hd3' := hd3.below ((Below.refl _ w3).alloc (Nat.le_refl _) (.cells #[.int .u8 8, .int .u8 9] 5))
  have hb3' := hb3.alloc hb3.size (.cells #[.int .u8 8, .int .u8 9] 5)
  have C := write_S hd3' 1 _ 2 2 [8, 9] (lit2 w3 8 9 8 9 rfl rfl) (by decide)
  rw [row3] at C
  refine C.mono ?_
  rintro e w4 ⟨rfl, S4, hd4, hk4, hS4⟩
  have hb4 := chg_below hb3' hk4 hb3'.size hS3
  replace hS4 := from_chg hS3 hb3'.size hS4
  clear C hd3 hd3' hb3 hb3' hk4 hS3
  go_wp2_with fail
  have hd4' := hd4.below ((Below.refl _ w4).alloc (Nat.le_refl _) (.cells #[.int .u8 5, .int .u8 6] 5))
  have hb4' := hb4.alloc hb4.size (.cells #[.int .u8 5, .int .u8 6] 5)
  have C := write_S hd4' 2 _ 2 2 [5, 6] (lit2 w4 5 6 5 6 rfl rfl) (by decide)
  rw [row4] at C
  refine C.mono ?_
  rintro e w5 ⟨rfl, S5, hd5, hk5, hS5⟩
  have hb5 := chg_below hb4' hk5 hb4'.size hS4
  replace hS5 := from_chg hS4 hb4'.size hS5
  clear C hd4 hd4' hb4 hb4' hk5 hS4
  go_wp2_with fail
  have C := crash_S hd5 0 1 (by decide)
  rw [row5] at C
  refine C.mono ?_
  rintro e w6 ⟨q, T, rfl, hq6, hT, hb56⟩
  have hd6 := hd5.below hb56
  have hb6 := hb5.trans (hb56.mono hb5.size)
  have ha6 : ∀ k, T k → ¬ S5 k := fun k h1 h2 => by have := hT k h1; have := hd5.1 k h2; omega
  clear C hd5 hb5 hb56 hT
  go_wp2_with fail
  obtain ⟨fp, hf, hdk⟩ := hd6.2
  refine (read_disk hdk 0 3 (by decide)).mono ?_
  rintro e w7 ⟨A7, c7, rfl, hown7, hb67⟩
  have hd7 := hd6.below hb67
  have hq7 := hq6.below hb67
  have hb7 := hb6.trans (hb67.mono hb6.size)
  have hby7 : By w7 (fun k => w6.heap.size ≤ k ∧ k < w7.heap.size) A7 3 c7 [1, 8, 9] := by
    obtain ⟨A2, c2, he, hs⟩ := Sl.of_own (ok := fun k => w6.heap.size ≤ k ∧ k < w7.heap.size) hown7 (fun k hk hlt => ⟨(hown7.lt k hk).1, hlt⟩)
    injection he with he1 he2 he3
    subst he1; subst he3
    exact hs
  have hA7 : ∀ k, (w6.heap.size ≤ k ∧ k < w7.heap.size) → ¬ S5 k := fun k h1 h2 => by have := hd6.1 k h2; omega
  clear hd6 hq6 hb6 hf hdk
  go_wp2_with fail
  have C := arm_S hd7 1
  rw [row6] at C
  refine C.mono ?_
  rintro e w8 ⟨rfl, S8, hd8, hk8, hS8⟩
  have hb8 := chg_below hb7 hk8 hb7.size hS5
  have hq8 := hq7.move hk8 ha6
  have ha8 := apart_chg hq7.1 ha6 hS8
  have hby8 := Sl.move hby7 (Mv.of_kp hk8 (fun k _ h => hA7 k h))
  have hA8 := apart_chg (fun k h => h.2) hA7 hS8
  replace hS8 := from_chg hS5 hb7.size hS8
  clear C hd7 hb7
  go_wp2_with fail
  have C := flush_S hd8
  rw [row7] at C
  refine C.mono ?_
  rintro e w9 ⟨rfl, S9, hd9, hk9, hS9⟩
  have hb9 := chg_below hb8 hk9 hb8.size hS8
  have hq9 := hq8.move hk9 ha8
  have ha9 := apart_chg hq8.1 ha8 hS9
  have hby9 := Sl.move hby8 (Mv.of_kp hk9 (fun k _ h => hA8 k h))
  have hA9 := apart_chg (fun k h => Nat.lt_of_lt_of_le h.2 hk8.size) hA8 hS9
  replace hS9 := from_chg hS8 hb8.size hS9
  clear C hd8 hb8
  go_wp2_with fail
  have C := flush_S hd9
  rw [row8] at C
  refine C.mono ?_
  rintro e w10 ⟨rfl, S10, hd10, hk10, hS10⟩
  have hb10 := chg_below hb9 hk10 hb9.size hS9
  have hq10 := hq9.move hk10 ha9
  replace hS10 := from_chg hS9 hb9.size hS10
  have hby10 : By w10 _ A7 3 c7 [1, 8, 9] := Sl.move hby9 (Mv.of_kp hk10 (fun k _ h => hA9 k h))
  have kc := conv_by 38 9 5 Try.underlying38 Try.underlying5 Try.underlying9 w10 A7 3 c7 _ hby10
  obtain ⟨fq, hfq, hdq⟩ := hq10.2
  have L : Calls Try.prog 20 #[.pointer (some ⟨q,0,none⟩)] w10 fun e w' => ∃ A c, e = .returned (.slice A 3 c) ∧ w'.ownsRow w10.heap.size 5 1 (.slice A 3 c) 3 (bv [1, 8, 0]) ∧ Below w10.heap.size w10 w' := lasts_disk hdq
  clear C hd9 hb9 hk10 hS8 hS9 hby7 hby8 hby9 hA7 hA8 hA9 ha6 ha8 ha9 hk8 hk9 hq7 hq8 hq9
  go_wp2_with (first | (go_at_call 17; refine (num_any _ _).mono ?_; rintro e w' ⟨rfl, rfl⟩) | (go_at_call 20; refine L.mono ?_; rintro e w11 ⟨A11, c11, rfl, hown11, hb11⟩; have kc2 := conv_by 38 9 5 Try.underlying38 Try.underlying5 Try.underlying9 w11 A11 3 c11 [1, 8, 0] (by_own hown11); obtain ⟨fd, hfd, hdd⟩ := (hd10.below hb11).2) | (go_at_call 18; refine (steps_disk hdd).mono ?_; rintro e w' ⟨rfl, rfl⟩))
  go_ret
  exact ⟨rfl, hb10.trans (hb11.mono hb10.size)⟩
end Go.Proofs.Ytmajfiljajbipaa
