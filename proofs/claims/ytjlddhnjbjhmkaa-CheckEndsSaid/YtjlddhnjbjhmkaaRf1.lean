/- Layer 6, the document's answer: spans, powers, ones. -/
import Derived.Test.YtjlddhnjbjhmkaaRf0
set_option linter.unusedVariables false
set_option linter.unusedSimpArgs false
namespace Go.Proofs.Ytjlddhnjbjhmkaa
open Go.RowKit

theorem refones_ok (w : World) (n : Nat) (hn : n ≤ 4294967295) : Calls Try.prog 47 #[.int .i64 (n : Int)] w fun e w' => e = .returned (.int .i64 (onesN n : Int)) ∧ w' = w := by
  have hni : (n : Int) ≤ 4294967295 := by omega
  go_enter Try.func47, Try.ntmps47
  go_wp2
  go_loopw [3] (fun i wr => ∃ m j : Nat, m = 2 ^ j - 1 ∧ j ≤ bitLen n ∧ i = .int .i64 (m : Int) ∧ wr = w) (fun i _ => n - (intOf i).toNat)
  case atStart => exact ⟨0, 0, rfl, Nat.zero_le _, rfl, rfl⟩
  case round =>
    obtain ⟨m, j, hm, hj, rfl, rfl⟩ := hrel
    have HM := Lib.hid hm; have HJ := Lib.hid hj; clear hm hj
    by_cases hlt : m < n
    · have hlt' : (m : Int) < (n : Int) := by omega
      have hmb : (m : Int) ≤ 4294967295 := by omega
      go_wp2
      go_roundw
      case rel =>
        have hp := Nat.two_pow_pos j
        have h1 : j < bitLen n := by
          rcases Nat.lt_or_ge j (bitLen n) with h | h
          · exact h
          · have e : j = bitLen n := Nat.le_antisymm HJ.out h
            have h2 := lt_ones n
            rw [← e] at h2
            have := HM.out
            omega
        exact ⟨2 * m + 1, j + 1, by rw [HM.out, Nat.pow_succ]; omega, h1, by go_num, trivial⟩
      case measure => simp [intOf]; omega
    · have hlt' : ¬ (m : Int) < (n : Int) := by omega
      have he : Hid (m = onesN n) := Lib.hid (by
        have hp := Nat.two_pow_pos j
        have h1 : bitLen n ≤ j := by
          unfold bitLen
          split
          · exact Nat.zero_le _
          · rename_i h0
            exact (Nat.log2_lt h0).2 (by have := HM.out; omega)
        have e : j = bitLen n := Nat.le_antisymm HJ.out h1
        rw [HM.out, e]; rfl)
      clear hlt
      go_wp2
      go_ret
      exact ⟨by rw [← he.out]; rfl, rfl⟩
theorem refpower_ok (w : World) (n : Nat) (hn : n ≤ 31) : Calls Try.prog 48 #[.int .i64 (n : Int)] w fun e w' => e = .returned (.int .i64 (2 ^ n : Nat)) ∧ w' = w := by
  have hni : (n : Int) ≤ 31 := by omega
  go_enter Try.func48, Try.ntmps48
  go_wp2
  go_loopw [3, 4] (fun x i wr => ∃ m j : Nat, m = 2 ^ j ∧ j ≤ n ∧ x = .int .i64 (m : Int) ∧ i = .int .i64 (j : Int) ∧ wr = w) (fun _ i _ => n - (intOf i).toNat)
  case atStart => exact ⟨1, 0, rfl, Nat.zero_le _, rfl, rfl, rfl⟩
  case round =>
    obtain ⟨m, j, hm, hj, rfl, rfl, rfl⟩ := hrel
    have hmb : (m : Int) ≤ 2147483648 := by
      have : m ≤ 2 ^ 31 := by rw [hm]; exact Nat.pow_le_pow_right (by omega) (by omega)
      omega
    have HM := Lib.hid hm; clear hm
    by_cases hlt : j < n
    · have hlt' : (j : Int) < (n : Int) := by omega
      go_wp2
      go_roundw
      case rel => exact ⟨2 * m, j + 1, by rw [HM.out, Nat.pow_succ]; omega, by omega, by go_num, by go_num, trivial⟩
      case measure => simp [intOf]; omega
    · obtain rfl : j = n := by omega
      have HM2 := HM
      go_wp2
      go_ret
      exact ⟨by rw [← HM2.out]; rfl, rfl⟩
theorem size_sp83 : (Try.prog.info? 83).map (·.size) = some 2 := by kernel_rfl
theorem refspan_ok (w : World) (r : Rg) (hl : r.l ≤ 4294967295) (hg : r.g ≤ 4294967295) : Calls Try.prog 33 #[.agg #[.bool r.s, .int .u32 (r.l : Int), .int .u32 (r.g : Int)]] w fun e w' => e = .returned (.agg #[.int .i64 (r.l : Int), .int .i64 (r.g : Int)]) ∧ Below w.heap.size w w' := by
  obtain ⟨s, l, g⟩ := r
  have hli : (l : Int) ≤ 4294967295 := by have : l ≤ 4294967295 := hl; omega
  have hgi : (g : Int) ≤ 4294967295 := by have : g ≤ 4294967295 := hg; omega
  go_enter Try.func33, Try.ntmps33
  go_wp2
  have hB := Blk.litL (w.alloc (.cells #[.bool s, .int .u32 (l : Int), .int .u32 (g : Int)] 37)) 83 [.int .i64 (l : Int), .int .i64 (g : Int)]
  have e : (w.alloc (.cells #[.bool s, .int .u32 (l : Int), .int .u32 (g : Int)] 37)).heap.size = w.heap.size + 1 := by simp
  rw [e] at hB
  exact bodyPost_ret (v := .agg #[.int .i64 (l : Int), .int .i64 (g : Int)]) (results_cell1_range Try.results33 _ _ (w.heap.size + 1) 0 [.int .i64 (l : Int), .int .i64 (g : Int)] _ rfl hB.range Try.underlying83 rfl size_sp83) rfl ⟨rfl, ((Below.refl _ _).alloc (Nat.le_refl _) _).alloc (by simp) _⟩
theorem refmade_ok (w : World) (l g : Nat) (hl : l ≤ 4294967295) (hg : g ≤ 4294967295) : Calls Try.prog 45 #[.agg #[.int .i64 (l : Int), .int .i64 (g : Int)]] w fun e w' => e = .returned (.agg #[.bool true, .int .u32 (l : Int), .int .u32 (g : Int)]) ∧ Below w.heap.size w w' := by
  have hli : (l : Int) ≤ 4294967295 := by omega
  have hgi : (g : Int) ≤ 4294967295 := by omega
  have m1 : (l : Int) % 4294967296 = (l : Int) := by omega
  have m2 : (g : Int) % 4294967296 = (g : Int) := by omega
  go_enter Try.func45, Try.ntmps45
  go_wp2
  have hB := Blk.litL (w.alloc (.cells #[.int .i64 (l : Int), .int .i64 (g : Int)] 83)) 37 [.bool true, .int .u32 (l : Int), .int .u32 (g : Int)]
  have e : (w.alloc (.cells #[.int .i64 (l : Int), .int .i64 (g : Int)] 83)).heap.size = w.heap.size + 1 := by simp
  rw [e] at hB
  exact bodyPost_ret (v := .agg #[.bool true, .int .u32 (l : Int), .int .u32 (g : Int)]) (results_cell1_range Try.results45 _ _ (w.heap.size + 1) 0 [.bool true, .int .u32 (l : Int), .int .u32 (g : Int)] _ rfl hB.range Try.underlying37 rfl (by kernel_rfl)) rfl ⟨rfl, ((Below.refl _ _).alloc (Nat.le_refl _) _).alloc (by simp) _⟩
end Go.Proofs.Ytjlddhnjbjhmkaa
