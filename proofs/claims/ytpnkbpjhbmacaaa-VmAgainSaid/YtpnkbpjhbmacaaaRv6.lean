/- The document's answer: what an Op makes of two words. -/
import Derived.Test.YtpnkbpjhbmacaaaRv5
set_option linter.unusedVariables false
set_option linter.unusedSimpArgs false
namespace Go.Proofs.Ytpnkbpjhbmacaaa
open Go.RowKit

theorem twor_1 (w : World) (d s : Nat) (hd : d < 4294967296) (hs : s < 4294967296) :
    Calls Try.prog 35 #[.int .i64 1, .int .i64 (d : Int), .int .i64 (s : Int)] w fun e w' => e = .returned (.int .i64 ((s : Nat) : Int)) ∧ w = w' := by
  go_enter Try.func35, Try.ntmps35
  go_wp2
  go_ret
  exact ⟨congrArg (fun n => Ending.returned (.int .i64 n)) (rfl), rfl⟩
theorem twor_2 (w : World) (d s : Nat) (hd : d < 4294967296) (hs : s < 4294967296) :
    Calls Try.prog 35 #[.int .i64 2, .int .i64 (d : Int), .int .i64 (s : Int)] w fun e w' => e = .returned (.int .i64 ((s : Nat) : Int)) ∧ w = w' := by
  go_enter Try.func35, Try.ntmps35
  go_wp2
  go_ret
  exact ⟨congrArg (fun n => Ending.returned (.int .i64 n)) (rfl), rfl⟩
theorem twor_3 (w : World) (d s : Nat) (hd : d < 4294967296) (hs : s < 4294967296) :
    Calls Try.prog 35 #[.int .i64 3, .int .i64 (d : Int), .int .i64 (s : Int)] w fun e w' => e = .returned (.int .i64 (((d + s) % 4294967296 : Nat) : Int)) ∧ w = w' := by
  go_enter Try.func35, Try.ntmps35
  go_wp2
  go_ret
  exact ⟨congrArg (fun n => Ending.returned (.int .i64 n)) (by omega), rfl⟩
theorem twor_4 (w : World) (d s : Nat) (hd : d < 4294967296) (hs : s < 4294967296) :
    Calls Try.prog 35 #[.int .i64 4, .int .i64 (d : Int), .int .i64 (s : Int)] w fun e w' => e = .returned (.int .i64 (((d + s) % 4294967296 : Nat) : Int)) ∧ w = w' := by
  go_enter Try.func35, Try.ntmps35
  go_wp2
  go_ret
  exact ⟨congrArg (fun n => Ending.returned (.int .i64 n)) (by omega), rfl⟩
theorem twor_5 (w : World) (d s : Nat) (hd : d < 4294967296) (hs : s < 4294967296) :
    Calls Try.prog 35 #[.int .i64 5, .int .i64 (d : Int), .int .i64 (s : Int)] w fun e w' => e = .returned (.int .i64 (((d + 4294967296 - s) % 4294967296 : Nat) : Int)) ∧ w = w' := by
  go_enter Try.func35, Try.ntmps35
  go_wp2
  go_ret
  exact ⟨congrArg (fun n => Ending.returned (.int .i64 n)) (by omega), rfl⟩
theorem twor_6 (w : World) (d s : Nat) (hd : d < 4294967296) (hs : s < 4294967296) :
    Calls Try.prog 35 #[.int .i64 6, .int .i64 (d : Int), .int .i64 (s : Int)] w fun e w' => e = .returned (.int .i64 ((d * s % 4294967296 : Nat) : Int)) ∧ w = w' := by
  go_enter Try.func35, Try.ntmps35
  go_wp2_with (go_at_call 45; refine (timesr_ok _ d s hd hs).mono ?_; rintro e w' ⟨rfl, rfl⟩)
  go_ret
  exact ⟨congrArg (fun n => Ending.returned (.int .i64 n)) (rfl), rfl⟩
theorem twor_7 (w : World) (d s : Nat) (hd : d < 4294967296) (hs : s < 4294967296) :
    Calls Try.prog 35 #[.int .i64 7, .int .i64 (d : Int), .int .i64 (s : Int)] w fun e w' => e = .returned (.int .i64 ((d * s % 4294967296 : Nat) : Int)) ∧ w = w' := by
  go_enter Try.func35, Try.ntmps35
  go_wp2_with (go_at_call 45; refine (timesr_ok _ d s hd hs).mono ?_; rintro e w' ⟨rfl, rfl⟩)
  go_ret
  exact ⟨congrArg (fun n => Ending.returned (.int .i64 n)) (rfl), rfl⟩
theorem twor_8 (w : World) (d s : Nat) (hd : d < 4294967296) (hs : s < 4294967296) :
    Calls Try.prog 35 #[.int .i64 8, .int .i64 (d : Int), .int .i64 (s : Int)] w fun e w' => e = .returned (.int .i64 ((d &&& s : Nat) : Int)) ∧ w = w' := by
  have hb := fun W => bitsr_ok W 9 d s (.inl rfl) hd hs
  go_enter Try.func35, Try.ntmps35
  go_wp2_with (go_at_call 46; refine (hb _).mono ?_; rintro e w' ⟨rfl, rfl⟩)
  go_ret
  exact ⟨congrArg (fun n => Ending.returned (.int .i64 n)) (rfl), rfl⟩
theorem twor_9 (w : World) (d s : Nat) (hd : d < 4294967296) (hs : s < 4294967296) :
    Calls Try.prog 35 #[.int .i64 9, .int .i64 (d : Int), .int .i64 (s : Int)] w fun e w' => e = .returned (.int .i64 ((d &&& s : Nat) : Int)) ∧ w = w' := by
  have hb := fun W => bitsr_ok W 9 d s (.inl rfl) hd hs
  go_enter Try.func35, Try.ntmps35
  go_wp2_with (go_at_call 46; refine (hb _).mono ?_; rintro e w' ⟨rfl, rfl⟩)
  go_ret
  exact ⟨congrArg (fun n => Ending.returned (.int .i64 n)) (rfl), rfl⟩
theorem twor_10 (w : World) (d s : Nat) (hd : d < 4294967296) (hs : s < 4294967296) :
    Calls Try.prog 35 #[.int .i64 10, .int .i64 (d : Int), .int .i64 (s : Int)] w fun e w' => e = .returned (.int .i64 ((d ||| s : Nat) : Int)) ∧ w = w' := by
  have hb := fun W => bitsr_ok W 10 d s (.inr (.inl rfl)) hd hs
  go_enter Try.func35, Try.ntmps35
  go_wp2_with (go_at_call 46; refine (hb _).mono ?_; rintro e w' ⟨rfl, rfl⟩)
  go_ret
  exact ⟨congrArg (fun n => Ending.returned (.int .i64 n)) (rfl), rfl⟩
theorem twor_11 (w : World) (d s : Nat) (hd : d < 4294967296) (hs : s < 4294967296) :
    Calls Try.prog 35 #[.int .i64 11, .int .i64 (d : Int), .int .i64 (s : Int)] w fun e w' => e = .returned (.int .i64 ((d ^^^ s : Nat) : Int)) ∧ w = w' := by
  have hb := fun W => bitsr_ok W 11 d s (.inr (.inr rfl)) hd hs
  go_enter Try.func35, Try.ntmps35
  go_wp2_with (go_at_call 46; refine (hb _).mono ?_; rintro e w' ⟨rfl, rfl⟩)
  go_ret
  exact ⟨congrArg (fun n => Ending.returned (.int .i64 n)) (rfl), rfl⟩
theorem twor_14 (w : World) (d s : Nat) (hd : d < 4294967296) (hs : s < 4294967296) (h0 : s ≠ 0) :
    Calls Try.prog 35 #[.int .i64 14, .int .i64 (d : Int), .int .i64 (s : Int)] w fun e w' => e = .returned (.int .i64 ((d / s : Nat) : Int)) ∧ w = w' := by
  have h1 : ((s : Int) == 0) = false := by simp; omega
  have h2 : (s : Int) ≠ 0 := by omega
  have h3 : 0 ≤ (d : Int) / (s : Int) := Int.ediv_nonneg (by omega) (by omega)
  have h4 : (d : Int) / (s : Int) ≤ d := Int.ediv_le_self _ (by omega)
  have H0 := Lib.hid h0; clear h0
  go_enter Try.func35, Try.ntmps35
  go_wp2
  go_ret
  exact ⟨congrArg (fun n => Ending.returned (.int .i64 n)) (by first | rfl | (rw [Int.natCast_ediv]) | (rw [Int.tdiv_eq_ediv_of_nonneg (by omega)]; rfl)), rfl⟩
theorem twor_15 (w : World) (d s : Nat) (hd : d < 4294967296) (hs : s < 4294967296) (h0 : s ≠ 0) :
    Calls Try.prog 35 #[.int .i64 15, .int .i64 (d : Int), .int .i64 (s : Int)] w fun e w' => e = .returned (.int .i64 ((d % s : Nat) : Int)) ∧ w = w' := by
  have h1 : ((s : Int) == 0) = false := by simp; omega
  have h2 : (s : Int) ≠ 0 := by omega
  have H0 := Lib.hid h0; clear h0
  go_enter Try.func35, Try.ntmps35
  go_wp2
  go_ret
  exact ⟨congrArg (fun n => Ending.returned (.int .i64 n)) (by first | rfl | (rw [Int.natCast_emod]) | (rw [Int.tmod_eq_emod_of_nonneg (by omega)]; rfl)), rfl⟩
theorem twor_12 (w : World) (d s : Nat) (hd : d < 4294967296) (hs : s < 4294967296) (h31 : s ≤ 31) :
    Calls Try.prog 35 #[.int .i64 12, .int .i64 (d : Int), .int .i64 (s : Int)] w fun e w' => e = .returned (.int .i64 ((d * 2 ^ s % 4294967296 : Nat) : Int)) ∧ w = w' := by
  go_enter Try.func35, Try.ntmps35
  go_wp2
  go_loop [1, 7] (fun v i => ∃ k : Nat, k ≤ s ∧ i = .int .i64 (k : Int) ∧ v = .int .i64 ((d * 2 ^ k % 4294967296 : Nat) : Int)) (fun _ i => s - (intOf i).toNat)
  case atStart => exact ⟨0, Nat.zero_le _, rfl, by simp [Nat.mod_eq_of_lt hd]⟩
  case round =>
    obtain ⟨k, hk, rfl, rfl⟩ := hrel
    obtain ⟨x, hx⟩ : ∃ x, x = d * 2 ^ k % 4294967296 := ⟨_, rfl⟩
    have x1 : x < 4294967296 := by rw [hx]; exact Nat.mod_lt _ (by omega)
    rw [← hx]
    have HX := Lib.hid hx; clear hx
    by_cases hlt : k < s
    · go_wp2
      go_round
      case rel => exact ⟨k + 1, by omega, rfl, congrArg (fun n => Value.int .i64 n) (by rw [Nat.pow_succ]; rw [← Nat.mul_assoc, Nat.mul_mod, ← HX.out]; omega)⟩
      case measure => simp [intOf]; omega
    · obtain rfl : k = s := by omega
      go_wp2
      go_ret
      exact ⟨congrArg (fun n => Ending.returned (.int .i64 n)) (by rw [HX.out]; simp), rfl⟩
theorem twor_13 (w : World) (d s : Nat) (hd : d < 4294967296) (hs : s < 4294967296) (h31 : s ≤ 31) :
    Calls Try.prog 35 #[.int .i64 13, .int .i64 (d : Int), .int .i64 (s : Int)] w fun e w' => e = .returned (.int .i64 ((d / 2 ^ s : Nat) : Int)) ∧ w = w' := by
  go_enter Try.func35, Try.ntmps35
  go_wp2
  go_loop [1, 8] (fun v i => ∃ k : Nat, k ≤ s ∧ i = .int .i64 (k : Int) ∧ v = .int .i64 ((d / 2 ^ k : Nat) : Int)) (fun _ i => s - (intOf i).toNat)
  case atStart => exact ⟨0, Nat.zero_le _, rfl, by simp []⟩
  case round =>
    obtain ⟨k, hk, rfl, rfl⟩ := hrel
    obtain ⟨x, hx⟩ : ∃ x, x = d / 2 ^ k := ⟨_, rfl⟩
    have x1 : x < 4294967296 := by rw [hx]; exact Nat.lt_of_le_of_lt (Nat.div_le_self _ _) hd
    rw [← hx]
    have HX := Lib.hid hx; clear hx
    by_cases hlt : k < s
    · go_wp2
      go_round
      case rel => exact ⟨k + 1, by omega, rfl, congrArg (fun n => Value.int .i64 n) (by rw [Nat.pow_succ]; rw [← Nat.div_div_eq_div_mul, ← HX.out]; omega)⟩
      case measure => simp [intOf]; omega
    · obtain rfl : k = s := by omega
      go_wp2
      go_ret
      exact ⟨congrArg (fun n => Ending.returned (.int .i64 n)) (by rw [HX.out]; simp), rfl⟩
theorem twor_ok (w : World) (op d s : Nat) (h1 : 1 ≤ op) (h2 : op ≤ 15) (hd : d < 4294967296) (hs : s < 4294967296) (h0 : op = 14 ∨ op = 15 → s ≠ 0) (h31 : op = 12 ∨ op = 13 → s ≤ 31) :
    Calls Try.prog 35 #[.int .i64 (op : Int), .int .i64 (d : Int), .int .i64 (s : Int)] w fun e w' => e = .returned (.int .i64 (op2 op d s : Int)) ∧ w = w' := by
  have hc : op = 1 ∨ op = 2 ∨ op = 3 ∨ op = 4 ∨ op = 5 ∨ op = 6 ∨ op = 7 ∨ op = 8 ∨ op = 9 ∨ op = 10 ∨ op = 11 ∨ op = 12 ∨ op = 13 ∨ op = 14 ∨ op = 15 := by omega
  have hm : op = 12 ∨ op = 13 → min s 32 = s := fun h => by have := h31 h; omega
  rcases hc with rfl | rfl | rfl | rfl | rfl | rfl | rfl | rfl | rfl | rfl | rfl | rfl | rfl | rfl | rfl
  · have e : op2 1 d s = s := by simp [op2]
    rw [e]
    exact twor_1 w d s hd hs
  · have e : op2 2 d s = s := by simp [op2]
    rw [e]
    exact twor_2 w d s hd hs
  · have e : op2 3 d s = (d + s) % 4294967296 := by simp [op2]
    rw [e]
    exact twor_3 w d s hd hs
  · have e : op2 4 d s = (d + s) % 4294967296 := by simp [op2]
    rw [e]
    exact twor_4 w d s hd hs
  · have e : op2 5 d s = (d + 4294967296 - s) % 4294967296 := by simp [op2]
    rw [e]
    exact twor_5 w d s hd hs
  · have e : op2 6 d s = d * s % 4294967296 := by simp [op2]
    rw [e]
    exact twor_6 w d s hd hs
  · have e : op2 7 d s = d * s % 4294967296 := by simp [op2]
    rw [e]
    exact twor_7 w d s hd hs
  · have e : op2 8 d s = d &&& s := by simp [op2]
    rw [e]
    exact twor_8 w d s hd hs
  · have e : op2 9 d s = d &&& s := by simp [op2]
    rw [e]
    exact twor_9 w d s hd hs
  · have e : op2 10 d s = d ||| s := by simp [op2]
    rw [e]
    exact twor_10 w d s hd hs
  · have e : op2 11 d s = d ^^^ s := by simp [op2]
    rw [e]
    exact twor_11 w d s hd hs
  · have e : op2 12 d s = d * 2 ^ s % 4294967296 := by simp [op2, hm]
    rw [e]
    exact twor_12 w d s hd hs (h31 (by omega))
  · have e : op2 13 d s = d / 2 ^ s := by simp [op2, hm]
    rw [e]
    exact twor_13 w d s hd hs (h31 (by omega))
  · have e : op2 14 d s = d / s := by simp [op2]
    rw [e]
    exact twor_14 w d s hd hs (h0 (by omega))
  · have e : op2 15 d s = d % s := by simp [op2]
    rw [e]
    exact twor_15 w d s hd hs (h0 (by omega))
end Go.Proofs.Ytpnkbpjhbmacaaa
