/- The document's answer: what an Op uses. -/
import Derived.Test.YtpnkbpjhbmacaaaVm14d
set_option linter.unusedVariables false
set_option linter.unusedSimpArgs false
namespace Go.Proofs.Ytpnkbpjhbmacaaa
open Go.RowKit

theorem uses_1 (w : World) : Calls Try.prog 27 #[.int .i64 1] w fun e w' => e = .returned (.tuple #[.bool true, .bool false, .bool false, .bool true, .bool true]) ∧ w = w' := by
  go_enter Try.func27, Try.ntmps27
  go_wp2
  exact bodyPost_ret (v := .tuple #[.bool true, .bool false, .bool false, .bool true, .bool true]) (by simp [results, Try.results27, go_sem]) rfl ⟨rfl, rfl⟩
theorem uses_2 (w : World) : Calls Try.prog 27 #[.int .i64 2] w fun e w' => e = .returned (.tuple #[.bool true, .bool true, .bool false, .bool false, .bool true]) ∧ w = w' := by
  go_enter Try.func27, Try.ntmps27
  go_wp2
  exact bodyPost_ret (v := .tuple #[.bool true, .bool true, .bool false, .bool false, .bool true]) (by simp [results, Try.results27, go_sem]) rfl ⟨rfl, rfl⟩
theorem uses_3 (w : World) : Calls Try.prog 27 #[.int .i64 3] w fun e w' => e = .returned (.tuple #[.bool true, .bool false, .bool false, .bool true, .bool true]) ∧ w = w' := by
  go_enter Try.func27, Try.ntmps27
  go_wp2
  exact bodyPost_ret (v := .tuple #[.bool true, .bool false, .bool false, .bool true, .bool true]) (by simp [results, Try.results27, go_sem]) rfl ⟨rfl, rfl⟩
theorem uses_4 (w : World) : Calls Try.prog 27 #[.int .i64 4] w fun e w' => e = .returned (.tuple #[.bool true, .bool true, .bool false, .bool false, .bool true]) ∧ w = w' := by
  go_enter Try.func27, Try.ntmps27
  go_wp2
  exact bodyPost_ret (v := .tuple #[.bool true, .bool true, .bool false, .bool false, .bool true]) (by simp [results, Try.results27, go_sem]) rfl ⟨rfl, rfl⟩
theorem uses_5 (w : World) : Calls Try.prog 27 #[.int .i64 5] w fun e w' => e = .returned (.tuple #[.bool true, .bool true, .bool false, .bool false, .bool true]) ∧ w = w' := by
  go_enter Try.func27, Try.ntmps27
  go_wp2
  exact bodyPost_ret (v := .tuple #[.bool true, .bool true, .bool false, .bool false, .bool true]) (by simp [results, Try.results27, go_sem]) rfl ⟨rfl, rfl⟩
theorem uses_6 (w : World) : Calls Try.prog 27 #[.int .i64 6] w fun e w' => e = .returned (.tuple #[.bool true, .bool false, .bool false, .bool true, .bool true]) ∧ w = w' := by
  go_enter Try.func27, Try.ntmps27
  go_wp2
  exact bodyPost_ret (v := .tuple #[.bool true, .bool false, .bool false, .bool true, .bool true]) (by simp [results, Try.results27, go_sem]) rfl ⟨rfl, rfl⟩
theorem uses_7 (w : World) : Calls Try.prog 27 #[.int .i64 7] w fun e w' => e = .returned (.tuple #[.bool true, .bool true, .bool false, .bool false, .bool true]) ∧ w = w' := by
  go_enter Try.func27, Try.ntmps27
  go_wp2
  exact bodyPost_ret (v := .tuple #[.bool true, .bool true, .bool false, .bool false, .bool true]) (by simp [results, Try.results27, go_sem]) rfl ⟨rfl, rfl⟩
theorem uses_8 (w : World) : Calls Try.prog 27 #[.int .i64 8] w fun e w' => e = .returned (.tuple #[.bool true, .bool false, .bool false, .bool true, .bool true]) ∧ w = w' := by
  go_enter Try.func27, Try.ntmps27
  go_wp2
  exact bodyPost_ret (v := .tuple #[.bool true, .bool false, .bool false, .bool true, .bool true]) (by simp [results, Try.results27, go_sem]) rfl ⟨rfl, rfl⟩
theorem uses_9 (w : World) : Calls Try.prog 27 #[.int .i64 9] w fun e w' => e = .returned (.tuple #[.bool true, .bool true, .bool false, .bool false, .bool true]) ∧ w = w' := by
  go_enter Try.func27, Try.ntmps27
  go_wp2
  exact bodyPost_ret (v := .tuple #[.bool true, .bool true, .bool false, .bool false, .bool true]) (by simp [results, Try.results27, go_sem]) rfl ⟨rfl, rfl⟩
theorem uses_10 (w : World) : Calls Try.prog 27 #[.int .i64 10] w fun e w' => e = .returned (.tuple #[.bool true, .bool true, .bool false, .bool false, .bool true]) ∧ w = w' := by
  go_enter Try.func27, Try.ntmps27
  go_wp2
  exact bodyPost_ret (v := .tuple #[.bool true, .bool true, .bool false, .bool false, .bool true]) (by simp [results, Try.results27, go_sem]) rfl ⟨rfl, rfl⟩
theorem uses_11 (w : World) : Calls Try.prog 27 #[.int .i64 11] w fun e w' => e = .returned (.tuple #[.bool true, .bool true, .bool false, .bool false, .bool true]) ∧ w = w' := by
  go_enter Try.func27, Try.ntmps27
  go_wp2
  exact bodyPost_ret (v := .tuple #[.bool true, .bool true, .bool false, .bool false, .bool true]) (by simp [results, Try.results27, go_sem]) rfl ⟨rfl, rfl⟩
theorem uses_12 (w : World) : Calls Try.prog 27 #[.int .i64 12] w fun e w' => e = .returned (.tuple #[.bool true, .bool false, .bool false, .bool true, .bool true]) ∧ w = w' := by
  go_enter Try.func27, Try.ntmps27
  go_wp2
  exact bodyPost_ret (v := .tuple #[.bool true, .bool false, .bool false, .bool true, .bool true]) (by simp [results, Try.results27, go_sem]) rfl ⟨rfl, rfl⟩
theorem uses_13 (w : World) : Calls Try.prog 27 #[.int .i64 13] w fun e w' => e = .returned (.tuple #[.bool true, .bool false, .bool false, .bool true, .bool true]) ∧ w = w' := by
  go_enter Try.func27, Try.ntmps27
  go_wp2
  exact bodyPost_ret (v := .tuple #[.bool true, .bool false, .bool false, .bool true, .bool true]) (by simp [results, Try.results27, go_sem]) rfl ⟨rfl, rfl⟩
theorem uses_14 (w : World) : Calls Try.prog 27 #[.int .i64 14] w fun e w' => e = .returned (.tuple #[.bool true, .bool true, .bool false, .bool false, .bool true]) ∧ w = w' := by
  go_enter Try.func27, Try.ntmps27
  go_wp2
  exact bodyPost_ret (v := .tuple #[.bool true, .bool true, .bool false, .bool false, .bool true]) (by simp [results, Try.results27, go_sem]) rfl ⟨rfl, rfl⟩
theorem uses_15 (w : World) : Calls Try.prog 27 #[.int .i64 15] w fun e w' => e = .returned (.tuple #[.bool true, .bool true, .bool false, .bool false, .bool true]) ∧ w = w' := by
  go_enter Try.func27, Try.ntmps27
  go_wp2
  exact bodyPost_ret (v := .tuple #[.bool true, .bool true, .bool false, .bool false, .bool true]) (by simp [results, Try.results27, go_sem]) rfl ⟨rfl, rfl⟩
theorem uses_16 (w : World) : Calls Try.prog 27 #[.int .i64 16] w fun e w' => e = .returned (.tuple #[.bool true, .bool true, .bool true, .bool false, .bool true]) ∧ w = w' := by
  go_enter Try.func27, Try.ntmps27
  go_wp2
  exact bodyPost_ret (v := .tuple #[.bool true, .bool true, .bool true, .bool false, .bool true]) (by simp [results, Try.results27, go_sem]) rfl ⟨rfl, rfl⟩
theorem uses_17 (w : World) : Calls Try.prog 27 #[.int .i64 17] w fun e w' => e = .returned (.tuple #[.bool true, .bool true, .bool true, .bool false, .bool true]) ∧ w = w' := by
  go_enter Try.func27, Try.ntmps27
  go_wp2
  exact bodyPost_ret (v := .tuple #[.bool true, .bool true, .bool true, .bool false, .bool true]) (by simp [results, Try.results27, go_sem]) rfl ⟨rfl, rfl⟩
theorem uses_18 (w : World) : Calls Try.prog 27 #[.int .i64 18] w fun e w' => e = .returned (.tuple #[.bool true, .bool true, .bool true, .bool false, .bool true]) ∧ w = w' := by
  go_enter Try.func27, Try.ntmps27
  go_wp2
  exact bodyPost_ret (v := .tuple #[.bool true, .bool true, .bool true, .bool false, .bool true]) (by simp [results, Try.results27, go_sem]) rfl ⟨rfl, rfl⟩
theorem uses_19 (w : World) : Calls Try.prog 27 #[.int .i64 19] w fun e w' => e = .returned (.tuple #[.bool false, .bool false, .bool true, .bool false, .bool true]) ∧ w = w' := by
  go_enter Try.func27, Try.ntmps27
  go_wp2
  exact bodyPost_ret (v := .tuple #[.bool false, .bool false, .bool true, .bool false, .bool true]) (by simp [results, Try.results27, go_sem]) rfl ⟨rfl, rfl⟩
theorem uses_20 (w : World) : Calls Try.prog 27 #[.int .i64 20] w fun e w' => e = .returned (.tuple #[.bool true, .bool false, .bool true, .bool true, .bool true]) ∧ w = w' := by
  go_enter Try.func27, Try.ntmps27
  go_wp2
  exact bodyPost_ret (v := .tuple #[.bool true, .bool false, .bool true, .bool true, .bool true]) (by simp [results, Try.results27, go_sem]) rfl ⟨rfl, rfl⟩
theorem uses_21 (w : World) : Calls Try.prog 27 #[.int .i64 21] w fun e w' => e = .returned (.tuple #[.bool true, .bool false, .bool true, .bool true, .bool true]) ∧ w = w' := by
  go_enter Try.func27, Try.ntmps27
  go_wp2
  exact bodyPost_ret (v := .tuple #[.bool true, .bool false, .bool true, .bool true, .bool true]) (by simp [results, Try.results27, go_sem]) rfl ⟨rfl, rfl⟩
theorem uses_22 (w : World) : Calls Try.prog 27 #[.int .i64 22] w fun e w' => e = .returned (.tuple #[.bool true, .bool true, .bool true, .bool false, .bool true]) ∧ w = w' := by
  go_enter Try.func27, Try.ntmps27
  go_wp2
  exact bodyPost_ret (v := .tuple #[.bool true, .bool true, .bool true, .bool false, .bool true]) (by simp [results, Try.results27, go_sem]) rfl ⟨rfl, rfl⟩
theorem uses_23 (w : World) : Calls Try.prog 27 #[.int .i64 23] w fun e w' => e = .returned (.tuple #[.bool false, .bool false, .bool false, .bool true, .bool true]) ∧ w = w' := by
  go_enter Try.func27, Try.ntmps27
  go_wp2
  exact bodyPost_ret (v := .tuple #[.bool false, .bool false, .bool false, .bool true, .bool true]) (by simp [results, Try.results27, go_sem]) rfl ⟨rfl, rfl⟩
theorem uses_24 (w : World) : Calls Try.prog 27 #[.int .i64 24] w fun e w' => e = .returned (.tuple #[.bool false, .bool false, .bool false, .bool false, .bool true]) ∧ w = w' := by
  go_enter Try.func27, Try.ntmps27
  go_wp2
  exact bodyPost_ret (v := .tuple #[.bool false, .bool false, .bool false, .bool false, .bool true]) (by simp [results, Try.results27, go_sem]) rfl ⟨rfl, rfl⟩
theorem uses_in (w : World) (op : Nat) (h1 : 1 ≤ op) (h2 : op ≤ 24) : Calls Try.prog 27 #[.int .i64 (op : Int)] w fun e w' => e = .returned (.tuple #[.bool (uD op), .bool (uS op), .bool (uO op), .bool (uI op), .bool true]) ∧ w = w' := by
  have hc : op = 1 ∨ op = 2 ∨ op = 3 ∨ op = 4 ∨ op = 5 ∨ op = 6 ∨ op = 7 ∨ op = 8 ∨ op = 9 ∨ op = 10 ∨ op = 11 ∨ op = 12 ∨ op = 13 ∨ op = 14 ∨ op = 15 ∨ op = 16 ∨ op = 17 ∨ op = 18 ∨ op = 19 ∨ op = 20 ∨ op = 21 ∨ op = 22 ∨ op = 23 ∨ op = 24 := by omega
  rcases hc with rfl | rfl | rfl | rfl | rfl | rfl | rfl | rfl | rfl | rfl | rfl | rfl | rfl | rfl | rfl | rfl | rfl | rfl | rfl | rfl | rfl | rfl | rfl | rfl
  · exact uses_1 w
  · exact uses_2 w
  · exact uses_3 w
  · exact uses_4 w
  · exact uses_5 w
  · exact uses_6 w
  · exact uses_7 w
  · exact uses_8 w
  · exact uses_9 w
  · exact uses_10 w
  · exact uses_11 w
  · exact uses_12 w
  · exact uses_13 w
  · exact uses_14 w
  · exact uses_15 w
  · exact uses_16 w
  · exact uses_17 w
  · exact uses_18 w
  · exact uses_19 w
  · exact uses_20 w
  · exact uses_21 w
  · exact uses_22 w
  · exact uses_23 w
  · exact uses_24 w
theorem uses_out (w : World) (op : Int) (h : op < 1 ∨ 24 < op) : Calls Try.prog 27 #[.int .i64 op] w fun e w' => e = .returned (.tuple #[.bool false, .bool false, .bool false, .bool false, .bool false]) ∧ w = w' := by
  have h1 : (op == 1) = false := by simp; omega
  have h2 : (op == 2) = false := by simp; omega
  have h3 : (op == 3) = false := by simp; omega
  have h4 : (op == 4) = false := by simp; omega
  have h5 : (op == 5) = false := by simp; omega
  have h6 : (op == 6) = false := by simp; omega
  have h7 : (op == 7) = false := by simp; omega
  have h8 : (op == 8) = false := by simp; omega
  have h9 : (op == 9) = false := by simp; omega
  have h10 : (op == 10) = false := by simp; omega
  have h11 : (op == 11) = false := by simp; omega
  have h12 : (op == 12) = false := by simp; omega
  have h13 : (op == 13) = false := by simp; omega
  have h14 : (op == 14) = false := by simp; omega
  have h15 : (op == 15) = false := by simp; omega
  have h16 : (op == 16) = false := by simp; omega
  have h17 : (op == 17) = false := by simp; omega
  have h18 : (op == 18) = false := by simp; omega
  have h19 : (op == 19) = false := by simp; omega
  have h20 : (op == 20) = false := by simp; omega
  have h21 : (op == 21) = false := by simp; omega
  have h22 : (op == 22) = false := by simp; omega
  have h23 : (op == 23) = false := by simp; omega
  have h24 : (op == 24) = false := by simp; omega
  clear h
  go_enter Try.func27, Try.ntmps27
  go_wp2
  exact bodyPost_ret (v := .tuple #[.bool false, .bool false, .bool false, .bool false, .bool false]) (by simp [results, Try.results27, go_sem]) rfl ⟨rfl, rfl⟩
end Go.Proofs.Ytpnkbpjhbmacaaa
