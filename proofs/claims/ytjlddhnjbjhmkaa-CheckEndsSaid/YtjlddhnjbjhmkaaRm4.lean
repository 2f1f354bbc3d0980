/- The document's answer for layer 5: which instructions may be. -/
import Derived.Test.YtjlddhnjbjhmkaaGv
set_option linter.unusedVariables false
set_option linter.unusedSimpArgs false
namespace Go.Proofs.Ytjlddhnjbjhmkaa
open Go.RowKit

theorem uses_1 (w : World) : Calls Try.prog 28 #[.int .i64 1] w fun e w' => e = .returned (.tuple #[.bool true, .bool false, .bool false, .bool true, .bool true]) ∧ w = w' := by
  go_enter Try.func28, Try.ntmps28
  go_wp2
  exact bodyPost_ret (v := .tuple #[.bool true, .bool false, .bool false, .bool true, .bool true]) (by simp [results, Try.results28, go_sem]) rfl ⟨rfl, rfl⟩
theorem uses_2 (w : World) : Calls Try.prog 28 #[.int .i64 2] w fun e w' => e = .returned (.tuple #[.bool true, .bool true, .bool false, .bool false, .bool true]) ∧ w = w' := by
  go_enter Try.func28, Try.ntmps28
  go_wp2
  exact bodyPost_ret (v := .tuple #[.bool true, .bool true, .bool false, .bool false, .bool true]) (by simp [results, Try.results28, go_sem]) rfl ⟨rfl, rfl⟩
theorem uses_3 (w : World) : Calls Try.prog 28 #[.int .i64 3] w fun e w' => e = .returned (.tuple #[.bool true, .bool false, .bool false, .bool true, .bool true]) ∧ w = w' := by
  go_enter Try.func28, Try.ntmps28
  go_wp2
  exact bodyPost_ret (v := .tuple #[.bool true, .bool false, .bool false, .bool true, .bool true]) (by simp [results, Try.results28, go_sem]) rfl ⟨rfl, rfl⟩
theorem uses_4 (w : World) : Calls Try.prog 28 #[.int .i64 4] w fun e w' => e = .returned (.tuple #[.bool true, .bool true, .bool false, .bool false, .bool true]) ∧ w = w' := by
  go_enter Try.func28, Try.ntmps28
  go_wp2
  exact bodyPost_ret (v := .tuple #[.bool true, .bool true, .bool false, .bool false, .bool true]) (by simp [results, Try.results28, go_sem]) rfl ⟨rfl, rfl⟩
theorem uses_5 (w : World) : Calls Try.prog 28 #[.int .i64 5] w fun e w' => e = .returned (.tuple #[.bool true, .bool true, .bool false, .bool false, .bool true]) ∧ w = w' := by
  go_enter Try.func28, Try.ntmps28
  go_wp2
  exact bodyPost_ret (v := .tuple #[.bool true, .bool true, .bool false, .bool false, .bool true]) (by simp [results, Try.results28, go_sem]) rfl ⟨rfl, rfl⟩
theorem uses_6 (w : World) : Calls Try.prog 28 #[.int .i64 6] w fun e w' => e = .returned (.tuple #[.bool true, .bool false, .bool false, .bool true, .bool true]) ∧ w = w' := by
  go_enter Try.func28, Try.ntmps28
  go_wp2
  exact bodyPost_ret (v := .tuple #[.bool true, .bool false, .bool false, .bool true, .bool true]) (by simp [results, Try.results28, go_sem]) rfl ⟨rfl, rfl⟩
theorem uses_7 (w : World) : Calls Try.prog 28 #[.int .i64 7] w fun e w' => e = .returned (.tuple #[.bool true, .bool true, .bool false, .bool false, .bool true]) ∧ w = w' := by
  go_enter Try.func28, Try.ntmps28
  go_wp2
  exact bodyPost_ret (v := .tuple #[.bool true, .bool true, .bool false, .bool false, .bool true]) (by simp [results, Try.results28, go_sem]) rfl ⟨rfl, rfl⟩
theorem uses_8 (w : World) : Calls Try.prog 28 #[.int .i64 8] w fun e w' => e = .returned (.tuple #[.bool true, .bool false, .bool false, .bool true, .bool true]) ∧ w = w' := by
  go_enter Try.func28, Try.ntmps28
  go_wp2
  exact bodyPost_ret (v := .tuple #[.bool true, .bool false, .bool false, .bool true, .bool true]) (by simp [results, Try.results28, go_sem]) rfl ⟨rfl, rfl⟩
theorem uses_9 (w : World) : Calls Try.prog 28 #[.int .i64 9] w fun e w' => e = .returned (.tuple #[.bool true, .bool true, .bool false, .bool false, .bool true]) ∧ w = w' := by
  go_enter Try.func28, Try.ntmps28
  go_wp2
  exact bodyPost_ret (v := .tuple #[.bool true, .bool true, .bool false, .bool false, .bool true]) (by simp [results, Try.results28, go_sem]) rfl ⟨rfl, rfl⟩
theorem uses_10 (w : World) : Calls Try.prog 28 #[.int .i64 10] w fun e w' => e = .returned (.tuple #[.bool true, .bool true, .bool false, .bool false, .bool true]) ∧ w = w' := by
  go_enter Try.func28, Try.ntmps28
  go_wp2
  exact bodyPost_ret (v := .tuple #[.bool true, .bool true, .bool false, .bool false, .bool true]) (by simp [results, Try.results28, go_sem]) rfl ⟨rfl, rfl⟩
theorem uses_11 (w : World) : Calls Try.prog 28 #[.int .i64 11] w fun e w' => e = .returned (.tuple #[.bool true, .bool true, .bool false, .bool false, .bool true]) ∧ w = w' := by
  go_enter Try.func28, Try.ntmps28
  go_wp2
  exact bodyPost_ret (v := .tuple #[.bool true, .bool true, .bool false, .bool false, .bool true]) (by simp [results, Try.results28, go_sem]) rfl ⟨rfl, rfl⟩
theorem uses_12 (w : World) : Calls Try.prog 28 #[.int .i64 12] w fun e w' => e = .returned (.tuple #[.bool true, .bool false, .bool false, .bool true, .bool true]) ∧ w = w' := by
  go_enter Try.func28, Try.ntmps28
  go_wp2
  exact bodyPost_ret (v := .tuple #[.bool true, .bool false, .bool false, .bool true, .bool true]) (by simp [results, Try.results28, go_sem]) rfl ⟨rfl, rfl⟩
theorem uses_13 (w : World) : Calls Try.prog 28 #[.int .i64 13] w fun e w' => e = .returned (.tuple #[.bool true, .bool false, .bool false, .bool true, .bool true]) ∧ w = w' := by
  go_enter Try.func28, Try.ntmps28
  go_wp2
  exact bodyPost_ret (v := .tuple #[.bool true, .bool false, .bool false, .bool true, .bool true]) (by simp [results, Try.results28, go_sem]) rfl ⟨rfl, rfl⟩
theorem uses_14 (w : World) : Calls Try.prog 28 #[.int .i64 14] w fun e w' => e = .returned (.tuple #[.bool true, .bool true, .bool false, .bool false, .bool true]) ∧ w = w' := by
  go_enter Try.func28, Try.ntmps28
  go_wp2
  exact bodyPost_ret (v := .tuple #[.bool true, .bool true, .bool false, .bool false, .bool true]) (by simp [results, Try.results28, go_sem]) rfl ⟨rfl, rfl⟩
theorem uses_15 (w : World) : Calls Try.prog 28 #[.int .i64 15] w fun e w' => e = .returned (.tuple #[.bool true, .bool true, .bool false, .bool false, .bool true]) ∧ w = w' := by
  go_enter Try.func28, Try.ntmps28
  go_wp2
  exact bodyPost_ret (v := .tuple #[.bool true, .bool true, .bool false, .bool false, .bool true]) (by simp [results, Try.results28, go_sem]) rfl ⟨rfl, rfl⟩
theorem uses_16 (w : World) : Calls Try.prog 28 #[.int .i64 16] w fun e w' => e = .returned (.tuple #[.bool true, .bool true, .bool true, .bool false, .bool true]) ∧ w = w' := by
  go_enter Try.func28, Try.ntmps28
  go_wp2
  exact bodyPost_ret (v := .tuple #[.bool true, .bool true, .bool true, .bool false, .bool true]) (by simp [results, Try.results28, go_sem]) rfl ⟨rfl, rfl⟩
theorem uses_17 (w : World) : Calls Try.prog 28 #[.int .i64 17] w fun e w' => e = .returned (.tuple #[.bool true, .bool true, .bool true, .bool false, .bool true]) ∧ w = w' := by
  go_enter Try.func28, Try.ntmps28
  go_wp2
  exact bodyPost_ret (v := .tuple #[.bool true, .bool true, .bool true, .bool false, .bool true]) (by simp [results, Try.results28, go_sem]) rfl ⟨rfl, rfl⟩
theorem uses_18 (w : World) : Calls Try.prog 28 #[.int .i64 18] w fun e w' => e = .returned (.tuple #[.bool true, .bool true, .bool true, .bool false, .bool true]) ∧ w = w' := by
  go_enter Try.func28, Try.ntmps28
  go_wp2
  exact bodyPost_ret (v := .tuple #[.bool true, .bool true, .bool true, .bool false, .bool true]) (by simp [results, Try.results28, go_sem]) rfl ⟨rfl, rfl⟩
theorem uses_19 (w : World) : Calls Try.prog 28 #[.int .i64 19] w fun e w' => e = .returned (.tuple #[.bool false, .bool false, .bool true, .bool false, .bool true]) ∧ w = w' := by
  go_enter Try.func28, Try.ntmps28
  go_wp2
  exact bodyPost_ret (v := .tuple #[.bool false, .bool false, .bool true, .bool false, .bool true]) (by simp [results, Try.results28, go_sem]) rfl ⟨rfl, rfl⟩
theorem uses_20 (w : World) : Calls Try.prog 28 #[.int .i64 20] w fun e w' => e = .returned (.tuple #[.bool true, .bool false, .bool true, .bool true, .bool true]) ∧ w = w' := by
  go_enter Try.func28, Try.ntmps28
  go_wp2
  exact bodyPost_ret (v := .tuple #[.bool true, .bool false, .bool true, .bool true, .bool true]) (by simp [results, Try.results28, go_sem]) rfl ⟨rfl, rfl⟩
theorem uses_21 (w : World) : Calls Try.prog 28 #[.int .i64 21] w fun e w' => e = .returned (.tuple #[.bool true, .bool false, .bool true, .bool true, .bool true]) ∧ w = w' := by
  go_enter Try.func28, Try.ntmps28
  go_wp2
  exact bodyPost_ret (v := .tuple #[.bool true, .bool false, .bool true, .bool true, .bool true]) (by simp [results, Try.results28, go_sem]) rfl ⟨rfl, rfl⟩
theorem uses_22 (w : World) : Calls Try.prog 28 #[.int .i64 22] w fun e w' => e = .returned (.tuple #[.bool true, .bool true, .bool true, .bool false, .bool true]) ∧ w = w' := by
  go_enter Try.func28, Try.ntmps28
  go_wp2
  exact bodyPost_ret (v := .tuple #[.bool true, .bool true, .bool true, .bool false, .bool true]) (by simp [results, Try.results28, go_sem]) rfl ⟨rfl, rfl⟩
theorem uses_23 (w : World) : Calls Try.prog 28 #[.int .i64 23] w fun e w' => e = .returned (.tuple #[.bool false, .bool false, .bool false, .bool true, .bool true]) ∧ w = w' := by
  go_enter Try.func28, Try.ntmps28
  go_wp2
  exact bodyPost_ret (v := .tuple #[.bool false, .bool false, .bool false, .bool true, .bool true]) (by simp [results, Try.results28, go_sem]) rfl ⟨rfl, rfl⟩
theorem uses_24 (w : World) : Calls Try.prog 28 #[.int .i64 24] w fun e w' => e = .returned (.tuple #[.bool false, .bool false, .bool false, .bool false, .bool true]) ∧ w = w' := by
  go_enter Try.func28, Try.ntmps28
  go_wp2
  exact bodyPost_ret (v := .tuple #[.bool false, .bool false, .bool false, .bool false, .bool true]) (by simp [results, Try.results28, go_sem]) rfl ⟨rfl, rfl⟩
theorem uses_in (w : World) (op : Nat) (h1 : 1 ≤ op) (h2 : op ≤ 24) : Calls Try.prog 28 #[.int .i64 (op : Int)] w fun e w' => e = .returned (.tuple #[.bool (uD op), .bool (uS op), .bool (uO op), .bool (uI op), .bool true]) ∧ w = w' := by
  have hc : op = 1 ∨ op = 2 ∨ op = 3 ∨ op = 4 ∨ op = 5 ∨ op = 6 ∨ op = 7 ∨ op = 8 ∨ op = 9 ∨ op = 10 ∨ op = 11 ∨ op = 12 ∨ op = 13 ∨ op = 14 ∨ op = 15 ∨ op = 16 ∨ op = 17 ∨ op = 18 ∨ op = 19 ∨ op = 20 ∨ op = 21 ∨ op = 22 ∨ op = 23 ∨ op = 24 := by omega
  rcases hc with rfl | rfl | rfl | rfl | rfl | rfl | rfl | rfl | rfl | rfl | rfl | rfl | rfl | rfl | rfl | rfl | rfl | rfl | rfl | rfl | rfl | rfl | rfl | rfl
  · exact uses_1 w
  · exact uses_2 w
  · exact uses_3 w
  · exact uses_4 w
  · exact uses_5 w
  · exact uses_6 w
  · exact uses_7 w
  · exact uses_8 w
  · exact uses_9 w
  · exact uses_10 w
  · exact uses_11 w
  · exact uses_12 w
  · exact uses_13 w
  · exact uses_14 w
  · exact uses_15 w
  · exact uses_16 w
  · exact uses_17 w
  · exact uses_18 w
  · exact uses_19 w
  · exact uses_20 w
  · exact uses_21 w
  · exact uses_22 w
  · exact uses_23 w
  · exact uses_24 w
theorem uses_out (w : World) (op : Int) (h : op < 1 ∨ 24 < op) : Calls Try.prog 28 #[.int .i64 op] w fun e w' => e = .returned (.tuple #[.bool false, .bool false, .bool false, .bool false, .bool false]) ∧ w = w' := by
  have h1 : (op == 1) = false := by simp; omega
  have h2 : (op == 2) = false := by simp; omega
  have h3 : (op == 3) = false := by simp; omega
  have h4 : (op == 4) = false := by simp; omega
  have h5 : (op == 5) = false := by simp; omega
  have h6 : (op == 6) = false := by simp; omega
  have h7 : (op == 7) = false := by simp; omega
  have h8 : (op == 8) = false := by simp; omega
  have h9 : (op == 9) = false := by simp; omega
  have h10 : (op == 10) = false := by simp; omega
  have h11 : (op == 11) = false := by simp; omega
  have h12 : (op == 12) = false := by simp; omega
  have h13 : (op == 13) = false := by simp; omega
  have h14 : (op == 14) = false := by simp; omega
  have h15 : (op == 15) = false := by simp; omega
  have h16 : (op == 16) = false := by simp; omega
  have h17 : (op == 17) = false := by simp; omega
  have h18 : (op == 18) = false := by simp; omega
  have h19 : (op == 19) = false := by simp; omega
  have h20 : (op == 20) = false := by simp; omega
  have h21 : (op == 21) = false := by simp; omega
  have h22 : (op == 22) = false := by simp; omega
  have h23 : (op == 23) = false := by simp; omega
  have h24 : (op == 24) = false := by simp; omega
  clear h
  go_enter Try.func28, Try.ntmps28
  go_wp2
  exact bodyPost_ret (v := .tuple #[.bool false, .bool false, .bool false, .bool false, .bool false]) (by simp [results, Try.results28, go_sem]) rfl ⟨rfl, rfl⟩
end Go.Proofs.Ytjlddhnjbjhmkaa
namespace Go.Proofs.Ytjlddhnjbjhmkaa
open Go.RowKit

set_option maxHeartbeats 4000000 in
theorem mayr_A (w : World) (op : Nat) (hop : op = 1 ∨ op = 3 ∨ op = 6 ∨ op = 8) (dst src off : Int) (imm : Nat) (hi : imm < 4294967296) :
    Calls Try.prog 17 #[.agg #[.int .i64 (op : Int), .int .i64 dst, .int .i64 src, .int .i64 off, .int .u32 (imm : Int)]] w fun e w' => e = .returned (.bool (withinB true dst 0 9 && (withinB false src 0 9 && (withinB false off (-32768) 32767 && decide (imm ≤ 4294967295))))) ∧ Below w.heap.size w w' := by
  have hu : ∀ W : World, Calls Try.prog 28 #[.int .i64 (op : Int)] W fun e w' => e = .returned (.tuple #[.bool true, .bool false, .bool false, .bool true, .bool true]) ∧ W = w' := fun W => by
    rcases hop with rfl | rfl | rfl | rfl
    · exact uses_1 W
    · exact uses_3 W
    · exact uses_6 W
    · exact uses_8 W
  have : decide ((op : Int) ≥ 16) = false := by simp; omega
  have : decide (16 ≤ (op : Int)) = false := by simp; omega
  have : decide ((op : Int) ≥ 19) = false := by simp; omega
  have : decide (19 ≤ (op : Int)) = false := by simp; omega
  have : decide ((op : Int) ≤ 18) = true := by simp; omega
  have : ((op : Int) == 12) = false := by simp; omega
  have : ((op : Int) != 12) = true := by simp; omega
  have : ((op : Int) == 13) = false := by simp; omega
  have : ((op : Int) != 13) = true := by simp; omega
  have : ((op : Int) == 23) = false := by simp; omega
  have : ((op : Int) != 23) = true := by simp; omega
  clear hop
  have HU := Lib.hid hu; clear hu
  go_enter Try.func17, Try.ntmps17
  go_wp2_with (go_at_call 28; refine (HU.out _).mono ?_; rintro e w' ⟨rfl, rfl⟩)
  all_goals
    go_ret
    refine ⟨?_, (Below.refl _ _).alloc (Nat.le_refl _) _⟩
    refine congrArg (fun b => Ending.returned (.bool b)) ?_
    rw [Bool.eq_iff_iff]
    simp [withinB]
    try (first | omega | (simp at *; omega))

set_option maxHeartbeats 4000000 in
theorem mayr_B (w : World) (dst src off : Int) (imm : Nat) (hi : imm < 4294967296) :
    Calls Try.prog 17 #[.agg #[.int .i64 12, .int .i64 dst, .int .i64 src, .int .i64 off, .int .u32 (imm : Int)]] w fun e w' => e = .returned (.bool (withinB true dst 0 9 && (withinB false src 0 9 && (withinB false off (-32768) 32767 && decide (imm ≤ 31))))) ∧ Below w.heap.size w w' := by
  have hu : ∀ W : World, Calls Try.prog 28 #[.int .i64 12] W fun e w' => e = .returned (.tuple #[.bool true, .bool false, .bool false, .bool true, .bool true]) ∧ W = w' := fun W => uses_12 W
  have HU := Lib.hid hu; clear hu
  go_enter Try.func17, Try.ntmps17
  go_wp2_with (go_at_call 28; refine (HU.out _).mono ?_; rintro e w' ⟨rfl, rfl⟩)
  all_goals
    go_ret
    refine ⟨?_, (Below.refl _ _).alloc (Nat.le_refl _) _⟩
    refine congrArg (fun b => Ending.returned (.bool b)) ?_
    rw [Bool.eq_iff_iff]
    simp [withinB]
    try (first | omega | (simp at *; omega))

set_option maxHeartbeats 4000000 in
theorem mayr_C (w : World) (dst src off : Int) (imm : Nat) (hi : imm < 4294967296) :
    Calls Try.prog 17 #[.agg #[.int .i64 13, .int .i64 dst, .int .i64 src, .int .i64 off, .int .u32 (imm : Int)]] w fun e w' => e = .returned (.bool (withinB true dst 0 9 && (withinB false src 0 9 && (withinB false off (-32768) 32767 && decide (imm ≤ 31))))) ∧ Below w.heap.size w w' := by
  have hu : ∀ W : World, Calls Try.prog 28 #[.int .i64 13] W fun e w' => e = .returned (.tuple #[.bool true, .bool false, .bool false, .bool true, .bool true]) ∧ W = w' := fun W => uses_13 W
  have HU := Lib.hid hu; clear hu
  go_enter Try.func17, Try.ntmps17
  go_wp2_with (go_at_call 28; refine (HU.out _).mono ?_; rintro e w' ⟨rfl, rfl⟩)
  all_goals
    go_ret
    refine ⟨?_, (Below.refl _ _).alloc (Nat.le_refl _) _⟩
    refine congrArg (fun b => Ending.returned (.bool b)) ?_
    rw [Bool.eq_iff_iff]
    simp [withinB]
    try (first | omega | (simp at *; omega))

set_option maxHeartbeats 4000000 in
theorem mayr_D (w : World) (op : Nat) (hop : op = 2 ∨ op = 4 ∨ op = 5 ∨ op = 7 ∨ op = 9 ∨ op = 10 ∨ op = 11 ∨ op = 14 ∨ op = 15) (dst src off : Int) (imm : Nat) (hi : imm < 4294967296) :
    Calls Try.prog 17 #[.agg #[.int .i64 (op : Int), .int .i64 dst, .int .i64 src, .int .i64 off, .int .u32 (imm : Int)]] w fun e w' => e = .returned (.bool (withinB true dst 0 9 && (withinB true src 0 9 && (withinB false off (-32768) 32767 && decide (imm ≤ 0))))) ∧ Below w.heap.size w w' := by
  have hu : ∀ W : World, Calls Try.prog 28 #[.int .i64 (op : Int)] W fun e w' => e = .returned (.tuple #[.bool true, .bool true, .bool false, .bool false, .bool true]) ∧ W = w' := fun W => by
    rcases hop with rfl | rfl | rfl | rfl | rfl | rfl | rfl | rfl | rfl
    · exact uses_2 W
    · exact uses_4 W
    · exact uses_5 W
    · exact uses_7 W
    · exact uses_9 W
    · exact uses_10 W
    · exact uses_11 W
    · exact uses_14 W
    · exact uses_15 W
  have : decide ((op : Int) ≥ 16) = false := by simp; omega
  have : decide (16 ≤ (op : Int)) = false := by simp; omega
  have : decide ((op : Int) ≥ 19) = false := by simp; omega
  have : decide (19 ≤ (op : Int)) = false := by simp; omega
  have : decide ((op : Int) ≤ 18) = true := by simp; omega
  have : ((op : Int) == 12) = false := by simp; omega
  have : ((op : Int) != 12) = true := by simp; omega
  have : ((op : Int) == 13) = false := by simp; omega
  have : ((op : Int) != 13) = true := by simp; omega
  have : ((op : Int) == 23) = false := by simp; omega
  have : ((op : Int) != 23) = true := by simp; omega
  clear hop
  have HU := Lib.hid hu; clear hu
  go_enter Try.func17, Try.ntmps17
  go_wp2_with (go_at_call 28; refine (HU.out _).mono ?_; rintro e w' ⟨rfl, rfl⟩)
  all_goals
    go_ret
    refine ⟨?_, (Below.refl _ _).alloc (Nat.le_refl _) _⟩
    refine congrArg (fun b => Ending.returned (.bool b)) ?_
    rw [Bool.eq_iff_iff]
    simp [withinB]
    try (first | omega | (simp at *; omega))

set_option maxHeartbeats 4000000 in
theorem mayr_E (w : World) (op : Nat) (hop : op = 16 ∨ op = 17 ∨ op = 18) (dst src off : Int) (imm : Nat) (hi : imm < 4294967296) :
    Calls Try.prog 17 #[.agg #[.int .i64 (op : Int), .int .i64 dst, .int .i64 src, .int .i64 off, .int .u32 (imm : Int)]] w fun e w' => e = .returned (.bool (withinB true dst 0 9 && (withinB true src 0 9 && (withinB true off (-32768) 32767 && decide (imm ≤ 0))))) ∧ Below w.heap.size w w' := by
  have hu : ∀ W : World, Calls Try.prog 28 #[.int .i64 (op : Int)] W fun e w' => e = .returned (.tuple #[.bool true, .bool true, .bool true, .bool false, .bool true]) ∧ W = w' := fun W => by
    rcases hop with rfl | rfl | rfl
    · exact uses_16 W
    · exact uses_17 W
    · exact uses_18 W
  have : decide ((op : Int) ≥ 16) = true := by simp; omega
  have : decide (16 ≤ (op : Int)) = true := by simp; omega
  have : decide ((op : Int) ≥ 19) = false := by simp; omega
  have : decide (19 ≤ (op : Int)) = false := by simp; omega
  have : decide ((op : Int) ≤ 18) = true := by simp; omega
  have : ((op : Int) == 12) = false := by simp; omega
  have : ((op : Int) != 12) = true := by simp; omega
  have : ((op : Int) == 13) = false := by simp; omega
  have : ((op : Int) != 13) = true := by simp; omega
  have : ((op : Int) == 23) = false := by simp; omega
  have : ((op : Int) != 23) = true := by simp; omega
  clear hop
  have HU := Lib.hid hu; clear hu
  go_enter Try.func17, Try.ntmps17
  go_wp2_with (go_at_call 28; refine (HU.out _).mono ?_; rintro e w' ⟨rfl, rfl⟩)
  all_goals
    go_ret
    refine ⟨?_, (Below.refl _ _).alloc (Nat.le_refl _) _⟩
    refine congrArg (fun b => Ending.returned (.bool b)) ?_
    rw [Bool.eq_iff_iff]
    simp [withinB]
    try (first | omega | (simp at *; omega))

end Go.Proofs.Ytjlddhnjbjhmkaa
namespace Go.Proofs.Ytjlddhnjbjhmkaa
open Go.RowKit

set_option maxHeartbeats 4000000 in
theorem mayr_F (w : World) (dst src off : Int) (imm : Nat) (hi : imm < 4294967296) :
    Calls Try.prog 17 #[.agg #[.int .i64 19, .int .i64 dst, .int .i64 src, .int .i64 off, .int .u32 (imm : Int)]] w fun e w' => e = .returned (.bool (withinB false dst 0 9 && (withinB false src 0 9 && (withinB true off 0 255 && decide (imm ≤ 0))))) ∧ Below w.heap.size w w' := by
  have hu : ∀ W : World, Calls Try.prog 28 #[.int .i64 19] W fun e w' => e = .returned (.tuple #[.bool false, .bool false, .bool true, .bool false, .bool true]) ∧ W = w' := fun W => uses_19 W
  have HU := Lib.hid hu; clear hu
  go_enter Try.func17, Try.ntmps17
  go_wp2_with (go_at_call 28; refine (HU.out _).mono ?_; rintro e w' ⟨rfl, rfl⟩)
  all_goals
    go_ret
    refine ⟨?_, (Below.refl _ _).alloc (Nat.le_refl _) _⟩
    refine congrArg (fun b => Ending.returned (.bool b)) ?_
    rw [Bool.eq_iff_iff]
    simp [withinB]
    try (first | omega | (simp at *; omega))

set_option maxHeartbeats 4000000 in
theorem mayr_G (w : World) (op : Nat) (hop : op = 20 ∨ op = 21) (dst src off : Int) (imm : Nat) (hi : imm < 4294967296) :
    Calls Try.prog 17 #[.agg #[.int .i64 (op : Int), .int .i64 dst, .int .i64 src, .int .i64 off, .int .u32 (imm : Int)]] w fun e w' => e = .returned (.bool (withinB true dst 0 9 && (withinB false src 0 9 && (withinB true off 0 255 && decide (imm ≤ 4294967295))))) ∧ Below w.heap.size w w' := by
  have hu : ∀ W : World, Calls Try.prog 28 #[.int .i64 (op : Int)] W fun e w' => e = .returned (.tuple #[.bool true, .bool false, .bool true, .bool true, .bool true]) ∧ W = w' := fun W => by
    rcases hop with rfl | rfl
    · exact uses_20 W
    · exact uses_21 W
  have : decide ((op : Int) ≥ 16) = true := by simp; omega
  have : decide (16 ≤ (op : Int)) = true := by simp; omega
  have : decide ((op : Int) ≥ 19) = true := by simp; omega
  have : decide (19 ≤ (op : Int)) = true := by simp; omega
  have : decide ((op : Int) ≤ 18) = false := by simp; omega
  have : ((op : Int) == 12) = false := by simp; omega
  have : ((op : Int) != 12) = true := by simp; omega
  have : ((op : Int) == 13) = false := by simp; omega
  have : ((op : Int) != 13) = true := by simp; omega
  have : ((op : Int) == 23) = false := by simp; omega
  have : ((op : Int) != 23) = true := by simp; omega
  clear hop
  have HU := Lib.hid hu; clear hu
  go_enter Try.func17, Try.ntmps17
  go_wp2_with (go_at_call 28; refine (HU.out _).mono ?_; rintro e w' ⟨rfl, rfl⟩)
  all_goals
    go_ret
    refine ⟨?_, (Below.refl _ _).alloc (Nat.le_refl _) _⟩
    refine congrArg (fun b => Ending.returned (.bool b)) ?_
    rw [Bool.eq_iff_iff]
    simp [withinB]
    try (first | omega | (simp at *; omega))

set_option maxHeartbeats 4000000 in
theorem mayr_H (w : World) (dst src off : Int) (imm : Nat) (hi : imm < 4294967296) :
    Calls Try.prog 17 #[.agg #[.int .i64 22, .int .i64 dst, .int .i64 src, .int .i64 off, .int .u32 (imm : Int)]] w fun e w' => e = .returned (.bool (withinB true dst 0 9 && (withinB true src 0 9 && (withinB true off 0 255 && decide (imm ≤ 0))))) ∧ Below w.heap.size w w' := by
  have hu : ∀ W : World, Calls Try.prog 28 #[.int .i64 22] W fun e w' => e = .returned (.tuple #[.bool true, .bool true, .bool true, .bool false, .bool true]) ∧ W = w' := fun W => uses_22 W
  have HU := Lib.hid hu; clear hu
  go_enter Try.func17, Try.ntmps17
  go_wp2_with (go_at_call 28; refine (HU.out _).mono ?_; rintro e w' ⟨rfl, rfl⟩)
  all_goals
    go_ret
    refine ⟨?_, (Below.refl _ _).alloc (Nat.le_refl _) _⟩
    refine congrArg (fun b => Ending.returned (.bool b)) ?_
    rw [Bool.eq_iff_iff]
    simp [withinB]
    try (first | omega | (simp at *; omega))

set_option maxHeartbeats 4000000 in
theorem mayr_I (w : World) (dst src off : Int) (imm : Nat) (hi : imm < 4294967296) :
    Calls Try.prog 17 #[.agg #[.int .i64 23, .int .i64 dst, .int .i64 src, .int .i64 off, .int .u32 (imm : Int)]] w fun e w' => e = .returned (.bool (withinB false dst 0 9 && (withinB false src 0 9 && (withinB false off 0 255 && decide (imm ≤ 7))))) ∧ Below w.heap.size w w' := by
  have hu : ∀ W : World, Calls Try.prog 28 #[.int .i64 23] W fun e w' => e = .returned (.tuple #[.bool false, .bool false, .bool false, .bool true, .bool true]) ∧ W = w' := fun W => uses_23 W
  have HU := Lib.hid hu; clear hu
  go_enter Try.func17, Try.ntmps17
  go_wp2_with (go_at_call 28; refine (HU.out _).mono ?_; rintro e w' ⟨rfl, rfl⟩)
  all_goals
    go_ret
    refine ⟨?_, (Below.refl _ _).alloc (Nat.le_refl _) _⟩
    refine congrArg (fun b => Ending.returned (.bool b)) ?_
    rw [Bool.eq_iff_iff]
    simp [withinB]
    try (first | omega | (simp at *; omega))

set_option maxHeartbeats 4000000 in
theorem mayr_J (w : World) (dst src off : Int) (imm : Nat) (hi : imm < 4294967296) :
    Calls Try.prog 17 #[.agg #[.int .i64 24, .int .i64 dst, .int .i64 src, .int .i64 off, .int .u32 (imm : Int)]] w fun e w' => e = .returned (.bool (withinB false dst 0 9 && (withinB false src 0 9 && (withinB false off 0 255 && decide (imm ≤ 0))))) ∧ Below w.heap.size w w' := by
  have hu : ∀ W : World, Calls Try.prog 28 #[.int .i64 24] W fun e w' => e = .returned (.tuple #[.bool false, .bool false, .bool false, .bool false, .bool true]) ∧ W = w' := fun W => uses_24 W
  have HU := Lib.hid hu; clear hu
  go_enter Try.func17, Try.ntmps17
  go_wp2_with (go_at_call 28; refine (HU.out _).mono ?_; rintro e w' ⟨rfl, rfl⟩)
  all_goals
    go_ret
    refine ⟨?_, (Below.refl _ _).alloc (Nat.le_refl _) _⟩
    refine congrArg (fun b => Ending.returned (.bool b)) ?_
    rw [Bool.eq_iff_iff]
    simp [withinB]
    try (first | omega | (simp at *; omega))

end Go.Proofs.Ytjlddhnjbjhmkaa
namespace Go.Proofs.Ytjlddhnjbjhmkaa
open Go.RowKit

theorem mayr_in (w : World) (op : Nat) (h1 : 1 ≤ op) (h2 : op ≤ 24) (dst src off : Int) (imm : Nat) (hi : imm < 4294967296) :
    Calls Try.prog 17 #[.agg #[.int .i64 (op : Int), .int .i64 dst, .int .i64 src, .int .i64 off, .int .u32 (imm : Int)]] w fun e w' => e = .returned (.bool (mayN op dst src off imm)) ∧ Below w.heap.size w w' := by
  have hc : op = 1 ∨ op = 2 ∨ op = 3 ∨ op = 4 ∨ op = 5 ∨ op = 6 ∨ op = 7 ∨ op = 8 ∨ op = 9 ∨ op = 10 ∨ op = 11 ∨ op = 12 ∨ op = 13 ∨ op = 14 ∨ op = 15 ∨ op = 16 ∨ op = 17 ∨ op = 18 ∨ op = 19 ∨ op = 20 ∨ op = 21 ∨ op = 22 ∨ op = 23 ∨ op = 24 := by omega
  rcases hc with rfl | rfl | rfl | rfl | rfl | rfl | rfl | rfl | rfl | rfl | rfl | rfl | rfl | rfl | rfl | rfl | rfl | rfl | rfl | rfl | rfl | rfl | rfl | rfl
  · exact mayr_A w 1 (by omega) dst src off imm hi
  · exact mayr_D w 2 (by omega) dst src off imm hi
  · exact mayr_A w 3 (by omega) dst src off imm hi
  · exact mayr_D w 4 (by omega) dst src off imm hi
  · exact mayr_D w 5 (by omega) dst src off imm hi
  · exact mayr_A w 6 (by omega) dst src off imm hi
  · exact mayr_D w 7 (by omega) dst src off imm hi
  · exact mayr_A w 8 (by omega) dst src off imm hi
  · exact mayr_D w 9 (by omega) dst src off imm hi
  · exact mayr_D w 10 (by omega) dst src off imm hi
  · exact mayr_D w 11 (by omega) dst src off imm hi
  · exact mayr_B w dst src off imm hi
  · exact mayr_C w dst src off imm hi
  · exact mayr_D w 14 (by omega) dst src off imm hi
  · exact mayr_D w 15 (by omega) dst src off imm hi
  · exact mayr_E w 16 (by omega) dst src off imm hi
  · exact mayr_E w 17 (by omega) dst src off imm hi
  · exact mayr_E w 18 (by omega) dst src off imm hi
  · exact mayr_F w dst src off imm hi
  · exact mayr_G w 20 (by omega) dst src off imm hi
  · exact mayr_G w 21 (by omega) dst src off imm hi
  · exact mayr_H w dst src off imm hi
  · exact mayr_I w dst src off imm hi
  · exact mayr_J w dst src off imm hi
theorem mayr_any (w : World) (i : InsZ) (hi : i.imm < 4294967296) : Calls Try.prog 17 #[insZV i] w fun e w' => e = .returned (.bool (mayB i)) ∧ Below w.heap.size w w' := by
  obtain ⟨op, dst, src, off, imm⟩ := i
  by_cases h : 1 ≤ op ∧ op ≤ 24
  · obtain ⟨n, rfl⟩ := Int.eq_ofNat_of_zero_le (show 0 ≤ op by omega)
    have e : mayB ⟨(n : Int), dst, src, off, imm⟩ = mayN n dst src off imm := by
      unfold mayB
      simp only [Int.toNat_natCast]
      rw [decide_eq_true h.1, decide_eq_true h.2]
      simp
    rw [e]
    exact mayr_in w n (by omega) (by omega) dst src off imm hi
  · have e : mayB ⟨op, dst, src, off, imm⟩ = false := by
      unfold mayB
      by_cases h1 : 1 ≤ op
      · rw [decide_eq_false (show ¬ op ≤ 24 by omega)]; simp
      · rw [decide_eq_false h1]; simp
    rw [e]
    have H := Lib.hid h; clear h e
    unfold insZV
    go_enter Try.func17, Try.ntmps17
    go_wp2_with (go_at_call 28; refine (uses_out _ _ (by have := H.out; omega)).mono ?_; rintro e w' ⟨rfl, rfl⟩)
    go_ret
    exact ⟨rfl, (Below.refl _ _).alloc (Nat.le_refl _) _⟩

theorem checkr_ok (w : World) (ctx : Int) (A : Option Addr) (c : Nat) (pr : List InsZ) {ok : Nat → Prop} (h : Sl w ok 5 A pr.length c (pr.flatMap insZC)) (hpl : pr.length ≤ 1000000) (him : ∀ i, i ∈ pr → i.imm < 4294967296) :
    Calls Try.prog 26 #[.agg #[.int .i64 ctx, .slice A pr.length c]] w fun e w' => e = .returned (.int .i64 (checkN ctx pr)) ∧ Below w.heap.size w w' := by
  have HIM := Lib.hid him; clear him
  go_enter Try.func26, Try.ntmps26
  by_cases hc : ctx < 0
  · have hcn : checkN ctx pr = 2 := by unfold checkN; rw [if_pos (.inl hc)]
    rw [hcn]
    clear hcn
    go_wp2
    go_ret
    exact ⟨rfl, (Below.refl _ _).alloc (Nat.le_refl _) _⟩
  by_cases hc2 : 256 < ctx
  · have hcn : checkN ctx pr = 2 := by unfold checkN; rw [if_pos (.inr hc2)]
    rw [hcn]
    clear hcn
    go_wp2
    go_ret
    exact ⟨rfl, (Below.refl _ _).alloc (Nat.le_refl _) _⟩
  go_wp2
  go_loopw [3] (fun i wr => CR w ctx pr A c i wr) (fun i _ => pr.length - (intOf i).toNat)
  case atStart => exact ⟨0, Nat.zero_le _, rfl, rfl, Below.refl _ _⟩
  case round =>
    obtain ⟨k, hk, rfl, hal, hb⟩ := hrel
    have c1 : wr.cell? ⟨w.heap.size, 1, none⟩ = some (.slice A pr.length c) := (hb.cell (p := ⟨w.heap.size, 1, none⟩) (by simp)).trans (by simp [go_sem])
    have hz : w.heap.size < wr.heap.size := (by have := hb.size; simp at this; omega)
    have hbw : Below w.heap.size w wr := ((Below.refl _ _).alloc (Nat.le_refl _) _).trans (hb.mono (by omega))
    by_cases hlt : k < pr.length
    · obtain ⟨i, hi⟩ : ∃ i, pr[k]? = some i := ⟨_, List.getElem?_eq_getElem hlt⟩
      obtain ⟨a, rfl, _, hab, hcl⟩ := h.at_ (j := k * 5) (by omega)
      have hld : ∀ j v, (insZC i)[j]? = some v → wr.cell? ((a.add (k * 5)).add j) = some v := fun j v hv => by
        have hj : j < 5 := by
          rcases Nat.lt_or_ge j 5 with h | h
          · exact h
          · rw [List.getElem?_eq_none (by simpa [insZC] using h)] at hv; cases hv
        rw [add_add]
        have := hcl (k * 5 + j) v (by rw [insZ_cells pr k j i hi hj]; exact hv)
        exact (World.cell?_of_block (hbw.block _ (by rw [add_block]; exact hab))).trans this
      have HL := Lib.hid hld; clear hld
      have hmay := fun W => mayr_any W i (HIM.out i (List.mem_of_getElem? hi))
      have HB := Lib.hid hb; clear hb
      have HI := Lib.hid hi; clear hi
      have HA := Lib.hid hal; clear hal
      have HW := Lib.hid hbw; clear hbw
      have HCL := Lib.hid hcl; clear hcl
      by_cases hm : mayB i = true
      · have hmay' : ∀ W : World, Calls Try.prog 17 #[.agg #[.int .i64 i.op, .int .i64 i.dst, .int .i64 i.src, .int .i64 i.off, .int .u32 (i.imm : Int)]] W fun e w' => e = .returned (.bool true) ∧ Below W.heap.size W w' := fun W => by
          have := hmay W
          rw [hm] at this
          exact this
        clear hmay
        have HM := Lib.hid hmay'; clear hmay'
        have Hm := Lib.hid hm; clear hm
        go_wp2_with (first | (refine wpList_value (.agg #[.int .i64 i.op, .int .i64 i.dst, .int .i64 i.src, .int .i64 i.off, .int .u32 (i.imm : Int)]) rfl (exec_load_at 45 (.tmp 22) rfl (a.add (k * 5)) rfl (insZC i) _ HL.out Try.underlying45 rfl size_ins) ?_) | (go_at_call 17; refine (HM.out _).mono ?_; rintro e w1 ⟨rfl, hb1⟩; obtain ⟨hc1, hf1⟩ := bcell hb1; have HB1 := Lib.hid hb1; clear hb1))
        go_roundw
        case rel => exact ⟨k + 1, by omega, by go_num, take_all HA.out HI.out Hm.out, HB.out.trans (HB1.out.mono (by have := HB.out.size; simp at this ⊢; omega))⟩
        case measure => simp [intOf]; omega
      · have hmf : mayB i = false := by simpa using hm
        have hmay' : ∀ W : World, Calls Try.prog 17 #[.agg #[.int .i64 i.op, .int .i64 i.dst, .int .i64 i.src, .int .i64 i.off, .int .u32 (i.imm : Int)]] W fun e w' => e = .returned (.bool false) ∧ Below W.heap.size W w' := fun W => by
          have := hmay W
          rw [hmf] at this
          exact this
        clear hmay hm
        have HM := Lib.hid hmay'; clear hmay'
        have hcn : checkN ctx pr = 2 := by unfold checkN; rw [if_neg (by omega), not_all HI.out hmf, if_pos rfl]
        have HC := Lib.hid hcn; clear hcn hmf
        go_wp2_with (first | (refine wpList_value (.agg #[.int .i64 i.op, .int .i64 i.dst, .int .i64 i.src, .int .i64 i.off, .int .u32 (i.imm : Int)]) rfl (exec_load_at 45 (.tmp 22) rfl (a.add (k * 5)) rfl (insZC i) _ HL.out Try.underlying45 rfl size_ins) ?_) | (go_at_call 17; refine (HM.out _).mono ?_; rintro e w1 ⟨rfl, hb1⟩; obtain ⟨hc1, hf1⟩ := bcell hb1; have HB1 := Lib.hid hb1; clear hb1))
        go_ret
        exact ⟨by rw [HC.out]; try rfl, HW.out.trans (HB1.out.mono (by have := HW.out.size; omega))⟩
    · obtain rfl : k = pr.length := by omega
      have hal' : pr.all mayB = true := by rw [List.take_length] at hal; exact hal
      have HA := Lib.hid hal'; clear hal hal'
      have HB := Lib.hid hb; clear hb
      have HW := Lib.hid hbw; clear hbw
      by_cases hlen : 256 < pr.length
      · have hcn : checkN ctx pr = 3 := by unfold checkN; rw [if_neg (by omega), HA.out, if_neg (by simp), if_pos hlen]
        have HC := Lib.hid hcn; clear hcn
        go_wp2
        go_ret
        exact ⟨by rw [HC.out]; try rfl, HW.out⟩
      · have hcn : checkN ctx pr = 0 := by unfold checkN; rw [if_neg (by omega), HA.out, if_neg (by simp), if_neg hlen]
        have HC := Lib.hid hcn; clear hcn
        go_wp2
        go_ret
        exact ⟨by rw [HC.out]; try rfl, HW.out⟩
end Go.Proofs.Ytjlddhnjbjhmkaa
