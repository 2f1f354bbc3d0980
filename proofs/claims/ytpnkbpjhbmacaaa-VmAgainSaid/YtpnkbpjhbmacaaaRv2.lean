/- The document's answer: may an instruction be. -/
import Derived.Test.YtpnkbpjhbmacaaaRv1
set_option linter.unusedVariables false
set_option linter.unusedSimpArgs false
namespace Go.Proofs.Ytpnkbpjhbmacaaa
open Go.RowKit

set_option maxHeartbeats 4000000 in
theorem mayr_A (w : World) (op : Nat) (hop : op = 1 ∨ op = 3 ∨ op = 6 ∨ op = 8) (dst src off : Int) (imm : Nat) (hi : imm < 4294967296) :
    Calls Try.prog 19 #[.agg #[.int .i64 (op : Int), .int .i64 dst, .int .i64 src, .int .i64 off, .int .u32 (imm : Int)]] w fun e w' => e = .returned (.bool (withinB true dst 0 9 && (withinB false src 0 9 && (withinB false off (-32768) 32767 && decide (imm ≤ 4294967295))))) ∧ Below w.heap.size w w' := by
  have hu : ∀ W : World, Calls Try.prog 27 #[.int .i64 (op : Int)] W fun e w' => e = .returned (.tuple #[.bool true, .bool false, .bool false, .bool true, .bool true]) ∧ W = w' := fun W => by
    rcases hop with rfl | rfl | rfl | rfl
    · exact uses_1 W
    · exact uses_3 W
    · exact uses_6 W
    · exact uses_8 W
  have : decide ((op : Int) ≥ 16) = false := by simp; omega
  have : decide (16 ≤ (op : Int)) = false := by simp; omega
  have : decide ((op : Int) ≥ 19) = false := by simp; omega
  have : decide (19 ≤ (op : Int)) = false := by simp; omega
  have : decide ((op : Int) ≤ 18) = true := by simp; omega
  have : ((op : Int) == 12) = false := by simp; omega
  have : ((op : Int) != 12) = true := by simp; omega
  have : ((op : Int) == 13) = false := by simp; omega
  have : ((op : Int) != 13) = true := by simp; omega
  have : ((op : Int) == 23) = false := by simp; omega
  have : ((op : Int) != 23) = true := by simp; omega
  clear hop
  have HU := Lib.hid hu; clear hu
  go_enter Try.func19, Try.ntmps19
  go_wp2_with (go_at_call 27; refine (HU.out _).mono ?_; rintro e w' ⟨rfl, rfl⟩)
  all_goals
    go_ret
    refine ⟨?_, (Below.refl _ _).alloc (Nat.le_refl _) _⟩
    refine congrArg (fun b => Ending.returned (.bool b)) ?_
    rw [Bool.eq_iff_iff]
    simp [withinB]
    try (first | omega | (simp at *; omega))

set_option maxHeartbeats 4000000 in
theorem mayr_B (w : World) (dst src off : Int) (imm : Nat) (hi : imm < 4294967296) :
    Calls Try.prog 19 #[.agg #[.int .i64 12, .int .i64 dst, .int .i64 src, .int .i64 off, .int .u32 (imm : Int)]] w fun e w' => e = .returned (.bool (withinB true dst 0 9 && (withinB false src 0 9 && (withinB false off (-32768) 32767 && decide (imm ≤ 31))))) ∧ Below w.heap.size w w' := by
  have hu : ∀ W : World, Calls Try.prog 27 #[.int .i64 12] W fun e w' => e = .returned (.tuple #[.bool true, .bool false, .bool false, .bool true, .bool true]) ∧ W = w' := fun W => uses_12 W
  have HU := Lib.hid hu; clear hu
  go_enter Try.func19, Try.ntmps19
  go_wp2_with (go_at_call 27; refine (HU.out _).mono ?_; rintro e w' ⟨rfl, rfl⟩)
  all_goals
    go_ret
    refine ⟨?_, (Below.refl _ _).alloc (Nat.le_refl _) _⟩
    refine congrArg (fun b => Ending.returned (.bool b)) ?_
    rw [Bool.eq_iff_iff]
    simp [withinB]
    try (first | omega | (simp at *; omega))

set_option maxHeartbeats 4000000 in
theorem mayr_C (w : World) (dst src off : Int) (imm : Nat) (hi : imm < 4294967296) :
    Calls Try.prog 19 #[.agg #[.int .i64 13, .int .i64 dst, .int .i64 src, .int .i64 off, .int .u32 (imm : Int)]] w fun e w' => e = .returned (.bool (withinB true dst 0 9 && (withinB false src 0 9 && (withinB false off (-32768) 32767 && decide (imm ≤ 31))))) ∧ Below w.heap.size w w' := by
  have hu : ∀ W : World, Calls Try.prog 27 #[.int .i64 13] W fun e w' => e = .returned (.tuple #[.bool true, .bool false, .bool false, .bool true, .bool true]) ∧ W = w' := fun W => uses_13 W
  have HU := Lib.hid hu; clear hu
  go_enter Try.func19, Try.ntmps19
  go_wp2_with (go_at_call 27; refine (HU.out _).mono ?_; rintro e w' ⟨rfl, rfl⟩)
  all_goals
    go_ret
    refine ⟨?_, (Below.refl _ _).alloc (Nat.le_refl _) _⟩
    refine congrArg (fun b => Ending.returned (.bool b)) ?_
    rw [Bool.eq_iff_iff]
    simp [withinB]
    try (first | omega | (simp at *; omega))

set_option maxHeartbeats 4000000 in
theorem mayr_D (w : World) (op : Nat) (hop : op = 2 ∨ op = 4 ∨ op = 5 ∨ op = 7 ∨ op = 9 ∨ op = 10 ∨ op = 11 ∨ op = 14 ∨ op = 15) (dst src off : Int) (imm : Nat) (hi : imm < 4294967296) :
    Calls Try.prog 19 #[.agg #[.int .i64 (op : Int), .int .i64 dst, .int .i64 src, .int .i64 off, .int .u32 (imm : Int)]] w fun e w' => e = .returned (.bool (withinB true dst 0 9 && (withinB true src 0 9 && (withinB false off (-32768) 32767 && decide (imm ≤ 0))))) ∧ Below w.heap.size w w' := by
  have hu : ∀ W : World, Calls Try.prog 27 #[.int .i64 (op : Int)] W fun e w' => e = .returned (.tuple #[.bool true, .bool true, .bool false, .bool false, .bool true]) ∧ W = w' := fun W => by
    rcases hop with rfl | rfl | rfl | rfl | rfl | rfl | rfl | rfl | rfl
    · exact uses_2 W
    · exact uses_4 W
    · exact uses_5 W
    · exact uses_7 W
    · exact uses_9 W
    · exact uses_10 W
    · exact uses_11 W
    · exact uses_14 W
    · exact uses_15 W
  have : decide ((op : Int) ≥ 16) = false := by simp; omega
  have : decide (16 ≤ (op : Int)) = false := by simp; omega
  have : decide ((op : Int) ≥ 19) = false := by simp; omega
  have : decide (19 ≤ (op : Int)) = false := by simp; omega
  have : decide ((op : Int) ≤ 18) = true := by simp; omega
  have : ((op : Int) == 12) = false := by simp; omega
  have : ((op : Int) != 12) = true := by simp; omega
  have : ((op : Int) == 13) = false := by simp; omega
  have : ((op : Int) != 13) = true := by simp; omega
  have : ((op : Int) == 23) = false := by simp; omega
  have : ((op : Int) != 23) = true := by simp; omega
  clear hop
  have HU := Lib.hid hu; clear hu
  go_enter Try.func19, Try.ntmps19
  go_wp2_with (go_at_call 27; refine (HU.out _).mono ?_; rintro e w' ⟨rfl, rfl⟩)
  all_goals
    go_ret
    refine ⟨?_, (Below.refl _ _).alloc (Nat.le_refl _) _⟩
    refine congrArg (fun b => Ending.returned (.bool b)) ?_
    rw [Bool.eq_iff_iff]
    simp [withinB]
    try (first | omega | (simp at *; omega))

set_option maxHeartbeats 4000000 in
theorem mayr_E (w : World) (op : Nat) (hop : op = 16 ∨ op = 17 ∨ op = 18) (dst src off : Int) (imm : Nat) (hi : imm < 4294967296) :
    Calls Try.prog 19 #[.agg #[.int .i64 (op : Int), .int .i64 dst, .int .i64 src, .int .i64 off, .int .u32 (imm : Int)]] w fun e w' => e = .returned (.bool (withinB true dst 0 9 && (withinB true src 0 9 && (withinB true off (-32768) 32767 && decide (imm ≤ 0))))) ∧ Below w.heap.size w w' := by
  have hu : ∀ W : World, Calls Try.prog 27 #[.int .i64 (op : Int)] W fun e w' => e = .returned (.tuple #[.bool true, .bool true, .bool true, .bool false, .bool true]) ∧ W = w' := fun W => by
    rcases hop with rfl | rfl | rfl
    · exact uses_16 W
    · exact uses_17 W
    · exact uses_18 W
  have : decide ((op : Int) ≥ 16) = true := by simp; omega
  have : decide (16 ≤ (op : Int)) = true := by simp; omega
  have : decide ((op : Int) ≥ 19) = false := by simp; omega
  have : decide (19 ≤ (op : Int)) = false := by simp; omega
  have : decide ((op : Int) ≤ 18) = true := by simp; omega
  have : ((op : Int) == 12) = false := by simp; omega
  have : ((op : Int) != 12) = true := by simp; omega
  have : ((op : Int) == 13) = false := by simp; omega
  have : ((op : Int) != 13) = true := by simp; omega
  have : ((op : Int) == 23) = false := by simp; omega
  have : ((op : Int) != 23) = true := by simp; omega
  clear hop
  have HU := Lib.hid hu; clear hu
  go_enter Try.func19, Try.ntmps19
  go_wp2_with (go_at_call 27; refine (HU.out _).mono ?_; rintro e w' ⟨rfl, rfl⟩)
  all_goals
    go_ret
    refine ⟨?_, (Below.refl _ _).alloc (Nat.le_refl _) _⟩
    refine congrArg (fun b => Ending.returned (.bool b)) ?_
    rw [Bool.eq_iff_iff]
    simp [withinB]
    try (first | omega | (simp at *; omega))

end Go.Proofs.Ytpnkbpjhbmacaaa
