/- The document's answer: may an instruction be. -/
import Derived.Test.YtpnkbpjhbmacaaaRv1
set_option linter.unusedVariables false
set_option linter.unusedSimpArgs false
namespace Go.Proofs.Ytpnkbpjhbmacaaa
open Go.RowKit

set_option maxHeartbeats 4000000 in
theorem mayr_F (w : World) (dst src off : Int) (imm : Nat) (hi : imm < 4294967296) :
    Calls Try.prog 19 #[.agg #[.int .i64 19, .int .i64 dst, .int .i64 src, .int .i64 off, .int .u32 (imm : Int)]] w fun e w' => e = .returned (.bool (withinB false dst 0 9 && (withinB false src 0 9 && (withinB true off 0 255 && decide (imm ≤ 0))))) ∧ Below w.heap.size w w' := by
  have hu : ∀ W : World, Calls Try.prog 27 #[.int .i64 19] W fun e w' => e = .returned (.tuple #[.bool false, .bool false, .bool true, .bool false, .bool true]) ∧ W = w' := fun W => uses_19 W
  have HU := Lib.hid hu; clear hu
  go_enter Try.func19, Try.ntmps19
  go_wp2_with (go_at_call 27; refine (HU.out _).mono ?_; rintro e w' ⟨rfl, rfl⟩)
  all_goals
    go_ret
    refine ⟨?_, (Below.refl _ _).alloc (Nat.le_refl _) _⟩
    refine congrArg (fun b => Ending.returned (.bool b)) ?_
    rw [Bool.eq_iff_iff]
    simp [withinB]
    try (first | omega | (simp at *; omega))

set_option maxHeartbeats 4000000 in
theorem mayr_G (w : World) (op : Nat) (hop : op = 20 ∨ op = 21) (dst src off : Int) (imm : Nat) (hi : imm < 4294967296) :
    Calls Try.prog 19 #[.agg #[.int .i64 (op : Int), .int .i64 dst, .int .i64 src, .int .i64 off, .int .u32 (imm : Int)]] w fun e w' => e = .returned (.bool (withinB true dst 0 9 && (withinB false src 0 9 && (withinB true off 0 255 && decide (imm ≤ 4294967295))))) ∧ Below w.heap.size w w' := by
  have hu : ∀ W : World, Calls Try.prog 27 #[.int .i64 (op : Int)] W fun e w' => e = .returned (.tuple #[.bool true, .bool false, .bool true, .bool true, .bool true]) ∧ W = w' := fun W => by
    rcases hop with rfl | rfl
    · exact uses_20 W
    · exact uses_21 W
  have : decide ((op : Int) ≥ 16) = true := by simp; omega
  have : decide (16 ≤ (op : Int)) = true := by simp; omega
  have : decide ((op : Int) ≥ 19) = true := by simp; omega
  have : decide (19 ≤ (op : Int)) = true := by simp; omega
  have : decide ((op : Int) ≤ 18) = false := by simp; omega
  have : ((op : Int) == 12) = false := by simp; omega
  have : ((op : Int) != 12) = true := by simp; omega
  have : ((op : Int) == 13) = false := by simp; omega
  have : ((op : Int) != 13) = true := by simp; omega
  have : ((op : Int) == 23) = false := by simp; omega
  have : ((op : Int) != 23) = true := by simp; omega
  clear hop
  have HU := Lib.hid hu; clear hu
  go_enter Try.func19, Try.ntmps19
  go_wp2_with (go_at_call 27; refine (HU.out _).mono ?_; rintro e w' ⟨rfl, rfl⟩)
  all_goals
    go_ret
    refine ⟨?_, (Below.refl _ _).alloc (Nat.le_refl _) _⟩
    refine congrArg (fun b => Ending.returned (.bool b)) ?_
    rw [Bool.eq_iff_iff]
    simp [withinB]
    try (first | omega | (simp at *; omega))

set_option maxHeartbeats 4000000 in
theorem mayr_H (w : World) (dst src off : Int) (imm : Nat) (hi : imm < 4294967296) :
    Calls Try.prog 19 #[.agg #[.int .i64 22, .int .i64 dst, .int .i64 src, .int .i64 off, .int .u32 (imm : Int)]] w fun e w' => e = .returned (.bool (withinB true dst 0 9 && (withinB true src 0 9 && (withinB true off 0 255 && decide (imm ≤ 0))))) ∧ Below w.heap.size w w' := by
  have hu : ∀ W : World, Calls Try.prog 27 #[.int .i64 22] W fun e w' => e = .returned (.tuple #[.bool true, .bool true, .bool true, .bool false, .bool true]) ∧ W = w' := fun W => uses_22 W
  have HU := Lib.hid hu; clear hu
  go_enter Try.func19, Try.ntmps19
  go_wp2_with (go_at_call 27; refine (HU.out _).mono ?_; rintro e w' ⟨rfl, rfl⟩)
  all_goals
    go_ret
    refine ⟨?_, (Below.refl _ _).alloc (Nat.le_refl _) _⟩
    refine congrArg (fun b => Ending.returned (.bool b)) ?_
    rw [Bool.eq_iff_iff]
    simp [withinB]
    try (first | omega | (simp at *; omega))

set_option maxHeartbeats 4000000 in
theorem mayr_I (w : World) (dst src off : Int) (imm : Nat) (hi : imm < 4294967296) :
    Calls Try.prog 19 #[.agg #[.int .i64 23, .int .i64 dst, .int .i64 src, .int .i64 off, .int .u32 (imm : Int)]] w fun e w' => e = .returned (.bool (withinB false dst 0 9 && (withinB false src 0 9 && (withinB false off 0 255 && decide (imm ≤ 7))))) ∧ Below w.heap.size w w' := by
  have hu : ∀ W : World, Calls Try.prog 27 #[.int .i64 23] W fun e w' => e = .returned (.tuple #[.bool false, .bool false, .bool false, .bool true, .bool true]) ∧ W = w' := fun W => uses_23 W
  have HU := Lib.hid hu; clear hu
  go_enter Try.func19, Try.ntmps19
  go_wp2_with (go_at_call 27; refine (HU.out _).mono ?_; rintro e w' ⟨rfl, rfl⟩)
  all_goals
    go_ret
    refine ⟨?_, (Below.refl _ _).alloc (Nat.le_refl _) _⟩
    refine congrArg (fun b => Ending.returned (.bool b)) ?_
    rw [Bool.eq_iff_iff]
    simp [withinB]
    try (first | omega | (simp at *; omega))

set_option maxHeartbeats 4000000 in
theorem mayr_J (w : World) (dst src off : Int) (imm : Nat) (hi : imm < 4294967296) :
    Calls Try.prog 19 #[.agg #[.int .i64 24, .int .i64 dst, .int .i64 src, .int .i64 off, .int .u32 (imm : Int)]] w fun e w' => e = .returned (.bool (withinB false dst 0 9 && (withinB false src 0 9 && (withinB false off 0 255 && decide (imm ≤ 0))))) ∧ Below w.heap.size w w' := by
  have hu : ∀ W : World, Calls Try.prog 27 #[.int .i64 24] W fun e w' => e = .returned (.tuple #[.bool false, .bool false, .bool false, .bool false, .bool true]) ∧ W = w' := fun W => uses_24 W
  have HU := Lib.hid hu; clear hu
  go_enter Try.func19, Try.ntmps19
  go_wp2_with (go_at_call 27; refine (HU.out _).mono ?_; rintro e w' ⟨rfl, rfl⟩)
  all_goals
    go_ret
    refine ⟨?_, (Below.refl _ _).alloc (Nat.le_refl _) _⟩
    refine congrArg (fun b => Ending.returned (.bool b)) ?_
    rw [Bool.eq_iff_iff]
    simp [withinB]
    try (first | omega | (simp at *; omega))

end Go.Proofs.Ytpnkbpjhbmacaaa
