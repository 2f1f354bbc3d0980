/- May an instruction be: code.may, of some Ops. -/
import Derived.Test.YtpnkbpjhbmacaaaVm14a
set_option linter.unusedVariables false
set_option linter.unusedSimpArgs false
namespace Go.Proofs.Ytpnkbpjhbmacaaa
open Go.RowKit

set_option maxHeartbeats 4000000 in
theorem may_F (w : World) (dst src off : Int) (imm : Nat) :
    Calls Try.prog 37 #[.agg #[.int .i64 19, .int .i64 dst, .int .i64 src, .int .i64 off, .int .u32 (imm : Int)]] w fun e w' => e = .returned (.bool (withinB false dst 0 9 && (withinB false src 0 9 && (withinB true off 0 255 && decide (imm ≤ 0))))) ∧ Below w.heap.size w w' := by
  have hof : ∀ W : World, Calls Try.prog 47 #[.int .i64 19] W fun e W' => (∃ s : ByteArray, e = .returned (.tuple #[.agg #[.string s, .int .i64 4], .bool true])) ∧ Below W.heap.size W W' := fun W => of_ok W 19 (by omega) (by omega)
  obtain ⟨x, hx⟩ : ∃ x, withinB false dst 0 9 = x := ⟨_, rfl⟩
  obtain ⟨y, hy⟩ : ∃ x, withinB false src 0 9 = x := ⟨_, rfl⟩
  obtain ⟨z, hz⟩ : ∃ x, withinB true off 0 255 = x := ⟨_, rfl⟩
  obtain ⟨v, hv⟩ : ∃ x, decide (imm ≤ 0) = x := ⟨_, rfl⟩
  rw [hx, hy, hz, hv]
  have hv2 : decide (imm = 0) = v := by rw [← hv]; congr 1; exact propext (by omega)
  clear hv
  have b1 : bits BinOp.and IntKind.i64 4 1 = 0 := by kernel_rfl
  have b2 : bits BinOp.and IntKind.i64 4 2 = 0 := by kernel_rfl
  have b4 : bits BinOp.and IntKind.i64 4 4 = 4 := by kernel_rfl
  have b8 : bits BinOp.and IntKind.i64 4 8 = 0 := by kernel_rfl
  have HOF := Lib.hid hof; clear hof
  cases x
  · clear hy hz hv2
    go_enter Try.func37, Try.ntmps37
    go_wp2_with (first | (go_at_call 47; refine (HOF.out _).mono ?_; rintro e w1 ⟨⟨s, rfl⟩, hb⟩; obtain ⟨hc1, hf1⟩ := bcell hb; have hz1 : w.heap.size < w1.heap.size := (by have := hb.size; simp at this; omega); have HB1 := Lib.hid hb; clear hb) | (go_at_call 48; with_reducible refine (within_ok _ _ _ _ _).mono ?_; rintro e w' ⟨rfl, rfl⟩))
    go_ret
    exact ⟨rfl, may_below HB1.out⟩
  cases y
  · clear hz hv2
    go_enter Try.func37, Try.ntmps37
    go_wp2_with (first | (go_at_call 47; refine (HOF.out _).mono ?_; rintro e w1 ⟨⟨s, rfl⟩, hb⟩; obtain ⟨hc1, hf1⟩ := bcell hb; have hz1 : w.heap.size < w1.heap.size := (by have := hb.size; simp at this; omega); have HB1 := Lib.hid hb; clear hb) | (go_at_call 48; with_reducible refine (within_ok _ _ _ _ _).mono ?_; rintro e w' ⟨rfl, rfl⟩))
    go_ret
    exact ⟨rfl, may_below HB1.out⟩
  cases z
  · clear hv2
    go_enter Try.func37, Try.ntmps37
    go_wp2_with (first | (go_at_call 47; refine (HOF.out _).mono ?_; rintro e w1 ⟨⟨s, rfl⟩, hb⟩; obtain ⟨hc1, hf1⟩ := bcell hb; have hz1 : w.heap.size < w1.heap.size := (by have := hb.size; simp at this; omega); have HB1 := Lib.hid hb; clear hb) | (go_at_call 48; with_reducible refine (within_ok _ _ _ _ _).mono ?_; rintro e w' ⟨rfl, rfl⟩))
    go_ret
    exact ⟨rfl, may_below HB1.out⟩
  cases v
  · skip
    go_enter Try.func37, Try.ntmps37
    go_wp2_with (first | (go_at_call 47; refine (HOF.out _).mono ?_; rintro e w1 ⟨⟨s, rfl⟩, hb⟩; obtain ⟨hc1, hf1⟩ := bcell hb; have hz1 : w.heap.size < w1.heap.size := (by have := hb.size; simp at this; omega); have HB1 := Lib.hid hb; clear hb) | (go_at_call 48; with_reducible refine (within_ok _ _ _ _ _).mono ?_; rintro e w' ⟨rfl, rfl⟩))
    go_ret
    exact ⟨rfl, may_below HB1.out⟩
  · skip
    go_enter Try.func37, Try.ntmps37
    go_wp2_with (first | (go_at_call 47; refine (HOF.out _).mono ?_; rintro e w1 ⟨⟨s, rfl⟩, hb⟩; obtain ⟨hc1, hf1⟩ := bcell hb; have hz1 : w.heap.size < w1.heap.size := (by have := hb.size; simp at this; omega); have HB1 := Lib.hid hb; clear hb) | (go_at_call 48; with_reducible refine (within_ok _ _ _ _ _).mono ?_; rintro e w' ⟨rfl, rfl⟩))
    go_ret
    exact ⟨rfl, may_below HB1.out⟩

set_option maxHeartbeats 4000000 in
theorem may_G (w : World) (op : Nat) (hop : op = 20 ∨ op = 21) (dst src off : Int) (imm : Nat) :
    Calls Try.prog 37 #[.agg #[.int .i64 (op : Int), .int .i64 dst, .int .i64 src, .int .i64 off, .int .u32 (imm : Int)]] w fun e w' => e = .returned (.bool (withinB true dst 0 9 && (withinB false src 0 9 && (withinB true off 0 255 && decide (imm ≤ 4294967295))))) ∧ Below w.heap.size w w' := by
  have hof : ∀ W : World, Calls Try.prog 47 #[.int .i64 (op : Int)] W fun e W' => (∃ s : ByteArray, e = .returned (.tuple #[.agg #[.string s, .int .i64 13], .bool true])) ∧ Below W.heap.size W W' := fun W => by
    have hu : usesN op = 13 := by rcases hop with rfl | rfl <;> rfl
    have := of_ok W op (by omega) (by omega)
    rw [hu] at this
    exact this
  have hge : decide ((op : Int) ≥ 19) = true := by simp; omega
  have hge2 : decide (19 ≤ (op : Int)) = true := by simp; omega
  have h12 : ((op : Int) == 12) = false := by simp; omega
  have h13 : ((op : Int) == 13) = false := by simp; omega
  have h23 : ((op : Int) == 23) = false := by simp; omega
  clear hop
  obtain ⟨x, hx⟩ : ∃ x, withinB true dst 0 9 = x := ⟨_, rfl⟩
  obtain ⟨y, hy⟩ : ∃ x, withinB false src 0 9 = x := ⟨_, rfl⟩
  obtain ⟨z, hz⟩ : ∃ x, withinB true off 0 255 = x := ⟨_, rfl⟩
  obtain ⟨v, hv⟩ : ∃ x, decide (imm ≤ 4294967295) = x := ⟨_, rfl⟩
  rw [hx, hy, hz, hv]
  have hv2 : decide ((imm : Int) ≤ 4294967295) = v := by rw [← hv]; congr 1; exact propext (by omega)
  clear hv
  have b1 : bits BinOp.and IntKind.i64 13 1 = 1 := by kernel_rfl
  have b2 : bits BinOp.and IntKind.i64 13 2 = 0 := by kernel_rfl
  have b4 : bits BinOp.and IntKind.i64 13 4 = 4 := by kernel_rfl
  have b8 : bits BinOp.and IntKind.i64 13 8 = 8 := by kernel_rfl
  have HOF := Lib.hid hof; clear hof
  cases x
  · clear hy hz hv2
    go_enter Try.func37, Try.ntmps37
    go_wp2_with (first | (go_at_call 47; refine (HOF.out _).mono ?_; rintro e w1 ⟨⟨s, rfl⟩, hb⟩; obtain ⟨hc1, hf1⟩ := bcell hb; have hz1 : w.heap.size < w1.heap.size := (by have := hb.size; simp at this; omega); have HB1 := Lib.hid hb; clear hb) | (go_at_call 48; with_reducible refine (within_ok _ _ _ _ _).mono ?_; rintro e w' ⟨rfl, rfl⟩))
    go_ret
    exact ⟨rfl, may_below HB1.out⟩
  cases y
  · clear hz hv2
    go_enter Try.func37, Try.ntmps37
    go_wp2_with (first | (go_at_call 47; refine (HOF.out _).mono ?_; rintro e w1 ⟨⟨s, rfl⟩, hb⟩; obtain ⟨hc1, hf1⟩ := bcell hb; have hz1 : w.heap.size < w1.heap.size := (by have := hb.size; simp at this; omega); have HB1 := Lib.hid hb; clear hb) | (go_at_call 48; with_reducible refine (within_ok _ _ _ _ _).mono ?_; rintro e w' ⟨rfl, rfl⟩))
    go_ret
    exact ⟨rfl, may_below HB1.out⟩
  cases z
  · clear hv2
    go_enter Try.func37, Try.ntmps37
    go_wp2_with (first | (go_at_call 47; refine (HOF.out _).mono ?_; rintro e w1 ⟨⟨s, rfl⟩, hb⟩; obtain ⟨hc1, hf1⟩ := bcell hb; have hz1 : w.heap.size < w1.heap.size := (by have := hb.size; simp at this; omega); have HB1 := Lib.hid hb; clear hb) | (go_at_call 48; with_reducible refine (within_ok _ _ _ _ _).mono ?_; rintro e w' ⟨rfl, rfl⟩))
    go_ret
    exact ⟨rfl, may_below HB1.out⟩
  cases v
  · skip
    go_enter Try.func37, Try.ntmps37
    go_wp2_with (first | (go_at_call 47; refine (HOF.out _).mono ?_; rintro e w1 ⟨⟨s, rfl⟩, hb⟩; obtain ⟨hc1, hf1⟩ := bcell hb; have hz1 : w.heap.size < w1.heap.size := (by have := hb.size; simp at this; omega); have HB1 := Lib.hid hb; clear hb) | (go_at_call 48; with_reducible refine (within_ok _ _ _ _ _).mono ?_; rintro e w' ⟨rfl, rfl⟩))
    go_ret
    exact ⟨rfl, may_below HB1.out⟩
  · skip
    go_enter Try.func37, Try.ntmps37
    go_wp2_with (first | (go_at_call 47; refine (HOF.out _).mono ?_; rintro e w1 ⟨⟨s, rfl⟩, hb⟩; obtain ⟨hc1, hf1⟩ := bcell hb; have hz1 : w.heap.size < w1.heap.size := (by have := hb.size; simp at this; omega); have HB1 := Lib.hid hb; clear hb) | (go_at_call 48; with_reducible refine (within_ok _ _ _ _ _).mono ?_; rintro e w' ⟨rfl, rfl⟩))
    go_ret
    exact ⟨rfl, may_below HB1.out⟩

set_option maxHeartbeats 4000000 in
theorem may_H (w : World) (dst src off : Int) (imm : Nat) :
    Calls Try.prog 37 #[.agg #[.int .i64 22, .int .i64 dst, .int .i64 src, .int .i64 off, .int .u32 (imm : Int)]] w fun e w' => e = .returned (.bool (withinB true dst 0 9 && (withinB true src 0 9 && (withinB true off 0 255 && decide (imm ≤ 0))))) ∧ Below w.heap.size w w' := by
  have hof : ∀ W : World, Calls Try.prog 47 #[.int .i64 22] W fun e W' => (∃ s : ByteArray, e = .returned (.tuple #[.agg #[.string s, .int .i64 7], .bool true])) ∧ Below W.heap.size W W' := fun W => of_ok W 22 (by omega) (by omega)
  obtain ⟨x, hx⟩ : ∃ x, withinB true dst 0 9 = x := ⟨_, rfl⟩
  obtain ⟨y, hy⟩ : ∃ x, withinB true src 0 9 = x := ⟨_, rfl⟩
  obtain ⟨z, hz⟩ : ∃ x, withinB true off 0 255 = x := ⟨_, rfl⟩
  obtain ⟨v, hv⟩ : ∃ x, decide (imm ≤ 0) = x := ⟨_, rfl⟩
  rw [hx, hy, hz, hv]
  have hv2 : decide (imm = 0) = v := by rw [← hv]; congr 1; exact propext (by omega)
  clear hv
  have b1 : bits BinOp.and IntKind.i64 7 1 = 1 := by kernel_rfl
  have b2 : bits BinOp.and IntKind.i64 7 2 = 2 := by kernel_rfl
  have b4 : bits BinOp.and IntKind.i64 7 4 = 4 := by kernel_rfl
  have b8 : bits BinOp.and IntKind.i64 7 8 = 0 := by kernel_rfl
  have HOF := Lib.hid hof; clear hof
  cases x
  · clear hy hz hv2
    go_enter Try.func37, Try.ntmps37
    go_wp2_with (first | (go_at_call 47; refine (HOF.out _).mono ?_; rintro e w1 ⟨⟨s, rfl⟩, hb⟩; obtain ⟨hc1, hf1⟩ := bcell hb; have hz1 : w.heap.size < w1.heap.size := (by have := hb.size; simp at this; omega); have HB1 := Lib.hid hb; clear hb) | (go_at_call 48; with_reducible refine (within_ok _ _ _ _ _).mono ?_; rintro e w' ⟨rfl, rfl⟩))
    go_ret
    exact ⟨rfl, may_below HB1.out⟩
  cases y
  · clear hz hv2
    go_enter Try.func37, Try.ntmps37
    go_wp2_with (first | (go_at_call 47; refine (HOF.out _).mono ?_; rintro e w1 ⟨⟨s, rfl⟩, hb⟩; obtain ⟨hc1, hf1⟩ := bcell hb; have hz1 : w.heap.size < w1.heap.size := (by have := hb.size; simp at this; omega); have HB1 := Lib.hid hb; clear hb) | (go_at_call 48; with_reducible refine (within_ok _ _ _ _ _).mono ?_; rintro e w' ⟨rfl, rfl⟩))
    go_ret
    exact ⟨rfl, may_below HB1.out⟩
  cases z
  · clear hv2
    go_enter Try.func37, Try.ntmps37
    go_wp2_with (first | (go_at_call 47; refine (HOF.out _).mono ?_; rintro e w1 ⟨⟨s, rfl⟩, hb⟩; obtain ⟨hc1, hf1⟩ := bcell hb; have hz1 : w.heap.size < w1.heap.size := (by have := hb.size; simp at this; omega); have HB1 := Lib.hid hb; clear hb) | (go_at_call 48; with_reducible refine (within_ok _ _ _ _ _).mono ?_; rintro e w' ⟨rfl, rfl⟩))
    go_ret
    exact ⟨rfl, may_below HB1.out⟩
  cases v
  · skip
    go_enter Try.func37, Try.ntmps37
    go_wp2_with (first | (go_at_call 47; refine (HOF.out _).mono ?_; rintro e w1 ⟨⟨s, rfl⟩, hb⟩; obtain ⟨hc1, hf1⟩ := bcell hb; have hz1 : w.heap.size < w1.heap.size := (by have := hb.size; simp at this; omega); have HB1 := Lib.hid hb; clear hb) | (go_at_call 48; with_reducible refine (within_ok _ _ _ _ _).mono ?_; rintro e w' ⟨rfl, rfl⟩))
    go_ret
    exact ⟨rfl, may_below HB1.out⟩
  · skip
    go_enter Try.func37, Try.ntmps37
    go_wp2_with (first | (go_at_call 47; refine (HOF.out _).mono ?_; rintro e w1 ⟨⟨s, rfl⟩, hb⟩; obtain ⟨hc1, hf1⟩ := bcell hb; have hz1 : w.heap.size < w1.heap.size := (by have := hb.size; simp at this; omega); have HB1 := Lib.hid hb; clear hb) | (go_at_call 48; with_reducible refine (within_ok _ _ _ _ _).mono ?_; rintro e w' ⟨rfl, rfl⟩))
    go_ret
    exact ⟨rfl, may_below HB1.out⟩

set_option maxHeartbeats 4000000 in
theorem may_I (w : World) (dst src off : Int) (imm : Nat) :
    Calls Try.prog 37 #[.agg #[.int .i64 23, .int .i64 dst, .int .i64 src, .int .i64 off, .int .u32 (imm : Int)]] w fun e w' => e = .returned (.bool (withinB false dst 0 9 && (withinB false src 0 9 && (withinB false off 0 255 && decide (imm ≤ 7))))) ∧ Below w.heap.size w w' := by
  have hof : ∀ W : World, Calls Try.prog 47 #[.int .i64 23] W fun e W' => (∃ s : ByteArray, e = .returned (.tuple #[.agg #[.string s, .int .i64 8], .bool true])) ∧ Below W.heap.size W W' := fun W => of_ok W 23 (by omega) (by omega)
  obtain ⟨x, hx⟩ : ∃ x, withinB false dst 0 9 = x := ⟨_, rfl⟩
  obtain ⟨y, hy⟩ : ∃ x, withinB false src 0 9 = x := ⟨_, rfl⟩
  obtain ⟨z, hz⟩ : ∃ x, withinB false off 0 255 = x := ⟨_, rfl⟩
  obtain ⟨v, hv⟩ : ∃ x, decide (imm ≤ 7) = x := ⟨_, rfl⟩
  rw [hx, hy, hz, hv]
  have hv2 : decide ((imm : Int) ≤ 7) = v := by rw [← hv]; congr 1; exact propext (by omega)
  clear hv
  have b1 : bits BinOp.and IntKind.i64 8 1 = 0 := by kernel_rfl
  have b2 : bits BinOp.and IntKind.i64 8 2 = 0 := by kernel_rfl
  have b4 : bits BinOp.and IntKind.i64 8 4 = 0 := by kernel_rfl
  have b8 : bits BinOp.and IntKind.i64 8 8 = 8 := by kernel_rfl
  have HOF := Lib.hid hof; clear hof
  cases x
  · clear hy hz hv2
    go_enter Try.func37, Try.ntmps37
    go_wp2_with (first | (go_at_call 47; refine (HOF.out _).mono ?_; rintro e w1 ⟨⟨s, rfl⟩, hb⟩; obtain ⟨hc1, hf1⟩ := bcell hb; have hz1 : w.heap.size < w1.heap.size := (by have := hb.size; simp at this; omega); have HB1 := Lib.hid hb; clear hb) | (go_at_call 48; with_reducible refine (within_ok _ _ _ _ _).mono ?_; rintro e w' ⟨rfl, rfl⟩))
    go_ret
    exact ⟨rfl, may_below HB1.out⟩
  cases y
  · clear hz hv2
    go_enter Try.func37, Try.ntmps37
    go_wp2_with (first | (go_at_call 47; refine (HOF.out _).mono ?_; rintro e w1 ⟨⟨s, rfl⟩, hb⟩; obtain ⟨hc1, hf1⟩ := bcell hb; have hz1 : w.heap.size < w1.heap.size := (by have := hb.size; simp at this; omega); have HB1 := Lib.hid hb; clear hb) | (go_at_call 48; with_reducible refine (within_ok _ _ _ _ _).mono ?_; rintro e w' ⟨rfl, rfl⟩))
    go_ret
    exact ⟨rfl, may_below HB1.out⟩
  cases z
  · clear hv2
    go_enter Try.func37, Try.ntmps37
    go_wp2_with (first | (go_at_call 47; refine (HOF.out _).mono ?_; rintro e w1 ⟨⟨s, rfl⟩, hb⟩; obtain ⟨hc1, hf1⟩ := bcell hb; have hz1 : w.heap.size < w1.heap.size := (by have := hb.size; simp at this; omega); have HB1 := Lib.hid hb; clear hb) | (go_at_call 48; with_reducible refine (within_ok _ _ _ _ _).mono ?_; rintro e w' ⟨rfl, rfl⟩))
    go_ret
    exact ⟨rfl, may_below HB1.out⟩
  cases v
  · skip
    go_enter Try.func37, Try.ntmps37
    go_wp2_with (first | (go_at_call 47; refine (HOF.out _).mono ?_; rintro e w1 ⟨⟨s, rfl⟩, hb⟩; obtain ⟨hc1, hf1⟩ := bcell hb; have hz1 : w.heap.size < w1.heap.size := (by have := hb.size; simp at this; omega); have HB1 := Lib.hid hb; clear hb) | (go_at_call 48; with_reducible refine (within_ok _ _ _ _ _).mono ?_; rintro e w' ⟨rfl, rfl⟩))
    go_ret
    exact ⟨rfl, may_below HB1.out⟩
  · skip
    go_enter Try.func37, Try.ntmps37
    go_wp2_with (first | (go_at_call 47; refine (HOF.out _).mono ?_; rintro e w1 ⟨⟨s, rfl⟩, hb⟩; obtain ⟨hc1, hf1⟩ := bcell hb; have hz1 : w.heap.size < w1.heap.size := (by have := hb.size; simp at this; omega); have HB1 := Lib.hid hb; clear hb) | (go_at_call 48; with_reducible refine (within_ok _ _ _ _ _).mono ?_; rintro e w' ⟨rfl, rfl⟩))
    go_ret
    exact ⟨rfl, may_below HB1.out⟩

set_option maxHeartbeats 4000000 in
theorem may_J (w : World) (dst src off : Int) (imm : Nat) :
    Calls Try.prog 37 #[.agg #[.int .i64 24, .int .i64 dst, .int .i64 src, .int .i64 off, .int .u32 (imm : Int)]] w fun e w' => e = .returned (.bool (withinB false dst 0 9 && (withinB false src 0 9 && (withinB false off 0 255 && decide (imm ≤ 0))))) ∧ Below w.heap.size w w' := by
  have hof : ∀ W : World, Calls Try.prog 47 #[.int .i64 24] W fun e W' => (∃ s : ByteArray, e = .returned (.tuple #[.agg #[.string s, .int .i64 0], .bool true])) ∧ Below W.heap.size W W' := fun W => of_ok W 24 (by omega) (by omega)
  obtain ⟨x, hx⟩ : ∃ x, withinB false dst 0 9 = x := ⟨_, rfl⟩
  obtain ⟨y, hy⟩ : ∃ x, withinB false src 0 9 = x := ⟨_, rfl⟩
  obtain ⟨z, hz⟩ : ∃ x, withinB false off 0 255 = x := ⟨_, rfl⟩
  obtain ⟨v, hv⟩ : ∃ x, decide (imm ≤ 0) = x := ⟨_, rfl⟩
  rw [hx, hy, hz, hv]
  have hv2 : decide (imm = 0) = v := by rw [← hv]; congr 1; exact propext (by omega)
  clear hv
  have b1 : bits BinOp.and IntKind.i64 0 1 = 0 := by kernel_rfl
  have b2 : bits BinOp.and IntKind.i64 0 2 = 0 := by kernel_rfl
  have b4 : bits BinOp.and IntKind.i64 0 4 = 0 := by kernel_rfl
  have b8 : bits BinOp.and IntKind.i64 0 8 = 0 := by kernel_rfl
  have HOF := Lib.hid hof; clear hof
  cases x
  · clear hy hz hv2
    go_enter Try.func37, Try.ntmps37
    go_wp2_with (first | (go_at_call 47; refine (HOF.out _).mono ?_; rintro e w1 ⟨⟨s, rfl⟩, hb⟩; obtain ⟨hc1, hf1⟩ := bcell hb; have hz1 : w.heap.size < w1.heap.size := (by have := hb.size; simp at this; omega); have HB1 := Lib.hid hb; clear hb) | (go_at_call 48; with_reducible refine (within_ok _ _ _ _ _).mono ?_; rintro e w' ⟨rfl, rfl⟩))
    go_ret
    exact ⟨rfl, may_below HB1.out⟩
  cases y
  · clear hz hv2
    go_enter Try.func37, Try.ntmps37
    go_wp2_with (first | (go_at_call 47; refine (HOF.out _).mono ?_; rintro e w1 ⟨⟨s, rfl⟩, hb⟩; obtain ⟨hc1, hf1⟩ := bcell hb; have hz1 : w.heap.size < w1.heap.size := (by have := hb.size; simp at this; omega); have HB1 := Lib.hid hb; clear hb) | (go_at_call 48; with_reducible refine (within_ok _ _ _ _ _).mono ?_; rintro e w' ⟨rfl, rfl⟩))
    go_ret
    exact ⟨rfl, may_below HB1.out⟩
  cases z
  · clear hv2
    go_enter Try.func37, Try.ntmps37
    go_wp2_with (first | (go_at_call 47; refine (HOF.out _).mono ?_; rintro e w1 ⟨⟨s, rfl⟩, hb⟩; obtain ⟨hc1, hf1⟩ := bcell hb; have hz1 : w.heap.size < w1.heap.size := (by have := hb.size; simp at this; omega); have HB1 := Lib.hid hb; clear hb) | (go_at_call 48; with_reducible refine (within_ok _ _ _ _ _).mono ?_; rintro e w' ⟨rfl, rfl⟩))
    go_ret
    exact ⟨rfl, may_below HB1.out⟩
  cases v
  · skip
    go_enter Try.func37, Try.ntmps37
    go_wp2_with (first | (go_at_call 47; refine (HOF.out _).mono ?_; rintro e w1 ⟨⟨s, rfl⟩, hb⟩; obtain ⟨hc1, hf1⟩ := bcell hb; have hz1 : w.heap.size < w1.heap.size := (by have := hb.size; simp at this; omega); have HB1 := Lib.hid hb; clear hb) | (go_at_call 48; with_reducible refine (within_ok _ _ _ _ _).mono ?_; rintro e w' ⟨rfl, rfl⟩))
    go_ret
    exact ⟨rfl, may_below HB1.out⟩
  · skip
    go_enter Try.func37, Try.ntmps37
    go_wp2_with (first | (go_at_call 47; refine (HOF.out _).mono ?_; rintro e w1 ⟨⟨s, rfl⟩, hb⟩; obtain ⟨hc1, hf1⟩ := bcell hb; have hz1 : w.heap.size < w1.heap.size := (by have := hb.size; simp at this; omega); have HB1 := Lib.hid hb; clear hb) | (go_at_call 48; with_reducible refine (within_ok _ _ _ _ _).mono ?_; rintro e w' ⟨rfl, rfl⟩))
    go_ret
    exact ⟨rfl, may_below HB1.out⟩

end Go.Proofs.Ytpnkbpjhbmacaaa
