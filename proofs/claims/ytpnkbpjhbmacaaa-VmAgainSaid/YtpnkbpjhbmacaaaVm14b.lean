/- May an instruction be: code.may, of some Ops. -/
import Derived.Test.YtpnkbpjhbmacaaaVm14a
set_option linter.unusedVariables false
set_option linter.unusedSimpArgs false
namespace Go.Proofs.Ytpnkbpjhbmacaaa
open Go.RowKit

set_option maxHeartbeats 4000000 in
theorem may_A (w : World) (op : Nat) (hop : op = 1 ∨ op = 3 ∨ op = 6 ∨ op = 8) (dst src off : Int) (imm : Nat) :
    Calls Try.prog 37 #[.agg #[.int .i64 (op : Int), .int .i64 dst, .int .i64 src, .int .i64 off, .int .u32 (imm : Int)]] w fun e w' => e = .returned (.bool (withinB true dst 0 9 && (withinB false src 0 9 && (withinB false off (-32768) 32767 && decide (imm ≤ 4294967295))))) ∧ Below w.heap.size w w' := by
  have hof : ∀ W : World, Calls Try.prog 47 #[.int .i64 (op : Int)] W fun e W' => (∃ s : ByteArray, e = .returned (.tuple #[.agg #[.string s, .int .i64 9], .bool true])) ∧ Below W.heap.size W W' := fun W => by
    have hu : usesN op = 9 := by rcases hop with rfl | rfl | rfl | rfl <;> rfl
    have := of_ok W op (by omega) (by omega)
    rw [hu] at this
    exact this
  have hge : decide ((op : Int) ≥ 19) = false := by simp; omega
  have hge2 : decide (19 ≤ (op : Int)) = false := by simp; omega
  have h12 : ((op : Int) == 12) = false := by simp; omega
  have h13 : ((op : Int) == 13) = false := by simp; omega
  have h23 : ((op : Int) == 23) = false := by simp; omega
  clear hop
  obtain ⟨x, hx⟩ : ∃ x, withinB true dst 0 9 = x := ⟨_, rfl⟩
  obtain ⟨y, hy⟩ : ∃ x, withinB false src 0 9 = x := ⟨_, rfl⟩
  obtain ⟨z, hz⟩ : ∃ x, withinB false off (-32768) 32767 = x := ⟨_, rfl⟩
  obtain ⟨v, hv⟩ : ∃ x, decide (imm ≤ 4294967295) = x := ⟨_, rfl⟩
  rw [hx, hy, hz, hv]
  have hv2 : decide ((imm : Int) ≤ 4294967295) = v := by rw [← hv]; congr 1; exact propext (by omega)
  clear hv
  have b1 : bits BinOp.and IntKind.i64 9 1 = 1 := by kernel_rfl
  have b2 : bits BinOp.and IntKind.i64 9 2 = 0 := by kernel_rfl
  have b4 : bits BinOp.and IntKind.i64 9 4 = 0 := by kernel_rfl
  have b8 : bits BinOp.and IntKind.i64 9 8 = 8 := by kernel_rfl
  have HOF := Lib.hid hof; clear hof
  cases x
  · clear hy hz hv2
    go_enter Try.func37, Try.ntmps37
    go_wp2_with (first | (go_at_call 47; refine (HOF.out _).mono ?_; rintro e w1 ⟨⟨s, rfl⟩, hb⟩; obtain ⟨hc1, hf1⟩ := bcell hb; have hz1 : w.heap.size < w1.heap.size := (by have := hb.size; simp at this; omega); have HB1 := Lib.hid hb; clear hb) | (go_at_call 48; with_reducible refine (within_ok _ _ _ _ _).mono ?_; rintro e w' ⟨rfl, rfl⟩))
    go_ret
    exact ⟨rfl, may_below HB1.out⟩
  cases y
  · clear hz hv2
    go_enter Try.func37, Try.ntmps37
    go_wp2_with (first | (go_at_call 47; refine (HOF.out _).mono ?_; rintro e w1 ⟨⟨s, rfl⟩, hb⟩; obtain ⟨hc1, hf1⟩ := bcell hb; have hz1 : w.heap.size < w1.heap.size := (by have := hb.size; simp at this; omega); have HB1 := Lib.hid hb; clear hb) | (go_at_call 48; with_reducible refine (within_ok _ _ _ _ _).mono ?_; rintro e w' ⟨rfl, rfl⟩))
    go_ret
    exact ⟨rfl, may_below HB1.out⟩
  cases z
  · clear hv2
    go_enter Try.func37, Try.ntmps37
    go_wp2_with (first | (go_at_call 47; refine (HOF.out _).mono ?_; rintro e w1 ⟨⟨s, rfl⟩, hb⟩; obtain ⟨hc1, hf1⟩ := bcell hb; have hz1 : w.heap.size < w1.heap.size := (by have := hb.size; simp at this; omega); have HB1 := Lib.hid hb; clear hb) | (go_at_call 48; with_reducible refine (within_ok _ _ _ _ _).mono ?_; rintro e w' ⟨rfl, rfl⟩))
    go_ret
    exact ⟨rfl, may_below HB1.out⟩
  cases v
  · skip
    go_enter Try.func37, Try.ntmps37
    go_wp2_with (first | (go_at_call 47; refine (HOF.out _).mono ?_; rintro e w1 ⟨⟨s, rfl⟩, hb⟩; obtain ⟨hc1, hf1⟩ := bcell hb; have hz1 : w.heap.size < w1.heap.size := (by have := hb.size; simp at this; omega); have HB1 := Lib.hid hb; clear hb) | (go_at_call 48; with_reducible refine (within_ok _ _ _ _ _).mono ?_; rintro e w' ⟨rfl, rfl⟩))
    go_ret
    exact ⟨rfl, may_below HB1.out⟩
  · skip
    go_enter Try.func37, Try.ntmps37
    go_wp2_with (first | (go_at_call 47; refine (HOF.out _).mono ?_; rintro e w1 ⟨⟨s, rfl⟩, hb⟩; obtain ⟨hc1, hf1⟩ := bcell hb; have hz1 : w.heap.size < w1.heap.size := (by have := hb.size; simp at this; omega); have HB1 := Lib.hid hb; clear hb) | (go_at_call 48; with_reducible refine (within_ok _ _ _ _ _).mono ?_; rintro e w' ⟨rfl, rfl⟩))
    go_ret
    exact ⟨rfl, may_below HB1.out⟩

set_option maxHeartbeats 4000000 in
theorem may_B (w : World) (dst src off : Int) (imm : Nat) :
    Calls Try.prog 37 #[.agg #[.int .i64 12, .int .i64 dst, .int .i64 src, .int .i64 off, .int .u32 (imm : Int)]] w fun e w' => e = .returned (.bool (withinB true dst 0 9 && (withinB false src 0 9 && (withinB false off (-32768) 32767 && decide (imm ≤ 31))))) ∧ Below w.heap.size w w' := by
  have hof : ∀ W : World, Calls Try.prog 47 #[.int .i64 12] W fun e W' => (∃ s : ByteArray, e = .returned (.tuple #[.agg #[.string s, .int .i64 9], .bool true])) ∧ Below W.heap.size W W' := fun W => of_ok W 12 (by omega) (by omega)
  obtain ⟨x, hx⟩ : ∃ x, withinB true dst 0 9 = x := ⟨_, rfl⟩
  obtain ⟨y, hy⟩ : ∃ x, withinB false src 0 9 = x := ⟨_, rfl⟩
  obtain ⟨z, hz⟩ : ∃ x, withinB false off (-32768) 32767 = x := ⟨_, rfl⟩
  obtain ⟨v, hv⟩ : ∃ x, decide (imm ≤ 31) = x := ⟨_, rfl⟩
  rw [hx, hy, hz, hv]
  have hv2 : decide ((imm : Int) ≤ 31) = v := by rw [← hv]; congr 1; exact propext (by omega)
  clear hv
  have b1 : bits BinOp.and IntKind.i64 9 1 = 1 := by kernel_rfl
  have b2 : bits BinOp.and IntKind.i64 9 2 = 0 := by kernel_rfl
  have b4 : bits BinOp.and IntKind.i64 9 4 = 0 := by kernel_rfl
  have b8 : bits BinOp.and IntKind.i64 9 8 = 8 := by kernel_rfl
  have HOF := Lib.hid hof; clear hof
  cases x
  · clear hy hz hv2
    go_enter Try.func37, Try.ntmps37
    go_wp2_with (first | (go_at_call 47; refine (HOF.out _).mono ?_; rintro e w1 ⟨⟨s, rfl⟩, hb⟩; obtain ⟨hc1, hf1⟩ := bcell hb; have hz1 : w.heap.size < w1.heap.size := (by have := hb.size; simp at this; omega); have HB1 := Lib.hid hb; clear hb) | (go_at_call 48; with_reducible refine (within_ok _ _ _ _ _).mono ?_; rintro e w' ⟨rfl, rfl⟩))
    go_ret
    exact ⟨rfl, may_below HB1.out⟩
  cases y
  · clear hz hv2
    go_enter Try.func37, Try.ntmps37
    go_wp2_with (first | (go_at_call 47; refine (HOF.out _).mono ?_; rintro e w1 ⟨⟨s, rfl⟩, hb⟩; obtain ⟨hc1, hf1⟩ := bcell hb; have hz1 : w.heap.size < w1.heap.size := (by have := hb.size; simp at this; omega); have HB1 := Lib.hid hb; clear hb) | (go_at_call 48; with_reducible refine (within_ok _ _ _ _ _).mono ?_; rintro e w' ⟨rfl, rfl⟩))
    go_ret
    exact ⟨rfl, may_below HB1.out⟩
  cases z
  · clear hv2
    go_enter Try.func37, Try.ntmps37
    go_wp2_with (first | (go_at_call 47; refine (HOF.out _).mono ?_; rintro e w1 ⟨⟨s, rfl⟩, hb⟩; obtain ⟨hc1, hf1⟩ := bcell hb; have hz1 : w.heap.size < w1.heap.size := (by have := hb.size; simp at this; omega); have HB1 := Lib.hid hb; clear hb) | (go_at_call 48; with_reducible refine (within_ok _ _ _ _ _).mono ?_; rintro e w' ⟨rfl, rfl⟩))
    go_ret
    exact ⟨rfl, may_below HB1.out⟩
  cases v
  · skip
    go_enter Try.func37, Try.ntmps37
    go_wp2_with (first | (go_at_call 47; refine (HOF.out _).mono ?_; rintro e w1 ⟨⟨s, rfl⟩, hb⟩; obtain ⟨hc1, hf1⟩ := bcell hb; have hz1 : w.heap.size < w1.heap.size := (by have := hb.size; simp at this; omega); have HB1 := Lib.hid hb; clear hb) | (go_at_call 48; with_reducible refine (within_ok _ _ _ _ _).mono ?_; rintro e w' ⟨rfl, rfl⟩))
    go_ret
    exact ⟨rfl, may_below HB1.out⟩
  · skip
    go_enter Try.func37, Try.ntmps37
    go_wp2_with (first | (go_at_call 47; refine (HOF.out _).mono ?_; rintro e w1 ⟨⟨s, rfl⟩, hb⟩; obtain ⟨hc1, hf1⟩ := bcell hb; have hz1 : w.heap.size < w1.heap.size := (by have := hb.size; simp at this; omega); have HB1 := Lib.hid hb; clear hb) | (go_at_call 48; with_reducible refine (within_ok _ _ _ _ _).mono ?_; rintro e w' ⟨rfl, rfl⟩))
    go_ret
    exact ⟨rfl, may_below HB1.out⟩

set_option maxHeartbeats 4000000 in
theorem may_C (w : World) (dst src off : Int) (imm : Nat) :
    Calls Try.prog 37 #[.agg #[.int .i64 13, .int .i64 dst, .int .i64 src, .int .i64 off, .int .u32 (imm : Int)]] w fun e w' => e = .returned (.bool (withinB true dst 0 9 && (withinB false src 0 9 && (withinB false off (-32768) 32767 && decide (imm ≤ 31))))) ∧ Below w.heap.size w w' := by
  have hof : ∀ W : World, Calls Try.prog 47 #[.int .i64 13] W fun e W' => (∃ s : ByteArray, e = .returned (.tuple #[.agg #[.string s, .int .i64 9], .bool true])) ∧ Below W.heap.size W W' := fun W => of_ok W 13 (by omega) (by omega)
  obtain ⟨x, hx⟩ : ∃ x, withinB true dst 0 9 = x := ⟨_, rfl⟩
  obtain ⟨y, hy⟩ : ∃ x, withinB false src 0 9 = x := ⟨_, rfl⟩
  obtain ⟨z, hz⟩ : ∃ x, withinB false off (-32768) 32767 = x := ⟨_, rfl⟩
  obtain ⟨v, hv⟩ : ∃ x, decide (imm ≤ 31) = x := ⟨_, rfl⟩
  rw [hx, hy, hz, hv]
  have hv2 : decide ((imm : Int) ≤ 31) = v := by rw [← hv]; congr 1; exact propext (by omega)
  clear hv
  have b1 : bits BinOp.and IntKind.i64 9 1 = 1 := by kernel_rfl
  have b2 : bits BinOp.and IntKind.i64 9 2 = 0 := by kernel_rfl
  have b4 : bits BinOp.and IntKind.i64 9 4 = 0 := by kernel_rfl
  have b8 : bits BinOp.and IntKind.i64 9 8 = 8 := by kernel_rfl
  have HOF := Lib.hid hof; clear hof
  cases x
  · clear hy hz hv2
    go_enter Try.func37, Try.ntmps37
    go_wp2_with (first | (go_at_call 47; refine (HOF.out _).mono ?_; rintro e w1 ⟨⟨s, rfl⟩, hb⟩; obtain ⟨hc1, hf1⟩ := bcell hb; have hz1 : w.heap.size < w1.heap.size := (by have := hb.size; simp at this; omega); have HB1 := Lib.hid hb; clear hb) | (go_at_call 48; with_reducible refine (within_ok _ _ _ _ _).mono ?_; rintro e w' ⟨rfl, rfl⟩))
    go_ret
    exact ⟨rfl, may_below HB1.out⟩
  cases y
  · clear hz hv2
    go_enter Try.func37, Try.ntmps37
    go_wp2_with (first | (go_at_call 47; refine (HOF.out _).mono ?_; rintro e w1 ⟨⟨s, rfl⟩, hb⟩; obtain ⟨hc1, hf1⟩ := bcell hb; have hz1 : w.heap.size < w1.heap.size := (by have := hb.size; simp at this; omega); have HB1 := Lib.hid hb; clear hb) | (go_at_call 48; with_reducible refine (within_ok _ _ _ _ _).mono ?_; rintro e w' ⟨rfl, rfl⟩))
    go_ret
    exact ⟨rfl, may_below HB1.out⟩
  cases z
  · clear hv2
    go_enter Try.func37, Try.ntmps37
    go_wp2_with (first | (go_at_call 47; refine (HOF.out _).mono ?_; rintro e w1 ⟨⟨s, rfl⟩, hb⟩; obtain ⟨hc1, hf1⟩ := bcell hb; have hz1 : w.heap.size < w1.heap.size := (by have := hb.size; simp at this; omega); have HB1 := Lib.hid hb; clear hb) | (go_at_call 48; with_reducible refine (within_ok _ _ _ _ _).mono ?_; rintro e w' ⟨rfl, rfl⟩))
    go_ret
    exact ⟨rfl, may_below HB1.out⟩
  cases v
  · skip
    go_enter Try.func37, Try.ntmps37
    go_wp2_with (first | (go_at_call 47; refine (HOF.out _).mono ?_; rintro e w1 ⟨⟨s, rfl⟩, hb⟩; obtain ⟨hc1, hf1⟩ := bcell hb; have hz1 : w.heap.size < w1.heap.size := (by have := hb.size; simp at this; omega); have HB1 := Lib.hid hb; clear hb) | (go_at_call 48; with_reducible refine (within_ok _ _ _ _ _).mono ?_; rintro e w' ⟨rfl, rfl⟩))
    go_ret
    exact ⟨rfl, may_below HB1.out⟩
  · skip
    go_enter Try.func37, Try.ntmps37
    go_wp2_with (first | (go_at_call 47; refine (HOF.out _).mono ?_; rintro e w1 ⟨⟨s, rfl⟩, hb⟩; obtain ⟨hc1, hf1⟩ := bcell hb; have hz1 : w.heap.size < w1.heap.size := (by have := hb.size; simp at this; omega); have HB1 := Lib.hid hb; clear hb) | (go_at_call 48; with_reducible refine (within_ok _ _ _ _ _).mono ?_; rintro e w' ⟨rfl, rfl⟩))
    go_ret
    exact ⟨rfl, may_below HB1.out⟩

set_option maxHeartbeats 4000000 in
theorem may_D (w : World) (op : Nat) (hop : op = 2 ∨ op = 4 ∨ op = 5 ∨ op = 7 ∨ op = 9 ∨ op = 10 ∨ op = 11 ∨ op = 14 ∨ op = 15) (dst src off : Int) (imm : Nat) :
    Calls Try.prog 37 #[.agg #[.int .i64 (op : Int), .int .i64 dst, .int .i64 src, .int .i64 off, .int .u32 (imm : Int)]] w fun e w' => e = .returned (.bool (withinB true dst 0 9 && (withinB true src 0 9 && (withinB false off (-32768) 32767 && decide (imm ≤ 0))))) ∧ Below w.heap.size w w' := by
  have hof : ∀ W : World, Calls Try.prog 47 #[.int .i64 (op : Int)] W fun e W' => (∃ s : ByteArray, e = .returned (.tuple #[.agg #[.string s, .int .i64 3], .bool true])) ∧ Below W.heap.size W W' := fun W => by
    have hu : usesN op = 3 := by rcases hop with rfl | rfl | rfl | rfl | rfl | rfl | rfl | rfl | rfl <;> rfl
    have := of_ok W op (by omega) (by omega)
    rw [hu] at this
    exact this
  have hge : decide ((op : Int) ≥ 19) = false := by simp; omega
  have hge2 : decide (19 ≤ (op : Int)) = false := by simp; omega
  clear hop
  obtain ⟨x, hx⟩ : ∃ x, withinB true dst 0 9 = x := ⟨_, rfl⟩
  obtain ⟨y, hy⟩ : ∃ x, withinB true src 0 9 = x := ⟨_, rfl⟩
  obtain ⟨z, hz⟩ : ∃ x, withinB false off (-32768) 32767 = x := ⟨_, rfl⟩
  obtain ⟨v, hv⟩ : ∃ x, decide (imm ≤ 0) = x := ⟨_, rfl⟩
  rw [hx, hy, hz, hv]
  have hv2 : decide (imm = 0) = v := by rw [← hv]; congr 1; exact propext (by omega)
  clear hv
  have b1 : bits BinOp.and IntKind.i64 3 1 = 1 := by kernel_rfl
  have b2 : bits BinOp.and IntKind.i64 3 2 = 2 := by kernel_rfl
  have b4 : bits BinOp.and IntKind.i64 3 4 = 0 := by kernel_rfl
  have b8 : bits BinOp.and IntKind.i64 3 8 = 0 := by kernel_rfl
  have HOF := Lib.hid hof; clear hof
  cases x
  · clear hy hz hv2
    go_enter Try.func37, Try.ntmps37
    go_wp2_with (first | (go_at_call 47; refine (HOF.out _).mono ?_; rintro e w1 ⟨⟨s, rfl⟩, hb⟩; obtain ⟨hc1, hf1⟩ := bcell hb; have hz1 : w.heap.size < w1.heap.size := (by have := hb.size; simp at this; omega); have HB1 := Lib.hid hb; clear hb) | (go_at_call 48; with_reducible refine (within_ok _ _ _ _ _).mono ?_; rintro e w' ⟨rfl, rfl⟩))
    go_ret
    exact ⟨rfl, may_below HB1.out⟩
  cases y
  · clear hz hv2
    go_enter Try.func37, Try.ntmps37
    go_wp2_with (first | (go_at_call 47; refine (HOF.out _).mono ?_; rintro e w1 ⟨⟨s, rfl⟩, hb⟩; obtain ⟨hc1, hf1⟩ := bcell hb; have hz1 : w.heap.size < w1.heap.size := (by have := hb.size; simp at this; omega); have HB1 := Lib.hid hb; clear hb) | (go_at_call 48; with_reducible refine (within_ok _ _ _ _ _).mono ?_; rintro e w' ⟨rfl, rfl⟩))
    go_ret
    exact ⟨rfl, may_below HB1.out⟩
  cases z
  · clear hv2
    go_enter Try.func37, Try.ntmps37
    go_wp2_with (first | (go_at_call 47; refine (HOF.out _).mono ?_; rintro e w1 ⟨⟨s, rfl⟩, hb⟩; obtain ⟨hc1, hf1⟩ := bcell hb; have hz1 : w.heap.size < w1.heap.size := (by have := hb.size; simp at this; omega); have HB1 := Lib.hid hb; clear hb) | (go_at_call 48; with_reducible refine (within_ok _ _ _ _ _).mono ?_; rintro e w' ⟨rfl, rfl⟩))
    go_ret
    exact ⟨rfl, may_below HB1.out⟩
  cases v
  · skip
    go_enter Try.func37, Try.ntmps37
    go_wp2_with (first | (go_at_call 47; refine (HOF.out _).mono ?_; rintro e w1 ⟨⟨s, rfl⟩, hb⟩; obtain ⟨hc1, hf1⟩ := bcell hb; have hz1 : w.heap.size < w1.heap.size := (by have := hb.size; simp at this; omega); have HB1 := Lib.hid hb; clear hb) | (go_at_call 48; with_reducible refine (within_ok _ _ _ _ _).mono ?_; rintro e w' ⟨rfl, rfl⟩))
    go_ret
    exact ⟨rfl, may_below HB1.out⟩
  · skip
    go_enter Try.func37, Try.ntmps37
    go_wp2_with (first | (go_at_call 47; refine (HOF.out _).mono ?_; rintro e w1 ⟨⟨s, rfl⟩, hb⟩; obtain ⟨hc1, hf1⟩ := bcell hb; have hz1 : w.heap.size < w1.heap.size := (by have := hb.size; simp at this; omega); have HB1 := Lib.hid hb; clear hb) | (go_at_call 48; with_reducible refine (within_ok _ _ _ _ _).mono ?_; rintro e w' ⟨rfl, rfl⟩))
    go_ret
    exact ⟨rfl, may_below HB1.out⟩

set_option maxHeartbeats 4000000 in
theorem may_E (w : World) (op : Nat) (hop : op = 16 ∨ op = 17 ∨ op = 18) (dst src off : Int) (imm : Nat) :
    Calls Try.prog 37 #[.agg #[.int .i64 (op : Int), .int .i64 dst, .int .i64 src, .int .i64 off, .int .u32 (imm : Int)]] w fun e w' => e = .returned (.bool (withinB true dst 0 9 && (withinB true src 0 9 && (withinB true off (-32768) 32767 && decide (imm ≤ 0))))) ∧ Below w.heap.size w w' := by
  have hof : ∀ W : World, Calls Try.prog 47 #[.int .i64 (op : Int)] W fun e W' => (∃ s : ByteArray, e = .returned (.tuple #[.agg #[.string s, .int .i64 7], .bool true])) ∧ Below W.heap.size W W' := fun W => by
    have hu : usesN op = 7 := by rcases hop with rfl | rfl | rfl <;> rfl
    have := of_ok W op (by omega) (by omega)
    rw [hu] at this
    exact this
  have hge : decide ((op : Int) ≥ 19) = false := by simp; omega
  have hge2 : decide (19 ≤ (op : Int)) = false := by simp; omega
  clear hop
  obtain ⟨x, hx⟩ : ∃ x, withinB true dst 0 9 = x := ⟨_, rfl⟩
  obtain ⟨y, hy⟩ : ∃ x, withinB true src 0 9 = x := ⟨_, rfl⟩
  obtain ⟨z, hz⟩ : ∃ x, withinB true off (-32768) 32767 = x := ⟨_, rfl⟩
  obtain ⟨v, hv⟩ : ∃ x, decide (imm ≤ 0) = x := ⟨_, rfl⟩
  rw [hx, hy, hz, hv]
  have hv2 : decide (imm = 0) = v := by rw [← hv]; congr 1; exact propext (by omega)
  clear hv
  have b1 : bits BinOp.and IntKind.i64 7 1 = 1 := by kernel_rfl
  have b2 : bits BinOp.and IntKind.i64 7 2 = 2 := by kernel_rfl
  have b4 : bits BinOp.and IntKind.i64 7 4 = 4 := by kernel_rfl
  have b8 : bits BinOp.and IntKind.i64 7 8 = 0 := by kernel_rfl
  have HOF := Lib.hid hof; clear hof
  cases x
  · clear hy hz hv2
    go_enter Try.func37, Try.ntmps37
    go_wp2_with (first | (go_at_call 47; refine (HOF.out _).mono ?_; rintro e w1 ⟨⟨s, rfl⟩, hb⟩; obtain ⟨hc1, hf1⟩ := bcell hb; have hz1 : w.heap.size < w1.heap.size := (by have := hb.size; simp at this; omega); have HB1 := Lib.hid hb; clear hb) | (go_at_call 48; with_reducible refine (within_ok _ _ _ _ _).mono ?_; rintro e w' ⟨rfl, rfl⟩))
    go_ret
    exact ⟨rfl, may_below HB1.out⟩
  cases y
  · clear hz hv2
    go_enter Try.func37, Try.ntmps37
    go_wp2_with (first | (go_at_call 47; refine (HOF.out _).mono ?_; rintro e w1 ⟨⟨s, rfl⟩, hb⟩; obtain ⟨hc1, hf1⟩ := bcell hb; have hz1 : w.heap.size < w1.heap.size := (by have := hb.size; simp at this; omega); have HB1 := Lib.hid hb; clear hb) | (go_at_call 48; with_reducible refine (within_ok _ _ _ _ _).mono ?_; rintro e w' ⟨rfl, rfl⟩))
    go_ret
    exact ⟨rfl, may_below HB1.out⟩
  cases z
  · clear hv2
    go_enter Try.func37, Try.ntmps37
    go_wp2_with (first | (go_at_call 47; refine (HOF.out _).mono ?_; rintro e w1 ⟨⟨s, rfl⟩, hb⟩; obtain ⟨hc1, hf1⟩ := bcell hb; have hz1 : w.heap.size < w1.heap.size := (by have := hb.size; simp at this; omega); have HB1 := Lib.hid hb; clear hb) | (go_at_call 48; with_reducible refine (within_ok _ _ _ _ _).mono ?_; rintro e w' ⟨rfl, rfl⟩))
    go_ret
    exact ⟨rfl, may_below HB1.out⟩
  cases v
  · skip
    go_enter Try.func37, Try.ntmps37
    go_wp2_with (first | (go_at_call 47; refine (HOF.out _).mono ?_; rintro e w1 ⟨⟨s, rfl⟩, hb⟩; obtain ⟨hc1, hf1⟩ := bcell hb; have hz1 : w.heap.size < w1.heap.size := (by have := hb.size; simp at this; omega); have HB1 := Lib.hid hb; clear hb) | (go_at_call 48; with_reducible refine (within_ok _ _ _ _ _).mono ?_; rintro e w' ⟨rfl, rfl⟩))
    go_ret
    exact ⟨rfl, may_below HB1.out⟩
  · skip
    go_enter Try.func37, Try.ntmps37
    go_wp2_with (first | (go_at_call 47; refine (HOF.out _).mono ?_; rintro e w1 ⟨⟨s, rfl⟩, hb⟩; obtain ⟨hc1, hf1⟩ := bcell hb; have hz1 : w.heap.size < w1.heap.size := (by have := hb.size; simp at this; omega); have HB1 := Lib.hid hb; clear hb) | (go_at_call 48; with_reducible refine (within_ok _ _ _ _ _).mono ?_; rintro e w' ⟨rfl, rfl⟩))
    go_ret
    exact ⟨rfl, may_below HB1.out⟩

end Go.Proofs.Ytpnkbpjhbmacaaa
