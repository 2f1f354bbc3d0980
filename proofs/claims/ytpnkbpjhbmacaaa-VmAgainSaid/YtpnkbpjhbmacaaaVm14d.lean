/- May an instruction be: code.may. -/
import Derived.Test.YtpnkbpjhbmacaaaVm14b
import Derived.Test.YtpnkbpjhbmacaaaVm14c
set_option linter.unusedVariables false
set_option linter.unusedSimpArgs false
namespace Go.Proofs.Ytpnkbpjhbmacaaa
open Go.RowKit

/-- Any instruction. -/
structure InsZ where
  op : Int
  dst : Int
  src : Int
  off : Int
  imm : Nat
def insZC (i : InsZ) : List Value := [.int .i64 i.op, .int .i64 i.dst, .int .i64 i.src, .int .i64 i.off, .int .u32 (i.imm : Int)]
def insZV (i : InsZ) : Value := .agg #[.int .i64 i.op, .int .i64 i.dst, .int .i64 i.src, .int .i64 i.off, .int .u32 (i.imm : Int)]
def Ins8.z (i : Ins8) : InsZ := ⟨(i.op : Int), (i.dst : Int), (i.src : Int), i.off, i.imm⟩
def uD (op : Nat) : Bool := decide (op ≤ 18) || (decide (20 ≤ op) && decide (op ≤ 22))
def uS (op : Nat) : Bool := op == 2 || op == 4 || op == 5 || op == 7 || op == 9 || op == 10 || op == 11 || (decide (14 ≤ op) && decide (op ≤ 18)) || op == 22
def uO (op : Nat) : Bool := decide (16 ≤ op) && decide (op ≤ 22)
def uI (op : Nat) : Bool := op == 1 || op == 3 || op == 6 || op == 8 || op == 12 || op == 13 || op == 20 || op == 21 || op == 23
def mostN (op : Nat) : Nat := if uI op then (if op == 12 || op == 13 then 31 else if op == 23 then 7 else 4294967295) else 0
def mayN (op : Nat) (dst src off : Int) (imm : Nat) : Bool :=
  withinB (uD op) dst 0 9 && (withinB (uS op) src 0 9 && (withinB (uO op) off (if 19 ≤ op then 0 else -32768) (if 19 ≤ op then 255 else 32767) && decide (imm ≤ mostN op)))
def mayB (i : InsZ) : Bool := decide (1 ≤ i.op) && (decide (i.op ≤ 24) && mayN i.op.toNat i.dst i.src i.off i.imm)

theorem may_in (w : World) (op : Nat) (h1 : 1 ≤ op) (h2 : op ≤ 24) (dst src off : Int) (imm : Nat) :
    Calls Try.prog 37 #[.agg #[.int .i64 (op : Int), .int .i64 dst, .int .i64 src, .int .i64 off, .int .u32 (imm : Int)]] w fun e w' => e = .returned (.bool (mayN op dst src off imm)) ∧ Below w.heap.size w w' := by
  have hc : op = 1 ∨ op = 2 ∨ op = 3 ∨ op = 4 ∨ op = 5 ∨ op = 6 ∨ op = 7 ∨ op = 8 ∨ op = 9 ∨ op = 10 ∨ op = 11 ∨ op = 12 ∨ op = 13 ∨ op = 14 ∨ op = 15 ∨ op = 16 ∨ op = 17 ∨ op = 18 ∨ op = 19 ∨ op = 20 ∨ op = 21 ∨ op = 22 ∨ op = 23 ∨ op = 24 := by omega
  rcases hc with rfl | rfl | rfl | rfl | rfl | rfl | rfl | rfl | rfl | rfl | rfl | rfl | rfl | rfl | rfl | rfl | rfl | rfl | rfl | rfl | rfl | rfl | rfl | rfl
  · exact may_A w 1 (by omega) dst src off imm
  · exact may_D w 2 (by omega) dst src off imm
  · exact may_A w 3 (by omega) dst src off imm
  · exact may_D w 4 (by omega) dst src off imm
  · exact may_D w 5 (by omega) dst src off imm
  · exact may_A w 6 (by omega) dst src off imm
  · exact may_D w 7 (by omega) dst src off imm
  · exact may_A w 8 (by omega) dst src off imm
  · exact may_D w 9 (by omega) dst src off imm
  · exact may_D w 10 (by omega) dst src off imm
  · exact may_D w 11 (by omega) dst src off imm
  · exact may_B w dst src off imm
  · exact may_C w dst src off imm
  · exact may_D w 14 (by omega) dst src off imm
  · exact may_D w 15 (by omega) dst src off imm
  · exact may_E w 16 (by omega) dst src off imm
  · exact may_E w 17 (by omega) dst src off imm
  · exact may_E w 18 (by omega) dst src off imm
  · exact may_F w dst src off imm
  · exact may_G w 20 (by omega) dst src off imm
  · exact may_G w 21 (by omega) dst src off imm
  · exact may_H w dst src off imm
  · exact may_I w dst src off imm
  · exact may_J w dst src off imm
theorem may_any (w : World) (i : InsZ) : Calls Try.prog 37 #[insZV i] w fun e w' => e = .returned (.bool (mayB i)) ∧ Below w.heap.size w w' := by
  obtain ⟨op, dst, src, off, imm⟩ := i
  by_cases h : 1 ≤ op ∧ op ≤ 24
  · obtain ⟨n, rfl⟩ := Int.eq_ofNat_of_zero_le (show 0 ≤ op by omega)
    have e : mayB ⟨(n : Int), dst, src, off, imm⟩ = mayN n dst src off imm := by
      unfold mayB
      simp only [Int.toNat_natCast]
      rw [decide_eq_true h.1, decide_eq_true h.2]
      simp
    rw [e]
    exact may_in w n (by omega) (by omega) dst src off imm
  · have e : mayB ⟨op, dst, src, off, imm⟩ = false := by
      unfold mayB
      by_cases h1 : 1 ≤ op
      · rw [decide_eq_false (show ¬ op ≤ 24 by omega)]; simp
      · rw [decide_eq_false h1]; simp
    rw [e]
    have H := Lib.hid h; clear h e
    unfold insZV
    go_enter Try.func37, Try.ntmps37
    go_wp2_with (go_at_call 47; refine (of_not _ _ (by have := H.out; omega)).mono ?_; rintro e w1 ⟨rfl, hb⟩; obtain ⟨hc1, hf1⟩ := bcell hb; have hz1 : w.heap.size < w1.heap.size := (by have := hb.size; simp at this; omega); have HB1 := Lib.hid hb; clear hb)
    go_ret
    exact ⟨rfl, may_below HB1.out⟩

theorem within_yes {u : Bool} {n l g : Int} (h : withinB u n l g = true) : (u = false ∧ n = 0) ∨ (u = true ∧ l ≤ n ∧ n ≤ g) := by
  unfold withinB at h
  cases u <;> simp at h
  · exact .inl ⟨rfl, h⟩
  · exact .inr ⟨rfl, h⟩
/-- What may be is an instruction. -/
theorem may_ins {i : InsZ} (h : mayB i = true) : ∃ j : Ins8, i = j.z ∧ j.May := by
  obtain ⟨op, dst, src, off, imm⟩ := i
  simp only [mayB, mayN, Bool.and_eq_true, decide_eq_true_eq] at h
  obtain ⟨h1, h2, h3, h4, h5, h6⟩ := h
  have k3 := within_yes h3
  have k4 := within_yes h4
  have k5 := within_yes h5
  have e1 : ((op.toNat : Nat) : Int) = op := by omega
  have k6 : mostN op.toNat ≤ 4294967295 := by
    unfold mostN
    split
    · split
      · omega
      · split <;> omega
    · omega
  refine ⟨⟨op.toNat, dst.toNat, src.toNat, off, imm⟩, ?_, ⟨?_, ?_, ?_, ?_, ?_, ?_, ?_, ?_⟩⟩
  · simp only [Ins8.z, InsZ.mk.injEq, and_true, true_and]
    refine ⟨by omega, by omega, by omega⟩
  · show 1 ≤ op.toNat; omega
  · show op.toNat ≤ 24; omega
  · show dst.toNat < 10; omega
  · show src.toNat < 10; omega
  · show -32768 ≤ off
    rcases k5 with ⟨_, k⟩ | ⟨_, k, _⟩
    · omega
    · split at k <;> omega
  · show off ≤ 32767
    rcases k5 with ⟨_, k⟩ | ⟨_, _, k⟩
    · omega
    · split at k <;> omega
  · intro h19
    have h19' : 19 ≤ op.toNat := h19
    show 0 ≤ off ∧ off ≤ 255
    rcases k5 with ⟨_, k⟩ | ⟨_, k, k'⟩
    · omega
    · rw [if_pos h19'] at k k'; exact ⟨k, k'⟩
  · show imm < 4294967296; omega
end Go.Proofs.Ytpnkbpjhbmacaaa
