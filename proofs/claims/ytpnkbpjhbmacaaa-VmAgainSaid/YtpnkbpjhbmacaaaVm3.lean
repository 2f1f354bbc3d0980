/- The VM: the table of Ops, places, sources. -/
import Derived.Test.YtpnkbpjhbmacaaaVm2
import Derived.Laws.EntriesVeiled
set_option linter.unusedVariables false
set_option linter.unusedSimpArgs false
namespace Go.Proofs.Ytpnkbpjhbmacaaa
open Go.RowKit

structure Ins8 where
  op : Nat
  dst : Nat
  src : Nat
  off : Int
  imm : Nat
structure Ins8.May (i : Ins8) : Prop where
  op1 : 1 ≤ i.op
  op2 : i.op ≤ 24
  dst : i.dst < 10
  src : i.src < 10
  off1 : -32768 ≤ i.off
  off2 : i.off ≤ 32767
  jmp : 19 ≤ i.op → 0 ≤ i.off ∧ i.off ≤ 255
  imm : i.imm < 4294967296
def Ins8.useImm (i : Ins8) : Bool := i.op == 1 || i.op == 3 || i.op == 6 || i.op == 8 || i.op == 12 || i.op == 13 || i.op == 20 || i.op == 21

/-- The table of Ops. -/
def tabV : Value := .agg #[.nilFunc, .func (.func 71) #[] #[], .func (.func 71) #[] #[], .func (.func 72) #[] #[], .func (.func 72) #[] #[], .func (.func 75) #[] #[], .func (.func 73) #[] #[], .func (.func 73) #[] #[], .func (.func 74) #[] #[], .func (.func 74) #[] #[], .func (.func 76) #[] #[], .func (.func 77) #[] #[], .func (.func 78) #[] #[], .func (.func 79) #[] #[], .func (.func 80) #[] #[], .func (.func 81) #[] #[]]
theorem two_tab (w : World) : Calls Try.prog 62 #[] w fun e w' => e = .returned tabV ∧ Below w.heap.size w w' := by
  unfold tabV
  go_enter Try.func62, Try.ntmps62
  go_wp2
  refine bodyPost_ret (v := .agg #[.nilFunc, .func (.func 71) #[] #[], .func (.func 71) #[] #[], .func (.func 72) #[] #[], .func (.func 72) #[] #[], .func (.func 75) #[] #[], .func (.func 73) #[] #[], .func (.func 73) #[] #[], .func (.func 74) #[] #[], .func (.func 74) #[] #[], .func (.func 76) #[] #[], .func (.func 77) #[] #[], .func (.func 78) #[] #[], .func (.func 79) #[] #[], .func (.func 80) #[] #[], .func (.func 81) #[] #[]]) ?_ rfl ⟨rfl, (Below.refl _ _).alloc (Nat.le_refl _) _⟩
  simp [results, Try.results62, go_sem]
theorem index_tab1 (W : World) : (Instr.index 135 tabV (.int .i64 1)).run Try.prog W = .ok (.func (.func 71) #[] #[]) W := by kernel_rfl
theorem index_tab2 (W : World) : (Instr.index 135 tabV (.int .i64 2)).run Try.prog W = .ok (.func (.func 71) #[] #[]) W := by kernel_rfl
theorem index_tab3 (W : World) : (Instr.index 135 tabV (.int .i64 3)).run Try.prog W = .ok (.func (.func 72) #[] #[]) W := by kernel_rfl
theorem index_tab4 (W : World) : (Instr.index 135 tabV (.int .i64 4)).run Try.prog W = .ok (.func (.func 72) #[] #[]) W := by kernel_rfl
theorem index_tab5 (W : World) : (Instr.index 135 tabV (.int .i64 5)).run Try.prog W = .ok (.func (.func 75) #[] #[]) W := by kernel_rfl
theorem index_tab6 (W : World) : (Instr.index 135 tabV (.int .i64 6)).run Try.prog W = .ok (.func (.func 73) #[] #[]) W := by kernel_rfl
theorem index_tab7 (W : World) : (Instr.index 135 tabV (.int .i64 7)).run Try.prog W = .ok (.func (.func 73) #[] #[]) W := by kernel_rfl
theorem index_tab8 (W : World) : (Instr.index 135 tabV (.int .i64 8)).run Try.prog W = .ok (.func (.func 74) #[] #[]) W := by kernel_rfl
theorem index_tab9 (W : World) : (Instr.index 135 tabV (.int .i64 9)).run Try.prog W = .ok (.func (.func 74) #[] #[]) W := by kernel_rfl
theorem index_tab10 (W : World) : (Instr.index 135 tabV (.int .i64 10)).run Try.prog W = .ok (.func (.func 76) #[] #[]) W := by kernel_rfl
theorem index_tab11 (W : World) : (Instr.index 135 tabV (.int .i64 11)).run Try.prog W = .ok (.func (.func 77) #[] #[]) W := by kernel_rfl
theorem index_tab12 (W : World) : (Instr.index 135 tabV (.int .i64 12)).run Try.prog W = .ok (.func (.func 78) #[] #[]) W := by kernel_rfl
theorem index_tab13 (W : World) : (Instr.index 135 tabV (.int .i64 13)).run Try.prog W = .ok (.func (.func 79) #[] #[]) W := by kernel_rfl
theorem index_tab14 (W : World) : (Instr.index 135 tabV (.int .i64 14)).run Try.prog W = .ok (.func (.func 80) #[] #[]) W := by kernel_rfl
theorem index_tab15 (W : World) : (Instr.index 135 tabV (.int .i64 15)).run Try.prog W = .ok (.func (.func 81) #[] #[]) W := by kernel_rfl
theorem index_tab (op : Nat) (h1 : 1 ≤ op) (h2 : op ≤ 15) (W : World) : (Instr.index 135 tabV (.int .i64 (op : Int))).run Try.prog W = .ok (.func (.func (fn2 op)) #[] #[]) W := by
  have hc : op = 1 ∨ op = 2 ∨ op = 3 ∨ op = 4 ∨ op = 5 ∨ op = 6 ∨ op = 7 ∨ op = 8 ∨ op = 9 ∨ op = 10 ∨ op = 11 ∨ op = 12 ∨ op = 13 ∨ op = 14 ∨ op = 15 := by omega
  rcases hc with rfl | rfl | rfl | rfl | rfl | rfl | rfl | rfl | rfl | rfl | rfl | rfl | rfl | rfl | rfl
  · rw [show fn2 1 = 71 from by simp [fn2]]; exact index_tab1 W
  · rw [show fn2 2 = 71 from by simp [fn2]]; exact index_tab2 W
  · rw [show fn2 3 = 72 from by simp [fn2]]; exact index_tab3 W
  · rw [show fn2 4 = 72 from by simp [fn2]]; exact index_tab4 W
  · rw [show fn2 5 = 75 from by simp [fn2]]; exact index_tab5 W
  · rw [show fn2 6 = 73 from by simp [fn2]]; exact index_tab6 W
  · rw [show fn2 7 = 73 from by simp [fn2]]; exact index_tab7 W
  · rw [show fn2 8 = 74 from by simp [fn2]]; exact index_tab8 W
  · rw [show fn2 9 = 74 from by simp [fn2]]; exact index_tab9 W
  · rw [show fn2 10 = 76 from by simp [fn2]]; exact index_tab10 W
  · rw [show fn2 11 = 77 from by simp [fn2]]; exact index_tab11 W
  · rw [show fn2 12 = 78 from by simp [fn2]]; exact index_tab12 W
  · rw [show fn2 13 = 79 from by simp [fn2]]; exact index_tab13 W
  · rw [show fn2 14 = 80 from by simp [fn2]]; exact index_tab14 W
  · rw [show fn2 15 = 81 from by simp [fn2]]; exact index_tab15 W

theorem place_ok (w : World) (b : Nat) (off : Int) (n : Nat) (hb : b < 4294967296) (ho : -32768 ≤ off ∧ off ≤ 32767) (hn : n ≤ 4294967296) (h : 0 ≤ (b : Int) + off ∧ (b : Int) + off < n) :
    Calls Try.prog 58 #[.int .u32 (b : Int), .int .i64 off, .int .i64 (n : Int)] w fun e w' => e = .returned (.int .i64 ((b : Int) + off)) ∧ w = w' := by
  obtain ⟨h1, h2⟩ := h
  obtain ⟨h3, h4⟩ := ho
  go_enter Try.func58, Try.ntmps58
  go_wp2_with (go_at_call 43; refine (must_ok _ _).mono ?_; rintro e w' ⟨rfl, rfl⟩)
  go_ret
  exact ⟨rfl, rfl⟩
theorem place_not (w : World) (b : Nat) (off : Int) (n : Nat) (hb : b < 4294967296) (ho : -32768 ≤ off ∧ off ≤ 32767) (hn : n ≤ 4294967296) (h : ¬ (0 ≤ (b : Int) + off ∧ (b : Int) + off < n)) :
    Calls Try.prog 58 #[.int .u32 (b : Int), .int .i64 off, .int .i64 (n : Int)] w fun e w' => e = .panicked (stopP 4) ∧ w = w' := by
  obtain ⟨h3, h4⟩ := ho
  have hc : ¬ 0 ≤ (b : Int) + off ∨ (0 ≤ (b : Int) + off ∧ ¬ (b : Int) + off < n) := by omega
  clear h
  rcases hc with h1 | ⟨h1, h2⟩
  · go_enter Try.func58, Try.ntmps58
    go_wp2_with (go_at_call 43; refine (must_not _ _).mono ?_; rintro e w' ⟨rfl, rfl⟩)
    exact ⟨rfl, rfl, rfl⟩
  · go_enter Try.func58, Try.ntmps58
    go_wp2_with (go_at_call 43; refine (must_not _ _).mono ?_; rintro e w' ⟨rfl, rfl⟩)
    exact ⟨rfl, rfl, rfl⟩

theorem src_imm (w : World) (x : Nat) (i : Ins8) (h : i.useImm = true) :
    Calls Try.prog 60 #[.pointer (some ⟨x, 0, none⟩), .agg #[.int .i64 (i.op : Int), .int .i64 (i.dst : Int), .int .i64 (i.src : Int), .int .i64 i.off, .int .u32 (i.imm : Int)]] w fun e w' => e = .returned (.int .u32 (i.imm : Int)) ∧ Below w.heap.size w w' := by
  have hc : i.op = 1 ∨ i.op = 3 ∨ i.op = 6 ∨ i.op = 8 ∨ i.op = 12 ∨ i.op = 13 ∨ i.op = 20 ∨ i.op = 21 := by simpa [Ins8.useImm, or_assoc] using h
  clear h
  rcases hc with h | h | h | h | h | h | h | h <;> rw [h] <;> clear h <;> (go_enter Try.func60, Try.ntmps60; go_wp2; go_ret; exact ⟨rfl, (Below.refl _ _).alloc (Nat.le_refl _) _⟩)
theorem src_reg {w : World} {x : Nat} {f : Fx} {K : Value} {s : Vm} (hb : VmB w x f K s) (i : Ins8) (hm : i.May) (h : i.useImm = false) (hs : s.set i.src = true) :
    Calls Try.prog 60 #[.pointer (some ⟨x, 0, none⟩), .agg #[.int .i64 (i.op : Int), .int .i64 (i.dst : Int), .int .i64 (i.src : Int), .int .i64 i.off, .int .u32 (i.imm : Int)]] w fun e w' => e = .returned (.int .u32 (s.reg i.src : Int)) ∧ Below w.heap.size w w' := by
  obtain ⟨a1, a2, a3, a4, a5, a6, a7, a8⟩ : ((i.op : Int) == 1) = false ∧ ((i.op : Int) == 3) = false ∧ ((i.op : Int) == 6) = false ∧ ((i.op : Int) == 8) = false ∧ ((i.op : Int) == 12) = false ∧ ((i.op : Int) == 13) = false ∧ ((i.op : Int) == 20) = false ∧ ((i.op : Int) == 21) = false := by
    simp only [Ins8.useImm, Bool.or_eq_false_iff, beq_eq_false_iff_ne, ne_eq] at h ⊢
    omega
  have G := get_ok (VmB.below hb ((Below.refl _ _).alloc (Nat.le_refl _) (.cells #[.int .i64 (i.op : Int), .int .i64 (i.dst : Int), .int .i64 (i.src : Int), .int .i64 i.off, .int .u32 (i.imm : Int)] 50))) i.src hm.src hs
  clear h
  go_enter Try.func60, Try.ntmps60
  go_wp2_with (go_at_call 59; refine G.mono ?_; rintro e w' ⟨rfl, rfl⟩)
  go_ret
  exact ⟨rfl, (Below.refl _ _).alloc (Nat.le_refl _) _⟩
theorem src_not {w : World} {x : Nat} {f : Fx} {K : Value} {s : Vm} (hb : VmB w x f K s) (i : Ins8) (hm : i.May) (h : i.useImm = false) (hs : s.set i.src = false) :
    Calls Try.prog 60 #[.pointer (some ⟨x, 0, none⟩), .agg #[.int .i64 (i.op : Int), .int .i64 (i.dst : Int), .int .i64 (i.src : Int), .int .i64 i.off, .int .u32 (i.imm : Int)]] w fun e w' => e = .panicked (stopP 2) ∧ Below w.heap.size w w' := by
  obtain ⟨a1, a2, a3, a4, a5, a6, a7, a8⟩ : ((i.op : Int) == 1) = false ∧ ((i.op : Int) == 3) = false ∧ ((i.op : Int) == 6) = false ∧ ((i.op : Int) == 8) = false ∧ ((i.op : Int) == 12) = false ∧ ((i.op : Int) == 13) = false ∧ ((i.op : Int) == 20) = false ∧ ((i.op : Int) == 21) = false := by
    simp only [Ins8.useImm, Bool.or_eq_false_iff, beq_eq_false_iff_ne, ne_eq] at h ⊢
    omega
  have G := get_not (VmB.below hb ((Below.refl _ _).alloc (Nat.le_refl _) (.cells #[.int .i64 (i.op : Int), .int .i64 (i.dst : Int), .int .i64 (i.src : Int), .int .i64 i.off, .int .u32 (i.imm : Int)] 50))) i.src hm.src hs
  clear h
  go_enter Try.func60, Try.ntmps60
  go_wp2_with (go_at_call 59; refine G.mono ?_; rintro e w' ⟨rfl, rfl⟩)
  exact ⟨rfl, rfl, (Below.refl _ _).alloc (Nat.le_refl _) _⟩
end Go.Proofs.Ytpnkbpjhbmacaaa
