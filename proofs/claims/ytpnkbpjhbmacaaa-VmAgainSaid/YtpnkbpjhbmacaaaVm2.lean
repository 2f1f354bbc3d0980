/- The VM: what Ops make of two words. -/
import Derived.Test.YtpnkbpjhbmacaaaVm1
import Derived.Laws.Bits64b
set_option linter.unusedVariables false
set_option linter.unusedSimpArgs false
namespace Go.Proofs.Ytpnkbpjhbmacaaa
open Go.RowKit

/-- What an Op makes of two words. -/
def op2 (op d s : Nat) : Nat :=
  if op ≤ 2 then s else if op ≤ 4 then (d + s) % 4294967296 else if op = 5 then (d + 4294967296 - s) % 4294967296 else if op ≤ 7 then d * s % 4294967296
  else if op ≤ 9 then d &&& s else if op = 10 then d ||| s else if op = 11 then d ^^^ s else if op = 12 then d * 2 ^ min s 32 % 4294967296 else if op = 13 then d / 2 ^ min s 32
  else if op = 14 then d / s else d % s
theorem wrapU32 (n : Int) : IntKind.u32.wrap n = n % 4294967296 := by simp [IntKind.wrap, IntKind.bits, IntKind.signed]
theorem toBV32 (a : Nat) (ha : a < 4294967296) : (BitVec.ofInt 32 (a : Int)).toNat = a := by
  rw [BitVec.ofInt_natCast, BitVec.toNat_ofNat]; exact Nat.mod_eq_of_lt (by omega)
theorem and32 (a b : Nat) (ha : a < 4294967296) (hb : b < 4294967296) : bits .and .u32 (a : Int) (b : Int) = ((a &&& b : Nat) : Int) := by
  have hx : a &&& b < 2 ^ 32 := Nat.and_lt_two_pow _ (by omega)
  show IntKind.u32.wrap ((BitVec.ofInt 32 (a : Int) &&& BitVec.ofInt 32 (b : Int)).toNat : Int) = _
  rw [BitVec.toNat_and, toBV32 a ha, toBV32 b hb, wrapU32]
  omega
theorem or32 (a b : Nat) (ha : a < 4294967296) (hb : b < 4294967296) : bits .or .u32 (a : Int) (b : Int) = ((a ||| b : Nat) : Int) := by
  have hx : a ||| b < 2 ^ 32 := Nat.or_lt_two_pow (by omega) (by omega)
  show IntKind.u32.wrap ((BitVec.ofInt 32 (a : Int) ||| BitVec.ofInt 32 (b : Int)).toNat : Int) = _
  rw [BitVec.toNat_or, toBV32 a ha, toBV32 b hb, wrapU32]
  omega
theorem xor32 (a b : Nat) (ha : a < 4294967296) (hb : b < 4294967296) : bits .xor .u32 (a : Int) (b : Int) = ((a ^^^ b : Nat) : Int) := by
  have hx : a ^^^ b < 2 ^ 32 := Nat.xor_lt_two_pow (by omega) (by omega)
  show IntKind.u32.wrap ((BitVec.ofInt 32 (a : Int) ^^^ BitVec.ofInt 32 (b : Int)).toNat : Int) = _
  rw [BitVec.toNat_xor, toBV32 a ha, toBV32 b hb, wrapU32]
  omega
theorem op2_lt (op d s : Nat) (hd : d < 4294967296) (hs : s < 4294967296) : op2 op d s < 4294967296 := by
  unfold op2
  have h1 : d &&& s < 2 ^ 32 := Nat.and_lt_two_pow _ (by omega)
  have h2 : d ||| s < 2 ^ 32 := Nat.or_lt_two_pow (by omega) (by omega)
  have h3 : d ^^^ s < 2 ^ 32 := Nat.xor_lt_two_pow (by omega) (by omega)
  have h4 : d / 2 ^ min s 32 ≤ d := Nat.div_le_self _ _
  have h5 : d / s ≤ d := Nat.div_le_self _ _
  have h6 : d % s ≤ d := Nat.mod_le _ _
  repeat' split
  all_goals omega

theorem two_copied (w : World) (a b : Nat) (ha : a < 4294967296) (hb : b < 4294967296) :
    Calls Try.prog 71 #[.int .u32 (a : Int), .int .u32 (b : Int)] w fun e w' => e = .returned (.int .u32 ((b : Nat) : Int)) ∧ w = w' := by
  have ha' : (a : Int) < 4294967296 := by omega
  have hb' : (b : Int) < 4294967296 := by omega
  have E := Lib.hid (show True from trivial)
  go_enter Try.func71, Try.ntmps71
  go_wp2_with (go_at_call 43; refine (must_ok _ _).mono ?_; rintro e w' ⟨rfl, rfl⟩)
  go_ret
  exact ⟨congrArg (fun n : Int => Ending.returned (Value.int .u32 n)) (rfl), rfl⟩

theorem two_add (w : World) (a b : Nat) (ha : a < 4294967296) (hb : b < 4294967296) :
    Calls Try.prog 72 #[.int .u32 (a : Int), .int .u32 (b : Int)] w fun e w' => e = .returned (.int .u32 (((a + b) % 4294967296 : Nat) : Int)) ∧ w = w' := by
  have ha' : (a : Int) < 4294967296 := by omega
  have hb' : (b : Int) < 4294967296 := by omega
  have E := Lib.hid (show True from trivial)
  go_enter Try.func72, Try.ntmps72
  go_wp2_with (go_at_call 43; refine (must_ok _ _).mono ?_; rintro e w' ⟨rfl, rfl⟩)
  go_ret
  exact ⟨congrArg (fun n : Int => Ending.returned (Value.int .u32 n)) (by simp), rfl⟩

theorem two_mul (w : World) (a b : Nat) (ha : a < 4294967296) (hb : b < 4294967296) :
    Calls Try.prog 73 #[.int .u32 (a : Int), .int .u32 (b : Int)] w fun e w' => e = .returned (.int .u32 ((a * b % 4294967296 : Nat) : Int)) ∧ w = w' := by
  have ha' : (a : Int) < 4294967296 := by omega
  have hb' : (b : Int) < 4294967296 := by omega
  have hm : IntKind.u64.wrap ((a : Int) * (b : Int)) = ((a * b : Nat) : Int) := by
    have h1 : a * b < 18446744073709551616 := Nat.lt_of_lt_of_le (Nat.mul_lt_mul'' ha hb) (by omega)
    rw [IntKind.wrap_u64, ← Int.natCast_mul]
    omega
  have hm2 := Lib.hid hm; clear hm
  have E := Lib.hid (show True from trivial)
  go_enter Try.func73, Try.ntmps73
  go_wp2_with (go_at_call 43; refine (must_ok _ _).mono ?_; rintro e w' ⟨rfl, rfl⟩)
  go_ret
  refine ⟨congrArg (fun n : Int => Ending.returned (Value.int .u32 n)) ?_, rfl⟩
  rw [hm2.out, Int.tmod_eq_emod_of_nonneg (by omega)]
  omega

theorem two_and (w : World) (a b : Nat) (ha : a < 4294967296) (hb : b < 4294967296) :
    Calls Try.prog 74 #[.int .u32 (a : Int), .int .u32 (b : Int)] w fun e w' => e = .returned (.int .u32 ((a &&& b : Nat) : Int)) ∧ w = w' := by
  have ha' : (a : Int) < 4294967296 := by omega
  have hb' : (b : Int) < 4294967296 := by omega
  have E := Lib.hid (show True from trivial)
  go_enter Try.func74, Try.ntmps74
  go_wp2_with (go_at_call 43; refine (must_ok _ _).mono ?_; rintro e w' ⟨rfl, rfl⟩)
  go_ret
  exact ⟨congrArg (fun n : Int => Ending.returned (Value.int .u32 n)) (and32 a b ha hb), rfl⟩

theorem two_sub (w : World) (a b : Nat) (ha : a < 4294967296) (hb : b < 4294967296) :
    Calls Try.prog 75 #[.int .u32 (a : Int), .int .u32 (b : Int)] w fun e w' => e = .returned (.int .u32 (((a + 4294967296 - b) % 4294967296 : Nat) : Int)) ∧ w = w' := by
  have ha' : (a : Int) < 4294967296 := by omega
  have hb' : (b : Int) < 4294967296 := by omega
  have E := Lib.hid (show True from trivial)
  go_enter Try.func75, Try.ntmps75
  go_wp2_with (go_at_call 43; refine (must_ok _ _).mono ?_; rintro e w' ⟨rfl, rfl⟩)
  go_ret
  exact ⟨congrArg (fun n : Int => Ending.returned (Value.int .u32 n)) (by omega), rfl⟩

theorem two_or (w : World) (a b : Nat) (ha : a < 4294967296) (hb : b < 4294967296) :
    Calls Try.prog 76 #[.int .u32 (a : Int), .int .u32 (b : Int)] w fun e w' => e = .returned (.int .u32 ((a ||| b : Nat) : Int)) ∧ w = w' := by
  have ha' : (a : Int) < 4294967296 := by omega
  have hb' : (b : Int) < 4294967296 := by omega
  have E := Lib.hid (show True from trivial)
  go_enter Try.func76, Try.ntmps76
  go_wp2_with (go_at_call 43; refine (must_ok _ _).mono ?_; rintro e w' ⟨rfl, rfl⟩)
  go_ret
  exact ⟨congrArg (fun n : Int => Ending.returned (Value.int .u32 n)) (or32 a b ha hb), rfl⟩

theorem two_xor (w : World) (a b : Nat) (ha : a < 4294967296) (hb : b < 4294967296) :
    Calls Try.prog 77 #[.int .u32 (a : Int), .int .u32 (b : Int)] w fun e w' => e = .returned (.int .u32 ((a ^^^ b : Nat) : Int)) ∧ w = w' := by
  have ha' : (a : Int) < 4294967296 := by omega
  have hb' : (b : Int) < 4294967296 := by omega
  have E := Lib.hid (show True from trivial)
  go_enter Try.func77, Try.ntmps77
  go_wp2_with (go_at_call 43; refine (must_ok _ _).mono ?_; rintro e w' ⟨rfl, rfl⟩)
  go_ret
  exact ⟨congrArg (fun n : Int => Ending.returned (Value.int .u32 n)) (xor32 a b ha hb), rfl⟩

theorem two_shl (w : World) (a b : Nat) (ha : a < 4294967296) (hb : b < 4294967296) :
    Calls Try.prog 78 #[.int .u32 (a : Int), .int .u32 (b : Int)] w fun e w' => e = .returned (.int .u32 ((a * 2 ^ min b 32 % 4294967296 : Nat) : Int)) ∧ w = w' := by
  have ha' : (a : Int) < 4294967296 := by omega
  have hb' : (b : Int) < 4294967296 := by omega
  have E := Lib.hid (show True from trivial)
  go_enter Try.func78, Try.ntmps78
  go_wp2_with (go_at_call 43; refine (must_ok _ _).mono ?_; rintro e w' ⟨rfl, rfl⟩)
  go_ret
  exact ⟨congrArg (fun n : Int => Ending.returned (Value.int .u32 n)) (by simp), rfl⟩

theorem two_shr (w : World) (a b : Nat) (ha : a < 4294967296) (hb : b < 4294967296) :
    Calls Try.prog 79 #[.int .u32 (a : Int), .int .u32 (b : Int)] w fun e w' => e = .returned (.int .u32 ((a / 2 ^ min b 32 : Nat) : Int)) ∧ w = w' := by
  have ha' : (a : Int) < 4294967296 := by omega
  have hb' : (b : Int) < 4294967296 := by omega
  have E := Lib.hid (show True from trivial)
  go_enter Try.func79, Try.ntmps79
  go_wp2_with (go_at_call 43; refine (must_ok _ _).mono ?_; rintro e w' ⟨rfl, rfl⟩)
  go_ret
  exact ⟨congrArg (fun n : Int => Ending.returned (Value.int .u32 n)) (by simp), rfl⟩

theorem two_div (w : World) (a b : Nat) (ha : a < 4294967296) (hb : b < 4294967296) (h0 : b ≠ 0) :
    Calls Try.prog 80 #[.int .u32 (a : Int), .int .u32 (b : Int)] w fun e w' => e = .returned (.int .u32 ((a / b : Nat) : Int)) ∧ w = w' := by
  have ha' : (a : Int) < 4294967296 := by omega
  have hb' : (b : Int) < 4294967296 := by omega
  have hb0 : ((b : Int) != 0) = true := by simp [h0]
  have hb1 : 0 < (b : Int) := by omega
  have hb2 : ¬ (b : Int) = 0 := by omega
  have hb3 : ((b : Int) == 0) = false := by simp [h0]
  have E := Lib.hid (show True from trivial)
  go_enter Try.func80, Try.ntmps80
  go_wp2_with (go_at_call 43; refine (must_ok _ _).mono ?_; rintro e w' ⟨rfl, rfl⟩)
  go_ret
  exact ⟨congrArg (fun n : Int => Ending.returned (Value.int .u32 n)) (by
    have h : ((a : Int) / (b : Int)) = ((a / b : Nat) : Int) := by simp
    have h2 := Nat.div_le_self a b
    rw [h]
    generalize a / b = q at h2 ⊢
    omega), rfl⟩

theorem two_mod (w : World) (a b : Nat) (ha : a < 4294967296) (hb : b < 4294967296) (h0 : b ≠ 0) :
    Calls Try.prog 81 #[.int .u32 (a : Int), .int .u32 (b : Int)] w fun e w' => e = .returned (.int .u32 ((a % b : Nat) : Int)) ∧ w = w' := by
  have ha' : (a : Int) < 4294967296 := by omega
  have hb' : (b : Int) < 4294967296 := by omega
  have hb0 : ((b : Int) != 0) = true := by simp [h0]
  have hb1 : 0 < (b : Int) := by omega
  have hb2 : ¬ (b : Int) = 0 := by omega
  have hb3 : ((b : Int) == 0) = false := by simp [h0]
  have E := Lib.hid (show True from trivial)
  go_enter Try.func81, Try.ntmps81
  go_wp2_with (go_at_call 43; refine (must_ok _ _).mono ?_; rintro e w' ⟨rfl, rfl⟩)
  go_ret
  exact ⟨congrArg (fun n : Int => Ending.returned (Value.int .u32 n)) (by simp), rfl⟩

theorem two_div0 (w : World) (a : Nat) : Calls Try.prog 80 #[.int .u32 (a : Int), .int .u32 0] w fun e w' => e = .panicked (stopP 3) ∧ w = w' := by
  go_enter Try.func80, Try.ntmps80
  go_wp2_with (go_at_call 43; refine (must_not _ _).mono ?_; rintro e w' ⟨rfl, rfl⟩)
  exact ⟨rfl, rfl, rfl⟩

theorem two_mod0 (w : World) (a : Nat) : Calls Try.prog 81 #[.int .u32 (a : Int), .int .u32 0] w fun e w' => e = .panicked (stopP 3) ∧ w = w' := by
  go_enter Try.func81, Try.ntmps81
  go_wp2_with (go_at_call 43; refine (must_not _ _).mono ?_; rintro e w' ⟨rfl, rfl⟩)
  exact ⟨rfl, rfl, rfl⟩

/-- The function of an Op of two words. -/
def fn2 (op : Nat) : Nat :=
  if op ≤ 2 then 71 else if op ≤ 4 then 72 else if op = 5 then 75 else if op ≤ 7 then 73 else if op ≤ 9 then 74
  else if op = 10 then 76 else if op = 11 then 77 else if op = 12 then 78 else if op = 13 then 79 else if op = 14 then 80 else 81
theorem fn2_ok (w : World) (op a b : Nat) (h1 : 1 ≤ op) (h2 : op ≤ 15) (ha : a < 4294967296) (hb : b < 4294967296) (h0 : op = 14 ∨ op = 15 → b ≠ 0) :
    Calls Try.prog (fn2 op) #[.int .u32 (a : Int), .int .u32 (b : Int)] w fun e w' => e = .returned (.int .u32 (op2 op a b : Int)) ∧ w = w' := by
  have hc : op = 1 ∨ op = 2 ∨ op = 3 ∨ op = 4 ∨ op = 5 ∨ op = 6 ∨ op = 7 ∨ op = 8 ∨ op = 9 ∨ op = 10 ∨ op = 11 ∨ op = 12 ∨ op = 13 ∨ op = 14 ∨ op = 15 := by omega
  rcases hc with rfl | rfl | rfl | rfl | rfl | rfl | rfl | rfl | rfl | rfl | rfl | rfl | rfl | rfl | rfl
  · rw [show op2 1 a b = b from by simp [op2], show fn2 1 = 71 from by simp [fn2]]; exact two_copied w a b ha hb
  · rw [show op2 2 a b = b from by simp [op2], show fn2 2 = 71 from by simp [fn2]]; exact two_copied w a b ha hb
  · rw [show op2 3 a b = (a + b) % 4294967296 from by simp [op2], show fn2 3 = 72 from by simp [fn2]]; exact two_add w a b ha hb
  · rw [show op2 4 a b = (a + b) % 4294967296 from by simp [op2], show fn2 4 = 72 from by simp [fn2]]; exact two_add w a b ha hb
  · rw [show op2 5 a b = (a + 4294967296 - b) % 4294967296 from by simp [op2], show fn2 5 = 75 from by simp [fn2]]; exact two_sub w a b ha hb
  · rw [show op2 6 a b = a * b % 4294967296 from by simp [op2], show fn2 6 = 73 from by simp [fn2]]; exact two_mul w a b ha hb
  · rw [show op2 7 a b = a * b % 4294967296 from by simp [op2], show fn2 7 = 73 from by simp [fn2]]; exact two_mul w a b ha hb
  · rw [show op2 8 a b = a &&& b from by simp [op2], show fn2 8 = 74 from by simp [fn2]]; exact two_and w a b ha hb
  · rw [show op2 9 a b = a &&& b from by simp [op2], show fn2 9 = 74 from by simp [fn2]]; exact two_and w a b ha hb
  · rw [show op2 10 a b = a ||| b from by simp [op2], show fn2 10 = 76 from by simp [fn2]]; exact two_or w a b ha hb
  · rw [show op2 11 a b = a ^^^ b from by simp [op2], show fn2 11 = 77 from by simp [fn2]]; exact two_xor w a b ha hb
  · rw [show op2 12 a b = a * 2 ^ min b 32 % 4294967296 from by simp [op2], show fn2 12 = 78 from by simp [fn2]]; exact two_shl w a b ha hb
  · rw [show op2 13 a b = a / 2 ^ min b 32 from by simp [op2], show fn2 13 = 79 from by simp [fn2]]; exact two_shr w a b ha hb
  · rw [show op2 14 a b = a / b from by simp [op2], show fn2 14 = 80 from by simp [fn2]]; exact two_div w a b ha hb (h0 (.inl rfl))
  · rw [show op2 15 a b = a % b from by simp [op2], show fn2 15 = 81 from by simp [fn2]]; exact two_mod w a b ha hb (h0 (.inr rfl))
theorem fn2_zero (w : World) (op a : Nat) (h : op = 14 ∨ op = 15) : Calls Try.prog (fn2 op) #[.int .u32 (a : Int), .int .u32 0] w fun e w' => e = .panicked (stopP 3) ∧ w = w' := by
  rcases h with rfl | rfl
  · rw [show fn2 14 = 80 from by simp [fn2]]; exact two_div0 w a
  · rw [show fn2 15 = 81 from by simp [fn2]]; exact two_mod0 w a
end Go.Proofs.Ytpnkbpjhbmacaaa
