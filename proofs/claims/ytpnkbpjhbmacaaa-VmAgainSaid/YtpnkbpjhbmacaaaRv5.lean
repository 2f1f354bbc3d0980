/- The document's answer: times, bits. -/
import Derived.Test.YtpnkbpjhbmacaaaVm2
set_option linter.unusedVariables false
set_option linter.unusedSimpArgs false
namespace Go.Proofs.Ytpnkbpjhbmacaaa
open Go.RowKit

theorem times_nat (a b : Nat) : (a / 65536 * b % 4294967296 * 65536 + a % 65536 * b) % 4294967296 = a * b % 4294967296 := by
  have h : a * b = a / 65536 * b * 65536 + a % 65536 * b := by
    have h1 : a = a / 65536 * 65536 + a % 65536 := by omega
    have : a * b = (a / 65536 * 65536 + a % 65536) * b := by rw [← h1]
    rw [this, Nat.add_mul, Nat.mul_right_comm]
  rw [h]
  conv => rhs; rw [Nat.add_mod, Nat.mul_mod]
  conv => lhs; rw [Nat.add_mod, Nat.mul_mod]
  rw [Nat.mod_mod]
theorem timesr_ok (w : World) (a b : Nat) (ha : a < 4294967296) (hb : b < 4294967296) :
    Calls Try.prog 45 #[.int .i64 (a : Int), .int .i64 (b : Int)] w fun e w' => e = .returned (.int .i64 ((a * b % 4294967296 : Nat) : Int)) ∧ w = w' := by
  have h1 : a / 65536 * b ≤ 65535 * 4294967295 := Nat.mul_le_mul (by omega) (by omega)
  have h2 : a % 65536 * b ≤ 65535 * 4294967295 := Nat.mul_le_mul (by omega) (by omega)
  have e := times_nat a b
  have h5 : 0 ≤ (a : Int) / 65536 * (b : Int) := Int.mul_nonneg (by omega) (by omega)
  have h6 : (a : Int) / 65536 * (b : Int) ≤ 281470681677825 := (by have h : ((a / 65536 * b : Nat) : Int) ≤ 281470681677825 := (by omega); rw [Int.natCast_mul, Int.natCast_ediv] at h; exact h)
  have h7 : 0 ≤ (a : Int) % 65536 * (b : Int) := Int.mul_nonneg (by omega) (by omega)
  have h8 : (a : Int) % 65536 * (b : Int) ≤ 281470681677825 := (by have h : ((a % 65536 * b : Nat) : Int) ≤ 281470681677825 := (by omega); rw [Int.natCast_mul, Int.natCast_emod] at h; exact h)
  have HE := Lib.hid e; clear e h1 h2
  go_enter Try.func45, Try.ntmps45
  go_wp2
  go_ret
  refine ⟨congrArg (fun n => Ending.returned (.int .i64 n)) ?_, rfl⟩
  rw [← HE.out, Int.natCast_emod, Int.natCast_add, Int.natCast_mul, Int.natCast_mul, Int.natCast_emod, Int.natCast_mul, Int.natCast_ediv, Int.natCast_emod]
  rfl

/-- Two words, bit by bit. -/
def bitsN (op a b : Nat) : Nat := if op = 9 then a &&& b else if op = 10 then a ||| b else a ^^^ b
def bitN (op x y : Nat) : Nat := if op = 9 then (if x + y = 2 then 1 else 0) else if op = 10 then (if 0 < x + y then 1 else 0) else (if x + y = 1 then 1 else 0)
theorem tb (x i : Nat) : x / 2 ^ i % 2 = (x.testBit i).toNat := by
  rw [Nat.testBit_eq_decide_div_mod_eq]
  rcases Nat.mod_two_eq_zero_or_one (x / 2 ^ i) with h | h <;> simp [h]
theorem bit_step (op a b i : Nat) : bitsN op a b % 2 ^ (i + 1) = bitsN op a b % 2 ^ i + 2 ^ i * bitN op (a / 2 ^ i % 2) (b / 2 ^ i % 2) := by
  rw [Nat.pow_succ, Nat.mod_mul]
  congr 2
  rw [tb, tb a, tb b]
  unfold bitsN bitN
  split
  · rw [Nat.testBit_and]; cases a.testBit i <;> cases b.testBit i <;> rfl
  · split
    · rw [Nat.testBit_or]; cases a.testBit i <;> cases b.testBit i <;> rfl
    · rw [Nat.testBit_xor]; cases a.testBit i <;> cases b.testBit i <;> rfl
theorem bitsN_lt (op a b : Nat) (ha : a < 4294967296) (hb : b < 4294967296) : bitsN op a b < 2 ^ 32 := by
  unfold bitsN
  split
  · exact Nat.and_lt_two_pow a (by simpa using hb)
  · split
    · exact Nat.or_lt_two_pow (by simpa using ha) (by simpa using hb)
    · exact Nat.xor_lt_two_pow (by simpa using ha) (by simpa using hb)

def BR (op a b : Nat) (va vb vn vp vi : Value) : Prop := ∃ k : Nat, k ≤ 32 ∧ va = .int .i64 ((a / 2 ^ k : Nat) : Int) ∧ vb = .int .i64 ((b / 2 ^ k : Nat) : Int) ∧ vn = .int .i64 ((bitsN op a b % 2 ^ k : Nat) : Int) ∧ vp = .int .i64 ((2 ^ k : Nat) : Int) ∧ vi = .int .i64 (k : Int)
theorem BR.next {op a b k x y p n : Nat} {vn : Value} (hk : k < 32) (hx : x = a / 2 ^ k) (hy : y = b / 2 ^ k) (hp : p = 2 ^ k) (hn : n = bitsN op a b % 2 ^ k) (hv : vn = .int .i64 ((n + p * bitN op (x % 2) (y % 2) : Nat) : Int)) :
    BR op a b (.int .i64 ((x : Int) / 2)) (.int .i64 ((y : Int) / 2)) vn (.int .i64 (2 * (p : Int))) (.int .i64 ((k : Int) + 1)) := by
  subst hx; subst hy; subst hp; subst hn
  refine ⟨k + 1, by omega, ?_, ?_, ?_, ?_, rfl⟩
  · rw [Nat.pow_succ, ← Nat.div_div_eq_div_mul, Int.natCast_ediv]; rfl
  · rw [Nat.pow_succ, ← Nat.div_div_eq_div_mul, Int.natCast_ediv]; rfl
  · rw [hv, bit_step]
  · congr 1; rw [Nat.pow_succ, Nat.mul_comm, Int.natCast_mul]; rfl
set_option maxHeartbeats 4000000 in
theorem bitsr_ok (w : World) (op a b : Nat) (hop : op = 9 ∨ op = 10 ∨ op = 11) (ha : a < 4294967296) (hb : b < 4294967296) :
    Calls Try.prog 46 #[.int .i64 (op : Int), .int .i64 (a : Int), .int .i64 (b : Int)] w fun e w' => e = .returned (.int .i64 (bitsN op a b : Int)) ∧ w = w' := by
  have hlt := bitsN_lt op a b ha hb
  have h9 : ((op : Int) == 9) = decide (op = 9) := by rcases hop with rfl | rfl | rfl <;> rfl
  have h10 : ((op : Int) == 10) = decide (op = 10) := by rcases hop with rfl | rfl | rfl <;> rfl
  have h11 : ((op : Int) == 11) = decide (op = 11) := by rcases hop with rfl | rfl | rfl <;> rfl
  have H9 := Lib.hid h9; have H10 := Lib.hid h10; have H11 := Lib.hid h11; clear h9 h10 h11
  have HLT := Lib.hid hlt; clear hlt
  go_enter Try.func46, Try.ntmps46
  go_wp2
  go_loop [1, 2, 7, 8, 9] (fun va vb vn vp vi => BR op a b va vb vn vp vi) (fun _ _ _ _ vi => 32 - (intOf vi).toNat)
  case atStart => exact ⟨0, by omega, by simp, by simp, by simp [Nat.mod_one], by simp, rfl⟩
  case round =>
    obtain ⟨k, hk, rfl, rfl, rfl, rfl, rfl⟩ := hrel
    by_cases hlt : k < 32
    · obtain ⟨x, hx⟩ : ∃ x, x = a / 2 ^ k := ⟨_, rfl⟩
      obtain ⟨y, hy⟩ : ∃ x, x = b / 2 ^ k := ⟨_, rfl⟩
      obtain ⟨p, hp⟩ : ∃ x, x = 2 ^ k := ⟨_, rfl⟩
      obtain ⟨n, hn⟩ : ∃ x, x = bitsN op a b % 2 ^ k := ⟨_, rfl⟩
      have x1 : x < 4294967296 := by rw [hx]; exact Nat.lt_of_le_of_lt (Nat.div_le_self _ _) ha
      have y1 : y < 4294967296 := by rw [hy]; exact Nat.lt_of_le_of_lt (Nat.div_le_self _ _) hb
      have p1 : p ≤ 2147483648 := by rw [hp]; have h31 : 2 ^ k ≤ 2 ^ 31 := Nat.pow_le_pow_right (by omega) (by omega); exact h31
      have n1 : n < p := by rw [hn, hp]; exact Nat.mod_lt _ (Nat.two_pow_pos k)
      rw [← hn, ← hx, ← hy, ← hp]
      have HX := Lib.hid hx; have HY := Lib.hid hy; have HP := Lib.hid hp; have HN := Lib.hid hn; clear hx hy hp hn
      have hop' : op = 9 ∨ op = 10 ∨ op = 11 := hop
      have hx2 : (x : Int) % 2 = 0 ∨ (x : Int) % 2 = 1 := by omega
      have hy2 : (y : Int) % 2 = 0 ∨ (y : Int) % 2 = 1 := by omega
      have HOP := Lib.hid hop; clear hop
      rcases hop' with rfl | rfl | rfl
      all_goals
        rcases hx2 with hx2 | hx2
        all_goals
          rcases hy2 with hy2 | hy2
          all_goals
            have x2 : x % 2 = 0 ∨ x % 2 = 1 := by omega
            have HX2 := Lib.hid hx2
            have HY2 := Lib.hid hy2
            go_wp2
            go_round
            case rel =>
              refine BR.next hlt HX.out HY.out HP.out HN.out ?_
              have ex := HX2.out
              have ey := HY2.out
              congr 1
              first
                | (rw [show x % 2 = 0 by omega, show y % 2 = 0 by omega]; simp [bitN])
                | (rw [show x % 2 = 0 by omega, show y % 2 = 1 by omega]; simp [bitN])
                | (rw [show x % 2 = 1 by omega, show y % 2 = 0 by omega]; simp [bitN])
                | (rw [show x % 2 = 1 by omega, show y % 2 = 1 by omega]; simp [bitN])
            case measure => simp [intOf]; omega
    · obtain rfl : k = 32 := by omega
      have e : bitsN op a b % 2 ^ 32 = bitsN op a b := Nat.mod_eq_of_lt HLT.out
      rw [e]
      have HE := Lib.hid e; clear e
      go_wp2
      go_ret
      exact ⟨rfl, rfl⟩
end Go.Proofs.Ytpnkbpjhbmacaaa
