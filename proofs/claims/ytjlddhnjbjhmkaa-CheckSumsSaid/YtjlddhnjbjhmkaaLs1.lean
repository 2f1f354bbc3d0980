/- Layer 6: what each Op makes of two ranges. -/
import Derived.Test.YtjlddhnjbjhmkaaLu1
import Derived.BigQuiet
set_option linter.unusedVariables false
set_option linter.unusedSimpArgs false
namespace Go.Proofs.Ytjlddhnjbjhmkaa
open Go.RowKit

theorem toBV32 (a : Nat) (ha : a < 4294967296) : (BitVec.ofInt 32 (a : Int)).toNat = a := by
  rw [BitVec.ofInt_natCast, BitVec.toNat_ofNat]; exact Nat.mod_eq_of_lt (by omega)
theorem and32 (a b : Nat) (ha : a < 4294967296) (hb : b < 4294967296) : bits .and .u32 (a : Int) (b : Int) = ((a &&& b : Nat) : Int) := by
  have hx : a &&& b < 2 ^ 32 := Nat.and_lt_two_pow _ (by omega)
  show IntKind.u32.wrap ((BitVec.ofInt 32 (a : Int) &&& BitVec.ofInt 32 (b : Int)).toNat : Int) = _
  rw [BitVec.toNat_and, toBV32 a ha, toBV32 b hb, wrapU32]
  omega
theorem or32 (a b : Nat) (ha : a < 4294967296) (hb : b < 4294967296) : bits .or .u32 (a : Int) (b : Int) = ((a ||| b : Nat) : Int) := by
  have hx : a ||| b < 2 ^ 32 := Nat.or_lt_two_pow (by omega) (by omega)
  show IntKind.u32.wrap ((BitVec.ofInt 32 (a : Int) ||| BitVec.ofInt 32 (b : Int)).toNat : Int) = _
  rw [BitVec.toNat_or, toBV32 a ha, toBV32 b hb, wrapU32]
  omega
theorem xor32 (a b : Nat) (ha : a < 4294967296) (hb : b < 4294967296) : bits .xor .u32 (a : Int) (b : Int) = ((a ^^^ b : Nat) : Int) := by
  have hx : a ^^^ b < 2 ^ 32 := Nat.xor_lt_two_pow (by omega) (by omega)
  show IntKind.u32.wrap ((BitVec.ofInt 32 (a : Int) ^^^ BitVec.ofInt 32 (b : Int)).toNat : Int) = _
  rw [BitVec.toNat_xor, toBV32 a ha, toBV32 b hb, wrapU32]
  omega
theorem mul_split (a b : Nat) (ha : a < 4294967296) (hb : b < 4294967296) : (a / 65536 * b % 4294967296 * 65536 + a % 65536 * b) % 4294967296 = a * b % 4294967296 := by
  have h : a * b = a / 65536 * b * 65536 + a % 65536 * b := by
    have e := Nat.div_add_mod a 65536
    calc a * b = (65536 * (a / 65536) + a % 65536) * b := by rw [e]
      _ = a / 65536 * b * 65536 + a % 65536 * b := by rw [Nat.add_mul, Nat.mul_comm 65536 (a / 65536), Nat.mul_right_comm]
  rw [h]
  generalize a / 65536 * b = x
  generalize a % 65536 * b = y
  omega

set_option maxRecDepth 100000 in
set_option maxHeartbeats 1000000 in
theorem made_2 (w : World) (a b : Nat) (ha : a < 4294967296) (hb : b < 4294967296) : Calls Try.prog 19 #[.int .i64 2, .int .u32 (a : Int), .int .u32 (b : Int)] w fun e w' => e = .returned (.int .u32 (op2 2 a b : Nat)) ∧ Below w.heap.size w w' := by
  have ha' : (a : Int) < 4294967296 := by omega
  have hb' : (b : Int) < 4294967296 := by omega
  skip
  go_enter Try.func19, Try.ntmps19
  go_wp2
  go_ret
  refine ⟨congrArg (fun n : Int => Ending.returned (Value.int .u32 n)) ?_, Below.refl _ _⟩
  rw [show op2 2 a b = b from by simp [op2]]


set_option maxRecDepth 100000 in
set_option maxHeartbeats 1000000 in
theorem made_4 (w : World) (a b : Nat) (ha : a < 4294967296) (hb : b < 4294967296) : Calls Try.prog 19 #[.int .i64 4, .int .u32 (a : Int), .int .u32 (b : Int)] w fun e w' => e = .returned (.int .u32 (op2 4 a b : Nat)) ∧ Below w.heap.size w w' := by
  have ha' : (a : Int) < 4294967296 := by omega
  have hb' : (b : Int) < 4294967296 := by omega
  skip
  go_enter Try.func19, Try.ntmps19
  go_wp2
  go_ret
  refine ⟨congrArg (fun n : Int => Ending.returned (Value.int .u32 n)) ?_, Below.refl _ _⟩
  rw [show op2 4 a b = (a + b) % 4294967296 from by simp [op2]]
  omega

set_option maxRecDepth 100000 in
set_option maxHeartbeats 1000000 in
theorem made_5 (w : World) (a b : Nat) (ha : a < 4294967296) (hb : b < 4294967296) : Calls Try.prog 19 #[.int .i64 5, .int .u32 (a : Int), .int .u32 (b : Int)] w fun e w' => e = .returned (.int .u32 (op2 5 a b : Nat)) ∧ Below w.heap.size w w' := by
  have ha' : (a : Int) < 4294967296 := by omega
  have hb' : (b : Int) < 4294967296 := by omega
  skip
  go_enter Try.func19, Try.ntmps19
  go_wp2
  go_ret
  refine ⟨congrArg (fun n : Int => Ending.returned (Value.int .u32 n)) ?_, Below.refl _ _⟩
  rw [show op2 5 a b = (a + 4294967296 - b) % 4294967296 from by simp [op2]]
  omega

set_option maxRecDepth 100000 in
set_option maxHeartbeats 1000000 in
theorem made_7 (w : World) (a b : Nat) (ha : a < 4294967296) (hb : b < 4294967296) : Calls Try.prog 19 #[.int .i64 7, .int .u32 (a : Int), .int .u32 (b : Int)] w fun e w' => e = .returned (.int .u32 (op2 7 a b : Nat)) ∧ Below w.heap.size w w' := by
  have ha' : (a : Int) < 4294967296 := by omega
  have hb' : (b : Int) < 4294967296 := by omega
  have p1 : a / 65536 * b ≤ 65535 * 4294967295 := Nat.mul_le_mul (by omega) (by omega)
  have p2 : a % 65536 * b ≤ 65535 * 4294967295 := Nat.mul_le_mul (by omega) (by omega)
  have q1 : (a : Int) / 65536 * (b : Int) = ((a / 65536 * b : Nat) : Int) := by rw [Int.natCast_mul, Int.natCast_ediv]; rfl
  have q2 : (a : Int) % 65536 * (b : Int) = ((a % 65536 * b : Nat) : Int) := by rw [Int.natCast_mul, Int.natCast_emod]; rfl
  have r1 : 0 ≤ (a : Int) / 65536 * (b : Int) := by rw [q1]; omega
  have r2 : (a : Int) / 65536 * (b : Int) ≤ 281470681677825 := by rw [q1]; omega
  have r3 : 0 ≤ (a : Int) % 65536 * (b : Int) := by rw [q2]; omega
  have r4 : (a : Int) % 65536 * (b : Int) ≤ 281470681677825 := by rw [q2]; omega
  have HMS := Lib.hid (mul_split a b ha hb)
  have Q1 := Lib.hid q1; have Q2 := Lib.hid q2
  clear q1 q2 p1 p2
  go_enter Try.func19, Try.ntmps19
  go_wp2
  go_ret
  refine ⟨congrArg (fun n : Int => Ending.returned (Value.int .u32 n)) ?_, Below.refl _ _⟩
  rw [show op2 7 a b = a * b % 4294967296 from by simp [op2]]
  rw [← HMS.out, Q1.out, Q2.out]
  clear r1 r2 r3 r4 HMS Q1 Q2
  generalize a / 65536 * b = x
  generalize a % 65536 * b = y
  omega

set_option maxRecDepth 100000 in
set_option maxHeartbeats 1000000 in
theorem made_9 (w : World) (a b : Nat) (ha : a < 4294967296) (hb : b < 4294967296) : Calls Try.prog 19 #[.int .i64 9, .int .u32 (a : Int), .int .u32 (b : Int)] w fun e w' => e = .returned (.int .u32 (op2 9 a b : Nat)) ∧ Below w.heap.size w w' := by
  have ha' : (a : Int) < 4294967296 := by omega
  have hb' : (b : Int) < 4294967296 := by omega
  skip
  go_enter Try.func19, Try.ntmps19
  go_wp2
  go_ret
  refine ⟨congrArg (fun n : Int => Ending.returned (Value.int .u32 n)) ?_, Below.refl _ _⟩
  rw [show op2 9 a b = a &&& b from by simp [op2]]
  exact and32 a b ha hb

set_option maxRecDepth 100000 in
set_option maxHeartbeats 1000000 in
theorem made_10 (w : World) (a b : Nat) (ha : a < 4294967296) (hb : b < 4294967296) : Calls Try.prog 19 #[.int .i64 10, .int .u32 (a : Int), .int .u32 (b : Int)] w fun e w' => e = .returned (.int .u32 (op2 10 a b : Nat)) ∧ Below w.heap.size w w' := by
  have ha' : (a : Int) < 4294967296 := by omega
  have hb' : (b : Int) < 4294967296 := by omega
  skip
  go_enter Try.func19, Try.ntmps19
  go_wp2
  go_ret
  refine ⟨congrArg (fun n : Int => Ending.returned (Value.int .u32 n)) ?_, Below.refl _ _⟩
  rw [show op2 10 a b = a ||| b from by simp [op2]]
  exact or32 a b ha hb

set_option maxRecDepth 100000 in
set_option maxHeartbeats 1000000 in
theorem made_11 (w : World) (a b : Nat) (ha : a < 4294967296) (hb : b < 4294967296) : Calls Try.prog 19 #[.int .i64 11, .int .u32 (a : Int), .int .u32 (b : Int)] w fun e w' => e = .returned (.int .u32 (op2 11 a b : Nat)) ∧ Below w.heap.size w w' := by
  have ha' : (a : Int) < 4294967296 := by omega
  have hb' : (b : Int) < 4294967296 := by omega
  skip
  go_enter Try.func19, Try.ntmps19
  go_wp2
  go_ret
  refine ⟨congrArg (fun n : Int => Ending.returned (Value.int .u32 n)) ?_, Below.refl _ _⟩
  rw [show op2 11 a b = a ^^^ b from by simp [op2]]
  exact xor32 a b ha hb

set_option maxRecDepth 100000 in
set_option maxHeartbeats 1000000 in
theorem made_14 (w : World) (a b : Nat) (ha : a < 4294967296) (hb : b < 4294967296) (h0 : 0 < b) : Calls Try.prog 19 #[.int .i64 14, .int .u32 (a : Int), .int .u32 (b : Int)] w fun e w' => e = .returned (.int .u32 (op2 14 a b : Nat)) ∧ Below w.heap.size w w' := by
  have ha' : (a : Int) < 4294967296 := by omega
  have hb' : (b : Int) < 4294967296 := by omega
  have hb0 : (b : Int) ≠ 0 := by omega
  go_enter Try.func19, Try.ntmps19
  go_wp2
  go_ret
  refine ⟨congrArg (fun n : Int => Ending.returned (Value.int .u32 n)) ?_, Below.refl _ _⟩
  rw [show op2 14 a b = a / b from by simp [op2]]
  have h := Nat.div_le_self a b
  rw [show (a : Int) / (b : Int) = ((a / b : Nat) : Int) from (Int.natCast_ediv a b).symm]
  generalize a / b = q at h ⊢
  omega

set_option maxRecDepth 100000 in
set_option maxHeartbeats 1000000 in
theorem made_15 (w : World) (a b : Nat) (ha : a < 4294967296) (hb : b < 4294967296) (h0 : 0 < b) : Calls Try.prog 19 #[.int .i64 15, .int .u32 (a : Int), .int .u32 (b : Int)] w fun e w' => e = .returned (.int .u32 (op2 15 a b : Nat)) ∧ Below w.heap.size w w' := by
  have ha' : (a : Int) < 4294967296 := by omega
  have hb' : (b : Int) < 4294967296 := by omega
  have hb0 : (b : Int) ≠ 0 := by omega
  go_enter Try.func19, Try.ntmps19
  go_wp2
  go_ret
  refine ⟨congrArg (fun n : Int => Ending.returned (Value.int .u32 n)) ?_, Below.refl _ _⟩
  rw [show op2 15 a b = a % b from by simp [op2]]
  exact (Int.natCast_emod a b).symm

theorem lawmade_ok (w : World) (op a b : Nat) (ha : a < 4294967296) (hb : b < 4294967296) (hop : op = 2 ∨ op = 4 ∨ op = 5 ∨ op = 7 ∨ op = 9 ∨ op = 10 ∨ op = 11 ∨ op = 14 ∨ op = 15) (h0 : op = 14 ∨ op = 15 → 0 < b) : Calls Try.prog 19 #[.int .i64 (op : Int), .int .u32 (a : Int), .int .u32 (b : Int)] w fun e w' => e = .returned (.int .u32 (op2 op a b : Nat)) ∧ Below w.heap.size w w' := by
  rcases hop with rfl | rfl | rfl | rfl | rfl | rfl | rfl | rfl | rfl
  · exact made_2 w a b ha hb
  · exact made_4 w a b ha hb
  · exact made_5 w a b ha hb
  · exact made_7 w a b ha hb
  · exact made_9 w a b ha hb
  · exact made_10 w a b ha hb
  · exact made_11 w a b ha hb
  · exact made_14 w a b ha hb (h0 (by simp))
  · exact made_15 w a b ha hb (h0 (by simp))

def sumsB (n : Nat) : Bool := n == 2 || n == 4 || n == 5 || n == 7 || n == 9 || n == 10 || n == 11 || n == 14 || n == 15
theorem sums_may (n : Nat) (h : 2 ≤ n) (h2 : n ≤ 15) : mayB ⟨(n : Int), 3, 4, 0, 0⟩ = sumsB n := by
  have : n = 2 ∨ n = 3 ∨ n = 4 ∨ n = 5 ∨ n = 6 ∨ n = 7 ∨ n = 8 ∨ n = 9 ∨ n = 10 ∨ n = 11 ∨ n = 12 ∨ n = 13 ∨ n = 14 ∨ n = 15 := by omega
  rcases this with rfl | rfl | rfl | rfl | rfl | rfl | rfl | rfl | rfl | rfl | rfl | rfl | rfl | rfl <;> rfl
theorem sums_b (dl dg sl sg a b n : Nat) (hd : dl ≤ dg) (hdg : dg < 4294967296) (hs : sl ≤ sg) (hsg : sg < 4294967296) (had : dl ≤ a ∧ a ≤ dg) (hbs : sl ≤ b ∧ b ≤ sg) (hn : sumsB n = true) {nx jx : Kn} {ev : Nat}
    (hb : (ev = 0 ∧ behindB 0 ⟨n, 3, 4, 0, 0⟩ ⟨true, upd (upd (fun _ => rg0) 3 ⟨true, dl, dg⟩) 4 ⟨true, sl, sg⟩⟩ = .ok nx jx) ∨ (ev ≠ 0 ∧ behindB 0 ⟨n, 3, 4, 0, 0⟩ ⟨true, upd (upd (fun _ => rg0) 3 ⟨true, dl, dg⟩) 4 ⟨true, sl, sg⟩⟩ = .no ev)) :
    ((n = 14 ∨ n = 15) ∧ sl = 0 → ev = 162) ∧ (¬ ((n = 14 ∨ n = 15) ∧ sl = 0) → ev = 0 ∧ nx.come = true ∧ (nx.r 3).s = true ∧ ((nx.r 3).l ≤ op2 n a b ∧ op2 n a b ≤ (nx.r 3).g) ∧ nx.r 4 = ⟨true, sl, sg⟩ ∧ (nx.r 3).g ≤ 4294967295) := by
  have hop : n = 2 ∨ n = 4 ∨ n = 5 ∨ n = 7 ∨ n = 9 ∨ n = 10 ∨ n = 11 ∨ n = 14 ∨ n = 15 := by
    simp only [sumsB, Bool.or_eq_true, beq_iff_eq] at hn
    omega
  have e : behindB 0 ⟨n, 3, 4, 0, 0⟩ ⟨true, upd (upd (fun _ => rg0) 3 ⟨true, dl, dg⟩) 4 ⟨true, sl, sg⟩⟩ = if (n = 14 ∨ n = 15) ∧ sl = 0 then .no 162 else .ok (Kn.put ⟨true, upd (upd (fun _ => rg0) 3 ⟨true, dl, dg⟩) 4 ⟨true, sl, sg⟩⟩ 3 (mkS n (if n ≤ 2 then ⟨0, 0⟩ else ⟨dl, dg⟩) ⟨sl, sg⟩)) kn0 := by
    rcases hop with rfl | rfl | rfl | rfl | rfl | rfl | rfl | rfl | rfl <;> rfl
  rw [e] at hb
  have hm : ¬ ((n = 14 ∨ n = 15) ∧ sl = 0) → (mkS n (if n ≤ 2 then ⟨0, 0⟩ else ⟨dl, dg⟩) ⟨sl, sg⟩).has (op2 n a b) := fun hz => by
    by_cases h2 : n ≤ 2
    · have : n = 2 := by omega
      subst this
      exact hbs
    · rw [if_neg h2]
      exact mk_has (op := n) (d := ⟨dl, dg⟩) (s := ⟨sl, sg⟩) ⟨hd, by show dg ≤ _; omega⟩ ⟨hs, by show sg ≤ _; omega⟩ had hbs (fun h => Nat.pos_of_ne_zero (fun q => hz ⟨h, q⟩)) (by omega) (fun h => by omega)
  constructor
  · intro hz
    rw [if_pos hz] at hb
    rcases hb with ⟨_, hb⟩ | ⟨_, hb⟩
    · cases hb
    · injection hb with hb; exact hb.symm
  · intro hz
    rw [if_neg hz] at hb
    rcases hb with ⟨h0, hb⟩ | ⟨_, hb⟩
    · injection hb with h1 h2
      subst h1
      refine ⟨h0, rfl, rfl, hm hz, rfl, ?_⟩
      have hdd : (if n ≤ 2 then (⟨0, 0⟩ : Sp) else ⟨dl, dg⟩).ok := by
        split
        · exact ⟨Nat.le_refl _, by decide⟩
        · exact ⟨hd, by show dg ≤ _; omega⟩
      have hk := mk_ok (op := n) (d := if n ≤ 2 then ⟨0, 0⟩ else ⟨dl, dg⟩) (s := ⟨sl, sg⟩) hdd ⟨hs, by show sg ≤ _; omega⟩ (fun h => Nat.pos_of_ne_zero (fun q => hz ⟨h, q⟩))
      exact hk.2
    · cases hb

set_option maxRecDepth 100000 in
set_option maxHeartbeats 2000000 in
theorem sums_out (w : World) (d s : Rg) (A B : Nat) (hout : d.s = false ∨ s.s = false ∨ d.g < d.l ∨ s.g < s.l) :
    Calls Try.prog 4 #[.agg #[.bool d.s, .int .u32 (d.l : Int), .int .u32 (d.g : Int)], .agg #[.bool s.s, .int .u32 (s.l : Int), .int .u32 (s.g : Int)], .agg #[.int .u32 (A : Int), .int .u32 (B : Int)]] w fun e w' => e = .returned (.bool true) ∧ Below w.heap.size w w' := by
  have HKN := Lib.hid lawknown_ok
  have HB0 : Hid (Below w.heap.size w (((w.alloc (.cells #[.bool d.s, .int .u32 (d.l : Int), .int .u32 (d.g : Int)] 37)).alloc (.cells #[.bool s.s, .int .u32 (s.l : Int), .int .u32 (s.g : Int)] 37)).alloc (.cells #[.int .u32 (A : Int), .int .u32 (B : Int)] 38))) := Lib.hid ((((Below.refl _ _).alloc (Nat.le_refl _) _).alloc (by simp) _).alloc (by simp <;> omega) _)
  go_enter Try.func4, Try.ntmps4
  obtain ⟨ds, dl, dg⟩ := d
  obtain ⟨ss, sl, sg⟩ := s
  cases ds with
  | false =>
    go_wp2_with (go_at_call 11; (with_reducible refine (HKN.out _).mono ?_); rintro e' W9 ⟨rfl, hb9⟩; have HB9 := Lib.hid hb9; clear hb9)
    go_ret
    exact ⟨rfl, HB0.out.trans (HB9.out.mono HB0.out.size)⟩
  | true =>
    cases ss with
    | false =>
      go_wp2_with (go_at_call 11; (with_reducible refine (HKN.out _).mono ?_); rintro e' W9 ⟨rfl, hb9⟩; have HB9 := Lib.hid hb9; clear hb9)
      go_ret
      exact ⟨rfl, HB0.out.trans (HB9.out.mono HB0.out.size)⟩
    | true =>
      by_cases h1 : dg < dl
      · have hy : (dg : Int) < (dl : Int) := by omega
        go_wp2_with (go_at_call 11; (with_reducible refine (HKN.out _).mono ?_); rintro e' W9 ⟨rfl, hb9⟩; have HB9 := Lib.hid hb9; clear hb9)
        go_ret
        exact ⟨rfl, HB0.out.trans (HB9.out.mono HB0.out.size)⟩
      have hy0 : ¬ (dg : Int) < (dl : Int) := by omega
      have hy1 : (sg : Int) < (sl : Int) := by
        rcases hout with h | h | h | h
        · cases h
        · cases h
        · exact absurd h h1
        · have h : sg < sl := h
          omega
      go_wp2_with (go_at_call 11; (with_reducible refine (HKN.out _).mono ?_); rintro e' W9 ⟨rfl, hb9⟩; have HB9 := Lib.hid hb9; clear hb9)
      go_ret
      exact ⟨rfl, HB0.out.trans (HB9.out.mono HB0.out.size)⟩
end Go.Proofs.Ytjlddhnjbjhmkaa
