/- Layer 6: spans, and registers. -/
import Derived.Test.YtjlddhnjbjhmkaaGa
import Derived.Test.YtjlddhnjbjhmkaaLen
import Derived.Lib.ItoaNum
import Derived.MapKept
set_option linter.unusedVariables false
set_option linter.unusedSimpArgs false
namespace Go.Proofs.Ytjlddhnjbjhmkaa
open Go.RowKit

def stopC (why : Int) : List PanicEntry := [{ v := .iface 89 (.agg #[.int .i64 why]), recovered := false }]
theorem cmust_ok (w : World) (y : Int) : Calls Try.prog 51 #[.bool true, .int .i64 y] w fun e w' => e = .returned (.tuple #[]) ∧ w = w' := by
  go_enter Try.func51, Try.ntmps51
  go_wp2
  go_end0
  exact ⟨rfl, rfl⟩
theorem cmust_not (w : World) (y : Int) : Calls Try.prog 51 #[.bool false, .int .i64 y] w fun e w' => e = .panicked (stopC y) ∧ w = w' := by
  go_enter Try.func51, Try.ntmps51
  go_wp2
  exact ⟨rfl, rfl, rfl⟩
theorem call_all (w : World) : Calls Try.prog 56 #[] w fun e w' => e = .returned (.agg #[.int .u64 0, .int .u64 4294967295]) ∧ Below w.heap.size w w' := by
  go_enter Try.func56, Try.ntmps56
  go_wp2
  (try simp only [Exit.inBlock, Exit.then]); refine bodyPost_ret (v := _) (by first | (simp [results, Try.results56, go_sem]; rfl) | (simp [results, Try.results56, go_sem, hc1, hf1]; rfl)) rfl ⟨by first | rfl | simp, (by repeat (first | exact HB1.out | exact Below.refl _ _ | refine Below.setCell ?_ (by simp <;> omega) _ | refine Below.alloc ?_ (by simp <;> omega) _ | refine Below.drew ?_))⟩
theorem of_span (w : World) (s : Bool) (l g : Nat) (hl : l ≤ 4294967295) (hg : g ≤ 4294967295) : Calls Try.prog 52 #[.agg #[.bool s, .int .u32 (l : Int), .int .u32 (g : Int)]] w fun e w' => e = .returned (.agg #[.int .u64 (l : Int), .int .u64 (g : Int)]) ∧ Below w.heap.size w w' := by
  have hl' : (l : Int) < 4294967296 := by omega
  have hg' : (g : Int) < 4294967296 := by omega
  go_enter Try.func52, Try.ntmps52
  go_wp2
  (try simp only [Exit.inBlock, Exit.then]); refine bodyPost_ret (v := _) (by first | (simp [results, Try.results52, go_sem]; rfl) | (simp [results, Try.results52, go_sem, hc1, hf1]; rfl)) rfl ⟨by first | rfl | simp, (by repeat (first | exact HB1.out | exact Below.refl _ _ | refine Below.setCell ?_ (by simp <;> omega) _ | refine Below.alloc ?_ (by simp <;> omega) _ | refine Below.drew ?_))⟩
theorem made_ok (w : World) (l g : Nat) (hl : l ≤ 4294967295) (hg : g ≤ 4294967295) : Calls Try.prog 53 #[.agg #[.int .u64 (l : Int), .int .u64 (g : Int)]] w fun e w' => e = .returned (.agg #[.bool true, .int .u32 (l : Int), .int .u32 (g : Int)]) ∧ Below w.heap.size w w' := by
  have hl' : (l : Int) < 4294967296 := by omega
  have hg' : (g : Int) < 4294967296 := by omega
  have hwl : IntKind.u32.wrap (l : Int) = (l : Int) := by rw [wrapU32]; omega
  have hwg : IntKind.u32.wrap (g : Int) = (g : Int) := by rw [wrapU32]; omega
  go_enter Try.func53, Try.ntmps53
  go_wp2
  (try simp only [Exit.inBlock, Exit.then]); refine bodyPost_ret (v := _) (by first | (simp [results, Try.results53, go_sem]; rfl) | (simp [results, Try.results53, go_sem, hc1, hf1]; rfl)) rfl ⟨by first | rfl | simp, (by repeat (first | exact HB1.out | exact Below.refl _ _ | refine Below.setCell ?_ (by simp <;> omega) _ | refine Below.alloc ?_ (by simp <;> omega) _ | refine Below.drew ?_))⟩
theorem within_span (w : World) (a b : Int) (l g : Nat) (ha : a = (l : Int)) (hb : b = (g : Int)) : Calls Try.prog 60 #[.agg #[.int .u64 a, .int .u64 b]] w fun e w' => e = .returned (.agg #[.int .u64 ((withinS ⟨l, g⟩).l : Int), .int .u64 ((withinS ⟨l, g⟩).g : Int)]) ∧ Below w.heap.size w w' := by
  subst ha; subst hb
  unfold withinS
  by_cases h : 4294967295 < g
  · have h' : (4294967295 : Int) < g := by omega
    simp only [if_pos h, allS]
    go_enter Try.func60, Try.ntmps60
    go_wp2_with (go_at_call 56; (with_reducible refine (call_all _).mono ?_); rintro e w1 ⟨rfl, hb1⟩; obtain ⟨hc1, hf1⟩ := bcell hb1; have hz1 : w.heap.size + 2 ≤ w1.heap.size := (by have := hb1.size; simp at this; omega); have HB1 : Hid (Below w.heap.size w w1) := Lib.hid ((((Below.refl _ _).alloc (Nat.le_refl _) _).alloc (by simp <;> omega) _).trans (hb1.mono (by simp <;> omega))); clear hb1)
    (try simp only [Exit.inBlock, Exit.then]); refine bodyPost_ret (v := _) (by first | (simp [results, Try.results60, go_sem]; rfl) | (simp [results, Try.results60, go_sem, hc1, hf1]; rfl)) rfl ⟨by first | rfl | simp, (by repeat (first | exact HB1.out | exact Below.refl _ _ | refine Below.setCell ?_ (by simp <;> omega) _ | refine Below.alloc ?_ (by simp <;> omega) _ | refine Below.drew ?_))⟩
  · have h' : ¬ (4294967295 : Int) < g := by omega
    simp only [if_neg h]
    go_enter Try.func60, Try.ntmps60
    go_wp2
    (try simp only [Exit.inBlock, Exit.then]); refine bodyPost_ret (v := _) (by first | (simp [results, Try.results60, go_sem]; rfl) | (simp [results, Try.results60, go_sem, hc1, hf1]; rfl)) rfl ⟨by first | rfl | simp, (by repeat (first | exact HB1.out | exact Below.refl _ _ | refine Below.setCell ?_ (by simp <;> omega) _ | refine Below.alloc ?_ (by simp <;> omega) _ | refine Below.drew ?_))⟩
theorem libLen (x : Nat) (h : x < 2 ^ 64) : Lib.bitLen x = bitLen x := by
  by_cases h0 : x = 0
  · subst h0; decide
  · have hb := Lib.bitLenAux_bounds 64 x h h0
    have h1 : 1 ≤ Lib.bitLen x := hb.1
    have h2 : 2 ^ (Lib.bitLen x - 1) ≤ x := hb.2.1
    have h3 : x < 2 ^ Lib.bitLen x := hb.2.2
    have e : x.log2 = Lib.bitLen x - 1 := (Nat.log2_eq_iff h0).2 ⟨h2, by rw [Nat.sub_add_cancel h1]; exact h3⟩
    unfold bitLen
    rw [if_neg h0, e]; omega

theorem len64_ok (n : Nat) (w : World) (h1 : n ≤ 4294967295) :
    Calls Try.prog 72 #[.int .u64 (n : Int)] w fun e w' => e = .returned (.int .i64 (bitLen n : Int)) ∧ w = w' := by
  refine (len64_int (n : Int) w (by omega) (by omega)).mono ?_
  rintro e w' ⟨rfl, rfl⟩
  exact ⟨by rw [show (n : Int).toNat = n from rfl, libLen n (by omega)], rfl⟩
theorem ones_ok (w : World) (n : Nat) (hn : n ≤ 4294967295) : Calls Try.prog 66 #[.int .u64 (n : Int)] w fun e w' => e = .returned (.int .u64 (onesN n : Int)) ∧ w = w' := by
  have h32 : bitLen n ≤ 32 := by
    unfold bitLen
    split
    · omega
    · rename_i h0; exact (Nat.log2_lt h0).2 (by omega)
  have hp : 2 ^ bitLen n ≤ 2 ^ 32 := Nat.pow_le_pow_right (by omega) h32
  have hp0 : 0 < 2 ^ bitLen n := Nat.two_pow_pos _
  unfold onesN
  have HL := Lib.hid (fun W => len64_ok n W hn)
  obtain ⟨k, hk⟩ : ∃ k, k = bitLen n := ⟨_, rfl⟩
  rw [← hk] at h32 hp hp0 HL ⊢
  clear hk
  have hk2 : (k : Int) < 64 := by omega
  have hp' : ((2 : Int) ^ k) = ((2 ^ k : Nat) : Int) := by simp
  have HP := Lib.hid hp; have HP0 := Lib.hid hp0; have HPI := Lib.hid hp'; clear hp hp0 hp'
  have hn0 : (0 : Int) ≤ n := by omega
  have hn1 : (n : Int) ≤ 18446744073709551615 := by omega
  go_enter Try.func66, Try.ntmps66
  go_wp2_with (go_at_call 72; (with_reducible refine (HL.out _).mono ?_); rintro e w1 ⟨rfl, rfl⟩)
  go_ret
  refine ⟨congrArg Ending.returned (congrArg (Value.int IntKind.u64) ?_), rfl⟩
  have h1 := HP.out
  have h2 := HP0.out
  rw [IntKind.wrap_u64, IntKind.wrap_u64, HPI.out]
  omega

set_option maxRecDepth 100000 in
set_option maxHeartbeats 1000000 in
theorem mk1_ok (w : World) (dl dg sl sg : Nat) (h1 : dl ≤ dg) (h2 : dg ≤ 4294967295) (h3 : sl ≤ sg) (h4 : sg ≤ 4294967295) : Calls Try.prog 59 #[.agg #[.int .u64 (dl : Int), .int .u64 (dg : Int)], .agg #[.int .u64 (sl : Int), .int .u64 (sg : Int)]] w fun e w' => e = .returned (.agg #[.int .u64 (((withinS ⟨dl + sl, dg + sg⟩)).l : Int), .int .u64 (((withinS ⟨dl + sl, dg + sg⟩)).g : Int)]) ∧ Below w.heap.size w w' := by
  have k1 : (dl : Int) < 4294967296 := by omega
  have k2 : (dg : Int) < 4294967296 := by omega
  have k3 : (sl : Int) < 4294967296 := by omega
  have k4 : (sg : Int) < 4294967296 := by omega
  go_enter Try.func59, Try.ntmps59
  go_wp2_with (go_at_call 60; (with_reducible refine (within_span _ _ _ (dl + sl) (dg + sg) (by first | omega | exact HM1.out | exact HM2.out | (simp [IntKind.wrap_u64]; omega) | (simp [IntKind.wrap_u64])) (by first | omega | exact HM1.out | exact HM2.out | (simp [IntKind.wrap_u64]; omega) | (simp [IntKind.wrap_u64]))).mono ?_); rintro e w1 ⟨rfl, hb1⟩; obtain ⟨hc1, hf1⟩ := bcell hb1; have hz1 : w.heap.size + 3 ≤ w1.heap.size := (by have := hb1.size; simp at this; omega); have HB1 : Hid (Below w.heap.size w w1) := Lib.hid (((((Below.refl _ _).alloc (Nat.le_refl _) _).alloc (by simp <;> omega) _).alloc (by simp <;> omega) _).trans (hb1.mono (by simp <;> omega))); clear hb1)
  (try simp only [Exit.inBlock, Exit.then]); refine bodyPost_ret (v := _) (by first | (simp [results, Try.results59, go_sem]; rfl) | (simp [results, Try.results59, go_sem, hc1, hf1]; rfl)) rfl ⟨by first | rfl | (rw [HM1.out, HM2.out]; done) | exact congrArg Ending.returned (congrArg Value.agg (by simp; omega)) | (simp; done) | (simp; omega), (by repeat (first | exact HB1.out | exact Below.refl _ _ | refine Below.setCell ?_ (by simp <;> omega) _ | refine Below.alloc ?_ (by simp <;> omega) _ | refine Below.drew ?_))⟩

set_option maxRecDepth 100000 in
set_option maxHeartbeats 1000000 in
theorem mk2_ok (w : World) (dl dg sl sg : Nat) (h1 : dl ≤ dg) (h2 : dg ≤ 4294967295) (h3 : sl ≤ sg) (h4 : sg ≤ 4294967295) : Calls Try.prog 61 #[.agg #[.int .u64 (dl : Int), .int .u64 (dg : Int)], .agg #[.int .u64 (sl : Int), .int .u64 (sg : Int)]] w fun e w' => e = .returned (.agg #[.int .u64 (((withinS ⟨dl * sl, dg * sg⟩)).l : Int), .int .u64 (((withinS ⟨dl * sl, dg * sg⟩)).g : Int)]) ∧ Below w.heap.size w w' := by
  have k1 : (dl : Int) < 4294967296 := by omega
  have k2 : (dg : Int) < 4294967296 := by omega
  have k3 : (sl : Int) < 4294967296 := by omega
  have k4 : (sg : Int) < 4294967296 := by omega
  have hm1 : IntKind.u64.wrap ((dl : Int) * (sl : Int)) = ((dl * sl : Nat) : Int) := by
    have : dl * sl < 18446744073709551616 := Nat.lt_of_le_of_lt (Nat.mul_le_mul (show dl ≤ 4294967295 by omega) (show sl ≤ 4294967295 by omega)) (by omega)
    rw [IntKind.wrap_u64, ← Int.natCast_mul]; omega
  have hm2 : IntKind.u64.wrap ((dg : Int) * (sg : Int)) = ((dg * sg : Nat) : Int) := by
    have : dg * sg < 18446744073709551616 := Nat.lt_of_le_of_lt (Nat.mul_le_mul h2 h4) (by omega)
    rw [IntKind.wrap_u64, ← Int.natCast_mul]; omega
  have HM1 := Lib.hid hm1; have HM2 := Lib.hid hm2; clear hm1 hm2
  go_enter Try.func61, Try.ntmps61
  go_wp2_with (go_at_call 60; (with_reducible refine (within_span _ _ _ (dl * sl) (dg * sg) (by first | omega | exact HM1.out | exact HM2.out | (simp [IntKind.wrap_u64]; omega) | (simp [IntKind.wrap_u64])) (by first | omega | exact HM1.out | exact HM2.out | (simp [IntKind.wrap_u64]; omega) | (simp [IntKind.wrap_u64]))).mono ?_); rintro e w1 ⟨rfl, hb1⟩; obtain ⟨hc1, hf1⟩ := bcell hb1; have hz1 : w.heap.size + 3 ≤ w1.heap.size := (by have := hb1.size; simp at this; omega); have HB1 : Hid (Below w.heap.size w w1) := Lib.hid (((((Below.refl _ _).alloc (Nat.le_refl _) _).alloc (by simp <;> omega) _).alloc (by simp <;> omega) _).trans (hb1.mono (by simp <;> omega))); clear hb1)
  (try simp only [Exit.inBlock, Exit.then]); refine bodyPost_ret (v := _) (by first | (simp [results, Try.results61, go_sem]; rfl) | (simp [results, Try.results61, go_sem, hc1, hf1]; rfl)) rfl ⟨by first | rfl | (rw [HM1.out, HM2.out]; done) | exact congrArg Ending.returned (congrArg Value.agg (by simp; omega)) | (simp; done) | (simp; omega), (by repeat (first | exact HB1.out | exact Below.refl _ _ | refine Below.setCell ?_ (by simp <;> omega) _ | refine Below.alloc ?_ (by simp <;> omega) _ | refine Below.drew ?_))⟩

set_option maxRecDepth 100000 in
set_option maxHeartbeats 1000000 in
theorem mk3_ok (w : World) (dl dg sl sg : Nat) (h1 : dl ≤ dg) (h2 : dg ≤ 4294967295) (h3 : sl ≤ sg) (h4 : sg ≤ 4294967295) : Calls Try.prog 62 #[.agg #[.int .u64 (dl : Int), .int .u64 (dg : Int)], .agg #[.int .u64 (sl : Int), .int .u64 (sg : Int)]] w fun e w' => e = .returned (.agg #[.int .u64 (((Sp.mk 0 (min dg sg))).l : Int), .int .u64 (((Sp.mk 0 (min dg sg))).g : Int)]) ∧ Below w.heap.size w w' := by
  have k1 : (dl : Int) < 4294967296 := by omega
  have k2 : (dg : Int) < 4294967296 := by omega
  have k3 : (sl : Int) < 4294967296 := by omega
  have k4 : (sg : Int) < 4294967296 := by omega
  go_enter Try.func62, Try.ntmps62
  go_wp2
  (try simp only [Exit.inBlock, Exit.then]); refine bodyPost_ret (v := _) (by first | (simp [results, Try.results62, go_sem]; rfl) | (simp [results, Try.results62, go_sem, hc1, hf1]; rfl)) rfl ⟨by first | rfl | (rw [HM1.out, HM2.out]; done) | exact congrArg Ending.returned (congrArg Value.agg (by simp; omega)) | (simp; done) | (simp; omega), (by repeat (first | exact HB1.out | exact Below.refl _ _ | refine Below.setCell ?_ (by simp <;> omega) _ | refine Below.alloc ?_ (by simp <;> omega) _ | refine Below.drew ?_))⟩

set_option maxRecDepth 100000 in
set_option maxHeartbeats 1000000 in
theorem mk4_ok (w : World) (dl dg sl sg : Nat) (h1 : dl ≤ dg) (h2 : dg ≤ 4294967295) (h3 : sl ≤ sg) (h4 : sg ≤ 4294967295) : Calls Try.prog 63 #[.agg #[.int .u64 (dl : Int), .int .u64 (dg : Int)], .agg #[.int .u64 (sl : Int), .int .u64 (sg : Int)]] w fun e w' => e = .returned (.agg #[.int .u64 (((Sp.mk sl sg)).l : Int), .int .u64 (((Sp.mk sl sg)).g : Int)]) ∧ Below w.heap.size w w' := by
  have k1 : (dl : Int) < 4294967296 := by omega
  have k2 : (dg : Int) < 4294967296 := by omega
  have k3 : (sl : Int) < 4294967296 := by omega
  have k4 : (sg : Int) < 4294967296 := by omega
  go_enter Try.func63, Try.ntmps63
  go_wp2
  (try simp only [Exit.inBlock, Exit.then]); refine bodyPost_ret (v := _) (by first | (simp [results, Try.results63, go_sem]; rfl) | (simp [results, Try.results63, go_sem, hc1, hf1]; rfl)) rfl ⟨by first | rfl | (rw [HM1.out, HM2.out]; done) | exact congrArg Ending.returned (congrArg Value.agg (by simp; omega)) | (simp; done) | (simp; omega), (by repeat (first | exact HB1.out | exact Below.refl _ _ | refine Below.setCell ?_ (by simp <;> omega) _ | refine Below.alloc ?_ (by simp <;> omega) _ | refine Below.drew ?_))⟩

set_option maxRecDepth 100000 in
set_option maxHeartbeats 1000000 in
theorem mk5_ok (w : World) (dl dg sl sg : Nat) (h1 : dl ≤ dg) (h2 : dg ≤ 4294967295) (h3 : sl ≤ sg) (h4 : sg ≤ 4294967295) : Calls Try.prog 64 #[.agg #[.int .u64 (dl : Int), .int .u64 (dg : Int)], .agg #[.int .u64 (sl : Int), .int .u64 (sg : Int)]] w fun e w' => e = .returned (.agg #[.int .u64 (((if dl < sg then allS else ⟨dl - sg, dg - sl⟩ : Sp)).l : Int), .int .u64 (((if dl < sg then allS else ⟨dl - sg, dg - sl⟩ : Sp)).g : Int)]) ∧ Below w.heap.size w w' := by
  have k1 : (dl : Int) < 4294967296 := by omega
  have k2 : (dg : Int) < 4294967296 := by omega
  have k3 : (sl : Int) < 4294967296 := by omega
  have k4 : (sg : Int) < 4294967296 := by omega
  by_cases h : dl < sg
  · have h' : (dl : Int) < sg := by omega
    simp only [if_pos h, allS]
    go_enter Try.func64, Try.ntmps64
    go_wp2_with (go_at_call 56; (with_reducible refine (call_all _).mono ?_); rintro e w1 ⟨rfl, hb1⟩; obtain ⟨hc1, hf1⟩ := bcell hb1; have hz1 : w.heap.size + 3 ≤ w1.heap.size := (by have := hb1.size; simp at this; omega); have HB1 : Hid (Below w.heap.size w w1) := Lib.hid (((((Below.refl _ _).alloc (Nat.le_refl _) _).alloc (by simp <;> omega) _).alloc (by simp <;> omega) _).trans (hb1.mono (by simp <;> omega))); clear hb1)
    (try simp only [Exit.inBlock, Exit.then]); refine bodyPost_ret (v := _) (by first | (simp [results, Try.results64, go_sem]; rfl) | (simp [results, Try.results64, go_sem, hc1, hf1]; rfl)) rfl ⟨by first | rfl | simp, (by repeat (first | exact HB1.out | exact Below.refl _ _ | refine Below.setCell ?_ (by simp <;> omega) _ | refine Below.alloc ?_ (by simp <;> omega) _ | refine Below.drew ?_))⟩
  · have h' : ¬ (dl : Int) < sg := by omega
    simp only [if_neg h]
    go_enter Try.func64, Try.ntmps64
    go_wp2
    (try simp only [Exit.inBlock, Exit.then]); refine bodyPost_ret (v := _) (by first | (simp [results, Try.results64, go_sem]; rfl) | (simp [results, Try.results64, go_sem, hc1, hf1]; rfl)) rfl ⟨by first | rfl | exact congrArg Ending.returned (congrArg Value.agg (by simp; omega)), (by repeat (first | exact HB1.out | exact Below.refl _ _ | refine Below.setCell ?_ (by simp <;> omega) _ | refine Below.alloc ?_ (by simp <;> omega) _ | refine Below.drew ?_))⟩

theorem fin_store {w W : World} {g N : Nat} {t : TypeId} {G : Nat → Value} (hb : Below w.heap.size w W) (hB : Blk W g t N G) (hg : w.heap.size ≤ g) (cs : List Value) (hc : cs.length = N) :
    ∃ W3, Hid (W3 = W.setCells g 0 cs) ∧ Hid (W3.rangeAt g 0 cs) ∧ Hid (Below w.heap.size w W3) ∧ Hid (Kp (fun b => b = g) W W3) :=
  ⟨_, Lib.hid rfl, Lib.hid (World.rangeAt_setCells_same W g 0 cs (by rw [hc]; exact there_blk hB)), Lib.hid (Kp.setCells (w := w) (b := g) (.inr hg) _ _ _ (Kp.of_below hb No)).below, Lib.hid (Kp.setCells (M := fun b => b = g) (.inl rfl) _ _ _ (Kp.refl _ _))⟩

set_option maxRecDepth 100000 in
set_option maxHeartbeats 1000000 in
theorem mk6_ok (w : World) (dl dg sl sg : Nat) (h1 : dl ≤ dg) (h2 : dg ≤ 4294967295) (h3 : sl ≤ sg) (h4 : sg ≤ 4294967295) : Calls Try.prog 65 #[.agg #[.int .u64 (dl : Int), .int .u64 (dg : Int)], .agg #[.int .u64 (sl : Int), .int .u64 (sg : Int)]] w fun e w' => e = .returned (.agg #[.int .u64 (((Sp.mk (max dl sl) (onesN (max dg sg)))).l : Int), .int .u64 (((Sp.mk (max dl sl) (onesN (max dg sg)))).g : Int)]) ∧ Below w.heap.size w w' := by
  have k1 : (dl : Int) < 4294967296 := by omega
  have k2 : (dg : Int) < 4294967296 := by omega
  have k3 : (sl : Int) < 4294967296 := by omega
  have k4 : (sg : Int) < 4294967296 := by omega
  obtain ⟨W1, hW1⟩ : ∃ W1, W1 = (((w.alloc (.cells #[.int .u64 (dl : Int), .int .u64 (dg : Int)] 93)).alloc (.cells #[.int .u64 (sl : Int), .int .u64 (sg : Int)] 93)).alloc (.cells #[.int .u64 0, .int .u64 0] 93)) := ⟨_, rfl⟩
  have c0 : W1.cell? ⟨w.heap.size, 0, none⟩ = some (.int .u64 (dl : Int)) := by rw [hW1]; simp [go_sem]
  have c1 : W1.cell? ⟨w.heap.size, 1, none⟩ = some (.int .u64 (dg : Int)) := by rw [hW1]; simp [go_sem]
  have c2 : W1.cell? ⟨w.heap.size + 1, 0, none⟩ = some (.int .u64 (sl : Int)) := by rw [hW1]; simp [go_sem]
  have c3 : W1.cell? ⟨w.heap.size + 1, 1, none⟩ = some (.int .u64 (sg : Int)) := by rw [hW1]; simp [go_sem]
  have hb1 : Below w.heap.size w W1 := by rw [hW1]; exact ((((Below.refl _ _).alloc (Nat.le_refl _) _).alloc (by simp <;> omega) _).alloc (by simp <;> omega) _)
  have hr1 : Blk W1 (w.heap.size + 2) 93 2 (fun j => (#[.int .u64 0, .int .u64 0] : Array Value).getD j undef) := by
    have := Blk.lit ((w.alloc (.cells #[.int .u64 (dl : Int), .int .u64 (dg : Int)] 93)).alloc (.cells #[.int .u64 (sl : Int), .int .u64 (sg : Int)] 93)) 93 #[.int .u64 0, .int .u64 0]
    rw [hW1]; simpa using this
  have HB1 := Lib.hid hb1; have HR1 := Lib.hid hr1; have HC0 := Lib.hid c0; have HC1 := Lib.hid c1; have HC2 := Lib.hid c2; have HC3 := Lib.hid c3
  clear hb1 hr1 c0 c1 c2 c3
  have HW1 := Lib.hid hW1; clear hW1
  go_enter Try.func65, Try.ntmps65
  go_upto_region 1 with fail
  rw [← HW1.out]
  refine wp_region_noPanic ?_
  refine planM (.rd 0 (.rd 1 (.rd 2 (.rd 3 (.rd 4 (.rd 5 (.rd 6 (.rd 7 (.rd 8 (.rd 9 (.eff 10 (.rd 11 (.eff 12 .done))))))))))))) [0, 1, 2, 3, 4, 5, 6, 7, 8, 9, 10, 11] (fun W => Below W1.heap.size W1 W) (by kernel_rfl) (by kernel_rfl) (fun _ _ _ _ _ h => h) ((Below.refl _ _).drew) ?_
  repeat (refine pm_pure rfl (fun K hK => ?_); go_simp; refine hK _ ?_; clear hK K)
  refine pm_rd (.int .u64 (dl : Int)) rfl rfl (fun W hS => ?_) (fun K hK => ?_)
  · have f0 := (Kp.of_below hS No).cell HC0.out (fun e => e)
    simp [go_sem, f0]
  go_simp
  refine hK _ ?_
  clear hK K
  repeat (refine pm_pure rfl (fun K hK => ?_); go_simp; refine hK _ ?_; clear hK K)
  refine pm_rd (.int .u64 (sl : Int)) rfl rfl (fun W hS => ?_) (fun K hK => ?_)
  · have f0 := (Kp.of_below hS No).cell HC2.out (fun e => e)
    simp [go_sem, f0]
  go_simp
  refine hK _ ?_
  clear hK K
  repeat (refine pm_pure rfl (fun K hK => ?_); go_simp; refine hK _ ?_; clear hK K)
  refine pm_rd (.int .u64 (dg : Int)) rfl rfl (fun W hS => ?_) (fun K hK => ?_)
  · have f0 := (Kp.of_below hS No).cell HC1.out (fun e => e)
    simp [go_sem, f0]
  go_simp
  refine hK _ ?_
  clear hK K
  repeat (refine pm_pure rfl (fun K hK => ?_); go_simp; refine hK _ ?_; clear hK K)
  refine pm_rd (.int .u64 (sg : Int)) rfl rfl (fun W hS => ?_) (fun K hK => ?_)
  · have f0 := (Kp.of_below hS No).cell HC3.out (fun e => e)
    simp [go_sem, f0]
  go_simp
  refine hK _ ?_
  clear hK K
  repeat (refine pm_pure rfl (fun K hK => ?_); go_simp; refine hK _ ?_; clear hK K)
  refine pm_eff rfl rfl (fun K hK => ?_)
  go_simp
  rw [show (max (dg : Int) (sg : Int)) = ((max dg sg : Nat) : Int) from by omega]
  (with_reducible refine (ones_ok _ _ (by omega)).mono ?_)
  rintro e w1 ⟨rfl, rfl⟩
  refine hK _ _ (fun _ => (Below.refl _ _).drew) ?_
  clear hK K
  repeat (refine pm_pure rfl (fun K hK => ?_); go_simp; refine hK _ ?_; clear hK K)
  obtain ⟨W3, HW3, HR3, HB3, HK3⟩ := fin_store (HB1.out.drew) HR1.out (Nat.le_add_right _ _) [.int .u64 (max (dl : Int) (sl : Int)), .int .u64 (onesN (max dg sg) : Int)] rfl
  refine pm_eff rfl rfl (fun K hK => ?_)
  refine wp_store_mid 93 (.tmp 4) (.tmp 16) rfl (w.heap.size + 2) (0) #[.int .u64 (max (dl : Int) (sl : Int)), .int .u64 (onesN (max dg sg) : Int)] rfl rfl (there_blk HR1.out) (by kernel_rfl) (by simp [Value.oneCell']) ?_
  rw [← HW3.out]
  refine hK _ _ (fun h => by cases h) ?_
  clear hK K
  refine pm_done ?_
  refine NoPanic.normal ?_
  go_wp2
  exact bodyPost_ret (v := .agg #[.int .u64 (max (dl : Int) (sl : Int)), .int .u64 (onesN (max dg sg) : Int)]) (results_cell1_range Try.results65 _ _ (w.heap.size + 2) 0 [.int .u64 (max (dl : Int) (sl : Int)), .int .u64 (onesN (max dg sg) : Int)] _ rfl HR3.out Try.underlying93 rfl (by kernel_rfl)) rfl ⟨by rw [show (max (dl : Int) (sl : Int)) = ((max dl sl : Nat) : Int) from by omega], HB3.out⟩

set_option maxRecDepth 100000 in
set_option maxHeartbeats 1000000 in
theorem mk10_ok (w : World) (dl dg sl sg : Nat) (h1 : dl ≤ dg) (h2 : dg ≤ 4294967295) (h3 : sl ≤ sg) (h4 : sg ≤ 4294967295) (h5 : 0 < sl) : Calls Try.prog 70 #[.agg #[.int .u64 (dl : Int), .int .u64 (dg : Int)], .agg #[.int .u64 (sl : Int), .int .u64 (sg : Int)]] w fun e w' => e = .returned (.agg #[.int .u64 (((Sp.mk (dl / sg) (dg / sl))).l : Int), .int .u64 (((Sp.mk (dl / sg) (dg / sl))).g : Int)]) ∧ Below w.heap.size w w' := by
  have k1 : (dl : Int) < 4294967296 := by omega
  have k2 : (dg : Int) < 4294967296 := by omega
  have k3 : (sl : Int) < 4294967296 := by omega
  have k4 : (sg : Int) < 4294967296 := by omega
  have k5 : (0 : Int) < sl := by omega
  have k6 : (0 : Int) < sg := by omega
  have hw1 : IntKind.u64.wrap ((dl : Int) / (sg : Int)) = ((dl / sg : Nat) : Int) := by
    have := Nat.div_le_self dl sg
    rw [IntKind.wrap_u64, ← Int.natCast_ediv]
    generalize dl / sg = q at this ⊢; omega
  have hw2 : IntKind.u64.wrap ((dg : Int) / (sl : Int)) = ((dg / sl : Nat) : Int) := by
    have := Nat.div_le_self dg sl
    rw [IntKind.wrap_u64, ← Int.natCast_ediv]
    generalize dg / sl = q at this ⊢; omega
  have HM1 := Lib.hid hw1; have HM2 := Lib.hid hw2; clear hw1 hw2
  go_enter Try.func70, Try.ntmps70
  go_upto_region 1 with fail
  go_region
  all_goals go_wp2
  (try simp only [Exit.inBlock, Exit.then]); refine bodyPost_ret (v := _) (by first | (simp [results, Try.results70, go_sem]; rfl) | (simp [results, Try.results70, go_sem, hc1, hf1]; rfl)) rfl ⟨by first | rfl | (rw [HM1.out, HM2.out]; done) | exact congrArg Ending.returned (congrArg Value.agg (by simp; omega)) | (simp; done) | (simp; omega), (by repeat (first | exact HB1.out | exact Below.refl _ _ | refine Below.setCell ?_ (by simp <;> omega) _ | refine Below.alloc ?_ (by simp <;> omega) _ | refine Below.drew ?_))⟩

set_option maxRecDepth 100000 in
set_option maxHeartbeats 1000000 in
theorem mk7_ok (w : World) (dl dg sl sg : Nat) (h1 : dl ≤ dg) (h2 : dg ≤ 4294967295) (h3 : sl ≤ sg) (h4 : sg ≤ 4294967295) : Calls Try.prog 67 #[.agg #[.int .u64 (dl : Int), .int .u64 (dg : Int)], .agg #[.int .u64 (sl : Int), .int .u64 (sg : Int)]] w fun e w' => e = .returned (.agg #[.int .u64 (((Sp.mk 0 (onesN (max dg sg)))).l : Int), .int .u64 (((Sp.mk 0 (onesN (max dg sg)))).g : Int)]) ∧ Below w.heap.size w w' := by
  have k1 : (dl : Int) < 4294967296 := by omega
  have k2 : (dg : Int) < 4294967296 := by omega
  have k3 : (sl : Int) < 4294967296 := by omega
  have k4 : (sg : Int) < 4294967296 := by omega
  go_enter Try.func67, Try.ntmps67
  go_wp2_with (go_at_call 66; rw [show (max (dg : Int) (sg : Int)) = ((max dg sg : Nat) : Int) from by omega]; (with_reducible refine (ones_ok _ _ (by omega)).mono ?_); rintro e w1 ⟨rfl, rfl⟩)
  (try simp only [Exit.inBlock, Exit.then]); refine bodyPost_ret (v := _) (by first | (simp [results, Try.results67, go_sem]; rfl) | (simp [results, Try.results67, go_sem, hc1, hf1]; rfl)) rfl ⟨by first | rfl | (rw [HM1.out, HM2.out]; done) | exact congrArg Ending.returned (congrArg Value.agg (by simp; omega)) | (simp; done) | (simp; omega), (by repeat (first | exact HB1.out | exact Below.refl _ _ | refine Below.setCell ?_ (by simp <;> omega) _ | refine Below.alloc ?_ (by simp <;> omega) _ | refine Below.drew ?_))⟩

set_option maxRecDepth 100000 in
set_option maxHeartbeats 1000000 in
theorem mk8_ok (w : World) (dl dg sl sg : Nat) (h1 : dl ≤ dg) (h2 : dg ≤ 4294967295) (h3 : sl ≤ sg) (h4 : sg ≤ 4294967295) (h5 : sl ≤ 31) : Calls Try.prog 68 #[.agg #[.int .u64 (dl : Int), .int .u64 (dg : Int)], .agg #[.int .u64 (sl : Int), .int .u64 (sg : Int)]] w fun e w' => e = .returned (.agg #[.int .u64 (((withinS ⟨dl * 2 ^ sl, dg * 2 ^ sl⟩)).l : Int), .int .u64 (((withinS ⟨dl * 2 ^ sl, dg * 2 ^ sl⟩)).g : Int)]) ∧ Below w.heap.size w w' := by
  have k1 : (dl : Int) < 4294967296 := by omega
  have k2 : (dg : Int) < 4294967296 := by omega
  have k3 : (sl : Int) < 4294967296 := by omega
  have k4 : (sg : Int) < 4294967296 := by omega
  have hp : 2 ^ sl ≤ 2 ^ 31 := Nat.pow_le_pow_right (by omega) (by omega)
  have hq1 : dl * 2 ^ sl < 18446744073709551616 := Nat.lt_of_le_of_lt (Nat.mul_le_mul (show dl ≤ 4294967295 by omega) hp) (by omega)
  have hq2 : dg * 2 ^ sl < 18446744073709551616 := Nat.lt_of_le_of_lt (Nat.mul_le_mul h2 hp) (by omega)
  have hm1 : IntKind.u64.wrap ((dl : Int) * 2 ^ sl) = ((dl * 2 ^ sl : Nat) : Int) := by
    rw [IntKind.wrap_u64, show (dl : Int) * 2 ^ sl = ((dl * 2 ^ sl : Nat) : Int) from by simp]; omega
  have hm2 : IntKind.u64.wrap ((dg : Int) * 2 ^ sl) = ((dg * 2 ^ sl : Nat) : Int) := by
    rw [IntKind.wrap_u64, show (dg : Int) * 2 ^ sl = ((dg * 2 ^ sl : Nat) : Int) from by simp]; omega
  have k5 : (sl : Int) < 64 := by omega
  have HM1 := Lib.hid hm1; have HM2 := Lib.hid hm2; clear hp hq1 hq2 hm1 hm2
  go_enter Try.func68, Try.ntmps68
  go_wp2_with (go_at_call 60; (with_reducible refine (within_span _ _ _ (dl * 2 ^ sl) (dg * 2 ^ sl) (by first | omega | exact HM1.out | exact HM2.out | (simp [IntKind.wrap_u64]; omega) | (simp [IntKind.wrap_u64])) (by first | omega | exact HM1.out | exact HM2.out | (simp [IntKind.wrap_u64]; omega) | (simp [IntKind.wrap_u64]))).mono ?_); rintro e w1 ⟨rfl, hb1⟩; obtain ⟨hc1, hf1⟩ := bcell hb1; have hz1 : w.heap.size + 3 ≤ w1.heap.size := (by have := hb1.size; simp at this; omega); have HB1 : Hid (Below w.heap.size w w1) := Lib.hid (((((Below.refl _ _).alloc (Nat.le_refl _) _).alloc (by simp <;> omega) _).alloc (by simp <;> omega) _).trans (hb1.mono (by simp <;> omega))); clear hb1)
  (try simp only [Exit.inBlock, Exit.then]); refine bodyPost_ret (v := _) (by first | (simp [results, Try.results68, go_sem]; rfl) | (simp [results, Try.results68, go_sem, hc1, hf1]; rfl)) rfl ⟨by first | rfl | (rw [HM1.out, HM2.out]; done) | exact congrArg Ending.returned (congrArg Value.agg (by simp; omega)) | (simp; done) | (simp; omega), (by repeat (first | exact HB1.out | exact Below.refl _ _ | refine Below.setCell ?_ (by simp <;> omega) _ | refine Below.alloc ?_ (by simp <;> omega) _ | refine Below.drew ?_))⟩

set_option maxRecDepth 100000 in
set_option maxHeartbeats 1000000 in
theorem mk9_ok (w : World) (dl dg sl sg : Nat) (h1 : dl ≤ dg) (h2 : dg ≤ 4294967295) (h3 : sl ≤ sg) (h4 : sg ≤ 4294967295) (h5 : sl ≤ 31) : Calls Try.prog 69 #[.agg #[.int .u64 (dl : Int), .int .u64 (dg : Int)], .agg #[.int .u64 (sl : Int), .int .u64 (sg : Int)]] w fun e w' => e = .returned (.agg #[.int .u64 (((Sp.mk (dl / 2 ^ sl) (dg / 2 ^ sl))).l : Int), .int .u64 (((Sp.mk (dl / 2 ^ sl) (dg / 2 ^ sl))).g : Int)]) ∧ Below w.heap.size w w' := by
  have k1 : (dl : Int) < 4294967296 := by omega
  have k2 : (dg : Int) < 4294967296 := by omega
  have k3 : (sl : Int) < 4294967296 := by omega
  have k4 : (sg : Int) < 4294967296 := by omega
  have k5 : (sl : Int) < 64 := by omega
  go_enter Try.func69, Try.ntmps69
  go_wp2
  (try simp only [Exit.inBlock, Exit.then]); refine bodyPost_ret (v := _) (by first | (simp [results, Try.results69, go_sem]; rfl) | (simp [results, Try.results69, go_sem, hc1, hf1]; rfl)) rfl ⟨by first | rfl | (rw [HM1.out, HM2.out]; done) | exact congrArg Ending.returned (congrArg Value.agg (by simp; omega)) | (simp; done) | (simp; omega), (by repeat (first | exact HB1.out | exact Below.refl _ _ | refine Below.setCell ?_ (by simp <;> omega) _ | refine Below.alloc ?_ (by simp <;> omega) _ | refine Below.drew ?_))⟩

set_option maxRecDepth 100000 in
set_option maxHeartbeats 1000000 in
theorem mk11_ok (w : World) (dl dg sl sg : Nat) (h1 : dl ≤ dg) (h2 : dg ≤ 4294967295) (h3 : sl ≤ sg) (h4 : sg ≤ 4294967295) (h5 : 0 < sl) : Calls Try.prog 71 #[.agg #[.int .u64 (dl : Int), .int .u64 (dg : Int)], .agg #[.int .u64 (sl : Int), .int .u64 (sg : Int)]] w fun e w' => e = .returned (.agg #[.int .u64 (((Sp.mk 0 (min dg (sg - 1)))).l : Int), .int .u64 (((Sp.mk 0 (min dg (sg - 1)))).g : Int)]) ∧ Below w.heap.size w w' := by
  have k1 : (dl : Int) < 4294967296 := by omega
  have k2 : (dg : Int) < 4294967296 := by omega
  have k3 : (sl : Int) < 4294967296 := by omega
  have k4 : (sg : Int) < 4294967296 := by omega
  have k5 : 1 ≤ (sg : Int) := by omega
  go_enter Try.func71, Try.ntmps71
  go_wp2
  (try simp only [Exit.inBlock, Exit.then]); refine bodyPost_ret (v := _) (by first | (simp [results, Try.results71, go_sem]; rfl) | (simp [results, Try.results71, go_sem, hc1, hf1]; rfl)) rfl ⟨by first | rfl | (rw [HM1.out, HM2.out]; done) | exact congrArg Ending.returned (congrArg Value.agg (by simp; omega)) | (simp; done) | (simp; omega), (by repeat (first | exact HB1.out | exact Below.refl _ _ | refine Below.setCell ?_ (by simp <;> omega) _ | refine Below.alloc ?_ (by simp <;> omega) _ | refine Below.drew ?_))⟩
end Go.Proofs.Ytjlddhnjbjhmkaa
namespace Go.Proofs.Ytjlddhnjbjhmkaa
open Go.RowKit

theorem set_alloc (w : World) (o o' : Obj) : ({ (w.alloc o) with heap := (w.alloc o).heap.setIfInBounds w.heap.size o' } : World) = w.alloc o' := by
  show ({ w with heap := (w.heap.push o).setIfInBounds w.heap.size o' } : World) = { w with heap := w.heap.push o' }
  congr 1
  apply Array.ext
  · simp
  · intro i h1 h2
    by_cases e : i = w.heap.size
    · subst e; simp
    · rw [Array.getElem_setIfInBounds_ne (by simpa using h1) (fun h => e h.symm)]
      have : i < w.heap.size := by simp at h2; omega
      simp [Array.getElem_push, this]
theorem run_ins (w : World) (es : Array MapEntry) (clk : Nat) (n : Int) (v : Value) (hf : Instr.findNow (.int .i64) (.int .i64 n) es.toList 0 = some none) :
    (Instr.mapUpdate 111 (.map (some w.heap.size)) (.int .i64 n) v).run Try.prog (w.alloc (.map es clk)) = .ok () (w.alloc (.map (es.push ⟨.int .i64 n, v, clk⟩) (clk + 1))) := by
  have hb : (w.alloc (.map es clk)).heap[w.heap.size]? = some (.map es clk) := heap_alloc_new _ _
  have := MapKept.run_setObj_map (P := Try.prog) (.map (es.push ⟨.int .i64 n, v, clk⟩) (clk + 1)) hb
  rw [set_alloc] at this
  simp [Instr.mapUpdate, run_underlying Try.underlying111, MapKept.run_getObj_map hb, MapKept.run_checkKey Try.underlying43 (k := .int .i64 n) rfl, MapKept.run_findKey Try.underlying43 hf, this, Result.andThen]
theorem run_look (w : World) (b : Nat) (es : Array MapEntry) (clk : Nat) (n : Int) (i : Nat) (v : Value) (hb : w.heap[b]? = some (.map es clk)) (hf : Instr.findNow (.int .i64) (.int .i64 n) es.toList 0 = some (some (i, v))) :
    (Instr.lookup 111 (.map (some b)) (.int .i64 n) false).run Try.prog w = .ok v w := by
  simp [Instr.lookup, run_underlying Try.underlying111, MapKept.run_getObj_map hb, MapKept.run_checkKey Try.underlying43 (k := .int .i64 n) rfl, MapKept.run_findKey Try.underlying43 hf, Result.andThen]
theorem wpList_ins {ops : Array Oper} {rest : List Oper} {o : Oper} {a : Act} {w : World} {Q : Exit → Act → World → Prop} {es : Array MapEntry} {clk : Nat} (hgd : o.guard = none) (m x y : Operand) (ho : o.op = .insert 111 m x y) (n : Int) (v : Value)
    (hm : a.eval m = .map (some w.heap.size)) (hx : a.eval x = .int .i64 n) (hy : a.eval y = v) (hf : Instr.findNow (.int .i64) (.int .i64 n) es.toList 0 = some none)
    (es' : Array MapEntry) (he : es.push ⟨.int .i64 n, v, clk⟩ = es') (clk' : Nat) (hc : clk + 1 = clk') (h : wpList Try.prog ops Q rest (a.put o.dst undef) (w.alloc (.map es' clk'))) : wpList Try.prog ops Q (o :: rest) a (w.alloc (.map es clk)) :=
  wpList_plain hgd fun K hK => by
    subst he; subst hc
    unfold Oper.wp execOp
    simp only [ho, hm, hx, hy, Sem.run_bind, run_ins w es clk n v hf, Sem.run_pure, Result.andThen_ok]
    exact hK _ _ h
theorem wpList_val0 {ops : Array Oper} {rest : List Oper} {o : Oper} {a : Act} {w : World} {Q : Exit → Act → World → Prop} (v : Value) (hgd : o.guard = none) (h : (execOp a.eval o).run Try.prog w = .ok (.value v) w)
    (hk : wpList Try.prog ops Q rest (a.put o.dst v) w) : wpList Try.prog ops Q (o :: rest) a w := wpList_value v hgd h hk
def fnC (op : Nat) : FuncId := if op ≤ 2 then 63 else if op ≤ 4 then 59 else if op = 5 then 64 else if op ≤ 7 then 61 else if op ≤ 9 then 62 else if op = 10 then 65 else if op = 11 then 67 else if op = 12 then 68 else if op = 13 then 69 else if op = 14 then 70 else 71
def tabE : Array MapEntry := #[⟨.int .i64 1, .func (.func 63) #[] #[], 0⟩, ⟨.int .i64 2, .func (.func 63) #[] #[], 1⟩, ⟨.int .i64 3, .func (.func 59) #[] #[], 2⟩, ⟨.int .i64 4, .func (.func 59) #[] #[], 3⟩, ⟨.int .i64 6, .func (.func 61) #[] #[], 4⟩, ⟨.int .i64 7, .func (.func 61) #[] #[], 5⟩, ⟨.int .i64 8, .func (.func 62) #[] #[], 6⟩, ⟨.int .i64 9, .func (.func 62) #[] #[], 7⟩, ⟨.int .i64 5, .func (.func 64) #[] #[], 8⟩, ⟨.int .i64 10, .func (.func 65) #[] #[], 9⟩, ⟨.int .i64 11, .func (.func 67) #[] #[], 10⟩, ⟨.int .i64 12, .func (.func 68) #[] #[], 11⟩, ⟨.int .i64 13, .func (.func 69) #[] #[], 12⟩, ⟨.int .i64 14, .func (.func 70) #[] #[], 13⟩, ⟨.int .i64 15, .func (.func 71) #[] #[], 14⟩]
set_option maxHeartbeats 400000 in
theorem makes_ok (w : World) : Calls Try.prog 57 #[] w fun e w' => e = .returned (.map (some w.heap.size)) ∧ w' = w.alloc (.map tabE 15) := by
  go_enter Try.func57, Try.ntmps57
  go_upto_region 5 with fail
  refine wp_region_list ?_
  refine wpList_value (w' := w.alloc (.map #[] 0)) (.map (some w.heap.size)) rfl (by kernel_rfl) ?_
  refine wpList_val0 (.func (.func 63) #[] #[]) rfl (by kernel_rfl) ?_
  refine wpList_ins rfl (.tmp 5) (.const (.int .i64 1)) (.tmp 6) rfl 1 (.func (.func 63) #[] #[]) (by kernel_rfl) rfl (by kernel_rfl) (by kernel_rfl) #[⟨.int .i64 1, .func (.func 63) #[] #[], 0⟩] (by kernel_rfl) 1 rfl ?_
  refine wpList_val0 (.func (.func 63) #[] #[]) rfl (by kernel_rfl) ?_
  refine wpList_ins rfl (.tmp 5) (.const (.int .i64 2)) (.tmp 7) rfl 2 (.func (.func 63) #[] #[]) (by kernel_rfl) rfl (by kernel_rfl) (by kernel_rfl) #[⟨.int .i64 1, .func (.func 63) #[] #[], 0⟩, ⟨.int .i64 2, .func (.func 63) #[] #[], 1⟩] (by kernel_rfl) 2 rfl ?_
  refine wpList_val0 (.func (.func 59) #[] #[]) rfl (by kernel_rfl) ?_
  refine wpList_ins rfl (.tmp 5) (.const (.int .i64 3)) (.tmp 8) rfl 3 (.func (.func 59) #[] #[]) (by kernel_rfl) rfl (by kernel_rfl) (by kernel_rfl) #[⟨.int .i64 1, .func (.func 63) #[] #[], 0⟩, ⟨.int .i64 2, .func (.func 63) #[] #[], 1⟩, ⟨.int .i64 3, .func (.func 59) #[] #[], 2⟩] (by kernel_rfl) 3 rfl ?_
  refine wpList_val0 (.func (.func 59) #[] #[]) rfl (by kernel_rfl) ?_
  refine wpList_ins rfl (.tmp 5) (.const (.int .i64 4)) (.tmp 9) rfl 4 (.func (.func 59) #[] #[]) (by kernel_rfl) rfl (by kernel_rfl) (by kernel_rfl) #[⟨.int .i64 1, .func (.func 63) #[] #[], 0⟩, ⟨.int .i64 2, .func (.func 63) #[] #[], 1⟩, ⟨.int .i64 3, .func (.func 59) #[] #[], 2⟩, ⟨.int .i64 4, .func (.func 59) #[] #[], 3⟩] (by kernel_rfl) 4 rfl ?_
  refine wpList_val0 (.func (.func 61) #[] #[]) rfl (by kernel_rfl) ?_
  refine wpList_ins rfl (.tmp 5) (.const (.int .i64 6)) (.tmp 10) rfl 6 (.func (.func 61) #[] #[]) (by kernel_rfl) rfl (by kernel_rfl) (by kernel_rfl) #[⟨.int .i64 1, .func (.func 63) #[] #[], 0⟩, ⟨.int .i64 2, .func (.func 63) #[] #[], 1⟩, ⟨.int .i64 3, .func (.func 59) #[] #[], 2⟩, ⟨.int .i64 4, .func (.func 59) #[] #[], 3⟩, ⟨.int .i64 6, .func (.func 61) #[] #[], 4⟩] (by kernel_rfl) 5 rfl ?_
  refine wpList_val0 (.func (.func 61) #[] #[]) rfl (by kernel_rfl) ?_
  refine wpList_ins rfl (.tmp 5) (.const (.int .i64 7)) (.tmp 11) rfl 7 (.func (.func 61) #[] #[]) (by kernel_rfl) rfl (by kernel_rfl) (by kernel_rfl) #[⟨.int .i64 1, .func (.func 63) #[] #[], 0⟩, ⟨.int .i64 2, .func (.func 63) #[] #[], 1⟩, ⟨.int .i64 3, .func (.func 59) #[] #[], 2⟩, ⟨.int .i64 4, .func (.func 59) #[] #[], 3⟩, ⟨.int .i64 6, .func (.func 61) #[] #[], 4⟩, ⟨.int .i64 7, .func (.func 61) #[] #[], 5⟩] (by kernel_rfl) 6 rfl ?_
  refine wpList_val0 (.func (.func 62) #[] #[]) rfl (by kernel_rfl) ?_
  refine wpList_ins rfl (.tmp 5) (.const (.int .i64 8)) (.tmp 12) rfl 8 (.func (.func 62) #[] #[]) (by kernel_rfl) rfl (by kernel_rfl) (by kernel_rfl) #[⟨.int .i64 1, .func (.func 63) #[] #[], 0⟩, ⟨.int .i64 2, .func (.func 63) #[] #[], 1⟩, ⟨.int .i64 3, .func (.func 59) #[] #[], 2⟩, ⟨.int .i64 4, .func (.func 59) #[] #[], 3⟩, ⟨.int .i64 6, .func (.func 61) #[] #[], 4⟩, ⟨.int .i64 7, .func (.func 61) #[] #[], 5⟩, ⟨.int .i64 8, .func (.func 62) #[] #[], 6⟩] (by kernel_rfl) 7 rfl ?_
  refine wpList_val0 (.func (.func 62) #[] #[]) rfl (by kernel_rfl) ?_
  refine wpList_ins rfl (.tmp 5) (.const (.int .i64 9)) (.tmp 13) rfl 9 (.func (.func 62) #[] #[]) (by kernel_rfl) rfl (by kernel_rfl) (by kernel_rfl) #[⟨.int .i64 1, .func (.func 63) #[] #[], 0⟩, ⟨.int .i64 2, .func (.func 63) #[] #[], 1⟩, ⟨.int .i64 3, .func (.func 59) #[] #[], 2⟩, ⟨.int .i64 4, .func (.func 59) #[] #[], 3⟩, ⟨.int .i64 6, .func (.func 61) #[] #[], 4⟩, ⟨.int .i64 7, .func (.func 61) #[] #[], 5⟩, ⟨.int .i64 8, .func (.func 62) #[] #[], 6⟩, ⟨.int .i64 9, .func (.func 62) #[] #[], 7⟩] (by kernel_rfl) 8 rfl ?_
  refine wpList_ins rfl (.tmp 5) (.const (.int .i64 5)) (.func 64) rfl 5 (.func (.func 64) #[] #[]) (by kernel_rfl) rfl (by kernel_rfl) (by kernel_rfl) #[⟨.int .i64 1, .func (.func 63) #[] #[], 0⟩, ⟨.int .i64 2, .func (.func 63) #[] #[], 1⟩, ⟨.int .i64 3, .func (.func 59) #[] #[], 2⟩, ⟨.int .i64 4, .func (.func 59) #[] #[], 3⟩, ⟨.int .i64 6, .func (.func 61) #[] #[], 4⟩, ⟨.int .i64 7, .func (.func 61) #[] #[], 5⟩, ⟨.int .i64 8, .func (.func 62) #[] #[], 6⟩, ⟨.int .i64 9, .func (.func 62) #[] #[], 7⟩, ⟨.int .i64 5, .func (.func 64) #[] #[], 8⟩] (by kernel_rfl) 9 rfl ?_
  refine wpList_ins rfl (.tmp 5) (.const (.int .i64 10)) (.func 65) rfl 10 (.func (.func 65) #[] #[]) (by kernel_rfl) rfl (by kernel_rfl) (by kernel_rfl) #[⟨.int .i64 1, .func (.func 63) #[] #[], 0⟩, ⟨.int .i64 2, .func (.func 63) #[] #[], 1⟩, ⟨.int .i64 3, .func (.func 59) #[] #[], 2⟩, ⟨.int .i64 4, .func (.func 59) #[] #[], 3⟩, ⟨.int .i64 6, .func (.func 61) #[] #[], 4⟩, ⟨.int .i64 7, .func (.func 61) #[] #[], 5⟩, ⟨.int .i64 8, .func (.func 62) #[] #[], 6⟩, ⟨.int .i64 9, .func (.func 62) #[] #[], 7⟩, ⟨.int .i64 5, .func (.func 64) #[] #[], 8⟩, ⟨.int .i64 10, .func (.func 65) #[] #[], 9⟩] (by kernel_rfl) 10 rfl ?_
  refine wpList_ins rfl (.tmp 5) (.const (.int .i64 11)) (.func 67) rfl 11 (.func (.func 67) #[] #[]) (by kernel_rfl) rfl (by kernel_rfl) (by kernel_rfl) #[⟨.int .i64 1, .func (.func 63) #[] #[], 0⟩, ⟨.int .i64 2, .func (.func 63) #[] #[], 1⟩, ⟨.int .i64 3, .func (.func 59) #[] #[], 2⟩, ⟨.int .i64 4, .func (.func 59) #[] #[], 3⟩, ⟨.int .i64 6, .func (.func 61) #[] #[], 4⟩, ⟨.int .i64 7, .func (.func 61) #[] #[], 5⟩, ⟨.int .i64 8, .func (.func 62) #[] #[], 6⟩, ⟨.int .i64 9, .func (.func 62) #[] #[], 7⟩, ⟨.int .i64 5, .func (.func 64) #[] #[], 8⟩, ⟨.int .i64 10, .func (.func 65) #[] #[], 9⟩, ⟨.int .i64 11, .func (.func 67) #[] #[], 10⟩] (by kernel_rfl) 11 rfl ?_
  refine wpList_ins rfl (.tmp 5) (.const (.int .i64 12)) (.func 68) rfl 12 (.func (.func 68) #[] #[]) (by kernel_rfl) rfl (by kernel_rfl) (by kernel_rfl) #[⟨.int .i64 1, .func (.func 63) #[] #[], 0⟩, ⟨.int .i64 2, .func (.func 63) #[] #[], 1⟩, ⟨.int .i64 3, .func (.func 59) #[] #[], 2⟩, ⟨.int .i64 4, .func (.func 59) #[] #[], 3⟩, ⟨.int .i64 6, .func (.func 61) #[] #[], 4⟩, ⟨.int .i64 7, .func (.func 61) #[] #[], 5⟩, ⟨.int .i64 8, .func (.func 62) #[] #[], 6⟩, ⟨.int .i64 9, .func (.func 62) #[] #[], 7⟩, ⟨.int .i64 5, .func (.func 64) #[] #[], 8⟩, ⟨.int .i64 10, .func (.func 65) #[] #[], 9⟩, ⟨.int .i64 11, .func (.func 67) #[] #[], 10⟩, ⟨.int .i64 12, .func (.func 68) #[] #[], 11⟩] (by kernel_rfl) 12 rfl ?_
  refine wpList_ins rfl (.tmp 5) (.const (.int .i64 13)) (.func 69) rfl 13 (.func (.func 69) #[] #[]) (by kernel_rfl) rfl (by kernel_rfl) (by kernel_rfl) #[⟨.int .i64 1, .func (.func 63) #[] #[], 0⟩, ⟨.int .i64 2, .func (.func 63) #[] #[], 1⟩, ⟨.int .i64 3, .func (.func 59) #[] #[], 2⟩, ⟨.int .i64 4, .func (.func 59) #[] #[], 3⟩, ⟨.int .i64 6, .func (.func 61) #[] #[], 4⟩, ⟨.int .i64 7, .func (.func 61) #[] #[], 5⟩, ⟨.int .i64 8, .func (.func 62) #[] #[], 6⟩, ⟨.int .i64 9, .func (.func 62) #[] #[], 7⟩, ⟨.int .i64 5, .func (.func 64) #[] #[], 8⟩, ⟨.int .i64 10, .func (.func 65) #[] #[], 9⟩, ⟨.int .i64 11, .func (.func 67) #[] #[], 10⟩, ⟨.int .i64 12, .func (.func 68) #[] #[], 11⟩, ⟨.int .i64 13, .func (.func 69) #[] #[], 12⟩] (by kernel_rfl) 13 rfl ?_
  refine wpList_ins rfl (.tmp 5) (.const (.int .i64 14)) (.func 70) rfl 14 (.func (.func 70) #[] #[]) (by kernel_rfl) rfl (by kernel_rfl) (by kernel_rfl) #[⟨.int .i64 1, .func (.func 63) #[] #[], 0⟩, ⟨.int .i64 2, .func (.func 63) #[] #[], 1⟩, ⟨.int .i64 3, .func (.func 59) #[] #[], 2⟩, ⟨.int .i64 4, .func (.func 59) #[] #[], 3⟩, ⟨.int .i64 6, .func (.func 61) #[] #[], 4⟩, ⟨.int .i64 7, .func (.func 61) #[] #[], 5⟩, ⟨.int .i64 8, .func (.func 62) #[] #[], 6⟩, ⟨.int .i64 9, .func (.func 62) #[] #[], 7⟩, ⟨.int .i64 5, .func (.func 64) #[] #[], 8⟩, ⟨.int .i64 10, .func (.func 65) #[] #[], 9⟩, ⟨.int .i64 11, .func (.func 67) #[] #[], 10⟩, ⟨.int .i64 12, .func (.func 68) #[] #[], 11⟩, ⟨.int .i64 13, .func (.func 69) #[] #[], 12⟩, ⟨.int .i64 14, .func (.func 70) #[] #[], 13⟩] (by kernel_rfl) 14 rfl ?_
  refine wpList_ins rfl (.tmp 5) (.const (.int .i64 15)) (.func 71) rfl 15 (.func (.func 71) #[] #[]) (by kernel_rfl) rfl (by kernel_rfl) (by kernel_rfl) #[⟨.int .i64 1, .func (.func 63) #[] #[], 0⟩, ⟨.int .i64 2, .func (.func 63) #[] #[], 1⟩, ⟨.int .i64 3, .func (.func 59) #[] #[], 2⟩, ⟨.int .i64 4, .func (.func 59) #[] #[], 3⟩, ⟨.int .i64 6, .func (.func 61) #[] #[], 4⟩, ⟨.int .i64 7, .func (.func 61) #[] #[], 5⟩, ⟨.int .i64 8, .func (.func 62) #[] #[], 6⟩, ⟨.int .i64 9, .func (.func 62) #[] #[], 7⟩, ⟨.int .i64 5, .func (.func 64) #[] #[], 8⟩, ⟨.int .i64 10, .func (.func 65) #[] #[], 9⟩, ⟨.int .i64 11, .func (.func 67) #[] #[], 10⟩, ⟨.int .i64 12, .func (.func 68) #[] #[], 11⟩, ⟨.int .i64 13, .func (.func 69) #[] #[], 12⟩, ⟨.int .i64 14, .func (.func 70) #[] #[], 13⟩, ⟨.int .i64 15, .func (.func 71) #[] #[], 14⟩] (by kernel_rfl) 15 rfl ?_
  go_wp2
  go_ret
  exact ⟨rfl, rfl⟩
theorem tab_look (op : Nat) (h1 : 1 ≤ op) (h2 : op ≤ 15) : ∃ i, Instr.findNow (.int .i64) (.int .i64 (op : Int)) tabE.toList 0 = some (some (i, .func (.func (fnC op)) #[] #[])) := by
  have hc : op = 1 ∨ op = 2 ∨ op = 3 ∨ op = 4 ∨ op = 5 ∨ op = 6 ∨ op = 7 ∨ op = 8 ∨ op = 9 ∨ op = 10 ∨ op = 11 ∨ op = 12 ∨ op = 13 ∨ op = 14 ∨ op = 15 := by omega
  rcases hc with rfl | rfl | rfl | rfl | rfl | rfl | rfl | rfl | rfl | rfl | rfl | rfl | rfl | rfl | rfl 
  · exact ⟨0, by kernel_rfl⟩
  · exact ⟨1, by kernel_rfl⟩
  · exact ⟨2, by kernel_rfl⟩
  · exact ⟨3, by kernel_rfl⟩
  · exact ⟨8, by kernel_rfl⟩
  · exact ⟨4, by kernel_rfl⟩
  · exact ⟨5, by kernel_rfl⟩
  · exact ⟨6, by kernel_rfl⟩
  · exact ⟨7, by kernel_rfl⟩
  · exact ⟨9, by kernel_rfl⟩
  · exact ⟨10, by kernel_rfl⟩
  · exact ⟨11, by kernel_rfl⟩
  · exact ⟨12, by kernel_rfl⟩
  · exact ⟨13, by kernel_rfl⟩
  · exact ⟨14, by kernel_rfl⟩
end Go.Proofs.Ytjlddhnjbjhmkaa
namespace Go.Proofs.Ytjlddhnjbjhmkaa
open Go.RowKit

def knF (k : Kn) (j : Nat) : Value := if j = 0 then .bool k.come else if (j - 1) % 3 = 0 then .bool (k.r ((j - 1) / 3)).s else if (j - 1) % 3 = 1 then .int .u32 ((k.r ((j - 1) / 3)).l : Int) else .int .u32 ((k.r ((j - 1) / 3)).g : Int)
def knL (k : Kn) : List Value := rowF 31 (knF k)
theorem knL_length (k : Kn) : (knL k).length = 31 := rowF_length _ _
theorem knA_size (k : Kn) : (knL k).toArray.size = 31 := by rw [List.size_toArray, knL_length]
theorem knF_one (k : Kn) (j : Nat) : (knF k j).oneCell' = true := by
  unfold knF
  repeat' split
  all_goals rfl
theorem knL_one (k : Kn) : (knL k).toArray.all (·.oneCell') = true := rowF_one _ _ fun j _ => knF_one k j
theorem info_kn : (Try.prog.info? 42).map (·.size) = some 31 := by kernel_rfl
theorem info_rg : (Try.prog.info? 37).map (·.size) = some 3 := by kernel_rfl
theorem info_sp : (Try.prog.info? 93).map (·.size) = some 2 := by kernel_rfl
theorem knF_s (k : Kn) (n : Nat) : knF k (1 + n * 3) = .bool (k.r n).s := by
  unfold knF
  rw [if_neg (by omega), if_pos (by omega), show (1 + n * 3 - 1) / 3 = n from by omega]
theorem knF_l (k : Kn) (n : Nat) : knF k (1 + n * 3 + 1) = .int .u32 ((k.r n).l : Int) := by
  unfold knF
  rw [if_neg (by omega), if_neg (by omega), if_pos (by omega), show (1 + n * 3 + 1 - 1) / 3 = n from by omega]
theorem knF_g (k : Kn) (n : Nat) : knF k (1 + n * 3 + 2) = .int .u32 ((k.r n).g : Int) := by
  unfold knF
  rw [if_neg (by omega), if_neg (by omega), if_neg (by omega), show (1 + n * 3 + 2 - 1) / 3 = n from by omega]
theorem knF_put (k : Kn) (n l g : Nat) : ∀ j, j < 31 → (if 1 + n * 3 ≤ j ∧ j < 1 + n * 3 + [Value.bool true, .int .u32 (l : Int), .int .u32 (g : Int)].length then [Value.bool true, .int .u32 (l : Int), .int .u32 (g : Int)].getD (j - (1 + n * 3)) undef else knF k j) = knF (k.put n ⟨l, g⟩) j := by
  intro j hj
  by_cases h : 1 + n * 3 ≤ j ∧ j < 1 + n * 3 + [Value.bool true, Value.int .u32 (l : Int), Value.int .u32 (g : Int)].length
  · rw [if_pos h]
    have h : 1 + n * 3 ≤ j ∧ j < 1 + n * 3 + 3 := h
    have hc : j = 1 + n * 3 ∨ j = 1 + n * 3 + 1 ∨ j = 1 + n * 3 + 2 := by omega
    have e : (k.put n ⟨l, g⟩).r n = ⟨true, l, g⟩ := by simp [Kn.put, upd]
    rcases hc with rfl | rfl | rfl
    · rw [knF_s, e, show 1 + n * 3 - (1 + n * 3) = 0 from by omega]; rfl
    · rw [knF_l, e, show 1 + n * 3 + 1 - (1 + n * 3) = 1 from by omega]; rfl
    · rw [knF_g, e, show 1 + n * 3 + 2 - (1 + n * 3) = 2 from by omega]; rfl
  · rw [if_neg h]
    have h : ¬ (1 + n * 3 ≤ j ∧ j < 1 + n * 3 + 3) := h
    unfold knF
    by_cases h0 : j = 0
    · rw [if_pos h0, if_pos h0]; rfl
    · have e : (k.put n ⟨l, g⟩).r ((j - 1) / 3) = k.r ((j - 1) / 3) := by
        show upd k.r n _ ((j - 1) / 3) = _
        exact if_neg (by omega)
      rw [e]
      rfl
def insF (i : Ins8) (ctx : Nat) (k : Kn) (j : Nat) : Value := if j < 5 then (insCells i).getD j undef else if j = 5 then .int .i64 (ctx : Int) else knF k (j - 6)
def InB (w : World) (x : Nat) (i : Ins8) (ctx : Nat) (k : Kn) : Prop := Blk w x 79 37 (insF i ctx k)
theorem InB.cop {w : World} {x : Nat} {i : Ins8} {ctx : Nat} {k : Kn} (h : InB w x i ctx k) : w.cell? ⟨x, 0, none⟩ = some (.int .i64 (i.op : Int)) := Blk.cell h 0 (by omega)
theorem InB.cdst {w : World} {x : Nat} {i : Ins8} {ctx : Nat} {k : Kn} (h : InB w x i ctx k) : w.cell? ⟨x, 1, none⟩ = some (.int .i64 (i.dst : Int)) := Blk.cell h 1 (by omega)
theorem InB.csrc {w : World} {x : Nat} {i : Ins8} {ctx : Nat} {k : Kn} (h : InB w x i ctx k) : w.cell? ⟨x, 2, none⟩ = some (.int .i64 (i.src : Int)) := Blk.cell h 2 (by omega)
theorem InB.coff {w : World} {x : Nat} {i : Ins8} {ctx : Nat} {k : Kn} (h : InB w x i ctx k) : w.cell? ⟨x, 3, none⟩ = some (.int .i64 i.off) := Blk.cell h 3 (by omega)
theorem InB.cimm {w : World} {x : Nat} {i : Ins8} {ctx : Nat} {k : Kn} (h : InB w x i ctx k) : w.cell? ⟨x, 4, none⟩ = some (.int .u32 (i.imm : Int)) := Blk.cell h 4 (by omega)
theorem InB.cctx {w : World} {x : Nat} {i : Ins8} {ctx : Nat} {k : Kn} (h : InB w x i ctx k) : w.cell? ⟨x, 5, none⟩ = some (.int .i64 (ctx : Int)) := Blk.cell h 5 (by omega)
theorem InB.cs {w : World} {x : Nat} {i : Ins8} {ctx : Nat} {k : Kn} (h : InB w x i ctx k) (n : Nat) (hn : n < 10) : w.cell? ⟨x, 7 + n * 3, none⟩ = some (.bool (k.r n).s) := by
  rw [Blk.cell h (7 + n * 3) (by omega), ← knF_s k n]
  unfold insF
  rw [if_neg (by omega), if_neg (by omega), show 7 + n * 3 - 6 = 1 + n * 3 from by omega]
theorem InB.cl {w : World} {x : Nat} {i : Ins8} {ctx : Nat} {k : Kn} (h : InB w x i ctx k) (n : Nat) (hn : n < 10) : w.cell? ⟨x, 7 + n * 3 + 1, none⟩ = some (.int .u32 ((k.r n).l : Int)) := by
  rw [Blk.cell h (7 + n * 3 + 1) (by omega), ← knF_l k n]
  unfold insF
  rw [if_neg (by omega), if_neg (by omega), show 7 + n * 3 + 1 - 6 = 1 + n * 3 + 1 from by omega]
theorem InB.cg {w : World} {x : Nat} {i : Ins8} {ctx : Nat} {k : Kn} (h : InB w x i ctx k) (n : Nat) (hn : n < 10) : w.cell? ⟨x, 7 + n * 3 + 2, none⟩ = some (.int .u32 ((k.r n).g : Int)) := by
  rw [Blk.cell h (7 + n * 3 + 2) (by omega), ← knF_g k n]
  unfold insF
  rw [if_neg (by omega), if_neg (by omega), show 7 + n * 3 + 2 - 6 = 1 + n * 3 + 2 from by omega]
theorem InB.known {w : World} {x : Nat} {i : Ins8} {ctx : Nat} {k : Kn} (h : InB w x i ctx k) : w.rangeAt x 6 (knL k) := by
  have := Blk.rangeAt h 6 31 (by omega)
  rwa [rowF_ext 31 (G := knF k) (fun j hj => by unfold insF; rw [if_neg (by omega), if_neg (by omega), show 6 + j - 6 = j from by omega])] at this
theorem InB.rg {w : World} {x : Nat} {i : Ins8} {ctx : Nat} {k : Kn} (h : InB w x i ctx k) (n : Nat) (hn : n < 10) : w.rangeAt x (7 + n * 3) [.bool (k.r n).s, .int .u32 ((k.r n).l : Int), .int .u32 ((k.r n).g : Int)] := fun j v hv => by
  have hc : j = 0 ∨ j = 1 ∨ j = 2 := by
    rcases Nat.lt_or_ge j 3 with h | h
    · omega
    · rw [List.getElem?_eq_none (by simpa using h)] at hv; cases hv
  rcases hc with rfl | rfl | rfl
  · injection hv with hv; subst hv; exact h.cs n hn
  · injection hv with hv; subst hv; exact h.cl n hn
  · injection hv with hv; subst hv; exact h.cg n hn
theorem InB.lt {w : World} {x : Nat} {i : Ins8} {ctx : Nat} {k : Kn} (h : InB w x i ctx k) : x < w.heap.size := Blk.lt h
theorem InB.below {w w1 : World} {x : Nat} {i : Ins8} {ctx : Nat} {k : Kn} (h : InB w x i ctx k) (hb : Below w.heap.size w w1) : InB w1 x i ctx k := Blk.below h hb

set_option maxHeartbeats 1000000 in
theorem reg_ok {w : World} {x : Nat} {i : Ins8} {ctx : Nat} {k : Kn} (h : InB w x i ctx k) (hr : k.right) (n : Nat) (hn : n < 10) (hs : (k.r n).s = true) :
    Calls Try.prog 39 #[.pointer (some ⟨x, 0, none⟩), .int .i64 (n : Int)] w fun e w' => e = .returned (.agg #[.int .u64 ((k.r n).l : Int), .int .u64 ((k.r n).g : Int)]) ∧ Below w.heap.size w w' := by
  have hn' : (n : Int) < 10 := by omega
  have hx := h.lt
  have c1 := h.cs n hn
  rw [hs] at c1
  have c2 := h.cl n hn
  have c3 := h.cg n hn
  obtain ⟨hl, hg, -⟩ := hr n
  have hl' : (k.r n).l ≤ 4294967295 := by omega
  have HO := Lib.hid (fun W => of_span W true (k.r n).l (k.r n).g hl' hg); clear hl hg hl'
  go_enter Try.func39, Try.ntmps39
  go_wp2_with (first | (go_at_call 51; refine (cmust_ok _ _).mono ?_; rintro e w' ⟨rfl, rfl⟩) | (go_at_call 52; (with_reducible refine (HO.out _).mono ?_); rintro e w1 ⟨rfl, hb1⟩; obtain ⟨hc1, hf1⟩ := bcell hb1; have hz1 : w.heap.size + 1 ≤ w1.heap.size := (by have := hb1.size; simp at this; omega); have HB1 : Hid (Below w.heap.size w w1) := Lib.hid (((Below.refl _ _).alloc (Nat.le_refl _) _).trans (hb1.mono (by simp <;> omega))); clear hb1))
  (try simp only [Exit.inBlock, Exit.then]); refine bodyPost_ret (v := _) (by first | (simp [results, Try.results39, go_sem]; rfl) | (simp [results, Try.results39, go_sem, hc1, hf1]; rfl)) rfl ⟨by first | rfl | simp, (by repeat (first | exact HB1.out | exact Below.refl _ _ | refine Below.setCell ?_ (by simp <;> omega) _ | refine Below.alloc ?_ (by simp <;> omega) _ | refine Below.drew ?_))⟩
theorem reg_not {w : World} {x : Nat} {i : Ins8} {ctx : Nat} {k : Kn} (h : InB w x i ctx k) (n : Nat) (hn : n < 10) (hs : (k.r n).s = false) :
    Calls Try.prog 39 #[.pointer (some ⟨x, 0, none⟩), .int .i64 (n : Int)] w fun e w' => e = .panicked (stopC 161) ∧ Below w.heap.size w w' := by
  have hn' : (n : Int) < 10 := by omega
  have hx := h.lt
  have c1 := h.cs n hn
  rw [hs] at c1
  go_enter Try.func39, Try.ntmps39
  go_wp2_with (go_at_call 51; refine (cmust_not _ _).mono ?_; rintro e w' ⟨rfl, rfl⟩)
  exact ⟨rfl, rfl, (by repeat (first | exact HB1.out | exact Below.refl _ _ | refine Below.setCell ?_ (by simp <;> omega) _ | refine Below.alloc ?_ (by simp <;> omega) _ | refine Below.drew ?_))⟩

set_option maxHeartbeats 1000000 in
theorem mem_ok {w : World} {x : Nat} {i : Ins8} {ctx : Nat} {k : Kn} (h : InB w x i ctx k) (hi : i.May) (l g size : Nat) (hl : l ≤ 4294967295) (hg : g ≤ 4294967295) (hz : size ≤ 1000) (hm : 0 ≤ (l : Int) + i.off ∧ (g : Int) + i.off < size) :
    Calls Try.prog 38 #[.pointer (some ⟨x, 0, none⟩), .agg #[.int .u64 (l : Int), .int .u64 (g : Int)], .int .i64 (size : Int)] w fun e w' => e = .returned (.tuple #[]) ∧ Below w.heap.size w w' := by
  have hx := h.lt
  have c1 := h.coff
  have o1 := hi.off1
  have o2 := hi.off2
  have hl' : (l : Int) < 4294967296 := by omega
  have hg' : (g : Int) < 4294967296 := by omega
  obtain ⟨m1, m2⟩ := hm
  have d1 : decide (0 ≤ (l : Int) + i.off) = true := by simpa using m1
  have d2 : decide ((g : Int) + i.off < size) = true := by simpa using m2
  obtain ⟨W1, hW1⟩ : ∃ W1, W1 = (w.alloc (.cells #[.int .u64 (l : Int), .int .u64 (g : Int)] 93)) := ⟨_, rfl⟩
  have hb1 : Below w.heap.size w W1 := by rw [hW1]; exact ((Below.refl _ _).alloc (Nat.le_refl _) _)
  have c0 : W1.cell? ⟨w.heap.size, 0, none⟩ = some (.int .u64 (l : Int)) := by rw [hW1]; simp [go_sem]
  have c2 : W1.cell? ⟨w.heap.size, 1, none⟩ = some (.int .u64 (g : Int)) := by rw [hW1]; simp [go_sem]
  have HO := Lib.hid ((h.below hb1).coff)
  have HB1 := Lib.hid hb1; have HC0 := Lib.hid c0; have HC1 := Lib.hid c2; clear hb1 c0 c2 c1
  have HW1 := Lib.hid hW1; clear hW1
  have e1 : IntKind.i64.wrap (l : Int) = (l : Int) := by rw [IntKind.wrap_i64]; omega
  have e2 : IntKind.i64.wrap ((l : Int) + i.off) = (l : Int) + i.off := by rw [IntKind.wrap_i64]; omega
  have e3 : IntKind.i64.wrap (g : Int) = (g : Int) := by rw [IntKind.wrap_i64]; omega
  have e4 : IntKind.i64.wrap ((g : Int) + i.off) = (g : Int) + i.off := by rw [IntKind.wrap_i64]; omega
  go_enter Try.func38, Try.ntmps38
  go_upto_region 1 with fail
  rw [← HW1.out]
  refine planM (.rd 0 (.rd 1 (.rd 2 (.rd 3 (.rd 4 (.rd 5 (.rd 6 (.rd 7 (.rd 8 (.rd 9 (.rd 10 (.rd 11 (.rd 12 (.rd 13 (.rd 14 (.rd 15 (.rd 16 (.rd 17 (.rd 18 (.rd 19 (.rd 20 (.rd 21 (.rd 22 (.eff 23 .done)))))))))))))))))))))))) [0, 1, 2, 3, 4, 5, 6, 7, 8, 9, 10, 11, 12, 13, 14, 15, 16, 17, 18, 19, 20, 21, 22, 23] (fun W => Below W1.heap.size W1 W) (by kernel_rfl) (by kernel_rfl) (fun c a d v w h => by cases d <;> exact h) ((Below.refl _ _).drew) ?_
  repeat (refine pm_pure rfl (fun K hK => ?_); go_simp; refine hK _ ?_; clear hK K)
  refine pm_rd (.int .u64 (l : Int)) rfl rfl (fun W hS => ?_) (fun K hK => ?_)
  · have f0 := (Kp.of_below hS No).cell HC0.out (fun e => e)
    simp [go_sem, f0]
  go_simp
  refine hK _ ?_
  clear hK K
  repeat (refine pm_pure rfl (fun K hK => ?_); go_simp; refine hK _ ?_; clear hK K)
  refine pm_rd (.int .i64 i.off) rfl rfl (fun W hS => ?_) (fun K hK => ?_)
  · have f0 := (Kp.of_below hS No).cell HO.out (fun e => e)
    simp [go_sem, f0]
  go_simp
  refine hK _ ?_
  clear hK K
  repeat (refine pm_pure rfl (fun K hK => ?_); go_simp; refine hK _ ?_; clear hK K)
  refine pm_rd (.int .u64 (g : Int)) rfl rfl (fun W hS => ?_) (fun K hK => ?_)
  · have f0 := (Kp.of_below hS No).cell HC1.out (fun e => e)
    simp [go_sem, f0]
  go_simp
  refine hK _ ?_
  clear hK K
  repeat (refine pm_pure rfl (fun K hK => ?_); go_simp; refine hK _ ?_; clear hK K)
  refine pm_rd (.int .i64 i.off) rfl rfl (fun W hS => ?_) (fun K hK => ?_)
  · have f0 := (Kp.of_below hS No).cell HO.out (fun e => e)
    simp [go_sem, f0]
  go_simp
  refine hK _ ?_
  clear hK K
  repeat (refine pm_pure rfl (fun K hK => ?_); go_simp; refine hK _ ?_; clear hK K)
  refine pm_eff rfl rfl (fun K hK => ?_)
  go_simp
  refine (cmust_ok _ _).mono ?_
  rintro e w1 ⟨rfl, rfl⟩
  refine hK _ _ (fun _ => (Below.refl _ _).drew) ?_
  clear hK K
  refine pm_done ?_
  go_wp2
  go_end0
  exact ⟨rfl, HB1.out.drew⟩
theorem mem_not {w : World} {x : Nat} {i : Ins8} {ctx : Nat} {k : Kn} (h : InB w x i ctx k) (hi : i.May) (l g size : Nat) (hl : l ≤ 4294967295) (hg : g ≤ 4294967295) (hz : size ≤ 1000) (hm : ¬ (0 ≤ (l : Int) + i.off ∧ (g : Int) + i.off < size)) :
    Calls Try.prog 38 #[.pointer (some ⟨x, 0, none⟩), .agg #[.int .u64 (l : Int), .int .u64 (g : Int)], .int .i64 (size : Int)] w fun e w' => e = .panicked (stopC 163) ∧ Below w.heap.size w w' := by
  have hx := h.lt
  have c1 := h.coff
  have o1 := hi.off1
  have o2 := hi.off2
  have hl' : (l : Int) < 4294967296 := by omega
  have hg' : (g : Int) < 4294967296 := by omega
  have hc : ¬ 0 ≤ (l : Int) + i.off ∨ (0 ≤ (l : Int) + i.off ∧ ¬ (g : Int) + i.off < size) := by omega
  clear hm
  obtain ⟨W1, hW1⟩ : ∃ W1, W1 = (w.alloc (.cells #[.int .u64 (l : Int), .int .u64 (g : Int)] 93)) := ⟨_, rfl⟩
  have hb1 : Below w.heap.size w W1 := by rw [hW1]; exact ((Below.refl _ _).alloc (Nat.le_refl _) _)
  have c0 : W1.cell? ⟨w.heap.size, 0, none⟩ = some (.int .u64 (l : Int)) := by rw [hW1]; simp [go_sem]
  have c2 : W1.cell? ⟨w.heap.size, 1, none⟩ = some (.int .u64 (g : Int)) := by rw [hW1]; simp [go_sem]
  have HO := Lib.hid ((h.below hb1).coff)
  have HB1 := Lib.hid hb1; have HC0 := Lib.hid c0; have HC1 := Lib.hid c2; clear hb1 c0 c2 c1
  have HW1 := Lib.hid hW1; clear hW1
  have e1 : IntKind.i64.wrap (l : Int) = (l : Int) := by rw [IntKind.wrap_i64]; omega
  have e2 : IntKind.i64.wrap ((l : Int) + i.off) = (l : Int) + i.off := by rw [IntKind.wrap_i64]; omega
  have e3 : IntKind.i64.wrap (g : Int) = (g : Int) := by rw [IntKind.wrap_i64]; omega
  have e4 : IntKind.i64.wrap ((g : Int) + i.off) = (g : Int) + i.off := by rw [IntKind.wrap_i64]; omega
  rcases hc with m1 | ⟨m1, m2⟩
  · have d1 : decide (0 ≤ (l : Int) + i.off) = false := by simpa using m1
    go_enter Try.func38, Try.ntmps38
    go_upto_region 1 with fail
    rw [← HW1.out]
    refine planM (.rd 0 (.rd 1 (.rd 2 (.rd 3 (.rd 4 (.rd 5 (.rd 6 (.rd 7 (.rd 8 (.rd 9 (.rd 10 (.rd 11 (.rd 12 (.rd 13 (.rd 14 (.rd 15 (.rd 16 (.rd 17 (.rd 18 (.rd 19 (.rd 20 (.rd 21 (.rd 22 (.eff 23 .done)))))))))))))))))))))))) [0, 1, 2, 3, 4, 5, 6, 7, 8, 9, 10, 11, 12, 13, 14, 15, 16, 17, 18, 19, 20, 21, 22, 23] (fun W => Below W1.heap.size W1 W) (by kernel_rfl) (by kernel_rfl) (fun c a d v w h => by cases d <;> exact h) ((Below.refl _ _).drew) ?_
    repeat (refine pm_pure rfl (fun K hK => ?_); go_simp; refine hK _ ?_; clear hK K)
    refine pm_rd (.int .u64 (l : Int)) rfl rfl (fun W hS => ?_) (fun K hK => ?_)
    · have f0 := (Kp.of_below hS No).cell HC0.out (fun e => e)
      simp [go_sem, f0]
    go_simp
    refine hK _ ?_
    clear hK K
    repeat (refine pm_pure rfl (fun K hK => ?_); go_simp; refine hK _ ?_; clear hK K)
    refine pm_rd (.int .i64 i.off) rfl rfl (fun W hS => ?_) (fun K hK => ?_)
    · have f0 := (Kp.of_below hS No).cell HO.out (fun e => e)
      simp [go_sem, f0]
    go_simp
    refine hK _ ?_
    clear hK K
    repeat (refine pm_pure rfl (fun K hK => ?_); go_simp; refine hK _ ?_; clear hK K)
    refine pm_eff rfl rfl (fun K hK => ?_)
    go_simp
    refine (cmust_not _ _).mono ?_
    rintro e w1 ⟨rfl, rfl⟩
    exact ⟨rfl, rfl, HB1.out.drew⟩
  · have d1 : decide (0 ≤ (l : Int) + i.off) = true := by simpa using m1
    have d2 : decide ((g : Int) + i.off < size) = false := by simpa using m2
    go_enter Try.func38, Try.ntmps38
    go_upto_region 1 with fail
    rw [← HW1.out]
    refine planM (.rd 0 (.rd 1 (.rd 2 (.rd 3 (.rd 4 (.rd 5 (.rd 6 (.rd 7 (.rd 8 (.rd 9 (.rd 10 (.rd 11 (.rd 12 (.rd 13 (.rd 14 (.rd 15 (.rd 16 (.rd 17 (.rd 18 (.rd 19 (.rd 20 (.rd 21 (.rd 22 (.eff 23 .done)))))))))))))))))))))))) [0, 1, 2, 3, 4, 5, 6, 7, 8, 9, 10, 11, 12, 13, 14, 15, 16, 17, 18, 19, 20, 21, 22, 23] (fun W => Below W1.heap.size W1 W) (by kernel_rfl) (by kernel_rfl) (fun c a d v w h => by cases d <;> exact h) ((Below.refl _ _).drew) ?_
    repeat (refine pm_pure rfl (fun K hK => ?_); go_simp; refine hK _ ?_; clear hK K)
    refine pm_rd (.int .u64 (l : Int)) rfl rfl (fun W hS => ?_) (fun K hK => ?_)
    · have f0 := (Kp.of_below hS No).cell HC0.out (fun e => e)
      simp [go_sem, f0]
    go_simp
    refine hK _ ?_
    clear hK K
    repeat (refine pm_pure rfl (fun K hK => ?_); go_simp; refine hK _ ?_; clear hK K)
    refine pm_rd (.int .i64 i.off) rfl rfl (fun W hS => ?_) (fun K hK => ?_)
    · have f0 := (Kp.of_below hS No).cell HO.out (fun e => e)
      simp [go_sem, f0]
    go_simp
    refine hK _ ?_
    clear hK K
    repeat (refine pm_pure rfl (fun K hK => ?_); go_simp; refine hK _ ?_; clear hK K)
    refine pm_rd (.int .u64 (g : Int)) rfl rfl (fun W hS => ?_) (fun K hK => ?_)
    · have f0 := (Kp.of_below hS No).cell HC1.out (fun e => e)
      simp [go_sem, f0]
    go_simp
    refine hK _ ?_
    clear hK K
    repeat (refine pm_pure rfl (fun K hK => ?_); go_simp; refine hK _ ?_; clear hK K)
    refine pm_rd (.int .i64 i.off) rfl rfl (fun W hS => ?_) (fun K hK => ?_)
    · have f0 := (Kp.of_below hS No).cell HO.out (fun e => e)
      simp [go_sem, f0]
    go_simp
    refine hK _ ?_
    clear hK K
    repeat (refine pm_pure rfl (fun K hK => ?_); go_simp; refine hK _ ?_; clear hK K)
    refine pm_eff rfl rfl (fun K hK => ?_)
    go_simp
    refine (cmust_not _ _).mono ?_
    rintro e w1 ⟨rfl, rfl⟩
    exact ⟨rfl, rfl, HB1.out.drew⟩
end Go.Proofs.Ytjlddhnjbjhmkaa
namespace Go.Proofs.Ytjlddhnjbjhmkaa
open Go.RowKit

/-- Blocks of one call: a boxed argument, others, the result's. -/
structure Pt (w : World) (n : Nat) (F : Nat → Value) (W : World) : Prop where
  b : Below w.heap.size w W
  z : w.heap.size + n + 1 ≤ W.heap.size
  s : Blk W w.heap.size 42 31 F
  r : ∃ G, Blk W (w.heap.size + n) 42 31 G
theorem Pt.more {w : World} {n : Nat} {F : Nat → Value} {W W1 : World} (h : Pt w n F W) (hb : Below W.heap.size W W1) : Pt w n F W1 :=
  ⟨h.b.trans (hb.mono (by have := h.z; omega)), by have := hb.size; have := h.z; omega, h.s.below hb, by obtain ⟨G, hG⟩ := h.r; exact ⟨G, hG.below hb⟩⟩
theorem Pt.congr {w : World} {n : Nat} {F G : Nat → Value} {W : World} (h : Pt w n F W) (e : ∀ j, j < 31 → F j = G j) : Pt w n G W := ⟨h.b, h.z, h.s.congr e, h.r⟩
theorem Pt.setm {w : World} {n : Nat} {F : Nat → Value} {W : World} (h : Pt w n F W) (hn : 0 < n) (o : Nat) (vs : List Value) : Pt w n (fun j => if o ≤ j ∧ j < o + vs.length then vs.getD (j - o) undef else F j) (W.setCells w.heap.size o vs) := by
  have hk : Kp (fun b => b = w.heap.size) W (W.setCells w.heap.size o vs) := Kp.setCells (M := fun b => b = w.heap.size) (.inl rfl) _ _ _ (Kp.refl _ _)
  refine ⟨(Kp.setCells (w := w) (b := w.heap.size) (.inr (Nat.le_refl _)) _ _ _ (Kp.of_below h.b No)).below, by have := hk.size; have := h.z; omega, Blk.setCells _ _ _ _ h.s, ?_⟩
  obtain ⟨G, hG⟩ := h.r
  exact ⟨G, hG.keep hk (by omega)⟩
theorem Pt.done {w : World} {n : Nat} {F : Nat → Value} {W : World} (h : Pt w n F W) (cs : List Value) (hc : cs.length = 31) :
    ∃ W3, Hid (W3 = W.setCells (w.heap.size + n) 0 cs) ∧ Hid (W3.rangeAt (w.heap.size + n) 0 cs) ∧ Hid (Below w.heap.size w W3) := by
  obtain ⟨G, hG⟩ := h.r
  obtain ⟨W3, h1, h2, h3, h4⟩ := fin_store h.b hG (Nat.le_add_right _ _) cs hc
  exact ⟨W3, h1, h2, h3⟩
theorem Pt.there {w : World} {n : Nat} {F : Nat → Value} {W : World} (h : Pt w n F W) : W.there (w.heap.size + n) 0 31 := by
  obtain ⟨G, hG⟩ := h.r
  exact there_blk hG
theorem there_mid {W : World} {g N : Nat} {t : TypeId} {G : Nat → Value} (hB : Blk W g t N G) (o n : Nat) (h : o + n ≤ N) : W.there g o n := fun j hj => by
  have := there_blk hB (o + j) (by omega)
  rwa [Nat.zero_add] at this
theorem size_zk : (#[.bool false, .bool false, .int .u32 0, .int .u32 0, .bool false, .int .u32 0, .int .u32 0, .bool false, .int .u32 0, .int .u32 0, .bool false, .int .u32 0, .int .u32 0, .bool false, .int .u32 0, .int .u32 0, .bool false, .int .u32 0, .int .u32 0, .bool false, .int .u32 0, .int .u32 0, .bool false, .int .u32 0, .int .u32 0, .bool false, .int .u32 0, .int .u32 0, .bool false, .int .u32 0, .int .u32 0] : Array Value).size = 31 := by kernel_rfl

set_option maxRecDepth 100000 in
set_option maxHeartbeats 1000000 in
theorem cput_ok (w : World) (k : Kn) (n l g : Nat) (hn : n < 10) (hl : l ≤ 4294967295) (hg : g ≤ 4294967295) :
    Calls Try.prog 40 #[.agg (knL k).toArray, .int .i64 (n : Int), .agg #[.int .u64 (l : Int), .int .u64 (g : Int)]] w fun e w' => e = .returned (.agg (knL (k.put n ⟨l, g⟩)).toArray) ∧ Below w.heap.size w w' := by
  obtain ⟨L, hL⟩ : ∃ L, L = (knL k).toArray := ⟨_, rfl⟩
  obtain ⟨W1, hW1⟩ : ∃ W1, W1 = ((w.alloc (.cells L 42)).alloc (.cells #[.int .u64 (l : Int), .int .u64 (g : Int)] 93)).alloc (.cells #[.bool false, .bool false, .int .u32 0, .int .u32 0, .bool false, .int .u32 0, .int .u32 0, .bool false, .int .u32 0, .int .u32 0, .bool false, .int .u32 0, .int .u32 0, .bool false, .int .u32 0, .int .u32 0, .bool false, .int .u32 0, .int .u32 0, .bool false, .int .u32 0, .int .u32 0, .bool false, .int .u32 0, .int .u32 0, .bool false, .int .u32 0, .int .u32 0, .bool false, .int .u32 0, .int .u32 0] 42) := ⟨_, rfl⟩
  have hn' : (n : Int) < 10 := by omega
  have hb1 : Below w.heap.size w W1 := by rw [hW1]; exact ((((Below.refl _ _).alloc (Nat.le_refl _) _).alloc (by simp <;> omega) _).alloc (by simp <;> omega) _)
  have G1 : Pt w 2 (knF k) W1 := by
    refine ⟨hb1, by rw [hW1]; simp, ?_, (fun j => (#[.bool false, .bool false, .int .u32 0, .int .u32 0, .bool false, .int .u32 0, .int .u32 0, .bool false, .int .u32 0, .int .u32 0, .bool false, .int .u32 0, .int .u32 0, .bool false, .int .u32 0, .int .u32 0, .bool false, .int .u32 0, .int .u32 0, .bool false, .int .u32 0, .int .u32 0, .bool false, .int .u32 0, .int .u32 0, .bool false, .int .u32 0, .int .u32 0, .bool false, .int .u32 0, .int .u32 0] : Array Value).getD j undef), ?_⟩
    · have h1 : Blk (w.alloc (.cells L 42)) w.heap.size 42 31 (knF k) := by rw [hL]; exact Blk.boxed w _ 31 _
      rw [hW1]
      exact (h1.below ((Below.refl _ _).alloc (Nat.le_refl _) _)).below ((Below.refl _ _).alloc (Nat.le_refl _) _)
    · have := Blk.lit ((w.alloc (.cells L 42)).alloc (.cells #[.int .u64 (l : Int), .int .u64 (g : Int)] 93)) 42 #[.bool false, .bool false, .int .u32 0, .int .u32 0, .bool false, .int .u32 0, .int .u32 0, .bool false, .int .u32 0, .int .u32 0, .bool false, .int .u32 0, .int .u32 0, .bool false, .int .u32 0, .int .u32 0, .bool false, .int .u32 0, .int .u32 0, .bool false, .int .u32 0, .int .u32 0, .bool false, .int .u32 0, .int .u32 0, .bool false, .int .u32 0, .int .u32 0, .bool false, .int .u32 0, .int .u32 0]
      rw [size_zk] at this
      rw [hW1]; simpa using this
  have c0 : W1.cell? ⟨w.heap.size + 1, 0, none⟩ = some (.int .u64 (l : Int)) := by rw [hW1]; simp [go_sem]
  have c1 : W1.cell? ⟨w.heap.size + 1, 1, none⟩ = some (.int .u64 (g : Int)) := by rw [hW1]; simp [go_sem]
  have HM := Lib.hid (fun W => made_ok W l g hl hg)
  have HG1 := Lib.hid G1; clear G1 hb1
  rw [← hL]
  clear hL
  have HW1 := Lib.hid hW1; clear hW1
  go_enter Try.func40, Try.ntmps40
  go_upto_region 1 with fail
  rw [← HW1.out]
  go_upto_region 2 with (first | (go_at_call 53; (with_reducible refine (HM.out _).mono ?_); rintro e W2 ⟨rfl, hb2⟩; have HG2 := Lib.hid (HG1.out.more hb2); clear hb2) | (refine wpList_store_mid rfl 37 (.tmp 11) (.tmp 9) rfl w.heap.size (1 + n * 3) #[.bool true, .int .u32 (l : Int), .int .u32 (g : Int)] rfl rfl (there_mid HG2.out.s (1 + n * 3) 3 (by omega)) (by kernel_rfl) (by simp [Value.oneCell']) ?_))
  have G3 := (HG2.out.setm (by omega) (1 + n * 3) [.bool true, .int .u32 (l : Int), .int .u32 (g : Int)]).congr (knF_put k n l g)
  generalize hW3 : W2.setCells w.heap.size (1 + n * 3) [.bool true, .int .u32 (l : Int), .int .u32 (g : Int)] = W3 at G3 ⊢
  clear hW3
  have HG3 := Lib.hid G3; clear G3
  refine wp_region_list ?_
  refine wpList_load_mid rfl 42 (.tmp 3) rfl w.heap.size 0 rfl (knL (k.put n ⟨l, g⟩)) _ HG3.out.s.range Try.underlying42 rfl (by rw [knL_length]; exact info_kn) ?_
  refine wpList_store_mid rfl 42 (.tmp 6) (.tmp 12) rfl (w.heap.size + 2) 0 (knL (k.put n ⟨l, g⟩)).toArray rfl rfl (by rw [knA_size]; exact HG3.out.there) (by rw [knA_size]; exact info_kn) (knL_one _) ?_
  obtain ⟨W4, HW4, HR4, HB4⟩ := HG3.out.done (knL (k.put n ⟨l, g⟩)) (knL_length _)
  rw [← HW4.out]
  go_wp2
  exact bodyPost_ret (v := .agg (knL (k.put n ⟨l, g⟩)).toArray) (results_cell1_range Try.results40 _ _ (w.heap.size + 2) 0 _ _ rfl HR4.out Try.underlying42 rfl (by rw [knL_length]; exact info_kn)) rfl ⟨rfl, HB4.out⟩

set_option maxHeartbeats 2000000 in
theorem csrc_imm {w : World} {x : Nat} {i : Ins8} {ctx : Nat} {k : Kn} (hI : InB w x i ctx k) (hm : i.May) (h : i.useImm = true) :
    Calls Try.prog 54 #[.pointer (some ⟨x, 0, none⟩)] w fun e w' => e = .returned (.agg #[.int .u64 (i.imm : Int), .int .u64 (i.imm : Int)]) ∧ Below w.heap.size w w' := by
  have hc : i.op = 1 ∨ i.op = 3 ∨ i.op = 6 ∨ i.op = 8 ∨ i.op = 12 ∨ i.op = 13 ∨ i.op = 20 ∨ i.op = 21 := by simpa [Ins8.useImm, or_assoc] using h
  clear h
  have hx := hI.lt
  have hi : (i.imm : Int) < 4294967296 := by have := hm.imm; omega
  have c1 := hI.cop
  have c2 := hI.cimm
  have f2 := Blk.frozen hI 4
  clear hm
  rcases hc with h | h | h | h | h | h | h | h <;> rw [h] at c1 <;> clear h <;> (go_enter Try.func54, Try.ntmps54; go_upto_region 10 with fail; go_region; go_wp2; (try simp only [Exit.inBlock, Exit.then]); refine bodyPost_ret (v := _) (by first | (simp [results, Try.results54, go_sem]; rfl) | (simp [results, Try.results54, go_sem, hc1, hf1]; rfl)) rfl ⟨by first | rfl | simp, (by repeat (first | exact HB1.out | exact Below.refl _ _ | refine Below.setCell ?_ (by simp <;> omega) _ | refine Below.alloc ?_ (by simp <;> omega) _ | refine Below.drew ?_))⟩)
theorem csrc_reg {w : World} {x : Nat} {i : Ins8} {ctx : Nat} {k : Kn} (hI : InB w x i ctx k) (hr : k.right) (hm : i.May) (h : i.useImm = false) (hs : (k.r i.src).s = true) :
    Calls Try.prog 54 #[.pointer (some ⟨x, 0, none⟩)] w fun e w' => e = .returned (.agg #[.int .u64 ((k.r i.src).l : Int), .int .u64 ((k.r i.src).g : Int)]) ∧ Below w.heap.size w w' := by
  obtain ⟨a1, a2, a3, a4, a5, a6, a7, a8⟩ : ((i.op : Int) == 1) = false ∧ ((i.op : Int) == 3) = false ∧ ((i.op : Int) == 6) = false ∧ ((i.op : Int) == 8) = false ∧ ((i.op : Int) == 12) = false ∧ ((i.op : Int) == 13) = false ∧ ((i.op : Int) == 20) = false ∧ ((i.op : Int) == 21) = false := by
    simp only [Ins8.useImm, Bool.or_eq_false_iff, beq_eq_false_iff_ne, ne_eq] at h ⊢
    omega
  have hx := hI.lt
  have c1 := hI.cop
  have c2 := hI.csrc
  have G := fun (W : World) (hb : Below w.heap.size w W) => reg_ok (hI.below hb) hr i.src hm.src hs
  have HG := Lib.hid G; clear G h
  go_enter Try.func54, Try.ntmps54
  go_wp2_with (go_at_call 39; (with_reducible refine (HG.out _ ((Below.refl _ _).alloc (Nat.le_refl _) _)).mono ?_); rintro e w1 ⟨rfl, hb1⟩; obtain ⟨hc1, hf1⟩ := bcell hb1; have hz1 : w.heap.size + 1 ≤ w1.heap.size := (by have := hb1.size; simp at this; omega); have HB1 : Hid (Below w.heap.size w w1) := Lib.hid (((Below.refl _ _).alloc (Nat.le_refl _) _).trans (hb1.mono (by simp <;> omega))); clear hb1)
  (try simp only [Exit.inBlock, Exit.then]); refine bodyPost_ret (v := _) (by first | (simp [results, Try.results54, go_sem]; rfl) | (simp [results, Try.results54, go_sem, hc1, hf1]; rfl)) rfl ⟨by first | rfl | simp, (by repeat (first | exact HB1.out | exact Below.refl _ _ | refine Below.setCell ?_ (by simp <;> omega) _ | refine Below.alloc ?_ (by simp <;> omega) _ | refine Below.drew ?_))⟩
theorem csrc_not {w : World} {x : Nat} {i : Ins8} {ctx : Nat} {k : Kn} (hI : InB w x i ctx k) (hm : i.May) (h : i.useImm = false) (hs : (k.r i.src).s = false) :
    Calls Try.prog 54 #[.pointer (some ⟨x, 0, none⟩)] w fun e w' => e = .panicked (stopC 161) ∧ Below w.heap.size w w' := by
  obtain ⟨a1, a2, a3, a4, a5, a6, a7, a8⟩ : ((i.op : Int) == 1) = false ∧ ((i.op : Int) == 3) = false ∧ ((i.op : Int) == 6) = false ∧ ((i.op : Int) == 8) = false ∧ ((i.op : Int) == 12) = false ∧ ((i.op : Int) == 13) = false ∧ ((i.op : Int) == 20) = false ∧ ((i.op : Int) == 21) = false := by
    simp only [Ins8.useImm, Bool.or_eq_false_iff, beq_eq_false_iff_ne, ne_eq] at h ⊢
    omega
  have hx := hI.lt
  have c1 := hI.cop
  have c2 := hI.csrc
  have G := fun (W : World) (hb : Below w.heap.size w W) => reg_not (hI.below hb) i.src hm.src hs
  have HG := Lib.hid G; clear G h
  go_enter Try.func54, Try.ntmps54
  go_wp2_with (go_at_call 39; (with_reducible refine (HG.out _ ((Below.refl _ _).alloc (Nat.le_refl _) _)).mono ?_); rintro e w1 ⟨rfl, hb1⟩; have HB1 : Hid (Below w.heap.size w w1) := Lib.hid (((Below.refl _ _).alloc (Nat.le_refl _) _).trans (hb1.mono (by simp <;> omega))); clear hb1)
  exact ⟨rfl, rfl, HB1.out⟩
end Go.Proofs.Ytjlddhnjbjhmkaa
