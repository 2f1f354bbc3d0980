/- Layer 6, the document's answer: what an op makes of two spans (the straight ones, on). -/
import Derived.Test.YtjlddhnjbjhmkaaRf4
import Derived.BigQuiet
import Derived.IntWalk
set_option linter.unusedVariables false
set_option linter.unusedSimpArgs false
namespace Go.Proofs.Ytjlddhnjbjhmkaa
open Go.RowKit

set_option maxRecDepth 100000 in
set_option maxHeartbeats 1000000 in
theorem rmk6_ok (w : World) (dl dg sl sg : Nat) (h1 : dl ≤ dg) (h2 : dg ≤ 4294967295) (h3 : sl ≤ sg) (h4 : sg ≤ 4294967295) : Calls Try.prog 35 #[.int .i64 6, .agg #[.int .i64 (dl : Int), .int .i64 (dg : Int)], .agg #[.int .i64 (sl : Int), .int .i64 (sg : Int)]] w fun e w' => e = .returned (.agg #[.int .i64 ((withinS ⟨dl * sl, dg * sg⟩).l : Int), .int .i64 ((withinS ⟨dl * sl, dg * sg⟩).g : Int)]) ∧ Below w.heap.size w w' := by
  have k1 : (dl : Int) ≤ 4294967295 := by omega
  have k2 : (dg : Int) ≤ 4294967295 := by omega
  have k3 : (sl : Int) ≤ 4294967295 := by omega
  have k4 : (sg : Int) ≤ 4294967295 := by omega
  have HT := Lib.hid (fun W => reftimes_ok W ⟨dl, dg⟩ ⟨sl, sg⟩ ⟨h1, h2⟩ ⟨h3, h4⟩)
  go_enter Try.func35, Try.ntmps35
  go_wp2_with (go_at_call 46; (with_reducible refine (HT.out _).mono ?_); rintro e w1 ⟨rfl, hb1⟩; obtain ⟨hc1, hf1⟩ := bcell hb1; have hz1 : w.heap.size + 3 ≤ w1.heap.size := (by have := hb1.size; simp at this; omega); have HB1 : Hid (Below w.heap.size w w1) := Lib.hid (((((Below.refl _ _).alloc (Nat.le_refl _) _).alloc (by simp <;> omega) _).alloc (by simp <;> omega) _).trans (hb1.mono (by simp <;> omega))); clear hb1)
  (try simp only [Exit.inBlock, Exit.then]); refine bodyPost_ret (v := _) (by first | (simp [results, Try.results35, go_sem]; rfl) | (simp [results, Try.results35, go_sem, hc1, hf1]; rfl)) rfl ⟨by first | rfl | (rw [HM1.out, HM2.out]; done) | exact congrArg Ending.returned (congrArg Value.agg (by simp; omega)) | (simp; done) | (simp; omega), (by repeat (first | exact HB1.out | exact Below.refl _ _ | refine Below.setCell ?_ (by simp <;> omega) _ | refine Below.alloc ?_ (by simp <;> omega) _ | refine Below.drew ?_))⟩

set_option maxRecDepth 100000 in
set_option maxHeartbeats 1000000 in
theorem rmk7_ok (w : World) (dl dg sl sg : Nat) (h1 : dl ≤ dg) (h2 : dg ≤ 4294967295) (h3 : sl ≤ sg) (h4 : sg ≤ 4294967295) : Calls Try.prog 35 #[.int .i64 7, .agg #[.int .i64 (dl : Int), .int .i64 (dg : Int)], .agg #[.int .i64 (sl : Int), .int .i64 (sg : Int)]] w fun e w' => e = .returned (.agg #[.int .i64 ((withinS ⟨dl * sl, dg * sg⟩).l : Int), .int .i64 ((withinS ⟨dl * sl, dg * sg⟩).g : Int)]) ∧ Below w.heap.size w w' := by
  have k1 : (dl : Int) ≤ 4294967295 := by omega
  have k2 : (dg : Int) ≤ 4294967295 := by omega
  have k3 : (sl : Int) ≤ 4294967295 := by omega
  have k4 : (sg : Int) ≤ 4294967295 := by omega
  have HT := Lib.hid (fun W => reftimes_ok W ⟨dl, dg⟩ ⟨sl, sg⟩ ⟨h1, h2⟩ ⟨h3, h4⟩)
  go_enter Try.func35, Try.ntmps35
  go_wp2_with (go_at_call 46; (with_reducible refine (HT.out _).mono ?_); rintro e w1 ⟨rfl, hb1⟩; obtain ⟨hc1, hf1⟩ := bcell hb1; have hz1 : w.heap.size + 3 ≤ w1.heap.size := (by have := hb1.size; simp at this; omega); have HB1 : Hid (Below w.heap.size w w1) := Lib.hid (((((Below.refl _ _).alloc (Nat.le_refl _) _).alloc (by simp <;> omega) _).alloc (by simp <;> omega) _).trans (hb1.mono (by simp <;> omega))); clear hb1)
  (try simp only [Exit.inBlock, Exit.then]); refine bodyPost_ret (v := _) (by first | (simp [results, Try.results35, go_sem]; rfl) | (simp [results, Try.results35, go_sem, hc1, hf1]; rfl)) rfl ⟨by first | rfl | (rw [HM1.out, HM2.out]; done) | exact congrArg Ending.returned (congrArg Value.agg (by simp; omega)) | (simp; done) | (simp; omega), (by repeat (first | exact HB1.out | exact Below.refl _ _ | refine Below.setCell ?_ (by simp <;> omega) _ | refine Below.alloc ?_ (by simp <;> omega) _ | refine Below.drew ?_))⟩

set_option maxRecDepth 100000 in
set_option maxHeartbeats 1000000 in
theorem rmk8_ok (w : World) (dl dg sl sg : Nat) (h1 : dl ≤ dg) (h2 : dg ≤ 4294967295) (h3 : sl ≤ sg) (h4 : sg ≤ 4294967295) : Calls Try.prog 35 #[.int .i64 8, .agg #[.int .i64 (dl : Int), .int .i64 (dg : Int)], .agg #[.int .i64 (sl : Int), .int .i64 (sg : Int)]] w fun e w' => e = .returned (.agg #[.int .i64 ((Sp.mk 0 (min dg sg)).l : Int), .int .i64 ((Sp.mk 0 (min dg sg)).g : Int)]) ∧ Below w.heap.size w w' := by
  have k1 : (dl : Int) ≤ 4294967295 := by omega
  have k2 : (dg : Int) ≤ 4294967295 := by omega
  have k3 : (sl : Int) ≤ 4294967295 := by omega
  have k4 : (sg : Int) ≤ 4294967295 := by omega
  go_enter Try.func35, Try.ntmps35
  go_wp2
  (try simp only [Exit.inBlock, Exit.then]); refine bodyPost_ret (v := _) (by first | (simp [results, Try.results35, go_sem]; rfl) | (simp [results, Try.results35, go_sem, hc1, hf1]; rfl)) rfl ⟨by first | rfl | (rw [HM1.out, HM2.out]; done) | exact congrArg Ending.returned (congrArg Value.agg (by simp; omega)) | (simp; done) | (simp; omega), (by repeat (first | exact HB1.out | exact Below.refl _ _ | refine Below.setCell ?_ (by simp <;> omega) _ | refine Below.alloc ?_ (by simp <;> omega) _ | refine Below.drew ?_))⟩

set_option maxRecDepth 100000 in
set_option maxHeartbeats 1000000 in
theorem rmk9_ok (w : World) (dl dg sl sg : Nat) (h1 : dl ≤ dg) (h2 : dg ≤ 4294967295) (h3 : sl ≤ sg) (h4 : sg ≤ 4294967295) : Calls Try.prog 35 #[.int .i64 9, .agg #[.int .i64 (dl : Int), .int .i64 (dg : Int)], .agg #[.int .i64 (sl : Int), .int .i64 (sg : Int)]] w fun e w' => e = .returned (.agg #[.int .i64 ((Sp.mk 0 (min dg sg)).l : Int), .int .i64 ((Sp.mk 0 (min dg sg)).g : Int)]) ∧ Below w.heap.size w w' := by
  have k1 : (dl : Int) ≤ 4294967295 := by omega
  have k2 : (dg : Int) ≤ 4294967295 := by omega
  have k3 : (sl : Int) ≤ 4294967295 := by omega
  have k4 : (sg : Int) ≤ 4294967295 := by omega
  go_enter Try.func35, Try.ntmps35
  go_wp2
  (try simp only [Exit.inBlock, Exit.then]); refine bodyPost_ret (v := _) (by first | (simp [results, Try.results35, go_sem]; rfl) | (simp [results, Try.results35, go_sem, hc1, hf1]; rfl)) rfl ⟨by first | rfl | (rw [HM1.out, HM2.out]; done) | exact congrArg Ending.returned (congrArg Value.agg (by simp; omega)) | (simp; done) | (simp; omega), (by repeat (first | exact HB1.out | exact Below.refl _ _ | refine Below.setCell ?_ (by simp <;> omega) _ | refine Below.alloc ?_ (by simp <;> omega) _ | refine Below.drew ?_))⟩

set_option maxRecDepth 100000 in
set_option maxHeartbeats 1000000 in
theorem rmk11_ok (w : World) (dl dg sl sg : Nat) (h1 : dl ≤ dg) (h2 : dg ≤ 4294967295) (h3 : sl ≤ sg) (h4 : sg ≤ 4294967295) : Calls Try.prog 35 #[.int .i64 11, .agg #[.int .i64 (dl : Int), .int .i64 (dg : Int)], .agg #[.int .i64 (sl : Int), .int .i64 (sg : Int)]] w fun e w' => e = .returned (.agg #[.int .i64 ((Sp.mk 0 (onesN (max dg sg))).l : Int), .int .i64 ((Sp.mk 0 (onesN (max dg sg))).g : Int)]) ∧ Below w.heap.size w w' := by
  have k1 : (dl : Int) ≤ 4294967295 := by omega
  have k2 : (dg : Int) ≤ 4294967295 := by omega
  have k3 : (sl : Int) ≤ 4294967295 := by omega
  have k4 : (sg : Int) ≤ 4294967295 := by omega
  go_enter Try.func35, Try.ntmps35
  go_wp2_with (go_at_call 47; rw [show (max (dg : Int) (sg : Int)) = ((max dg sg : Nat) : Int) from by omega]; (with_reducible refine (refones_ok _ _ (by omega)).mono ?_); rintro e w1 ⟨rfl, rfl⟩)
  (try simp only [Exit.inBlock, Exit.then]); refine bodyPost_ret (v := _) (by first | (simp [results, Try.results35, go_sem]; rfl) | (simp [results, Try.results35, go_sem, hc1, hf1]; rfl)) rfl ⟨by first | rfl | (rw [HM1.out, HM2.out]; done) | exact congrArg Ending.returned (congrArg Value.agg (by simp; omega)) | (simp; done) | (simp; omega), (by repeat (first | exact HB1.out | exact Below.refl _ _ | refine Below.setCell ?_ (by simp <;> omega) _ | refine Below.alloc ?_ (by simp <;> omega) _ | refine Below.drew ?_))⟩

set_option maxRecDepth 100000 in
set_option maxHeartbeats 1000000 in
theorem rmk15_ok (w : World) (dl dg sl sg : Nat) (h1 : dl ≤ dg) (h2 : dg ≤ 4294967295) (h3 : sl ≤ sg) (h4 : sg ≤ 4294967295) (h5 : 0 < sl) : Calls Try.prog 35 #[.int .i64 15, .agg #[.int .i64 (dl : Int), .int .i64 (dg : Int)], .agg #[.int .i64 (sl : Int), .int .i64 (sg : Int)]] w fun e w' => e = .returned (.agg #[.int .i64 ((Sp.mk 0 (min dg (sg - 1))).l : Int), .int .i64 ((Sp.mk 0 (min dg (sg - 1))).g : Int)]) ∧ Below w.heap.size w w' := by
  have k1 : (dl : Int) ≤ 4294967295 := by omega
  have k2 : (dg : Int) ≤ 4294967295 := by omega
  have k3 : (sl : Int) ≤ 4294967295 := by omega
  have k4 : (sg : Int) ≤ 4294967295 := by omega
  go_enter Try.func35, Try.ntmps35
  go_wp2
  (try simp only [Exit.inBlock, Exit.then]); refine bodyPost_ret (v := _) (by first | (simp [results, Try.results35, go_sem]; rfl) | (simp [results, Try.results35, go_sem, hc1, hf1]; rfl)) rfl ⟨by first | rfl | (rw [HM1.out, HM2.out]; done) | exact congrArg Ending.returned (congrArg Value.agg (by simp; omega)) | (simp; done) | (simp; omega), (by repeat (first | exact HB1.out | exact Below.refl _ _ | refine Below.setCell ?_ (by simp <;> omega) _ | refine Below.alloc ?_ (by simp <;> omega) _ | refine Below.drew ?_))⟩
end Go.Proofs.Ytjlddhnjbjhmkaa
