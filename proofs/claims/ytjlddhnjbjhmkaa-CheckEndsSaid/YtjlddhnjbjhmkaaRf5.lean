/- Layer 6, the document's answer: what an op makes of two spans (the straight ones). -/
import Derived.Test.YtjlddhnjbjhmkaaRf4
import Derived.BigQuiet
import Derived.IntWalk
set_option linter.unusedVariables false
set_option linter.unusedSimpArgs false
namespace Go.Proofs.Ytjlddhnjbjhmkaa
open Go.RowKit

set_option maxRecDepth 100000 in
set_option maxHeartbeats 1000000 in
theorem rmk1_ok (w : World) (dl dg sl sg : Nat) (h1 : dl ≤ dg) (h2 : dg ≤ 4294967295) (h3 : sl ≤ sg) (h4 : sg ≤ 4294967295) : Calls Try.prog 35 #[.int .i64 1, .agg #[.int .i64 (dl : Int), .int .i64 (dg : Int)], .agg #[.int .i64 (sl : Int), .int .i64 (sg : Int)]] w fun e w' => e = .returned (.agg #[.int .i64 ((Sp.mk sl sg).l : Int), .int .i64 ((Sp.mk sl sg).g : Int)]) ∧ Below w.heap.size w w' := by
  have k1 : (dl : Int) ≤ 4294967295 := by omega
  have k2 : (dg : Int) ≤ 4294967295 := by omega
  have k3 : (sl : Int) ≤ 4294967295 := by omega
  have k4 : (sg : Int) ≤ 4294967295 := by omega
  go_enter Try.func35, Try.ntmps35
  go_wp2
  (try simp only [Exit.inBlock, Exit.then]); refine bodyPost_ret (v := _) (by first | (simp [results, Try.results35, go_sem]; rfl) | (simp [results, Try.results35, go_sem, hc1, hf1]; rfl)) rfl ⟨by first | rfl | (rw [HM1.out, HM2.out]; done) | exact congrArg Ending.returned (congrArg Value.agg (by simp; omega)) | (simp; done) | (simp; omega), (by repeat (first | exact HB1.out | exact Below.refl _ _ | refine Below.setCell ?_ (by simp <;> omega) _ | refine Below.alloc ?_ (by simp <;> omega) _ | refine Below.drew ?_))⟩

set_option maxRecDepth 100000 in
set_option maxHeartbeats 1000000 in
theorem rmk2_ok (w : World) (dl dg sl sg : Nat) (h1 : dl ≤ dg) (h2 : dg ≤ 4294967295) (h3 : sl ≤ sg) (h4 : sg ≤ 4294967295) : Calls Try.prog 35 #[.int .i64 2, .agg #[.int .i64 (dl : Int), .int .i64 (dg : Int)], .agg #[.int .i64 (sl : Int), .int .i64 (sg : Int)]] w fun e w' => e = .returned (.agg #[.int .i64 ((Sp.mk sl sg).l : Int), .int .i64 ((Sp.mk sl sg).g : Int)]) ∧ Below w.heap.size w w' := by
  have k1 : (dl : Int) ≤ 4294967295 := by omega
  have k2 : (dg : Int) ≤ 4294967295 := by omega
  have k3 : (sl : Int) ≤ 4294967295 := by omega
  have k4 : (sg : Int) ≤ 4294967295 := by omega
  go_enter Try.func35, Try.ntmps35
  go_wp2
  (try simp only [Exit.inBlock, Exit.then]); refine bodyPost_ret (v := _) (by first | (simp [results, Try.results35, go_sem]; rfl) | (simp [results, Try.results35, go_sem, hc1, hf1]; rfl)) rfl ⟨by first | rfl | (rw [HM1.out, HM2.out]; done) | exact congrArg Ending.returned (congrArg Value.agg (by simp; omega)) | (simp; done) | (simp; omega), (by repeat (first | exact HB1.out | exact Below.refl _ _ | refine Below.setCell ?_ (by simp <;> omega) _ | refine Below.alloc ?_ (by simp <;> omega) _ | refine Below.drew ?_))⟩

set_option maxRecDepth 100000 in
set_option maxHeartbeats 1000000 in
theorem rmk3_ok (w : World) (dl dg sl sg : Nat) (h1 : dl ≤ dg) (h2 : dg ≤ 4294967295) (h3 : sl ≤ sg) (h4 : sg ≤ 4294967295) : Calls Try.prog 35 #[.int .i64 3, .agg #[.int .i64 (dl : Int), .int .i64 (dg : Int)], .agg #[.int .i64 (sl : Int), .int .i64 (sg : Int)]] w fun e w' => e = .returned (.agg #[.int .i64 ((withinS ⟨dl + sl, dg + sg⟩).l : Int), .int .i64 ((withinS ⟨dl + sl, dg + sg⟩).g : Int)]) ∧ Below w.heap.size w w' := by
  have k1 : (dl : Int) ≤ 4294967295 := by omega
  have k2 : (dg : Int) ≤ 4294967295 := by omega
  have k3 : (sl : Int) ≤ 4294967295 := by omega
  have k4 : (sg : Int) ≤ 4294967295 := by omega
  by_cases h : 4294967295 < dg + sg
  · have h' : (4294967295 : Int) < (dg : Int) + (sg : Int) := by omega
    simp only [withinS, if_pos h, allS]
    go_enter Try.func35, Try.ntmps35
    go_wp2
    (try simp only [Exit.inBlock, Exit.then]); refine bodyPost_ret (v := _) (by first | (simp [results, Try.results35, go_sem]; rfl) | (simp [results, Try.results35, go_sem, hc1, hf1]; rfl)) rfl ⟨by first | rfl | (rw [HM1.out, HM2.out]; done) | exact congrArg Ending.returned (congrArg Value.agg (by simp; omega)) | (simp; done) | (simp; omega), (by repeat (first | exact HB1.out | exact Below.refl _ _ | refine Below.setCell ?_ (by simp <;> omega) _ | refine Below.alloc ?_ (by simp <;> omega) _ | refine Below.drew ?_))⟩
  · have h' : ¬ (4294967295 : Int) < (dg : Int) + (sg : Int) := by omega
    simp only [withinS, if_neg h]
    go_enter Try.func35, Try.ntmps35
    go_wp2
    (try simp only [Exit.inBlock, Exit.then]); refine bodyPost_ret (v := _) (by first | (simp [results, Try.results35, go_sem]; rfl) | (simp [results, Try.results35, go_sem, hc1, hf1]; rfl)) rfl ⟨by first | rfl | (rw [HM1.out, HM2.out]; done) | exact congrArg Ending.returned (congrArg Value.agg (by simp; omega)) | (simp; done) | (simp; omega), (by repeat (first | exact HB1.out | exact Below.refl _ _ | refine Below.setCell ?_ (by simp <;> omega) _ | refine Below.alloc ?_ (by simp <;> omega) _ | refine Below.drew ?_))⟩

set_option maxRecDepth 100000 in
set_option maxHeartbeats 1000000 in
theorem rmk4_ok (w : World) (dl dg sl sg : Nat) (h1 : dl ≤ dg) (h2 : dg ≤ 4294967295) (h3 : sl ≤ sg) (h4 : sg ≤ 4294967295) : Calls Try.prog 35 #[.int .i64 4, .agg #[.int .i64 (dl : Int), .int .i64 (dg : Int)], .agg #[.int .i64 (sl : Int), .int .i64 (sg : Int)]] w fun e w' => e = .returned (.agg #[.int .i64 ((withinS ⟨dl + sl, dg + sg⟩).l : Int), .int .i64 ((withinS ⟨dl + sl, dg + sg⟩).g : Int)]) ∧ Below w.heap.size w w' := by
  have k1 : (dl : Int) ≤ 4294967295 := by omega
  have k2 : (dg : Int) ≤ 4294967295 := by omega
  have k3 : (sl : Int) ≤ 4294967295 := by omega
  have k4 : (sg : Int) ≤ 4294967295 := by omega
  by_cases h : 4294967295 < dg + sg
  · have h' : (4294967295 : Int) < (dg : Int) + (sg : Int) := by omega
    simp only [withinS, if_pos h, allS]
    go_enter Try.func35, Try.ntmps35
    go_wp2
    (try simp only [Exit.inBlock, Exit.then]); refine bodyPost_ret (v := _) (by first | (simp [results, Try.results35, go_sem]; rfl) | (simp [results, Try.results35, go_sem, hc1, hf1]; rfl)) rfl ⟨by first | rfl | (rw [HM1.out, HM2.out]; done) | exact congrArg Ending.returned (congrArg Value.agg (by simp; omega)) | (simp; done) | (simp; omega), (by repeat (first | exact HB1.out | exact Below.refl _ _ | refine Below.setCell ?_ (by simp <;> omega) _ | refine Below.alloc ?_ (by simp <;> omega) _ | refine Below.drew ?_))⟩
  · have h' : ¬ (4294967295 : Int) < (dg : Int) + (sg : Int) := by omega
    simp only [withinS, if_neg h]
    go_enter Try.func35, Try.ntmps35
    go_wp2
    (try simp only [Exit.inBlock, Exit.then]); refine bodyPost_ret (v := _) (by first | (simp [results, Try.results35, go_sem]; rfl) | (simp [results, Try.results35, go_sem, hc1, hf1]; rfl)) rfl ⟨by first | rfl | (rw [HM1.out, HM2.out]; done) | exact congrArg Ending.returned (congrArg Value.agg (by simp; omega)) | (simp; done) | (simp; omega), (by repeat (first | exact HB1.out | exact Below.refl _ _ | refine Below.setCell ?_ (by simp <;> omega) _ | refine Below.alloc ?_ (by simp <;> omega) _ | refine Below.drew ?_))⟩

set_option maxRecDepth 100000 in
set_option maxHeartbeats 1000000 in
theorem rmk5_ok (w : World) (dl dg sl sg : Nat) (h1 : dl ≤ dg) (h2 : dg ≤ 4294967295) (h3 : sl ≤ sg) (h4 : sg ≤ 4294967295) : Calls Try.prog 35 #[.int .i64 5, .agg #[.int .i64 (dl : Int), .int .i64 (dg : Int)], .agg #[.int .i64 (sl : Int), .int .i64 (sg : Int)]] w fun e w' => e = .returned (.agg #[.int .i64 (((if dl < sg then allS else ⟨dl - sg, dg - sl⟩ : Sp)).l : Int), .int .i64 (((if dl < sg then allS else ⟨dl - sg, dg - sl⟩ : Sp)).g : Int)]) ∧ Below w.heap.size w w' := by
  have k1 : (dl : Int) ≤ 4294967295 := by omega
  have k2 : (dg : Int) ≤ 4294967295 := by omega
  have k3 : (sl : Int) ≤ 4294967295 := by omega
  have k4 : (sg : Int) ≤ 4294967295 := by omega
  by_cases h : dl < sg
  · have h' : (dl : Int) < (sg : Int) := by omega
    simp only [if_pos h, allS]
    go_enter Try.func35, Try.ntmps35
    go_wp2
    (try simp only [Exit.inBlock, Exit.then]); refine bodyPost_ret (v := _) (by first | (simp [results, Try.results35, go_sem]; rfl) | (simp [results, Try.results35, go_sem, hc1, hf1]; rfl)) rfl ⟨by first | rfl | (rw [HM1.out, HM2.out]; done) | exact congrArg Ending.returned (congrArg Value.agg (by simp; omega)) | (simp; done) | (simp; omega), (by repeat (first | exact HB1.out | exact Below.refl _ _ | refine Below.setCell ?_ (by simp <;> omega) _ | refine Below.alloc ?_ (by simp <;> omega) _ | refine Below.drew ?_))⟩
  · have h' : ¬ (dl : Int) < (sg : Int) := by omega
    simp only [if_neg h]
    go_enter Try.func35, Try.ntmps35
    go_wp2
    (try simp only [Exit.inBlock, Exit.then]); refine bodyPost_ret (v := _) (by first | (simp [results, Try.results35, go_sem]; rfl) | (simp [results, Try.results35, go_sem, hc1, hf1]; rfl)) rfl ⟨by first | rfl | (rw [HM1.out, HM2.out]; done) | exact congrArg Ending.returned (congrArg Value.agg (by simp; omega)) | (simp; done) | (simp; omega), (by repeat (first | exact HB1.out | exact Below.refl _ _ | refine Below.setCell ?_ (by simp <;> omega) _ | refine Below.alloc ?_ (by simp <;> omega) _ | refine Below.drew ?_))⟩
end Go.Proofs.Ytjlddhnjbjhmkaa
