/- Layer 6, the document's answer: the product of two spans, walked. -/
import Derived.Test.YtjlddhnjbjhmkaaRf3
import Derived.BigQuiet
import Derived.IntWalk
set_option linter.unusedVariables false
set_option linter.unusedSimpArgs false
namespace Go.Proofs.Ytjlddhnjbjhmkaa
open Go.RowKit

theorem exec_quo {o : Oper} {ac : Act} {W : World} (x y : Operand) (P Q : Int) (p q r : Nat) (ho : o.op = .binOp .quo 2 x y 2) (hx : ac.eval x = .int .i64 P) (hy : ac.eval y = .int .i64 Q) (hP : P = (p : Int)) (hQ : Q = (q : Int)) (hr : r = p / q) (hq : 0 < q) (hp : p < 9223372036854775808) : (execOp ac.eval o).run Try.prog W = .ok (.value (.int .i64 (r : Int))) W := by
  subst hP
  subst hQ
  have hq1 : ¬ (q : Int) = 0 := by omega
  have hq2 : ¬ q = 0 := by omega
  have h1 : IntKind.i64.wrap ((p : Int).tdiv (q : Int)) = (r : Int) := by
    rw [Int.tdiv_eq_ediv_of_nonneg (by omega), ← Int.natCast_ediv, hr]
    have := Nat.div_le_self p q
    generalize p / q = r at this ⊢
    exact IntWalk.i64_in _ (by omega)
  have h2 : IntKind.i64.wrap ((p : Int) / (q : Int)) = (r : Int) := by
    rw [← Int.natCast_ediv, hr]
    have := Nat.div_le_self p q
    generalize p / q = r at this ⊢
    exact IntWalk.i64_in _ (by omega)
  unfold execOp
  simp only [ho, hx, hy]
  simp [go_sem, hq1, hq2, h1, h2]

set_option maxRecDepth 100000 in
set_option maxHeartbeats 1000000 in
theorem times_0 (w : World) (dl dg sl sg : Nat) (h1 : dl ≤ dg) (h2 : dg ≤ 4294967295) (h0 : dg = 0) (h3 : sl ≤ sg) (h4 : sg ≤ 4294967295) : Calls Try.prog 46 #[.agg #[.int .i64 (dl : Int), .int .i64 (dg : Int)], .agg #[.int .i64 (sl : Int), .int .i64 (sg : Int)]] w fun e w' => e = .returned (.agg #[.int .i64 ((dl * sl : Nat) : Int), .int .i64 ((dg * sg : Nat) : Int)]) ∧ Below w.heap.size w w' := by
  obtain ⟨W1, HW1, HB1, HD1, HS1, HR1⟩ := span3_world w dl dg sl sg
  have g1 : W1.cell? ⟨w.heap.size, 1, none⟩ = some (.int .i64 (dg : Int)) := HD1.out.cell 1 (by omega)
  have g2 : W1.cell? ⟨w.heap.size + 1, 1, none⟩ = some (.int .i64 (sg : Int)) := HS1.out.cell 1 (by omega)
  have G1 := Lib.hid g1; have G2 := Lib.hid g2; clear g1 g2
  have q0 : ¬ (0 : Int) < (dg : Int) := by omega
  have hb : dg * sg = 0 := by rw [h0, Nat.zero_mul]
  have H0 := Lib.hid h0; clear h0
  have hmn : dl * sl ≤ dg * sg := Nat.mul_le_mul h1 h3
  have hm1 : (dl : Int) * (sl : Int) ≤ 4294967295 := by rw [← Int.natCast_mul]; omega
  have hm2 : (dg : Int) * (sg : Int) ≤ 4294967295 := by rw [← Int.natCast_mul]; omega
  have hm3 : 0 ≤ (dl : Int) * (sl : Int) := by rw [← Int.natCast_mul]; omega
  have hm4 : 0 ≤ (dg : Int) * (sg : Int) := by rw [← Int.natCast_mul]; omega
  have HBB := Lib.hid hb; clear hb hmn
  go_enter Try.func46, Try.ntmps46
  go_upto_region 1 with fail
  rw [← HW1.out]
  refine wp_region_noPanic ?_
  refine planM (.rd 0 (.rd 1 (.rd 2 (.rd 3 (.rd 4 (.rd 5 (.rd 6 (.rd 7 (.rd 8 (.rd 9 (.rd 10 .done))))))))))) [0, 1, 2, 3, 4, 5, 6, 7, 8, 9, 10] (fun W => Below W1.heap.size W1 W) (by kernel_rfl) (by kernel_rfl) (fun _ _ _ _ _ h => h) ((Below.refl _ _).drew) ?_
  repeat (refine pm_pure rfl (fun K hK => ?_); go_simp; refine hK _ ?_; clear hK K)
  refine pm_rd (.int .i64 (dg : Int)) rfl rfl (fun W hS => ?_) (fun K hK => ?_)
  · have f0 := (Kp.of_below hS No).cell G1.out (fun e => e)
    simp [go_sem, f0]
  go_simp
  refine hK _ ?_
  clear hK K
  refine pm_rdv 7 (.bool false) rfl rfl rfl (fun W _ => by simp [go_sem, q0, H0.out]) ?_
  repeat (refine pm_pure rfl (fun K hK => ?_); go_simp; refine hK _ ?_; clear hK K)
  refine pm_done ?_
  refine NoPanic.normal ?_
  rw [HW1.out]
  go_wp2
  (try simp only [Exit.inBlock, Exit.then]); refine bodyPost_ret (v := _) (by first | (simp [results, Try.results46, go_sem]; rfl)) rfl ⟨by first | rfl | (simp; done) | exact congrArg Ending.returned (congrArg Value.agg (by simp; omega)) | (simp; done) | (simp; omega), (by repeat (first | exact Below.refl _ _ | refine Below.setCell ?_ (by simp <;> omega) _ | refine Below.alloc ?_ (by simp <;> omega) _ | refine Below.drew ?_))⟩

set_option maxRecDepth 100000 in
set_option maxHeartbeats 1000000 in
theorem times_big (w : World) (dl dg sl sg : Nat) (h1 : dl ≤ dg) (h2 : dg ≤ 4294967295) (h3 : sl ≤ sg) (h4 : sg ≤ 4294967295) (hpos : 0 < dg) (hb : 4294967295 < dg * sg) : Calls Try.prog 46 #[.agg #[.int .i64 (dl : Int), .int .i64 (dg : Int)], .agg #[.int .i64 (sl : Int), .int .i64 (sg : Int)]] w fun e w' => e = .returned (.agg #[.int .i64 ((0 : Nat) : Int), .int .i64 ((4294967295 : Nat) : Int)]) ∧ Below w.heap.size w w' := by
  obtain ⟨W1, HW1, HB1, HD1, HS1, HR1⟩ := span3_world w dl dg sl sg
  have g1 : W1.cell? ⟨w.heap.size, 1, none⟩ = some (.int .i64 (dg : Int)) := HD1.out.cell 1 (by omega)
  have g2 : W1.cell? ⟨w.heap.size + 1, 1, none⟩ = some (.int .i64 (sg : Int)) := HS1.out.cell 1 (by omega)
  have G1 := Lib.hid g1; have G2 := Lib.hid g2; clear g1 g2
  have q1 : (0 : Int) < (dg : Int) := by omega
  obtain ⟨pp, hpp⟩ : ∃ p : Nat, p = 4294967295 := ⟨_, rfl⟩
  have HPP : Hid ((4294967295 : Int) = (pp : Int)) := Lib.hid (by omega)
  obtain ⟨qq, hqq⟩ : ∃ q, q = pp / dg := ⟨_, rfl⟩
  have h9 : (qq : Int) < (sg : Int) := by
    have := (times_iff dg sg hpos).2 hb
    rw [← hpp, ← hqq] at this; omega
  have HQE := Lib.hid hqq; clear hqq hpp
  go_enter Try.func46, Try.ntmps46
  go_upto_region 1 with fail
  rw [← HW1.out]
  refine wp_region_noPanic ?_
  refine planM (.rd 0 (.rd 1 (.rd 2 (.rd 3 (.rd 4 (.rd 5 (.rd 6 (.rd 7 (.rd 8 (.rd 9 (.rd 10 .done))))))))))) [0, 1, 2, 3, 4, 5, 6, 7, 8, 9, 10] (fun W => Below W1.heap.size W1 W) (by kernel_rfl) (by kernel_rfl) (fun _ _ _ _ _ h => h) ((Below.refl _ _).drew) ?_
  repeat (refine pm_pure rfl (fun K hK => ?_); go_simp; refine hK _ ?_; clear hK K)
  refine pm_rd (.int .i64 (dg : Int)) rfl rfl (fun W hS => ?_) (fun K hK => ?_)
  · have f0 := (Kp.of_below hS No).cell G1.out (fun e => e)
    simp [go_sem, f0]
  go_simp
  refine hK _ ?_
  clear hK K
  repeat (refine pm_pure rfl (fun K hK => ?_); go_simp; refine hK _ ?_; clear hK K)
  refine pm_rd (.int .i64 (sg : Int)) rfl rfl (fun W hS => ?_) (fun K hK => ?_)
  · have f0 := (Kp.of_below hS No).cell G2.out (fun e => e)
    simp [go_sem, f0]
  go_simp
  refine hK _ ?_
  clear hK K
  repeat (refine pm_pure rfl (fun K hK => ?_); go_simp; refine hK _ ?_; clear hK K)
  refine pm_rd (.int .i64 (dg : Int)) rfl rfl (fun W hS => ?_) (fun K hK => ?_)
  · have f0 := (Kp.of_below hS No).cell G1.out (fun e => e)
    simp [go_sem, f0]
  go_simp
  refine hK _ ?_
  clear hK K
  repeat (refine pm_pure rfl (fun K hK => ?_); go_simp; refine hK _ ?_; clear hK K)
  refine pm_rdv 13 (.int .i64 (qq : Int)) rfl rfl rfl (fun W _ => ?_) ?_
  · exact exec_quo (.const (.int .i64 4294967295)) (.tmp 12) 4294967295 (dg : Int) pp dg qq rfl rfl rfl HPP.out rfl HQE.out hpos (by have := HPP.out; omega)
  refine pm_rdv 14 (.bool true) rfl rfl rfl (fun W _ => ?_) ?_
  · simp [go_sem, h9]
  repeat (refine pm_pure rfl (fun K hK => ?_); go_simp; refine hK _ ?_; clear hK K)
  refine pm_done ?_
  refine NoPanic.normal ?_
  rw [HW1.out]
  go_wp2
  (try simp only [Exit.inBlock, Exit.then]); refine bodyPost_ret (v := _) (by first | (simp [results, Try.results46, go_sem]; rfl)) rfl ⟨by first | rfl | (simp; done) | exact congrArg Ending.returned (congrArg Value.agg (by simp; omega)) | (simp; done) | (simp; omega), (by repeat (first | exact Below.refl _ _ | refine Below.setCell ?_ (by simp <;> omega) _ | refine Below.alloc ?_ (by simp <;> omega) _ | refine Below.drew ?_))⟩

set_option maxRecDepth 100000 in
set_option maxHeartbeats 1000000 in
theorem times_fit (w : World) (dl dg sl sg : Nat) (h1 : dl ≤ dg) (h2 : dg ≤ 4294967295) (h3 : sl ≤ sg) (h4 : sg ≤ 4294967295) (hpos : 0 < dg) (hb : ¬ 4294967295 < dg * sg) : Calls Try.prog 46 #[.agg #[.int .i64 (dl : Int), .int .i64 (dg : Int)], .agg #[.int .i64 (sl : Int), .int .i64 (sg : Int)]] w fun e w' => e = .returned (.agg #[.int .i64 ((dl * sl : Nat) : Int), .int .i64 ((dg * sg : Nat) : Int)]) ∧ Below w.heap.size w w' := by
  obtain ⟨W1, HW1, HB1, HD1, HS1, HR1⟩ := span3_world w dl dg sl sg
  have g1 : W1.cell? ⟨w.heap.size, 1, none⟩ = some (.int .i64 (dg : Int)) := HD1.out.cell 1 (by omega)
  have g2 : W1.cell? ⟨w.heap.size + 1, 1, none⟩ = some (.int .i64 (sg : Int)) := HS1.out.cell 1 (by omega)
  have G1 := Lib.hid g1; have G2 := Lib.hid g2; clear g1 g2
  have q1 : (0 : Int) < (dg : Int) := by omega
  obtain ⟨pp, hpp⟩ : ∃ p : Nat, p = 4294967295 := ⟨_, rfl⟩
  have HPP : Hid ((4294967295 : Int) = (pp : Int)) := Lib.hid (by omega)
  obtain ⟨qq, hqq⟩ : ∃ q, q = pp / dg := ⟨_, rfl⟩
  have h9 : ¬ (qq : Int) < (sg : Int) := by
    have : ¬ 4294967295 / dg < sg := fun h => hb ((times_iff dg sg hpos).1 h)
    rw [← hpp, ← hqq] at this; omega
  have HQE := Lib.hid hqq; clear hqq hpp
  have hmn : dl * sl ≤ dg * sg := Nat.mul_le_mul h1 h3
  have hm1 : (dl : Int) * (sl : Int) ≤ 4294967295 := by rw [← Int.natCast_mul]; omega
  have hm2 : (dg : Int) * (sg : Int) ≤ 4294967295 := by rw [← Int.natCast_mul]; omega
  have hm3 : 0 ≤ (dl : Int) * (sl : Int) := by rw [← Int.natCast_mul]; omega
  have hm4 : 0 ≤ (dg : Int) * (sg : Int) := by rw [← Int.natCast_mul]; omega
  have HBB := Lib.hid hb; clear hb hmn
  go_enter Try.func46, Try.ntmps46
  go_upto_region 1 with fail
  rw [← HW1.out]
  refine wp_region_noPanic ?_
  refine planM (.rd 0 (.rd 1 (.rd 2 (.rd 3 (.rd 4 (.rd 5 (.rd 6 (.rd 7 (.rd 8 (.rd 9 (.rd 10 .done))))))))))) [0, 1, 2, 3, 4, 5, 6, 7, 8, 9, 10] (fun W => Below W1.heap.size W1 W) (by kernel_rfl) (by kernel_rfl) (fun _ _ _ _ _ h => h) ((Below.refl _ _).drew) ?_
  repeat (refine pm_pure rfl (fun K hK => ?_); go_simp; refine hK _ ?_; clear hK K)
  refine pm_rd (.int .i64 (dg : Int)) rfl rfl (fun W hS => ?_) (fun K hK => ?_)
  · have f0 := (Kp.of_below hS No).cell G1.out (fun e => e)
    simp [go_sem, f0]
  go_simp
  refine hK _ ?_
  clear hK K
  repeat (refine pm_pure rfl (fun K hK => ?_); go_simp; refine hK _ ?_; clear hK K)
  refine pm_rd (.int .i64 (sg : Int)) rfl rfl (fun W hS => ?_) (fun K hK => ?_)
  · have f0 := (Kp.of_below hS No).cell G2.out (fun e => e)
    simp [go_sem, f0]
  go_simp
  refine hK _ ?_
  clear hK K
  repeat (refine pm_pure rfl (fun K hK => ?_); go_simp; refine hK _ ?_; clear hK K)
  refine pm_rd (.int .i64 (dg : Int)) rfl rfl (fun W hS => ?_) (fun K hK => ?_)
  · have f0 := (Kp.of_below hS No).cell G1.out (fun e => e)
    simp [go_sem, f0]
  go_simp
  refine hK _ ?_
  clear hK K
  repeat (refine pm_pure rfl (fun K hK => ?_); go_simp; refine hK _ ?_; clear hK K)
  refine pm_rdv 13 (.int .i64 (qq : Int)) rfl rfl rfl (fun W _ => ?_) ?_
  · exact exec_quo (.const (.int .i64 4294967295)) (.tmp 12) 4294967295 (dg : Int) pp dg qq rfl rfl rfl HPP.out rfl HQE.out hpos (by have := HPP.out; omega)
  refine pm_rdv 14 (.bool false) rfl rfl rfl (fun W _ => ?_) ?_
  · simp [go_sem, h9]
  repeat (refine pm_pure rfl (fun K hK => ?_); go_simp; refine hK _ ?_; clear hK K)
  refine pm_done ?_
  refine NoPanic.normal ?_
  rw [HW1.out]
  go_wp2
  (try simp only [Exit.inBlock, Exit.then]); refine bodyPost_ret (v := _) (by first | (simp [results, Try.results46, go_sem]; rfl)) rfl ⟨by first | rfl | (simp; done) | exact congrArg Ending.returned (congrArg Value.agg (by simp; omega)) | (simp; done) | (simp; omega), (by repeat (first | exact Below.refl _ _ | refine Below.setCell ?_ (by simp <;> omega) _ | refine Below.alloc ?_ (by simp <;> omega) _ | refine Below.drew ?_))⟩

theorem reftimes_ok (w : World) (d s : Sp) (hd : d.ok) (hs : s.ok) : Calls Try.prog 46 #[.agg #[.int .i64 (d.l : Int), .int .i64 (d.g : Int)], .agg #[.int .i64 (s.l : Int), .int .i64 (s.g : Int)]] w fun e w' => e = .returned (.agg #[.int .i64 ((withinS ⟨d.l * s.l, d.g * s.g⟩).l : Int), .int .i64 ((withinS ⟨d.l * s.l, d.g * s.g⟩).g : Int)]) ∧ Below w.heap.size w w' := by
  obtain ⟨dl, dg⟩ := d
  obtain ⟨sl, sg⟩ := s
  obtain ⟨h1, h2⟩ := hd
  obtain ⟨h3, h4⟩ := hs
  by_cases h0 : dg = 0
  · have e : ¬ 4294967295 < dg * sg := by rw [h0]; omega
    simp only [withinS, if_neg e]
    exact times_0 w dl dg sl sg h1 h2 h0 h3 h4
  · by_cases e : 4294967295 < dg * sg
    · simp only [withinS, if_pos e, allS]
      exact times_big w dl dg sl sg h1 h2 h3 h4 (by omega) e
    · simp only [withinS, if_neg e]
      exact times_fit w dl dg sl sg h1 h2 h3 h4 (by omega) e
end Go.Proofs.Ytjlddhnjbjhmkaa
