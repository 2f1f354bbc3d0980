/- Layer 6, the document's answer: what an op makes of two spans (the drawn ones). -/
import Derived.Test.YtjlddhnjbjhmkaaRf4
import Derived.BigQuiet
import Derived.IntWalk
set_option linter.unusedVariables false
set_option linter.unusedSimpArgs false
namespace Go.Proofs.Ytjlddhnjbjhmkaa
open Go.RowKit

set_option maxRecDepth 100000 in
set_option maxHeartbeats 1000000 in
theorem rmk10_ok (w : World) (dl dg sl sg : Nat) (h1 : dl ≤ dg) (h2 : dg ≤ 4294967295) (h3 : sl ≤ sg) (h4 : sg ≤ 4294967295) : Calls Try.prog 35 #[.int .i64 10, .agg #[.int .i64 (dl : Int), .int .i64 (dg : Int)], .agg #[.int .i64 (sl : Int), .int .i64 (sg : Int)]] w fun e w' => e = .returned (.agg #[.int .i64 ((Sp.mk (max dl sl) (onesN (max dg sg))).l : Int), .int .i64 ((Sp.mk (max dl sl) (onesN (max dg sg))).g : Int)]) ∧ Below w.heap.size w w' := by
  have k1 : (dl : Int) ≤ 4294967295 := by omega
  have k2 : (dg : Int) ≤ 4294967295 := by omega
  have k3 : (sl : Int) ≤ 4294967295 := by omega
  have k4 : (sg : Int) ≤ 4294967295 := by omega
  obtain ⟨W1, HW1, HB1, HD1, HS1, HR1⟩ := span3_world w dl dg sl sg
  have C0 : Hid (W1.cell? ⟨w.heap.size, 0, none⟩ = some (.int .i64 (dl : Int))) := Lib.hid (HD1.out.cell 0 (by omega))
  have C1 : Hid (W1.cell? ⟨w.heap.size, 1, none⟩ = some (.int .i64 (dg : Int))) := Lib.hid (HD1.out.cell 1 (by omega))
  have C2 : Hid (W1.cell? ⟨w.heap.size + 1, 0, none⟩ = some (.int .i64 (sl : Int))) := Lib.hid (HS1.out.cell 0 (by omega))
  have C3 : Hid (W1.cell? ⟨w.heap.size + 1, 1, none⟩ = some (.int .i64 (sg : Int))) := Lib.hid (HS1.out.cell 1 (by omega))
  go_enter Try.func35, Try.ntmps35
  go_upto_region 21 with fail
  rw [← HW1.out]
  refine wp_region_noPanic ?_
  refine planM (.rd 0 (.rd 1 (.rd 2 (.rd 3 (.rd 4 (.rd 5 (.rd 6 (.rd 7 (.rd 8 (.rd 9 (.eff 10 (.rd 11 (.eff 12 .done))))))))))))) [0, 1, 2, 3, 4, 5, 6, 7, 8, 9, 10, 11] (fun W => Below W1.heap.size W1 W) (by kernel_rfl) (by kernel_rfl) (fun _ _ _ _ _ h => h) ((Below.refl _ _).drew) ?_
  repeat (refine pm_pure rfl (fun K hK => ?_); go_simp; refine hK _ ?_; clear hK K)
  refine pm_rd (.int .i64 (dl : Int)) rfl rfl (fun W hS => ?_) (fun K hK => ?_)
  · have f0 := (Kp.of_below hS No).cell C0.out (fun e => e)
    simp [go_sem, f0]
  go_simp
  refine hK _ ?_
  clear hK K
  repeat (refine pm_pure rfl (fun K hK => ?_); go_simp; refine hK _ ?_; clear hK K)
  refine pm_rd (.int .i64 (sl : Int)) rfl rfl (fun W hS => ?_) (fun K hK => ?_)
  · have f0 := (Kp.of_below hS No).cell C2.out (fun e => e)
    simp [go_sem, f0]
  go_simp
  refine hK _ ?_
  clear hK K
  repeat (refine pm_pure rfl (fun K hK => ?_); go_simp; refine hK _ ?_; clear hK K)
  refine pm_rd (.int .i64 (dg : Int)) rfl rfl (fun W hS => ?_) (fun K hK => ?_)
  · have f0 := (Kp.of_below hS No).cell C1.out (fun e => e)
    simp [go_sem, f0]
  go_simp
  refine hK _ ?_
  clear hK K
  repeat (refine pm_pure rfl (fun K hK => ?_); go_simp; refine hK _ ?_; clear hK K)
  refine pm_rd (.int .i64 (sg : Int)) rfl rfl (fun W hS => ?_) (fun K hK => ?_)
  · have f0 := (Kp.of_below hS No).cell C3.out (fun e => e)
    simp [go_sem, f0]
  go_simp
  refine hK _ ?_
  clear hK K
  repeat (refine pm_pure rfl (fun K hK => ?_); go_simp; refine hK _ ?_; clear hK K)
  refine pm_eff rfl rfl (fun K hK => ?_)
  go_simp
  rw [show (max (dg : Int) (sg : Int)) = ((max dg sg : Nat) : Int) from by omega]
  (with_reducible refine (refones_ok _ _ (by omega)).mono ?_)
  rintro e w1 ⟨rfl, rfl⟩
  refine hK _ _ (fun _ => (Below.refl _ _).drew) ?_
  clear hK K
  repeat (refine pm_pure rfl (fun K hK => ?_); go_simp; refine hK _ ?_; clear hK K)
  obtain ⟨W3, HW3, HR3, HB3, HK3⟩ := fin_store (HB1.out.drew) (HR1.out) (Nat.le_add_right _ _) [.int .i64 (max (dl : Int) (sl : Int)), .int .i64 (onesN (max dg sg) : Int)] rfl
  refine pm_eff rfl rfl (fun K hK => ?_)
  refine wp_store_mid 83 (.tmp 6) (.tmp 80) rfl (w.heap.size + 2) (0) #[.int .i64 (max (dl : Int) (sl : Int)), .int .i64 (onesN (max dg sg) : Int)] rfl rfl (there_blk (HR1.out)) (by kernel_rfl) (by simp [Value.oneCell']) ?_
  rw [← HW3.out]
  refine hK _ _ (fun h => by cases h) ?_
  clear hK K
  refine pm_done ?_
  refine NoPanic.normal ?_
  go_wp2
  exact bodyPost_ret (v := .agg #[.int .i64 (max (dl : Int) (sl : Int)), .int .i64 (onesN (max dg sg) : Int)]) (results_cell1_range Try.results35 _ _ (w.heap.size + 2) 0 [.int .i64 (max (dl : Int) (sl : Int)), .int .i64 (onesN (max dg sg) : Int)] _ rfl HR3.out Try.underlying83 rfl (by kernel_rfl)) rfl ⟨by rw [show (max (dl : Int) (sl : Int)) = ((max dl sl : Nat) : Int) from by omega], HB3.out⟩

set_option maxRecDepth 100000 in
set_option maxHeartbeats 1000000 in
theorem rmk12_ok (w : World) (dl dg sl sg : Nat) (h1 : dl ≤ dg) (h2 : dg ≤ 4294967295) (h3 : sl ≤ sg) (h4 : sg ≤ 4294967295) (h5 : sl ≤ 31) : Calls Try.prog 35 #[.int .i64 12, .agg #[.int .i64 (dl : Int), .int .i64 (dg : Int)], .agg #[.int .i64 (sl : Int), .int .i64 (sg : Int)]] w fun e w' => e = .returned (.agg #[.int .i64 ((withinS ⟨dl * 2 ^ sl, dg * 2 ^ sl⟩).l : Int), .int .i64 ((withinS ⟨dl * 2 ^ sl, dg * 2 ^ sl⟩).g : Int)]) ∧ Below w.heap.size w w' := by
  have k1 : (dl : Int) ≤ 4294967295 := by omega
  have k2 : (dg : Int) ≤ 4294967295 := by omega
  have k3 : (sl : Int) ≤ 4294967295 := by omega
  have k4 : (sg : Int) ≤ 4294967295 := by omega
  have hp1 : 2 ^ sl ≤ 2 ^ 31 := Nat.pow_le_pow_right (by omega) h5
  obtain ⟨pp, hpp⟩ : ∃ p, p = 2 ^ sl := ⟨_, rfl⟩
  have hp0 : 0 < pp := by rw [hpp]; exact Nat.two_pow_pos sl
  have hpb : pp ≤ 2147483648 := by rw [hpp]; omega
  have HPW : Hid (∀ W : World, Calls Try.prog 48 #[.int .i64 (sl : Int)] W fun e w' => e = .returned (.int .i64 (pp : Int)) ∧ w' = W) := Lib.hid (fun W => by rw [hpp]; exact refpower_ok W sl h5)
  rw [← hpp]
  clear hpp hp1
  obtain ⟨rs, hrs⟩ : ∃ rs, rs = withinS ⟨dl * pp, dg * pp⟩ := ⟨_, rfl⟩
  rw [← hrs]
  have HT : Hid (∀ W : World, Calls Try.prog 46 #[.agg #[.int .i64 (dl : Int), .int .i64 (dg : Int)], .agg #[.int .i64 (pp : Int), .int .i64 (pp : Int)]] W fun e w' => e = .returned (.agg #[.int .i64 (rs.l : Int), .int .i64 (rs.g : Int)]) ∧ Below W.heap.size W w') := Lib.hid (fun W => by rw [hrs]; exact reftimes_ok W ⟨dl, dg⟩ ⟨pp, pp⟩ ⟨h1, h2⟩ ⟨Nat.le_refl _, by show pp ≤ 4294967295; omega⟩)
  clear hrs
  obtain ⟨W1, HW1, HB1, HD1, HS1, HR1⟩ := span3_world w dl dg sl sg
  have C0 : Hid (W1.cell? ⟨w.heap.size, 0, none⟩ = some (.int .i64 (dl : Int))) := Lib.hid (HD1.out.cell 0 (by omega))
  have C1 : Hid (W1.cell? ⟨w.heap.size, 1, none⟩ = some (.int .i64 (dg : Int))) := Lib.hid (HD1.out.cell 1 (by omega))
  have C2 : Hid (W1.cell? ⟨w.heap.size + 1, 0, none⟩ = some (.int .i64 (sl : Int))) := Lib.hid (HS1.out.cell 0 (by omega))
  have C3 : Hid (W1.cell? ⟨w.heap.size + 1, 1, none⟩ = some (.int .i64 (sg : Int))) := Lib.hid (HS1.out.cell 1 (by omega))
  go_enter Try.func35, Try.ntmps35
  go_upto_region 25 with fail
  rw [← HW1.out]
  refine wp_region_noPanic ?_
  refine planM (.rd 0 (.rd 1 (.rd 2 (.rd 4 (.rd 5 (.eff 3 (.eff 6 (.rd 7 (.eff 8 (.eff 9 .done)))))))))) [0, 1, 2, 3, 4, 5, 6, 7, 8] (fun W => Below W1.heap.size W1 W) (by kernel_rfl) (by kernel_rfl) (fun _ _ _ _ _ h => h) ((Below.refl _ _).drew) ?_
  refine pm_rdv 92 (.agg #[.int .i64 (dl : Int), .int .i64 (dg : Int)]) rfl rfl rfl (fun W hS => ?_) ?_
  · exact exec_load_mid 83 (.tmp 4) rfl (w.heap.size) 0 rfl [.int .i64 (dl : Int), .int .i64 (dg : Int)] _ (by have := (HD1.out.below hS).range; exact this) Try.underlying83 rfl size_sp83
  repeat (refine pm_pure rfl (fun K hK => ?_); go_simp; refine hK _ ?_; clear hK K)
  refine pm_rd (.int .i64 (sl : Int)) rfl rfl (fun W hS => ?_) (fun K hK => ?_)
  · have f0 := (Kp.of_below hS No).cell C2.out (fun e => e)
    simp [go_sem, f0]
  go_simp
  refine hK _ ?_
  clear hK K
  repeat (refine pm_pure rfl (fun K hK => ?_); go_simp; refine hK _ ?_; clear hK K)
  refine pm_rd (.int .i64 (sl : Int)) rfl rfl (fun W hS => ?_) (fun K hK => ?_)
  · have f0 := (Kp.of_below hS No).cell C2.out (fun e => e)
    simp [go_sem, f0]
  go_simp
  refine hK _ ?_
  clear hK K
  repeat (refine pm_pure rfl (fun K hK => ?_); go_simp; refine hK _ ?_; clear hK K)
  refine pm_eff rfl rfl (fun K hK => ?_)
  go_simp
  (with_reducible refine (HPW.out _).mono ?_)
  rintro e w1 ⟨rfl, rfl⟩
  refine hK _ _ (fun _ => (Below.refl _ _).drew) ?_
  clear hK K
  refine pm_eff rfl rfl (fun K hK => ?_)
  go_simp
  (with_reducible refine (HPW.out _).mono ?_)
  rintro e w1 ⟨rfl, rfl⟩
  refine hK _ _ (fun _ => (Below.refl _ _).drew) ?_
  clear hK K
  repeat (refine pm_pure rfl (fun K hK => ?_); go_simp; refine hK _ ?_; clear hK K)
  refine pm_eff rfl rfl (fun K hK => ?_)
  go_simp
  (with_reducible refine (HT.out _).mono ?_)
  rintro e w1 ⟨rfl, hb1⟩
  have hb2 : Below W1.heap.size W1 w1 := ((Below.refl _ _).drew).trans (hb1.mono (Nat.le_refl _))
  refine hK _ _ (fun _ => hb2) ?_
  clear hK K
  have HB2 := Lib.hid (HB1.out.trans (hb2.mono HB1.out.size))
  have HR2 := Lib.hid (HR1.out.below hb2)
  clear hb1 hb2
  obtain ⟨W3, HW3, HR3, HB3, HK3⟩ := fin_store (HB2.out) (HR2.out) (Nat.le_add_right _ _) [.int .i64 (rs.l : Int), .int .i64 (rs.g : Int)] rfl
  refine pm_eff rfl rfl (fun K hK => ?_)
  refine wp_store_mid 83 (.tmp 6) (.tmp 100) rfl (w.heap.size + 2) (0) #[.int .i64 (rs.l : Int), .int .i64 (rs.g : Int)] rfl rfl (there_blk (HR2.out)) (by kernel_rfl) (by simp [Value.oneCell']) ?_
  rw [← HW3.out]
  refine hK _ _ (fun h => by cases h) ?_
  clear hK K
  refine pm_done ?_
  refine NoPanic.normal ?_
  go_wp2
  exact bodyPost_ret (v := .agg #[.int .i64 (rs.l : Int), .int .i64 (rs.g : Int)]) (results_cell1_range Try.results35 _ _ (w.heap.size + 2) 0 [.int .i64 (rs.l : Int), .int .i64 (rs.g : Int)] _ rfl HR3.out Try.underlying83 rfl (by kernel_rfl)) rfl ⟨rfl, HB3.out⟩

set_option maxRecDepth 100000 in
set_option maxHeartbeats 1000000 in
theorem rmk13_ok (w : World) (dl dg sl sg : Nat) (h1 : dl ≤ dg) (h2 : dg ≤ 4294967295) (h3 : sl ≤ sg) (h4 : sg ≤ 4294967295) (h5 : sl ≤ 31) : Calls Try.prog 35 #[.int .i64 13, .agg #[.int .i64 (dl : Int), .int .i64 (dg : Int)], .agg #[.int .i64 (sl : Int), .int .i64 (sg : Int)]] w fun e w' => e = .returned (.agg #[.int .i64 ((Sp.mk (dl / 2 ^ sl) (dg / 2 ^ sl)).l : Int), .int .i64 ((Sp.mk (dl / 2 ^ sl) (dg / 2 ^ sl)).g : Int)]) ∧ Below w.heap.size w w' := by
  have k1 : (dl : Int) ≤ 4294967295 := by omega
  have k2 : (dg : Int) ≤ 4294967295 := by omega
  have k3 : (sl : Int) ≤ 4294967295 := by omega
  have k4 : (sg : Int) ≤ 4294967295 := by omega
  have hp1 : 2 ^ sl ≤ 2 ^ 31 := Nat.pow_le_pow_right (by omega) h5
  obtain ⟨pp, hpp⟩ : ∃ p, p = 2 ^ sl := ⟨_, rfl⟩
  have hp0 : 0 < pp := by rw [hpp]; exact Nat.two_pow_pos sl
  have hpb : pp ≤ 2147483648 := by rw [hpp]; omega
  have HPW : Hid (∀ W : World, Calls Try.prog 48 #[.int .i64 (sl : Int)] W fun e w' => e = .returned (.int .i64 (pp : Int)) ∧ w' = W) := Lib.hid (fun W => by rw [hpp]; exact refpower_ok W sl h5)
  rw [← hpp]
  clear hpp hp1
  obtain ⟨qa, hqa⟩ : ∃ q, q = dl / pp := ⟨_, rfl⟩
  obtain ⟨qb, hqb⟩ : ∃ q, q = dg / pp := ⟨_, rfl⟩
  show Calls _ _ _ _ (fun e w' => e = .returned (.agg #[.int .i64 ((dl / pp : Nat) : Int), .int .i64 ((dg / pp : Nat) : Int)]) ∧ Below w.heap.size w w')
  rw [← hqa, ← hqb]
  have HQA := Lib.hid hqa; have HQB := Lib.hid hqb; clear hqa hqb
  obtain ⟨W1, HW1, HB1, HD1, HS1, HR1⟩ := span3_world w dl dg sl sg
  have C0 : Hid (W1.cell? ⟨w.heap.size, 0, none⟩ = some (.int .i64 (dl : Int))) := Lib.hid (HD1.out.cell 0 (by omega))
  have C1 : Hid (W1.cell? ⟨w.heap.size, 1, none⟩ = some (.int .i64 (dg : Int))) := Lib.hid (HD1.out.cell 1 (by omega))
  have C2 : Hid (W1.cell? ⟨w.heap.size + 1, 0, none⟩ = some (.int .i64 (sl : Int))) := Lib.hid (HS1.out.cell 0 (by omega))
  have C3 : Hid (W1.cell? ⟨w.heap.size + 1, 1, none⟩ = some (.int .i64 (sg : Int))) := Lib.hid (HS1.out.cell 1 (by omega))
  go_enter Try.func35, Try.ntmps35
  go_upto_region 27 with fail
  rw [← HW1.out]
  refine wp_region_noPanic ?_
  refine planM (.rd 0 (.rd 1 (.rd 2 (.rd 3 (.rd 6 (.rd 7 (.rd 8 (.rd 9 (.eff 4 (.rd 5 (.eff 10 (.rd 11 (.rd 12 (.eff 13 .done)))))))))))))) [0, 1, 2, 3, 4, 5, 6, 7, 8, 9, 10, 11, 12] (fun W => Below W1.heap.size W1 W) (by kernel_rfl) (by kernel_rfl) (fun _ _ _ _ _ h => h) ((Below.refl _ _).drew) ?_
  repeat (refine pm_pure rfl (fun K hK => ?_); go_simp; refine hK _ ?_; clear hK K)
  refine pm_rd (.int .i64 (dl : Int)) rfl rfl (fun W hS => ?_) (fun K hK => ?_)
  · have f0 := (Kp.of_below hS No).cell C0.out (fun e => e)
    simp [go_sem, f0]
  go_simp
  refine hK _ ?_
  clear hK K
  repeat (refine pm_pure rfl (fun K hK => ?_); go_simp; refine hK _ ?_; clear hK K)
  refine pm_rd (.int .i64 (sl : Int)) rfl rfl (fun W hS => ?_) (fun K hK => ?_)
  · have f0 := (Kp.of_below hS No).cell C2.out (fun e => e)
    simp [go_sem, f0]
  go_simp
  refine hK _ ?_
  clear hK K
  repeat (refine pm_pure rfl (fun K hK => ?_); go_simp; refine hK _ ?_; clear hK K)
  refine pm_rd (.int .i64 (dg : Int)) rfl rfl (fun W hS => ?_) (fun K hK => ?_)
  · have f0 := (Kp.of_below hS No).cell C1.out (fun e => e)
    simp [go_sem, f0]
  go_simp
  refine hK _ ?_
  clear hK K
  repeat (refine pm_pure rfl (fun K hK => ?_); go_simp; refine hK _ ?_; clear hK K)
  refine pm_rd (.int .i64 (sl : Int)) rfl rfl (fun W hS => ?_) (fun K hK => ?_)
  · have f0 := (Kp.of_below hS No).cell C2.out (fun e => e)
    simp [go_sem, f0]
  go_simp
  refine hK _ ?_
  clear hK K
  repeat (refine pm_pure rfl (fun K hK => ?_); go_simp; refine hK _ ?_; clear hK K)
  refine pm_eff rfl rfl (fun K hK => ?_)
  go_simp
  (with_reducible refine (HPW.out _).mono ?_)
  rintro e w1 ⟨rfl, rfl⟩
  refine hK _ _ (fun _ => (Below.refl _ _).drew) ?_
  clear hK K
  refine pm_rdv 108 (.int .i64 (qa : Int)) rfl rfl rfl (fun W _ => exec_quo (.tmp 104) (.tmp 107) (dl : Int) (pp : Int) dl pp qa rfl rfl rfl rfl rfl HQA.out (by omega) (by omega)) ?_
  refine pm_eff rfl rfl (fun K hK => ?_)
  go_simp
  (with_reducible refine (HPW.out _).mono ?_)
  rintro e w1 ⟨rfl, rfl⟩
  refine hK _ _ (fun _ => (Below.refl _ _).drew) ?_
  clear hK K
  refine pm_rdv 114 (.int .i64 (qb : Int)) rfl rfl rfl (fun W _ => exec_quo (.tmp 110) (.tmp 113) (dg : Int) (pp : Int) dg pp qb rfl rfl rfl rfl rfl HQB.out (by omega) (by omega)) ?_
  repeat (refine pm_pure rfl (fun K hK => ?_); go_simp; refine hK _ ?_; clear hK K)
  obtain ⟨W3, HW3, HR3, HB3, HK3⟩ := fin_store (HB1.out.drew) (HR1.out) (Nat.le_add_right _ _) [.int .i64 (qa : Int), .int .i64 (qb : Int)] rfl
  refine pm_eff rfl rfl (fun K hK => ?_)
  refine wp_store_mid 83 (.tmp 6) (.tmp 115) rfl (w.heap.size + 2) (0) #[.int .i64 (qa : Int), .int .i64 (qb : Int)] rfl rfl (there_blk (HR1.out)) (by kernel_rfl) (by simp [Value.oneCell']) ?_
  rw [← HW3.out]
  refine hK _ _ (fun h => by cases h) ?_
  clear hK K
  refine pm_done ?_
  refine NoPanic.normal ?_
  go_wp2
  exact bodyPost_ret (v := .agg #[.int .i64 (qa : Int), .int .i64 (qb : Int)]) (results_cell1_range Try.results35 _ _ (w.heap.size + 2) 0 [.int .i64 (qa : Int), .int .i64 (qb : Int)] _ rfl HR3.out Try.underlying83 rfl (by kernel_rfl)) rfl ⟨rfl, HB3.out⟩

set_option maxRecDepth 100000 in
set_option maxHeartbeats 1000000 in
theorem rmk14_ok (w : World) (dl dg sl sg : Nat) (h1 : dl ≤ dg) (h2 : dg ≤ 4294967295) (h3 : sl ≤ sg) (h4 : sg ≤ 4294967295) (h5 : 0 < sl) : Calls Try.prog 35 #[.int .i64 14, .agg #[.int .i64 (dl : Int), .int .i64 (dg : Int)], .agg #[.int .i64 (sl : Int), .int .i64 (sg : Int)]] w fun e w' => e = .returned (.agg #[.int .i64 ((Sp.mk (dl / sg) (dg / sl)).l : Int), .int .i64 ((Sp.mk (dl / sg) (dg / sl)).g : Int)]) ∧ Below w.heap.size w w' := by
  have k1 : (dl : Int) ≤ 4294967295 := by omega
  have k2 : (dg : Int) ≤ 4294967295 := by omega
  have k3 : (sl : Int) ≤ 4294967295 := by omega
  have k4 : (sg : Int) ≤ 4294967295 := by omega
  obtain ⟨qa, hqa⟩ : ∃ q, q = dl / sg := ⟨_, rfl⟩
  obtain ⟨qb, hqb⟩ : ∃ q, q = dg / sl := ⟨_, rfl⟩
  show Calls _ _ _ _ (fun e w' => e = .returned (.agg #[.int .i64 ((dl / sg : Nat) : Int), .int .i64 ((dg / sl : Nat) : Int)]) ∧ Below w.heap.size w w')
  rw [← hqa, ← hqb]
  have HQA := Lib.hid hqa; have HQB := Lib.hid hqb; clear hqa hqb
  obtain ⟨W1, HW1, HB1, HD1, HS1, HR1⟩ := span3_world w dl dg sl sg
  have C0 : Hid (W1.cell? ⟨w.heap.size, 0, none⟩ = some (.int .i64 (dl : Int))) := Lib.hid (HD1.out.cell 0 (by omega))
  have C1 : Hid (W1.cell? ⟨w.heap.size, 1, none⟩ = some (.int .i64 (dg : Int))) := Lib.hid (HD1.out.cell 1 (by omega))
  have C2 : Hid (W1.cell? ⟨w.heap.size + 1, 0, none⟩ = some (.int .i64 (sl : Int))) := Lib.hid (HS1.out.cell 0 (by omega))
  have C3 : Hid (W1.cell? ⟨w.heap.size + 1, 1, none⟩ = some (.int .i64 (sg : Int))) := Lib.hid (HS1.out.cell 1 (by omega))
  go_enter Try.func35, Try.ntmps35
  go_upto_region 29 with fail
  rw [← HW1.out]
  refine wp_region_noPanic ?_
  refine planM (.rd 0 (.rd 1 (.rd 2 (.rd 3 (.rd 4 (.rd 5 (.rd 6 (.rd 7 (.rd 8 (.rd 9 (.rd 10 (.eff 11 .done)))))))))))) [0, 1, 2, 3, 4, 5, 6, 7, 8, 9, 10] (fun W => Below W1.heap.size W1 W) (by kernel_rfl) (by kernel_rfl) (fun _ _ _ _ _ h => h) ((Below.refl _ _).drew) ?_
  repeat (refine pm_pure rfl (fun K hK => ?_); go_simp; refine hK _ ?_; clear hK K)
  refine pm_rd (.int .i64 (dl : Int)) rfl rfl (fun W hS => ?_) (fun K hK => ?_)
  · have f0 := (Kp.of_below hS No).cell C0.out (fun e => e)
    simp [go_sem, f0]
  go_simp
  refine hK _ ?_
  clear hK K
  repeat (refine pm_pure rfl (fun K hK => ?_); go_simp; refine hK _ ?_; clear hK K)
  refine pm_rd (.int .i64 (sg : Int)) rfl rfl (fun W hS => ?_) (fun K hK => ?_)
  · have f0 := (Kp.of_below hS No).cell C3.out (fun e => e)
    simp [go_sem, f0]
  go_simp
  refine hK _ ?_
  clear hK K
  repeat (refine pm_pure rfl (fun K hK => ?_); go_simp; refine hK _ ?_; clear hK K)
  refine pm_rdv 122 (.int .i64 (qa : Int)) rfl rfl rfl (fun W _ => exec_quo (.tmp 119) (.tmp 121) (dl : Int) (sg : Int) dl sg qa rfl rfl rfl rfl rfl HQA.out (by omega) (by omega)) ?_
  repeat (refine pm_pure rfl (fun K hK => ?_); go_simp; refine hK _ ?_; clear hK K)
  refine pm_rd (.int .i64 (dg : Int)) rfl rfl (fun W hS => ?_) (fun K hK => ?_)
  · have f0 := (Kp.of_below hS No).cell C1.out (fun e => e)
    simp [go_sem, f0]
  go_simp
  refine hK _ ?_
  clear hK K
  repeat (refine pm_pure rfl (fun K hK => ?_); go_simp; refine hK _ ?_; clear hK K)
  refine pm_rd (.int .i64 (sl : Int)) rfl rfl (fun W hS => ?_) (fun K hK => ?_)
  · have f0 := (Kp.of_below hS No).cell C2.out (fun e => e)
    simp [go_sem, f0]
  go_simp
  refine hK _ ?_
  clear hK K
  repeat (refine pm_pure rfl (fun K hK => ?_); go_simp; refine hK _ ?_; clear hK K)
  refine pm_rdv 127 (.int .i64 (qb : Int)) rfl rfl rfl (fun W _ => exec_quo (.tmp 124) (.tmp 126) (dg : Int) (sl : Int) dg sl qb rfl rfl rfl rfl rfl HQB.out (by omega) (by omega)) ?_
  repeat (refine pm_pure rfl (fun K hK => ?_); go_simp; refine hK _ ?_; clear hK K)
  obtain ⟨W3, HW3, HR3, HB3, HK3⟩ := fin_store (HB1.out.drew) (HR1.out) (Nat.le_add_right _ _) [.int .i64 (qa : Int), .int .i64 (qb : Int)] rfl
  refine pm_eff rfl rfl (fun K hK => ?_)
  refine wp_store_mid 83 (.tmp 6) (.tmp 128) rfl (w.heap.size + 2) (0) #[.int .i64 (qa : Int), .int .i64 (qb : Int)] rfl rfl (there_blk (HR1.out)) (by kernel_rfl) (by simp [Value.oneCell']) ?_
  rw [← HW3.out]
  refine hK _ _ (fun h => by cases h) ?_
  clear hK K
  refine pm_done ?_
  refine NoPanic.normal ?_
  go_wp2
  exact bodyPost_ret (v := .agg #[.int .i64 (qa : Int), .int .i64 (qb : Int)]) (results_cell1_range Try.results35 _ _ (w.heap.size + 2) 0 [.int .i64 (qa : Int), .int .i64 (qb : Int)] _ rfl HR3.out Try.underlying83 rfl (by kernel_rfl)) rfl ⟨rfl, HB3.out⟩
end Go.Proofs.Ytjlddhnjbjhmkaa
