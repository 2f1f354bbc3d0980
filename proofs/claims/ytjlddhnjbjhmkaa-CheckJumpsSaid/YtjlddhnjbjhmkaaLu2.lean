/- Layer 6: what jumps make of two ranges. -/
import Derived.Test.YtjlddhnjbjhmkaaLu1
import Derived.BigQuiet
set_option linter.unusedVariables false
set_option linter.unusedSimpArgs false
namespace Go.Proofs.Ytjlddhnjbjhmkaa
open Go.RowKit

set_option maxRecDepth 100000 in
set_option maxHeartbeats 3000000 in
theorem jumps_in (w : World) (dl dg sl sg A B I : Nat) (hdg : dg < 4294967296) (hd : dl ≤ dg) (hsg : sg < 4294967296) (hs : sl ≤ sg) (hA : A < 4294967296) (hB : B < 4294967296) (hI : I < 4294967296) :
    Calls Try.prog 5 #[.agg #[.bool true, .int .u32 (dl : Int), .int .u32 (dg : Int)], .agg #[.bool true, .int .u32 (sl : Int), .int .u32 (sg : Int)], .agg #[.int .u32 (A : Int), .int .u32 (B : Int), .int .u32 (I : Int)]] w fun e w' => e = .returned (.bool true) ∧ Below w.heap.size w w' := by
  have HKN := Lib.hid lawknown_ok
  obtain ⟨a, ha⟩ : ∃ a, a = wordN ⟨true, dl, dg⟩ A := ⟨_, rfl⟩
  obtain ⟨b, hb⟩ : ∃ b, b = wordN ⟨true, sl, sg⟩ B := ⟨_, rfl⟩
  have had : dl ≤ a ∧ a ≤ dg := by rw [ha]; exact word_in ⟨true, dl, dg⟩ A hd
  have hbs : sl ≤ b ∧ b ≤ sg := by rw [hb]; exact word_in ⟨true, sl, sg⟩ B hs
  have HWA : Hid (∀ W : World, Calls Try.prog 16 #[.agg #[.bool true, .int .u32 (dl : Int), .int .u32 (dg : Int)], .int .u32 (A : Int)] W fun e w' => e = .returned (.int .u32 (a : Int)) ∧ Below W.heap.size W w') := Lib.hid (fun W => by rw [ha]; exact word_ok W ⟨true, dl, dg⟩ A hdg hd hA)
  have HWB : Hid (∀ W : World, Calls Try.prog 16 #[.agg #[.bool true, .int .u32 (sl : Int), .int .u32 (sg : Int)], .int .u32 (B : Int)] W fun e w' => e = .returned (.int .u32 (b : Int)) ∧ Below W.heap.size W w') := Lib.hid (fun W => by rw [hb]; exact word_ok W ⟨true, sl, sg⟩ B hsg hs hB)
  have HMY := Lib.hid (jumps_may I hI)
  have HRT0 := Lib.hid (two_right 3 4 dl dg sl sg hd hdg hs hsg)
  have HAD := Lib.hid had; have HBS := Lib.hid hbs
  clear ha hb had hbs
  have hn0 : ¬ (dg : Int) < (dl : Int) := by omega
  have hn1 : ¬ (sg : Int) < (sl : Int) := by omega
  go_enter Try.func5, Try.ntmps5
  go_upto_region 3 with fail
  have hD : Blk (w.alloc (.cells #[.bool true, .int .u32 (dl : Int), .int .u32 (dg : Int)] 37)) w.heap.size 37 3 (fun j => [.bool true, .int .u32 (dl : Int), .int .u32 (dg : Int)].getD j undef) := Blk.litL w 37 [.bool true, .int .u32 (dl : Int), .int .u32 (dg : Int)]
  obtain ⟨Wa, hWa⟩ : ∃ Wa, Wa = w.alloc (.cells #[.bool true, .int .u32 (dl : Int), .int .u32 (dg : Int)] 37) := ⟨_, rfl⟩
  have ba : Below w.heap.size w Wa := by rw [hWa]; exact (Below.refl _ _).alloc (Nat.le_refl _) _
  have za : Wa.heap.size = w.heap.size + 1 := by rw [hWa]; simp
  rw [← hWa] at hD ⊢
  have hS : Blk (Wa.alloc (.cells #[.bool true, .int .u32 (sl : Int), .int .u32 (sg : Int)] 37)) Wa.heap.size 37 3 (fun j => [.bool true, .int .u32 (sl : Int), .int .u32 (sg : Int)].getD j undef) := Blk.litL Wa 37 [.bool true, .int .u32 (sl : Int), .int .u32 (sg : Int)]
  obtain ⟨Wb, hWb⟩ : ∃ Wb, Wb = Wa.alloc (.cells #[.bool true, .int .u32 (sl : Int), .int .u32 (sg : Int)] 37) := ⟨_, rfl⟩
  have bb : Below Wa.heap.size Wa Wb := by rw [hWb]; exact (Below.refl _ _).alloc (Nat.le_refl _) _
  have zb : Wb.heap.size = w.heap.size + 1 + 1 := by rw [hWb]; simp [za]
  rw [← hWb] at hS ⊢
  have hX : Blk (Wb.alloc (.cells #[.int .u32 (A : Int), .int .u32 (B : Int), .int .u32 (I : Int)] 52)) Wb.heap.size 52 3 (fun j => [.int .u32 (A : Int), .int .u32 (B : Int), .int .u32 (I : Int)].getD j undef) := Blk.litL Wb 52 [.int .u32 (A : Int), .int .u32 (B : Int), .int .u32 (I : Int)]
  obtain ⟨W0, hW0⟩ : ∃ W0, W0 = Wb.alloc (.cells #[.int .u32 (A : Int), .int .u32 (B : Int), .int .u32 (I : Int)] 52) := ⟨_, rfl⟩
  have b0 : Below Wb.heap.size Wb W0 := by rw [hW0]; exact (Below.refl _ _).alloc (Nat.le_refl _) _
  rw [← hW0] at hX ⊢
  rw [za] at hS
  rw [zb] at hX
  have HD0 := Lib.hid ((hD.below bb).below b0)
  have HS0 := Lib.hid (hS.below b0)
  have HX0 := Lib.hid hX
  have HB0 := Lib.hid ((ba.trans (bb.mono ba.size)).trans (b0.mono (ba.trans (bb.mono ba.size)).size))
  clear hWa hWb hW0 ba za bb zb b0 hD hS hX
  have d0 : W0.cell? ⟨w.heap.size, 0, none⟩ = some (.bool true) := HD0.out.cell 0 (by simp)
  have d1 : W0.cell? ⟨w.heap.size, 1, none⟩ = some (.int .u32 (dl : Int)) := HD0.out.cell 1 (by simp)
  have d2 : W0.cell? ⟨w.heap.size, 2, none⟩ = some (.int .u32 (dg : Int)) := HD0.out.cell 2 (by simp)
  have x0 : W0.cell? ⟨w.heap.size + 1 + 1, 0, none⟩ = some (.int .u32 (A : Int)) := HX0.out.cell 0 (by simp)
  go_upto_region 4 with (go_at_call 16; (with_reducible refine (HWA.out _).mono ?_); rintro e' W1 ⟨rfl, hb1⟩; have HB1 := Lib.hid hb1; clear hb1)
  clear d0 d1 d2 x0
  have HS1 := Lib.hid (HS0.out.below HB1.out)
  have HX1 := Lib.hid (HX0.out.below HB1.out)
  have d0 : W1.cell? ⟨w.heap.size + 1, 0, none⟩ = some (.bool true) := HS1.out.cell 0 (by simp)
  have d1 : W1.cell? ⟨w.heap.size + 1, 1, none⟩ = some (.int .u32 (sl : Int)) := HS1.out.cell 1 (by simp)
  have d2 : W1.cell? ⟨w.heap.size + 1, 2, none⟩ = some (.int .u32 (sg : Int)) := HS1.out.cell 2 (by simp)
  have x0 : W1.cell? ⟨w.heap.size + 1 + 1, 1, none⟩ = some (.int .u32 (B : Int)) := HX1.out.cell 1 (by simp)
  go_upto_region 5 with (go_at_call 16; (with_reducible refine (HWB.out _).mono ?_); rintro e' W2 ⟨rfl, hb2⟩; have HB2 := Lib.hid hb2; clear hb2)
  clear d0 d1 d2 x0
  obtain ⟨Wk, hWk⟩ : ∃ Wk, Wk = W2 := ⟨_, rfl⟩
  rw [← hWk] at HB2 ⊢
  clear hWk
  have HBk := Lib.hid ((HB0.out.trans (HB1.out.mono HB0.out.size)).trans (HB2.out.mono (HB0.out.trans (HB1.out.mono HB0.out.size)).size))
  have HDk := Lib.hid ((HD0.out.below HB1.out).below HB2.out)
  have HSk := Lib.hid (HS1.out.below HB2.out)
  have HXk := Lib.hid (HX1.out.below HB2.out)
  refine wp_region_list ?_
  refine wpList_val0 (.agg (knL ⟨true, fun _ => rg0⟩).toArray) rfl (by kernel_rfl) ?_
  obtain ⟨kb, hkb⟩ : ∃ kb, kb = Wk.heap.size := ⟨_, rfl⟩
  refine wpList_value (w' := Wk.alloc (.cells #[.bool false, .bool false, .int .u32 0, .int .u32 0, .bool false, .int .u32 0, .int .u32 0, .bool false, .int .u32 0, .int .u32 0, .bool false, .int .u32 0, .int .u32 0, .bool false, .int .u32 0, .int .u32 0, .bool false, .int .u32 0, .int .u32 0, .bool false, .int .u32 0, .int .u32 0, .bool false, .int .u32 0, .int .u32 0, .bool false, .int .u32 0, .int .u32 0, .bool false, .int .u32 0, .int .u32 0] 42)) (.pointer (some ⟨kb, 0, none⟩)) rfl (by rw [hkb]; kernel_rfl) ?_
  have hk2 : Blk (Wk.alloc (.cells #[.bool false, .bool false, .int .u32 0, .int .u32 0, .bool false, .int .u32 0, .int .u32 0, .bool false, .int .u32 0, .int .u32 0, .bool false, .int .u32 0, .int .u32 0, .bool false, .int .u32 0, .int .u32 0, .bool false, .int .u32 0, .int .u32 0, .bool false, .int .u32 0, .int .u32 0, .bool false, .int .u32 0, .int .u32 0, .bool false, .int .u32 0, .int .u32 0, .bool false, .int .u32 0, .int .u32 0] 42)) kb 42 31 (knF kn0) := by rw [hkb]; exact zkB Wk _ rfl
  have hb2 : Below Wk.heap.size Wk (Wk.alloc (.cells #[.bool false, .bool false, .int .u32 0, .int .u32 0, .bool false, .int .u32 0, .int .u32 0, .bool false, .int .u32 0, .int .u32 0, .bool false, .int .u32 0, .int .u32 0, .bool false, .int .u32 0, .int .u32 0, .bool false, .int .u32 0, .int .u32 0, .bool false, .int .u32 0, .int .u32 0, .bool false, .int .u32 0, .int .u32 0, .bool false, .int .u32 0, .int .u32 0, .bool false, .int .u32 0, .int .u32 0] 42)) := (Below.refl _ _).alloc (Nat.le_refl _) _
  obtain ⟨W2, hW2⟩ : ∃ W2, W2 = Wk.alloc (.cells #[.bool false, .bool false, .int .u32 0, .int .u32 0, .bool false, .int .u32 0, .int .u32 0, .bool false, .int .u32 0, .int .u32 0, .bool false, .int .u32 0, .int .u32 0, .bool false, .int .u32 0, .int .u32 0, .bool false, .int .u32 0, .int .u32 0, .bool false, .int .u32 0, .int .u32 0, .bool false, .int .u32 0, .int .u32 0, .bool false, .int .u32 0, .int .u32 0, .bool false, .int .u32 0, .int .u32 0] 42) := ⟨_, rfl⟩
  rw [← hW2] at hk2 hb2 ⊢
  clear hW2
  refine wpList_store_mid rfl 42 (.tmp 9) (.tmp 49) (by kernel_rfl) kb 0 (knL ⟨true, fun _ => rg0⟩).toArray (by kernel_rfl) (by kernel_rfl) (by rw [knA_size]; exact there_blk hk2) (by rw [knA_size]; exact info_kn) (knL_one _) ?_
  have hk3 : Blk (W2.setCells kb 0 (knL ⟨true, fun _ => rg0⟩).toArray.toList) kb 42 31 (knF ⟨true, fun _ => rg0⟩) := by rw [knL_tl]; exact hk2.fill _
  have hkq : Kp (fun b => b = kb) W2 (W2.setCells kb 0 (knL ⟨true, fun _ => rg0⟩).toArray.toList) := Kp.setCells (M := fun b => b = kb) (.inl rfl) _ _ _ (Kp.refl _ _)
  obtain ⟨W3, hW3⟩ : ∃ W3, W3 = W2.setCells kb 0 (knL ⟨true, fun _ => rg0⟩).toArray.toList := ⟨_, rfl⟩
  have hb3 : Below Wk.heap.size Wk W3 := by rw [hW3]; exact (Kp.setCells (w := Wk) (b := kb) (.inr (by omega)) _ _ _ (Kp.of_below hb2 No)).below
  rw [← hW3] at hk3 hkq ⊢
  have HB3a := Lib.hid hb3
  have HK3 := Lib.hid hk3
  have HKW : Hid (kb = Wk.heap.size) := Lib.hid hkb
  clear hW3 hkq hb3 hk3 hk2 hb2 hkb
  have hxk : w.heap.size + 1 + 1 < kb := by have := Blk.lt HXk.out; have := HKW.out; omega
  have HD3 := Lib.hid (HDk.out.below HB3a.out)
  have HS3 := Lib.hid (HSk.out.below HB3a.out)
  have HX3 := Lib.hid (HXk.out.below HB3a.out)
  have HB3 := Lib.hid (HBk.out.trans (HB3a.out.mono HBk.out.size))
  go_upto_region 6 with fail
  obtain ⟨We, hWe⟩ : ∃ We, We = W3.drew := ⟨_, rfl⟩
  have hbe : Below W3.heap.size W3 We := by rw [hWe]; exact (Below.refl _ _).drew
  have hke : Kp (fun b => b = kb) W3 We := by rw [hWe]; exact (Kp.refl _ _).drew
  refine planM (.rd 0 (.rd 1 (.rd 2 (.rd 3 (.rd 5 (.eff 4 (.rd 6 (.eff 7 .done)))))))) [0, 1, 2, 3, 4, 5, 6, 7] (fun W => Kp (fun b => b = kb) W3 W) (by kernel_rfl) (by kernel_rfl) (fun c a d v w h => by cases d <;> exact h) (by rw [← hWe]; exact hke) ?_
  rw [← hWe]
  clear hWe
  refine pm_rdv 50 (.agg #[.bool true, .int .u32 (dl : Int), .int .u32 (dg : Int)]) rfl rfl rfl (fun W hS => exec_load_mid 37 (.tmp 3) rfl w.heap.size 0 (by kernel_rfl) [.bool true, .int .u32 (dl : Int), .int .u32 (dg : Int)] _ (rg_kept (blk_rg HD3.out) hS (by show ¬ _ = kb; omega)) Try.underlying37 rfl (by kernel_rfl)) ?_
  refine pm_rdv 51 (.agg #[.bool true, .int .u32 (sl : Int), .int .u32 (sg : Int)]) rfl rfl rfl (fun W hS => exec_load_mid 37 (.tmp 4) rfl (w.heap.size + 1) 0 (by kernel_rfl) [.bool true, .int .u32 (sl : Int), .int .u32 (sg : Int)] _ (rg_kept (blk_rg HS3.out) hS (by show ¬ _ = kb; omega)) Try.underlying37 rfl (by kernel_rfl)) ?_
  refine pm_rdv 52 (.pointer (some ⟨kb, 1, none⟩)) rfl rfl rfl (fun W hS => by kernel_rfl) ?_
  refine pm_rdv 53 (.pointer (some ⟨kb, 1 + 3 * 3, none⟩)) rfl rfl rfl (fun W hS => by kernel_rfl) ?_
  refine pm_rdv 54 (.pointer (some ⟨kb, 1, none⟩)) rfl rfl rfl (fun W hS => by kernel_rfl) ?_
  have HKe := Lib.hid (HK3.out.below hbe)
  refine pm_store rfl rfl rfl 37 (.tmp 53) (.tmp 50) rfl kb (1 + 3 * 3) #[.bool true, .int .u32 (dl : Int), .int .u32 (dg : Int)] (by kernel_rfl) (by kernel_rfl) (there_mid HKe.out (1 + 3 * 3) 3 (by omega)) (by kernel_rfl) (by simp [Value.oneCell']) (fun _ => Kp.setCells (M := fun b => b = kb) (.inl rfl) _ _ _ hke) ?_
  refine pm_rdv 55 (.pointer (some ⟨kb, 1 + 4 * 3, none⟩)) rfl rfl rfl (fun W hS => by kernel_rfl) ?_
  refine pm_store rfl rfl rfl 37 (.tmp 55) (.tmp 51) rfl kb (1 + 4 * 3) #[.bool true, .int .u32 (sl : Int), .int .u32 (sg : Int)] (by kernel_rfl) (by kernel_rfl) (there_mid (HKe.out.setr 3 ⟨true, dl, dg⟩) (1 + 4 * 3) 3 (by omega)) (by kernel_rfl) (by simp [Value.oneCell']) (fun _ => Kp.setCells (M := fun b => b = kb) (.inl rfl) _ _ _ (Kp.setCells (M := fun b => b = kb) (.inl rfl) _ _ _ hke)) ?_
  have hk4 := (HKe.out.setr 3 ⟨true, dl, dg⟩).setr 4 ⟨true, sl, sg⟩
  obtain ⟨W4, hW4⟩ : ∃ W4, W4 = (We.setCells kb (1 + 3 * 3) [.bool true, .int .u32 (dl : Int), .int .u32 (dg : Int)]).setCells kb (1 + 4 * 3) [.bool true, .int .u32 (sl : Int), .int .u32 (sg : Int)] := ⟨_, rfl⟩
  have hkp : Kp (fun b => b = kb) W3 W4 := by rw [hW4]; exact Kp.setCells (M := fun b => b = kb) (.inl rfl) _ _ _ (Kp.setCells (M := fun b => b = kb) (.inl rfl) _ _ _ hke)
  have hk4' : Blk W4 kb 42 31 (knF ⟨true, upd (upd (fun _ => rg0) 3 ⟨true, dl, dg⟩) 4 ⟨true, sl, sg⟩⟩) := by rw [hW4]; exact hk4
  show wpPlanM _ _ _ _ _ _ _ _ ((We.setCells kb (1 + 3 * 3) [.bool true, .int .u32 (dl : Int), .int .u32 (dg : Int)]).setCells kb (1 + 4 * 3) [.bool true, .int .u32 (sl : Int), .int .u32 (sg : Int)])
  rw [← hW4]
  clear hW4 hk4
  refine pm_done ?_
  obtain ⟨kk, hkk⟩ : ∃ kk : Kn, kk = ⟨true, upd (upd (fun _ => rg0) 3 ⟨true, dl, dg⟩) 4 ⟨true, sl, sg⟩⟩ := ⟨_, rfl⟩
  rw [← hkk] at hk4'
  have HRT : Hid kk.right := Lib.hid (by rw [hkk]; exact HRT0.out)
  have HKK := Lib.hid hkk
  have HK4 := Lib.hid hk4'
  clear hk4' hkk hke hbe
  have HX4 := Lib.hid (HX3.out.keep hkp (by show ¬ _ = kb; omega))
  have HB4 : Hid (Below w.heap.size w W4) := Lib.hid (Kp.below_of HB3.out hkp (by omega))
  clear hkp
  have x2 : W4.cell? ⟨w.heap.size + 1 + 1, 2, none⟩ = some (.int .u32 (I : Int)) := HX4.out.cell 2 (by simp)
  have hzx : w.heap.size + 1 + 1 < W4.heap.size := Blk.lt HX4.out
  go_upto_region 9 with fail
  clear x2 hzx
  have hi5 : Blk (W4.alloc (.cells #[.int .i64 20, .int .i64 3, .int .i64 0, .int .i64 1, .int .u32 (I : Int), .int .i64 21, .int .i64 3, .int .i64 0, .int .i64 1, .int .u32 (I : Int), .int .i64 22, .int .i64 3, .int .i64 4, .int .i64 1, .int .u32 0, .int .i64 22, .int .i64 3, .int .i64 3, .int .i64 1, .int .u32 0] 45)) W4.heap.size 45 20 (fun j => [.int .i64 20, .int .i64 3, .int .i64 0, .int .i64 1, .int .u32 (I : Int), .int .i64 21, .int .i64 3, .int .i64 0, .int .i64 1, .int .u32 (I : Int), .int .i64 22, .int .i64 3, .int .i64 4, .int .i64 1, .int .u32 0, .int .i64 22, .int .i64 3, .int .i64 3, .int .i64 1, .int .u32 0].getD j undef) := Blk.litL W4 45 [.int .i64 20, .int .i64 3, .int .i64 0, .int .i64 1, .int .u32 (I : Int), .int .i64 21, .int .i64 3, .int .i64 0, .int .i64 1, .int .u32 (I : Int), .int .i64 22, .int .i64 3, .int .i64 4, .int .i64 1, .int .u32 0, .int .i64 22, .int .i64 3, .int .i64 3, .int .i64 1, .int .u32 0]
  obtain ⟨W5, hW5⟩ : ∃ W5, W5 = W4.alloc (.cells #[.int .i64 20, .int .i64 3, .int .i64 0, .int .i64 1, .int .u32 (I : Int), .int .i64 21, .int .i64 3, .int .i64 0, .int .i64 1, .int .u32 (I : Int), .int .i64 22, .int .i64 3, .int .i64 4, .int .i64 1, .int .u32 0, .int .i64 22, .int .i64 3, .int .i64 3, .int .i64 1, .int .u32 0] 45) := ⟨_, rfl⟩
  have hb5 : Below W4.heap.size W4 W5 := by rw [hW5]; exact (Below.refl _ _).alloc (Nat.le_refl _) _
  have hz5 : W5.heap.size = W4.heap.size + 1 := by rw [hW5]; simp
  rw [← hW5] at hi5 ⊢
  have hs6 : Blk (W5.alloc (.cells #[.bool ((a : Int) == (I : Int)), .bool (decide (a < I)), .bool (decide (a < b)), .bool false] 4)) W5.heap.size 4 4 (fun j => [.bool ((a : Int) == (I : Int)), .bool (decide (a < I)), .bool (decide (a < b)), .bool false].getD j undef) := Blk.litL W5 4 [.bool ((a : Int) == (I : Int)), .bool (decide (a < I)), .bool (decide (a < b)), .bool false]
  obtain ⟨Wp, hWp⟩ : ∃ Wp, Wp = W5.alloc (.cells #[.bool ((a : Int) == (I : Int)), .bool (decide (a < I)), .bool (decide (a < b)), .bool false] 4) := ⟨_, rfl⟩
  have hb6 : Below W5.heap.size W5 Wp := by rw [hWp]; exact (Below.refl _ _).alloc (Nat.le_refl _) _
  rw [← hWp, hz5] at hs6
  rw [← hWp]
  have HIp := Lib.hid (hi5.below hb6)
  have HSp := Lib.hid hs6
  have HKp := Lib.hid ((HK4.out.below hb5).below hb6)
  have HBp := Lib.hid ((HB4.out.trans (hb5.mono HB4.out.size)).trans (hb6.mono (HB4.out.trans (hb5.mono HB4.out.size)).size))
  obtain ⟨ib, hib⟩ : ∃ ib, ib = W4.heap.size := ⟨_, rfl⟩
  rw [← hib] at HIp HSp ⊢
  clear hW5 hWp hi5 hs6 hb5 hb6 hz5 hib
  go_wp2
  go_loopw [12] (fun iv wr => ∃ n : Nat, n ≤ 4 ∧ iv = .int .i64 (n : Int) ∧ Below Wp.heap.size Wp wr) (fun iv _ => 4 - (intOf iv).toNat)
  case atStart => exact ⟨0, by omega, rfl, Below.refl _ _⟩
  case round =>
    obtain ⟨n, hn, rfl, hbr⟩ := hrel
    have HBR := Lib.hid hbr; clear hbr
    have hn4 : n = 0 ∨ n = 1 ∨ n = 2 ∨ n = 3 ∨ n = 4 := by omega
    rcases hn4 with rfl | rfl | rfl | rfl | rfl
    · obtain ⟨nx, jx, ev, hbv, hbb⟩ := bh_cases 0 ⟨20, 3, 0, 1, I⟩ kk
      have HPL := Lib.hid (jumps_b dl dg sl sg a b I 20 0 (decide (a = I)) I HAD.out HBS.out (.inl ⟨rfl, rfl, rfl, rfl⟩) (by have := hbb; rw [HKK.out] at this; exact this))
      have hbk : ∀ W, Calls Try.prog 18 #[.agg #[.int .i64 20, .int .i64 3, .int .i64 0, .int .i64 1, .int .u32 (I : Int)], .int .i64 0, .agg (knL kk).toArray] W fun e w' => e = .returned (.tuple #[.agg (knL nx).toArray, .agg (knL jx).toArray, .int .i64 (ev : Int)]) ∧ Below W.heap.size W w' := fun W => by
        have := behind_ok W ⟨20, 3, 0, 1, I⟩ 0 kk HMY.out.1 HRT.out (by omega)
        rw [hbv] at this
        exact this
      have HBK := Lib.hid hbk
      clear hbk hbb hbv
      obtain ⟨tk, htk⟩ : ∃ tk : Bool, tk = (decide (a = I)) := ⟨_, rfl⟩
      rw [← htk] at HPL
      have htv : Value.bool ((a : Int) == (I : Int)) = .bool tk := by rw [htk]; by_cases q : a = I <;> simp [q] <;> omega
      have HTV := Lib.hid htv
      clear htk htv
      go_upto_region 12 with fail

      obtain ⟨Wd, hWd⟩ : ∃ Wd, Wd = wr.drew := ⟨_, rfl⟩
      have hbd : Below wr.heap.size wr Wd := by rw [hWd]; exact (Below.refl _ _).drew
      have hzd : Wd.heap.size = wr.heap.size := by rw [hWd]; rfl
      refine wp_region_noPanic ?_
      refine planM (.rd 0 (.rd 1 (.rd 2 (.rd 3 (.rd 4 (.many [(5, some 89), (6, some 83), (7, some 90), (8, some 91), (9, some 92), (10, some 13), (11, some 14), (12, none), (13, none)] (.rd 14 .done))))))) [0, 1, 2, 3, 4, 5, 6, 7, 8, 9, 10, 11, 12, 13] (fun W => Below wr.heap.size wr W) (by kernel_rfl) (by kernel_rfl) (fun _ _ _ _ _ h => h) (by rw [← hWd]; exact hbd) ?_
      rw [← hWd]
      clear hWd
      have HBD := Lib.hid hbd; have HZD := Lib.hid hzd; clear hbd hzd
      refine pm_pure rfl (fun K hK => ?_); go_simp; refine hK _ ?_; clear hK K
      refine pm_pure rfl (fun K hK => ?_); go_simp; refine hK _ ?_; clear hK K
      refine pm_pure rfl (fun K hK => ?_); go_simp; refine hK _ ?_; clear hK K
      refine pm_rdv 87 (.agg #[.int .i64 20, .int .i64 3, .int .i64 0, .int .i64 1, .int .u32 (I : Int)]) rfl rfl rfl (fun W hS => exec_load_mid 45 (.tmp 86) rfl ib 0 (by kernel_rfl) [.int .i64 20, .int .i64 3, .int .i64 0, .int .i64 1, .int .u32 (I : Int)] _ (by have := ((HIp.out.below (HBR.out.trans (hS.mono HBR.out.size))).rangeAt 0 5 (by omega)); exact this) Try.underlying45 rfl size_ins) ?_
      refine pm_rdv 88 (.agg (knL kk).toArray) rfl rfl rfl (fun W hS => exec_load_mid 42 (.tmp 9) rfl kb 0 (by kernel_rfl) (knL kk) _ (by have := ((HKp.out.below (HBR.out.trans (hS.mono HBR.out.size)))).range; exact this) Try.underlying42 rfl (by rw [knL_length]; exact info_kn)) ?_
      refine pm_manyW (fun l v W => KJ 2 wr.heap.size (.tuple #[.agg (knL nx).toArray, .agg (knL jx).toArray, .int .i64 (ev : Int)]) (.agg (knL nx).toArray) (.agg (knL jx).toArray) (.int .i64 (ev : Int)) nx jx l v W) (KJ.zero _ _ _ _ _ _ _ _ _) ?_ ?_
      · intro q hq l v w1 hS hb hl hn hJ
        have E : ∀ (t : Nat) (a : Act), (∀ k, k ∈ [(5, some 89), (6, some 83), (7, some 90), (8, some 91), (9, some 92), (10, some 13), (11, some 14), (12, none), (13, none)] → k.2 ≠ some t) → (putM v l [(5, some 89), (6, some 83), (7, some 90), (8, some 91), (9, some 92), (10, some 13), (11, some 14), (12, none), (13, none)] a).tmps[t]?.getD undef = a.tmps[t]?.getD undef := fun t a h => by simpa [Array.getD_eq_getD_getElem?] using putM_eval_other (v := v) (l := l) t [(5, some 89), (6, some 83), (7, some 90), (8, some 91), (9, some 92), (10, some 13), (11, some 14), (12, none), (13, none)] a h
        have F : ∀ (k t : Nat) (a : Act), (k, some t) ∈ [(5, some 89), (6, some 83), (7, some 90), (8, some 91), (9, some 92), (10, some 13), (11, some 14), (12, none), (13, none)] → l k = true → t < a.tmps.size → (putM v l [(5, some 89), (6, some 83), (7, some 90), (8, some 91), (9, some 92), (10, some 13), (11, some 14), (12, none), (13, none)] a).tmps[t]?.getD undef = v k := fun k t a h1 h2 h3 => by simpa [Array.getD_eq_getD_getElem?] using putM_eval_at (v := v) (l := l) t [(5, some 89), (6, some 83), (7, some 90), (8, some 91), (9, some 92), (10, some 13), (11, some 14), (12, none), (13, none)] a k (by kernel_rfl) h1 h2 h3
        simp only [List.mem_cons, List.not_mem_nil, or_false] at hq
        rcases hq with rfl | rfl | rfl | rfl | rfl | rfl | rfl | rfl | rfl
        · refine pm_one rfl rfl (fun K' hK => ?_)
          refine wp_calls_ret (f := 18) (args := #[.agg #[.int .i64 20, .int .i64 3, .int .i64 0, .int .i64 1, .int .u32 (I : Int)], .int .i64 0, .agg (knL kk).toArray]) ?_ (HBK.out w1) (fun w3 hb3 => ?_)
          · simp [execOp, go_sem]
            exact ⟨(E 87 _ (by simp)).trans rfl, (E 88 _ (by simp)).trans rfl⟩
          exact hK _ _ ⟨_, rfl, Below.trans hS (hb3.mono hS.size), Below.trans hb (hb3.mono hb.size), hJ.up hb3 5 (by omega) _ (.inl ⟨rfl, rfl⟩)⟩
        · have l7 : l 5 = true := hn (5, some 89) (by simp) (by kernel_rfl)
          refine pm_one rfl rfl (fun K' hK => ?_)
          refine wp_value (w' := w1) _ (exec_mv 89 rfl _ ((F 5 89 _ (by simp) l7 (by simp [Act.put])).trans (hJ.a7 5 rfl l7))) ?_
          exact hK _ _ ⟨_, rfl, hS, hb, hJ.up (Below.refl _ _) 6 (by omega) _ (.inr (.inl ⟨rfl, rfl⟩))⟩
        · have l8 : l 6 = true := hn (6, some 83) (by simp) (by kernel_rfl)
          refine pm_one rfl rfl (fun K' hK => ?_)
          refine wp_value (w' := w1) (.agg (knL nx).toArray) (exec_extract 83 0 rfl _ _ ((F 6 83 _ (by simp) l8 (by simp [Act.put])).trans (hJ.a8 6 rfl l8)) rfl) ?_
          exact hK _ _ ⟨_, rfl, hS, hb, hJ.up (Below.refl _ _) 7 (by omega) _ (.inr (.inr (.inl ⟨rfl, rfl⟩)))⟩
        · have l8 : l 6 = true := hn (6, some 83) (by simp) (by kernel_rfl)
          refine pm_one rfl rfl (fun K' hK => ?_)
          refine wp_value (w' := w1) (.agg (knL jx).toArray) (exec_extract 83 1 rfl _ _ ((F 6 83 _ (by simp) l8 (by simp [Act.put])).trans (hJ.a8 6 rfl l8)) rfl) ?_
          exact hK _ _ ⟨_, rfl, hS, hb, hJ.up (Below.refl _ _) 8 (by omega) _ (.inr (.inr (.inr (.inl ⟨rfl, rfl⟩))))⟩
        · have l8 : l 6 = true := hn (6, some 83) (by simp) (by kernel_rfl)
          refine pm_one rfl rfl (fun K' hK => ?_)
          refine wp_value (w' := w1) (.int .i64 (ev : Int)) (exec_extract 83 2 rfl _ _ ((F 6 83 _ (by simp) l8 (by simp [Act.put])).trans (hJ.a8 6 rfl l8)) rfl) ?_
          exact hK _ _ ⟨_, rfl, hS, hb, hJ.up (Below.refl _ _) 9 (by omega) _ (.inr (.inr (.inr (.inr ⟨rfl, rfl⟩))))⟩
        · refine pm_one rfl rfl (fun K' hK => ?_)
          refine wp_value (w' := w1.alloc (.cells #[.bool false, .bool false, .int .u32 0, .int .u32 0, .bool false, .int .u32 0, .int .u32 0, .bool false, .int .u32 0, .int .u32 0, .bool false, .int .u32 0, .int .u32 0, .bool false, .int .u32 0, .int .u32 0, .bool false, .int .u32 0, .int .u32 0, .bool false, .int .u32 0, .int .u32 0, .bool false, .int .u32 0, .int .u32 0, .bool false, .int .u32 0, .int .u32 0, .bool false, .int .u32 0, .int .u32 0] 42)) (.pointer (some ⟨w1.heap.size, 0, none⟩)) (by kernel_rfl) ?_
          have hb3 : Below w1.heap.size w1 (w1.alloc (.cells #[.bool false, .bool false, .int .u32 0, .int .u32 0, .bool false, .int .u32 0, .int .u32 0, .bool false, .int .u32 0, .int .u32 0, .bool false, .int .u32 0, .int .u32 0, .bool false, .int .u32 0, .int .u32 0, .bool false, .int .u32 0, .int .u32 0, .bool false, .int .u32 0, .int .u32 0, .bool false, .int .u32 0, .int .u32 0, .bool false, .int .u32 0, .int .u32 0, .bool false, .int .u32 0, .int .u32 0] 42)) := (Below.refl _ _).alloc (Nat.le_refl _) _
          exact hK _ _ ⟨_, rfl, Below.trans hS (hb3.mono hS.size), Below.trans hb (hb3.mono hb.size), hJ.al12 10 (by omega) rfl hl hS.size _ rfl⟩
        · refine pm_one rfl rfl (fun K' hK => ?_)
          refine wp_value (w' := w1.alloc (.cells #[.bool false, .bool false, .int .u32 0, .int .u32 0, .bool false, .int .u32 0, .int .u32 0, .bool false, .int .u32 0, .int .u32 0, .bool false, .int .u32 0, .int .u32 0, .bool false, .int .u32 0, .int .u32 0, .bool false, .int .u32 0, .int .u32 0, .bool false, .int .u32 0, .int .u32 0, .bool false, .int .u32 0, .int .u32 0, .bool false, .int .u32 0, .int .u32 0, .bool false, .int .u32 0, .int .u32 0] 42)) (.pointer (some ⟨w1.heap.size, 0, none⟩)) (by kernel_rfl) ?_
          have hb3 : Below w1.heap.size w1 (w1.alloc (.cells #[.bool false, .bool false, .int .u32 0, .int .u32 0, .bool false, .int .u32 0, .int .u32 0, .bool false, .int .u32 0, .int .u32 0, .bool false, .int .u32 0, .int .u32 0, .bool false, .int .u32 0, .int .u32 0, .bool false, .int .u32 0, .int .u32 0, .bool false, .int .u32 0, .int .u32 0, .bool false, .int .u32 0, .int .u32 0, .bool false, .int .u32 0, .int .u32 0, .bool false, .int .u32 0, .int .u32 0] 42)) := (Below.refl _ _).alloc (Nat.le_refl _) _
          exact hK _ _ ⟨_, rfl, Below.trans hS (hb3.mono hS.size), Below.trans hb (hb3.mono hb.size), hJ.al13 11 (by omega) rfl hl hS.size _ rfl⟩
        · have l9 : l 7 = true := hn (7, some 90) (by simp) (by kernel_rfl)
          have l12 : l 10 = true := hn (10, some 13) (by simp) (by kernel_rfl)
          obtain ⟨b, hv, hzb, hB⟩ := hJ.a12 10 rfl l12
          refine pm_one rfl rfl (fun K' hK => ?_)
          refine wp_store_mid 42 (.tmp 13) (.tmp 90) rfl b 0 (knL nx).toArray (ev_tmp ((F 10 13 _ (by simp) l12 (by simp [Act.put])).trans hv)) (ev_tmp ((F 7 90 _ (by simp) l9 (by simp [Act.put])).trans (hJ.a9 7 rfl l9))) (by rw [knA_size]; exact there_blk hB) (by rw [knA_size]; exact info_kn) (knL_one _) ?_
          rw [knL_tl]
          exact hK _ _ ⟨undef, rfl, (Kp.setCells (w := wr) (b := b) (.inr hzb) _ _ _ (Kp.of_below hS No)).below, (Kp.setCells (w := Wd) (b := b) (.inr (by rw [HZD.out]; exact hzb)) _ _ _ (Kp.of_below hb No)).below, hJ.st14 12 (by omega) rfl l12 hv _⟩
        · have l9 : l 8 = true := hn (8, some 91) (by simp) (by kernel_rfl)
          have l12 : l 11 = true := hn (11, some 14) (by simp) (by kernel_rfl)
          obtain ⟨b, hv, hzb, hB⟩ := hJ.a13 11 rfl l12
          refine pm_one rfl rfl (fun K' hK => ?_)
          refine wp_store_mid 42 (.tmp 14) (.tmp 91) rfl b 0 (knL jx).toArray (ev_tmp ((F 11 14 _ (by simp) l12 (by simp [Act.put])).trans hv)) (ev_tmp ((F 8 91 _ (by simp) l9 (by simp [Act.put])).trans (hJ.a10 8 rfl l9))) (by rw [knA_size]; exact there_blk hB) (by rw [knA_size]; exact info_kn) (knL_one _) ?_
          rw [knL_tl]
          exact hK _ _ ⟨undef, rfl, (Kp.setCells (w := wr) (b := b) (.inr hzb) _ _ _ (Kp.of_below hS No)).below, (Kp.setCells (w := Wd) (b := b) (.inr (by rw [HZD.out]; exact hzb)) _ _ _ (Kp.of_below hb No)).below, hJ.st15 13 (by omega) rfl l12 hv _⟩
      · intro lq vq W7 hS hb hl hJ
        have l7 := hl (5, some 89) (by simp)
        have l14 := hl (12, none) (by simp)
        have l15 := hl (13, none) (by simp)
        obtain ⟨b7, v12, hz7, hB7⟩ := hJ.a12 10 rfl (hl (10, some 13) (by simp))
        obtain ⟨b8, v13, hz8, hB8⟩ := hJ.a13 11 rfl (hl (11, some 14) (by simp))
        rw [if_pos l14] at hB7
        rw [if_pos l15] at hB8
        have v7 := hJ.a7 5 rfl l7
        have v8 := hJ.a8 6 rfl (hl (6, some 83) (by simp))
        have v9 := hJ.a9 7 rfl (hl (7, some 90) (by simp))
        have v10 := hJ.a10 8 rfl (hl (8, some 91) (by simp))
        have v11 := hJ.a11 9 rfl (hl (9, some 92) (by simp))
        have hne := hJ.e 10 rfl (hl (10, some 13) (by simp)) (hl (11, some 14) (by simp))
        have hne7 : b7 ≠ b8 := fun e => hne (by rw [v12, v13, e])
        simp only [putM, if_true, v7, v8, v9, v10, v11, v12, v13]
        clear hJ v7 v8 v9 v10 v11 v12 v13 hl l7 l14 l15 hne
        have HS7 := Lib.hid hS
        have HN7 := Lib.hid hB7
        have HJ8 := Lib.hid hB8
        clear hS hb hB7 hB8
        repeat (refine pm_pure rfl (fun K hK => ?_); go_simp; refine hK _ ?_; clear hK K)
        refine pm_done ?_
        refine NoPanic.normal ?_
        have HB7 := Lib.hid (HBR.out.trans (HS7.out.mono HBR.out.size))
        have c3 : W7.cell? ⟨ib + 1, 0, none⟩ = some (.bool tk) := by have := (HSp.out.below HB7.out).cell 0 (by simp); exact this.trans (congrArg some HTV.out)
        cases tk
        · go_upto_region 14 with fail
          clear c3
          obtain ⟨Wj, hWj⟩ : ∃ Wj, Wj = W7 := ⟨_, rfl⟩
          have HP7 := HN7
          have HBj := HB7
          rw [← hWj] at HP7 HBj ⊢
          clear hWj

          go_upto_region 15 with fail
          obtain ⟨We, hWe⟩ : ∃ We, We = Wj.drew := ⟨_, rfl⟩
          have hbe : Below Wj.heap.size Wj We := by rw [hWe]; exact (Below.refl _ _).drew
          have hze : We.heap.size = Wj.heap.size := by rw [hWe]; rfl
          refine wp_region_noPanic ?_
          refine planM (.rd 0 (.rd 1 (.rd 2 (.rd 3 (.rd 4 (.rd 5 (.many [(6, some 16), (7, some 17)] (.eff 8 (.eff 9 .done))))))))) [0, 1, 2, 3, 4, 5, 6, 7, 8] (fun W => Below Wj.heap.size Wj W) (by kernel_rfl) (by kernel_rfl) (fun _ _ _ _ _ h => h) (by rw [← hWe]; exact hbe) ?_
          rw [← hWe]
          clear hWe
          have HBe := Lib.hid hbe; have HZe := Lib.hid hze; clear hbe hze
          refine pm_pure rfl (fun K hK => ?_); go_simp; refine hK _ ?_; clear hK K
          refine pm_pure rfl (fun K hK => ?_); go_simp; refine hK _ ?_; clear hK K
          refine pm_rdv 100 (.agg #[.bool (nx.r 3).s, .int .u32 ((nx.r 3).l : Int), .int .u32 ((nx.r 3).g : Int)]) rfl rfl rfl (fun W hS => exec_load_mid 37 (.tmp 99) rfl b7 (1 + 3 * 3) (by kernel_rfl) [.bool (nx.r 3).s, .int .u32 ((nx.r 3).l : Int), .int .u32 ((nx.r 3).g : Int)] _ (by have := ((HP7.out.below hS).rangeAt (1 + 3 * 3) 3 (by omega)); exact this) Try.underlying37 rfl (by kernel_rfl)) ?_
          refine pm_pure rfl (fun K hK => ?_); go_simp; refine hK _ ?_; clear hK K
          refine pm_pure rfl (fun K hK => ?_); go_simp; refine hK _ ?_; clear hK K
          refine pm_rdv 103 (.agg #[.bool (nx.r 4).s, .int .u32 ((nx.r 4).l : Int), .int .u32 ((nx.r 4).g : Int)]) rfl rfl rfl (fun W hS => exec_load_mid 37 (.tmp 102) rfl b7 (1 + 4 * 3) (by kernel_rfl) [.bool (nx.r 4).s, .int .u32 ((nx.r 4).l : Int), .int .u32 ((nx.r 4).g : Int)] _ (by have := ((HP7.out.below hS).rangeAt (1 + 4 * 3) 3 (by omega)); exact this) Try.underlying37 rfl (by kernel_rfl)) ?_
          refine pm_manyJ (fun lq vq W => AlJ Wj.heap.size 6 7 37 3 (fun j => [.bool false, .int .u32 0, .int .u32 0].getD j undef) lq vq W) (AlJ.zero _ _ _ _ _ _ _) ?_ ?_
          · intro q hq lq vq w1 hS hb hl hn hJ
            simp only [List.mem_cons, List.not_mem_nil, or_false] at hq
            rcases hq with rfl | rfl
            · refine pm_one rfl rfl (fun K' hK => ?_)
              refine wp_value (w' := w1.alloc (.cells #[.bool false, .int .u32 0, .int .u32 0] 37)) (.pointer (some ⟨w1.heap.size, 0, none⟩)) (by kernel_rfl) ?_
              have hb3 : Below w1.heap.size w1 (w1.alloc (.cells #[.bool false, .int .u32 0, .int .u32 0] 37)) := (Below.refl _ _).alloc (Nat.le_refl _) _
              exact hK _ _ ⟨_, rfl, Below.trans hS (hb3.mono hS.size), hb3, hJ.up1 (by omega) hS.size [.bool false, .int .u32 0, .int .u32 0] rfl rfl⟩
            · refine pm_one rfl rfl (fun K' hK => ?_)
              refine wp_value (w' := w1.alloc (.cells #[.bool false, .int .u32 0, .int .u32 0] 37)) (.pointer (some ⟨w1.heap.size, 0, none⟩)) (by kernel_rfl) ?_
              have hb3 : Below w1.heap.size w1 (w1.alloc (.cells #[.bool false, .int .u32 0, .int .u32 0] 37)) := (Below.refl _ _).alloc (Nat.le_refl _) _
              exact hK _ _ ⟨_, rfl, Below.trans hS (hb3.mono hS.size), hb3, hJ.up2 (by omega) hS.size [.bool false, .int .u32 0, .int .u32 0] rfl rfl⟩
          · intro lq vq W8 hS hb hl hJ
            obtain ⟨b16, v16, hz16, hB16⟩ := hJ.a (hl (6, some 16) (by simp))
            obtain ⟨b17, v17, hz17, hB17⟩ := hJ.b (hl (7, some 17) (by simp))
            have hne := hJ.e (hl (6, some 16) (by simp)) (hl (7, some 17) (by simp))
            have hne2 : b16 ≠ b17 := fun e => hne (by rw [v16, v17, e])
            simp only [putM, if_true, v16, v17]
            clear hJ v16 v17 hl hne
            have hkA : Kp (fun k => k = b16) W8 (W8.setCells b16 0 [.bool (nx.r 3).s, .int .u32 ((nx.r 3).l : Int), .int .u32 ((nx.r 3).g : Int)]) := Kp.setCells (M := fun k => k = b16) (.inl rfl) _ _ _ (Kp.refl _ _)
            have hsA : Below Wj.heap.size Wj (W8.setCells b16 0 [.bool (nx.r 3).s, .int .u32 ((nx.r 3).l : Int), .int .u32 ((nx.r 3).g : Int)]) := (Kp.setCells (w := Wj) (b := b16) (.inr hz16) _ _ _ (Kp.of_below hS No)).below
            refine pm_store rfl rfl rfl 37 (.tmp 16) (.tmp 100) rfl b16 0 #[.bool (nx.r 3).s, .int .u32 ((nx.r 3).l : Int), .int .u32 ((nx.r 3).g : Int)] (by kernel_rfl) (by kernel_rfl) (there_mid hB16 0 3 (by omega)) (by kernel_rfl) (by simp [Value.oneCell']) (fun _ => hsA) ?_
            refine pm_store rfl rfl rfl 37 (.tmp 17) (.tmp 103) rfl b17 0 #[.bool (nx.r 4).s, .int .u32 ((nx.r 4).l : Int), .int .u32 ((nx.r 4).g : Int)] (by kernel_rfl) (by kernel_rfl) (there_mid (hB17.keep hkA (fun e => hne2 e.symm)) 0 3 (by omega)) (by kernel_rfl) (by simp [Value.oneCell']) (fun h => by cases h) ?_
            refine pm_done ?_
            refine NoPanic.normal ?_
            have hc16 := (hB16.fill (fun j => [.bool (nx.r 3).s, .int .u32 ((nx.r 3).l : Int), .int .u32 ((nx.r 3).g : Int)].getD j undef))
            have hkB : Kp (fun k => k = b17) (W8.setCells b16 0 [.bool (nx.r 3).s, .int .u32 ((nx.r 3).l : Int), .int .u32 ((nx.r 3).g : Int)]) ((W8.setCells b16 0 [.bool (nx.r 3).s, .int .u32 ((nx.r 3).l : Int), .int .u32 ((nx.r 3).g : Int)]).setCells b17 0 [.bool (nx.r 4).s, .int .u32 ((nx.r 4).l : Int), .int .u32 ((nx.r 4).g : Int)]) := Kp.setCells (M := fun k => k = b17) (.inl rfl) _ _ _ (Kp.refl _ _)
            have hc17 := ((hB17.keep hkA (fun e => hne2 e.symm)).fill (fun j => [.bool (nx.r 4).s, .int .u32 ((nx.r 4).l : Int), .int .u32 ((nx.r 4).g : Int)].getD j undef))
            obtain ⟨Wz, hWz⟩ : ∃ Wz, Wz = (W8.setCells b16 0 [.bool (nx.r 3).s, .int .u32 ((nx.r 3).l : Int), .int .u32 ((nx.r 3).g : Int)]).setCells b17 0 [.bool (nx.r 4).s, .int .u32 ((nx.r 4).l : Int), .int .u32 ((nx.r 4).g : Int)] := ⟨_, rfl⟩
            have h16 : Blk Wz b16 37 3 (fun j => [.bool (nx.r 3).s, .int .u32 ((nx.r 3).l : Int), .int .u32 ((nx.r 3).g : Int)].getD j undef) := by rw [hWz]; exact Blk.keep (M := fun k => k = b17) hc16 hkB hne2
            have h17 : Blk Wz b17 37 3 (fun j => [.bool (nx.r 4).s, .int .u32 ((nx.r 4).l : Int), .int .u32 ((nx.r 4).g : Int)].getD j undef) := by rw [hWz]; exact hc17
            have hbz : Below Wj.heap.size Wj Wz := by rw [hWz]; exact (Kp.setCells (w := Wj) (b := b17) (.inr hz17) _ _ _ (Kp.of_below hsA No)).below
            have HBz := Lib.hid (HBj.out.trans (hbz.mono HBj.out.size))
            have HPz := Lib.hid (HP7.out.below hbz)
            show Exit.then _ _ _ _ ((W8.setCells b16 0 [.bool (nx.r 3).s, .int .u32 ((nx.r 3).l : Int), .int .u32 ((nx.r 3).g : Int)]).setCells b17 0 [.bool (nx.r 4).s, .int .u32 ((nx.r 4).l : Int), .int .u32 ((nx.r 4).g : Int)])
            rw [← hWz]
            clear hWz hc16 hc17 hkA hkB hsA hbz hB16 hB17
            obtain ⟨he, hpc, ⟨hl3, hg3⟩, ⟨hl4, hg4⟩⟩ := HPL.out
            simp only [if_true, Bool.false_eq_true, if_false] at hpc hl3 hg3 hl4 hg4
            subst he
            have pc : Wz.cell? ⟨b7, 0, none⟩ = some (.bool true) := by have := HPz.out.cell 0 (by omega); rw [show knF nx 0 = .bool nx.come from rfl, hpc] at this; exact this
            have e1 : Wz.cell? ⟨b16, 1, none⟩ = some (.int .u32 ((nx.r 3).l : Int)) := h16.cell 1 (by omega)
            have e2 : Wz.cell? ⟨b16, 2, none⟩ = some (.int .u32 ((nx.r 3).g : Int)) := h16.cell 2 (by omega)
            have e3 : Wz.cell? ⟨b17, 1, none⟩ = some (.int .u32 ((nx.r 4).l : Int)) := h17.cell 1 (by omega)
            have e4 : Wz.cell? ⟨b17, 2, none⟩ = some (.int .u32 ((nx.r 4).g : Int)) := h17.cell 2 (by omega)
            clear h16 h17
            have i1 : ¬ (a : Int) < (((nx.r 3).l : Nat) : Int) := by omega
            have i2 : ¬ (((nx.r 3).g : Nat) : Int) < (a : Int) := by omega
            have i3 : ¬ (b : Int) < (((nx.r 4).l : Nat) : Int) := by omega
            have i4 : ¬ (((nx.r 4).g : Nat) : Int) < (b : Int) := by omega
            go_wp2
            go_roundw
            case rel => exact ⟨1, by omega, by go_num, HBz.out⟩
            case measure => simp [intOf]
        · go_upto_region 14 with fail
          clear c3
          refine wp_region_list ?_
          refine wpList_load_mid rfl 42 (.tmp 14) (by kernel_rfl) b8 0 (by kernel_rfl) (knL jx) _ HJ8.out.range Try.underlying42 rfl (by rw [knL_length]; exact info_kn) ?_
          refine wpList_store_mid rfl 42 (.tmp 13) (.tmp 97) (by kernel_rfl) b7 0 (knL jx).toArray (by kernel_rfl) (by kernel_rfl) (by rw [knA_size]; exact there_blk HN7.out) (by rw [knA_size]; exact info_kn) (knL_one _) ?_
          obtain ⟨Wj, hWj⟩ : ∃ Wj, Wj = W7.setCells b7 0 (knL jx).toArray.toList := ⟨_, rfl⟩
          have hp7 : Blk Wj b7 42 31 (knF jx) := by rw [hWj, knL_tl]; exact HN7.out.fill _
          have hbj : Below wr.heap.size wr Wj := by rw [hWj]; exact (Kp.setCells (w := wr) (b := b7) (.inr (by omega)) _ _ _ (Kp.of_below HS7.out No)).below
          have HP7 := Lib.hid hp7
          have HBj := Lib.hid (HBR.out.trans (hbj.mono HBR.out.size))
          rw [← hWj]
          clear hWj hp7 hbj

          go_upto_region 15 with fail
          obtain ⟨We, hWe⟩ : ∃ We, We = Wj.drew := ⟨_, rfl⟩
          have hbe : Below Wj.heap.size Wj We := by rw [hWe]; exact (Below.refl _ _).drew
          have hze : We.heap.size = Wj.heap.size := by rw [hWe]; rfl
          refine wp_region_noPanic ?_
          refine planM (.rd 0 (.rd 1 (.rd 2 (.rd 3 (.rd 4 (.rd 5 (.many [(6, some 16), (7, some 17)] (.eff 8 (.eff 9 .done))))))))) [0, 1, 2, 3, 4, 5, 6, 7, 8] (fun W => Below Wj.heap.size Wj W) (by kernel_rfl) (by kernel_rfl) (fun _ _ _ _ _ h => h) (by rw [← hWe]; exact hbe) ?_
          rw [← hWe]
          clear hWe
          have HBe := Lib.hid hbe; have HZe := Lib.hid hze; clear hbe hze
          refine pm_pure rfl (fun K hK => ?_); go_simp; refine hK _ ?_; clear hK K
          refine pm_pure rfl (fun K hK => ?_); go_simp; refine hK _ ?_; clear hK K
          refine pm_rdv 100 (.agg #[.bool (jx.r 3).s, .int .u32 ((jx.r 3).l : Int), .int .u32 ((jx.r 3).g : Int)]) rfl rfl rfl (fun W hS => exec_load_mid 37 (.tmp 99) rfl b7 (1 + 3 * 3) (by kernel_rfl) [.bool (jx.r 3).s, .int .u32 ((jx.r 3).l : Int), .int .u32 ((jx.r 3).g : Int)] _ (by have := ((HP7.out.below hS).rangeAt (1 + 3 * 3) 3 (by omega)); exact this) Try.underlying37 rfl (by kernel_rfl)) ?_
          refine pm_pure rfl (fun K hK => ?_); go_simp; refine hK _ ?_; clear hK K
          refine pm_pure rfl (fun K hK => ?_); go_simp; refine hK _ ?_; clear hK K
          refine pm_rdv 103 (.agg #[.bool (jx.r 4).s, .int .u32 ((jx.r 4).l : Int), .int .u32 ((jx.r 4).g : Int)]) rfl rfl rfl (fun W hS => exec_load_mid 37 (.tmp 102) rfl b7 (1 + 4 * 3) (by kernel_rfl) [.bool (jx.r 4).s, .int .u32 ((jx.r 4).l : Int), .int .u32 ((jx.r 4).g : Int)] _ (by have := ((HP7.out.below hS).rangeAt (1 + 4 * 3) 3 (by omega)); exact this) Try.underlying37 rfl (by kernel_rfl)) ?_
          refine pm_manyJ (fun lq vq W => AlJ Wj.heap.size 6 7 37 3 (fun j => [.bool false, .int .u32 0, .int .u32 0].getD j undef) lq vq W) (AlJ.zero _ _ _ _ _ _ _) ?_ ?_
          · intro q hq lq vq w1 hS hb hl hn hJ
            simp only [List.mem_cons, List.not_mem_nil, or_false] at hq
            rcases hq with rfl | rfl
            · refine pm_one rfl rfl (fun K' hK => ?_)
              refine wp_value (w' := w1.alloc (.cells #[.bool false, .int .u32 0, .int .u32 0] 37)) (.pointer (some ⟨w1.heap.size, 0, none⟩)) (by kernel_rfl) ?_
              have hb3 : Below w1.heap.size w1 (w1.alloc (.cells #[.bool false, .int .u32 0, .int .u32 0] 37)) := (Below.refl _ _).alloc (Nat.le_refl _) _
              exact hK _ _ ⟨_, rfl, Below.trans hS (hb3.mono hS.size), hb3, hJ.up1 (by omega) hS.size [.bool false, .int .u32 0, .int .u32 0] rfl rfl⟩
            · refine pm_one rfl rfl (fun K' hK => ?_)
              refine wp_value (w' := w1.alloc (.cells #[.bool false, .int .u32 0, .int .u32 0] 37)) (.pointer (some ⟨w1.heap.size, 0, none⟩)) (by kernel_rfl) ?_
              have hb3 : Below w1.heap.size w1 (w1.alloc (.cells #[.bool false, .int .u32 0, .int .u32 0] 37)) := (Below.refl _ _).alloc (Nat.le_refl _) _
              exact hK _ _ ⟨_, rfl, Below.trans hS (hb3.mono hS.size), hb3, hJ.up2 (by omega) hS.size [.bool false, .int .u32 0, .int .u32 0] rfl rfl⟩
          · intro lq vq W8 hS hb hl hJ
            obtain ⟨b16, v16, hz16, hB16⟩ := hJ.a (hl (6, some 16) (by simp))
            obtain ⟨b17, v17, hz17, hB17⟩ := hJ.b (hl (7, some 17) (by simp))
            have hne := hJ.e (hl (6, some 16) (by simp)) (hl (7, some 17) (by simp))
            have hne2 : b16 ≠ b17 := fun e => hne (by rw [v16, v17, e])
            simp only [putM, if_true, v16, v17]
            clear hJ v16 v17 hl hne
            have hkA : Kp (fun k => k = b16) W8 (W8.setCells b16 0 [.bool (jx.r 3).s, .int .u32 ((jx.r 3).l : Int), .int .u32 ((jx.r 3).g : Int)]) := Kp.setCells (M := fun k => k = b16) (.inl rfl) _ _ _ (Kp.refl _ _)
            have hsA : Below Wj.heap.size Wj (W8.setCells b16 0 [.bool (jx.r 3).s, .int .u32 ((jx.r 3).l : Int), .int .u32 ((jx.r 3).g : Int)]) := (Kp.setCells (w := Wj) (b := b16) (.inr hz16) _ _ _ (Kp.of_below hS No)).below
            refine pm_store rfl rfl rfl 37 (.tmp 16) (.tmp 100) rfl b16 0 #[.bool (jx.r 3).s, .int .u32 ((jx.r 3).l : Int), .int .u32 ((jx.r 3).g : Int)] (by kernel_rfl) (by kernel_rfl) (there_mid hB16 0 3 (by omega)) (by kernel_rfl) (by simp [Value.oneCell']) (fun _ => hsA) ?_
            refine pm_store rfl rfl rfl 37 (.tmp 17) (.tmp 103) rfl b17 0 #[.bool (jx.r 4).s, .int .u32 ((jx.r 4).l : Int), .int .u32 ((jx.r 4).g : Int)] (by kernel_rfl) (by kernel_rfl) (there_mid (hB17.keep hkA (fun e => hne2 e.symm)) 0 3 (by omega)) (by kernel_rfl) (by simp [Value.oneCell']) (fun h => by cases h) ?_
            refine pm_done ?_
            refine NoPanic.normal ?_
            have hc16 := (hB16.fill (fun j => [.bool (jx.r 3).s, .int .u32 ((jx.r 3).l : Int), .int .u32 ((jx.r 3).g : Int)].getD j undef))
            have hkB : Kp (fun k => k = b17) (W8.setCells b16 0 [.bool (jx.r 3).s, .int .u32 ((jx.r 3).l : Int), .int .u32 ((jx.r 3).g : Int)]) ((W8.setCells b16 0 [.bool (jx.r 3).s, .int .u32 ((jx.r 3).l : Int), .int .u32 ((jx.r 3).g : Int)]).setCells b17 0 [.bool (jx.r 4).s, .int .u32 ((jx.r 4).l : Int), .int .u32 ((jx.r 4).g : Int)]) := Kp.setCells (M := fun k => k = b17) (.inl rfl) _ _ _ (Kp.refl _ _)
            have hc17 := ((hB17.keep hkA (fun e => hne2 e.symm)).fill (fun j => [.bool (jx.r 4).s, .int .u32 ((jx.r 4).l : Int), .int .u32 ((jx.r 4).g : Int)].getD j undef))
            obtain ⟨Wz, hWz⟩ : ∃ Wz, Wz = (W8.setCells b16 0 [.bool (jx.r 3).s, .int .u32 ((jx.r 3).l : Int), .int .u32 ((jx.r 3).g : Int)]).setCells b17 0 [.bool (jx.r 4).s, .int .u32 ((jx.r 4).l : Int), .int .u32 ((jx.r 4).g : Int)] := ⟨_, rfl⟩
            have h16 : Blk Wz b16 37 3 (fun j => [.bool (jx.r 3).s, .int .u32 ((jx.r 3).l : Int), .int .u32 ((jx.r 3).g : Int)].getD j undef) := by rw [hWz]; exact Blk.keep (M := fun k => k = b17) hc16 hkB hne2
            have h17 : Blk Wz b17 37 3 (fun j => [.bool (jx.r 4).s, .int .u32 ((jx.r 4).l : Int), .int .u32 ((jx.r 4).g : Int)].getD j undef) := by rw [hWz]; exact hc17
            have hbz : Below Wj.heap.size Wj Wz := by rw [hWz]; exact (Kp.setCells (w := Wj) (b := b17) (.inr hz17) _ _ _ (Kp.of_below hsA No)).below
            have HBz := Lib.hid (HBj.out.trans (hbz.mono HBj.out.size))
            have HPz := Lib.hid (HP7.out.below hbz)
            show Exit.then _ _ _ _ ((W8.setCells b16 0 [.bool (jx.r 3).s, .int .u32 ((jx.r 3).l : Int), .int .u32 ((jx.r 3).g : Int)]).setCells b17 0 [.bool (jx.r 4).s, .int .u32 ((jx.r 4).l : Int), .int .u32 ((jx.r 4).g : Int)])
            rw [← hWz]
            clear hWz hc16 hc17 hkA hkB hsA hbz hB16 hB17
            obtain ⟨he, hpc, ⟨hl3, hg3⟩, ⟨hl4, hg4⟩⟩ := HPL.out
            simp only [if_true, Bool.false_eq_true, if_false] at hpc hl3 hg3 hl4 hg4
            subst he
            have pc : Wz.cell? ⟨b7, 0, none⟩ = some (.bool true) := by have := HPz.out.cell 0 (by omega); rw [show knF jx 0 = .bool jx.come from rfl, hpc] at this; exact this
            have e1 : Wz.cell? ⟨b16, 1, none⟩ = some (.int .u32 ((jx.r 3).l : Int)) := h16.cell 1 (by omega)
            have e2 : Wz.cell? ⟨b16, 2, none⟩ = some (.int .u32 ((jx.r 3).g : Int)) := h16.cell 2 (by omega)
            have e3 : Wz.cell? ⟨b17, 1, none⟩ = some (.int .u32 ((jx.r 4).l : Int)) := h17.cell 1 (by omega)
            have e4 : Wz.cell? ⟨b17, 2, none⟩ = some (.int .u32 ((jx.r 4).g : Int)) := h17.cell 2 (by omega)
            clear h16 h17
            have i1 : ¬ (a : Int) < (((jx.r 3).l : Nat) : Int) := by omega
            have i2 : ¬ (((jx.r 3).g : Nat) : Int) < (a : Int) := by omega
            have i3 : ¬ (b : Int) < (((jx.r 4).l : Nat) : Int) := by omega
            have i4 : ¬ (((jx.r 4).g : Nat) : Int) < (b : Int) := by omega
            go_wp2
            go_roundw
            case rel => exact ⟨1, by omega, by go_num, HBz.out⟩
            case measure => simp [intOf]
    · obtain ⟨nx, jx, ev, hbv, hbb⟩ := bh_cases 0 ⟨21, 3, 0, 1, I⟩ kk
      have HPL := Lib.hid (jumps_b dl dg sl sg a b I 21 0 (decide (a < I)) I HAD.out HBS.out (.inr (.inl ⟨rfl, rfl, rfl, rfl⟩)) (by have := hbb; rw [HKK.out] at this; exact this))
      have hbk : ∀ W, Calls Try.prog 18 #[.agg #[.int .i64 21, .int .i64 3, .int .i64 0, .int .i64 1, .int .u32 (I : Int)], .int .i64 0, .agg (knL kk).toArray] W fun e w' => e = .returned (.tuple #[.agg (knL nx).toArray, .agg (knL jx).toArray, .int .i64 (ev : Int)]) ∧ Below W.heap.size W w' := fun W => by
        have := behind_ok W ⟨21, 3, 0, 1, I⟩ 0 kk HMY.out.2.1 HRT.out (by omega)
        rw [hbv] at this
        exact this
      have HBK := Lib.hid hbk
      clear hbk hbb hbv
      obtain ⟨tk, htk⟩ : ∃ tk : Bool, tk = (decide (a < I)) := ⟨_, rfl⟩
      rw [← htk] at HPL
      have htv : Value.bool (decide (a < I)) = .bool tk := by rw [htk]
      have HTV := Lib.hid htv
      clear htk htv
      go_upto_region 12 with fail

      obtain ⟨Wd, hWd⟩ : ∃ Wd, Wd = wr.drew := ⟨_, rfl⟩
      have hbd : Below wr.heap.size wr Wd := by rw [hWd]; exact (Below.refl _ _).drew
      have hzd : Wd.heap.size = wr.heap.size := by rw [hWd]; rfl
      refine wp_region_noPanic ?_
      refine planM (.rd 0 (.rd 1 (.rd 2 (.rd 3 (.rd 4 (.many [(5, some 89), (6, some 83), (7, some 90), (8, some 91), (9, some 92), (10, some 13), (11, some 14), (12, none), (13, none)] (.rd 14 .done))))))) [0, 1, 2, 3, 4, 5, 6, 7, 8, 9, 10, 11, 12, 13] (fun W => Below wr.heap.size wr W) (by kernel_rfl) (by kernel_rfl) (fun _ _ _ _ _ h => h) (by rw [← hWd]; exact hbd) ?_
      rw [← hWd]
      clear hWd
      have HBD := Lib.hid hbd; have HZD := Lib.hid hzd; clear hbd hzd
      refine pm_pure rfl (fun K hK => ?_); go_simp; refine hK _ ?_; clear hK K
      refine pm_pure rfl (fun K hK => ?_); go_simp; refine hK _ ?_; clear hK K
      refine pm_pure rfl (fun K hK => ?_); go_simp; refine hK _ ?_; clear hK K
      refine pm_rdv 87 (.agg #[.int .i64 21, .int .i64 3, .int .i64 0, .int .i64 1, .int .u32 (I : Int)]) rfl rfl rfl (fun W hS => exec_load_mid 45 (.tmp 86) rfl ib 5 (by kernel_rfl) [.int .i64 21, .int .i64 3, .int .i64 0, .int .i64 1, .int .u32 (I : Int)] _ (by have := ((HIp.out.below (HBR.out.trans (hS.mono HBR.out.size))).rangeAt 5 5 (by omega)); exact this) Try.underlying45 rfl size_ins) ?_
      refine pm_rdv 88 (.agg (knL kk).toArray) rfl rfl rfl (fun W hS => exec_load_mid 42 (.tmp 9) rfl kb 0 (by kernel_rfl) (knL kk) _ (by have := ((HKp.out.below (HBR.out.trans (hS.mono HBR.out.size)))).range; exact this) Try.underlying42 rfl (by rw [knL_length]; exact info_kn)) ?_
      refine pm_manyW (fun l v W => KJ 2 wr.heap.size (.tuple #[.agg (knL nx).toArray, .agg (knL jx).toArray, .int .i64 (ev : Int)]) (.agg (knL nx).toArray) (.agg (knL jx).toArray) (.int .i64 (ev : Int)) nx jx l v W) (KJ.zero _ _ _ _ _ _ _ _ _) ?_ ?_
      · intro q hq l v w1 hS hb hl hn hJ
        have E : ∀ (t : Nat) (a : Act), (∀ k, k ∈ [(5, some 89), (6, some 83), (7, some 90), (8, some 91), (9, some 92), (10, some 13), (11, some 14), (12, none), (13, none)] → k.2 ≠ some t) → (putM v l [(5, some 89), (6, some 83), (7, some 90), (8, some 91), (9, some 92), (10, some 13), (11, some 14), (12, none), (13, none)] a).tmps[t]?.getD undef = a.tmps[t]?.getD undef := fun t a h => by simpa [Array.getD_eq_getD_getElem?] using putM_eval_other (v := v) (l := l) t [(5, some 89), (6, some 83), (7, some 90), (8, some 91), (9, some 92), (10, some 13), (11, some 14), (12, none), (13, none)] a h
        have F : ∀ (k t : Nat) (a : Act), (k, some t) ∈ [(5, some 89), (6, some 83), (7, some 90), (8, some 91), (9, some 92), (10, some 13), (11, some 14), (12, none), (13, none)] → l k = true → t < a.tmps.size → (putM v l [(5, some 89), (6, some 83), (7, some 90), (8, some 91), (9, some 92), (10, some 13), (11, some 14), (12, none), (13, none)] a).tmps[t]?.getD undef = v k := fun k t a h1 h2 h3 => by simpa [Array.getD_eq_getD_getElem?] using putM_eval_at (v := v) (l := l) t [(5, some 89), (6, some 83), (7, some 90), (8, some 91), (9, some 92), (10, some 13), (11, some 14), (12, none), (13, none)] a k (by kernel_rfl) h1 h2 h3
        simp only [List.mem_cons, List.not_mem_nil, or_false] at hq
        rcases hq with rfl | rfl | rfl | rfl | rfl | rfl | rfl | rfl | rfl
        · refine pm_one rfl rfl (fun K' hK => ?_)
          refine wp_calls_ret (f := 18) (args := #[.agg #[.int .i64 21, .int .i64 3, .int .i64 0, .int .i64 1, .int .u32 (I : Int)], .int .i64 0, .agg (knL kk).toArray]) ?_ (HBK.out w1) (fun w3 hb3 => ?_)
          · simp [execOp, go_sem]
            exact ⟨(E 87 _ (by simp)).trans rfl, (E 88 _ (by simp)).trans rfl⟩
          exact hK _ _ ⟨_, rfl, Below.trans hS (hb3.mono hS.size), Below.trans hb (hb3.mono hb.size), hJ.up hb3 5 (by omega) _ (.inl ⟨rfl, rfl⟩)⟩
        · have l7 : l 5 = true := hn (5, some 89) (by simp) (by kernel_rfl)
          refine pm_one rfl rfl (fun K' hK => ?_)
          refine wp_value (w' := w1) _ (exec_mv 89 rfl _ ((F 5 89 _ (by simp) l7 (by simp [Act.put])).trans (hJ.a7 5 rfl l7))) ?_
          exact hK _ _ ⟨_, rfl, hS, hb, hJ.up (Below.refl _ _) 6 (by omega) _ (.inr (.inl ⟨rfl, rfl⟩))⟩
        · have l8 : l 6 = true := hn (6, some 83) (by simp) (by kernel_rfl)
          refine pm_one rfl rfl (fun K' hK => ?_)
          refine wp_value (w' := w1) (.agg (knL nx).toArray) (exec_extract 83 0 rfl _ _ ((F 6 83 _ (by simp) l8 (by simp [Act.put])).trans (hJ.a8 6 rfl l8)) rfl) ?_
          exact hK _ _ ⟨_, rfl, hS, hb, hJ.up (Below.refl _ _) 7 (by omega) _ (.inr (.inr (.inl ⟨rfl, rfl⟩)))⟩
        · have l8 : l 6 = true := hn (6, some 83) (by simp) (by kernel_rfl)
          refine pm_one rfl rfl (fun K' hK => ?_)
          refine wp_value (w' := w1) (.agg (knL jx).toArray) (exec_extract 83 1 rfl _ _ ((F 6 83 _ (by simp) l8 (by simp [Act.put])).trans (hJ.a8 6 rfl l8)) rfl) ?_
          exact hK _ _ ⟨_, rfl, hS, hb, hJ.up (Below.refl _ _) 8 (by omega) _ (.inr (.inr (.inr (.inl ⟨rfl, rfl⟩))))⟩
        · have l8 : l 6 = true := hn (6, some 83) (by simp) (by kernel_rfl)
          refine pm_one rfl rfl (fun K' hK => ?_)
          refine wp_value (w' := w1) (.int .i64 (ev : Int)) (exec_extract 83 2 rfl _ _ ((F 6 83 _ (by simp) l8 (by simp [Act.put])).trans (hJ.a8 6 rfl l8)) rfl) ?_
          exact hK _ _ ⟨_, rfl, hS, hb, hJ.up (Below.refl _ _) 9 (by omega) _ (.inr (.inr (.inr (.inr ⟨rfl, rfl⟩))))⟩
        · refine pm_one rfl rfl (fun K' hK => ?_)
          refine wp_value (w' := w1.alloc (.cells #[.bool false, .bool false, .int .u32 0, .int .u32 0, .bool false, .int .u32 0, .int .u32 0, .bool false, .int .u32 0, .int .u32 0, .bool false, .int .u32 0, .int .u32 0, .bool false, .int .u32 0, .int .u32 0, .bool false, .int .u32 0, .int .u32 0, .bool false, .int .u32 0, .int .u32 0, .bool false, .int .u32 0, .int .u32 0, .bool false, .int .u32 0, .int .u32 0, .bool false, .int .u32 0, .int .u32 0] 42)) (.pointer (some ⟨w1.heap.size, 0, none⟩)) (by kernel_rfl) ?_
          have hb3 : Below w1.heap.size w1 (w1.alloc (.cells #[.bool false, .bool false, .int .u32 0, .int .u32 0, .bool false, .int .u32 0, .int .u32 0, .bool false, .int .u32 0, .int .u32 0, .bool false, .int .u32 0, .int .u32 0, .bool false, .int .u32 0, .int .u32 0, .bool false, .int .u32 0, .int .u32 0, .bool false, .int .u32 0, .int .u32 0, .bool false, .int .u32 0, .int .u32 0, .bool false, .int .u32 0, .int .u32 0, .bool false, .int .u32 0, .int .u32 0] 42)) := (Below.refl _ _).alloc (Nat.le_refl _) _
          exact hK _ _ ⟨_, rfl, Below.trans hS (hb3.mono hS.size), Below.trans hb (hb3.mono hb.size), hJ.al12 10 (by omega) rfl hl hS.size _ rfl⟩
        · refine pm_one rfl rfl (fun K' hK => ?_)
          refine wp_value (w' := w1.alloc (.cells #[.bool false, .bool false, .int .u32 0, .int .u32 0, .bool false, .int .u32 0, .int .u32 0, .bool false, .int .u32 0, .int .u32 0, .bool false, .int .u32 0, .int .u32 0, .bool false, .int .u32 0, .int .u32 0, .bool false, .int .u32 0, .int .u32 0, .bool false, .int .u32 0, .int .u32 0, .bool false, .int .u32 0, .int .u32 0, .bool false, .int .u32 0, .int .u32 0, .bool false, .int .u32 0, .int .u32 0] 42)) (.pointer (some ⟨w1.heap.size, 0, none⟩)) (by kernel_rfl) ?_
          have hb3 : Below w1.heap.size w1 (w1.alloc (.cells #[.bool false, .bool false, .int .u32 0, .int .u32 0, .bool false, .int .u32 0, .int .u32 0, .bool false, .int .u32 0, .int .u32 0, .bool false, .int .u32 0, .int .u32 0, .bool false, .int .u32 0, .int .u32 0, .bool false, .int .u32 0, .int .u32 0, .bool false, .int .u32 0, .int .u32 0, .bool false, .int .u32 0, .int .u32 0, .bool false, .int .u32 0, .int .u32 0, .bool false, .int .u32 0, .int .u32 0] 42)) := (Below.refl _ _).alloc (Nat.le_refl _) _
          exact hK _ _ ⟨_, rfl, Below.trans hS (hb3.mono hS.size), Below.trans hb (hb3.mono hb.size), hJ.al13 11 (by omega) rfl hl hS.size _ rfl⟩
        · have l9 : l 7 = true := hn (7, some 90) (by simp) (by kernel_rfl)
          have l12 : l 10 = true := hn (10, some 13) (by simp) (by kernel_rfl)
          obtain ⟨b, hv, hzb, hB⟩ := hJ.a12 10 rfl l12
          refine pm_one rfl rfl (fun K' hK => ?_)
          refine wp_store_mid 42 (.tmp 13) (.tmp 90) rfl b 0 (knL nx).toArray (ev_tmp ((F 10 13 _ (by simp) l12 (by simp [Act.put])).trans hv)) (ev_tmp ((F 7 90 _ (by simp) l9 (by simp [Act.put])).trans (hJ.a9 7 rfl l9))) (by rw [knA_size]; exact there_blk hB) (by rw [knA_size]; exact info_kn) (knL_one _) ?_
          rw [knL_tl]
          exact hK _ _ ⟨undef, rfl, (Kp.setCells (w := wr) (b := b) (.inr hzb) _ _ _ (Kp.of_below hS No)).below, (Kp.setCells (w := Wd) (b := b) (.inr (by rw [HZD.out]; exact hzb)) _ _ _ (Kp.of_below hb No)).below, hJ.st14 12 (by omega) rfl l12 hv _⟩
        · have l9 : l 8 = true := hn (8, some 91) (by simp) (by kernel_rfl)
          have l12 : l 11 = true := hn (11, some 14) (by simp) (by kernel_rfl)
          obtain ⟨b, hv, hzb, hB⟩ := hJ.a13 11 rfl l12
          refine pm_one rfl rfl (fun K' hK => ?_)
          refine wp_store_mid 42 (.tmp 14) (.tmp 91) rfl b 0 (knL jx).toArray (ev_tmp ((F 11 14 _ (by simp) l12 (by simp [Act.put])).trans hv)) (ev_tmp ((F 8 91 _ (by simp) l9 (by simp [Act.put])).trans (hJ.a10 8 rfl l9))) (by rw [knA_size]; exact there_blk hB) (by rw [knA_size]; exact info_kn) (knL_one _) ?_
          rw [knL_tl]
          exact hK _ _ ⟨undef, rfl, (Kp.setCells (w := wr) (b := b) (.inr hzb) _ _ _ (Kp.of_below hS No)).below, (Kp.setCells (w := Wd) (b := b) (.inr (by rw [HZD.out]; exact hzb)) _ _ _ (Kp.of_below hb No)).below, hJ.st15 13 (by omega) rfl l12 hv _⟩
      · intro lq vq W7 hS hb hl hJ
        have l7 := hl (5, some 89) (by simp)
        have l14 := hl (12, none) (by simp)
        have l15 := hl (13, none) (by simp)
        obtain ⟨b7, v12, hz7, hB7⟩ := hJ.a12 10 rfl (hl (10, some 13) (by simp))
        obtain ⟨b8, v13, hz8, hB8⟩ := hJ.a13 11 rfl (hl (11, some 14) (by simp))
        rw [if_pos l14] at hB7
        rw [if_pos l15] at hB8
        have v7 := hJ.a7 5 rfl l7
        have v8 := hJ.a8 6 rfl (hl (6, some 83) (by simp))
        have v9 := hJ.a9 7 rfl (hl (7, some 90) (by simp))
        have v10 := hJ.a10 8 rfl (hl (8, some 91) (by simp))
        have v11 := hJ.a11 9 rfl (hl (9, some 92) (by simp))
        have hne := hJ.e 10 rfl (hl (10, some 13) (by simp)) (hl (11, some 14) (by simp))
        have hne7 : b7 ≠ b8 := fun e => hne (by rw [v12, v13, e])
        simp only [putM, if_true, v7, v8, v9, v10, v11, v12, v13]
        clear hJ v7 v8 v9 v10 v11 v12 v13 hl l7 l14 l15 hne
        have HS7 := Lib.hid hS
        have HN7 := Lib.hid hB7
        have HJ8 := Lib.hid hB8
        clear hS hb hB7 hB8
        repeat (refine pm_pure rfl (fun K hK => ?_); go_simp; refine hK _ ?_; clear hK K)
        refine pm_done ?_
        refine NoPanic.normal ?_
        have HB7 := Lib.hid (HBR.out.trans (HS7.out.mono HBR.out.size))
        have c3 : W7.cell? ⟨ib + 1, 1, none⟩ = some (.bool tk) := by have := (HSp.out.below HB7.out).cell 1 (by simp); exact this.trans (congrArg some HTV.out)
        cases tk
        · go_upto_region 14 with fail
          clear c3
          obtain ⟨Wj, hWj⟩ : ∃ Wj, Wj = W7 := ⟨_, rfl⟩
          have HP7 := HN7
          have HBj := HB7
          rw [← hWj] at HP7 HBj ⊢
          clear hWj

          go_upto_region 15 with fail
          obtain ⟨We, hWe⟩ : ∃ We, We = Wj.drew := ⟨_, rfl⟩
          have hbe : Below Wj.heap.size Wj We := by rw [hWe]; exact (Below.refl _ _).drew
          have hze : We.heap.size = Wj.heap.size := by rw [hWe]; rfl
          refine wp_region_noPanic ?_
          refine planM (.rd 0 (.rd 1 (.rd 2 (.rd 3 (.rd 4 (.rd 5 (.many [(6, some 16), (7, some 17)] (.eff 8 (.eff 9 .done))))))))) [0, 1, 2, 3, 4, 5, 6, 7, 8] (fun W => Below Wj.heap.size Wj W) (by kernel_rfl) (by kernel_rfl) (fun _ _ _ _ _ h => h) (by rw [← hWe]; exact hbe) ?_
          rw [← hWe]
          clear hWe
          have HBe := Lib.hid hbe; have HZe := Lib.hid hze; clear hbe hze
          refine pm_pure rfl (fun K hK => ?_); go_simp; refine hK _ ?_; clear hK K
          refine pm_pure rfl (fun K hK => ?_); go_simp; refine hK _ ?_; clear hK K
          refine pm_rdv 100 (.agg #[.bool (nx.r 3).s, .int .u32 ((nx.r 3).l : Int), .int .u32 ((nx.r 3).g : Int)]) rfl rfl rfl (fun W hS => exec_load_mid 37 (.tmp 99) rfl b7 (1 + 3 * 3) (by kernel_rfl) [.bool (nx.r 3).s, .int .u32 ((nx.r 3).l : Int), .int .u32 ((nx.r 3).g : Int)] _ (by have := ((HP7.out.below hS).rangeAt (1 + 3 * 3) 3 (by omega)); exact this) Try.underlying37 rfl (by kernel_rfl)) ?_
          refine pm_pure rfl (fun K hK => ?_); go_simp; refine hK _ ?_; clear hK K
          refine pm_pure rfl (fun K hK => ?_); go_simp; refine hK _ ?_; clear hK K
          refine pm_rdv 103 (.agg #[.bool (nx.r 4).s, .int .u32 ((nx.r 4).l : Int), .int .u32 ((nx.r 4).g : Int)]) rfl rfl rfl (fun W hS => exec_load_mid 37 (.tmp 102) rfl b7 (1 + 4 * 3) (by kernel_rfl) [.bool (nx.r 4).s, .int .u32 ((nx.r 4).l : Int), .int .u32 ((nx.r 4).g : Int)] _ (by have := ((HP7.out.below hS).rangeAt (1 + 4 * 3) 3 (by omega)); exact this) Try.underlying37 rfl (by kernel_rfl)) ?_
          refine pm_manyJ (fun lq vq W => AlJ Wj.heap.size 6 7 37 3 (fun j => [.bool false, .int .u32 0, .int .u32 0].getD j undef) lq vq W) (AlJ.zero _ _ _ _ _ _ _) ?_ ?_
          · intro q hq lq vq w1 hS hb hl hn hJ
            simp only [List.mem_cons, List.not_mem_nil, or_false] at hq
            rcases hq with rfl | rfl
            · refine pm_one rfl rfl (fun K' hK => ?_)
              refine wp_value (w' := w1.alloc (.cells #[.bool false, .int .u32 0, .int .u32 0] 37)) (.pointer (some ⟨w1.heap.size, 0, none⟩)) (by kernel_rfl) ?_
              have hb3 : Below w1.heap.size w1 (w1.alloc (.cells #[.bool false, .int .u32 0, .int .u32 0] 37)) := (Below.refl _ _).alloc (Nat.le_refl _) _
              exact hK _ _ ⟨_, rfl, Below.trans hS (hb3.mono hS.size), hb3, hJ.up1 (by omega) hS.size [.bool false, .int .u32 0, .int .u32 0] rfl rfl⟩
            · refine pm_one rfl rfl (fun K' hK => ?_)
              refine wp_value (w' := w1.alloc (.cells #[.bool false, .int .u32 0, .int .u32 0] 37)) (.pointer (some ⟨w1.heap.size, 0, none⟩)) (by kernel_rfl) ?_
              have hb3 : Below w1.heap.size w1 (w1.alloc (.cells #[.bool false, .int .u32 0, .int .u32 0] 37)) := (Below.refl _ _).alloc (Nat.le_refl _) _
              exact hK _ _ ⟨_, rfl, Below.trans hS (hb3.mono hS.size), hb3, hJ.up2 (by omega) hS.size [.bool false, .int .u32 0, .int .u32 0] rfl rfl⟩
          · intro lq vq W8 hS hb hl hJ
            obtain ⟨b16, v16, hz16, hB16⟩ := hJ.a (hl (6, some 16) (by simp))
            obtain ⟨b17, v17, hz17, hB17⟩ := hJ.b (hl (7, some 17) (by simp))
            have hne := hJ.e (hl (6, some 16) (by simp)) (hl (7, some 17) (by simp))
            have hne2 : b16 ≠ b17 := fun e => hne (by rw [v16, v17, e])
            simp only [putM, if_true, v16, v17]
            clear hJ v16 v17 hl hne
            have hkA : Kp (fun k => k = b16) W8 (W8.setCells b16 0 [.bool (nx.r 3).s, .int .u32 ((nx.r 3).l : Int), .int .u32 ((nx.r 3).g : Int)]) := Kp.setCells (M := fun k => k = b16) (.inl rfl) _ _ _ (Kp.refl _ _)
            have hsA : Below Wj.heap.size Wj (W8.setCells b16 0 [.bool (nx.r 3).s, .int .u32 ((nx.r 3).l : Int), .int .u32 ((nx.r 3).g : Int)]) := (Kp.setCells (w := Wj) (b := b16) (.inr hz16) _ _ _ (Kp.of_below hS No)).below
            refine pm_store rfl rfl rfl 37 (.tmp 16) (.tmp 100) rfl b16 0 #[.bool (nx.r 3).s, .int .u32 ((nx.r 3).l : Int), .int .u32 ((nx.r 3).g : Int)] (by kernel_rfl) (by kernel_rfl) (there_mid hB16 0 3 (by omega)) (by kernel_rfl) (by simp [Value.oneCell']) (fun _ => hsA) ?_
            refine pm_store rfl rfl rfl 37 (.tmp 17) (.tmp 103) rfl b17 0 #[.bool (nx.r 4).s, .int .u32 ((nx.r 4).l : Int), .int .u32 ((nx.r 4).g : Int)] (by kernel_rfl) (by kernel_rfl) (there_mid (hB17.keep hkA (fun e => hne2 e.symm)) 0 3 (by omega)) (by kernel_rfl) (by simp [Value.oneCell']) (fun h => by cases h) ?_
            refine pm_done ?_
            refine NoPanic.normal ?_
            have hc16 := (hB16.fill (fun j => [.bool (nx.r 3).s, .int .u32 ((nx.r 3).l : Int), .int .u32 ((nx.r 3).g : Int)].getD j undef))
            have hkB : Kp (fun k => k = b17) (W8.setCells b16 0 [.bool (nx.r 3).s, .int .u32 ((nx.r 3).l : Int), .int .u32 ((nx.r 3).g : Int)]) ((W8.setCells b16 0 [.bool (nx.r 3).s, .int .u32 ((nx.r 3).l : Int), .int .u32 ((nx.r 3).g : Int)]).setCells b17 0 [.bool (nx.r 4).s, .int .u32 ((nx.r 4).l : Int), .int .u32 ((nx.r 4).g : Int)]) := Kp.setCells (M := fun k => k = b17) (.inl rfl) _ _ _ (Kp.refl _ _)
            have hc17 := ((hB17.keep hkA (fun e => hne2 e.symm)).fill (fun j => [.bool (nx.r 4).s, .int .u32 ((nx.r 4).l : Int), .int .u32 ((nx.r 4).g : Int)].getD j undef))
            obtain ⟨Wz, hWz⟩ : ∃ Wz, Wz = (W8.setCells b16 0 [.bool (nx.r 3).s, .int .u32 ((nx.r 3).l : Int), .int .u32 ((nx.r 3).g : Int)]).setCells b17 0 [.bool (nx.r 4).s, .int .u32 ((nx.r 4).l : Int), .int .u32 ((nx.r 4).g : Int)] := ⟨_, rfl⟩
            have h16 : Blk Wz b16 37 3 (fun j => [.bool (nx.r 3).s, .int .u32 ((nx.r 3).l : Int), .int .u32 ((nx.r 3).g : Int)].getD j undef) := by rw [hWz]; exact Blk.keep (M := fun k => k = b17) hc16 hkB hne2
            have h17 : Blk Wz b17 37 3 (fun j => [.bool (nx.r 4).s, .int .u32 ((nx.r 4).l : Int), .int .u32 ((nx.r 4).g : Int)].getD j undef) := by rw [hWz]; exact hc17
            have hbz : Below Wj.heap.size Wj Wz := by rw [hWz]; exact (Kp.setCells (w := Wj) (b := b17) (.inr hz17) _ _ _ (Kp.of_below hsA No)).below
            have HBz := Lib.hid (HBj.out.trans (hbz.mono HBj.out.size))
            have HPz := Lib.hid (HP7.out.below hbz)
            show Exit.then _ _ _ _ ((W8.setCells b16 0 [.bool (nx.r 3).s, .int .u32 ((nx.r 3).l : Int), .int .u32 ((nx.r 3).g : Int)]).setCells b17 0 [.bool (nx.r 4).s, .int .u32 ((nx.r 4).l : Int), .int .u32 ((nx.r 4).g : Int)])
            rw [← hWz]
            clear hWz hc16 hc17 hkA hkB hsA hbz hB16 hB17
            obtain ⟨he, hpc, ⟨hl3, hg3⟩, ⟨hl4, hg4⟩⟩ := HPL.out
            simp only [if_true, Bool.false_eq_true, if_false] at hpc hl3 hg3 hl4 hg4
            subst he
            have pc : Wz.cell? ⟨b7, 0, none⟩ = some (.bool true) := by have := HPz.out.cell 0 (by omega); rw [show knF nx 0 = .bool nx.come from rfl, hpc] at this; exact this
            have e1 : Wz.cell? ⟨b16, 1, none⟩ = some (.int .u32 ((nx.r 3).l : Int)) := h16.cell 1 (by omega)
            have e2 : Wz.cell? ⟨b16, 2, none⟩ = some (.int .u32 ((nx.r 3).g : Int)) := h16.cell 2 (by omega)
            have e3 : Wz.cell? ⟨b17, 1, none⟩ = some (.int .u32 ((nx.r 4).l : Int)) := h17.cell 1 (by omega)
            have e4 : Wz.cell? ⟨b17, 2, none⟩ = some (.int .u32 ((nx.r 4).g : Int)) := h17.cell 2 (by omega)
            clear h16 h17
            have i1 : ¬ (a : Int) < (((nx.r 3).l : Nat) : Int) := by omega
            have i2 : ¬ (((nx.r 3).g : Nat) : Int) < (a : Int) := by omega
            have i3 : ¬ (b : Int) < (((nx.r 4).l : Nat) : Int) := by omega
            have i4 : ¬ (((nx.r 4).g : Nat) : Int) < (b : Int) := by omega
            go_wp2
            go_roundw
            case rel => exact ⟨2, by omega, by go_num, HBz.out⟩
            case measure => simp [intOf]
        · go_upto_region 14 with fail
          clear c3
          refine wp_region_list ?_
          refine wpList_load_mid rfl 42 (.tmp 14) (by kernel_rfl) b8 0 (by kernel_rfl) (knL jx) _ HJ8.out.range Try.underlying42 rfl (by rw [knL_length]; exact info_kn) ?_
          refine wpList_store_mid rfl 42 (.tmp 13) (.tmp 97) (by kernel_rfl) b7 0 (knL jx).toArray (by kernel_rfl) (by kernel_rfl) (by rw [knA_size]; exact there_blk HN7.out) (by rw [knA_size]; exact info_kn) (knL_one _) ?_
          obtain ⟨Wj, hWj⟩ : ∃ Wj, Wj = W7.setCells b7 0 (knL jx).toArray.toList := ⟨_, rfl⟩
          have hp7 : Blk Wj b7 42 31 (knF jx) := by rw [hWj, knL_tl]; exact HN7.out.fill _
          have hbj : Below wr.heap.size wr Wj := by rw [hWj]; exact (Kp.setCells (w := wr) (b := b7) (.inr (by omega)) _ _ _ (Kp.of_below HS7.out No)).below
          have HP7 := Lib.hid hp7
          have HBj := Lib.hid (HBR.out.trans (hbj.mono HBR.out.size))
          rw [← hWj]
          clear hWj hp7 hbj

          go_upto_region 15 with fail
          obtain ⟨We, hWe⟩ : ∃ We, We = Wj.drew := ⟨_, rfl⟩
          have hbe : Below Wj.heap.size Wj We := by rw [hWe]; exact (Below.refl _ _).drew
          have hze : We.heap.size = Wj.heap.size := by rw [hWe]; rfl
          refine wp_region_noPanic ?_
          refine planM (.rd 0 (.rd 1 (.rd 2 (.rd 3 (.rd 4 (.rd 5 (.many [(6, some 16), (7, some 17)] (.eff 8 (.eff 9 .done))))))))) [0, 1, 2, 3, 4, 5, 6, 7, 8] (fun W => Below Wj.heap.size Wj W) (by kernel_rfl) (by kernel_rfl) (fun _ _ _ _ _ h => h) (by rw [← hWe]; exact hbe) ?_
          rw [← hWe]
          clear hWe
          have HBe := Lib.hid hbe; have HZe := Lib.hid hze; clear hbe hze
          refine pm_pure rfl (fun K hK => ?_); go_simp; refine hK _ ?_; clear hK K
          refine pm_pure rfl (fun K hK => ?_); go_simp; refine hK _ ?_; clear hK K
          refine pm_rdv 100 (.agg #[.bool (jx.r 3).s, .int .u32 ((jx.r 3).l : Int), .int .u32 ((jx.r 3).g : Int)]) rfl rfl rfl (fun W hS => exec_load_mid 37 (.tmp 99) rfl b7 (1 + 3 * 3) (by kernel_rfl) [.bool (jx.r 3).s, .int .u32 ((jx.r 3).l : Int), .int .u32 ((jx.r 3).g : Int)] _ (by have := ((HP7.out.below hS).rangeAt (1 + 3 * 3) 3 (by omega)); exact this) Try.underlying37 rfl (by kernel_rfl)) ?_
          refine pm_pure rfl (fun K hK => ?_); go_simp; refine hK _ ?_; clear hK K
          refine pm_pure rfl (fun K hK => ?_); go_simp; refine hK _ ?_; clear hK K
          refine pm_rdv 103 (.agg #[.bool (jx.r 4).s, .int .u32 ((jx.r 4).l : Int), .int .u32 ((jx.r 4).g : Int)]) rfl rfl rfl (fun W hS => exec_load_mid 37 (.tmp 102) rfl b7 (1 + 4 * 3) (by kernel_rfl) [.bool (jx.r 4).s, .int .u32 ((jx.r 4).l : Int), .int .u32 ((jx.r 4).g : Int)] _ (by have := ((HP7.out.below hS).rangeAt (1 + 4 * 3) 3 (by omega)); exact this) Try.underlying37 rfl (by kernel_rfl)) ?_
          refine pm_manyJ (fun lq vq W => AlJ Wj.heap.size 6 7 37 3 (fun j => [.bool false, .int .u32 0, .int .u32 0].getD j undef) lq vq W) (AlJ.zero _ _ _ _ _ _ _) ?_ ?_
          · intro q hq lq vq w1 hS hb hl hn hJ
            simp only [List.mem_cons, List.not_mem_nil, or_false] at hq
            rcases hq with rfl | rfl
            · refine pm_one rfl rfl (fun K' hK => ?_)
              refine wp_value (w' := w1.alloc (.cells #[.bool false, .int .u32 0, .int .u32 0] 37)) (.pointer (some ⟨w1.heap.size, 0, none⟩)) (by kernel_rfl) ?_
              have hb3 : Below w1.heap.size w1 (w1.alloc (.cells #[.bool false, .int .u32 0, .int .u32 0] 37)) := (Below.refl _ _).alloc (Nat.le_refl _) _
              exact hK _ _ ⟨_, rfl, Below.trans hS (hb3.mono hS.size), hb3, hJ.up1 (by omega) hS.size [.bool false, .int .u32 0, .int .u32 0] rfl rfl⟩
            · refine pm_one rfl rfl (fun K' hK => ?_)
              refine wp_value (w' := w1.alloc (.cells #[.bool false, .int .u32 0, .int .u32 0] 37)) (.pointer (some ⟨w1.heap.size, 0, none⟩)) (by kernel_rfl) ?_
              have hb3 : Below w1.heap.size w1 (w1.alloc (.cells #[.bool false, .int .u32 0, .int .u32 0] 37)) := (Below.refl _ _).alloc (Nat.le_refl _) _
              exact hK _ _ ⟨_, rfl, Below.trans hS (hb3.mono hS.size), hb3, hJ.up2 (by omega) hS.size [.bool false, .int .u32 0, .int .u32 0] rfl rfl⟩
          · intro lq vq W8 hS hb hl hJ
            obtain ⟨b16, v16, hz16, hB16⟩ := hJ.a (hl (6, some 16) (by simp))
            obtain ⟨b17, v17, hz17, hB17⟩ := hJ.b (hl (7, some 17) (by simp))
            have hne := hJ.e (hl (6, some 16) (by simp)) (hl (7, some 17) (by simp))
            have hne2 : b16 ≠ b17 := fun e => hne (by rw [v16, v17, e])
            simp only [putM, if_true, v16, v17]
            clear hJ v16 v17 hl hne
            have hkA : Kp (fun k => k = b16) W8 (W8.setCells b16 0 [.bool (jx.r 3).s, .int .u32 ((jx.r 3).l : Int), .int .u32 ((jx.r 3).g : Int)]) := Kp.setCells (M := fun k => k = b16) (.inl rfl) _ _ _ (Kp.refl _ _)
            have hsA : Below Wj.heap.size Wj (W8.setCells b16 0 [.bool (jx.r 3).s, .int .u32 ((jx.r 3).l : Int), .int .u32 ((jx.r 3).g : Int)]) := (Kp.setCells (w := Wj) (b := b16) (.inr hz16) _ _ _ (Kp.of_below hS No)).below
            refine pm_store rfl rfl rfl 37 (.tmp 16) (.tmp 100) rfl b16 0 #[.bool (jx.r 3).s, .int .u32 ((jx.r 3).l : Int), .int .u32 ((jx.r 3).g : Int)] (by kernel_rfl) (by kernel_rfl) (there_mid hB16 0 3 (by omega)) (by kernel_rfl) (by simp [Value.oneCell']) (fun _ => hsA) ?_
            refine pm_store rfl rfl rfl 37 (.tmp 17) (.tmp 103) rfl b17 0 #[.bool (jx.r 4).s, .int .u32 ((jx.r 4).l : Int), .int .u32 ((jx.r 4).g : Int)] (by kernel_rfl) (by kernel_rfl) (there_mid (hB17.keep hkA (fun e => hne2 e.symm)) 0 3 (by omega)) (by kernel_rfl) (by simp [Value.oneCell']) (fun h => by cases h) ?_
            refine pm_done ?_
            refine NoPanic.normal ?_
            have hc16 := (hB16.fill (fun j => [.bool (jx.r 3).s, .int .u32 ((jx.r 3).l : Int), .int .u32 ((jx.r 3).g : Int)].getD j undef))
            have hkB : Kp (fun k => k = b17) (W8.setCells b16 0 [.bool (jx.r 3).s, .int .u32 ((jx.r 3).l : Int), .int .u32 ((jx.r 3).g : Int)]) ((W8.setCells b16 0 [.bool (jx.r 3).s, .int .u32 ((jx.r 3).l : Int), .int .u32 ((jx.r 3).g : Int)]).setCells b17 0 [.bool (jx.r 4).s, .int .u32 ((jx.r 4).l : Int), .int .u32 ((jx.r 4).g : Int)]) := Kp.setCells (M := fun k => k = b17) (.inl rfl) _ _ _ (Kp.refl _ _)
            have hc17 := ((hB17.keep hkA (fun e => hne2 e.symm)).fill (fun j => [.bool (jx.r 4).s, .int .u32 ((jx.r 4).l : Int), .int .u32 ((jx.r 4).g : Int)].getD j undef))
            obtain ⟨Wz, hWz⟩ : ∃ Wz, Wz = (W8.setCells b16 0 [.bool (jx.r 3).s, .int .u32 ((jx.r 3).l : Int), .int .u32 ((jx.r 3).g : Int)]).setCells b17 0 [.bool (jx.r 4).s, .int .u32 ((jx.r 4).l : Int), .int .u32 ((jx.r 4).g : Int)] := ⟨_, rfl⟩
            have h16 : Blk Wz b16 37 3 (fun j => [.bool (jx.r 3).s, .int .u32 ((jx.r 3).l : Int), .int .u32 ((jx.r 3).g : Int)].getD j undef) := by rw [hWz]; exact Blk.keep (M := fun k => k = b17) hc16 hkB hne2
            have h17 : Blk Wz b17 37 3 (fun j => [.bool (jx.r 4).s, .int .u32 ((jx.r 4).l : Int), .int .u32 ((jx.r 4).g : Int)].getD j undef) := by rw [hWz]; exact hc17
            have hbz : Below Wj.heap.size Wj Wz := by rw [hWz]; exact (Kp.setCells (w := Wj) (b := b17) (.inr hz17) _ _ _ (Kp.of_below hsA No)).below
            have HBz := Lib.hid (HBj.out.trans (hbz.mono HBj.out.size))
            have HPz := Lib.hid (HP7.out.below hbz)
            show Exit.then _ _ _ _ ((W8.setCells b16 0 [.bool (jx.r 3).s, .int .u32 ((jx.r 3).l : Int), .int .u32 ((jx.r 3).g : Int)]).setCells b17 0 [.bool (jx.r 4).s, .int .u32 ((jx.r 4).l : Int), .int .u32 ((jx.r 4).g : Int)])
            rw [← hWz]
            clear hWz hc16 hc17 hkA hkB hsA hbz hB16 hB17
            obtain ⟨he, hpc, ⟨hl3, hg3⟩, ⟨hl4, hg4⟩⟩ := HPL.out
            simp only [if_true, Bool.false_eq_true, if_false] at hpc hl3 hg3 hl4 hg4
            subst he
            have pc : Wz.cell? ⟨b7, 0, none⟩ = some (.bool true) := by have := HPz.out.cell 0 (by omega); rw [show knF jx 0 = .bool jx.come from rfl, hpc] at this; exact this
            have e1 : Wz.cell? ⟨b16, 1, none⟩ = some (.int .u32 ((jx.r 3).l : Int)) := h16.cell 1 (by omega)
            have e2 : Wz.cell? ⟨b16, 2, none⟩ = some (.int .u32 ((jx.r 3).g : Int)) := h16.cell 2 (by omega)
            have e3 : Wz.cell? ⟨b17, 1, none⟩ = some (.int .u32 ((jx.r 4).l : Int)) := h17.cell 1 (by omega)
            have e4 : Wz.cell? ⟨b17, 2, none⟩ = some (.int .u32 ((jx.r 4).g : Int)) := h17.cell 2 (by omega)
            clear h16 h17
            have i1 : ¬ (a : Int) < (((jx.r 3).l : Nat) : Int) := by omega
            have i2 : ¬ (((jx.r 3).g : Nat) : Int) < (a : Int) := by omega
            have i3 : ¬ (b : Int) < (((jx.r 4).l : Nat) : Int) := by omega
            have i4 : ¬ (((jx.r 4).g : Nat) : Int) < (b : Int) := by omega
            go_wp2
            go_roundw
            case rel => exact ⟨2, by omega, by go_num, HBz.out⟩
            case measure => simp [intOf]
    · obtain ⟨nx, jx, ev, hbv, hbb⟩ := bh_cases 0 ⟨22, 3, 4, 1, 0⟩ kk
      have HPL := Lib.hid (jumps_b dl dg sl sg a b I 22 4 (decide (a < b)) 0 HAD.out HBS.out (.inr (.inr (.inl ⟨rfl, rfl, rfl, rfl⟩))) (by have := hbb; rw [HKK.out] at this; exact this))
      have hbk : ∀ W, Calls Try.prog 18 #[.agg #[.int .i64 22, .int .i64 3, .int .i64 4, .int .i64 1, .int .u32 0], .int .i64 0, .agg (knL kk).toArray] W fun e w' => e = .returned (.tuple #[.agg (knL nx).toArray, .agg (knL jx).toArray, .int .i64 (ev : Int)]) ∧ Below W.heap.size W w' := fun W => by
        have := behind_ok W ⟨22, 3, 4, 1, 0⟩ 0 kk HMY.out.2.2.1 HRT.out (by omega)
        rw [hbv] at this
        exact this
      have HBK := Lib.hid hbk
      clear hbk hbb hbv
      obtain ⟨tk, htk⟩ : ∃ tk : Bool, tk = (decide (a < b)) := ⟨_, rfl⟩
      rw [← htk] at HPL
      have htv : Value.bool (decide (a < b)) = .bool tk := by rw [htk]
      have HTV := Lib.hid htv
      clear htk htv
      go_upto_region 12 with fail

      obtain ⟨Wd, hWd⟩ : ∃ Wd, Wd = wr.drew := ⟨_, rfl⟩
      have hbd : Below wr.heap.size wr Wd := by rw [hWd]; exact (Below.refl _ _).drew
      have hzd : Wd.heap.size = wr.heap.size := by rw [hWd]; rfl
      refine wp_region_noPanic ?_
      refine planM (.rd 0 (.rd 1 (.rd 2 (.rd 3 (.rd 4 (.many [(5, some 89), (6, some 83), (7, some 90), (8, some 91), (9, some 92), (10, some 13), (11, some 14), (12, none), (13, none)] (.rd 14 .done))))))) [0, 1, 2, 3, 4, 5, 6, 7, 8, 9, 10, 11, 12, 13] (fun W => Below wr.heap.size wr W) (by kernel_rfl) (by kernel_rfl) (fun _ _ _ _ _ h => h) (by rw [← hWd]; exact hbd) ?_
      rw [← hWd]
      clear hWd
      have HBD := Lib.hid hbd; have HZD := Lib.hid hzd; clear hbd hzd
      refine pm_pure rfl (fun K hK => ?_); go_simp; refine hK _ ?_; clear hK K
      refine pm_pure rfl (fun K hK => ?_); go_simp; refine hK _ ?_; clear hK K
      refine pm_pure rfl (fun K hK => ?_); go_simp; refine hK _ ?_; clear hK K
      refine pm_rdv 87 (.agg #[.int .i64 22, .int .i64 3, .int .i64 4, .int .i64 1, .int .u32 0]) rfl rfl rfl (fun W hS => exec_load_mid 45 (.tmp 86) rfl ib 10 (by kernel_rfl) [.int .i64 22, .int .i64 3, .int .i64 4, .int .i64 1, .int .u32 0] _ (by have := ((HIp.out.below (HBR.out.trans (hS.mono HBR.out.size))).rangeAt 10 5 (by omega)); exact this) Try.underlying45 rfl size_ins) ?_
      refine pm_rdv 88 (.agg (knL kk).toArray) rfl rfl rfl (fun W hS => exec_load_mid 42 (.tmp 9) rfl kb 0 (by kernel_rfl) (knL kk) _ (by have := ((HKp.out.below (HBR.out.trans (hS.mono HBR.out.size)))).range; exact this) Try.underlying42 rfl (by rw [knL_length]; exact info_kn)) ?_
      refine pm_manyW (fun l v W => KJ 2 wr.heap.size (.tuple #[.agg (knL nx).toArray, .agg (knL jx).toArray, .int .i64 (ev : Int)]) (.agg (knL nx).toArray) (.agg (knL jx).toArray) (.int .i64 (ev : Int)) nx jx l v W) (KJ.zero _ _ _ _ _ _ _ _ _) ?_ ?_
      · intro q hq l v w1 hS hb hl hn hJ
        have E : ∀ (t : Nat) (a : Act), (∀ k, k ∈ [(5, some 89), (6, some 83), (7, some 90), (8, some 91), (9, some 92), (10, some 13), (11, some 14), (12, none), (13, none)] → k.2 ≠ some t) → (putM v l [(5, some 89), (6, some 83), (7, some 90), (8, some 91), (9, some 92), (10, some 13), (11, some 14), (12, none), (13, none)] a).tmps[t]?.getD undef = a.tmps[t]?.getD undef := fun t a h => by simpa [Array.getD_eq_getD_getElem?] using putM_eval_other (v := v) (l := l) t [(5, some 89), (6, some 83), (7, some 90), (8, some 91), (9, some 92), (10, some 13), (11, some 14), (12, none), (13, none)] a h
        have F : ∀ (k t : Nat) (a : Act), (k, some t) ∈ [(5, some 89), (6, some 83), (7, some 90), (8, some 91), (9, some 92), (10, some 13), (11, some 14), (12, none), (13, none)] → l k = true → t < a.tmps.size → (putM v l [(5, some 89), (6, some 83), (7, some 90), (8, some 91), (9, some 92), (10, some 13), (11, some 14), (12, none), (13, none)] a).tmps[t]?.getD undef = v k := fun k t a h1 h2 h3 => by simpa [Array.getD_eq_getD_getElem?] using putM_eval_at (v := v) (l := l) t [(5, some 89), (6, some 83), (7, some 90), (8, some 91), (9, some 92), (10, some 13), (11, some 14), (12, none), (13, none)] a k (by kernel_rfl) h1 h2 h3
        simp only [List.mem_cons, List.not_mem_nil, or_false] at hq
        rcases hq with rfl | rfl | rfl | rfl | rfl | rfl | rfl | rfl | rfl
        · refine pm_one rfl rfl (fun K' hK => ?_)
          refine wp_calls_ret (f := 18) (args := #[.agg #[.int .i64 22, .int .i64 3, .int .i64 4, .int .i64 1, .int .u32 0], .int .i64 0, .agg (knL kk).toArray]) ?_ (HBK.out w1) (fun w3 hb3 => ?_)
          · simp [execOp, go_sem]
            exact ⟨(E 87 _ (by simp)).trans rfl, (E 88 _ (by simp)).trans rfl⟩
          exact hK _ _ ⟨_, rfl, Below.trans hS (hb3.mono hS.size), Below.trans hb (hb3.mono hb.size), hJ.up hb3 5 (by omega) _ (.inl ⟨rfl, rfl⟩)⟩
        · have l7 : l 5 = true := hn (5, some 89) (by simp) (by kernel_rfl)
          refine pm_one rfl rfl (fun K' hK => ?_)
          refine wp_value (w' := w1) _ (exec_mv 89 rfl _ ((F 5 89 _ (by simp) l7 (by simp [Act.put])).trans (hJ.a7 5 rfl l7))) ?_
          exact hK _ _ ⟨_, rfl, hS, hb, hJ.up (Below.refl _ _) 6 (by omega) _ (.inr (.inl ⟨rfl, rfl⟩))⟩
        · have l8 : l 6 = true := hn (6, some 83) (by simp) (by kernel_rfl)
          refine pm_one rfl rfl (fun K' hK => ?_)
          refine wp_value (w' := w1) (.agg (knL nx).toArray) (exec_extract 83 0 rfl _ _ ((F 6 83 _ (by simp) l8 (by simp [Act.put])).trans (hJ.a8 6 rfl l8)) rfl) ?_
          exact hK _ _ ⟨_, rfl, hS, hb, hJ.up (Below.refl _ _) 7 (by omega) _ (.inr (.inr (.inl ⟨rfl, rfl⟩)))⟩
        · have l8 : l 6 = true := hn (6, some 83) (by simp) (by kernel_rfl)
          refine pm_one rfl rfl (fun K' hK => ?_)
          refine wp_value (w' := w1) (.agg (knL jx).toArray) (exec_extract 83 1 rfl _ _ ((F 6 83 _ (by simp) l8 (by simp [Act.put])).trans (hJ.a8 6 rfl l8)) rfl) ?_
          exact hK _ _ ⟨_, rfl, hS, hb, hJ.up (Below.refl _ _) 8 (by omega) _ (.inr (.inr (.inr (.inl ⟨rfl, rfl⟩))))⟩
        · have l8 : l 6 = true := hn (6, some 83) (by simp) (by kernel_rfl)
          refine pm_one rfl rfl (fun K' hK => ?_)
          refine wp_value (w' := w1) (.int .i64 (ev : Int)) (exec_extract 83 2 rfl _ _ ((F 6 83 _ (by simp) l8 (by simp [Act.put])).trans (hJ.a8 6 rfl l8)) rfl) ?_
          exact hK _ _ ⟨_, rfl, hS, hb, hJ.up (Below.refl _ _) 9 (by omega) _ (.inr (.inr (.inr (.inr ⟨rfl, rfl⟩))))⟩
        · refine pm_one rfl rfl (fun K' hK => ?_)
          refine wp_value (w' := w1.alloc (.cells #[.bool false, .bool false, .int .u32 0, .int .u32 0, .bool false, .int .u32 0, .int .u32 0, .bool false, .int .u32 0, .int .u32 0, .bool false, .int .u32 0, .int .u32 0, .bool false, .int .u32 0, .int .u32 0, .bool false, .int .u32 0, .int .u32 0, .bool false, .int .u32 0, .int .u32 0, .bool false, .int .u32 0, .int .u32 0, .bool false, .int .u32 0, .int .u32 0, .bool false, .int .u32 0, .int .u32 0] 42)) (.pointer (some ⟨w1.heap.size, 0, none⟩)) (by kernel_rfl) ?_
          have hb3 : Below w1.heap.size w1 (w1.alloc (.cells #[.bool false, .bool false, .int .u32 0, .int .u32 0, .bool false, .int .u32 0, .int .u32 0, .bool false, .int .u32 0, .int .u32 0, .bool false, .int .u32 0, .int .u32 0, .bool false, .int .u32 0, .int .u32 0, .bool false, .int .u32 0, .int .u32 0, .bool false, .int .u32 0, .int .u32 0, .bool false, .int .u32 0, .int .u32 0, .bool false, .int .u32 0, .int .u32 0, .bool false, .int .u32 0, .int .u32 0] 42)) := (Below.refl _ _).alloc (Nat.le_refl _) _
          exact hK _ _ ⟨_, rfl, Below.trans hS (hb3.mono hS.size), Below.trans hb (hb3.mono hb.size), hJ.al12 10 (by omega) rfl hl hS.size _ rfl⟩
        · refine pm_one rfl rfl (fun K' hK => ?_)
          refine wp_value (w' := w1.alloc (.cells #[.bool false, .bool false, .int .u32 0, .int .u32 0, .bool false, .int .u32 0, .int .u32 0, .bool false, .int .u32 0, .int .u32 0, .bool false, .int .u32 0, .int .u32 0, .bool false, .int .u32 0, .int .u32 0, .bool false, .int .u32 0, .int .u32 0, .bool false, .int .u32 0, .int .u32 0, .bool false, .int .u32 0, .int .u32 0, .bool false, .int .u32 0, .int .u32 0, .bool false, .int .u32 0, .int .u32 0] 42)) (.pointer (some ⟨w1.heap.size, 0, none⟩)) (by kernel_rfl) ?_
          have hb3 : Below w1.heap.size w1 (w1.alloc (.cells #[.bool false, .bool false, .int .u32 0, .int .u32 0, .bool false, .int .u32 0, .int .u32 0, .bool false, .int .u32 0, .int .u32 0, .bool false, .int .u32 0, .int .u32 0, .bool false, .int .u32 0, .int .u32 0, .bool false, .int .u32 0, .int .u32 0, .bool false, .int .u32 0, .int .u32 0, .bool false, .int .u32 0, .int .u32 0, .bool false, .int .u32 0, .int .u32 0, .bool false, .int .u32 0, .int .u32 0] 42)) := (Below.refl _ _).alloc (Nat.le_refl _) _
          exact hK _ _ ⟨_, rfl, Below.trans hS (hb3.mono hS.size), Below.trans hb (hb3.mono hb.size), hJ.al13 11 (by omega) rfl hl hS.size _ rfl⟩
        · have l9 : l 7 = true := hn (7, some 90) (by simp) (by kernel_rfl)
          have l12 : l 10 = true := hn (10, some 13) (by simp) (by kernel_rfl)
          obtain ⟨b, hv, hzb, hB⟩ := hJ.a12 10 rfl l12
          refine pm_one rfl rfl (fun K' hK => ?_)
          refine wp_store_mid 42 (.tmp 13) (.tmp 90) rfl b 0 (knL nx).toArray (ev_tmp ((F 10 13 _ (by simp) l12 (by simp [Act.put])).trans hv)) (ev_tmp ((F 7 90 _ (by simp) l9 (by simp [Act.put])).trans (hJ.a9 7 rfl l9))) (by rw [knA_size]; exact there_blk hB) (by rw [knA_size]; exact info_kn) (knL_one _) ?_
          rw [knL_tl]
          exact hK _ _ ⟨undef, rfl, (Kp.setCells (w := wr) (b := b) (.inr hzb) _ _ _ (Kp.of_below hS No)).below, (Kp.setCells (w := Wd) (b := b) (.inr (by rw [HZD.out]; exact hzb)) _ _ _ (Kp.of_below hb No)).below, hJ.st14 12 (by omega) rfl l12 hv _⟩
        · have l9 : l 8 = true := hn (8, some 91) (by simp) (by kernel_rfl)
          have l12 : l 11 = true := hn (11, some 14) (by simp) (by kernel_rfl)
          obtain ⟨b, hv, hzb, hB⟩ := hJ.a13 11 rfl l12
          refine pm_one rfl rfl (fun K' hK => ?_)
          refine wp_store_mid 42 (.tmp 14) (.tmp 91) rfl b 0 (knL jx).toArray (ev_tmp ((F 11 14 _ (by simp) l12 (by simp [Act.put])).trans hv)) (ev_tmp ((F 8 91 _ (by simp) l9 (by simp [Act.put])).trans (hJ.a10 8 rfl l9))) (by rw [knA_size]; exact there_blk hB) (by rw [knA_size]; exact info_kn) (knL_one _) ?_
          rw [knL_tl]
          exact hK _ _ ⟨undef, rfl, (Kp.setCells (w := wr) (b := b) (.inr hzb) _ _ _ (Kp.of_below hS No)).below, (Kp.setCells (w := Wd) (b := b) (.inr (by rw [HZD.out]; exact hzb)) _ _ _ (Kp.of_below hb No)).below, hJ.st15 13 (by omega) rfl l12 hv _⟩
      · intro lq vq W7 hS hb hl hJ
        have l7 := hl (5, some 89) (by simp)
        have l14 := hl (12, none) (by simp)
        have l15 := hl (13, none) (by simp)
        obtain ⟨b7, v12, hz7, hB7⟩ := hJ.a12 10 rfl (hl (10, some 13) (by simp))
        obtain ⟨b8, v13, hz8, hB8⟩ := hJ.a13 11 rfl (hl (11, some 14) (by simp))
        rw [if_pos l14] at hB7
        rw [if_pos l15] at hB8
        have v7 := hJ.a7 5 rfl l7
        have v8 := hJ.a8 6 rfl (hl (6, some 83) (by simp))
        have v9 := hJ.a9 7 rfl (hl (7, some 90) (by simp))
        have v10 := hJ.a10 8 rfl (hl (8, some 91) (by simp))
        have v11 := hJ.a11 9 rfl (hl (9, some 92) (by simp))
        have hne := hJ.e 10 rfl (hl (10, some 13) (by simp)) (hl (11, some 14) (by simp))
        have hne7 : b7 ≠ b8 := fun e => hne (by rw [v12, v13, e])
        simp only [putM, if_true, v7, v8, v9, v10, v11, v12, v13]
        clear hJ v7 v8 v9 v10 v11 v12 v13 hl l7 l14 l15 hne
        have HS7 := Lib.hid hS
        have HN7 := Lib.hid hB7
        have HJ8 := Lib.hid hB8
        clear hS hb hB7 hB8
        repeat (refine pm_pure rfl (fun K hK => ?_); go_simp; refine hK _ ?_; clear hK K)
        refine pm_done ?_
        refine NoPanic.normal ?_
        have HB7 := Lib.hid (HBR.out.trans (HS7.out.mono HBR.out.size))
        have c3 : W7.cell? ⟨ib + 1, 2, none⟩ = some (.bool tk) := by have := (HSp.out.below HB7.out).cell 2 (by simp); exact this.trans (congrArg some HTV.out)
        cases tk
        · go_upto_region 14 with fail
          clear c3
          obtain ⟨Wj, hWj⟩ : ∃ Wj, Wj = W7 := ⟨_, rfl⟩
          have HP7 := HN7
          have HBj := HB7
          rw [← hWj] at HP7 HBj ⊢
          clear hWj

          go_upto_region 15 with fail
          obtain ⟨We, hWe⟩ : ∃ We, We = Wj.drew := ⟨_, rfl⟩
          have hbe : Below Wj.heap.size Wj We := by rw [hWe]; exact (Below.refl _ _).drew
          have hze : We.heap.size = Wj.heap.size := by rw [hWe]; rfl
          refine wp_region_noPanic ?_
          refine planM (.rd 0 (.rd 1 (.rd 2 (.rd 3 (.rd 4 (.rd 5 (.many [(6, some 16), (7, some 17)] (.eff 8 (.eff 9 .done))))))))) [0, 1, 2, 3, 4, 5, 6, 7, 8] (fun W => Below Wj.heap.size Wj W) (by kernel_rfl) (by kernel_rfl) (fun _ _ _ _ _ h => h) (by rw [← hWe]; exact hbe) ?_
          rw [← hWe]
          clear hWe
          have HBe := Lib.hid hbe; have HZe := Lib.hid hze; clear hbe hze
          refine pm_pure rfl (fun K hK => ?_); go_simp; refine hK _ ?_; clear hK K
          refine pm_pure rfl (fun K hK => ?_); go_simp; refine hK _ ?_; clear hK K
          refine pm_rdv 100 (.agg #[.bool (nx.r 3).s, .int .u32 ((nx.r 3).l : Int), .int .u32 ((nx.r 3).g : Int)]) rfl rfl rfl (fun W hS => exec_load_mid 37 (.tmp 99) rfl b7 (1 + 3 * 3) (by kernel_rfl) [.bool (nx.r 3).s, .int .u32 ((nx.r 3).l : Int), .int .u32 ((nx.r 3).g : Int)] _ (by have := ((HP7.out.below hS).rangeAt (1 + 3 * 3) 3 (by omega)); exact this) Try.underlying37 rfl (by kernel_rfl)) ?_
          refine pm_pure rfl (fun K hK => ?_); go_simp; refine hK _ ?_; clear hK K
          refine pm_pure rfl (fun K hK => ?_); go_simp; refine hK _ ?_; clear hK K
          refine pm_rdv 103 (.agg #[.bool (nx.r 4).s, .int .u32 ((nx.r 4).l : Int), .int .u32 ((nx.r 4).g : Int)]) rfl rfl rfl (fun W hS => exec_load_mid 37 (.tmp 102) rfl b7 (1 + 4 * 3) (by kernel_rfl) [.bool (nx.r 4).s, .int .u32 ((nx.r 4).l : Int), .int .u32 ((nx.r 4).g : Int)] _ (by have := ((HP7.out.below hS).rangeAt (1 + 4 * 3) 3 (by omega)); exact this) Try.underlying37 rfl (by kernel_rfl)) ?_
          refine pm_manyJ (fun lq vq W => AlJ Wj.heap.size 6 7 37 3 (fun j => [.bool false, .int .u32 0, .int .u32 0].getD j undef) lq vq W) (AlJ.zero _ _ _ _ _ _ _) ?_ ?_
          · intro q hq lq vq w1 hS hb hl hn hJ
            simp only [List.mem_cons, List.not_mem_nil, or_false] at hq
            rcases hq with rfl | rfl
            · refine pm_one rfl rfl (fun K' hK => ?_)
              refine wp_value (w' := w1.alloc (.cells #[.bool false, .int .u32 0, .int .u32 0] 37)) (.pointer (some ⟨w1.heap.size, 0, none⟩)) (by kernel_rfl) ?_
              have hb3 : Below w1.heap.size w1 (w1.alloc (.cells #[.bool false, .int .u32 0, .int .u32 0] 37)) := (Below.refl _ _).alloc (Nat.le_refl _) _
              exact hK _ _ ⟨_, rfl, Below.trans hS (hb3.mono hS.size), hb3, hJ.up1 (by omega) hS.size [.bool false, .int .u32 0, .int .u32 0] rfl rfl⟩
            · refine pm_one rfl rfl (fun K' hK => ?_)
              refine wp_value (w' := w1.alloc (.cells #[.bool false, .int .u32 0, .int .u32 0] 37)) (.pointer (some ⟨w1.heap.size, 0, none⟩)) (by kernel_rfl) ?_
              have hb3 : Below w1.heap.size w1 (w1.alloc (.cells #[.bool false, .int .u32 0, .int .u32 0] 37)) := (Below.refl _ _).alloc (Nat.le_refl _) _
              exact hK _ _ ⟨_, rfl, Below.trans hS (hb3.mono hS.size), hb3, hJ.up2 (by omega) hS.size [.bool false, .int .u32 0, .int .u32 0] rfl rfl⟩
          · intro lq vq W8 hS hb hl hJ
            obtain ⟨b16, v16, hz16, hB16⟩ := hJ.a (hl (6, some 16) (by simp))
            obtain ⟨b17, v17, hz17, hB17⟩ := hJ.b (hl (7, some 17) (by simp))
            have hne := hJ.e (hl (6, some 16) (by simp)) (hl (7, some 17) (by simp))
            have hne2 : b16 ≠ b17 := fun e => hne (by rw [v16, v17, e])
            simp only [putM, if_true, v16, v17]
            clear hJ v16 v17 hl hne
            have hkA : Kp (fun k => k = b16) W8 (W8.setCells b16 0 [.bool (nx.r 3).s, .int .u32 ((nx.r 3).l : Int), .int .u32 ((nx.r 3).g : Int)]) := Kp.setCells (M := fun k => k = b16) (.inl rfl) _ _ _ (Kp.refl _ _)
            have hsA : Below Wj.heap.size Wj (W8.setCells b16 0 [.bool (nx.r 3).s, .int .u32 ((nx.r 3).l : Int), .int .u32 ((nx.r 3).g : Int)]) := (Kp.setCells (w := Wj) (b := b16) (.inr hz16) _ _ _ (Kp.of_below hS No)).below
            refine pm_store rfl rfl rfl 37 (.tmp 16) (.tmp 100) rfl b16 0 #[.bool (nx.r 3).s, .int .u32 ((nx.r 3).l : Int), .int .u32 ((nx.r 3).g : Int)] (by kernel_rfl) (by kernel_rfl) (there_mid hB16 0 3 (by omega)) (by kernel_rfl) (by simp [Value.oneCell']) (fun _ => hsA) ?_
            refine pm_store rfl rfl rfl 37 (.tmp 17) (.tmp 103) rfl b17 0 #[.bool (nx.r 4).s, .int .u32 ((nx.r 4).l : Int), .int .u32 ((nx.r 4).g : Int)] (by kernel_rfl) (by kernel_rfl) (there_mid (hB17.keep hkA (fun e => hne2 e.symm)) 0 3 (by omega)) (by kernel_rfl) (by simp [Value.oneCell']) (fun h => by cases h) ?_
            refine pm_done ?_
            refine NoPanic.normal ?_
            have hc16 := (hB16.fill (fun j => [.bool (nx.r 3).s, .int .u32 ((nx.r 3).l : Int), .int .u32 ((nx.r 3).g : Int)].getD j undef))
            have hkB : Kp (fun k => k = b17) (W8.setCells b16 0 [.bool (nx.r 3).s, .int .u32 ((nx.r 3).l : Int), .int .u32 ((nx.r 3).g : Int)]) ((W8.setCells b16 0 [.bool (nx.r 3).s, .int .u32 ((nx.r 3).l : Int), .int .u32 ((nx.r 3).g : Int)]).setCells b17 0 [.bool (nx.r 4).s, .int .u32 ((nx.r 4).l : Int), .int .u32 ((nx.r 4).g : Int)]) := Kp.setCells (M := fun k => k = b17) (.inl rfl) _ _ _ (Kp.refl _ _)
            have hc17 := ((hB17.keep hkA (fun e => hne2 e.symm)).fill (fun j => [.bool (nx.r 4).s, .int .u32 ((nx.r 4).l : Int), .int .u32 ((nx.r 4).g : Int)].getD j undef))
            obtain ⟨Wz, hWz⟩ : ∃ Wz, Wz = (W8.setCells b16 0 [.bool (nx.r 3).s, .int .u32 ((nx.r 3).l : Int), .int .u32 ((nx.r 3).g : Int)]).setCells b17 0 [.bool (nx.r 4).s, .int .u32 ((nx.r 4).l : Int), .int .u32 ((nx.r 4).g : Int)] := ⟨_, rfl⟩
            have h16 : Blk Wz b16 37 3 (fun j => [.bool (nx.r 3).s, .int .u32 ((nx.r 3).l : Int), .int .u32 ((nx.r 3).g : Int)].getD j undef) := by rw [hWz]; exact Blk.keep (M := fun k => k = b17) hc16 hkB hne2
            have h17 : Blk Wz b17 37 3 (fun j => [.bool (nx.r 4).s, .int .u32 ((nx.r 4).l : Int), .int .u32 ((nx.r 4).g : Int)].getD j undef) := by rw [hWz]; exact hc17
            have hbz : Below Wj.heap.size Wj Wz := by rw [hWz]; exact (Kp.setCells (w := Wj) (b := b17) (.inr hz17) _ _ _ (Kp.of_below hsA No)).below
            have HBz := Lib.hid (HBj.out.trans (hbz.mono HBj.out.size))
            have HPz := Lib.hid (HP7.out.below hbz)
            show Exit.then _ _ _ _ ((W8.setCells b16 0 [.bool (nx.r 3).s, .int .u32 ((nx.r 3).l : Int), .int .u32 ((nx.r 3).g : Int)]).setCells b17 0 [.bool (nx.r 4).s, .int .u32 ((nx.r 4).l : Int), .int .u32 ((nx.r 4).g : Int)])
            rw [← hWz]
            clear hWz hc16 hc17 hkA hkB hsA hbz hB16 hB17
            obtain ⟨he, hpc, ⟨hl3, hg3⟩, ⟨hl4, hg4⟩⟩ := HPL.out
            simp only [if_true, Bool.false_eq_true, if_false] at hpc hl3 hg3 hl4 hg4
            subst he
            have pc : Wz.cell? ⟨b7, 0, none⟩ = some (.bool true) := by have := HPz.out.cell 0 (by omega); rw [show knF nx 0 = .bool nx.come from rfl, hpc] at this; exact this
            have e1 : Wz.cell? ⟨b16, 1, none⟩ = some (.int .u32 ((nx.r 3).l : Int)) := h16.cell 1 (by omega)
            have e2 : Wz.cell? ⟨b16, 2, none⟩ = some (.int .u32 ((nx.r 3).g : Int)) := h16.cell 2 (by omega)
            have e3 : Wz.cell? ⟨b17, 1, none⟩ = some (.int .u32 ((nx.r 4).l : Int)) := h17.cell 1 (by omega)
            have e4 : Wz.cell? ⟨b17, 2, none⟩ = some (.int .u32 ((nx.r 4).g : Int)) := h17.cell 2 (by omega)
            clear h16 h17
            have i1 : ¬ (a : Int) < (((nx.r 3).l : Nat) : Int) := by omega
            have i2 : ¬ (((nx.r 3).g : Nat) : Int) < (a : Int) := by omega
            have i3 : ¬ (b : Int) < (((nx.r 4).l : Nat) : Int) := by omega
            have i4 : ¬ (((nx.r 4).g : Nat) : Int) < (b : Int) := by omega
            go_wp2
            go_roundw
            case rel => exact ⟨3, by omega, by go_num, HBz.out⟩
            case measure => simp [intOf]
        · go_upto_region 14 with fail
          clear c3
          refine wp_region_list ?_
          refine wpList_load_mid rfl 42 (.tmp 14) (by kernel_rfl) b8 0 (by kernel_rfl) (knL jx) _ HJ8.out.range Try.underlying42 rfl (by rw [knL_length]; exact info_kn) ?_
          refine wpList_store_mid rfl 42 (.tmp 13) (.tmp 97) (by kernel_rfl) b7 0 (knL jx).toArray (by kernel_rfl) (by kernel_rfl) (by rw [knA_size]; exact there_blk HN7.out) (by rw [knA_size]; exact info_kn) (knL_one _) ?_
          obtain ⟨Wj, hWj⟩ : ∃ Wj, Wj = W7.setCells b7 0 (knL jx).toArray.toList := ⟨_, rfl⟩
          have hp7 : Blk Wj b7 42 31 (knF jx) := by rw [hWj, knL_tl]; exact HN7.out.fill _
          have hbj : Below wr.heap.size wr Wj := by rw [hWj]; exact (Kp.setCells (w := wr) (b := b7) (.inr (by omega)) _ _ _ (Kp.of_below HS7.out No)).below
          have HP7 := Lib.hid hp7
          have HBj := Lib.hid (HBR.out.trans (hbj.mono HBR.out.size))
          rw [← hWj]
          clear hWj hp7 hbj

          go_upto_region 15 with fail
          obtain ⟨We, hWe⟩ : ∃ We, We = Wj.drew := ⟨_, rfl⟩
          have hbe : Below Wj.heap.size Wj We := by rw [hWe]; exact (Below.refl _ _).drew
          have hze : We.heap.size = Wj.heap.size := by rw [hWe]; rfl
          refine wp_region_noPanic ?_
          refine planM (.rd 0 (.rd 1 (.rd 2 (.rd 3 (.rd 4 (.rd 5 (.many [(6, some 16), (7, some 17)] (.eff 8 (.eff 9 .done))))))))) [0, 1, 2, 3, 4, 5, 6, 7, 8] (fun W => Below Wj.heap.size Wj W) (by kernel_rfl) (by kernel_rfl) (fun _ _ _ _ _ h => h) (by rw [← hWe]; exact hbe) ?_
          rw [← hWe]
          clear hWe
          have HBe := Lib.hid hbe; have HZe := Lib.hid hze; clear hbe hze
          refine pm_pure rfl (fun K hK => ?_); go_simp; refine hK _ ?_; clear hK K
          refine pm_pure rfl (fun K hK => ?_); go_simp; refine hK _ ?_; clear hK K
          refine pm_rdv 100 (.agg #[.bool (jx.r 3).s, .int .u32 ((jx.r 3).l : Int), .int .u32 ((jx.r 3).g : Int)]) rfl rfl rfl (fun W hS => exec_load_mid 37 (.tmp 99) rfl b7 (1 + 3 * 3) (by kernel_rfl) [.bool (jx.r 3).s, .int .u32 ((jx.r 3).l : Int), .int .u32 ((jx.r 3).g : Int)] _ (by have := ((HP7.out.below hS).rangeAt (1 + 3 * 3) 3 (by omega)); exact this) Try.underlying37 rfl (by kernel_rfl)) ?_
          refine pm_pure rfl (fun K hK => ?_); go_simp; refine hK _ ?_; clear hK K
          refine pm_pure rfl (fun K hK => ?_); go_simp; refine hK _ ?_; clear hK K
          refine pm_rdv 103 (.agg #[.bool (jx.r 4).s, .int .u32 ((jx.r 4).l : Int), .int .u32 ((jx.r 4).g : Int)]) rfl rfl rfl (fun W hS => exec_load_mid 37 (.tmp 102) rfl b7 (1 + 4 * 3) (by kernel_rfl) [.bool (jx.r 4).s, .int .u32 ((jx.r 4).l : Int), .int .u32 ((jx.r 4).g : Int)] _ (by have := ((HP7.out.below hS).rangeAt (1 + 4 * 3) 3 (by omega)); exact this) Try.underlying37 rfl (by kernel_rfl)) ?_
          refine pm_manyJ (fun lq vq W => AlJ Wj.heap.size 6 7 37 3 (fun j => [.bool false, .int .u32 0, .int .u32 0].getD j undef) lq vq W) (AlJ.zero _ _ _ _ _ _ _) ?_ ?_
          · intro q hq lq vq w1 hS hb hl hn hJ
            simp only [List.mem_cons, List.not_mem_nil, or_false] at hq
            rcases hq with rfl | rfl
            · refine pm_one rfl rfl (fun K' hK => ?_)
              refine wp_value (w' := w1.alloc (.cells #[.bool false, .int .u32 0, .int .u32 0] 37)) (.pointer (some ⟨w1.heap.size, 0, none⟩)) (by kernel_rfl) ?_
              have hb3 : Below w1.heap.size w1 (w1.alloc (.cells #[.bool false, .int .u32 0, .int .u32 0] 37)) := (Below.refl _ _).alloc (Nat.le_refl _) _
              exact hK _ _ ⟨_, rfl, Below.trans hS (hb3.mono hS.size), hb3, hJ.up1 (by omega) hS.size [.bool false, .int .u32 0, .int .u32 0] rfl rfl⟩
            · refine pm_one rfl rfl (fun K' hK => ?_)
              refine wp_value (w' := w1.alloc (.cells #[.bool false, .int .u32 0, .int .u32 0] 37)) (.pointer (some ⟨w1.heap.size, 0, none⟩)) (by kernel_rfl) ?_
              have hb3 : Below w1.heap.size w1 (w1.alloc (.cells #[.bool false, .int .u32 0, .int .u32 0] 37)) := (Below.refl _ _).alloc (Nat.le_refl _) _
              exact hK _ _ ⟨_, rfl, Below.trans hS (hb3.mono hS.size), hb3, hJ.up2 (by omega) hS.size [.bool false, .int .u32 0, .int .u32 0] rfl rfl⟩
          · intro lq vq W8 hS hb hl hJ
            obtain ⟨b16, v16, hz16, hB16⟩ := hJ.a (hl (6, some 16) (by simp))
            obtain ⟨b17, v17, hz17, hB17⟩ := hJ.b (hl (7, some 17) (by simp))
            have hne := hJ.e (hl (6, some 16) (by simp)) (hl (7, some 17) (by simp))
            have hne2 : b16 ≠ b17 := fun e => hne (by rw [v16, v17, e])
            simp only [putM, if_true, v16, v17]
            clear hJ v16 v17 hl hne
            have hkA : Kp (fun k => k = b16) W8 (W8.setCells b16 0 [.bool (jx.r 3).s, .int .u32 ((jx.r 3).l : Int), .int .u32 ((jx.r 3).g : Int)]) := Kp.setCells (M := fun k => k = b16) (.inl rfl) _ _ _ (Kp.refl _ _)
            have hsA : Below Wj.heap.size Wj (W8.setCells b16 0 [.bool (jx.r 3).s, .int .u32 ((jx.r 3).l : Int), .int .u32 ((jx.r 3).g : Int)]) := (Kp.setCells (w := Wj) (b := b16) (.inr hz16) _ _ _ (Kp.of_below hS No)).below
            refine pm_store rfl rfl rfl 37 (.tmp 16) (.tmp 100) rfl b16 0 #[.bool (jx.r 3).s, .int .u32 ((jx.r 3).l : Int), .int .u32 ((jx.r 3).g : Int)] (by kernel_rfl) (by kernel_rfl) (there_mid hB16 0 3 (by omega)) (by kernel_rfl) (by simp [Value.oneCell']) (fun _ => hsA) ?_
            refine pm_store rfl rfl rfl 37 (.tmp 17) (.tmp 103) rfl b17 0 #[.bool (jx.r 4).s, .int .u32 ((jx.r 4).l : Int), .int .u32 ((jx.r 4).g : Int)] (by kernel_rfl) (by kernel_rfl) (there_mid (hB17.keep hkA (fun e => hne2 e.symm)) 0 3 (by omega)) (by kernel_rfl) (by simp [Value.oneCell']) (fun h => by cases h) ?_
            refine pm_done ?_
            refine NoPanic.normal ?_
            have hc16 := (hB16.fill (fun j => [.bool (jx.r 3).s, .int .u32 ((jx.r 3).l : Int), .int .u32 ((jx.r 3).g : Int)].getD j undef))
            have hkB : Kp (fun k => k = b17) (W8.setCells b16 0 [.bool (jx.r 3).s, .int .u32 ((jx.r 3).l : Int), .int .u32 ((jx.r 3).g : Int)]) ((W8.setCells b16 0 [.bool (jx.r 3).s, .int .u32 ((jx.r 3).l : Int), .int .u32 ((jx.r 3).g : Int)]).setCells b17 0 [.bool (jx.r 4).s, .int .u32 ((jx.r 4).l : Int), .int .u32 ((jx.r 4).g : Int)]) := Kp.setCells (M := fun k => k = b17) (.inl rfl) _ _ _ (Kp.refl _ _)
            have hc17 := ((hB17.keep hkA (fun e => hne2 e.symm)).fill (fun j => [.bool (jx.r 4).s, .int .u32 ((jx.r 4).l : Int), .int .u32 ((jx.r 4).g : Int)].getD j undef))
            obtain ⟨Wz, hWz⟩ : ∃ Wz, Wz = (W8.setCells b16 0 [.bool (jx.r 3).s, .int .u32 ((jx.r 3).l : Int), .int .u32 ((jx.r 3).g : Int)]).setCells b17 0 [.bool (jx.r 4).s, .int .u32 ((jx.r 4).l : Int), .int .u32 ((jx.r 4).g : Int)] := ⟨_, rfl⟩
            have h16 : Blk Wz b16 37 3 (fun j => [.bool (jx.r 3).s, .int .u32 ((jx.r 3).l : Int), .int .u32 ((jx.r 3).g : Int)].getD j undef) := by rw [hWz]; exact Blk.keep (M := fun k => k = b17) hc16 hkB hne2
            have h17 : Blk Wz b17 37 3 (fun j => [.bool (jx.r 4).s, .int .u32 ((jx.r 4).l : Int), .int .u32 ((jx.r 4).g : Int)].getD j undef) := by rw [hWz]; exact hc17
            have hbz : Below Wj.heap.size Wj Wz := by rw [hWz]; exact (Kp.setCells (w := Wj) (b := b17) (.inr hz17) _ _ _ (Kp.of_below hsA No)).below
            have HBz := Lib.hid (HBj.out.trans (hbz.mono HBj.out.size))
            have HPz := Lib.hid (HP7.out.below hbz)
            show Exit.then _ _ _ _ ((W8.setCells b16 0 [.bool (jx.r 3).s, .int .u32 ((jx.r 3).l : Int), .int .u32 ((jx.r 3).g : Int)]).setCells b17 0 [.bool (jx.r 4).s, .int .u32 ((jx.r 4).l : Int), .int .u32 ((jx.r 4).g : Int)])
            rw [← hWz]
            clear hWz hc16 hc17 hkA hkB hsA hbz hB16 hB17
            obtain ⟨he, hpc, ⟨hl3, hg3⟩, ⟨hl4, hg4⟩⟩ := HPL.out
            simp only [if_true, Bool.false_eq_true, if_false] at hpc hl3 hg3 hl4 hg4
            subst he
            have pc : Wz.cell? ⟨b7, 0, none⟩ = some (.bool true) := by have := HPz.out.cell 0 (by omega); rw [show knF jx 0 = .bool jx.come from rfl, hpc] at this; exact this
            have e1 : Wz.cell? ⟨b16, 1, none⟩ = some (.int .u32 ((jx.r 3).l : Int)) := h16.cell 1 (by omega)
            have e2 : Wz.cell? ⟨b16, 2, none⟩ = some (.int .u32 ((jx.r 3).g : Int)) := h16.cell 2 (by omega)
            have e3 : Wz.cell? ⟨b17, 1, none⟩ = some (.int .u32 ((jx.r 4).l : Int)) := h17.cell 1 (by omega)
            have e4 : Wz.cell? ⟨b17, 2, none⟩ = some (.int .u32 ((jx.r 4).g : Int)) := h17.cell 2 (by omega)
            clear h16 h17
            have i1 : ¬ (a : Int) < (((jx.r 3).l : Nat) : Int) := by omega
            have i2 : ¬ (((jx.r 3).g : Nat) : Int) < (a : Int) := by omega
            have i3 : ¬ (b : Int) < (((jx.r 4).l : Nat) : Int) := by omega
            have i4 : ¬ (((jx.r 4).g : Nat) : Int) < (b : Int) := by omega
            go_wp2
            go_roundw
            case rel => exact ⟨3, by omega, by go_num, HBz.out⟩
            case measure => simp [intOf]
    · obtain ⟨nx, jx, ev, hbv, hbb⟩ := bh_cases 0 ⟨22, 3, 3, 1, 0⟩ kk
      have HPL := Lib.hid (jumps_b dl dg sl sg a b I 22 3 false 0 HAD.out HBS.out (.inr (.inr (.inr ⟨rfl, rfl, rfl, rfl⟩))) (by have := hbb; rw [HKK.out] at this; exact this))
      have hbk : ∀ W, Calls Try.prog 18 #[.agg #[.int .i64 22, .int .i64 3, .int .i64 3, .int .i64 1, .int .u32 0], .int .i64 0, .agg (knL kk).toArray] W fun e w' => e = .returned (.tuple #[.agg (knL nx).toArray, .agg (knL jx).toArray, .int .i64 (ev : Int)]) ∧ Below W.heap.size W w' := fun W => by
        have := behind_ok W ⟨22, 3, 3, 1, 0⟩ 0 kk HMY.out.2.2.2 HRT.out (by omega)
        rw [hbv] at this
        exact this
      have HBK := Lib.hid hbk
      clear hbk hbb hbv
      obtain ⟨tk, htk⟩ : ∃ tk : Bool, tk = false := ⟨_, rfl⟩
      rw [← htk] at HPL
      have htv : Value.bool false = .bool tk := by rw [htk]
      have HTV := Lib.hid htv
      clear htk htv
      go_upto_region 12 with fail

      obtain ⟨Wd, hWd⟩ : ∃ Wd, Wd = wr.drew := ⟨_, rfl⟩
      have hbd : Below wr.heap.size wr Wd := by rw [hWd]; exact (Below.refl _ _).drew
      have hzd : Wd.heap.size = wr.heap.size := by rw [hWd]; rfl
      refine wp_region_noPanic ?_
      refine planM (.rd 0 (.rd 1 (.rd 2 (.rd 3 (.rd 4 (.many [(5, some 89), (6, some 83), (7, some 90), (8, some 91), (9, some 92), (10, some 13), (11, some 14), (12, none), (13, none)] (.rd 14 .done))))))) [0, 1, 2, 3, 4, 5, 6, 7, 8, 9, 10, 11, 12, 13] (fun W => Below wr.heap.size wr W) (by kernel_rfl) (by kernel_rfl) (fun _ _ _ _ _ h => h) (by rw [← hWd]; exact hbd) ?_
      rw [← hWd]
      clear hWd
      have HBD := Lib.hid hbd; have HZD := Lib.hid hzd; clear hbd hzd
      refine pm_pure rfl (fun K hK => ?_); go_simp; refine hK _ ?_; clear hK K
      refine pm_pure rfl (fun K hK => ?_); go_simp; refine hK _ ?_; clear hK K
      refine pm_pure rfl (fun K hK => ?_); go_simp; refine hK _ ?_; clear hK K
      refine pm_rdv 87 (.agg #[.int .i64 22, .int .i64 3, .int .i64 3, .int .i64 1, .int .u32 0]) rfl rfl rfl (fun W hS => exec_load_mid 45 (.tmp 86) rfl ib 15 (by kernel_rfl) [.int .i64 22, .int .i64 3, .int .i64 3, .int .i64 1, .int .u32 0] _ (by have := ((HIp.out.below (HBR.out.trans (hS.mono HBR.out.size))).rangeAt 15 5 (by omega)); exact this) Try.underlying45 rfl size_ins) ?_
      refine pm_rdv 88 (.agg (knL kk).toArray) rfl rfl rfl (fun W hS => exec_load_mid 42 (.tmp 9) rfl kb 0 (by kernel_rfl) (knL kk) _ (by have := ((HKp.out.below (HBR.out.trans (hS.mono HBR.out.size)))).range; exact this) Try.underlying42 rfl (by rw [knL_length]; exact info_kn)) ?_
      refine pm_manyW (fun l v W => KJ 2 wr.heap.size (.tuple #[.agg (knL nx).toArray, .agg (knL jx).toArray, .int .i64 (ev : Int)]) (.agg (knL nx).toArray) (.agg (knL jx).toArray) (.int .i64 (ev : Int)) nx jx l v W) (KJ.zero _ _ _ _ _ _ _ _ _) ?_ ?_
      · intro q hq l v w1 hS hb hl hn hJ
        have E : ∀ (t : Nat) (a : Act), (∀ k, k ∈ [(5, some 89), (6, some 83), (7, some 90), (8, some 91), (9, some 92), (10, some 13), (11, some 14), (12, none), (13, none)] → k.2 ≠ some t) → (putM v l [(5, some 89), (6, some 83), (7, some 90), (8, some 91), (9, some 92), (10, some 13), (11, some 14), (12, none), (13, none)] a).tmps[t]?.getD undef = a.tmps[t]?.getD undef := fun t a h => by simpa [Array.getD_eq_getD_getElem?] using putM_eval_other (v := v) (l := l) t [(5, some 89), (6, some 83), (7, some 90), (8, some 91), (9, some 92), (10, some 13), (11, some 14), (12, none), (13, none)] a h
        have F : ∀ (k t : Nat) (a : Act), (k, some t) ∈ [(5, some 89), (6, some 83), (7, some 90), (8, some 91), (9, some 92), (10, some 13), (11, some 14), (12, none), (13, none)] → l k = true → t < a.tmps.size → (putM v l [(5, some 89), (6, some 83), (7, some 90), (8, some 91), (9, some 92), (10, some 13), (11, some 14), (12, none), (13, none)] a).tmps[t]?.getD undef = v k := fun k t a h1 h2 h3 => by simpa [Array.getD_eq_getD_getElem?] using putM_eval_at (v := v) (l := l) t [(5, some 89), (6, some 83), (7, some 90), (8, some 91), (9, some 92), (10, some 13), (11, some 14), (12, none), (13, none)] a k (by kernel_rfl) h1 h2 h3
        simp only [List.mem_cons, List.not_mem_nil, or_false] at hq
        rcases hq with rfl | rfl | rfl | rfl | rfl | rfl | rfl | rfl | rfl
        · refine pm_one rfl rfl (fun K' hK => ?_)
          refine wp_calls_ret (f := 18) (args := #[.agg #[.int .i64 22, .int .i64 3, .int .i64 3, .int .i64 1, .int .u32 0], .int .i64 0, .agg (knL kk).toArray]) ?_ (HBK.out w1) (fun w3 hb3 => ?_)
          · simp [execOp, go_sem]
            exact ⟨(E 87 _ (by simp)).trans rfl, (E 88 _ (by simp)).trans rfl⟩
          exact hK _ _ ⟨_, rfl, Below.trans hS (hb3.mono hS.size), Below.trans hb (hb3.mono hb.size), hJ.up hb3 5 (by omega) _ (.inl ⟨rfl, rfl⟩)⟩
        · have l7 : l 5 = true := hn (5, some 89) (by simp) (by kernel_rfl)
          refine pm_one rfl rfl (fun K' hK => ?_)
          refine wp_value (w' := w1) _ (exec_mv 89 rfl _ ((F 5 89 _ (by simp) l7 (by simp [Act.put])).trans (hJ.a7 5 rfl l7))) ?_
          exact hK _ _ ⟨_, rfl, hS, hb, hJ.up (Below.refl _ _) 6 (by omega) _ (.inr (.inl ⟨rfl, rfl⟩))⟩
        · have l8 : l 6 = true := hn (6, some 83) (by simp) (by kernel_rfl)
          refine pm_one rfl rfl (fun K' hK => ?_)
          refine wp_value (w' := w1) (.agg (knL nx).toArray) (exec_extract 83 0 rfl _ _ ((F 6 83 _ (by simp) l8 (by simp [Act.put])).trans (hJ.a8 6 rfl l8)) rfl) ?_
          exact hK _ _ ⟨_, rfl, hS, hb, hJ.up (Below.refl _ _) 7 (by omega) _ (.inr (.inr (.inl ⟨rfl, rfl⟩)))⟩
        · have l8 : l 6 = true := hn (6, some 83) (by simp) (by kernel_rfl)
          refine pm_one rfl rfl (fun K' hK => ?_)
          refine wp_value (w' := w1) (.agg (knL jx).toArray) (exec_extract 83 1 rfl _ _ ((F 6 83 _ (by simp) l8 (by simp [Act.put])).trans (hJ.a8 6 rfl l8)) rfl) ?_
          exact hK _ _ ⟨_, rfl, hS, hb, hJ.up (Below.refl _ _) 8 (by omega) _ (.inr (.inr (.inr (.inl ⟨rfl, rfl⟩))))⟩
        · have l8 : l 6 = true := hn (6, some 83) (by simp) (by kernel_rfl)
          refine pm_one rfl rfl (fun K' hK => ?_)
          refine wp_value (w' := w1) (.int .i64 (ev : Int)) (exec_extract 83 2 rfl _ _ ((F 6 83 _ (by simp) l8 (by simp [Act.put])).trans (hJ.a8 6 rfl l8)) rfl) ?_
          exact hK _ _ ⟨_, rfl, hS, hb, hJ.up (Below.refl _ _) 9 (by omega) _ (.inr (.inr (.inr (.inr ⟨rfl, rfl⟩))))⟩
        · refine pm_one rfl rfl (fun K' hK => ?_)
          refine wp_value (w' := w1.alloc (.cells #[.bool false, .bool false, .int .u32 0, .int .u32 0, .bool false, .int .u32 0, .int .u32 0, .bool false, .int .u32 0, .int .u32 0, .bool false, .int .u32 0, .int .u32 0, .bool false, .int .u32 0, .int .u32 0, .bool false, .int .u32 0, .int .u32 0, .bool false, .int .u32 0, .int .u32 0, .bool false, .int .u32 0, .int .u32 0, .bool false, .int .u32 0, .int .u32 0, .bool false, .int .u32 0, .int .u32 0] 42)) (.pointer (some ⟨w1.heap.size, 0, none⟩)) (by kernel_rfl) ?_
          have hb3 : Below w1.heap.size w1 (w1.alloc (.cells #[.bool false, .bool false, .int .u32 0, .int .u32 0, .bool false, .int .u32 0, .int .u32 0, .bool false, .int .u32 0, .int .u32 0, .bool false, .int .u32 0, .int .u32 0, .bool false, .int .u32 0, .int .u32 0, .bool false, .int .u32 0, .int .u32 0, .bool false, .int .u32 0, .int .u32 0, .bool false, .int .u32 0, .int .u32 0, .bool false, .int .u32 0, .int .u32 0, .bool false, .int .u32 0, .int .u32 0] 42)) := (Below.refl _ _).alloc (Nat.le_refl _) _
          exact hK _ _ ⟨_, rfl, Below.trans hS (hb3.mono hS.size), Below.trans hb (hb3.mono hb.size), hJ.al12 10 (by omega) rfl hl hS.size _ rfl⟩
        · refine pm_one rfl rfl (fun K' hK => ?_)
          refine wp_value (w' := w1.alloc (.cells #[.bool false, .bool false, .int .u32 0, .int .u32 0, .bool false, .int .u32 0, .int .u32 0, .bool false, .int .u32 0, .int .u32 0, .bool false, .int .u32 0, .int .u32 0, .bool false, .int .u32 0, .int .u32 0, .bool false, .int .u32 0, .int .u32 0, .bool false, .int .u32 0, .int .u32 0, .bool false, .int .u32 0, .int .u32 0, .bool false, .int .u32 0, .int .u32 0, .bool false, .int .u32 0, .int .u32 0] 42)) (.pointer (some ⟨w1.heap.size, 0, none⟩)) (by kernel_rfl) ?_
          have hb3 : Below w1.heap.size w1 (w1.alloc (.cells #[.bool false, .bool false, .int .u32 0, .int .u32 0, .bool false, .int .u32 0, .int .u32 0, .bool false, .int .u32 0, .int .u32 0, .bool false, .int .u32 0, .int .u32 0, .bool false, .int .u32 0, .int .u32 0, .bool false, .int .u32 0, .int .u32 0, .bool false, .int .u32 0, .int .u32 0, .bool false, .int .u32 0, .int .u32 0, .bool false, .int .u32 0, .int .u32 0, .bool false, .int .u32 0, .int .u32 0] 42)) := (Below.refl _ _).alloc (Nat.le_refl _) _
          exact hK _ _ ⟨_, rfl, Below.trans hS (hb3.mono hS.size), Below.trans hb (hb3.mono hb.size), hJ.al13 11 (by omega) rfl hl hS.size _ rfl⟩
        · have l9 : l 7 = true := hn (7, some 90) (by simp) (by kernel_rfl)
          have l12 : l 10 = true := hn (10, some 13) (by simp) (by kernel_rfl)
          obtain ⟨b, hv, hzb, hB⟩ := hJ.a12 10 rfl l12
          refine pm_one rfl rfl (fun K' hK => ?_)
          refine wp_store_mid 42 (.tmp 13) (.tmp 90) rfl b 0 (knL nx).toArray (ev_tmp ((F 10 13 _ (by simp) l12 (by simp [Act.put])).trans hv)) (ev_tmp ((F 7 90 _ (by simp) l9 (by simp [Act.put])).trans (hJ.a9 7 rfl l9))) (by rw [knA_size]; exact there_blk hB) (by rw [knA_size]; exact info_kn) (knL_one _) ?_
          rw [knL_tl]
          exact hK _ _ ⟨undef, rfl, (Kp.setCells (w := wr) (b := b) (.inr hzb) _ _ _ (Kp.of_below hS No)).below, (Kp.setCells (w := Wd) (b := b) (.inr (by rw [HZD.out]; exact hzb)) _ _ _ (Kp.of_below hb No)).below, hJ.st14 12 (by omega) rfl l12 hv _⟩
        · have l9 : l 8 = true := hn (8, some 91) (by simp) (by kernel_rfl)
          have l12 : l 11 = true := hn (11, some 14) (by simp) (by kernel_rfl)
          obtain ⟨b, hv, hzb, hB⟩ := hJ.a13 11 rfl l12
          refine pm_one rfl rfl (fun K' hK => ?_)
          refine wp_store_mid 42 (.tmp 14) (.tmp 91) rfl b 0 (knL jx).toArray (ev_tmp ((F 11 14 _ (by simp) l12 (by simp [Act.put])).trans hv)) (ev_tmp ((F 8 91 _ (by simp) l9 (by simp [Act.put])).trans (hJ.a10 8 rfl l9))) (by rw [knA_size]; exact there_blk hB) (by rw [knA_size]; exact info_kn) (knL_one _) ?_
          rw [knL_tl]
          exact hK _ _ ⟨undef, rfl, (Kp.setCells (w := wr) (b := b) (.inr hzb) _ _ _ (Kp.of_below hS No)).below, (Kp.setCells (w := Wd) (b := b) (.inr (by rw [HZD.out]; exact hzb)) _ _ _ (Kp.of_below hb No)).below, hJ.st15 13 (by omega) rfl l12 hv _⟩
      · intro lq vq W7 hS hb hl hJ
        have l7 := hl (5, some 89) (by simp)
        have l14 := hl (12, none) (by simp)
        have l15 := hl (13, none) (by simp)
        obtain ⟨b7, v12, hz7, hB7⟩ := hJ.a12 10 rfl (hl (10, some 13) (by simp))
        obtain ⟨b8, v13, hz8, hB8⟩ := hJ.a13 11 rfl (hl (11, some 14) (by simp))
        rw [if_pos l14] at hB7
        rw [if_pos l15] at hB8
        have v7 := hJ.a7 5 rfl l7
        have v8 := hJ.a8 6 rfl (hl (6, some 83) (by simp))
        have v9 := hJ.a9 7 rfl (hl (7, some 90) (by simp))
        have v10 := hJ.a10 8 rfl (hl (8, some 91) (by simp))
        have v11 := hJ.a11 9 rfl (hl (9, some 92) (by simp))
        have hne := hJ.e 10 rfl (hl (10, some 13) (by simp)) (hl (11, some 14) (by simp))
        have hne7 : b7 ≠ b8 := fun e => hne (by rw [v12, v13, e])
        simp only [putM, if_true, v7, v8, v9, v10, v11, v12, v13]
        clear hJ v7 v8 v9 v10 v11 v12 v13 hl l7 l14 l15 hne
        have HS7 := Lib.hid hS
        have HN7 := Lib.hid hB7
        have HJ8 := Lib.hid hB8
        clear hS hb hB7 hB8
        repeat (refine pm_pure rfl (fun K hK => ?_); go_simp; refine hK _ ?_; clear hK K)
        refine pm_done ?_
        refine NoPanic.normal ?_
        have HB7 := Lib.hid (HBR.out.trans (HS7.out.mono HBR.out.size))
        have c3 : W7.cell? ⟨ib + 1, 3, none⟩ = some (.bool tk) := by have := (HSp.out.below HB7.out).cell 3 (by simp); exact this.trans (congrArg some HTV.out)
        cases tk
        · go_upto_region 14 with fail
          clear c3
          obtain ⟨Wj, hWj⟩ : ∃ Wj, Wj = W7 := ⟨_, rfl⟩
          have HP7 := HN7
          have HBj := HB7
          rw [← hWj] at HP7 HBj ⊢
          clear hWj

          go_upto_region 15 with fail
          obtain ⟨We, hWe⟩ : ∃ We, We = Wj.drew := ⟨_, rfl⟩
          have hbe : Below Wj.heap.size Wj We := by rw [hWe]; exact (Below.refl _ _).drew
          have hze : We.heap.size = Wj.heap.size := by rw [hWe]; rfl
          refine wp_region_noPanic ?_
          refine planM (.rd 0 (.rd 1 (.rd 2 (.rd 3 (.rd 4 (.rd 5 (.many [(6, some 16), (7, some 17)] (.eff 8 (.eff 9 .done))))))))) [0, 1, 2, 3, 4, 5, 6, 7, 8] (fun W => Below Wj.heap.size Wj W) (by kernel_rfl) (by kernel_rfl) (fun _ _ _ _ _ h => h) (by rw [← hWe]; exact hbe) ?_
          rw [← hWe]
          clear hWe
          have HBe := Lib.hid hbe; have HZe := Lib.hid hze; clear hbe hze
          refine pm_pure rfl (fun K hK => ?_); go_simp; refine hK _ ?_; clear hK K
          refine pm_pure rfl (fun K hK => ?_); go_simp; refine hK _ ?_; clear hK K
          refine pm_rdv 100 (.agg #[.bool (nx.r 3).s, .int .u32 ((nx.r 3).l : Int), .int .u32 ((nx.r 3).g : Int)]) rfl rfl rfl (fun W hS => exec_load_mid 37 (.tmp 99) rfl b7 (1 + 3 * 3) (by kernel_rfl) [.bool (nx.r 3).s, .int .u32 ((nx.r 3).l : Int), .int .u32 ((nx.r 3).g : Int)] _ (by have := ((HP7.out.below hS).rangeAt (1 + 3 * 3) 3 (by omega)); exact this) Try.underlying37 rfl (by kernel_rfl)) ?_
          refine pm_pure rfl (fun K hK => ?_); go_simp; refine hK _ ?_; clear hK K
          refine pm_pure rfl (fun K hK => ?_); go_simp; refine hK _ ?_; clear hK K
          refine pm_rdv 103 (.agg #[.bool (nx.r 4).s, .int .u32 ((nx.r 4).l : Int), .int .u32 ((nx.r 4).g : Int)]) rfl rfl rfl (fun W hS => exec_load_mid 37 (.tmp 102) rfl b7 (1 + 4 * 3) (by kernel_rfl) [.bool (nx.r 4).s, .int .u32 ((nx.r 4).l : Int), .int .u32 ((nx.r 4).g : Int)] _ (by have := ((HP7.out.below hS).rangeAt (1 + 4 * 3) 3 (by omega)); exact this) Try.underlying37 rfl (by kernel_rfl)) ?_
          refine pm_manyJ (fun lq vq W => AlJ Wj.heap.size 6 7 37 3 (fun j => [.bool false, .int .u32 0, .int .u32 0].getD j undef) lq vq W) (AlJ.zero _ _ _ _ _ _ _) ?_ ?_
          · intro q hq lq vq w1 hS hb hl hn hJ
            simp only [List.mem_cons, List.not_mem_nil, or_false] at hq
            rcases hq with rfl | rfl
            · refine pm_one rfl rfl (fun K' hK => ?_)
              refine wp_value (w' := w1.alloc (.cells #[.bool false, .int .u32 0, .int .u32 0] 37)) (.pointer (some ⟨w1.heap.size, 0, none⟩)) (by kernel_rfl) ?_
              have hb3 : Below w1.heap.size w1 (w1.alloc (.cells #[.bool false, .int .u32 0, .int .u32 0] 37)) := (Below.refl _ _).alloc (Nat.le_refl _) _
              exact hK _ _ ⟨_, rfl, Below.trans hS (hb3.mono hS.size), hb3, hJ.up1 (by omega) hS.size [.bool false, .int .u32 0, .int .u32 0] rfl rfl⟩
            · refine pm_one rfl rfl (fun K' hK => ?_)
              refine wp_value (w' := w1.alloc (.cells #[.bool false, .int .u32 0, .int .u32 0] 37)) (.pointer (some ⟨w1.heap.size, 0, none⟩)) (by kernel_rfl) ?_
              have hb3 : Below w1.heap.size w1 (w1.alloc (.cells #[.bool false, .int .u32 0, .int .u32 0] 37)) := (Below.refl _ _).alloc (Nat.le_refl _) _
              exact hK _ _ ⟨_, rfl, Below.trans hS (hb3.mono hS.size), hb3, hJ.up2 (by omega) hS.size [.bool false, .int .u32 0, .int .u32 0] rfl rfl⟩
          · intro lq vq W8 hS hb hl hJ
            obtain ⟨b16, v16, hz16, hB16⟩ := hJ.a (hl (6, some 16) (by simp))
            obtain ⟨b17, v17, hz17, hB17⟩ := hJ.b (hl (7, some 17) (by simp))
            have hne := hJ.e (hl (6, some 16) (by simp)) (hl (7, some 17) (by simp))
            have hne2 : b16 ≠ b17 := fun e => hne (by rw [v16, v17, e])
            simp only [putM, if_true, v16, v17]
            clear hJ v16 v17 hl hne
            have hkA : Kp (fun k => k = b16) W8 (W8.setCells b16 0 [.bool (nx.r 3).s, .int .u32 ((nx.r 3).l : Int), .int .u32 ((nx.r 3).g : Int)]) := Kp.setCells (M := fun k => k = b16) (.inl rfl) _ _ _ (Kp.refl _ _)
            have hsA : Below Wj.heap.size Wj (W8.setCells b16 0 [.bool (nx.r 3).s, .int .u32 ((nx.r 3).l : Int), .int .u32 ((nx.r 3).g : Int)]) := (Kp.setCells (w := Wj) (b := b16) (.inr hz16) _ _ _ (Kp.of_below hS No)).below
            refine pm_store rfl rfl rfl 37 (.tmp 16) (.tmp 100) rfl b16 0 #[.bool (nx.r 3).s, .int .u32 ((nx.r 3).l : Int), .int .u32 ((nx.r 3).g : Int)] (by kernel_rfl) (by kernel_rfl) (there_mid hB16 0 3 (by omega)) (by kernel_rfl) (by simp [Value.oneCell']) (fun _ => hsA) ?_
            refine pm_store rfl rfl rfl 37 (.tmp 17) (.tmp 103) rfl b17 0 #[.bool (nx.r 4).s, .int .u32 ((nx.r 4).l : Int), .int .u32 ((nx.r 4).g : Int)] (by kernel_rfl) (by kernel_rfl) (there_mid (hB17.keep hkA (fun e => hne2 e.symm)) 0 3 (by omega)) (by kernel_rfl) (by simp [Value.oneCell']) (fun h => by cases h) ?_
            refine pm_done ?_
            refine NoPanic.normal ?_
            have hc16 := (hB16.fill (fun j => [.bool (nx.r 3).s, .int .u32 ((nx.r 3).l : Int), .int .u32 ((nx.r 3).g : Int)].getD j undef))
            have hkB : Kp (fun k => k = b17) (W8.setCells b16 0 [.bool (nx.r 3).s, .int .u32 ((nx.r 3).l : Int), .int .u32 ((nx.r 3).g : Int)]) ((W8.setCells b16 0 [.bool (nx.r 3).s, .int .u32 ((nx.r 3).l : Int), .int .u32 ((nx.r 3).g : Int)]).setCells b17 0 [.bool (nx.r 4).s, .int .u32 ((nx.r 4).l : Int), .int .u32 ((nx.r 4).g : Int)]) := Kp.setCells (M := fun k => k = b17) (.inl rfl) _ _ _ (Kp.refl _ _)
            have hc17 := ((hB17.keep hkA (fun e => hne2 e.symm)).fill (fun j => [.bool (nx.r 4).s, .int .u32 ((nx.r 4).l : Int), .int .u32 ((nx.r 4).g : Int)].getD j undef))
            obtain ⟨Wz, hWz⟩ : ∃ Wz, Wz = (W8.setCells b16 0 [.bool (nx.r 3).s, .int .u32 ((nx.r 3).l : Int), .int .u32 ((nx.r 3).g : Int)]).setCells b17 0 [.bool (nx.r 4).s, .int .u32 ((nx.r 4).l : Int), .int .u32 ((nx.r 4).g : Int)] := ⟨_, rfl⟩
            have h16 : Blk Wz b16 37 3 (fun j => [.bool (nx.r 3).s, .int .u32 ((nx.r 3).l : Int), .int .u32 ((nx.r 3).g : Int)].getD j undef) := by rw [hWz]; exact Blk.keep (M := fun k => k = b17) hc16 hkB hne2
            have h17 : Blk Wz b17 37 3 (fun j => [.bool (nx.r 4).s, .int .u32 ((nx.r 4).l : Int), .int .u32 ((nx.r 4).g : Int)].getD j undef) := by rw [hWz]; exact hc17
            have hbz : Below Wj.heap.size Wj Wz := by rw [hWz]; exact (Kp.setCells (w := Wj) (b := b17) (.inr hz17) _ _ _ (Kp.of_below hsA No)).below
            have HBz := Lib.hid (HBj.out.trans (hbz.mono HBj.out.size))
            have HPz := Lib.hid (HP7.out.below hbz)
            show Exit.then _ _ _ _ ((W8.setCells b16 0 [.bool (nx.r 3).s, .int .u32 ((nx.r 3).l : Int), .int .u32 ((nx.r 3).g : Int)]).setCells b17 0 [.bool (nx.r 4).s, .int .u32 ((nx.r 4).l : Int), .int .u32 ((nx.r 4).g : Int)])
            rw [← hWz]
            clear hWz hc16 hc17 hkA hkB hsA hbz hB16 hB17
            obtain ⟨he, hpc, ⟨hl3, hg3⟩, ⟨hl4, hg4⟩⟩ := HPL.out
            simp only [if_true, Bool.false_eq_true, if_false] at hpc hl3 hg3 hl4 hg4
            subst he
            have pc : Wz.cell? ⟨b7, 0, none⟩ = some (.bool true) := by have := HPz.out.cell 0 (by omega); rw [show knF nx 0 = .bool nx.come from rfl, hpc] at this; exact this
            have e1 : Wz.cell? ⟨b16, 1, none⟩ = some (.int .u32 ((nx.r 3).l : Int)) := h16.cell 1 (by omega)
            have e2 : Wz.cell? ⟨b16, 2, none⟩ = some (.int .u32 ((nx.r 3).g : Int)) := h16.cell 2 (by omega)
            have e3 : Wz.cell? ⟨b17, 1, none⟩ = some (.int .u32 ((nx.r 4).l : Int)) := h17.cell 1 (by omega)
            have e4 : Wz.cell? ⟨b17, 2, none⟩ = some (.int .u32 ((nx.r 4).g : Int)) := h17.cell 2 (by omega)
            clear h16 h17
            have i1 : ¬ (a : Int) < (((nx.r 3).l : Nat) : Int) := by omega
            have i2 : ¬ (((nx.r 3).g : Nat) : Int) < (a : Int) := by omega
            have i3 : ¬ (b : Int) < (((nx.r 4).l : Nat) : Int) := by omega
            have i4 : ¬ (((nx.r 4).g : Nat) : Int) < (b : Int) := by omega
            go_wp2
            go_roundw
            case rel => exact ⟨4, by omega, by go_num, HBz.out⟩
            case measure => simp [intOf]
        · go_upto_region 14 with fail
          clear c3
          refine wp_region_list ?_
          refine wpList_load_mid rfl 42 (.tmp 14) (by kernel_rfl) b8 0 (by kernel_rfl) (knL jx) _ HJ8.out.range Try.underlying42 rfl (by rw [knL_length]; exact info_kn) ?_
          refine wpList_store_mid rfl 42 (.tmp 13) (.tmp 97) (by kernel_rfl) b7 0 (knL jx).toArray (by kernel_rfl) (by kernel_rfl) (by rw [knA_size]; exact there_blk HN7.out) (by rw [knA_size]; exact info_kn) (knL_one _) ?_
          obtain ⟨Wj, hWj⟩ : ∃ Wj, Wj = W7.setCells b7 0 (knL jx).toArray.toList := ⟨_, rfl⟩
          have hp7 : Blk Wj b7 42 31 (knF jx) := by rw [hWj, knL_tl]; exact HN7.out.fill _
          have hbj : Below wr.heap.size wr Wj := by rw [hWj]; exact (Kp.setCells (w := wr) (b := b7) (.inr (by omega)) _ _ _ (Kp.of_below HS7.out No)).below
          have HP7 := Lib.hid hp7
          have HBj := Lib.hid (HBR.out.trans (hbj.mono HBR.out.size))
          rw [← hWj]
          clear hWj hp7 hbj

          go_upto_region 15 with fail
          obtain ⟨We, hWe⟩ : ∃ We, We = Wj.drew := ⟨_, rfl⟩
          have hbe : Below Wj.heap.size Wj We := by rw [hWe]; exact (Below.refl _ _).drew
          have hze : We.heap.size = Wj.heap.size := by rw [hWe]; rfl
          refine wp_region_noPanic ?_
          refine planM (.rd 0 (.rd 1 (.rd 2 (.rd 3 (.rd 4 (.rd 5 (.many [(6, some 16), (7, some 17)] (.eff 8 (.eff 9 .done))))))))) [0, 1, 2, 3, 4, 5, 6, 7, 8] (fun W => Below Wj.heap.size Wj W) (by kernel_rfl) (by kernel_rfl) (fun _ _ _ _ _ h => h) (by rw [← hWe]; exact hbe) ?_
          rw [← hWe]
          clear hWe
          have HBe := Lib.hid hbe; have HZe := Lib.hid hze; clear hbe hze
          refine pm_pure rfl (fun K hK => ?_); go_simp; refine hK _ ?_; clear hK K
          refine pm_pure rfl (fun K hK => ?_); go_simp; refine hK _ ?_; clear hK K
          refine pm_rdv 100 (.agg #[.bool (jx.r 3).s, .int .u32 ((jx.r 3).l : Int), .int .u32 ((jx.r 3).g : Int)]) rfl rfl rfl (fun W hS => exec_load_mid 37 (.tmp 99) rfl b7 (1 + 3 * 3) (by kernel_rfl) [.bool (jx.r 3).s, .int .u32 ((jx.r 3).l : Int), .int .u32 ((jx.r 3).g : Int)] _ (by have := ((HP7.out.below hS).rangeAt (1 + 3 * 3) 3 (by omega)); exact this) Try.underlying37 rfl (by kernel_rfl)) ?_
          refine pm_pure rfl (fun K hK => ?_); go_simp; refine hK _ ?_; clear hK K
          refine pm_pure rfl (fun K hK => ?_); go_simp; refine hK _ ?_; clear hK K
          refine pm_rdv 103 (.agg #[.bool (jx.r 4).s, .int .u32 ((jx.r 4).l : Int), .int .u32 ((jx.r 4).g : Int)]) rfl rfl rfl (fun W hS => exec_load_mid 37 (.tmp 102) rfl b7 (1 + 4 * 3) (by kernel_rfl) [.bool (jx.r 4).s, .int .u32 ((jx.r 4).l : Int), .int .u32 ((jx.r 4).g : Int)] _ (by have := ((HP7.out.below hS).rangeAt (1 + 4 * 3) 3 (by omega)); exact this) Try.underlying37 rfl (by kernel_rfl)) ?_
          refine pm_manyJ (fun lq vq W => AlJ Wj.heap.size 6 7 37 3 (fun j => [.bool false, .int .u32 0, .int .u32 0].getD j undef) lq vq W) (AlJ.zero _ _ _ _ _ _ _) ?_ ?_
          · intro q hq lq vq w1 hS hb hl hn hJ
            simp only [List.mem_cons, List.not_mem_nil, or_false] at hq
            rcases hq with rfl | rfl
            · refine pm_one rfl rfl (fun K' hK => ?_)
              refine wp_value (w' := w1.alloc (.cells #[.bool false, .int .u32 0, .int .u32 0] 37)) (.pointer (some ⟨w1.heap.size, 0, none⟩)) (by kernel_rfl) ?_
              have hb3 : Below w1.heap.size w1 (w1.alloc (.cells #[.bool false, .int .u32 0, .int .u32 0] 37)) := (Below.refl _ _).alloc (Nat.le_refl _) _
              exact hK _ _ ⟨_, rfl, Below.trans hS (hb3.mono hS.size), hb3, hJ.up1 (by omega) hS.size [.bool false, .int .u32 0, .int .u32 0] rfl rfl⟩
            · refine pm_one rfl rfl (fun K' hK => ?_)
              refine wp_value (w' := w1.alloc (.cells #[.bool false, .int .u32 0, .int .u32 0] 37)) (.pointer (some ⟨w1.heap.size, 0, none⟩)) (by kernel_rfl) ?_
              have hb3 : Below w1.heap.size w1 (w1.alloc (.cells #[.bool false, .int .u32 0, .int .u32 0] 37)) := (Below.refl _ _).alloc (Nat.le_refl _) _
              exact hK _ _ ⟨_, rfl, Below.trans hS (hb3.mono hS.size), hb3, hJ.up2 (by omega) hS.size [.bool false, .int .u32 0, .int .u32 0] rfl rfl⟩
          · intro lq vq W8 hS hb hl hJ
            obtain ⟨b16, v16, hz16, hB16⟩ := hJ.a (hl (6, some 16) (by simp))
            obtain ⟨b17, v17, hz17, hB17⟩ := hJ.b (hl (7, some 17) (by simp))
            have hne := hJ.e (hl (6, some 16) (by simp)) (hl (7, some 17) (by simp))
            have hne2 : b16 ≠ b17 := fun e => hne (by rw [v16, v17, e])
            simp only [putM, if_true, v16, v17]
            clear hJ v16 v17 hl hne
            have hkA : Kp (fun k => k = b16) W8 (W8.setCells b16 0 [.bool (jx.r 3).s, .int .u32 ((jx.r 3).l : Int), .int .u32 ((jx.r 3).g : Int)]) := Kp.setCells (M := fun k => k = b16) (.inl rfl) _ _ _ (Kp.refl _ _)
            have hsA : Below Wj.heap.size Wj (W8.setCells b16 0 [.bool (jx.r 3).s, .int .u32 ((jx.r 3).l : Int), .int .u32 ((jx.r 3).g : Int)]) := (Kp.setCells (w := Wj) (b := b16) (.inr hz16) _ _ _ (Kp.of_below hS No)).below
            refine pm_store rfl rfl rfl 37 (.tmp 16) (.tmp 100) rfl b16 0 #[.bool (jx.r 3).s, .int .u32 ((jx.r 3).l : Int), .int .u32 ((jx.r 3).g : Int)] (by kernel_rfl) (by kernel_rfl) (there_mid hB16 0 3 (by omega)) (by kernel_rfl) (by simp [Value.oneCell']) (fun _ => hsA) ?_
            refine pm_store rfl rfl rfl 37 (.tmp 17) (.tmp 103) rfl b17 0 #[.bool (jx.r 4).s, .int .u32 ((jx.r 4).l : Int), .int .u32 ((jx.r 4).g : Int)] (by kernel_rfl) (by kernel_rfl) (there_mid (hB17.keep hkA (fun e => hne2 e.symm)) 0 3 (by omega)) (by kernel_rfl) (by simp [Value.oneCell']) (fun h => by cases h) ?_
            refine pm_done ?_
            refine NoPanic.normal ?_
            have hc16 := (hB16.fill (fun j => [.bool (jx.r 3).s, .int .u32 ((jx.r 3).l : Int), .int .u32 ((jx.r 3).g : Int)].getD j undef))
            have hkB : Kp (fun k => k = b17) (W8.setCells b16 0 [.bool (jx.r 3).s, .int .u32 ((jx.r 3).l : Int), .int .u32 ((jx.r 3).g : Int)]) ((W8.setCells b16 0 [.bool (jx.r 3).s, .int .u32 ((jx.r 3).l : Int), .int .u32 ((jx.r 3).g : Int)]).setCells b17 0 [.bool (jx.r 4).s, .int .u32 ((jx.r 4).l : Int), .int .u32 ((jx.r 4).g : Int)]) := Kp.setCells (M := fun k => k = b17) (.inl rfl) _ _ _ (Kp.refl _ _)
            have hc17 := ((hB17.keep hkA (fun e => hne2 e.symm)).fill (fun j => [.bool (jx.r 4).s, .int .u32 ((jx.r 4).l : Int), .int .u32 ((jx.r 4).g : Int)].getD j undef))
            obtain ⟨Wz, hWz⟩ : ∃ Wz, Wz = (W8.setCells b16 0 [.bool (jx.r 3).s, .int .u32 ((jx.r 3).l : Int), .int .u32 ((jx.r 3).g : Int)]).setCells b17 0 [.bool (jx.r 4).s, .int .u32 ((jx.r 4).l : Int), .int .u32 ((jx.r 4).g : Int)] := ⟨_, rfl⟩
            have h16 : Blk Wz b16 37 3 (fun j => [.bool (jx.r 3).s, .int .u32 ((jx.r 3).l : Int), .int .u32 ((jx.r 3).g : Int)].getD j undef) := by rw [hWz]; exact Blk.keep (M := fun k => k = b17) hc16 hkB hne2
            have h17 : Blk Wz b17 37 3 (fun j => [.bool (jx.r 4).s, .int .u32 ((jx.r 4).l : Int), .int .u32 ((jx.r 4).g : Int)].getD j undef) := by rw [hWz]; exact hc17
            have hbz : Below Wj.heap.size Wj Wz := by rw [hWz]; exact (Kp.setCells (w := Wj) (b := b17) (.inr hz17) _ _ _ (Kp.of_below hsA No)).below
            have HBz := Lib.hid (HBj.out.trans (hbz.mono HBj.out.size))
            have HPz := Lib.hid (HP7.out.below hbz)
            show Exit.then _ _ _ _ ((W8.setCells b16 0 [.bool (jx.r 3).s, .int .u32 ((jx.r 3).l : Int), .int .u32 ((jx.r 3).g : Int)]).setCells b17 0 [.bool (jx.r 4).s, .int .u32 ((jx.r 4).l : Int), .int .u32 ((jx.r 4).g : Int)])
            rw [← hWz]
            clear hWz hc16 hc17 hkA hkB hsA hbz hB16 hB17
            obtain ⟨he, hpc, ⟨hl3, hg3⟩, ⟨hl4, hg4⟩⟩ := HPL.out
            simp only [if_true, Bool.false_eq_true, if_false] at hpc hl3 hg3 hl4 hg4
            subst he
            have pc : Wz.cell? ⟨b7, 0, none⟩ = some (.bool true) := by have := HPz.out.cell 0 (by omega); rw [show knF jx 0 = .bool jx.come from rfl, hpc] at this; exact this
            have e1 : Wz.cell? ⟨b16, 1, none⟩ = some (.int .u32 ((jx.r 3).l : Int)) := h16.cell 1 (by omega)
            have e2 : Wz.cell? ⟨b16, 2, none⟩ = some (.int .u32 ((jx.r 3).g : Int)) := h16.cell 2 (by omega)
            have e3 : Wz.cell? ⟨b17, 1, none⟩ = some (.int .u32 ((jx.r 4).l : Int)) := h17.cell 1 (by omega)
            have e4 : Wz.cell? ⟨b17, 2, none⟩ = some (.int .u32 ((jx.r 4).g : Int)) := h17.cell 2 (by omega)
            clear h16 h17
            have i1 : ¬ (a : Int) < (((jx.r 3).l : Nat) : Int) := by omega
            have i2 : ¬ (((jx.r 3).g : Nat) : Int) < (a : Int) := by omega
            have i3 : ¬ (b : Int) < (((jx.r 4).l : Nat) : Int) := by omega
            have i4 : ¬ (((jx.r 4).g : Nat) : Int) < (b : Int) := by omega
            go_wp2
            go_roundw
            case rel => exact ⟨4, by omega, by go_num, HBz.out⟩
            case measure => simp [intOf]
    · go_wp2_with (go_at_call 11; (with_reducible refine (HKN.out _).mono ?_); rintro e' W9 ⟨rfl, hb9⟩; have HB9 := Lib.hid hb9; clear hb9)
      go_ret
      exact ⟨rfl, (HBp.out.trans (HBR.out.mono HBp.out.size)).trans (HB9.out.mono (HBp.out.trans (HBR.out.mono HBp.out.size)).size)⟩

theorem checkjumps_ok (w : World) (d s : Rg) (A B I : Nat) (h1 : d.g < 4294967296) (h2 : s.g < 4294967296) (hA : A < 4294967296) (hB : B < 4294967296) (hI : I < 4294967296) :
    Calls Try.prog 5 #[.agg #[.bool d.s, .int .u32 (d.l : Int), .int .u32 (d.g : Int)], .agg #[.bool s.s, .int .u32 (s.l : Int), .int .u32 (s.g : Int)], .agg #[.int .u32 (A : Int), .int .u32 (B : Int), .int .u32 (I : Int)]] w fun e w' => e = .returned (.bool true) ∧ Below w.heap.size w w' := by
  by_cases h : d.s = false ∨ s.s = false ∨ d.g < d.l ∨ s.g < s.l
  · exact jumps_out w d s A B I h
  · obtain ⟨ds, dl, dg⟩ := d
    obtain ⟨ss, sl, sg⟩ := s
    cases ds
    · exact absurd (.inl rfl) h
    cases ss
    · exact absurd (.inr (.inl rfl)) h
    have hq : ¬ (dg < dl ∨ sg < sl) := fun q => h (.inr (.inr q))
    exact jumps_in w dl dg sl sg A B I h1 (by omega) h2 (by omega) hA hB hI
end Go.Proofs.Ytjlddhnjbjhmkaa
