/- Layer 6, the document's answer: less. -/
import Derived.Test.YtjlddhnjbjhmkaaRb2
import Derived.BigQuiet
set_option linter.unusedVariables false
set_option linter.unusedSimpArgs false
namespace Go.Proofs.Ytjlddhnjbjhmkaa
open Go.RowKit

set_option maxRecDepth 100000 in
set_option maxHeartbeats 2000000 in
theorem rj_lt21A (w : World) (i : Ins8) (k : Kn) (dl dg sl sg : Nat) (hop : i.op = 21) (hdst : i.dst < 10) (hsrc : i.src < 10) (h1 : dl ≤ dg) (h2 : dg ≤ 4294967295) (h3 : sl ≤ sg) (h4 : sg ≤ 4294967295) (mj mn xj xn : Nat) (HMJ : Hid (mj = min dg (sg - 1))) (HMN : Hid (mn = max dl sl)) (HXJ : Hid (xj = max sl (dl + 1))) (HXN : Hid (xn = min sg dg)) (HY : Hid (dl < sg ∧ sl ≤ dg)) (nx jx : Kn) (HNX : Hid (nx = k.put i.dst ⟨mn, dg⟩)) (HJX : Hid (jx = k.put i.dst ⟨dl, mj⟩)) : Calls Try.prog 36 #[.agg #[.int .i64 (i.op : Int), .int .i64 (i.dst : Int), .int .i64 (i.src : Int), .int .i64 i.off, .int .u32 (i.imm : Int)], .agg (knL k).toArray, .agg #[.int .i64 (dl : Int), .int .i64 (dg : Int)], .agg #[.int .i64 (sl : Int), .int .i64 (sg : Int)]] w fun e w' => e = .returned (.agg (wayL nx jx 0).toArray) ∧ Below w.heap.size w w' := by
  obtain ⟨L, hL⟩ : ∃ L, L = (knL k).toArray := ⟨_, rfl⟩
  obtain ⟨W1, HW1, HJ1, HZ1⟩ := jw_world w i k dl dg sl sg L hL
  rw [← hL]
  clear hL
  have HWI := Lib.hid (fun W l g hl hg => refwith_ok W k i.dst l g hdst hl hg)
  have HA := Lib.hid h1; have HB := Lib.hid h3; have HDN := Lib.hid hdst
  have p2 : (dg : Int) ≤ 4294967295 := by omega
  have p4 : (sg : Int) ≤ 4294967295 := by omega
  have HN2 := Lib.hid h2; have HN4 := Lib.hid h4
  clear h1 h2 h3 h4 hdst
  go_enter Try.func36, Try.ntmps36
  go_upto_region 0 with fail
  refine wp_region_list ?_
  refine wpList_box 4 0 45 #[.int .i64 (i.op : Int), .int .i64 (i.dst : Int), .int .i64 (i.src : Int), .int .i64 i.off, .int .u32 (i.imm : Int)] w.heap.size rfl (by kernel_rfl) ?_
  refine wpList_box 5 1 42 L (w.heap.size + 1) (by simp) (by kernel_rfl) ?_
  refine wpList_box 6 2 83 #[.int .i64 (dl : Int), .int .i64 (dg : Int)] (w.heap.size + 2) (by simp) (by kernel_rfl) ?_
  refine wpList_box 7 3 83 #[.int .i64 (sl : Int), .int .i64 (sg : Int)] (w.heap.size + 3) (by simp) (by kernel_rfl) ?_
  refine wpList_alw2 8 (w.heap.size + 4) (by simp) ?_
  rw [← HW1.out]
  clear HW1
  go_upto_region 1 with fail
  refine wp_region_list ?_
  refine wpList_val0 (.agg (wayL kn0 kn0 0).toArray) rfl (exec_build0 64 rfl _ (bw_0 _)) ?_
  obtain ⟨wb, hwb⟩ : ∃ wb, wb = W1.heap.size := ⟨_, rfl⟩
  refine wpList_alw2 9 wb hwb ?_
  have hB : WyB (W1.alloc (.cells (wayL kn0 kn0 0).toArray 64)) wb kn0 kn0 0 := by rw [hwb]; exact wayB W1 kn0 kn0 0
  have hj : Jw w i k dl dg sl sg (W1.alloc (.cells (wayL kn0 kn0 0).toArray 64)) := HJ1.out.more ((Below.refl _ _).alloc (Nat.le_refl _) _)
  have hwz : w.heap.size + 5 = wb := by rw [hwb]; exact HZ1.out.symm
  obtain ⟨Wx, hWx⟩ : ∃ Wx, Wx = W1.alloc (.cells (wayL kn0 kn0 0).toArray 64) := ⟨_, rfl⟩
  rw [← hWx] at hB hj ⊢
  clear hWx hwb
  refine wpList_stw 9 12 wb kn0 kn0 0 (by kernel_rfl) (by kernel_rfl) hB ?_
  have hB2 := WyB.fill hB kn0 kn0 0
  have hj2 := hj.set wb (by omega) 0 (wayL kn0 kn0 0)
  obtain ⟨W2, hW2⟩ : ∃ W2, W2 = Wx.setCells wb 0 (wayL kn0 kn0 0) := ⟨_, rfl⟩
  rw [← hW2] at hB2 hj2 ⊢
  have HJ2 := Lib.hid hj2; have HB2 := Lib.hid hB2; have HWZ := Lib.hid hwz
  clear hW2 hB hj hB2 hj2 hwz HJ1 HZ1
  have i0 : W2.cell? ⟨w.heap.size, 0, none⟩ = some (.int .i64 21) := by have := HJ2.out.ii.cell 0 (by omega); rw [show ([.int .i64 (i.op : Int), .int .i64 (i.dst : Int), .int .i64 (i.src : Int), .int .i64 i.off, .int .u32 (i.imm : Int)].getD 0 undef : Value) = .int .i64 (i.op : Int) from rfl, hop] at this; exact this
  have HOP := Lib.hid hop; clear hop
  have hy := HY.out
  have hz := HA.out
  have hf0 : (dl : Int) < (sg : Int) := by omega
  have hf1 : (sl : Int) ≤ (dg : Int) := by omega
  clear hy hz
  have d0 : W2.cell? ⟨w.heap.size + 2, 0, none⟩ = some (.int .i64 (dl : Int)) := HJ2.out.dd.cell 0 (by omega)
  have d1 : W2.cell? ⟨w.heap.size + 2, 1, none⟩ = some (.int .i64 (dg : Int)) := HJ2.out.dd.cell 1 (by omega)
  have s0 : W2.cell? ⟨w.heap.size + 3, 0, none⟩ = some (.int .i64 (sl : Int)) := HJ2.out.ss.cell 0 (by omega)
  have s1 : W2.cell? ⟨w.heap.size + 3, 1, none⟩ = some (.int .i64 (sg : Int)) := HJ2.out.ss.cell 1 (by omega)
  go_upto_region 17 with fail
  refine wp_region_list ?_
  refine wpList_ldk 89 5 (w.heap.size + 1) 0 k (by kernel_rfl) (by kernel_rfl) HJ2.out.kk.range ?_
  refine wpList_val0 (.pointer (some ⟨w.heap.size, 1, none⟩)) rfl (by kernel_rfl) ?_
  refine wpList_val0 (.int .i64 (i.dst : Int)) rfl (exec_ldint (.tmp 90) rfl (by kernel_rfl) (HJ2.out.ii.cell 1 (by omega))) ?_
  refine wpList_val0 (.pointer (some ⟨w.heap.size + 2, 0, none⟩)) rfl (by kernel_rfl) ?_
  refine wpList_val0 (.int .i64 (dl : Int)) rfl (exec_ld64 (.tmp 92) rfl (by kernel_rfl) (HJ2.out.dd.cell 0 (by omega))) ?_
  refine wpList_val0 (.pointer (some ⟨w.heap.size + 2, 1, none⟩)) rfl (by kernel_rfl) ?_
  refine wpList_val0 (.int .i64 (dg : Int)) rfl (exec_ld64 (.tmp 94) rfl (by kernel_rfl) (HJ2.out.dd.cell 1 (by omega))) ?_
  refine wpList_val0 (.pointer (some ⟨w.heap.size + 3, 1, none⟩)) rfl (by kernel_rfl) ?_
  refine wpList_val0 (.int .i64 (sg : Int)) rfl (exec_ld64 (.tmp 96) rfl (by kernel_rfl) (HJ2.out.ss.cell 1 (by omega))) ?_
  refine wpList_val0 (.int .i64 ((sg - 1 : Nat) : Int)) rfl (exec_sub1 (.tmp 97) rfl (by kernel_rfl) (by have := HY.out; omega) (by have := HN4.out; omega)) ?_
  refine wpList_val0 (.int .i64 (mj : Int)) rfl (by rw [HMJ.out]; exact exec_min2 95 98 (by kernel_rfl) (by kernel_rfl)) ?_
  refine wpList_val0 (.agg #[.int .i64 (dl : Int), .int .i64 (mj : Int)]) rfl (exec_build2 83 0 1 (.tmp 93) (.tmp 99) rfl (.int .i64 (dl : Int)) (.int .i64 (mj : Int)) (by kernel_rfl) (by kernel_rfl) _ (bsp _ _ _)) ?_

  refine wpList_callg (f := 34) (args := #[.agg (knL (k)).toArray, .int .i64 (i.dst : Int), .agg #[.int .i64 (dl : Int), .int .i64 (mj : Int)]]) (v := .agg (knL ((k).put i.dst ⟨dl, mj⟩)).toArray) (R := Below W2.heap.size W2) (by kernel_rfl) (by kernel_rfl) (HWI.out W2 dl mj (by have := HA.out; have := HB.out; have := HN2.out; have := HN4.out; omega) (by have := HMJ.out; have := HN2.out; omega)) (fun Wc hbc => ?_)
  have hBc := HB2.out.below hbc
  have hjc := HJ2.out.more hbc
  clear hbc

  refine wpList_val0 (.pointer (some ⟨wb, 31, none⟩)) rfl (by kernel_rfl) ?_
  refine wpList_stk 102 101 wb 31 (k.put i.dst ⟨dl, mj⟩) (by kernel_rfl) (by kernel_rfl) (there_mid hBc 31 31 (by omega)) ?_
  have hB3 := hBc.setj (k.put i.dst ⟨dl, mj⟩)
  have hj3 := hjc.set wb (by have := HWZ.out; omega) 31 (knL (k.put i.dst ⟨dl, mj⟩))
  obtain ⟨W3, hW3⟩ : ∃ W3, W3 = Wc.setCells wb 31 (knL (k.put i.dst ⟨dl, mj⟩)) := ⟨_, rfl⟩
  show wpList _ _ _ _ _ (Wc.setCells wb 31 (knL (k.put i.dst ⟨dl, mj⟩)))
  rw [← hW3] at hB3 hj3 ⊢
  have HJ3 := Lib.hid hj3; have HB3 := Lib.hid hB3
  clear hW3 hB3 hj3 hBc hjc
  clear i0 d0 d1 s0 s1
  have d0 : W3.cell? ⟨w.heap.size + 2, 0, none⟩ = some (.int .i64 (dl : Int)) := HJ3.out.dd.cell 0 (by omega)
  have d1 : W3.cell? ⟨w.heap.size + 2, 1, none⟩ = some (.int .i64 (dg : Int)) := HJ3.out.dd.cell 1 (by omega)
  have s0 : W3.cell? ⟨w.heap.size + 3, 0, none⟩ = some (.int .i64 (sl : Int)) := HJ3.out.ss.cell 0 (by omega)
  have s1 : W3.cell? ⟨w.heap.size + 3, 1, none⟩ = some (.int .i64 (sg : Int)) := HJ3.out.ss.cell 1 (by omega)
  go_upto_region 21 with fail
  refine wp_region_list ?_
  refine wpList_ldk 125 5 (w.heap.size + 1) 0 k (by kernel_rfl) (by kernel_rfl) HJ3.out.kk.range ?_
  refine wpList_val0 (.pointer (some ⟨w.heap.size, 1, none⟩)) rfl (by kernel_rfl) ?_
  refine wpList_val0 (.int .i64 (i.dst : Int)) rfl (exec_ldint (.tmp 126) rfl (by kernel_rfl) (HJ3.out.ii.cell 1 (by omega))) ?_
  refine wpList_val0 (.pointer (some ⟨w.heap.size + 2, 0, none⟩)) rfl (by kernel_rfl) ?_
  refine wpList_val0 (.int .i64 (dl : Int)) rfl (exec_ld64 (.tmp 128) rfl (by kernel_rfl) (HJ3.out.dd.cell 0 (by omega))) ?_
  refine wpList_val0 (.pointer (some ⟨w.heap.size + 3, 0, none⟩)) rfl (by kernel_rfl) ?_
  refine wpList_val0 (.int .i64 (sl : Int)) rfl (exec_ld64 (.tmp 130) rfl (by kernel_rfl) (HJ3.out.ss.cell 0 (by omega))) ?_
  refine wpList_val0 (.int .i64 (mn : Int)) rfl (by rw [HMN.out]; exact exec_max2 129 131 (by kernel_rfl) (by kernel_rfl)) ?_
  refine wpList_val0 (.pointer (some ⟨w.heap.size + 2, 1, none⟩)) rfl (by kernel_rfl) ?_
  refine wpList_val0 (.int .i64 (dg : Int)) rfl (exec_ld64 (.tmp 133) rfl (by kernel_rfl) (HJ3.out.dd.cell 1 (by omega))) ?_
  refine wpList_val0 (.agg #[.int .i64 (mn : Int), .int .i64 (dg : Int)]) rfl (exec_build2 83 0 1 (.tmp 132) (.tmp 134) rfl (.int .i64 (mn : Int)) (.int .i64 (dg : Int)) (by kernel_rfl) (by kernel_rfl) _ (bsp _ _ _)) ?_

  refine wpList_callg (f := 34) (args := #[.agg (knL (k)).toArray, .int .i64 (i.dst : Int), .agg #[.int .i64 (mn : Int), .int .i64 (dg : Int)]]) (v := .agg (knL ((k).put i.dst ⟨mn, dg⟩)).toArray) (R := Below W3.heap.size W3) (by kernel_rfl) (by kernel_rfl) (HWI.out W3 mn dg (by have := HMN.out; have := HA.out; have := HB.out; have := HN2.out; have := HN4.out; omega) (HN2.out)) (fun Wc hbc => ?_)
  have hBc := HB3.out.below hbc
  have hjc := HJ3.out.more hbc
  clear hbc

  refine wpList_val0 (.pointer (some ⟨wb, 0, none⟩)) rfl (by kernel_rfl) ?_
  refine wpList_stk 137 136 wb 0 (k.put i.dst ⟨mn, dg⟩) (by kernel_rfl) (by kernel_rfl) (there_mid hBc 0 31 (by omega)) ?_
  have hB3 := hBc.setn (k.put i.dst ⟨mn, dg⟩)
  have hj3 := hjc.set wb (by have := HWZ.out; omega) 0 (knL (k.put i.dst ⟨mn, dg⟩))
  obtain ⟨W4, hW3⟩ : ∃ W3, W3 = Wc.setCells wb 0 (knL (k.put i.dst ⟨mn, dg⟩)) := ⟨_, rfl⟩
  show wpList _ _ _ _ _ (Wc.setCells wb 0 (knL (k.put i.dst ⟨mn, dg⟩)))
  rw [← hW3] at hB3 hj3 ⊢
  have HJ4 := Lib.hid hj3; have HB4 := Lib.hid hB3
  clear hW3 hB3 hj3 hBc hjc
  clear  d0 d1 s0 s1
  have d0 : W4.cell? ⟨w.heap.size + 2, 0, none⟩ = some (.int .i64 (dl : Int)) := HJ4.out.dd.cell 0 (by omega)
  have d1 : W4.cell? ⟨w.heap.size + 2, 1, none⟩ = some (.int .i64 (dg : Int)) := HJ4.out.dd.cell 1 (by omega)
  have s0 : W4.cell? ⟨w.heap.size + 3, 0, none⟩ = some (.int .i64 (sl : Int)) := HJ4.out.ss.cell 0 (by omega)
  have s1 : W4.cell? ⟨w.heap.size + 3, 1, none⟩ = some (.int .i64 (sg : Int)) := HJ4.out.ss.cell 1 (by omega)
  have HBF : Hid (WyB W4 wb nx jx 0) := Lib.hid (by rw [HNX.out, HJX.out]; exact HB4.out)
  clear HNX HJX HB4
  go_upto_region 24 with fail
  refine wp_region_list ?_
  refine wpList_ldw 154 9 wb nx jx 0 (by kernel_rfl) (by kernel_rfl) HBF.out ?_
  refine wpList_stw 8 154 (w.heap.size + 4) nx jx 0 (by kernel_rfl) (by kernel_rfl) HJ4.out.rr ?_
  obtain ⟨W9, HW9, HR9, HE9, HK9⟩ := fin_store HJ4.out.b HJ4.out.rr (by omega) (wayL nx jx 0) (wayL_length _ _ _)
  rw [← HW9.out]
  go_wp2
  refine bodyPost_ret (v := .agg (wayL nx jx 0).toArray) (results_cell1_range Try.results36 _ _ (w.heap.size + 4) 0 (wayL nx jx 0) _ (by kernel_rfl) HR9.out Try.underlying64 rfl (by rw [wayL_length]; exact info_way)) ?_ ⟨rfl, HE9.out⟩
  rfl

set_option maxRecDepth 100000 in
set_option maxHeartbeats 2000000 in
theorem rj_lt21B (w : World) (i : Ins8) (k : Kn) (dl dg sl sg : Nat) (hop : i.op = 21) (hdst : i.dst < 10) (hsrc : i.src < 10) (h1 : dl ≤ dg) (h2 : dg ≤ 4294967295) (h3 : sl ≤ sg) (h4 : sg ≤ 4294967295) (mj mn xj xn : Nat) (HMJ : Hid (mj = min dg (sg - 1))) (HMN : Hid (mn = max dl sl)) (HXJ : Hid (xj = max sl (dl + 1))) (HXN : Hid (xn = min sg dg)) (HY : Hid (dl < sg ∧ dg < sl)) (nx jx : Kn) (HNX : Hid (nx = kn0)) (HJX : Hid (jx = k.put i.dst ⟨dl, mj⟩)) : Calls Try.prog 36 #[.agg #[.int .i64 (i.op : Int), .int .i64 (i.dst : Int), .int .i64 (i.src : Int), .int .i64 i.off, .int .u32 (i.imm : Int)], .agg (knL k).toArray, .agg #[.int .i64 (dl : Int), .int .i64 (dg : Int)], .agg #[.int .i64 (sl : Int), .int .i64 (sg : Int)]] w fun e w' => e = .returned (.agg (wayL nx jx 0).toArray) ∧ Below w.heap.size w w' := by
  obtain ⟨L, hL⟩ : ∃ L, L = (knL k).toArray := ⟨_, rfl⟩
  obtain ⟨W1, HW1, HJ1, HZ1⟩ := jw_world w i k dl dg sl sg L hL
  rw [← hL]
  clear hL
  have HWI := Lib.hid (fun W l g hl hg => refwith_ok W k i.dst l g hdst hl hg)
  have HA := Lib.hid h1; have HB := Lib.hid h3; have HDN := Lib.hid hdst
  have p2 : (dg : Int) ≤ 4294967295 := by omega
  have p4 : (sg : Int) ≤ 4294967295 := by omega
  have HN2 := Lib.hid h2; have HN4 := Lib.hid h4
  clear h1 h2 h3 h4 hdst
  go_enter Try.func36, Try.ntmps36
  go_upto_region 0 with fail
  refine wp_region_list ?_
  refine wpList_box 4 0 45 #[.int .i64 (i.op : Int), .int .i64 (i.dst : Int), .int .i64 (i.src : Int), .int .i64 i.off, .int .u32 (i.imm : Int)] w.heap.size rfl (by kernel_rfl) ?_
  refine wpList_box 5 1 42 L (w.heap.size + 1) (by simp) (by kernel_rfl) ?_
  refine wpList_box 6 2 83 #[.int .i64 (dl : Int), .int .i64 (dg : Int)] (w.heap.size + 2) (by simp) (by kernel_rfl) ?_
  refine wpList_box 7 3 83 #[.int .i64 (sl : Int), .int .i64 (sg : Int)] (w.heap.size + 3) (by simp) (by kernel_rfl) ?_
  refine wpList_alw2 8 (w.heap.size + 4) (by simp) ?_
  rw [← HW1.out]
  clear HW1
  go_upto_region 1 with fail
  refine wp_region_list ?_
  refine wpList_val0 (.agg (wayL kn0 kn0 0).toArray) rfl (exec_build0 64 rfl _ (bw_0 _)) ?_
  obtain ⟨wb, hwb⟩ : ∃ wb, wb = W1.heap.size := ⟨_, rfl⟩
  refine wpList_alw2 9 wb hwb ?_
  have hB : WyB (W1.alloc (.cells (wayL kn0 kn0 0).toArray 64)) wb kn0 kn0 0 := by rw [hwb]; exact wayB W1 kn0 kn0 0
  have hj : Jw w i k dl dg sl sg (W1.alloc (.cells (wayL kn0 kn0 0).toArray 64)) := HJ1.out.more ((Below.refl _ _).alloc (Nat.le_refl _) _)
  have hwz : w.heap.size + 5 = wb := by rw [hwb]; exact HZ1.out.symm
  obtain ⟨Wx, hWx⟩ : ∃ Wx, Wx = W1.alloc (.cells (wayL kn0 kn0 0).toArray 64) := ⟨_, rfl⟩
  rw [← hWx] at hB hj ⊢
  clear hWx hwb
  refine wpList_stw 9 12 wb kn0 kn0 0 (by kernel_rfl) (by kernel_rfl) hB ?_
  have hB2 := WyB.fill hB kn0 kn0 0
  have hj2 := hj.set wb (by omega) 0 (wayL kn0 kn0 0)
  obtain ⟨W2, hW2⟩ : ∃ W2, W2 = Wx.setCells wb 0 (wayL kn0 kn0 0) := ⟨_, rfl⟩
  rw [← hW2] at hB2 hj2 ⊢
  have HJ2 := Lib.hid hj2; have HB2 := Lib.hid hB2; have HWZ := Lib.hid hwz
  clear hW2 hB hj hB2 hj2 hwz HJ1 HZ1
  have i0 : W2.cell? ⟨w.heap.size, 0, none⟩ = some (.int .i64 21) := by have := HJ2.out.ii.cell 0 (by omega); rw [show ([.int .i64 (i.op : Int), .int .i64 (i.dst : Int), .int .i64 (i.src : Int), .int .i64 i.off, .int .u32 (i.imm : Int)].getD 0 undef : Value) = .int .i64 (i.op : Int) from rfl, hop] at this; exact this
  have HOP := Lib.hid hop; clear hop
  have hy := HY.out
  have hz := HA.out
  have hf0 : (dl : Int) < (sg : Int) := by omega
  have hf1 : ¬ (sl : Int) ≤ (dg : Int) := by omega
  clear hy hz
  have d0 : W2.cell? ⟨w.heap.size + 2, 0, none⟩ = some (.int .i64 (dl : Int)) := HJ2.out.dd.cell 0 (by omega)
  have d1 : W2.cell? ⟨w.heap.size + 2, 1, none⟩ = some (.int .i64 (dg : Int)) := HJ2.out.dd.cell 1 (by omega)
  have s0 : W2.cell? ⟨w.heap.size + 3, 0, none⟩ = some (.int .i64 (sl : Int)) := HJ2.out.ss.cell 0 (by omega)
  have s1 : W2.cell? ⟨w.heap.size + 3, 1, none⟩ = some (.int .i64 (sg : Int)) := HJ2.out.ss.cell 1 (by omega)
  go_upto_region 17 with fail
  refine wp_region_list ?_
  refine wpList_ldk 89 5 (w.heap.size + 1) 0 k (by kernel_rfl) (by kernel_rfl) HJ2.out.kk.range ?_
  refine wpList_val0 (.pointer (some ⟨w.heap.size, 1, none⟩)) rfl (by kernel_rfl) ?_
  refine wpList_val0 (.int .i64 (i.dst : Int)) rfl (exec_ldint (.tmp 90) rfl (by kernel_rfl) (HJ2.out.ii.cell 1 (by omega))) ?_
  refine wpList_val0 (.pointer (some ⟨w.heap.size + 2, 0, none⟩)) rfl (by kernel_rfl) ?_
  refine wpList_val0 (.int .i64 (dl : Int)) rfl (exec_ld64 (.tmp 92) rfl (by kernel_rfl) (HJ2.out.dd.cell 0 (by omega))) ?_
  refine wpList_val0 (.pointer (some ⟨w.heap.size + 2, 1, none⟩)) rfl (by kernel_rfl) ?_
  refine wpList_val0 (.int .i64 (dg : Int)) rfl (exec_ld64 (.tmp 94) rfl (by kernel_rfl) (HJ2.out.dd.cell 1 (by omega))) ?_
  refine wpList_val0 (.pointer (some ⟨w.heap.size + 3, 1, none⟩)) rfl (by kernel_rfl) ?_
  refine wpList_val0 (.int .i64 (sg : Int)) rfl (exec_ld64 (.tmp 96) rfl (by kernel_rfl) (HJ2.out.ss.cell 1 (by omega))) ?_
  refine wpList_val0 (.int .i64 ((sg - 1 : Nat) : Int)) rfl (exec_sub1 (.tmp 97) rfl (by kernel_rfl) (by have := HY.out; omega) (by have := HN4.out; omega)) ?_
  refine wpList_val0 (.int .i64 (mj : Int)) rfl (by rw [HMJ.out]; exact exec_min2 95 98 (by kernel_rfl) (by kernel_rfl)) ?_
  refine wpList_val0 (.agg #[.int .i64 (dl : Int), .int .i64 (mj : Int)]) rfl (exec_build2 83 0 1 (.tmp 93) (.tmp 99) rfl (.int .i64 (dl : Int)) (.int .i64 (mj : Int)) (by kernel_rfl) (by kernel_rfl) _ (bsp _ _ _)) ?_

  refine wpList_callg (f := 34) (args := #[.agg (knL (k)).toArray, .int .i64 (i.dst : Int), .agg #[.int .i64 (dl : Int), .int .i64 (mj : Int)]]) (v := .agg (knL ((k).put i.dst ⟨dl, mj⟩)).toArray) (R := Below W2.heap.size W2) (by kernel_rfl) (by kernel_rfl) (HWI.out W2 dl mj (by have := HA.out; have := HB.out; have := HN2.out; have := HN4.out; omega) (by have := HMJ.out; have := HN2.out; omega)) (fun Wc hbc => ?_)
  have hBc := HB2.out.below hbc
  have hjc := HJ2.out.more hbc
  clear hbc

  refine wpList_val0 (.pointer (some ⟨wb, 31, none⟩)) rfl (by kernel_rfl) ?_
  refine wpList_stk 102 101 wb 31 (k.put i.dst ⟨dl, mj⟩) (by kernel_rfl) (by kernel_rfl) (there_mid hBc 31 31 (by omega)) ?_
  have hB3 := hBc.setj (k.put i.dst ⟨dl, mj⟩)
  have hj3 := hjc.set wb (by have := HWZ.out; omega) 31 (knL (k.put i.dst ⟨dl, mj⟩))
  obtain ⟨W3, hW3⟩ : ∃ W3, W3 = Wc.setCells wb 31 (knL (k.put i.dst ⟨dl, mj⟩)) := ⟨_, rfl⟩
  show wpList _ _ _ _ _ (Wc.setCells wb 31 (knL (k.put i.dst ⟨dl, mj⟩)))
  rw [← hW3] at hB3 hj3 ⊢
  have HJ3 := Lib.hid hj3; have HB3 := Lib.hid hB3
  clear hW3 hB3 hj3 hBc hjc
  clear i0 d0 d1 s0 s1
  have d0 : W3.cell? ⟨w.heap.size + 2, 0, none⟩ = some (.int .i64 (dl : Int)) := HJ3.out.dd.cell 0 (by omega)
  have d1 : W3.cell? ⟨w.heap.size + 2, 1, none⟩ = some (.int .i64 (dg : Int)) := HJ3.out.dd.cell 1 (by omega)
  have s0 : W3.cell? ⟨w.heap.size + 3, 0, none⟩ = some (.int .i64 (sl : Int)) := HJ3.out.ss.cell 0 (by omega)
  have s1 : W3.cell? ⟨w.heap.size + 3, 1, none⟩ = some (.int .i64 (sg : Int)) := HJ3.out.ss.cell 1 (by omega)
  have HBF : Hid (WyB W3 wb nx jx 0) := Lib.hid (by rw [HNX.out, HJX.out]; exact HB3.out)
  clear HNX HJX HB3
  go_upto_region 24 with fail
  refine wp_region_list ?_
  refine wpList_ldw 154 9 wb nx jx 0 (by kernel_rfl) (by kernel_rfl) HBF.out ?_
  refine wpList_stw 8 154 (w.heap.size + 4) nx jx 0 (by kernel_rfl) (by kernel_rfl) HJ3.out.rr ?_
  obtain ⟨W9, HW9, HR9, HE9, HK9⟩ := fin_store HJ3.out.b HJ3.out.rr (by omega) (wayL nx jx 0) (wayL_length _ _ _)
  rw [← HW9.out]
  go_wp2
  refine bodyPost_ret (v := .agg (wayL nx jx 0).toArray) (results_cell1_range Try.results36 _ _ (w.heap.size + 4) 0 (wayL nx jx 0) _ (by kernel_rfl) HR9.out Try.underlying64 rfl (by rw [wayL_length]; exact info_way)) ?_ ⟨rfl, HE9.out⟩
  rfl

set_option maxRecDepth 100000 in
set_option maxHeartbeats 2000000 in
theorem rj_lt21C (w : World) (i : Ins8) (k : Kn) (dl dg sl sg : Nat) (hop : i.op = 21) (hdst : i.dst < 10) (hsrc : i.src < 10) (h1 : dl ≤ dg) (h2 : dg ≤ 4294967295) (h3 : sl ≤ sg) (h4 : sg ≤ 4294967295) (mj mn xj xn : Nat) (HMJ : Hid (mj = min dg (sg - 1))) (HMN : Hid (mn = max dl sl)) (HXJ : Hid (xj = max sl (dl + 1))) (HXN : Hid (xn = min sg dg)) (HY : Hid (sg ≤ dl ∧ sl ≤ dg)) (nx jx : Kn) (HNX : Hid (nx = k.put i.dst ⟨mn, dg⟩)) (HJX : Hid (jx = kn0)) : Calls Try.prog 36 #[.agg #[.int .i64 (i.op : Int), .int .i64 (i.dst : Int), .int .i64 (i.src : Int), .int .i64 i.off, .int .u32 (i.imm : Int)], .agg (knL k).toArray, .agg #[.int .i64 (dl : Int), .int .i64 (dg : Int)], .agg #[.int .i64 (sl : Int), .int .i64 (sg : Int)]] w fun e w' => e = .returned (.agg (wayL nx jx 0).toArray) ∧ Below w.heap.size w w' := by
  obtain ⟨L, hL⟩ : ∃ L, L = (knL k).toArray := ⟨_, rfl⟩
  obtain ⟨W1, HW1, HJ1, HZ1⟩ := jw_world w i k dl dg sl sg L hL
  rw [← hL]
  clear hL
  have HWI := Lib.hid (fun W l g hl hg => refwith_ok W k i.dst l g hdst hl hg)
  have HA := Lib.hid h1; have HB := Lib.hid h3; have HDN := Lib.hid hdst
  have p2 : (dg : Int) ≤ 4294967295 := by omega
  have p4 : (sg : Int) ≤ 4294967295 := by omega
  have HN2 := Lib.hid h2; have HN4 := Lib.hid h4
  clear h1 h2 h3 h4 hdst
  go_enter Try.func36, Try.ntmps36
  go_upto_region 0 with fail
  refine wp_region_list ?_
  refine wpList_box 4 0 45 #[.int .i64 (i.op : Int), .int .i64 (i.dst : Int), .int .i64 (i.src : Int), .int .i64 i.off, .int .u32 (i.imm : Int)] w.heap.size rfl (by kernel_rfl) ?_
  refine wpList_box 5 1 42 L (w.heap.size + 1) (by simp) (by kernel_rfl) ?_
  refine wpList_box 6 2 83 #[.int .i64 (dl : Int), .int .i64 (dg : Int)] (w.heap.size + 2) (by simp) (by kernel_rfl) ?_
  refine wpList_box 7 3 83 #[.int .i64 (sl : Int), .int .i64 (sg : Int)] (w.heap.size + 3) (by simp) (by kernel_rfl) ?_
  refine wpList_alw2 8 (w.heap.size + 4) (by simp) ?_
  rw [← HW1.out]
  clear HW1
  go_upto_region 1 with fail
  refine wp_region_list ?_
  refine wpList_val0 (.agg (wayL kn0 kn0 0).toArray) rfl (exec_build0 64 rfl _ (bw_0 _)) ?_
  obtain ⟨wb, hwb⟩ : ∃ wb, wb = W1.heap.size := ⟨_, rfl⟩
  refine wpList_alw2 9 wb hwb ?_
  have hB : WyB (W1.alloc (.cells (wayL kn0 kn0 0).toArray 64)) wb kn0 kn0 0 := by rw [hwb]; exact wayB W1 kn0 kn0 0
  have hj : Jw w i k dl dg sl sg (W1.alloc (.cells (wayL kn0 kn0 0).toArray 64)) := HJ1.out.more ((Below.refl _ _).alloc (Nat.le_refl _) _)
  have hwz : w.heap.size + 5 = wb := by rw [hwb]; exact HZ1.out.symm
  obtain ⟨Wx, hWx⟩ : ∃ Wx, Wx = W1.alloc (.cells (wayL kn0 kn0 0).toArray 64) := ⟨_, rfl⟩
  rw [← hWx] at hB hj ⊢
  clear hWx hwb
  refine wpList_stw 9 12 wb kn0 kn0 0 (by kernel_rfl) (by kernel_rfl) hB ?_
  have hB2 := WyB.fill hB kn0 kn0 0
  have hj2 := hj.set wb (by omega) 0 (wayL kn0 kn0 0)
  obtain ⟨W2, hW2⟩ : ∃ W2, W2 = Wx.setCells wb 0 (wayL kn0 kn0 0) := ⟨_, rfl⟩
  rw [← hW2] at hB2 hj2 ⊢
  have HJ2 := Lib.hid hj2; have HB2 := Lib.hid hB2; have HWZ := Lib.hid hwz
  clear hW2 hB hj hB2 hj2 hwz HJ1 HZ1
  have i0 : W2.cell? ⟨w.heap.size, 0, none⟩ = some (.int .i64 21) := by have := HJ2.out.ii.cell 0 (by omega); rw [show ([.int .i64 (i.op : Int), .int .i64 (i.dst : Int), .int .i64 (i.src : Int), .int .i64 i.off, .int .u32 (i.imm : Int)].getD 0 undef : Value) = .int .i64 (i.op : Int) from rfl, hop] at this; exact this
  have HOP := Lib.hid hop; clear hop
  have hy := HY.out
  have hz := HA.out
  have hf0 : ¬ (dl : Int) < (sg : Int) := by omega
  have hf1 : (sl : Int) ≤ (dg : Int) := by omega
  clear hy hz
  have d0 : W2.cell? ⟨w.heap.size + 2, 0, none⟩ = some (.int .i64 (dl : Int)) := HJ2.out.dd.cell 0 (by omega)
  have d1 : W2.cell? ⟨w.heap.size + 2, 1, none⟩ = some (.int .i64 (dg : Int)) := HJ2.out.dd.cell 1 (by omega)
  have s0 : W2.cell? ⟨w.heap.size + 3, 0, none⟩ = some (.int .i64 (sl : Int)) := HJ2.out.ss.cell 0 (by omega)
  have s1 : W2.cell? ⟨w.heap.size + 3, 1, none⟩ = some (.int .i64 (sg : Int)) := HJ2.out.ss.cell 1 (by omega)
  go_upto_region 21 with fail
  refine wp_region_list ?_
  refine wpList_ldk 125 5 (w.heap.size + 1) 0 k (by kernel_rfl) (by kernel_rfl) HJ2.out.kk.range ?_
  refine wpList_val0 (.pointer (some ⟨w.heap.size, 1, none⟩)) rfl (by kernel_rfl) ?_
  refine wpList_val0 (.int .i64 (i.dst : Int)) rfl (exec_ldint (.tmp 126) rfl (by kernel_rfl) (HJ2.out.ii.cell 1 (by omega))) ?_
  refine wpList_val0 (.pointer (some ⟨w.heap.size + 2, 0, none⟩)) rfl (by kernel_rfl) ?_
  refine wpList_val0 (.int .i64 (dl : Int)) rfl (exec_ld64 (.tmp 128) rfl (by kernel_rfl) (HJ2.out.dd.cell 0 (by omega))) ?_
  refine wpList_val0 (.pointer (some ⟨w.heap.size + 3, 0, none⟩)) rfl (by kernel_rfl) ?_
  refine wpList_val0 (.int .i64 (sl : Int)) rfl (exec_ld64 (.tmp 130) rfl (by kernel_rfl) (HJ2.out.ss.cell 0 (by omega))) ?_
  refine wpList_val0 (.int .i64 (mn : Int)) rfl (by rw [HMN.out]; exact exec_max2 129 131 (by kernel_rfl) (by kernel_rfl)) ?_
  refine wpList_val0 (.pointer (some ⟨w.heap.size + 2, 1, none⟩)) rfl (by kernel_rfl) ?_
  refine wpList_val0 (.int .i64 (dg : Int)) rfl (exec_ld64 (.tmp 133) rfl (by kernel_rfl) (HJ2.out.dd.cell 1 (by omega))) ?_
  refine wpList_val0 (.agg #[.int .i64 (mn : Int), .int .i64 (dg : Int)]) rfl (exec_build2 83 0 1 (.tmp 132) (.tmp 134) rfl (.int .i64 (mn : Int)) (.int .i64 (dg : Int)) (by kernel_rfl) (by kernel_rfl) _ (bsp _ _ _)) ?_

  refine wpList_callg (f := 34) (args := #[.agg (knL (k)).toArray, .int .i64 (i.dst : Int), .agg #[.int .i64 (mn : Int), .int .i64 (dg : Int)]]) (v := .agg (knL ((k).put i.dst ⟨mn, dg⟩)).toArray) (R := Below W2.heap.size W2) (by kernel_rfl) (by kernel_rfl) (HWI.out W2 mn dg (by have := HMN.out; have := HA.out; have := HB.out; have := HN2.out; have := HN4.out; omega) (HN2.out)) (fun Wc hbc => ?_)
  have hBc := HB2.out.below hbc
  have hjc := HJ2.out.more hbc
  clear hbc

  refine wpList_val0 (.pointer (some ⟨wb, 0, none⟩)) rfl (by kernel_rfl) ?_
  refine wpList_stk 137 136 wb 0 (k.put i.dst ⟨mn, dg⟩) (by kernel_rfl) (by kernel_rfl) (there_mid hBc 0 31 (by omega)) ?_
  have hB3 := hBc.setn (k.put i.dst ⟨mn, dg⟩)
  have hj3 := hjc.set wb (by have := HWZ.out; omega) 0 (knL (k.put i.dst ⟨mn, dg⟩))
  obtain ⟨W3, hW3⟩ : ∃ W3, W3 = Wc.setCells wb 0 (knL (k.put i.dst ⟨mn, dg⟩)) := ⟨_, rfl⟩
  show wpList _ _ _ _ _ (Wc.setCells wb 0 (knL (k.put i.dst ⟨mn, dg⟩)))
  rw [← hW3] at hB3 hj3 ⊢
  have HJ3 := Lib.hid hj3; have HB3 := Lib.hid hB3
  clear hW3 hB3 hj3 hBc hjc
  clear i0 d0 d1 s0 s1
  have d0 : W3.cell? ⟨w.heap.size + 2, 0, none⟩ = some (.int .i64 (dl : Int)) := HJ3.out.dd.cell 0 (by omega)
  have d1 : W3.cell? ⟨w.heap.size + 2, 1, none⟩ = some (.int .i64 (dg : Int)) := HJ3.out.dd.cell 1 (by omega)
  have s0 : W3.cell? ⟨w.heap.size + 3, 0, none⟩ = some (.int .i64 (sl : Int)) := HJ3.out.ss.cell 0 (by omega)
  have s1 : W3.cell? ⟨w.heap.size + 3, 1, none⟩ = some (.int .i64 (sg : Int)) := HJ3.out.ss.cell 1 (by omega)
  have HBF : Hid (WyB W3 wb nx jx 0) := Lib.hid (by rw [HNX.out, HJX.out]; exact HB3.out)
  clear HNX HJX HB3
  go_upto_region 24 with fail
  refine wp_region_list ?_
  refine wpList_ldw 154 9 wb nx jx 0 (by kernel_rfl) (by kernel_rfl) HBF.out ?_
  refine wpList_stw 8 154 (w.heap.size + 4) nx jx 0 (by kernel_rfl) (by kernel_rfl) HJ3.out.rr ?_
  obtain ⟨W9, HW9, HR9, HE9, HK9⟩ := fin_store HJ3.out.b HJ3.out.rr (by omega) (wayL nx jx 0) (wayL_length _ _ _)
  rw [← HW9.out]
  go_wp2
  refine bodyPost_ret (v := .agg (wayL nx jx 0).toArray) (results_cell1_range Try.results36 _ _ (w.heap.size + 4) 0 (wayL nx jx 0) _ (by kernel_rfl) HR9.out Try.underlying64 rfl (by rw [wayL_length]; exact info_way)) ?_ ⟨rfl, HE9.out⟩
  rfl

set_option maxRecDepth 100000 in
set_option maxHeartbeats 2000000 in
theorem rj_lt22A (w : World) (i : Ins8) (k : Kn) (dl dg sl sg : Nat) (hop : i.op = 22) (hdst : i.dst < 10) (hsrc : i.src < 10) (h1 : dl ≤ dg) (h2 : dg ≤ 4294967295) (h3 : sl ≤ sg) (h4 : sg ≤ 4294967295) (mj mn xj xn : Nat) (HMJ : Hid (mj = min dg (sg - 1))) (HMN : Hid (mn = max dl sl)) (HXJ : Hid (xj = max sl (dl + 1))) (HXN : Hid (xn = min sg dg)) (HNE : Hid (i.dst ≠ i.src)) (HY : Hid (dl < sg ∧ sl ≤ dg)) (nx jx : Kn) (HNX : Hid (nx = (k.put i.dst ⟨mn, dg⟩).put i.src ⟨sl, xn⟩)) (HJX : Hid (jx = (k.put i.dst ⟨dl, mj⟩).put i.src ⟨xj, sg⟩)) : Calls Try.prog 36 #[.agg #[.int .i64 (i.op : Int), .int .i64 (i.dst : Int), .int .i64 (i.src : Int), .int .i64 i.off, .int .u32 (i.imm : Int)], .agg (knL k).toArray, .agg #[.int .i64 (dl : Int), .int .i64 (dg : Int)], .agg #[.int .i64 (sl : Int), .int .i64 (sg : Int)]] w fun e w' => e = .returned (.agg (wayL nx jx 0).toArray) ∧ Below w.heap.size w w' := by
  obtain ⟨L, hL⟩ : ∃ L, L = (knL k).toArray := ⟨_, rfl⟩
  obtain ⟨W1, HW1, HJ1, HZ1⟩ := jw_world w i k dl dg sl sg L hL
  rw [← hL]
  clear hL
  have HWI := Lib.hid (fun W l g hl hg => refwith_ok W k i.dst l g hdst hl hg)
  have HA := Lib.hid h1; have HB := Lib.hid h3; have HDN := Lib.hid hdst
  have p2 : (dg : Int) ≤ 4294967295 := by omega
  have p4 : (sg : Int) ≤ 4294967295 := by omega
  have HN2 := Lib.hid h2; have HN4 := Lib.hid h4
  clear h1 h2 h3 h4 hdst
  go_enter Try.func36, Try.ntmps36
  go_upto_region 0 with fail
  refine wp_region_list ?_
  refine wpList_box 4 0 45 #[.int .i64 (i.op : Int), .int .i64 (i.dst : Int), .int .i64 (i.src : Int), .int .i64 i.off, .int .u32 (i.imm : Int)] w.heap.size rfl (by kernel_rfl) ?_
  refine wpList_box 5 1 42 L (w.heap.size + 1) (by simp) (by kernel_rfl) ?_
  refine wpList_box 6 2 83 #[.int .i64 (dl : Int), .int .i64 (dg : Int)] (w.heap.size + 2) (by simp) (by kernel_rfl) ?_
  refine wpList_box 7 3 83 #[.int .i64 (sl : Int), .int .i64 (sg : Int)] (w.heap.size + 3) (by simp) (by kernel_rfl) ?_
  refine wpList_alw2 8 (w.heap.size + 4) (by simp) ?_
  rw [← HW1.out]
  clear HW1
  go_upto_region 1 with fail
  refine wp_region_list ?_
  refine wpList_val0 (.agg (wayL kn0 kn0 0).toArray) rfl (exec_build0 64 rfl _ (bw_0 _)) ?_
  obtain ⟨wb, hwb⟩ : ∃ wb, wb = W1.heap.size := ⟨_, rfl⟩
  refine wpList_alw2 9 wb hwb ?_
  have hB : WyB (W1.alloc (.cells (wayL kn0 kn0 0).toArray 64)) wb kn0 kn0 0 := by rw [hwb]; exact wayB W1 kn0 kn0 0
  have hj : Jw w i k dl dg sl sg (W1.alloc (.cells (wayL kn0 kn0 0).toArray 64)) := HJ1.out.more ((Below.refl _ _).alloc (Nat.le_refl _) _)
  have hwz : w.heap.size + 5 = wb := by rw [hwb]; exact HZ1.out.symm
  obtain ⟨Wx, hWx⟩ : ∃ Wx, Wx = W1.alloc (.cells (wayL kn0 kn0 0).toArray 64) := ⟨_, rfl⟩
  rw [← hWx] at hB hj ⊢
  clear hWx hwb
  refine wpList_stw 9 12 wb kn0 kn0 0 (by kernel_rfl) (by kernel_rfl) hB ?_
  have hB2 := WyB.fill hB kn0 kn0 0
  have hj2 := hj.set wb (by omega) 0 (wayL kn0 kn0 0)
  obtain ⟨W2, hW2⟩ : ∃ W2, W2 = Wx.setCells wb 0 (wayL kn0 kn0 0) := ⟨_, rfl⟩
  rw [← hW2] at hB2 hj2 ⊢
  have HJ2 := Lib.hid hj2; have HB2 := Lib.hid hB2; have HWZ := Lib.hid hwz
  clear hW2 hB hj hB2 hj2 hwz HJ1 HZ1
  have i0 : W2.cell? ⟨w.heap.size, 0, none⟩ = some (.int .i64 22) := by have := HJ2.out.ii.cell 0 (by omega); rw [show ([.int .i64 (i.op : Int), .int .i64 (i.dst : Int), .int .i64 (i.src : Int), .int .i64 i.off, .int .u32 (i.imm : Int)].getD 0 undef : Value) = .int .i64 (i.op : Int) from rfl, hop] at this; exact this
  have HOP := Lib.hid hop; clear hop
  have HWS := Lib.hid (fun kx W l g hl hg => refwith_ok W kx i.src l g hsrc hl hg)
  have hy := HY.out
  have hz := HA.out
  have hf0 : (dl : Int) < (sg : Int) := by omega
  have hf1 : (sl : Int) ≤ (dg : Int) := by omega
  clear hy hz
  have d0 : W2.cell? ⟨w.heap.size + 2, 0, none⟩ = some (.int .i64 (dl : Int)) := HJ2.out.dd.cell 0 (by omega)
  have d1 : W2.cell? ⟨w.heap.size + 2, 1, none⟩ = some (.int .i64 (dg : Int)) := HJ2.out.dd.cell 1 (by omega)
  have s0 : W2.cell? ⟨w.heap.size + 3, 0, none⟩ = some (.int .i64 (sl : Int)) := HJ2.out.ss.cell 0 (by omega)
  have s1 : W2.cell? ⟨w.heap.size + 3, 1, none⟩ = some (.int .i64 (sg : Int)) := HJ2.out.ss.cell 1 (by omega)
  have i1 : W2.cell? ⟨w.heap.size, 1, none⟩ = some (.int .i64 (i.dst : Int)) := HJ2.out.ii.cell 1 (by omega)
  have i2 : W2.cell? ⟨w.heap.size, 2, none⟩ = some (.int .i64 (i.src : Int)) := HJ2.out.ii.cell 2 (by omega)
  have hne : ¬ (i.dst : Int) = (i.src : Int) := by have := HNE.out; omega
  go_upto_region 17 with fail
  refine wp_region_list ?_
  refine wpList_ldk 89 5 (w.heap.size + 1) 0 k (by kernel_rfl) (by kernel_rfl) HJ2.out.kk.range ?_
  refine wpList_val0 (.pointer (some ⟨w.heap.size, 1, none⟩)) rfl (by kernel_rfl) ?_
  refine wpList_val0 (.int .i64 (i.dst : Int)) rfl (exec_ldint (.tmp 90) rfl (by kernel_rfl) (HJ2.out.ii.cell 1 (by omega))) ?_
  refine wpList_val0 (.pointer (some ⟨w.heap.size + 2, 0, none⟩)) rfl (by kernel_rfl) ?_
  refine wpList_val0 (.int .i64 (dl : Int)) rfl (exec_ld64 (.tmp 92) rfl (by kernel_rfl) (HJ2.out.dd.cell 0 (by omega))) ?_
  refine wpList_val0 (.pointer (some ⟨w.heap.size + 2, 1, none⟩)) rfl (by kernel_rfl) ?_
  refine wpList_val0 (.int .i64 (dg : Int)) rfl (exec_ld64 (.tmp 94) rfl (by kernel_rfl) (HJ2.out.dd.cell 1 (by omega))) ?_
  refine wpList_val0 (.pointer (some ⟨w.heap.size + 3, 1, none⟩)) rfl (by kernel_rfl) ?_
  refine wpList_val0 (.int .i64 (sg : Int)) rfl (exec_ld64 (.tmp 96) rfl (by kernel_rfl) (HJ2.out.ss.cell 1 (by omega))) ?_
  refine wpList_val0 (.int .i64 ((sg - 1 : Nat) : Int)) rfl (exec_sub1 (.tmp 97) rfl (by kernel_rfl) (by have := HY.out; omega) (by have := HN4.out; omega)) ?_
  refine wpList_val0 (.int .i64 (mj : Int)) rfl (by rw [HMJ.out]; exact exec_min2 95 98 (by kernel_rfl) (by kernel_rfl)) ?_
  refine wpList_val0 (.agg #[.int .i64 (dl : Int), .int .i64 (mj : Int)]) rfl (exec_build2 83 0 1 (.tmp 93) (.tmp 99) rfl (.int .i64 (dl : Int)) (.int .i64 (mj : Int)) (by kernel_rfl) (by kernel_rfl) _ (bsp _ _ _)) ?_

  refine wpList_callg (f := 34) (args := #[.agg (knL (k)).toArray, .int .i64 (i.dst : Int), .agg #[.int .i64 (dl : Int), .int .i64 (mj : Int)]]) (v := .agg (knL ((k).put i.dst ⟨dl, mj⟩)).toArray) (R := Below W2.heap.size W2) (by kernel_rfl) (by kernel_rfl) (HWI.out W2 dl mj (by have := HA.out; have := HB.out; have := HN2.out; have := HN4.out; omega) (by have := HMJ.out; have := HN2.out; omega)) (fun Wc hbc => ?_)
  have hBc := HB2.out.below hbc
  have hjc := HJ2.out.more hbc
  clear hbc

  refine wpList_val0 (.pointer (some ⟨wb, 31, none⟩)) rfl (by kernel_rfl) ?_
  refine wpList_stk 102 101 wb 31 (k.put i.dst ⟨dl, mj⟩) (by kernel_rfl) (by kernel_rfl) (there_mid hBc 31 31 (by omega)) ?_
  have hB3 := hBc.setj (k.put i.dst ⟨dl, mj⟩)
  have hj3 := hjc.set wb (by have := HWZ.out; omega) 31 (knL (k.put i.dst ⟨dl, mj⟩))
  obtain ⟨W3, hW3⟩ : ∃ W3, W3 = Wc.setCells wb 31 (knL (k.put i.dst ⟨dl, mj⟩)) := ⟨_, rfl⟩
  show wpList _ _ _ _ _ (Wc.setCells wb 31 (knL (k.put i.dst ⟨dl, mj⟩)))
  rw [← hW3] at hB3 hj3 ⊢
  have HJ3 := Lib.hid hj3; have HB3 := Lib.hid hB3
  clear hW3 hB3 hj3 hBc hjc
  clear i0 i1 i2 hne d0 d1 s0 s1
  have d0 : W3.cell? ⟨w.heap.size + 2, 0, none⟩ = some (.int .i64 (dl : Int)) := HJ3.out.dd.cell 0 (by omega)
  have d1 : W3.cell? ⟨w.heap.size + 2, 1, none⟩ = some (.int .i64 (dg : Int)) := HJ3.out.dd.cell 1 (by omega)
  have s0 : W3.cell? ⟨w.heap.size + 3, 0, none⟩ = some (.int .i64 (sl : Int)) := HJ3.out.ss.cell 0 (by omega)
  have s1 : W3.cell? ⟨w.heap.size + 3, 1, none⟩ = some (.int .i64 (sg : Int)) := HJ3.out.ss.cell 1 (by omega)
  go_upto_region 19 with fail
  refine wp_region_list ?_
  refine wpList_val0 (.pointer (some ⟨wb, 31, none⟩)) rfl (by kernel_rfl) ?_
  refine wpList_ldk 106 105 wb 31 (k.put i.dst ⟨dl, mj⟩) (by kernel_rfl) (by kernel_rfl) HB3.out.jumped ?_
  refine wpList_val0 (.pointer (some ⟨w.heap.size, 2, none⟩)) rfl (by kernel_rfl) ?_
  refine wpList_val0 (.int .i64 (i.src : Int)) rfl (exec_ldint (.tmp 107) rfl (by kernel_rfl) (HJ3.out.ii.cell 2 (by omega))) ?_
  refine wpList_val0 (.pointer (some ⟨w.heap.size + 3, 0, none⟩)) rfl (by kernel_rfl) ?_
  refine wpList_val0 (.int .i64 (sl : Int)) rfl (exec_ld64 (.tmp 109) rfl (by kernel_rfl) (HJ3.out.ss.cell 0 (by omega))) ?_
  refine wpList_val0 (.pointer (some ⟨w.heap.size + 2, 0, none⟩)) rfl (by kernel_rfl) ?_
  refine wpList_val0 (.int .i64 (dl : Int)) rfl (exec_ld64 (.tmp 111) rfl (by kernel_rfl) (HJ3.out.dd.cell 0 (by omega))) ?_
  refine wpList_val0 (.int .i64 ((dl + 1 : Nat) : Int)) rfl (exec_add1 (.tmp 112) rfl (by kernel_rfl) (by have := HA.out; have := HN2.out; omega)) ?_
  refine wpList_val0 (.int .i64 (xj : Int)) rfl (by rw [HXJ.out]; exact exec_max2 110 113 (by kernel_rfl) (by kernel_rfl)) ?_
  refine wpList_val0 (.pointer (some ⟨w.heap.size + 3, 1, none⟩)) rfl (by kernel_rfl) ?_
  refine wpList_val0 (.int .i64 (sg : Int)) rfl (exec_ld64 (.tmp 115) rfl (by kernel_rfl) (HJ3.out.ss.cell 1 (by omega))) ?_
  refine wpList_val0 (.agg #[.int .i64 (xj : Int), .int .i64 (sg : Int)]) rfl (exec_build2 83 0 1 (.tmp 114) (.tmp 116) rfl (.int .i64 (xj : Int)) (.int .i64 (sg : Int)) (by kernel_rfl) (by kernel_rfl) _ (bsp _ _ _)) ?_

  refine wpList_callg (f := 34) (args := #[.agg (knL (k.put i.dst ⟨dl, mj⟩)).toArray, .int .i64 (i.src : Int), .agg #[.int .i64 (xj : Int), .int .i64 (sg : Int)]]) (v := .agg (knL ((k.put i.dst ⟨dl, mj⟩).put i.src ⟨xj, sg⟩)).toArray) (R := Below W3.heap.size W3) (by kernel_rfl) (by kernel_rfl) (HWS.out (k.put i.dst ⟨dl, mj⟩) W3 xj sg (by have := HXJ.out; have := HY.out; have := HA.out; have := HB.out; have := HN4.out; omega) (HN4.out)) (fun Wc hbc => ?_)
  have hBc := HB3.out.below hbc
  have hjc := HJ3.out.more hbc
  clear hbc

  refine wpList_val0 (.pointer (some ⟨wb, 31, none⟩)) rfl (by kernel_rfl) ?_
  refine wpList_stk 119 118 wb 31 ((k.put i.dst ⟨dl, mj⟩).put i.src ⟨xj, sg⟩) (by kernel_rfl) (by kernel_rfl) (there_mid hBc 31 31 (by omega)) ?_
  have hB3 := hBc.setj ((k.put i.dst ⟨dl, mj⟩).put i.src ⟨xj, sg⟩)
  have hj3 := hjc.set wb (by have := HWZ.out; omega) 31 (knL ((k.put i.dst ⟨dl, mj⟩).put i.src ⟨xj, sg⟩))
  obtain ⟨W4, hW3⟩ : ∃ W3, W3 = Wc.setCells wb 31 (knL ((k.put i.dst ⟨dl, mj⟩).put i.src ⟨xj, sg⟩)) := ⟨_, rfl⟩
  show wpList _ _ _ _ _ (Wc.setCells wb 31 (knL ((k.put i.dst ⟨dl, mj⟩).put i.src ⟨xj, sg⟩)))
  rw [← hW3] at hB3 hj3 ⊢
  have HJ4 := Lib.hid hj3; have HB4 := Lib.hid hB3
  clear hW3 hB3 hj3 hBc hjc
  clear d0 d1 s0 s1
  have d0 : W4.cell? ⟨w.heap.size + 2, 0, none⟩ = some (.int .i64 (dl : Int)) := HJ4.out.dd.cell 0 (by omega)
  have d1 : W4.cell? ⟨w.heap.size + 2, 1, none⟩ = some (.int .i64 (dg : Int)) := HJ4.out.dd.cell 1 (by omega)
  have s0 : W4.cell? ⟨w.heap.size + 3, 0, none⟩ = some (.int .i64 (sl : Int)) := HJ4.out.ss.cell 0 (by omega)
  have s1 : W4.cell? ⟨w.heap.size + 3, 1, none⟩ = some (.int .i64 (sg : Int)) := HJ4.out.ss.cell 1 (by omega)
  go_upto_region 21 with fail
  refine wp_region_list ?_
  refine wpList_ldk 125 5 (w.heap.size + 1) 0 k (by kernel_rfl) (by kernel_rfl) HJ4.out.kk.range ?_
  refine wpList_val0 (.pointer (some ⟨w.heap.size, 1, none⟩)) rfl (by kernel_rfl) ?_
  refine wpList_val0 (.int .i64 (i.dst : Int)) rfl (exec_ldint (.tmp 126) rfl (by kernel_rfl) (HJ4.out.ii.cell 1 (by omega))) ?_
  refine wpList_val0 (.pointer (some ⟨w.heap.size + 2, 0, none⟩)) rfl (by kernel_rfl) ?_
  refine wpList_val0 (.int .i64 (dl : Int)) rfl (exec_ld64 (.tmp 128) rfl (by kernel_rfl) (HJ4.out.dd.cell 0 (by omega))) ?_
  refine wpList_val0 (.pointer (some ⟨w.heap.size + 3, 0, none⟩)) rfl (by kernel_rfl) ?_
  refine wpList_val0 (.int .i64 (sl : Int)) rfl (exec_ld64 (.tmp 130) rfl (by kernel_rfl) (HJ4.out.ss.cell 0 (by omega))) ?_
  refine wpList_val0 (.int .i64 (mn : Int)) rfl (by rw [HMN.out]; exact exec_max2 129 131 (by kernel_rfl) (by kernel_rfl)) ?_
  refine wpList_val0 (.pointer (some ⟨w.heap.size + 2, 1, none⟩)) rfl (by kernel_rfl) ?_
  refine wpList_val0 (.int .i64 (dg : Int)) rfl (exec_ld64 (.tmp 133) rfl (by kernel_rfl) (HJ4.out.dd.cell 1 (by omega))) ?_
  refine wpList_val0 (.agg #[.int .i64 (mn : Int), .int .i64 (dg : Int)]) rfl (exec_build2 83 0 1 (.tmp 132) (.tmp 134) rfl (.int .i64 (mn : Int)) (.int .i64 (dg : Int)) (by kernel_rfl) (by kernel_rfl) _ (bsp _ _ _)) ?_

  refine wpList_callg (f := 34) (args := #[.agg (knL (k)).toArray, .int .i64 (i.dst : Int), .agg #[.int .i64 (mn : Int), .int .i64 (dg : Int)]]) (v := .agg (knL ((k).put i.dst ⟨mn, dg⟩)).toArray) (R := Below W4.heap.size W4) (by kernel_rfl) (by kernel_rfl) (HWI.out W4 mn dg (by have := HMN.out; have := HA.out; have := HB.out; have := HN2.out; have := HN4.out; omega) (HN2.out)) (fun Wc hbc => ?_)
  have hBc := HB4.out.below hbc
  have hjc := HJ4.out.more hbc
  clear hbc

  refine wpList_val0 (.pointer (some ⟨wb, 0, none⟩)) rfl (by kernel_rfl) ?_
  refine wpList_stk 137 136 wb 0 (k.put i.dst ⟨mn, dg⟩) (by kernel_rfl) (by kernel_rfl) (there_mid hBc 0 31 (by omega)) ?_
  have hB3 := hBc.setn (k.put i.dst ⟨mn, dg⟩)
  have hj3 := hjc.set wb (by have := HWZ.out; omega) 0 (knL (k.put i.dst ⟨mn, dg⟩))
  obtain ⟨W5, hW3⟩ : ∃ W3, W3 = Wc.setCells wb 0 (knL (k.put i.dst ⟨mn, dg⟩)) := ⟨_, rfl⟩
  show wpList _ _ _ _ _ (Wc.setCells wb 0 (knL (k.put i.dst ⟨mn, dg⟩)))
  rw [← hW3] at hB3 hj3 ⊢
  have HJ5 := Lib.hid hj3; have HB5 := Lib.hid hB3
  clear hW3 hB3 hj3 hBc hjc
  clear  d0 d1 s0 s1
  have d0 : W5.cell? ⟨w.heap.size + 2, 0, none⟩ = some (.int .i64 (dl : Int)) := HJ5.out.dd.cell 0 (by omega)
  have d1 : W5.cell? ⟨w.heap.size + 2, 1, none⟩ = some (.int .i64 (dg : Int)) := HJ5.out.dd.cell 1 (by omega)
  have s0 : W5.cell? ⟨w.heap.size + 3, 0, none⟩ = some (.int .i64 (sl : Int)) := HJ5.out.ss.cell 0 (by omega)
  have s1 : W5.cell? ⟨w.heap.size + 3, 1, none⟩ = some (.int .i64 (sg : Int)) := HJ5.out.ss.cell 1 (by omega)
  go_upto_region 23 with fail
  refine wp_region_list ?_
  refine wpList_val0 (.pointer (some ⟨wb, 0, none⟩)) rfl (by kernel_rfl) ?_
  refine wpList_ldk 141 140 wb 0 (k.put i.dst ⟨mn, dg⟩) (by kernel_rfl) (by kernel_rfl) HB5.out.next ?_
  refine wpList_val0 (.pointer (some ⟨w.heap.size, 2, none⟩)) rfl (by kernel_rfl) ?_
  refine wpList_val0 (.int .i64 (i.src : Int)) rfl (exec_ldint (.tmp 142) rfl (by kernel_rfl) (HJ5.out.ii.cell 2 (by omega))) ?_
  refine wpList_val0 (.pointer (some ⟨w.heap.size + 3, 0, none⟩)) rfl (by kernel_rfl) ?_
  refine wpList_val0 (.int .i64 (sl : Int)) rfl (exec_ld64 (.tmp 144) rfl (by kernel_rfl) (HJ5.out.ss.cell 0 (by omega))) ?_
  refine wpList_val0 (.pointer (some ⟨w.heap.size + 3, 1, none⟩)) rfl (by kernel_rfl) ?_
  refine wpList_val0 (.int .i64 (sg : Int)) rfl (exec_ld64 (.tmp 146) rfl (by kernel_rfl) (HJ5.out.ss.cell 1 (by omega))) ?_
  refine wpList_val0 (.pointer (some ⟨w.heap.size + 2, 1, none⟩)) rfl (by kernel_rfl) ?_
  refine wpList_val0 (.int .i64 (dg : Int)) rfl (exec_ld64 (.tmp 148) rfl (by kernel_rfl) (HJ5.out.dd.cell 1 (by omega))) ?_
  refine wpList_val0 (.int .i64 (xn : Int)) rfl (by rw [HXN.out]; exact exec_min2 147 149 (by kernel_rfl) (by kernel_rfl)) ?_
  refine wpList_val0 (.agg #[.int .i64 (sl : Int), .int .i64 (xn : Int)]) rfl (exec_build2 83 0 1 (.tmp 145) (.tmp 150) rfl (.int .i64 (sl : Int)) (.int .i64 (xn : Int)) (by kernel_rfl) (by kernel_rfl) _ (bsp _ _ _)) ?_

  refine wpList_callg (f := 34) (args := #[.agg (knL (k.put i.dst ⟨mn, dg⟩)).toArray, .int .i64 (i.src : Int), .agg #[.int .i64 (sl : Int), .int .i64 (xn : Int)]]) (v := .agg (knL ((k.put i.dst ⟨mn, dg⟩).put i.src ⟨sl, xn⟩)).toArray) (R := Below W5.heap.size W5) (by kernel_rfl) (by kernel_rfl) (HWS.out (k.put i.dst ⟨mn, dg⟩) W5 sl xn (by have := HB.out; have := HN4.out; omega) (by have := HXN.out; have := HN2.out; omega)) (fun Wc hbc => ?_)
  have hBc := HB5.out.below hbc
  have hjc := HJ5.out.more hbc
  clear hbc

  refine wpList_val0 (.pointer (some ⟨wb, 0, none⟩)) rfl (by kernel_rfl) ?_
  refine wpList_stk 153 152 wb 0 ((k.put i.dst ⟨mn, dg⟩).put i.src ⟨sl, xn⟩) (by kernel_rfl) (by kernel_rfl) (there_mid hBc 0 31 (by omega)) ?_
  have hB3 := hBc.setn ((k.put i.dst ⟨mn, dg⟩).put i.src ⟨sl, xn⟩)
  have hj3 := hjc.set wb (by have := HWZ.out; omega) 0 (knL ((k.put i.dst ⟨mn, dg⟩).put i.src ⟨sl, xn⟩))
  obtain ⟨W6, hW3⟩ : ∃ W3, W3 = Wc.setCells wb 0 (knL ((k.put i.dst ⟨mn, dg⟩).put i.src ⟨sl, xn⟩)) := ⟨_, rfl⟩
  show wpList _ _ _ _ _ (Wc.setCells wb 0 (knL ((k.put i.dst ⟨mn, dg⟩).put i.src ⟨sl, xn⟩)))
  rw [← hW3] at hB3 hj3 ⊢
  have HJ6 := Lib.hid hj3; have HB6 := Lib.hid hB3
  clear hW3 hB3 hj3 hBc hjc
  clear d0 d1 s0 s1
  have d0 : W6.cell? ⟨w.heap.size + 2, 0, none⟩ = some (.int .i64 (dl : Int)) := HJ6.out.dd.cell 0 (by omega)
  have d1 : W6.cell? ⟨w.heap.size + 2, 1, none⟩ = some (.int .i64 (dg : Int)) := HJ6.out.dd.cell 1 (by omega)
  have s0 : W6.cell? ⟨w.heap.size + 3, 0, none⟩ = some (.int .i64 (sl : Int)) := HJ6.out.ss.cell 0 (by omega)
  have s1 : W6.cell? ⟨w.heap.size + 3, 1, none⟩ = some (.int .i64 (sg : Int)) := HJ6.out.ss.cell 1 (by omega)
  have HBF : Hid (WyB W6 wb nx jx 0) := Lib.hid (by rw [HNX.out, HJX.out]; exact HB6.out)
  clear HNX HJX HB6
  go_upto_region 24 with fail
  refine wp_region_list ?_
  refine wpList_ldw 154 9 wb nx jx 0 (by kernel_rfl) (by kernel_rfl) HBF.out ?_
  refine wpList_stw 8 154 (w.heap.size + 4) nx jx 0 (by kernel_rfl) (by kernel_rfl) HJ6.out.rr ?_
  obtain ⟨W9, HW9, HR9, HE9, HK9⟩ := fin_store HJ6.out.b HJ6.out.rr (by omega) (wayL nx jx 0) (wayL_length _ _ _)
  rw [← HW9.out]
  go_wp2
  refine bodyPost_ret (v := .agg (wayL nx jx 0).toArray) (results_cell1_range Try.results36 _ _ (w.heap.size + 4) 0 (wayL nx jx 0) _ (by kernel_rfl) HR9.out Try.underlying64 rfl (by rw [wayL_length]; exact info_way)) ?_ ⟨rfl, HE9.out⟩
  rfl

set_option maxRecDepth 100000 in
set_option maxHeartbeats 2000000 in
theorem rj_lt22B (w : World) (i : Ins8) (k : Kn) (dl dg sl sg : Nat) (hop : i.op = 22) (hdst : i.dst < 10) (hsrc : i.src < 10) (h1 : dl ≤ dg) (h2 : dg ≤ 4294967295) (h3 : sl ≤ sg) (h4 : sg ≤ 4294967295) (mj mn xj xn : Nat) (HMJ : Hid (mj = min dg (sg - 1))) (HMN : Hid (mn = max dl sl)) (HXJ : Hid (xj = max sl (dl + 1))) (HXN : Hid (xn = min sg dg)) (HNE : Hid (i.dst ≠ i.src)) (HY : Hid (dl < sg ∧ dg < sl)) (nx jx : Kn) (HNX : Hid (nx = kn0)) (HJX : Hid (jx = (k.put i.dst ⟨dl, mj⟩).put i.src ⟨xj, sg⟩)) : Calls Try.prog 36 #[.agg #[.int .i64 (i.op : Int), .int .i64 (i.dst : Int), .int .i64 (i.src : Int), .int .i64 i.off, .int .u32 (i.imm : Int)], .agg (knL k).toArray, .agg #[.int .i64 (dl : Int), .int .i64 (dg : Int)], .agg #[.int .i64 (sl : Int), .int .i64 (sg : Int)]] w fun e w' => e = .returned (.agg (wayL nx jx 0).toArray) ∧ Below w.heap.size w w' := by
  obtain ⟨L, hL⟩ : ∃ L, L = (knL k).toArray := ⟨_, rfl⟩
  obtain ⟨W1, HW1, HJ1, HZ1⟩ := jw_world w i k dl dg sl sg L hL
  rw [← hL]
  clear hL
  have HWI := Lib.hid (fun W l g hl hg => refwith_ok W k i.dst l g hdst hl hg)
  have HA := Lib.hid h1; have HB := Lib.hid h3; have HDN := Lib.hid hdst
  have p2 : (dg : Int) ≤ 4294967295 := by omega
  have p4 : (sg : Int) ≤ 4294967295 := by omega
  have HN2 := Lib.hid h2; have HN4 := Lib.hid h4
  clear h1 h2 h3 h4 hdst
  go_enter Try.func36, Try.ntmps36
  go_upto_region 0 with fail
  refine wp_region_list ?_
  refine wpList_box 4 0 45 #[.int .i64 (i.op : Int), .int .i64 (i.dst : Int), .int .i64 (i.src : Int), .int .i64 i.off, .int .u32 (i.imm : Int)] w.heap.size rfl (by kernel_rfl) ?_
  refine wpList_box 5 1 42 L (w.heap.size + 1) (by simp) (by kernel_rfl) ?_
  refine wpList_box 6 2 83 #[.int .i64 (dl : Int), .int .i64 (dg : Int)] (w.heap.size + 2) (by simp) (by kernel_rfl) ?_
  refine wpList_box 7 3 83 #[.int .i64 (sl : Int), .int .i64 (sg : Int)] (w.heap.size + 3) (by simp) (by kernel_rfl) ?_
  refine wpList_alw2 8 (w.heap.size + 4) (by simp) ?_
  rw [← HW1.out]
  clear HW1
  go_upto_region 1 with fail
  refine wp_region_list ?_
  refine wpList_val0 (.agg (wayL kn0 kn0 0).toArray) rfl (exec_build0 64 rfl _ (bw_0 _)) ?_
  obtain ⟨wb, hwb⟩ : ∃ wb, wb = W1.heap.size := ⟨_, rfl⟩
  refine wpList_alw2 9 wb hwb ?_
  have hB : WyB (W1.alloc (.cells (wayL kn0 kn0 0).toArray 64)) wb kn0 kn0 0 := by rw [hwb]; exact wayB W1 kn0 kn0 0
  have hj : Jw w i k dl dg sl sg (W1.alloc (.cells (wayL kn0 kn0 0).toArray 64)) := HJ1.out.more ((Below.refl _ _).alloc (Nat.le_refl _) _)
  have hwz : w.heap.size + 5 = wb := by rw [hwb]; exact HZ1.out.symm
  obtain ⟨Wx, hWx⟩ : ∃ Wx, Wx = W1.alloc (.cells (wayL kn0 kn0 0).toArray 64) := ⟨_, rfl⟩
  rw [← hWx] at hB hj ⊢
  clear hWx hwb
  refine wpList_stw 9 12 wb kn0 kn0 0 (by kernel_rfl) (by kernel_rfl) hB ?_
  have hB2 := WyB.fill hB kn0 kn0 0
  have hj2 := hj.set wb (by omega) 0 (wayL kn0 kn0 0)
  obtain ⟨W2, hW2⟩ : ∃ W2, W2 = Wx.setCells wb 0 (wayL kn0 kn0 0) := ⟨_, rfl⟩
  rw [← hW2] at hB2 hj2 ⊢
  have HJ2 := Lib.hid hj2; have HB2 := Lib.hid hB2; have HWZ := Lib.hid hwz
  clear hW2 hB hj hB2 hj2 hwz HJ1 HZ1
  have i0 : W2.cell? ⟨w.heap.size, 0, none⟩ = some (.int .i64 22) := by have := HJ2.out.ii.cell 0 (by omega); rw [show ([.int .i64 (i.op : Int), .int .i64 (i.dst : Int), .int .i64 (i.src : Int), .int .i64 i.off, .int .u32 (i.imm : Int)].getD 0 undef : Value) = .int .i64 (i.op : Int) from rfl, hop] at this; exact this
  have HOP := Lib.hid hop; clear hop
  have HWS := Lib.hid (fun kx W l g hl hg => refwith_ok W kx i.src l g hsrc hl hg)
  have hy := HY.out
  have hz := HA.out
  have hf0 : (dl : Int) < (sg : Int) := by omega
  have hf1 : ¬ (sl : Int) ≤ (dg : Int) := by omega
  clear hy hz
  have d0 : W2.cell? ⟨w.heap.size + 2, 0, none⟩ = some (.int .i64 (dl : Int)) := HJ2.out.dd.cell 0 (by omega)
  have d1 : W2.cell? ⟨w.heap.size + 2, 1, none⟩ = some (.int .i64 (dg : Int)) := HJ2.out.dd.cell 1 (by omega)
  have s0 : W2.cell? ⟨w.heap.size + 3, 0, none⟩ = some (.int .i64 (sl : Int)) := HJ2.out.ss.cell 0 (by omega)
  have s1 : W2.cell? ⟨w.heap.size + 3, 1, none⟩ = some (.int .i64 (sg : Int)) := HJ2.out.ss.cell 1 (by omega)
  have i1 : W2.cell? ⟨w.heap.size, 1, none⟩ = some (.int .i64 (i.dst : Int)) := HJ2.out.ii.cell 1 (by omega)
  have i2 : W2.cell? ⟨w.heap.size, 2, none⟩ = some (.int .i64 (i.src : Int)) := HJ2.out.ii.cell 2 (by omega)
  have hne : ¬ (i.dst : Int) = (i.src : Int) := by have := HNE.out; omega
  go_upto_region 17 with fail
  refine wp_region_list ?_
  refine wpList_ldk 89 5 (w.heap.size + 1) 0 k (by kernel_rfl) (by kernel_rfl) HJ2.out.kk.range ?_
  refine wpList_val0 (.pointer (some ⟨w.heap.size, 1, none⟩)) rfl (by kernel_rfl) ?_
  refine wpList_val0 (.int .i64 (i.dst : Int)) rfl (exec_ldint (.tmp 90) rfl (by kernel_rfl) (HJ2.out.ii.cell 1 (by omega))) ?_
  refine wpList_val0 (.pointer (some ⟨w.heap.size + 2, 0, none⟩)) rfl (by kernel_rfl) ?_
  refine wpList_val0 (.int .i64 (dl : Int)) rfl (exec_ld64 (.tmp 92) rfl (by kernel_rfl) (HJ2.out.dd.cell 0 (by omega))) ?_
  refine wpList_val0 (.pointer (some ⟨w.heap.size + 2, 1, none⟩)) rfl (by kernel_rfl) ?_
  refine wpList_val0 (.int .i64 (dg : Int)) rfl (exec_ld64 (.tmp 94) rfl (by kernel_rfl) (HJ2.out.dd.cell 1 (by omega))) ?_
  refine wpList_val0 (.pointer (some ⟨w.heap.size + 3, 1, none⟩)) rfl (by kernel_rfl) ?_
  refine wpList_val0 (.int .i64 (sg : Int)) rfl (exec_ld64 (.tmp 96) rfl (by kernel_rfl) (HJ2.out.ss.cell 1 (by omega))) ?_
  refine wpList_val0 (.int .i64 ((sg - 1 : Nat) : Int)) rfl (exec_sub1 (.tmp 97) rfl (by kernel_rfl) (by have := HY.out; omega) (by have := HN4.out; omega)) ?_
  refine wpList_val0 (.int .i64 (mj : Int)) rfl (by rw [HMJ.out]; exact exec_min2 95 98 (by kernel_rfl) (by kernel_rfl)) ?_
  refine wpList_val0 (.agg #[.int .i64 (dl : Int), .int .i64 (mj : Int)]) rfl (exec_build2 83 0 1 (.tmp 93) (.tmp 99) rfl (.int .i64 (dl : Int)) (.int .i64 (mj : Int)) (by kernel_rfl) (by kernel_rfl) _ (bsp _ _ _)) ?_

  refine wpList_callg (f := 34) (args := #[.agg (knL (k)).toArray, .int .i64 (i.dst : Int), .agg #[.int .i64 (dl : Int), .int .i64 (mj : Int)]]) (v := .agg (knL ((k).put i.dst ⟨dl, mj⟩)).toArray) (R := Below W2.heap.size W2) (by kernel_rfl) (by kernel_rfl) (HWI.out W2 dl mj (by have := HA.out; have := HB.out; have := HN2.out; have := HN4.out; omega) (by have := HMJ.out; have := HN2.out; omega)) (fun Wc hbc => ?_)
  have hBc := HB2.out.below hbc
  have hjc := HJ2.out.more hbc
  clear hbc

  refine wpList_val0 (.pointer (some ⟨wb, 31, none⟩)) rfl (by kernel_rfl) ?_
  refine wpList_stk 102 101 wb 31 (k.put i.dst ⟨dl, mj⟩) (by kernel_rfl) (by kernel_rfl) (there_mid hBc 31 31 (by omega)) ?_
  have hB3 := hBc.setj (k.put i.dst ⟨dl, mj⟩)
  have hj3 := hjc.set wb (by have := HWZ.out; omega) 31 (knL (k.put i.dst ⟨dl, mj⟩))
  obtain ⟨W3, hW3⟩ : ∃ W3, W3 = Wc.setCells wb 31 (knL (k.put i.dst ⟨dl, mj⟩)) := ⟨_, rfl⟩
  show wpList _ _ _ _ _ (Wc.setCells wb 31 (knL (k.put i.dst ⟨dl, mj⟩)))
  rw [← hW3] at hB3 hj3 ⊢
  have HJ3 := Lib.hid hj3; have HB3 := Lib.hid hB3
  clear hW3 hB3 hj3 hBc hjc
  clear i0 i1 i2 hne d0 d1 s0 s1
  have d0 : W3.cell? ⟨w.heap.size + 2, 0, none⟩ = some (.int .i64 (dl : Int)) := HJ3.out.dd.cell 0 (by omega)
  have d1 : W3.cell? ⟨w.heap.size + 2, 1, none⟩ = some (.int .i64 (dg : Int)) := HJ3.out.dd.cell 1 (by omega)
  have s0 : W3.cell? ⟨w.heap.size + 3, 0, none⟩ = some (.int .i64 (sl : Int)) := HJ3.out.ss.cell 0 (by omega)
  have s1 : W3.cell? ⟨w.heap.size + 3, 1, none⟩ = some (.int .i64 (sg : Int)) := HJ3.out.ss.cell 1 (by omega)
  go_upto_region 19 with fail
  refine wp_region_list ?_
  refine wpList_val0 (.pointer (some ⟨wb, 31, none⟩)) rfl (by kernel_rfl) ?_
  refine wpList_ldk 106 105 wb 31 (k.put i.dst ⟨dl, mj⟩) (by kernel_rfl) (by kernel_rfl) HB3.out.jumped ?_
  refine wpList_val0 (.pointer (some ⟨w.heap.size, 2, none⟩)) rfl (by kernel_rfl) ?_
  refine wpList_val0 (.int .i64 (i.src : Int)) rfl (exec_ldint (.tmp 107) rfl (by kernel_rfl) (HJ3.out.ii.cell 2 (by omega))) ?_
  refine wpList_val0 (.pointer (some ⟨w.heap.size + 3, 0, none⟩)) rfl (by kernel_rfl) ?_
  refine wpList_val0 (.int .i64 (sl : Int)) rfl (exec_ld64 (.tmp 109) rfl (by kernel_rfl) (HJ3.out.ss.cell 0 (by omega))) ?_
  refine wpList_val0 (.pointer (some ⟨w.heap.size + 2, 0, none⟩)) rfl (by kernel_rfl) ?_
  refine wpList_val0 (.int .i64 (dl : Int)) rfl (exec_ld64 (.tmp 111) rfl (by kernel_rfl) (HJ3.out.dd.cell 0 (by omega))) ?_
  refine wpList_val0 (.int .i64 ((dl + 1 : Nat) : Int)) rfl (exec_add1 (.tmp 112) rfl (by kernel_rfl) (by have := HA.out; have := HN2.out; omega)) ?_
  refine wpList_val0 (.int .i64 (xj : Int)) rfl (by rw [HXJ.out]; exact exec_max2 110 113 (by kernel_rfl) (by kernel_rfl)) ?_
  refine wpList_val0 (.pointer (some ⟨w.heap.size + 3, 1, none⟩)) rfl (by kernel_rfl) ?_
  refine wpList_val0 (.int .i64 (sg : Int)) rfl (exec_ld64 (.tmp 115) rfl (by kernel_rfl) (HJ3.out.ss.cell 1 (by omega))) ?_
  refine wpList_val0 (.agg #[.int .i64 (xj : Int), .int .i64 (sg : Int)]) rfl (exec_build2 83 0 1 (.tmp 114) (.tmp 116) rfl (.int .i64 (xj : Int)) (.int .i64 (sg : Int)) (by kernel_rfl) (by kernel_rfl) _ (bsp _ _ _)) ?_

  refine wpList_callg (f := 34) (args := #[.agg (knL (k.put i.dst ⟨dl, mj⟩)).toArray, .int .i64 (i.src : Int), .agg #[.int .i64 (xj : Int), .int .i64 (sg : Int)]]) (v := .agg (knL ((k.put i.dst ⟨dl, mj⟩).put i.src ⟨xj, sg⟩)).toArray) (R := Below W3.heap.size W3) (by kernel_rfl) (by kernel_rfl) (HWS.out (k.put i.dst ⟨dl, mj⟩) W3 xj sg (by have := HXJ.out; have := HY.out; have := HA.out; have := HB.out; have := HN4.out; omega) (HN4.out)) (fun Wc hbc => ?_)
  have hBc := HB3.out.below hbc
  have hjc := HJ3.out.more hbc
  clear hbc

  refine wpList_val0 (.pointer (some ⟨wb, 31, none⟩)) rfl (by kernel_rfl) ?_
  refine wpList_stk 119 118 wb 31 ((k.put i.dst ⟨dl, mj⟩).put i.src ⟨xj, sg⟩) (by kernel_rfl) (by kernel_rfl) (there_mid hBc 31 31 (by omega)) ?_
  have hB3 := hBc.setj ((k.put i.dst ⟨dl, mj⟩).put i.src ⟨xj, sg⟩)
  have hj3 := hjc.set wb (by have := HWZ.out; omega) 31 (knL ((k.put i.dst ⟨dl, mj⟩).put i.src ⟨xj, sg⟩))
  obtain ⟨W4, hW3⟩ : ∃ W3, W3 = Wc.setCells wb 31 (knL ((k.put i.dst ⟨dl, mj⟩).put i.src ⟨xj, sg⟩)) := ⟨_, rfl⟩
  show wpList _ _ _ _ _ (Wc.setCells wb 31 (knL ((k.put i.dst ⟨dl, mj⟩).put i.src ⟨xj, sg⟩)))
  rw [← hW3] at hB3 hj3 ⊢
  have HJ4 := Lib.hid hj3; have HB4 := Lib.hid hB3
  clear hW3 hB3 hj3 hBc hjc
  clear d0 d1 s0 s1
  have d0 : W4.cell? ⟨w.heap.size + 2, 0, none⟩ = some (.int .i64 (dl : Int)) := HJ4.out.dd.cell 0 (by omega)
  have d1 : W4.cell? ⟨w.heap.size + 2, 1, none⟩ = some (.int .i64 (dg : Int)) := HJ4.out.dd.cell 1 (by omega)
  have s0 : W4.cell? ⟨w.heap.size + 3, 0, none⟩ = some (.int .i64 (sl : Int)) := HJ4.out.ss.cell 0 (by omega)
  have s1 : W4.cell? ⟨w.heap.size + 3, 1, none⟩ = some (.int .i64 (sg : Int)) := HJ4.out.ss.cell 1 (by omega)
  have HBF : Hid (WyB W4 wb nx jx 0) := Lib.hid (by rw [HNX.out, HJX.out]; exact HB4.out)
  clear HNX HJX HB4
  go_upto_region 24 with fail
  refine wp_region_list ?_
  refine wpList_ldw 154 9 wb nx jx 0 (by kernel_rfl) (by kernel_rfl) HBF.out ?_
  refine wpList_stw 8 154 (w.heap.size + 4) nx jx 0 (by kernel_rfl) (by kernel_rfl) HJ4.out.rr ?_
  obtain ⟨W9, HW9, HR9, HE9, HK9⟩ := fin_store HJ4.out.b HJ4.out.rr (by omega) (wayL nx jx 0) (wayL_length _ _ _)
  rw [← HW9.out]
  go_wp2
  refine bodyPost_ret (v := .agg (wayL nx jx 0).toArray) (results_cell1_range Try.results36 _ _ (w.heap.size + 4) 0 (wayL nx jx 0) _ (by kernel_rfl) HR9.out Try.underlying64 rfl (by rw [wayL_length]; exact info_way)) ?_ ⟨rfl, HE9.out⟩
  rfl

set_option maxRecDepth 100000 in
set_option maxHeartbeats 2000000 in
theorem rj_lt22C (w : World) (i : Ins8) (k : Kn) (dl dg sl sg : Nat) (hop : i.op = 22) (hdst : i.dst < 10) (hsrc : i.src < 10) (h1 : dl ≤ dg) (h2 : dg ≤ 4294967295) (h3 : sl ≤ sg) (h4 : sg ≤ 4294967295) (mj mn xj xn : Nat) (HMJ : Hid (mj = min dg (sg - 1))) (HMN : Hid (mn = max dl sl)) (HXJ : Hid (xj = max sl (dl + 1))) (HXN : Hid (xn = min sg dg)) (HNE : Hid (i.dst ≠ i.src)) (HY : Hid (sg ≤ dl ∧ sl ≤ dg)) (nx jx : Kn) (HNX : Hid (nx = (k.put i.dst ⟨mn, dg⟩).put i.src ⟨sl, xn⟩)) (HJX : Hid (jx = kn0)) : Calls Try.prog 36 #[.agg #[.int .i64 (i.op : Int), .int .i64 (i.dst : Int), .int .i64 (i.src : Int), .int .i64 i.off, .int .u32 (i.imm : Int)], .agg (knL k).toArray, .agg #[.int .i64 (dl : Int), .int .i64 (dg : Int)], .agg #[.int .i64 (sl : Int), .int .i64 (sg : Int)]] w fun e w' => e = .returned (.agg (wayL nx jx 0).toArray) ∧ Below w.heap.size w w' := by
  obtain ⟨L, hL⟩ : ∃ L, L = (knL k).toArray := ⟨_, rfl⟩
  obtain ⟨W1, HW1, HJ1, HZ1⟩ := jw_world w i k dl dg sl sg L hL
  rw [← hL]
  clear hL
  have HWI := Lib.hid (fun W l g hl hg => refwith_ok W k i.dst l g hdst hl hg)
  have HA := Lib.hid h1; have HB := Lib.hid h3; have HDN := Lib.hid hdst
  have p2 : (dg : Int) ≤ 4294967295 := by omega
  have p4 : (sg : Int) ≤ 4294967295 := by omega
  have HN2 := Lib.hid h2; have HN4 := Lib.hid h4
  clear h1 h2 h3 h4 hdst
  go_enter Try.func36, Try.ntmps36
  go_upto_region 0 with fail
  refine wp_region_list ?_
  refine wpList_box 4 0 45 #[.int .i64 (i.op : Int), .int .i64 (i.dst : Int), .int .i64 (i.src : Int), .int .i64 i.off, .int .u32 (i.imm : Int)] w.heap.size rfl (by kernel_rfl) ?_
  refine wpList_box 5 1 42 L (w.heap.size + 1) (by simp) (by kernel_rfl) ?_
  refine wpList_box 6 2 83 #[.int .i64 (dl : Int), .int .i64 (dg : Int)] (w.heap.size + 2) (by simp) (by kernel_rfl) ?_
  refine wpList_box 7 3 83 #[.int .i64 (sl : Int), .int .i64 (sg : Int)] (w.heap.size + 3) (by simp) (by kernel_rfl) ?_
  refine wpList_alw2 8 (w.heap.size + 4) (by simp) ?_
  rw [← HW1.out]
  clear HW1
  go_upto_region 1 with fail
  refine wp_region_list ?_
  refine wpList_val0 (.agg (wayL kn0 kn0 0).toArray) rfl (exec_build0 64 rfl _ (bw_0 _)) ?_
  obtain ⟨wb, hwb⟩ : ∃ wb, wb = W1.heap.size := ⟨_, rfl⟩
  refine wpList_alw2 9 wb hwb ?_
  have hB : WyB (W1.alloc (.cells (wayL kn0 kn0 0).toArray 64)) wb kn0 kn0 0 := by rw [hwb]; exact wayB W1 kn0 kn0 0
  have hj : Jw w i k dl dg sl sg (W1.alloc (.cells (wayL kn0 kn0 0).toArray 64)) := HJ1.out.more ((Below.refl _ _).alloc (Nat.le_refl _) _)
  have hwz : w.heap.size + 5 = wb := by rw [hwb]; exact HZ1.out.symm
  obtain ⟨Wx, hWx⟩ : ∃ Wx, Wx = W1.alloc (.cells (wayL kn0 kn0 0).toArray 64) := ⟨_, rfl⟩
  rw [← hWx] at hB hj ⊢
  clear hWx hwb
  refine wpList_stw 9 12 wb kn0 kn0 0 (by kernel_rfl) (by kernel_rfl) hB ?_
  have hB2 := WyB.fill hB kn0 kn0 0
  have hj2 := hj.set wb (by omega) 0 (wayL kn0 kn0 0)
  obtain ⟨W2, hW2⟩ : ∃ W2, W2 = Wx.setCells wb 0 (wayL kn0 kn0 0) := ⟨_, rfl⟩
  rw [← hW2] at hB2 hj2 ⊢
  have HJ2 := Lib.hid hj2; have HB2 := Lib.hid hB2; have HWZ := Lib.hid hwz
  clear hW2 hB hj hB2 hj2 hwz HJ1 HZ1
  have i0 : W2.cell? ⟨w.heap.size, 0, none⟩ = some (.int .i64 22) := by have := HJ2.out.ii.cell 0 (by omega); rw [show ([.int .i64 (i.op : Int), .int .i64 (i.dst : Int), .int .i64 (i.src : Int), .int .i64 i.off, .int .u32 (i.imm : Int)].getD 0 undef : Value) = .int .i64 (i.op : Int) from rfl, hop] at this; exact this
  have HOP := Lib.hid hop; clear hop
  have HWS := Lib.hid (fun kx W l g hl hg => refwith_ok W kx i.src l g hsrc hl hg)
  have hy := HY.out
  have hz := HA.out
  have hf0 : ¬ (dl : Int) < (sg : Int) := by omega
  have hf1 : (sl : Int) ≤ (dg : Int) := by omega
  clear hy hz
  have d0 : W2.cell? ⟨w.heap.size + 2, 0, none⟩ = some (.int .i64 (dl : Int)) := HJ2.out.dd.cell 0 (by omega)
  have d1 : W2.cell? ⟨w.heap.size + 2, 1, none⟩ = some (.int .i64 (dg : Int)) := HJ2.out.dd.cell 1 (by omega)
  have s0 : W2.cell? ⟨w.heap.size + 3, 0, none⟩ = some (.int .i64 (sl : Int)) := HJ2.out.ss.cell 0 (by omega)
  have s1 : W2.cell? ⟨w.heap.size + 3, 1, none⟩ = some (.int .i64 (sg : Int)) := HJ2.out.ss.cell 1 (by omega)
  have i1 : W2.cell? ⟨w.heap.size, 1, none⟩ = some (.int .i64 (i.dst : Int)) := HJ2.out.ii.cell 1 (by omega)
  have i2 : W2.cell? ⟨w.heap.size, 2, none⟩ = some (.int .i64 (i.src : Int)) := HJ2.out.ii.cell 2 (by omega)
  have hne : ¬ (i.dst : Int) = (i.src : Int) := by have := HNE.out; omega
  go_upto_region 21 with fail
  refine wp_region_list ?_
  refine wpList_ldk 125 5 (w.heap.size + 1) 0 k (by kernel_rfl) (by kernel_rfl) HJ2.out.kk.range ?_
  refine wpList_val0 (.pointer (some ⟨w.heap.size, 1, none⟩)) rfl (by kernel_rfl) ?_
  refine wpList_val0 (.int .i64 (i.dst : Int)) rfl (exec_ldint (.tmp 126) rfl (by kernel_rfl) (HJ2.out.ii.cell 1 (by omega))) ?_
  refine wpList_val0 (.pointer (some ⟨w.heap.size + 2, 0, none⟩)) rfl (by kernel_rfl) ?_
  refine wpList_val0 (.int .i64 (dl : Int)) rfl (exec_ld64 (.tmp 128) rfl (by kernel_rfl) (HJ2.out.dd.cell 0 (by omega))) ?_
  refine wpList_val0 (.pointer (some ⟨w.heap.size + 3, 0, none⟩)) rfl (by kernel_rfl) ?_
  refine wpList_val0 (.int .i64 (sl : Int)) rfl (exec_ld64 (.tmp 130) rfl (by kernel_rfl) (HJ2.out.ss.cell 0 (by omega))) ?_
  refine wpList_val0 (.int .i64 (mn : Int)) rfl (by rw [HMN.out]; exact exec_max2 129 131 (by kernel_rfl) (by kernel_rfl)) ?_
  refine wpList_val0 (.pointer (some ⟨w.heap.size + 2, 1, none⟩)) rfl (by kernel_rfl) ?_
  refine wpList_val0 (.int .i64 (dg : Int)) rfl (exec_ld64 (.tmp 133) rfl (by kernel_rfl) (HJ2.out.dd.cell 1 (by omega))) ?_
  refine wpList_val0 (.agg #[.int .i64 (mn : Int), .int .i64 (dg : Int)]) rfl (exec_build2 83 0 1 (.tmp 132) (.tmp 134) rfl (.int .i64 (mn : Int)) (.int .i64 (dg : Int)) (by kernel_rfl) (by kernel_rfl) _ (bsp _ _ _)) ?_

  refine wpList_callg (f := 34) (args := #[.agg (knL (k)).toArray, .int .i64 (i.dst : Int), .agg #[.int .i64 (mn : Int), .int .i64 (dg : Int)]]) (v := .agg (knL ((k).put i.dst ⟨mn, dg⟩)).toArray) (R := Below W2.heap.size W2) (by kernel_rfl) (by kernel_rfl) (HWI.out W2 mn dg (by have := HMN.out; have := HA.out; have := HB.out; have := HN2.out; have := HN4.out; omega) (HN2.out)) (fun Wc hbc => ?_)
  have hBc := HB2.out.below hbc
  have hjc := HJ2.out.more hbc
  clear hbc

  refine wpList_val0 (.pointer (some ⟨wb, 0, none⟩)) rfl (by kernel_rfl) ?_
  refine wpList_stk 137 136 wb 0 (k.put i.dst ⟨mn, dg⟩) (by kernel_rfl) (by kernel_rfl) (there_mid hBc 0 31 (by omega)) ?_
  have hB3 := hBc.setn (k.put i.dst ⟨mn, dg⟩)
  have hj3 := hjc.set wb (by have := HWZ.out; omega) 0 (knL (k.put i.dst ⟨mn, dg⟩))
  obtain ⟨W3, hW3⟩ : ∃ W3, W3 = Wc.setCells wb 0 (knL (k.put i.dst ⟨mn, dg⟩)) := ⟨_, rfl⟩
  show wpList _ _ _ _ _ (Wc.setCells wb 0 (knL (k.put i.dst ⟨mn, dg⟩)))
  rw [← hW3] at hB3 hj3 ⊢
  have HJ3 := Lib.hid hj3; have HB3 := Lib.hid hB3
  clear hW3 hB3 hj3 hBc hjc
  clear i0 i1 i2 hne d0 d1 s0 s1
  have d0 : W3.cell? ⟨w.heap.size + 2, 0, none⟩ = some (.int .i64 (dl : Int)) := HJ3.out.dd.cell 0 (by omega)
  have d1 : W3.cell? ⟨w.heap.size + 2, 1, none⟩ = some (.int .i64 (dg : Int)) := HJ3.out.dd.cell 1 (by omega)
  have s0 : W3.cell? ⟨w.heap.size + 3, 0, none⟩ = some (.int .i64 (sl : Int)) := HJ3.out.ss.cell 0 (by omega)
  have s1 : W3.cell? ⟨w.heap.size + 3, 1, none⟩ = some (.int .i64 (sg : Int)) := HJ3.out.ss.cell 1 (by omega)
  go_upto_region 23 with fail
  refine wp_region_list ?_
  refine wpList_val0 (.pointer (some ⟨wb, 0, none⟩)) rfl (by kernel_rfl) ?_
  refine wpList_ldk 141 140 wb 0 (k.put i.dst ⟨mn, dg⟩) (by kernel_rfl) (by kernel_rfl) HB3.out.next ?_
  refine wpList_val0 (.pointer (some ⟨w.heap.size, 2, none⟩)) rfl (by kernel_rfl) ?_
  refine wpList_val0 (.int .i64 (i.src : Int)) rfl (exec_ldint (.tmp 142) rfl (by kernel_rfl) (HJ3.out.ii.cell 2 (by omega))) ?_
  refine wpList_val0 (.pointer (some ⟨w.heap.size + 3, 0, none⟩)) rfl (by kernel_rfl) ?_
  refine wpList_val0 (.int .i64 (sl : Int)) rfl (exec_ld64 (.tmp 144) rfl (by kernel_rfl) (HJ3.out.ss.cell 0 (by omega))) ?_
  refine wpList_val0 (.pointer (some ⟨w.heap.size + 3, 1, none⟩)) rfl (by kernel_rfl) ?_
  refine wpList_val0 (.int .i64 (sg : Int)) rfl (exec_ld64 (.tmp 146) rfl (by kernel_rfl) (HJ3.out.ss.cell 1 (by omega))) ?_
  refine wpList_val0 (.pointer (some ⟨w.heap.size + 2, 1, none⟩)) rfl (by kernel_rfl) ?_
  refine wpList_val0 (.int .i64 (dg : Int)) rfl (exec_ld64 (.tmp 148) rfl (by kernel_rfl) (HJ3.out.dd.cell 1 (by omega))) ?_
  refine wpList_val0 (.int .i64 (xn : Int)) rfl (by rw [HXN.out]; exact exec_min2 147 149 (by kernel_rfl) (by kernel_rfl)) ?_
  refine wpList_val0 (.agg #[.int .i64 (sl : Int), .int .i64 (xn : Int)]) rfl (exec_build2 83 0 1 (.tmp 145) (.tmp 150) rfl (.int .i64 (sl : Int)) (.int .i64 (xn : Int)) (by kernel_rfl) (by kernel_rfl) _ (bsp _ _ _)) ?_

  refine wpList_callg (f := 34) (args := #[.agg (knL (k.put i.dst ⟨mn, dg⟩)).toArray, .int .i64 (i.src : Int), .agg #[.int .i64 (sl : Int), .int .i64 (xn : Int)]]) (v := .agg (knL ((k.put i.dst ⟨mn, dg⟩).put i.src ⟨sl, xn⟩)).toArray) (R := Below W3.heap.size W3) (by kernel_rfl) (by kernel_rfl) (HWS.out (k.put i.dst ⟨mn, dg⟩) W3 sl xn (by have := HB.out; have := HN4.out; omega) (by have := HXN.out; have := HN2.out; omega)) (fun Wc hbc => ?_)
  have hBc := HB3.out.below hbc
  have hjc := HJ3.out.more hbc
  clear hbc

  refine wpList_val0 (.pointer (some ⟨wb, 0, none⟩)) rfl (by kernel_rfl) ?_
  refine wpList_stk 153 152 wb 0 ((k.put i.dst ⟨mn, dg⟩).put i.src ⟨sl, xn⟩) (by kernel_rfl) (by kernel_rfl) (there_mid hBc 0 31 (by omega)) ?_
  have hB3 := hBc.setn ((k.put i.dst ⟨mn, dg⟩).put i.src ⟨sl, xn⟩)
  have hj3 := hjc.set wb (by have := HWZ.out; omega) 0 (knL ((k.put i.dst ⟨mn, dg⟩).put i.src ⟨sl, xn⟩))
  obtain ⟨W4, hW3⟩ : ∃ W3, W3 = Wc.setCells wb 0 (knL ((k.put i.dst ⟨mn, dg⟩).put i.src ⟨sl, xn⟩)) := ⟨_, rfl⟩
  show wpList _ _ _ _ _ (Wc.setCells wb 0 (knL ((k.put i.dst ⟨mn, dg⟩).put i.src ⟨sl, xn⟩)))
  rw [← hW3] at hB3 hj3 ⊢
  have HJ4 := Lib.hid hj3; have HB4 := Lib.hid hB3
  clear hW3 hB3 hj3 hBc hjc
  clear d0 d1 s0 s1
  have d0 : W4.cell? ⟨w.heap.size + 2, 0, none⟩ = some (.int .i64 (dl : Int)) := HJ4.out.dd.cell 0 (by omega)
  have d1 : W4.cell? ⟨w.heap.size + 2, 1, none⟩ = some (.int .i64 (dg : Int)) := HJ4.out.dd.cell 1 (by omega)
  have s0 : W4.cell? ⟨w.heap.size + 3, 0, none⟩ = some (.int .i64 (sl : Int)) := HJ4.out.ss.cell 0 (by omega)
  have s1 : W4.cell? ⟨w.heap.size + 3, 1, none⟩ = some (.int .i64 (sg : Int)) := HJ4.out.ss.cell 1 (by omega)
  have HBF : Hid (WyB W4 wb nx jx 0) := Lib.hid (by rw [HNX.out, HJX.out]; exact HB4.out)
  clear HNX HJX HB4
  go_upto_region 24 with fail
  refine wp_region_list ?_
  refine wpList_ldw 154 9 wb nx jx 0 (by kernel_rfl) (by kernel_rfl) HBF.out ?_
  refine wpList_stw 8 154 (w.heap.size + 4) nx jx 0 (by kernel_rfl) (by kernel_rfl) HJ4.out.rr ?_
  obtain ⟨W9, HW9, HR9, HE9, HK9⟩ := fin_store HJ4.out.b HJ4.out.rr (by omega) (wayL nx jx 0) (wayL_length _ _ _)
  rw [← HW9.out]
  go_wp2
  refine bodyPost_ret (v := .agg (wayL nx jx 0).toArray) (results_cell1_range Try.results36 _ _ (w.heap.size + 4) 0 (wayL nx jx 0) _ (by kernel_rfl) HR9.out Try.underlying64 rfl (by rw [wayL_length]; exact info_way)) ?_ ⟨rfl, HE9.out⟩
  rfl

set_option maxRecDepth 100000 in
set_option maxHeartbeats 2000000 in
theorem rj_same (w : World) (i : Ins8) (k : Kn) (dl dg sl sg : Nat) (hop : i.op = 22) (hdst : i.dst < 10) (hsrc : i.src < 10) (h1 : dl ≤ dg) (h2 : dg ≤ 4294967295) (h3 : sl ≤ sg) (h4 : sg ≤ 4294967295) (HNE : Hid (i.dst = i.src)) (nx jx : Kn) (HNX : Hid (nx = k)) (HJX : Hid (jx = kn0)) : Calls Try.prog 36 #[.agg #[.int .i64 (i.op : Int), .int .i64 (i.dst : Int), .int .i64 (i.src : Int), .int .i64 i.off, .int .u32 (i.imm : Int)], .agg (knL k).toArray, .agg #[.int .i64 (dl : Int), .int .i64 (dg : Int)], .agg #[.int .i64 (sl : Int), .int .i64 (sg : Int)]] w fun e w' => e = .returned (.agg (wayL nx jx 0).toArray) ∧ Below w.heap.size w w' := by
  obtain ⟨L, hL⟩ : ∃ L, L = (knL k).toArray := ⟨_, rfl⟩
  obtain ⟨W1, HW1, HJ1, HZ1⟩ := jw_world w i k dl dg sl sg L hL
  rw [← hL]
  clear hL
  have HWI := Lib.hid (fun W l g hl hg => refwith_ok W k i.dst l g hdst hl hg)
  have HA := Lib.hid h1; have HB := Lib.hid h3; have HDN := Lib.hid hdst
  have p2 : (dg : Int) ≤ 4294967295 := by omega
  have p4 : (sg : Int) ≤ 4294967295 := by omega
  have HN2 := Lib.hid h2; have HN4 := Lib.hid h4
  clear h1 h2 h3 h4 hdst
  go_enter Try.func36, Try.ntmps36
  go_upto_region 0 with fail
  refine wp_region_list ?_
  refine wpList_box 4 0 45 #[.int .i64 (i.op : Int), .int .i64 (i.dst : Int), .int .i64 (i.src : Int), .int .i64 i.off, .int .u32 (i.imm : Int)] w.heap.size rfl (by kernel_rfl) ?_
  refine wpList_box 5 1 42 L (w.heap.size + 1) (by simp) (by kernel_rfl) ?_
  refine wpList_box 6 2 83 #[.int .i64 (dl : Int), .int .i64 (dg : Int)] (w.heap.size + 2) (by simp) (by kernel_rfl) ?_
  refine wpList_box 7 3 83 #[.int .i64 (sl : Int), .int .i64 (sg : Int)] (w.heap.size + 3) (by simp) (by kernel_rfl) ?_
  refine wpList_alw2 8 (w.heap.size + 4) (by simp) ?_
  rw [← HW1.out]
  clear HW1
  go_upto_region 1 with fail
  refine wp_region_list ?_
  refine wpList_val0 (.agg (wayL kn0 kn0 0).toArray) rfl (exec_build0 64 rfl _ (bw_0 _)) ?_
  obtain ⟨wb, hwb⟩ : ∃ wb, wb = W1.heap.size := ⟨_, rfl⟩
  refine wpList_alw2 9 wb hwb ?_
  have hB : WyB (W1.alloc (.cells (wayL kn0 kn0 0).toArray 64)) wb kn0 kn0 0 := by rw [hwb]; exact wayB W1 kn0 kn0 0
  have hj : Jw w i k dl dg sl sg (W1.alloc (.cells (wayL kn0 kn0 0).toArray 64)) := HJ1.out.more ((Below.refl _ _).alloc (Nat.le_refl _) _)
  have hwz : w.heap.size + 5 = wb := by rw [hwb]; exact HZ1.out.symm
  obtain ⟨Wx, hWx⟩ : ∃ Wx, Wx = W1.alloc (.cells (wayL kn0 kn0 0).toArray 64) := ⟨_, rfl⟩
  rw [← hWx] at hB hj ⊢
  clear hWx hwb
  refine wpList_stw 9 12 wb kn0 kn0 0 (by kernel_rfl) (by kernel_rfl) hB ?_
  have hB2 := WyB.fill hB kn0 kn0 0
  have hj2 := hj.set wb (by omega) 0 (wayL kn0 kn0 0)
  obtain ⟨W2, hW2⟩ : ∃ W2, W2 = Wx.setCells wb 0 (wayL kn0 kn0 0) := ⟨_, rfl⟩
  rw [← hW2] at hB2 hj2 ⊢
  have HJ2 := Lib.hid hj2; have HB2 := Lib.hid hB2; have HWZ := Lib.hid hwz
  clear hW2 hB hj hB2 hj2 hwz HJ1 HZ1
  have i0 : W2.cell? ⟨w.heap.size, 0, none⟩ = some (.int .i64 22) := by have := HJ2.out.ii.cell 0 (by omega); rw [show ([.int .i64 (i.op : Int), .int .i64 (i.dst : Int), .int .i64 (i.src : Int), .int .i64 i.off, .int .u32 (i.imm : Int)].getD 0 undef : Value) = .int .i64 (i.op : Int) from rfl, hop] at this; exact this
  have HOP := Lib.hid hop; clear hop
  have i1 : W2.cell? ⟨w.heap.size, 1, none⟩ = some (.int .i64 (i.dst : Int)) := HJ2.out.ii.cell 1 (by omega)
  have i2 : W2.cell? ⟨w.heap.size, 2, none⟩ = some (.int .i64 (i.dst : Int)) := by have := HJ2.out.ii.cell 2 (by omega); rw [this, HNE.out]; rfl
  go_upto_region 15 with fail
  refine wp_region_list ?_
  refine wpList_ldk 82 5 (w.heap.size + 1) 0 k (by kernel_rfl) (by kernel_rfl) HJ2.out.kk.range ?_
  refine wpList_val0 (.agg (wayL k kn0 0).toArray) rfl (exec_build1 64 0 (.tmp 82) rfl (.agg (knL k).toArray) (by kernel_rfl) _ (bw_n k _)) ?_
  have HNK : Hid (nx = k) := HNX
  obtain rfl := HNX.out
  obtain rfl := HJX.out
  refine wpList_stw 8 83 (w.heap.size + 4) nx kn0 0 (by kernel_rfl) (by kernel_rfl) HJ2.out.rr ?_
  obtain ⟨W9, HW9, HR9, HE9, HK9⟩ := fin_store HJ2.out.b HJ2.out.rr (by omega) (wayL nx kn0 0) (wayL_length _ _ _)
  rw [← HW9.out]
  go_wp2
  refine bodyPost_ret (v := .agg (wayL nx kn0 0).toArray) (results_cell1_range Try.results36 _ _ (w.heap.size + 4) 0 (wayL nx kn0 0) _ (by kernel_rfl) HR9.out Try.underlying64 rfl (by rw [wayL_length]; exact info_way)) ?_ ⟨rfl, HE9.out⟩
  rfl

theorem refjump_ok (w : World) (i : Ins8) (k : Kn) (hop : i.op = 20 ∨ i.op = 21 ∨ i.op = 22) (hdst : i.dst < 10) (hsrc : i.src < 10) (hm : i.imm ≤ 4294967295) (hr : k.right) (hu : i.useImm = decide (i.op ≤ 21)) : Calls Try.prog 36 #[.agg #[.int .i64 (i.op : Int), .int .i64 (i.dst : Int), .int .i64 (i.src : Int), .int .i64 i.off, .int .u32 (i.imm : Int)], .agg (knL k).toArray, .agg #[.int .i64 ((k.r i.dst).l : Int), .int .i64 ((k.r i.dst).g : Int)], .agg #[.int .i64 ((i.srcS k).l : Int), .int .i64 ((i.srcS k).g : Int)]] w fun e w' => e = .returned (.agg (wayL (if i.op = 20 then jeqN i k else if i.op = 22 ∧ i.dst = i.src then k else jltN i k (k.r i.dst).sp (i.srcS k)) (if i.op = 20 then jeqJ i k else if i.op = 22 ∧ i.dst = i.src then kn0 else jltJ i k (k.r i.dst).sp (i.srcS k)) 0).toArray) ∧ Below w.heap.size w w' := by
  have hd := hr.sp i.dst
  rcases hop with h | h | h
  · rw [if_pos h, if_pos h]
    have e : i.srcS k = ⟨i.imm, i.imm⟩ := by unfold Ins8.srcS; rw [hu, h]; rfl
    rw [e]
    exact rj_eq w i k (k.r i.dst).sp h hdst hsrc hd hm rfl
  · rw [if_neg (by omega), if_neg (by omega), if_neg (by omega), if_neg (by omega)]
    have e : i.srcS k = ⟨i.imm, i.imm⟩ := by unfold Ins8.srcS; rw [hu, h]; rfl
    rw [e]
    obtain ⟨d, hde⟩ : ∃ d, d = (k.r i.dst).sp := ⟨_, rfl⟩
    have el : (k.r i.dst).l = d.l := congrArg Sp.l hde.symm
    have eg : (k.r i.dst).g = d.g := congrArg Sp.g hde.symm
    rw [el, eg]
    rw [← hde] at hd ⊢
    obtain ⟨dl, dg⟩ := d
    obtain ⟨h1, h2⟩ := hd
    have h1 : dl ≤ dg := h1
    have h2 : dg ≤ 4294967295 := h2
    have eN : jltN i k ⟨dl, dg⟩ ⟨i.imm, i.imm⟩ = if i.imm ≤ dg then k.put i.dst ⟨max dl i.imm, dg⟩ else kn0 := by unfold jltN bothK; rw [if_neg (show ¬ i.op = 22 by omega)]
    have eJ : jltJ i k ⟨dl, dg⟩ ⟨i.imm, i.imm⟩ = if dl < i.imm then k.put i.dst ⟨dl, min dg (i.imm - 1)⟩ else kn0 := by unfold jltJ bothK; rw [if_neg (show ¬ i.op = 22 by omega)]
    rw [eN, eJ]
    rcases Nat.lt_or_ge dl i.imm with q | q
    · rw [if_pos q]
      rcases Nat.lt_or_ge dg i.imm with p | p
      · rw [if_neg (by omega)]
        exact rj_lt21B w i k dl dg i.imm i.imm h hdst hsrc h1 h2 (Nat.le_refl _) hm _ _ _ _ (Lib.hid rfl) (Lib.hid rfl) (Lib.hid rfl) (Lib.hid rfl) (Lib.hid ⟨q, p⟩) _ _ (Lib.hid rfl) (Lib.hid rfl)
      · rw [if_pos p]
        exact rj_lt21A w i k dl dg i.imm i.imm h hdst hsrc h1 h2 (Nat.le_refl _) hm _ _ _ _ (Lib.hid rfl) (Lib.hid rfl) (Lib.hid rfl) (Lib.hid rfl) (Lib.hid ⟨q, p⟩) _ _ (Lib.hid rfl) (Lib.hid rfl)
    · rw [if_pos (by omega), if_neg (by omega)]
      exact rj_lt21C w i k dl dg i.imm i.imm h hdst hsrc h1 h2 (Nat.le_refl _) hm _ _ _ _ (Lib.hid rfl) (Lib.hid rfl) (Lib.hid rfl) (Lib.hid rfl) (Lib.hid ⟨q, by omega⟩) _ _ (Lib.hid rfl) (Lib.hid rfl)
  · rw [if_neg (show ¬ i.op = 20 by omega), if_neg (show ¬ i.op = 20 by omega)]
    have e : i.srcS k = (k.r i.src).sp := by unfold Ins8.srcS; rw [hu, h]; rfl
    have hs := hr.sp i.src
    rw [e]
    obtain ⟨d, hde⟩ : ∃ d, d = (k.r i.dst).sp := ⟨_, rfl⟩
    have el : (k.r i.dst).l = d.l := congrArg Sp.l hde.symm
    have eg : (k.r i.dst).g = d.g := congrArg Sp.g hde.symm
    rw [el, eg]
    rw [← hde] at hd ⊢
    obtain ⟨s, hse⟩ : ∃ s, s = (k.r i.src).sp := ⟨_, rfl⟩
    rw [← hse] at hs ⊢
    obtain ⟨dl, dg⟩ := d
    obtain ⟨sl, sg⟩ := s
    obtain ⟨h1, h2⟩ := hd
    have h1 : dl ≤ dg := h1
    have h2 : dg ≤ 4294967295 := h2
    obtain ⟨h3, h4⟩ := hs
    have h3 : sl ≤ sg := h3
    have h4 : sg ≤ 4294967295 := h4
    by_cases hne : i.dst = i.src
    · rw [if_pos ⟨h, hne⟩, if_pos ⟨h, hne⟩]
      exact rj_same w i k dl dg sl sg h hdst hsrc h1 h2 h3 h4 (Lib.hid hne) _ _ (Lib.hid rfl) (Lib.hid rfl)
    · rw [if_neg (fun c => hne c.2), if_neg (fun c => hne c.2)]
      have eN : jltN i k ⟨dl, dg⟩ ⟨sl, sg⟩ = if sl ≤ dg then (k.put i.dst ⟨max dl sl, dg⟩).put i.src ⟨sl, min sg dg⟩ else kn0 := by unfold jltN bothK; rw [if_pos h]
      have eJ : jltJ i k ⟨dl, dg⟩ ⟨sl, sg⟩ = if dl < sg then (k.put i.dst ⟨dl, min dg (sg - 1)⟩).put i.src ⟨max sl (dl + 1), sg⟩ else kn0 := by unfold jltJ bothK; rw [if_pos h]
      rw [eN, eJ]
      rcases Nat.lt_or_ge dl sg with q | q
      · rw [if_pos q]
        rcases Nat.lt_or_ge dg sl with p | p
        · rw [if_neg (by omega)]
          exact rj_lt22B w i k dl dg sl sg h hdst hsrc h1 h2 h3 h4 _ _ _ _ (Lib.hid rfl) (Lib.hid rfl) (Lib.hid rfl) (Lib.hid rfl) (Lib.hid hne) (Lib.hid ⟨q, p⟩) _ _ (Lib.hid rfl) (Lib.hid rfl)
        · rw [if_pos p]
          exact rj_lt22A w i k dl dg sl sg h hdst hsrc h1 h2 h3 h4 _ _ _ _ (Lib.hid rfl) (Lib.hid rfl) (Lib.hid rfl) (Lib.hid rfl) (Lib.hid hne) (Lib.hid ⟨q, p⟩) _ _ (Lib.hid rfl) (Lib.hid rfl)
      · rw [if_pos (by omega), if_neg (by omega)]
        exact rj_lt22C w i k dl dg sl sg h hdst hsrc h1 h2 h3 h4 _ _ _ _ (Lib.hid rfl) (Lib.hid rfl) (Lib.hid rfl) (Lib.hid rfl) (Lib.hid hne) (Lib.hid ⟨q, by omega⟩) _ _ (Lib.hid rfl) (Lib.hid rfl)
end Go.Proofs.Ytjlddhnjbjhmkaa
