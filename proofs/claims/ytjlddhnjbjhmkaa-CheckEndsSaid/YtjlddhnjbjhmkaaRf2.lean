/- Layer 6, the document's answer: another range of a register. -/
import Derived.Test.YtjlddhnjbjhmkaaRf1
set_option linter.unusedVariables false
set_option linter.unusedSimpArgs false
namespace Go.Proofs.Ytjlddhnjbjhmkaa
open Go.RowKit

theorem with_world (w : World) (k : Kn) (l g : Nat) (L : Array Value) (hL : L = (knL k).toArray) : ∃ W1, Hid (W1 = ((w.alloc (.cells L 42)).alloc (.cells #[.int .i64 (l : Int), .int .i64 (g : Int)] 83)).alloc (.cells #[.bool false, .bool false, .int .u32 0, .int .u32 0, .bool false, .int .u32 0, .int .u32 0, .bool false, .int .u32 0, .int .u32 0, .bool false, .int .u32 0, .int .u32 0, .bool false, .int .u32 0, .int .u32 0, .bool false, .int .u32 0, .int .u32 0, .bool false, .int .u32 0, .int .u32 0, .bool false, .int .u32 0, .int .u32 0, .bool false, .int .u32 0, .int .u32 0, .bool false, .int .u32 0, .int .u32 0] 42)) ∧ Hid (Below w.heap.size w W1) ∧ Hid (Blk W1 w.heap.size 42 31 (knF k)) ∧ Hid (Blk W1 (w.heap.size + 1) 83 2 (fun j => [.int .i64 (l : Int), .int .i64 (g : Int)].getD j undef)) ∧ Hid (Blk W1 (w.heap.size + 2) 42 31 (knF kn0)) := by
  have h1 := Blk.boxed w 42 31 (knF k)
  have h1' : Blk (w.alloc (.cells L 42)) w.heap.size 42 31 (knF k) := by rw [hL]; exact h1
  obtain ⟨Wa, hWa⟩ : ∃ Wa, Wa = w.alloc (.cells L 42) := ⟨_, rfl⟩
  have ba : Below w.heap.size w Wa := by rw [hWa]; exact (Below.refl _ _).alloc (Nat.le_refl _) _
  have za : Wa.heap.size = w.heap.size + 1 := by rw [hWa]; simp
  rw [← hWa] at h1' ⊢
  have h2 : Blk (Wa.alloc (.cells #[.int .i64 (l : Int), .int .i64 (g : Int)] 83)) Wa.heap.size 83 2 (fun j => [.int .i64 (l : Int), .int .i64 (g : Int)].getD j undef) := Blk.litL Wa 83 [.int .i64 (l : Int), .int .i64 (g : Int)]
  obtain ⟨Wb, hWb⟩ : ∃ Wb, Wb = Wa.alloc (.cells #[.int .i64 (l : Int), .int .i64 (g : Int)] 83) := ⟨_, rfl⟩
  have bb : Below Wa.heap.size Wa Wb := by rw [hWb]; exact (Below.refl _ _).alloc (Nat.le_refl _) _
  have zb : Wb.heap.size = w.heap.size + 2 := by rw [hWb]; simp [za]
  rw [← hWb] at h2 ⊢
  have h3 := zkB Wb #[.bool false, .bool false, .int .u32 0, .int .u32 0, .bool false, .int .u32 0, .int .u32 0, .bool false, .int .u32 0, .int .u32 0, .bool false, .int .u32 0, .int .u32 0, .bool false, .int .u32 0, .int .u32 0, .bool false, .int .u32 0, .int .u32 0, .bool false, .int .u32 0, .int .u32 0, .bool false, .int .u32 0, .int .u32 0, .bool false, .int .u32 0, .int .u32 0, .bool false, .int .u32 0, .int .u32 0] rfl
  have bc : Below Wb.heap.size Wb (Wb.alloc (.cells #[.bool false, .bool false, .int .u32 0, .int .u32 0, .bool false, .int .u32 0, .int .u32 0, .bool false, .int .u32 0, .int .u32 0, .bool false, .int .u32 0, .int .u32 0, .bool false, .int .u32 0, .int .u32 0, .bool false, .int .u32 0, .int .u32 0, .bool false, .int .u32 0, .int .u32 0, .bool false, .int .u32 0, .int .u32 0, .bool false, .int .u32 0, .int .u32 0, .bool false, .int .u32 0, .int .u32 0] 42)) := (Below.refl _ _).alloc (Nat.le_refl _) _
  rw [za] at h2
  rw [zb] at h3
  have bab := ba.trans (bb.mono ba.size)
  exact ⟨_, Lib.hid rfl, Lib.hid (bab.trans (bc.mono bab.size)), Lib.hid ((h1'.below bb).below bc), Lib.hid (h2.below bc), Lib.hid h3⟩
set_option maxRecDepth 100000 in
set_option maxHeartbeats 1000000 in
theorem refwith_ok (w : World) (k : Kn) (n l g : Nat) (hn : n < 10) (hl : l ≤ 4294967295) (hg : g ≤ 4294967295) : Calls Try.prog 34 #[.agg (knL k).toArray, .int .i64 (n : Int), .agg #[.int .i64 (l : Int), .int .i64 (g : Int)]] w fun e w' => e = .returned (.agg (knL (k.put n ⟨l, g⟩)).toArray) ∧ Below w.heap.size w w' := by
  obtain ⟨L, hL⟩ : ∃ L, L = (knL k).toArray := ⟨_, rfl⟩
  obtain ⟨W1, HW1, HB1, HK1, HS1, HR1⟩ := with_world w k l g L hL
  rw [← hL]
  clear hL
  have HMD := Lib.hid (fun W => refmade_ok W l g hl hg)
  go_enter Try.func34, Try.ntmps34
  go_upto_region 1 with fail
  rw [← HW1.out]
  clear HW1
  refine wp_region_list ?_
  refine wpList_val0 (.int .i64 (n : Int)) rfl (by kernel_rfl) ?_
  refine wpList_load_mid rfl 83 (.tmp 5) (by kernel_rfl) (w.heap.size + 1) 0 (by kernel_rfl) [.int .i64 (l : Int), .int .i64 (g : Int)] _ (by have := HS1.out.range; exact this) Try.underlying83 rfl size_sp83 ?_
  refine wpList_callg (f := 45) (args := #[.agg #[.int .i64 (l : Int), .int .i64 (g : Int)]]) (v := .agg #[.bool true, .int .u32 (l : Int), .int .u32 (g : Int)]) (R := Below W1.heap.size W1) (by kernel_rfl) (by kernel_rfl) (HMD.out W1) (fun W2 hb2 => ?_)
  have HB2 := Lib.hid (HB1.out.trans (hb2.mono HB1.out.size))
  have HK2 := Lib.hid (HK1.out.below hb2)
  have HR2 := Lib.hid (HR1.out.below hb2)
  clear hb2
  refine wpList_val0 (.pointer (some ⟨w.heap.size, 1, none⟩)) rfl (by kernel_rfl) ?_
  refine wpList_val0 (.pointer (some ⟨w.heap.size, 1 + n * 3, none⟩)) rfl (exec_idxr (.tmp 10) (.tmp 7) rfl (by kernel_rfl) (by kernel_rfl) hn) ?_
  refine wpList_store_mid rfl 37 (.tmp 11) (.tmp 9) (by kernel_rfl) w.heap.size (1 + n * 3) #[.bool true, .int .u32 (l : Int), .int .u32 (g : Int)] (by kernel_rfl) (by kernel_rfl) (there_mid HK2.out (1 + n * 3) 3 (by omega)) (by kernel_rfl) (by simp [Value.oneCell']) ?_
  have hk3 : Blk (W2.setCells w.heap.size (1 + n * 3) [.bool true, .int .u32 (l : Int), .int .u32 (g : Int)]) w.heap.size 42 31 (knF (k.put n ⟨l, g⟩)) := HK2.out.setr n ⟨true, l, g⟩
  have hkq : Kp (fun b => b = w.heap.size) W2 (W2.setCells w.heap.size (1 + n * 3) [.bool true, .int .u32 (l : Int), .int .u32 (g : Int)]) := Kp.setCells (M := fun b => b = w.heap.size) (.inl rfl) _ _ _ (Kp.refl _ _)
  have hb3 : Below w.heap.size w (W2.setCells w.heap.size (1 + n * 3) [.bool true, .int .u32 (l : Int), .int .u32 (g : Int)]) := (Kp.setCells (w := w) (b := w.heap.size) (.inr (Nat.le_refl _)) _ _ _ (Kp.of_below HB2.out No)).below
  obtain ⟨W3, hW3⟩ : ∃ W3, W3 = W2.setCells w.heap.size (1 + n * 3) [.bool true, .int .u32 (l : Int), .int .u32 (g : Int)] := ⟨_, rfl⟩
  show wpList _ _ _ _ _ (W2.setCells w.heap.size (1 + n * 3) [.bool true, .int .u32 (l : Int), .int .u32 (g : Int)])
  rw [← hW3] at hk3 hkq hb3 ⊢
  have HK3 := Lib.hid hk3; have HB3 := Lib.hid hb3
  have HR3 := Lib.hid (HR2.out.keep hkq (by omega))
  clear hW3 hk3 hkq hb3
  go_upto_region 2 with fail
  refine wp_region_list ?_
  refine wpList_ldk 12 3 w.heap.size 0 (k.put n ⟨l, g⟩) (by kernel_rfl) (by kernel_rfl) HK3.out.range ?_
  obtain ⟨W4, HW4, HR4, HB4, HK4⟩ := fin_store HB3.out HR3.out (by omega) (knL (k.put n ⟨l, g⟩)) (knL_length _)
  refine wpList_store_mid rfl 42 (.tmp 6) (.tmp 12) (by kernel_rfl) (w.heap.size + 2) 0 (knL (k.put n ⟨l, g⟩)).toArray (by kernel_rfl) (by kernel_rfl) (by rw [knA_size]; exact there_blk HR3.out) (by rw [knA_size]; exact info_kn) (knL_one _) ?_
  rw [← HW4.out]
  go_wp2
  exact bodyPost_ret (v := .agg (knL (k.put n ⟨l, g⟩)).toArray) (results_cell1_range Try.results34 _ _ (w.heap.size + 2) 0 _ _ rfl HR4.out Try.underlying42 rfl (by rw [knL_length]; exact info_kn)) rfl ⟨rfl, HB4.out⟩
end Go.Proofs.Ytjlddhnjbjhmkaa
