/- The document's run: faults, put. -/
import Derived.Test.YtpnkbpjhbmacaaaRv7
set_option linter.unusedVariables false
set_option linter.unusedSimpArgs false
namespace Go.Proofs.Ytpnkbpjhbmacaaa
open Go.RowKit

theorem stL_length (K : Value) (s : Vm) (fin : Bool) : (stL K s fin).length = 91 := rowF_length _ _
theorem stA_size (K : Value) (s : Vm) (fin : Bool) : (stL K s fin).toArray.size = 91 := by rw [List.size_toArray, stL_length]
theorem stF_fall (K : Value) (s : Vm) (fin : Bool) (why : Nat) : ∀ j, j < 91 → (if j = 22 then Value.int .i64 (why : Int) else if j = 90 then Value.bool true else stF K s fin j) = stF K (s.fall why) true j := by
  intro j hj
  by_cases h1 : j = 22
  · subst h1; rfl
  · rw [if_neg h1]
    by_cases h2 : j = 90
    · subst h2; rfl
    · rw [if_neg h2]
      unfold stF
      simp only [Vm.fall]
      rw [if_neg h1, if_neg h1]
      by_cases h3 : j < 90
      · simp only [h3, if_true]
      · omega
theorem stF_put (K : Value) (s : Vm) (fin : Bool) (n v : Nat) (hn : n < 10) : ∀ j, j < 91 → (if j = 11 + n then Value.int .i64 (v : Int) else if j = 1 + n then Value.bool true else stF K s fin j) = stF K (s.put n v) fin j := by
  intro j hj
  unfold stF
  simp only [Vm.put, upd]
  by_cases h1 : j = 11 + n
  · subst h1
    rw [if_pos rfl, if_neg (by omega), if_neg (by omega), if_pos (by omega), if_pos (by omega)]
  · rw [if_neg h1]
    by_cases h2 : j = 1 + n
    · subst h2
      rw [if_pos rfl, if_neg (by omega), if_pos (by omega), if_pos (by omega)]
    · rw [if_neg h2]
      by_cases h3 : j = 0
      · rw [if_pos h3, if_pos h3]
      · rw [if_neg h3, if_neg h3]
        by_cases h4 : j < 11
        · rw [if_pos h4, if_pos h4, if_neg (by omega)]
        · rw [if_neg h4, if_neg h4]
          by_cases h5 : j < 21
          · rw [if_pos h5, if_pos h5, if_neg (by omega)]
          · rw [if_neg h5, if_neg h5]

set_option maxRecDepth 100000 in
theorem faultsr_ok (w : World) (K : Value) (hK : K.oneCell' = true) (s : Vm) (fin : Bool) (why : Nat) :
    Calls Try.prog 33 #[.agg (stL K s fin).toArray, .int .i64 (why : Int)] w fun e w' => e = .returned (.agg (stL K (s.fall why) true).toArray) ∧ Below w.heap.size w w' := by
  obtain ⟨L, hL⟩ : ∃ L, L = (stL K s fin).toArray := ⟨_, rfl⟩
  obtain ⟨W1, hW1⟩ : ∃ W1, W1 = (w.alloc (.cells L 83)).alloc (.cells Try.zeroCells83 83) := ⟨_, rfl⟩
  have G1 : St2 w (stF K s fin) W1 := by rw [hW1, hL]; exact St2.start w _ _ size_state
  have c90 := G1.s.cell 90 (by omega)
  have f90 := G1.s.frozen 90
  have c22 := G1.s.cell 22 (by omega)
  have f22 := G1.s.frozen 22
  have G3 := ((G1.put 90 (.bool true)).put 22 (.int .i64 (why : Int))).congr (stF_fall K s fin why)
  have HG3 := Lib.hid G3; clear G3
  have HG1 := Lib.hid G1; clear G1
  rw [← hL]
  clear hL
  have HW1 := Lib.hid hW1; clear hW1
  go_enter Try.func33, Try.ntmps33
  go_upto_region 1 with fail
  rw [← HW1.out]
  go_upto_region 3 with fail
  generalize hW3 : (W1.setCell ⟨w.heap.size, 90, none⟩ (Value.bool true)).setCell ⟨w.heap.size, 22, none⟩ (Value.int IntKind.i64 (why : Int)) = W3 at HG3 ⊢
  clear hW3
  refine wp_region_list ?_
  refine wpList_load_mid rfl 83 (.tmp 2) rfl w.heap.size 0 rfl (stL K (s.fall why) true) _ HG3.out.s.range Try.underlying83 rfl (by rw [stL_length]; exact info_state) ?_
  refine wpList_store_mid rfl 83 (.tmp 4) (.tmp 9) rfl (w.heap.size + 1) 0 (stL K (s.fall why) true).toArray rfl rfl (by rw [stA_size]; exact HG3.out.there) (by rw [stA_size]; exact info_state) (stL_one K hK _ _) ?_
  obtain ⟨W4, HW4, HR4, HB4⟩ := HG3.out.done (stL K (s.fall why) true) (stL_length _ _ _)
  rw [← HW4.out]
  go_wp2
  exact bodyPost_ret (v := .agg (stL K (s.fall why) true).toArray) (results_cell1_range Try.results33 _ _ (w.heap.size + 1) 0 _ _ rfl HR4.out Try.underlying83 rfl (by rw [stL_length]; exact info_state)) rfl ⟨rfl, HB4.out⟩

set_option maxRecDepth 100000 in
theorem putr_ok (w : World) (K : Value) (hK : K.oneCell' = true) (s : Vm) (fin : Bool) (n v : Nat) (hn : n < 10) :
    Calls Try.prog 34 #[.agg (stL K s fin).toArray, .int .i64 (n : Int), .int .i64 (v : Int)] w fun e w' => e = .returned (.agg (stL K (s.put n v) fin).toArray) ∧ Below w.heap.size w w' := by
  obtain ⟨L, hL⟩ : ∃ L, L = (stL K s fin).toArray := ⟨_, rfl⟩
  obtain ⟨W1, hW1⟩ : ∃ W1, W1 = (w.alloc (.cells L 83)).alloc (.cells Try.zeroCells83 83) := ⟨_, rfl⟩
  have G1 : St2 w (stF K s fin) W1 := by rw [hW1, hL]; exact St2.start w _ _ size_state
  have ca := G1.s.cell (1 + n) (by omega)
  have fa := G1.s.frozen (1 + n)
  have cb := G1.s.cell (11 + n) (by omega)
  have fb := G1.s.frozen (11 + n)
  have G3 := ((G1.put (1 + n) (.bool true)).put (11 + n) (.int .i64 (v : Int))).congr (stF_put K s fin n v hn)
  have HG3 := Lib.hid G3; clear G3
  have HG1 := Lib.hid G1; clear G1
  rw [← hL]
  clear hL
  have HW1 := Lib.hid hW1; clear hW1
  go_enter Try.func34, Try.ntmps34
  go_upto_region 1 with fail
  rw [← HW1.out]
  go_upto_region 2 with fail
  generalize hW3 : (W1.setCell ⟨w.heap.size, 1 + n, none⟩ (Value.bool true)).setCell ⟨w.heap.size, 11 + n, none⟩ (Value.int IntKind.i64 (v : Int)) = W3 at HG3 ⊢
  clear hW3
  refine wp_region_list ?_
  refine wpList_load_mid rfl 83 (.tmp 3) rfl w.heap.size 0 rfl (stL K (s.put n v) fin) _ HG3.out.s.range Try.underlying83 rfl (by rw [stL_length]; exact info_state) ?_
  refine wpList_store_mid rfl 83 (.tmp 6) (.tmp 14) rfl (w.heap.size + 1) 0 (stL K (s.put n v) fin).toArray rfl rfl (by rw [stA_size]; exact HG3.out.there) (by rw [stA_size]; exact info_state) (stL_one K hK _ _) ?_
  obtain ⟨W4, HW4, HR4, HB4⟩ := HG3.out.done (stL K (s.put n v) fin) (stL_length _ _ _)
  rw [← HW4.out]
  go_wp2
  exact bodyPost_ret (v := .agg (stL K (s.put n v) fin).toArray) (results_cell1_range Try.results34 _ _ (w.heap.size + 1) 0 _ _ rfl HR4.out Try.underlying83 rfl (by rw [stL_length]; exact info_state)) rfl ⟨rfl, HB4.out⟩
end Go.Proofs.Ytpnkbpjhbmacaaa
