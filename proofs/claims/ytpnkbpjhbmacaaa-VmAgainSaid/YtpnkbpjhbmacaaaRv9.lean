/- The document's run: how it stands. -/
import Derived.Test.YtpnkbpjhbmacaaaRv8
set_option linter.unusedVariables false
set_option linter.unusedSimpArgs false
namespace Go.Proofs.Ytpnkbpjhbmacaaa
open Go.RowKit

def momF (s : Vm) (k j : Nat) : Value := if j = 0 then .int .i64 (s.at_ : Int) else if j < 11 then .bool (s.set (j - 1)) else if j < 11 + k then .int .u32 (s.reg (j - 11) : Int) else .int .u32 0
theorem momF_succ (s : Vm) (k : Nat) : ∀ j, j < 21 → (if j = 11 + k then Value.int .u32 (s.reg k : Int) else momF s k j) = momF s (k + 1) j := by
  intro j hj
  unfold momF
  by_cases h1 : j = 11 + k
  · subst h1
    rw [if_pos rfl, if_neg (by omega), if_neg (by omega), if_pos (by omega), show 11 + k - 11 = k from by omega]
  · rw [if_neg h1]
    by_cases h2 : j = 0
    · rw [if_pos h2, if_pos h2]
    · rw [if_neg h2, if_neg h2]
      by_cases h3 : j < 11
      · rw [if_pos h3, if_pos h3]
      · rw [if_neg h3, if_neg h3]
        by_cases h4 : j < 11 + k
        · rw [if_pos h4, if_pos (by omega)]
        · rw [if_neg h4, if_neg (by omega)]
theorem mom_row (s : Vm) : .agg (rowF 21 (momF s 10)).toArray = momV s.mom := rfl
theorem build_momr (s : Vm) (w : World) : (Instr.build 70 #[(0, .int .i64 (s.at_ : Int)), (1, .agg #[.bool (s.set 0), .bool (s.set 1), .bool (s.set 2), .bool (s.set 3), .bool (s.set 4), .bool (s.set 5), .bool (s.set 6), .bool (s.set 7), .bool (s.set 8), .bool (s.set 9)])]).run Try.prog w = .ok (.agg (rowF 21 (momF s 0)).toArray) w := by kernel_rfl
theorem info_mom21 : (Try.prog.info? 70).map (·.size) = some 21 := by kernel_rfl
theorem size_mom21 : (#[.int .i64 0, .bool false, .bool false, .bool false, .bool false, .bool false, .bool false, .bool false, .bool false, .bool false, .bool false, .int .u32 0, .int .u32 0, .int .u32 0, .int .u32 0, .int .u32 0, .int .u32 0, .int .u32 0, .int .u32 0, .int .u32 0, .int .u32 0] : Array Value).size = 21 := by kernel_rfl
theorem momF_one (s : Vm) (k j : Nat) : (momF s k j).oneCell' = true := by
  unfold momF
  repeat' split
  all_goals rfl
theorem stF_sets (K : Value) (s : Vm) (fin : Bool) : rowF 10 (fun j => stF K s fin (1 + j)) = [.bool (s.set 0), .bool (s.set 1), .bool (s.set 2), .bool (s.set 3), .bool (s.set 4), .bool (s.set 5), .bool (s.set 6), .bool (s.set 7), .bool (s.set 8), .bool (s.set 9)] := rfl
theorem stF_reg (K : Value) (s : Vm) (fin : Bool) (k : Nat) (hk : k < 10) : stF K s fin (11 + k) = .int .i64 (s.reg k : Int) := by
  unfold stF
  rw [if_neg (by omega), if_neg (by omega), if_pos (by omega), show 11 + k - 11 = k from by omega]

structure MS3 (w : World) (F : Nat → Value) (G : Nat → Value) (W : World) : Prop where
  b : Below w.heap.size w W
  z : w.heap.size + 3 ≤ W.heap.size
  s : Blk W w.heap.size 83 91 F
  r : ∃ G, Blk W (w.heap.size + 1) 70 21 G
  m : Blk W (w.heap.size + 2) 70 21 G
theorem MS3.put {w : World} {F G : Nat → Value} {W : World} (h : MS3 w F G W) (j : Nat) (v : Value) : MS3 w F (fun i => if i = j then v else G i) (W.setCell ⟨w.heap.size + 2, j, none⟩ v) := by
  have hk : Kp (fun b => b = w.heap.size + 2) W (W.setCell ⟨w.heap.size + 2, j, none⟩ v) := (Kp.refl (fun b => b = w.heap.size + 2) W).setCell (p := ⟨w.heap.size + 2, j, none⟩) (.inl rfl) v
  refine ⟨h.b.setCell (by simp) _, by have := hk.size; have := h.z; omega, h.s.keep hk (by omega), ?_, h.m.set j v⟩
  obtain ⟨G, hG⟩ := h.r
  exact ⟨G, hG.keep hk (by omega)⟩
theorem MS3.congr {w : World} {F G G' : Nat → Value} {W : World} (h : MS3 w F G W) (e : ∀ j, j < 21 → G j = G' j) : MS3 w F G' W := ⟨h.b, h.z, h.s, h.r, h.m.congr e⟩
theorem MS3.done {w : World} {F G : Nat → Value} {W : World} (h : MS3 w F G W) (cs : List Value) (hc : cs.length = 21) :
    ∃ W3, Hid (W3 = W.setCells (w.heap.size + 1) 0 cs) ∧ Hid (W3.rangeAt (w.heap.size + 1) 0 cs) ∧ Hid (Below w.heap.size w W3) := by
  obtain ⟨R, hR⟩ := h.r
  exact ⟨_, Lib.hid rfl, Lib.hid (World.rangeAt_setCells_same W (w.heap.size + 1) 0 cs (by rw [hc]; exact there_blk hR)), Lib.hid (Kp.setCells (w := w) (b := w.heap.size + 1) (.inr (by omega)) _ _ _ (Kp.of_below h.b No)).below⟩

set_option maxRecDepth 100000 in
set_option maxHeartbeats 1000000 in
theorem momentr_ok (w : World) (K : Value) (s : Vm) (fin : Bool) (hok : VmOk s) :
    Calls Try.prog 25 #[.agg (stL K s fin).toArray] w fun e w' => e = .returned (momV s.mom) ∧ Below w.heap.size w w' := by
  rw [← mom_row]
  obtain ⟨L, hL⟩ : ∃ L, L = (stL K s fin).toArray := ⟨_, rfl⟩
  obtain ⟨W1, hW1⟩ : ∃ W1, W1 = (w.alloc (.cells L 83)).alloc (.cells #[.int .i64 0, .bool false, .bool false, .bool false, .bool false, .bool false, .bool false, .bool false, .bool false, .bool false, .bool false, .int .u32 0, .int .u32 0, .int .u32 0, .int .u32 0, .int .u32 0, .int .u32 0, .int .u32 0, .int .u32 0, .int .u32 0, .int .u32 0] 70) := ⟨_, rfl⟩
  have hs1 : Blk W1 w.heap.size 83 91 (stF K s fin) := by rw [hW1, hL]; exact (Blk.boxed w _ 91 _).below ((Below.refl _ _).alloc (Nat.le_refl _) _)
  have hb1 : Below w.heap.size w W1 := by rw [hW1]; exact ((Below.refl _ _).alloc (Nat.le_refl _) _).alloc (by simp) _
  have hz1 : W1.heap.size = w.heap.size + 2 := by rw [hW1]; simp
  have hr1 : ∃ G, Blk W1 (w.heap.size + 1) 70 21 G := ⟨(fun j => (#[.int .i64 0, .bool false, .bool false, .bool false, .bool false, .bool false, .bool false, .bool false, .bool false, .bool false, .bool false, .int .u32 0, .int .u32 0, .int .u32 0, .int .u32 0, .int .u32 0, .int .u32 0, .int .u32 0, .int .u32 0, .int .u32 0, .int .u32 0] : Array Value).getD j undef), by
    have := Blk.lit (w.alloc (.cells L 83)) 70 #[.int .i64 0, .bool false, .bool false, .bool false, .bool false, .bool false, .bool false, .bool false, .bool false, .bool false, .bool false, .int .u32 0, .int .u32 0, .int .u32 0, .int .u32 0, .int .u32 0, .int .u32 0, .int .u32 0, .int .u32 0, .int .u32 0, .int .u32 0]
    rw [size_mom21] at this
    rw [hW1]
    simpa using this⟩
  have c0 : W1.cell? ⟨w.heap.size, 0, none⟩ = some (.int .i64 (s.at_ : Int)) := hs1.cell 0 (by omega)
  have G2 : MS3 w (stF K s fin) (momF s 0) (W1.alloc (.cells (rowF 21 (momF s 0)).toArray 70)) := by
    have hb2 : Below W1.heap.size W1 (W1.alloc (.cells (rowF 21 (momF s 0)).toArray 70)) := (Below.refl _ _).alloc (Nat.le_refl _) _
    refine ⟨hb1.trans (hb2.mono (by omega)), by simp; omega, hs1.below hb2, ?_, ?_⟩
    · obtain ⟨G, hG⟩ := hr1
      exact ⟨G, hG.below hb2⟩
    · rw [← hz1]; exact Blk.boxed W1 _ 21 _
  have hrg := hs1.rangeAt 1 10 (by omega)
  rw [stF_sets] at hrg
  rw [← hL]
  clear hL
  have HZ := Lib.hid hz1; clear hz1 hr1 hb1 hs1
  have HRG := Lib.hid hrg; clear hrg
  have HG2 := Lib.hid G2; clear G2
  have HOK := Lib.hid hok; clear hok
  have HW1 := Lib.hid hW1; clear hW1
  go_enter Try.func25, Try.ntmps25
  go_upto_region 1 with fail
  rw [← HW1.out]
  refine wp_region_list ?_
  refine wpList_value (w' := W1) (.pointer (some ⟨w.heap.size, 0, none⟩)) rfl (by kernel_rfl) ?_
  refine wpList_value (w' := W1) (.int .i64 (s.at_ : Int)) rfl (by simp [go_sem, c0]) ?_
  refine wpList_value (w' := W1) (.pointer (some ⟨w.heap.size, 1, none⟩)) rfl (by kernel_rfl) ?_
  refine wpList_load_mid rfl 67 (.tmp 7) rfl w.heap.size 1 rfl _ _ HRG.out Try.underlying67 rfl (by kernel_rfl) ?_
  refine wpList_value (w' := W1) (.agg (rowF 21 (momF s 0)).toArray) rfl (by kernel_rfl) ?_
  refine wpList_value (w' := W1.alloc (.cells #[.int .i64 0, .bool false, .bool false, .bool false, .bool false, .bool false, .bool false, .bool false, .bool false, .bool false, .bool false, .int .u32 0, .int .u32 0, .int .u32 0, .int .u32 0, .int .u32 0, .int .u32 0, .int .u32 0, .int .u32 0, .int .u32 0, .int .u32 0] 70)) (.pointer (some ⟨W1.heap.size, 0, none⟩)) rfl (by kernel_rfl) ?_
  refine wpList_store_new rfl 70 (.tmp 3) (.tmp 9) rfl #[.int .i64 0, .bool false, .bool false, .bool false, .bool false, .bool false, .bool false, .bool false, .bool false, .bool false, .bool false, .int .u32 0, .int .u32 0, .int .u32 0, .int .u32 0, .int .u32 0, .int .u32 0, .int .u32 0, .int .u32 0, .int .u32 0, .int .u32 0] (rowF 21 (momF s 0)).toArray rfl rfl (by rw [List.size_toArray, rowF_length]; exact info_mom21) rfl (rowF_one _ _ fun j _ => momF_one s 0 j) ?_
  generalize hW2 : W1.alloc (.cells (rowF 21 (momF s 0)).toArray 70) = W2 at HG2 ⊢
  clear hW2
  rw [HZ.out]
  go_wp2
  go_loopw [4] (fun i wr => ∃ k : Nat, k ≤ 10 ∧ i = .int .i64 (k : Int) ∧ MS3 w (stF K s fin) (momF s k) wr) (fun i _ => 10 - (intOf i).toNat)
  case atStart => exact ⟨0, by omega, rfl, HG2.out⟩
  case round =>
    obtain ⟨k, hk, rfl, hm⟩ := hrel
    by_cases hlt : k < 10
    · have c1 : wr.cell? ⟨w.heap.size, 11 + k, none⟩ = some (.int .i64 (s.reg k : Int)) := by rw [← stF_reg K s fin k hlt]; exact hm.s.cell _ (by omega)
      have c2 := hm.m.cell (11 + k) (by omega)
      have f2 := hm.m.frozen (11 + k)
      have hwr : IntKind.u32.wrap (s.reg k : Int) = (s.reg k : Int) := by rw [wrapU32]; have := HOK.out.reg k; omega
      have hN := (hm.put (11 + k) (.int .u32 (s.reg k : Int))).congr (momF_succ s k)
      have HN := Lib.hid hN; clear hN
      have HM := Lib.hid hm; clear hm
      have HLT := Lib.hid hlt
      go_wp2
      go_roundw
      case rel => exact ⟨k + 1, by omega, by go_num, HN.out⟩
      case measure => simp [intOf]; omega
    · obtain rfl : k = 10 := by omega
      have HM := Lib.hid hm; clear hm
      go_upto_region 6 with fail
      obtain ⟨R, hR⟩ := HM.out.r
      have hth := there_blk hR
      have HTH := Lib.hid hth; clear hth
      clear hR
      refine wp_region_list ?_
      refine wpList_load_mid rfl 70 (.tmp 3) rfl (w.heap.size + 2) 0 rfl (rowF 21 (momF s 10)) _ HM.out.m.range Try.underlying70 rfl (by rw [rowF_length]; exact info_mom21) ?_
      refine wpList_store_mid rfl 70 (.tmp 2) (.tmp 22) rfl (w.heap.size + 1) 0 (rowF 21 (momF s 10)).toArray rfl rfl HTH.out info_mom21 (rowF_one _ _ fun j _ => momF_one s 10 j) ?_
      obtain ⟨W4, HW4, HR4, HB4⟩ := HM.out.done (rowF 21 (momF s 10)) (rowF_length _ _)
      rw [← HW4.out]
      go_wp2
      exact bodyPost_ret (v := .agg (rowF 21 (momF s 10)).toArray) (results_cell1_range Try.results25 _ _ (w.heap.size + 1) 0 _ _ rfl HR4.out Try.underlying70 rfl (by rw [rowF_length]; exact info_mom21)) rfl ⟨rfl, HB4.out⟩
end Go.Proofs.Ytpnkbpjhbmacaaa
