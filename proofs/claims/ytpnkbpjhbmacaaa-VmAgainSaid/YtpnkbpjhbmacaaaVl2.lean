/- The law: moments, known. -/
import Derived.Test.YtpnkbpjhbmacaaaVl1
set_option linter.unusedVariables false
set_option linter.unusedSimpArgs false
namespace Go.Proofs.Ytpnkbpjhbmacaaa
open Go.RowKit

theorem moms_cells : ∀ (ms : List Mom) (n j : Nat) (m : Mom), ms[n]? = some m → j < 21 → (ms.flatMap momCells)[n * 21 + j]? = (momCells m)[j]?
  | [], n, j, m, h, _ => by simp at h
  | p :: ms, 0, j, m, h, hj => by
    simp only [List.getElem?_cons_zero, Option.some.injEq] at h
    subst h
    rw [List.flatMap_cons, List.getElem?_append_left (by simp [momCells]; omega)]
    congr 1; omega
  | p :: ms, n + 1, j, m, h, hj => by
    rw [List.getElem?_cons_succ] at h
    have e := moms_cells ms n j m h hj
    rw [List.flatMap_cons, List.getElem?_append_right (by simp [momCells]; omega), ← e]
    congr 1
    simp [momCells]; omega
theorem mom_rd {w : World} {ok : Nat → Prop} {a : Addr} {c : Nat} {ms : List Mom} (h : ∀ j u, (ms.flatMap momCells)[j]? = some u → w.cell? (a.add j) = some u) (hal : a.block < w.heap.size) (k : Nat) (m : Mom) (hm : ms[k]? = some m) : ∀ W, Below w.heap.size w W → ∀ j v, (momCells m)[j]? = some v → W.cell? ((a.add (k * 21)).add j) = some v := fun W hW j v hv => by
  have hj : j < 21 := by
    rcases Nat.lt_or_ge j 21 with h | h
    · exact h
    · rw [List.getElem?_eq_none (by simpa [momCells] using h)] at hv; cases hv
  rw [add_add]
  exact (World.cell?_of_block (hW.block _ (by rw [add_block]; exact hal))).trans (h (k * 21 + j) v (by rw [moms_cells ms k j m hm hj]; exact hv))

set_option maxRecDepth 100000 in
set_option maxHeartbeats 2000000 in
theorem moments_ok (w : World) {okA okB : Nat → Prop} (A B : Option Addr) (ca cb : Nat) (ms : List Mom) (hA : Sl w okA 21 A ms.length ca (ms.flatMap momCells)) (hB : Sl w okB 21 B ms.length cb (ms.flatMap momCells)) (hml : ms.length ≤ 10000) :
    Calls Try.prog 18 #[.slice A ms.length ca, .slice B ms.length cb] w fun e w' => e = .returned (.bool true) ∧ Below w.heap.size w w' := by
  go_enter Try.func18, Try.ntmps18
  go_wp2
  go_loopw [5] (fun i wr => ∃ k : Nat, k ≤ ms.length ∧ i = .int .i64 (k : Int) ∧ Below w.heap.size w wr) (fun i _ => ms.length - (intOf i).toNat)
  case atStart => exact ⟨0, Nat.zero_le _, rfl, Below.refl _ _⟩
  case round =>
    obtain ⟨k, hk, rfl, G⟩ := hrel
    by_cases hlt : k < ms.length
    · have hlt' : (k : Int) < ms.length := by omega
      obtain ⟨m, hm⟩ : ∃ m, ms[k]? = some m := ⟨_, List.getElem?_eq_getElem hlt⟩
      obtain ⟨a, rfl, _, hal, hac⟩ := hA.at_ (j := k * 21) (by omega)
      obtain ⟨b, rfl, _, hbl, hbc⟩ := hB.at_ (j := k * 21) (by omega)
      have HLA := Lib.hid (mom_rd (ok := Any) (c := 0) hac hal k m hm)
      have HLB := Lib.hid (mom_rd (ok := Any) (c := 0) hbc hbl k m hm)
      clear hac hbc hm
      have HG := Lib.hid G; clear G
      go_upto_region 6 with fail
      refine wp_region_noPanic ?_
      refine plan (.rd 0 (.rd 1 (.rd 2 (.rd 3 (.rd 4 (.rd 5 (.rd 6 (.rd 7 (.rd 8 .done))))))))) [0, 1, 2, 3, 4, 5, 6, 7, 8] (fun W => Below w.heap.size w W) (by kernel_rfl) (by kernel_rfl) (fun _ _ _ _ _ h => h) HG.out.drew ?_
      repeat (refine pl_pure rfl (fun K hK => ?_); go_simp; refine hK _ ?_; clear hK K)
      refine pl_rd (.agg (momCells m).toArray) rfl rfl (fun W hS => ?_) (fun K hK => ?_)
      · exact exec_load_at 70 (.tmp 19) rfl (a.add (k * 21)) rfl (momCells m) _ (HLA.out W hS) Try.underlying70 rfl size_mom
      refine hK _ ?_
      clear hK K
      repeat (refine pl_pure rfl (fun K hK => ?_); go_simp; refine hK _ ?_; clear hK K)
      refine pl_rd (.agg (momCells m).toArray) rfl rfl (fun W hS => ?_) (fun K hK => ?_)
      · exact exec_load_at 70 (.tmp 23) rfl (b.add (k * 21)) rfl (momCells m) _ (HLB.out W hS) Try.underlying70 rfl size_mom
      refine hK _ ?_
      clear hK K
      refine pl_rd (.bool false) rfl rfl (fun W hS => ?_) (fun K hK => ?_)
      · exact exec_neq 70 70 (.tmp 20) (.tmp 24) rfl _ _ rfl rfl guard_mom false (mom_self m W)
      refine hK _ ?_
      clear hK K
      refine pl_done ?_
      refine NoPanic.normal ?_
      have HGD := Lib.hid HG.out.drew
      generalize hwd : wr.drew = wd at HGD ⊢
      clear hwd
      go_wp2
      go_roundw
      case rel => exact ⟨k + 1, by omega, by go_num, HGD.out⟩
      case measure => simp [intOf]; omega
    · have hlt' : ¬ (k : Int) < ms.length := by omega
      have HG := Lib.hid G; clear G
      go_wp2
      go_ret
      exact ⟨rfl, HG.out⟩

/-! ### known -/
def knownP : List Ins8 := [⟨1, 0, 0, 0, 7⟩, ⟨24, 0, 0, 0, 0⟩]
theorem known_val : (runTo knownP [] [] 3 vm0).2.val = 7 := by kernel_rfl
theorem known_steps : (runTo knownP [] [] 3 vm0).2.steps = 2 := by kernel_rfl
theorem known_fault : (runTo knownP [] [] 3 vm0).2.fault = 0 := by kernel_rfl
theorem known_check : checkN 0 (knownP.map Ins8.z) = 0 := by kernel_rfl
theorem known_may : ∀ i, i ∈ knownP → i.May := by
  intro i hi
  simp only [knownP, List.mem_cons, List.not_mem_nil, or_false] at hi
  rcases hi with rfl | rfl
  · exact ⟨by decide, by decide, by decide, by decide, by decide, by decide, fun h => by simp at h, by decide⟩
  · exact ⟨by decide, by decide, by decide, by decide, by decide, by decide, fun h => by decide, by decide⟩

theorem known_mid {W2 : World} {K' : Value} (hown : W2.ownsRow 0 80 6 K' (runTo knownP [] [] (knownP.length + 1) vm0).2.calls.length (callsV (runTo knownP [] [] (knownP.length + 1) vm0).2.calls)) :
    ∃ RL : List Value, Hid (RL = ranL K' (runTo knownP [] [] (knownP.length + 1) vm0).2) ∧ Hid (RL.toArray.all (·.oneCell') = true) ∧ Hid ((Try.prog.info? 34).map (·.size) = some RL.toArray.size) ∧ Hid (Try.zeroCells34.size = RL.toArray.size) ∧
      Hid ((W2.alloc (.cells RL.toArray 34)).cell? ⟨W2.heap.size, 0, none⟩ = some (.int .i64 2) ∧ (W2.alloc (.cells RL.toArray 34)).cell? ⟨W2.heap.size, 1, none⟩ = some (.int .i64 0) ∧ (W2.alloc (.cells RL.toArray 34)).cell? ⟨W2.heap.size, 3, none⟩ = some (.int .u32 7)) := by
  have hb := ran_box W2 K' (runTo knownP [] [] (knownP.length + 1) vm0).2
  refine ⟨_, Lib.hid rfl, Lib.hid ?_, Lib.hid (by rw [List.size_toArray, ranL_length]; exact info_ran), Lib.hid (by rw [show (ranL K' (runTo knownP [] [] (knownP.length + 1) vm0).2).toArray.size = 69 from by rw [List.size_toArray, ranL_length]]; exact size_ranz), Lib.hid ⟨?_, ?_, ?_⟩⟩
  · obtain ⟨a', c', e⟩ := own_shape hown
    exact ranL_one _ (by rw [e]; rfl) _
  · rw [hb.cell 0 (by omega)]
    show some (Value.int .i64 ((runTo knownP [] [] 3 vm0).2.steps : Int)) = _
    rw [known_steps]; rfl
  · rw [hb.cell 1 (by omega)]
    show some (Value.int .i64 ((runTo knownP [] [] 3 vm0).2.fault : Int)) = _
    rw [known_fault]; rfl
  · rw [hb.cell 3 (by omega)]
    show some (Value.int .u32 ((runTo knownP [] [] 3 vm0).2.val : Int)) = _
    rw [known_val]; rfl
set_option maxRecDepth 100000 in
set_option maxHeartbeats 2000000 in
theorem known_ok (w : World) : Calls Try.prog 12 #[] w fun e w' => e = .returned (.bool true) ∧ Below w.heap.size w w' := by
  obtain ⟨W1, hW1⟩ : ∃ W1, W1 = w.alloc (.cells #[.int .i64 1, .int .i64 0, .int .i64 0, .int .i64 0, .int .u32 7, .int .i64 24, .int .i64 0, .int .i64 0, .int .i64 0, .int .u32 0] 50) := ⟨_, rfl⟩
  have hb1 : Below w.heap.size w W1 := by rw [hW1]; exact (Below.refl _ _).alloc (Nat.le_refl _) _
  have hsl : Sl W1 Any 5 (some ⟨w.heap.size, 0, none⟩) 2 2 (knownP.flatMap insCells) := by
    rw [hW1]
    exact Sl.lit w 50 5 #[.int .i64 1, .int .i64 0, .int .i64 0, .int .i64 0, .int .u32 7, .int .i64 24, .int .i64 0, .int .i64 0, .int .i64 0, .int .u32 0] 2 (by simp [maxLen]) rfl
  have hrun : Calls Try.prog 13 #[.agg #[.int .i64 0, .slice (some ⟨w.heap.size, 0, none⟩) 2 2], .slice none 0 0, .slice none 0 0] W1 (RunPost W1 knownP [] []) :=
    run_yes (ok := Any) (cx := []) none 0 (Sl.nil _ _ _) (by simp) (some ⟨w.heap.size, 0, none⟩) 2 knownP hsl (by simp [knownP]) known_may known_check none 0 [] (Sl.nil _ _ _) (by simp) (fun _ h => by cases h)
  have HRN := Lib.hid hrun; clear hrun hsl
  have HW1 := Lib.hid hW1; clear hW1
  have HB1 := Lib.hid hb1; clear hb1
  go_enter Try.func12, Try.ntmps12
  go_upto_region 2 with (first | (go_at_call 13; rw [← HW1.out]; (with_reducible refine HRN.out.mono ?_); rintro e W2 ⟨K', rfl, hown, hKb, hb2⟩; obtain ⟨RL, HRL, HR1, HI, HL, HBX⟩ := known_mid hown; rw [← HRL.out]; have HB2 := Lib.hid hb2; clear hown hKb hb2) | (refine wpList_store_new rfl 34 (.tmp 1) (.tmp 9) rfl Try.zeroCells34 RL.toArray rfl rfl HI.out HL.out HR1.out ?_))
  have r0 := HBX.out.1
  have r1 := HBX.out.2.1
  have r3 := HBX.out.2.2
  go_wp2
  go_ret
  exact ⟨rfl, (HB1.out.trans (HB2.out.mono HB1.out.size)).alloc (HB1.out.trans (HB2.out.mono HB1.out.size)).size _⟩
end Go.Proofs.Ytpnkbpjhbmacaaa
