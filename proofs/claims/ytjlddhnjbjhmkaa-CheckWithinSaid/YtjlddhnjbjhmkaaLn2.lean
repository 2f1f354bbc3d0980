/- Layer 6: within. -/
import Derived.Test.YtjlddhnjbjhmkaaLn1
set_option linter.unusedVariables false
set_option linter.unusedSimpArgs false
namespace Go.Proofs.Ytjlddhnjbjhmkaa
open Go.RowKit

theorem kn_rg {W : World} {b : Nat} {k : Kn} (h : Blk W b 42 31 (knF k)) (n : Nat) (hn : n < 10) : W.rangeAt b (1 + n * 3) [.bool (k.r n).s, .int .u32 ((k.r n).l : Int), .int .u32 ((k.r n).g : Int)] := fun j v hv => by
  have hj : j < 3 := by have := (List.getElem?_eq_some_iff.1 hv).1; simpa using this
  have := h.cell (1 + n * 3 + j) (by omega)
  have hc : j = 0 ∨ j = 1 ∨ j = 2 := by omega
  rcases hc with rfl | rfl | rfl
  · rw [Nat.add_zero] at this ⊢; rw [knF_s] at this; simp at hv; rw [← hv]; exact this
  · rw [knF_l] at this; simp at hv; rw [← hv]; exact this
  · rw [knF_g] at this; simp at hv; rw [← hv]; exact this
set_option maxRecDepth 100000 in
set_option maxHeartbeats 1500000 in
theorem lawwithin_ok (w : World) (a b : Kn) (h : a.le b) : Calls Try.prog 21 #[.agg (knL a).toArray, .agg (knL b).toArray] w fun e w' => e = .returned (.bool true) ∧ Below w.heap.size w w' := by
  obtain ⟨L, hL⟩ : ∃ L, L = (knL a).toArray := ⟨_, rfl⟩
  obtain ⟨M, hM⟩ : ∃ L, L = (knL b).toArray := ⟨_, rfl⟩
  obtain ⟨W1, hW1⟩ : ∃ W1, W1 = (w.alloc (.cells L 42)).alloc (.cells M 42) := ⟨_, rfl⟩
  have hb1 : Below w.heap.size w W1 := by rw [hW1]; exact ((Below.refl _ _).alloc (Nat.le_refl _) _).alloc (by simp <;> omega) _
  have hA : Blk W1 w.heap.size 42 31 (knF a) := by rw [hW1, hL]; exact (Blk.boxed w _ 31 _).below ((Below.refl _ _).alloc (Nat.le_refl _) _)
  have hB : Blk W1 (w.heap.size + 1) 42 31 (knF b) := by
    have := Blk.boxed (w.alloc (.cells L 42)) 42 31 (knF b)
    have e : (w.alloc (.cells L 42)).heap.size = w.heap.size + 1 := by simp
    rw [e] at this
    rw [hW1, hM]; exact this
  have c0 := hA.cell 0 (by omega)
  have c1 := hB.cell 0 (by omega)
  rw [show knF a 0 = .bool a.come from rfl] at c0
  rw [show knF b 0 = .bool b.come from rfl] at c1
  have HB1 := Lib.hid hb1; have HA1 := Lib.hid hA; have HBK1 := Lib.hid hB; clear hb1 hA hB
  rw [← hL, ← hM]; clear hL hM
  have HW1 := Lib.hid hW1; clear hW1
  rcases hca : a.come with _ | _
  · rw [hca] at c0
    go_enter Try.func21, Try.ntmps21
    go_upto_region 1 with fail
    rw [← HW1.out]
    go_wp2
    go_ret
    exact ⟨rfl, HB1.out⟩
  · obtain ⟨hcb, hle⟩ := h hca
    rw [hca] at c0
    rw [hcb] at c1
    have HLE := Lib.hid hle; clear hle h hca hcb
    go_enter Try.func21, Try.ntmps21
    go_upto_region 1 with fail
    rw [← HW1.out]
    go_wp2
    clear c0 c1
    go_loopw [5] (fun i wr => ∃ n : Nat, n ≤ 10 ∧ i = .int .i64 (n : Int) ∧ Below W1.heap.size W1 wr) (fun i _ => 10 - (intOf i).toNat)
    case atStart => exact ⟨0, by omega, rfl, Below.refl _ _⟩
    case round =>
      obtain ⟨n, hn, rfl, hb⟩ := hrel
      have HB := Lib.hid hb; clear hb
      have HBw := Lib.hid (HB1.out.trans (HB.out.mono HB1.out.size))
      by_cases hlt : n < 10
      · have hlt' : (n : Int) < 10 := by omega
        have HA := HA1; have HBK := HBK1
        go_upto_region 8 with fail
        obtain ⟨We, hWe⟩ : ∃ We, We = wr.drew := ⟨_, rfl⟩
        have hbe : Below wr.heap.size wr We := by rw [hWe]; exact (Below.refl _ _).drew
        refine wp_region_noPanic ?_
        refine planM (.rd 0 (.rd 1 (.rd 2 (.rd 3 (.rd 4 (.rd 5 (.rd 6 (.rd 7 (.many [(8, some 6), (9, some 7)] (.eff 10 (.eff 11 .done))))))))))) [0, 1, 2, 3, 4, 5, 6, 7, 8, 9, 10] (fun W => Below wr.heap.size wr W) (by kernel_rfl) (by kernel_rfl) (fun _ _ _ _ _ h => h) (by rw [← hWe]; exact hbe) ?_
        rw [← hWe]
        clear hWe
        have HBe := Lib.hid hbe; clear hbe
        refine pm_pure rfl (fun K hK => ?_); go_simp; refine hK _ ?_; clear hK K
        refine pm_pure rfl (fun K hK => ?_); go_simp; refine hK _ ?_; clear hK K
        refine pm_pure rfl (fun K hK => ?_); go_simp; refine hK _ ?_; clear hK K
        refine pm_rdv 21 (.agg #[.bool (a.r n).s, .int .u32 ((a.r n).l : Int), .int .u32 ((a.r n).g : Int)]) rfl rfl rfl (fun W hS => exec_load_mid 37 (.tmp 20) rfl w.heap.size (1 + n * 3) (by kernel_rfl) [.bool (a.r n).s, .int .u32 ((a.r n).l : Int), .int .u32 ((a.r n).g : Int)] _ (kn_rg (HA.out.below (HB.out.trans (hS.mono HB.out.size))) n hlt) Try.underlying37 rfl (by kernel_rfl)) ?_
        refine pm_pure rfl (fun K hK => ?_); go_simp; refine hK _ ?_; clear hK K
        refine pm_pure rfl (fun K hK => ?_); go_simp; refine hK _ ?_; clear hK K
        refine pm_pure rfl (fun K hK => ?_); go_simp; refine hK _ ?_; clear hK K
        refine pm_rdv 25 (.agg #[.bool (b.r n).s, .int .u32 ((b.r n).l : Int), .int .u32 ((b.r n).g : Int)]) rfl rfl rfl (fun W hS => exec_load_mid 37 (.tmp 24) rfl (w.heap.size + 1) (1 + n * 3) (by kernel_rfl) [.bool (b.r n).s, .int .u32 ((b.r n).l : Int), .int .u32 ((b.r n).g : Int)] _ (kn_rg (HBK.out.below (HB.out.trans (hS.mono HB.out.size))) n hlt) Try.underlying37 rfl (by kernel_rfl)) ?_
        refine pm_manyJ (fun lq vq W => AlJ wr.heap.size 8 9 37 3 (fun j => [.bool false, .int .u32 0, .int .u32 0].getD j undef) lq vq W) (AlJ.zero _ _ _ _ _ _ _) ?_ ?_
        · intro q hq lq vq w1 hS hb hl hn hJ
          simp only [List.mem_cons, List.not_mem_nil, or_false] at hq
          rcases hq with rfl | rfl
          · refine pm_one rfl rfl (fun K' hK => ?_)
            refine wp_value (w' := w1.alloc (.cells #[.bool false, .int .u32 0, .int .u32 0] 37)) (.pointer (some ⟨w1.heap.size, 0, none⟩)) (by kernel_rfl) ?_
            have hb3 : Below w1.heap.size w1 (w1.alloc (.cells #[.bool false, .int .u32 0, .int .u32 0] 37)) := (Below.refl _ _).alloc (Nat.le_refl _) _
            exact hK _ _ ⟨_, rfl, Below.trans hS (hb3.mono hS.size), hb3, hJ.up1 (by omega) hS.size [.bool false, .int .u32 0, .int .u32 0] rfl rfl⟩
          · refine pm_one rfl rfl (fun K' hK => ?_)
            refine wp_value (w' := w1.alloc (.cells #[.bool false, .int .u32 0, .int .u32 0] 37)) (.pointer (some ⟨w1.heap.size, 0, none⟩)) (by kernel_rfl) ?_
            have hb3 : Below w1.heap.size w1 (w1.alloc (.cells #[.bool false, .int .u32 0, .int .u32 0] 37)) := (Below.refl _ _).alloc (Nat.le_refl _) _
            exact hK _ _ ⟨_, rfl, Below.trans hS (hb3.mono hS.size), hb3, hJ.up2 (by omega) hS.size [.bool false, .int .u32 0, .int .u32 0] rfl rfl⟩
        · intro lq vq W8 hS hb hl hJ
          obtain ⟨b16, v16, hz16, hB16⟩ := hJ.a (hl (8, some 6) (by simp))
          obtain ⟨b17, v17, hz17, hB17⟩ := hJ.b (hl (9, some 7) (by simp))
          have hne := hJ.e (hl (8, some 6) (by simp)) (hl (9, some 7) (by simp))
          have hne2 : b16 ≠ b17 := fun e => hne (by rw [v16, v17, e])
          simp only [putM, if_true, v16, v17]
          clear hJ v16 v17 hl hne
          have hkA : Kp (fun k => k = b16) W8 (W8.setCells b16 0 [.bool (a.r n).s, .int .u32 ((a.r n).l : Int), .int .u32 ((a.r n).g : Int)]) := Kp.setCells (M := fun k => k = b16) (.inl rfl) _ _ _ (Kp.refl _ _)
          have hsA : Below wr.heap.size wr (W8.setCells b16 0 [.bool (a.r n).s, .int .u32 ((a.r n).l : Int), .int .u32 ((a.r n).g : Int)]) := (Kp.setCells (w := wr) (b := b16) (.inr hz16) _ _ _ (Kp.of_below hS No)).below
          refine pm_store rfl rfl rfl 37 (.tmp 6) (.tmp 21) rfl b16 0 #[.bool (a.r n).s, .int .u32 ((a.r n).l : Int), .int .u32 ((a.r n).g : Int)] (by kernel_rfl) (by kernel_rfl) (there_mid hB16 0 3 (by omega)) (by kernel_rfl) (by simp [Value.oneCell']) (fun _ => hsA) ?_
          refine pm_store rfl rfl rfl 37 (.tmp 7) (.tmp 25) rfl b17 0 #[.bool (b.r n).s, .int .u32 ((b.r n).l : Int), .int .u32 ((b.r n).g : Int)] (by kernel_rfl) (by kernel_rfl) (there_mid (hB17.keep hkA (fun e => hne2 e.symm)) 0 3 (by omega)) (by kernel_rfl) (by simp [Value.oneCell']) (fun h => by cases h) ?_
          refine pm_done ?_
          refine NoPanic.normal ?_
          have hc16 := (hB16.fill (fun j => [.bool (a.r n).s, .int .u32 ((a.r n).l : Int), .int .u32 ((a.r n).g : Int)].getD j undef))
          have hkB : Kp (fun k => k = b17) (W8.setCells b16 0 [.bool (a.r n).s, .int .u32 ((a.r n).l : Int), .int .u32 ((a.r n).g : Int)]) ((W8.setCells b16 0 [.bool (a.r n).s, .int .u32 ((a.r n).l : Int), .int .u32 ((a.r n).g : Int)]).setCells b17 0 [.bool (b.r n).s, .int .u32 ((b.r n).l : Int), .int .u32 ((b.r n).g : Int)]) := Kp.setCells (M := fun k => k = b17) (.inl rfl) _ _ _ (Kp.refl _ _)
          have hc17 := ((hB17.keep hkA (fun e => hne2 e.symm)).fill (fun j => [.bool (b.r n).s, .int .u32 ((b.r n).l : Int), .int .u32 ((b.r n).g : Int)].getD j undef))
          obtain ⟨Wz, hWz⟩ : ∃ Wz, Wz = (W8.setCells b16 0 [.bool (a.r n).s, .int .u32 ((a.r n).l : Int), .int .u32 ((a.r n).g : Int)]).setCells b17 0 [.bool (b.r n).s, .int .u32 ((b.r n).l : Int), .int .u32 ((b.r n).g : Int)] := ⟨_, rfl⟩
          have h16 : Blk Wz b16 37 3 (fun j => [.bool (a.r n).s, .int .u32 ((a.r n).l : Int), .int .u32 ((a.r n).g : Int)].getD j undef) := by rw [hWz]; exact Blk.keep (M := fun k => k = b17) hc16 hkB hne2
          have h17 : Blk Wz b17 37 3 (fun j => [.bool (b.r n).s, .int .u32 ((b.r n).l : Int), .int .u32 ((b.r n).g : Int)].getD j undef) := by rw [hWz]; exact hc17
          have hbz : Below wr.heap.size wr Wz := by rw [hWz]; exact (Kp.setCells (w := wr) (b := b17) (.inr hz17) _ _ _ (Kp.of_below hsA No)).below
          have HBz := Lib.hid (HB.out.trans (hbz.mono HB.out.size))
          show Exit.then _ _ _ _ ((W8.setCells b16 0 [.bool (a.r n).s, .int .u32 ((a.r n).l : Int), .int .u32 ((a.r n).g : Int)]).setCells b17 0 [.bool (b.r n).s, .int .u32 ((b.r n).l : Int), .int .u32 ((b.r n).g : Int)])
          rw [← hWz]
          clear hWz hc16 hc17 hkA hkB hsA hbz hB16 hB17
          have x0 : Wz.cell? ⟨b16, 0, none⟩ = some (.bool (a.r n).s) := h16.cell 0 (by omega)
          have x1 : Wz.cell? ⟨b16, 1, none⟩ = some (.int .u32 ((a.r n).l : Int)) := h16.cell 1 (by omega)
          have x2 : Wz.cell? ⟨b16, 2, none⟩ = some (.int .u32 ((a.r n).g : Int)) := h16.cell 2 (by omega)
          have y0 : Wz.cell? ⟨b17, 0, none⟩ = some (.bool (b.r n).s) := h17.cell 0 (by omega)
          have y1 : Wz.cell? ⟨b17, 1, none⟩ = some (.int .u32 ((b.r n).l : Int)) := h17.cell 1 (by omega)
          have y2 : Wz.cell? ⟨b17, 2, none⟩ = some (.int .u32 ((b.r n).g : Int)) := h17.cell 2 (by omega)
          clear h16 h17
          have hle := HLE.out n hlt
          generalize a.r n = ra at x0 x1 x2 hle ⊢
          generalize b.r n = rb at y0 y1 y2 hle ⊢
          obtain ⟨xs, xl, xg⟩ := ra
          obtain ⟨ys, yl, yg⟩ := rb
          cases ys
          · clear hle
            go_wp2
            go_roundw
            case rel => exact ⟨n + 1, by omega, by go_num, HBz.out⟩
            case measure => simp [intOf]; omega
          · obtain ⟨h1, h2, h3⟩ := hle rfl
            have h1 : xs = true := h1
            subst h1
            have i1 : ¬ (xl : Int) < (yl : Int) := by have : yl ≤ xl := h2; omega
            have i2 : ¬ (yg : Int) < (xg : Int) := by have : xg ≤ yg := h3; omega
            clear h2 h3 hle
            go_wp2
            go_roundw
            case rel => exact ⟨n + 1, by omega, by go_num, HBz.out⟩
            case measure => simp [intOf]; omega
      · obtain rfl : n = 10 := by omega
        go_wp2
        go_ret
        exact ⟨rfl, HBw.out⟩
end Go.Proofs.Ytjlddhnjbjhmkaa
