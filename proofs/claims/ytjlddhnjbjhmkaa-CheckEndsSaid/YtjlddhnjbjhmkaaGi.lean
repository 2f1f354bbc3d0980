/- Layer 6: less, the last two. -/
import Derived.Test.YtjlddhnjbjhmkaaGc
set_option linter.unusedVariables false
set_option linter.unusedSimpArgs false
namespace Go.Proofs.Ytjlddhnjbjhmkaa
open Go.RowKit

set_option maxRecDepth 100000 in
set_option maxHeartbeats 1500000 in
theorem less_rj {w : World} {x : Nat} {i : Ins8} {ctx : Nat} {k : Kn} (hI : InB w x i ctx k) (hm : i.May) (hr : k.right) (hop : i.op = 21 ∨ i.op = 22) (hset : (k.r i.dst).s = true) (hss : i.op = 22 → (k.r i.src).s = true) (hne : i.op = 22 → i.dst ≠ i.src) (h22 : i.op = 22)
    (dl dg sl sg : Nat) (hdl : (k.r i.dst).l = dl) (hdg : (k.r i.dst).g = dg) (hsl : (i.srcS k).l = sl) (hsg : (i.srcS k).g = sg) (hj : dl < sg) (hn : ¬ sl ≤ dg) :
    Calls Try.prog 42 #[.pointer (some ⟨x, 0, none⟩)] w fun e w' => e = .returned (.tuple #[.agg (knL (jltN i k ⟨dl, dg⟩ ⟨sl, sg⟩)).toArray, .agg (knL (jltJ i k ⟨dl, dg⟩ ⟨sl, sg⟩)).toArray]) ∧ Below w.heap.size w w' := by
  have hx := hI.lt
  have hdst := hm.dst
  have hd1 := (hr i.dst).1
  have hd2 := (hr i.dst).2.1
  have hs1 := (src_ok (i := i) (k := k) (by have := hm.imm; omega) hr).1
  have hs2 := (src_ok (i := i) (k := k) (by have := hm.imm; omega) hr).2
  rw [hdl, hdg] at hd1
  rw [hdg] at hd2
  rw [hsl, hsg] at hs1
  rw [hsg] at hs2
  have hsC : ∀ W, Below w.heap.size w W → Calls Try.prog 54 #[.pointer (some ⟨x, 0, none⟩)] W fun e w' => e = .returned (.agg #[.int .u64 (sl : Int), .int .u64 (sg : Int)]) ∧ Below W.heap.size W w' := fun W hb => by
    rw [← hsl, ← hsg]
    rcases hu : i.useImm with _ | _
    · rw [show i.srcS k = (k.r i.src).sp from by unfold Ins8.srcS; simp [hu]]
      exact csrc_reg (hI.below hb) hr hm hu (hss (hop.resolve_left (fun e => by simp [Ins8.useImm, e] at hu)))
    · rw [show i.srcS k = ⟨i.imm, i.imm⟩ from by unfold Ins8.srcS; simp [hu]]
      exact csrc_imm (hI.below hb) hm hu
  have hRG := fun W (hb : Below w.heap.size w W) => reg_ok (hI.below hb) hr i.dst hdst hset
  rw [hdl, hdg] at hRG
  obtain ⟨kz, hkz⟩ : ∃ z : Kn, z = kn0 := ⟨_, rfl⟩
  obtain ⟨W1, hW1⟩ : ∃ W1, W1 = ((w.alloc (.cells #[.pointer (some ⟨x, 0, none⟩)] 77)).alloc (.cells #[.bool false, .bool false, .int .u32 0, .int .u32 0, .bool false, .int .u32 0, .int .u32 0, .bool false, .int .u32 0, .int .u32 0, .bool false, .int .u32 0, .int .u32 0, .bool false, .int .u32 0, .int .u32 0, .bool false, .int .u32 0, .int .u32 0, .bool false, .int .u32 0, .int .u32 0, .bool false, .int .u32 0, .int .u32 0, .bool false, .int .u32 0, .int .u32 0, .bool false, .int .u32 0, .int .u32 0] 42)).alloc (.cells #[.bool false, .bool false, .int .u32 0, .int .u32 0, .bool false, .int .u32 0, .int .u32 0, .bool false, .int .u32 0, .int .u32 0, .bool false, .int .u32 0, .int .u32 0, .bool false, .int .u32 0, .int .u32 0, .bool false, .int .u32 0, .int .u32 0, .bool false, .int .u32 0, .int .u32 0, .bool false, .int .u32 0, .int .u32 0, .bool false, .int .u32 0, .int .u32 0, .bool false, .int .u32 0, .int .u32 0] 42) := ⟨_, rfl⟩
  have T1 : Tw w (w.heap.size + 1) (knF kz) (knF kz) W1 := by rw [hW1, hkz]; exact Tw.start1 w x
  have hc1 : W1.cell? ⟨w.heap.size, 0, none⟩ = some (.pointer (some ⟨x, 0, none⟩)) := by rw [hW1]; simp [go_sem]
  have HIN := Lib.hid (fun W (hb : Below w.heap.size w W) => hI.below hb)
  have HBO := Lib.hid (fun W (hb : Below w.heap.size w W) (hc : W.cell? ⟨w.heap.size, 0, none⟩ = some (.pointer (some ⟨x, 0, none⟩))) => both_ok (hI.below hb) hm w.heap.size hc)
  have HRG := Lib.hid hRG; have HSC := Lib.hid hsC; have HT1 := Lib.hid T1; have HC1 := Lib.hid hc1; have HI1 := Lib.hid (HIN.out W1 T1.b)
  have HJN : Hid (jltN i k ⟨dl, dg⟩ ⟨sl, sg⟩ = kz) := Lib.hid (by unfold jltN; rw [if_neg hn]; exact hkz.symm)
  have HJJ : Hid (jltJ i k ⟨dl, dg⟩ ⟨sl, sg⟩ = bothK i k ⟨dl, min dg (sg - 1)⟩ ⟨max sl (dl + 1), sg⟩) := Lib.hid (by unfold jltJ; rw [if_pos hj])
  have kj : (dl : Int) < sg := by omega
  have kn : ¬ (sl : Int) ≤ dg := by omega
  have dj : decide (dl < sg) = true := by simp; omega
  have dn : decide (sl ≤ dg) = false := by simp; omega
  have q22 : ((i.op : Int) == 22) = true := by simp; omega
  have qd : ((i.dst : Int) == (i.src : Int)) = false := by have := hne h22; simp; omega
  clear h22 hop hne hj hn
  have hw1 : IntKind.u64.wrap ((sg : Int) - 1) = (sg : Int) - 1 := by rw [IntKind.wrap_u64]; omega
  have hw2 : IntKind.u64.wrap ((dl : Int) + 1) = (dl : Int) + 1 := by rw [IntKind.wrap_u64]; omega
  clear hRG hsC T1 hc1 hI hm hr hset hss hkz hdl hdg hsl hsg
  have HW1 := Lib.hid hW1; clear hW1
  go_enter Try.func42, Try.ntmps42
  go_upto_region 1 with fail
  rw [← HW1.out]
  go_cut [4, 5] from 7 to 15 (fun s4 s5 wx => LsPost w x dl dg sl sg kz s4 s5 wx)
  case first =>
    refine wp_region_noPanic ?_
    refine planM (.rd 0 (.rd 1 (.rd 2 (.rd 3 (.rd 4 (.rd 5 (.rd 7 (.many [(6, some 13), (8, some 15), (9, some 4), (10, some 5)] (.eff 11 (.eff 12 .done)))))))))) [0, 1, 2, 3, 4, 5, 6, 7, 8, 9, 10, 11] (fun W => Below W1.heap.size W1 W) (by kernel_rfl) (by kernel_rfl) (fun _ _ _ _ _ h => h) ((Below.refl _ _).drew) ?_
    refine pm_rd (.pointer (some ⟨x, 0, none⟩)) rfl rfl (fun W hS => ?_) (fun K hK => ?_)
    · have f0 := (Kp.of_below hS No).cell HC1.out (fun e => e)
      simp [go_sem, f0]
    go_simp
    refine hK _ ?_
    clear hK K
    refine pm_rd (.pointer (some ⟨x, 0, none⟩)) rfl rfl (fun W hS => ?_) (fun K hK => ?_)
    · have f0 := (Kp.of_below hS No).cell HC1.out (fun e => e)
      simp [go_sem, f0]
    go_simp
    refine hK _ ?_
    clear hK K
    repeat (refine pm_pure rfl (fun K hK => ?_); go_simp; refine hK _ ?_; clear hK K)
    refine pm_rd (.int .i64 (i.dst : Int)) rfl rfl (fun W hS => ?_) (fun K hK => ?_)
    · have f0 := (Kp.of_below hS No).cell HI1.out.cdst (fun e => e)
      simp [go_sem, f0]
    go_simp
    refine hK _ ?_
    clear hK K
    refine pm_rd (.pointer (some ⟨x, 0, none⟩)) rfl rfl (fun W hS => ?_) (fun K hK => ?_)
    · have f0 := (Kp.of_below hS No).cell HC1.out (fun e => e)
      simp [go_sem, f0]
    go_simp
    refine hK _ ?_
    clear hK K
    refine pm_manyJ (fun l v W => LsJ W1 dl dg sl sg l v W) (LsJ.zero _ _ _ _ _ _) ?_ ?_
    · intro c hc l v w1 hS hb hl hn hJ
      simp only [List.mem_cons, List.not_mem_nil, or_false] at hc
      rcases hc with rfl | rfl | rfl | rfl
      · have E7 : ∀ a : Act, (putM v l [(6, some 13), (8, some 15), (9, some 4), (10, some 5)] a).tmps[7]?.getD undef = a.tmps[7]?.getD undef := fun a => by simpa [Array.getD_eq_getD_getElem?] using putM_eval_other (v := v) (l := l) 7 [(6, some 13), (8, some 15), (9, some 4), (10, some 5)] a (by simp)
        have E12 : ∀ a : Act, (putM v l [(6, some 13), (8, some 15), (9, some 4), (10, some 5)] a).tmps[12]?.getD undef = a.tmps[12]?.getD undef := fun a => by simpa [Array.getD_eq_getD_getElem?] using putM_eval_other (v := v) (l := l) 12 [(6, some 13), (8, some 15), (9, some 4), (10, some 5)] a (by simp)
        refine pm_one rfl rfl (fun K' hK => ?_)
        refine wp_calls_ret (f := 39) (args := #[.pointer (some ⟨x, 0, none⟩), .int .i64 (i.dst : Int)]) ?_ (HRG.out w1 (HT1.out.b.trans (Below.mono hS HT1.out.b.size))) (fun w3 hb3 => ?_)
        · simp [execOp, go_sem]
          exact ⟨(E7 _).trans rfl, (E12 _).trans rfl⟩
        exact hK _ _ ⟨_, rfl, Below.trans hS (hb3.mono hS.size), hb3, hJ.ups6 hb3⟩
      · have E14 : ∀ a : Act, (putM v l [(6, some 13), (8, some 15), (9, some 4), (10, some 5)] a).tmps[14]?.getD undef = a.tmps[14]?.getD undef := fun a => by simpa [Array.getD_eq_getD_getElem?] using putM_eval_other (v := v) (l := l) 14 [(6, some 13), (8, some 15), (9, some 4), (10, some 5)] a (by simp)
        refine pm_one rfl rfl (fun K' hK => ?_)
        refine wp_calls_ret (f := 54) (args := #[.pointer (some ⟨x, 0, none⟩)]) ?_ (HSC.out w1 (HT1.out.b.trans (Below.mono hS HT1.out.b.size))) (fun w3 hb3 => ?_)
        · simp [execOp, go_sem]
          exact (E14 _).trans rfl
        exact hK _ _ ⟨_, rfl, Below.trans hS (hb3.mono hS.size), hb3, hJ.ups8 hb3⟩
      · refine pm_one rfl rfl (fun K' hK => ?_)
        refine wp_value (w' := w1.alloc (.cells #[.int .u64 0, .int .u64 0] 93)) (.pointer (some ⟨w1.heap.size, 0, none⟩)) (by kernel_rfl) ?_
        have hb3 : Below w1.heap.size w1 (w1.alloc (.cells #[.int .u64 0, .int .u64 0] 93)) := (Below.refl _ _).alloc (Nat.le_refl _) _
        exact hK _ _ ⟨_, rfl, Below.trans hS (hb3.mono hS.size), hb3, hJ.ups9 hS.size⟩
      · refine pm_one rfl rfl (fun K' hK => ?_)
        refine wp_value (w' := w1.alloc (.cells #[.int .u64 0, .int .u64 0] 93)) (.pointer (some ⟨w1.heap.size, 0, none⟩)) (by kernel_rfl) ?_
        have hb3 : Below w1.heap.size w1 (w1.alloc (.cells #[.int .u64 0, .int .u64 0] 93)) := (Below.refl _ _).alloc (Nat.le_refl _) _
        exact hK _ _ ⟨_, rfl, Below.trans hS (hb3.mono hS.size), hb3, hJ.ups10 hS.size⟩
    · intro l v w2 hS hb hl hJ
      have v6 := hJ.a (hl (6, some 13) (by simp))
      have v8 := hJ.b (hl (8, some 15) (by simp))
      obtain ⟨b4, v9, hb4, hB4⟩ := hJ.c (hl (9, some 4) (by simp))
      obtain ⟨b5, v10, hb5, hB5⟩ := hJ.d (hl (10, some 5) (by simp))
      have hne := hJ.e (hl (9, some 4) (by simp)) (hl (10, some 5) (by simp))
      have hne2 : b4 ≠ b5 := fun e => hne (by rw [v9, v10, e])
      simp only [putM, if_true, v6, v8, v9, v10]
      clear hJ v6 v8 v9 v10 hne hl
      have hT := HT1.out.more hS
      have hz1 := HT1.out.z
      have hc2 := (Kp.of_below (show Below W1.heap.size W1 w2 from hS) No).cell HC1.out (fun e => e)
      have hkA : Kp (fun b => b = b4) w2 (w2.setCells b4 0 [.int .u64 (dl : Int), .int .u64 (dg : Int)]) := Kp.setCells (M := fun b => b = b4) (.inl rfl) _ _ _ (Kp.refl _ _)
      have hkB : Kp (fun b => b = b5) (w2.setCells b4 0 [.int .u64 (dl : Int), .int .u64 (dg : Int)]) ((w2.setCells b4 0 [.int .u64 (dl : Int), .int .u64 (dg : Int)]).setCells b5 0 [.int .u64 (sl : Int), .int .u64 (sg : Int)]) := Kp.setCells (M := fun b => b = b5) (.inl rfl) _ _ _ (Kp.refl _ _)
      have hB5A := hB5.keep hkA (fun e => hne2 e.symm)
      have hL : LsW w x b4 b5 dl dg sl sg (knF kz) (knF kz) ((w2.setCells b4 0 [.int .u64 (dl : Int), .int .u64 (dg : Int)]).setCells b5 0 [.int .u64 (sl : Int), .int .u64 (sg : Int)]) :=
        ⟨⟨(Kp.setCells (w := w) (b := b5) (.inr (by omega)) _ _ _ (Kp.setCells (w := w) (b := b4) (.inr (by omega)) _ _ _ (Kp.of_below hT.b No))).below, hT.lo, by have := hkA.size; have := hkB.size; have := hT.z; omega, (hT.n.keep hkA (by omega)).keep hkB (by omega), (hT.j.keep hkA (by omega)).keep hkB (by omega)⟩,
         hkB.cell (hkA.cell hc2 (by show ¬ w.heap.size = b4; omega)) (by show ¬ w.heap.size = b5; omega), (hB4.fill (spF dl dg)).keep hkB hne2, hB5A.fill (spF sl sg), by omega, by omega⟩
      refine pm_store rfl rfl rfl 93 (.tmp 4) (.tmp 13) rfl b4 0 #[.int .u64 (dl : Int), .int .u64 (dg : Int)] rfl rfl (there_blk hB4) (by kernel_rfl) (by simp [Value.oneCell']) (fun _ => (Kp.setCells (w := W1) (b := b4) (.inr hb4) _ _ _ (Kp.of_below hS No)).below) ?_
      refine pm_store rfl rfl rfl 93 (.tmp 5) (.tmp 15) rfl b5 0 #[.int .u64 (sl : Int), .int .u64 (sg : Int)] rfl rfl (there_blk hB5A) (by kernel_rfl) (by simp [Value.oneCell']) (fun h => by cases h) ?_
      refine pm_done ?_
      refine NoPanic.normal ?_
      have HL := Lib.hid hL; clear hL
      go_wp2_with fail
      go_meet
      exact ⟨b4, b5, rfl, rfl, HL.out⟩
  case rest =>
    obtain ⟨b4, b5, rfl, rfl, hL5⟩ := hcut
    generalize wc = W5 at *
    have HL5 := Lib.hid hL5; clear hL5
    have HI5 := Lib.hid (HIN.out W5 HL5.out.t.b)
    go_upto_region 2 with fail
    go_cut [34] from 16 to 34 (fun s34 wx => s34 = .bool false ∧ wx = W5.drew)
    case first =>
      refine wp_region_noPanic ?_
      refine planM (.rd 0 (.rd 1 (.rd 2 (.rd 3 (.rd 4 (.rd 5 (.rd 6 (.rd 7 (.rd 8 (.rd 9 (.rd 10 (.rd 11 (.rd 12 (.rd 13 (.rd 14 (.rd 15 (.rd 16 (.rd 17 (.rd 18 .done))))))))))))))))))) [0, 1, 2, 3, 4, 5, 6, 7, 8, 9, 10, 11, 12, 13, 14, 15, 16, 17, 18] (fun W => Below W5.heap.size W5 W) (by kernel_rfl) (by kernel_rfl) (fun _ _ _ _ _ h => h) ((Below.refl _ _).drew) ?_
      refine pm_rd (.pointer (some ⟨x, 0, none⟩)) rfl rfl (fun W hS => ?_) (fun K hK => ?_)
      · have f0 := (Kp.of_below hS No).cell HL5.out.c (fun e => e)
        simp [go_sem, f0]
      go_simp
      refine hK _ ?_
      clear hK K
      repeat (refine pm_pure rfl (fun K hK => ?_); go_simp; refine hK _ ?_; clear hK K)
      refine pm_rd (.int .i64 (i.op : Int)) rfl rfl (fun W hS => ?_) (fun K hK => ?_)
      · have f0 := (Kp.of_below hS No).cell HI5.out.cop (fun e => e)
        simp [go_sem, f0]
      go_simp
      refine hK _ ?_
      clear hK K
      repeat (refine pm_pure rfl (fun K hK => ?_); go_simp; refine hK _ ?_; clear hK K)
      refine pm_rd (.pointer (some ⟨x, 0, none⟩)) rfl rfl (fun W hS => ?_) (fun K hK => ?_)
      · have f0 := (Kp.of_below hS No).cell HL5.out.c (fun e => e)
        simp [go_sem, f0]
      go_simp
      refine hK _ ?_
      clear hK K
      repeat (refine pm_pure rfl (fun K hK => ?_); go_simp; refine hK _ ?_; clear hK K)
      refine pm_rd (.int .i64 (i.dst : Int)) rfl rfl (fun W hS => ?_) (fun K hK => ?_)
      · have f0 := (Kp.of_below hS No).cell HI5.out.cdst (fun e => e)
        simp [go_sem, f0]
      go_simp
      refine hK _ ?_
      clear hK K
      refine pm_rd (.pointer (some ⟨x, 0, none⟩)) rfl rfl (fun W hS => ?_) (fun K hK => ?_)
      · have f0 := (Kp.of_below hS No).cell HL5.out.c (fun e => e)
        simp [go_sem, f0]
      go_simp
      refine hK _ ?_
      clear hK K
      repeat (refine pm_pure rfl (fun K hK => ?_); go_simp; refine hK _ ?_; clear hK K)
      refine pm_rd (.int .i64 (i.src : Int)) rfl rfl (fun W hS => ?_) (fun K hK => ?_)
      · have f0 := (Kp.of_below hS No).cell HI5.out.csrc (fun e => e)
        simp [go_sem, f0]
      go_simp
      refine hK _ ?_
      clear hK K
      repeat (refine pm_pure rfl (fun K hK => ?_); go_simp; refine hK _ ?_; clear hK K)
      refine pm_done ?_
      refine NoPanic.normal ?_
      go_wp2_with fail
      go_meet
      exact ⟨rfl, rfl⟩
    case rest =>
      obtain ⟨rfl, rfl⟩ := hcut
      have HL6 := Lib.hid (HL5.out.more ((Below.refl _ _).drew))
      generalize W5.drew = W6 at HL6 ⊢
      have e0 : W6.cell? ⟨b4, 0, none⟩ = some (.int .u64 (dl : Int)) := HL6.out.d.cell 0 (by omega)
      have e1 : W6.cell? ⟨b4, 1, none⟩ = some (.int .u64 (dg : Int)) := HL6.out.d.cell 1 (by omega)
      have e2 : W6.cell? ⟨b5, 0, none⟩ = some (.int .u64 (sl : Int)) := HL6.out.s.cell 0 (by omega)
      have e3 : W6.cell? ⟨b5, 1, none⟩ = some (.int .u64 (sg : Int)) := HL6.out.s.cell 1 (by omega)
      go_upto_region 7 with (first | (go_at_call 55; (with_reducible refine (HBO.out _ HL6.out.t.b HL6.out.c _ _ _ _ (dl) (min dg (sg - 1)) (max sl (dl + 1)) (sg) (by first | rfl | omega | (simp; omega) | (rw [IntKind.wrap_u64]; omega)) (by first | rfl | omega | (simp; omega) | (rw [IntKind.wrap_u64]; omega)) (by first | rfl | omega | (simp; omega) | (rw [IntKind.wrap_u64]; omega)) (by first | rfl | omega | (simp; omega) | (rw [IntKind.wrap_u64]; omega)) (by omega) (by omega) (by omega) (by omega)).mono ?_); rintro e w7 ⟨rfl, hb6⟩; have HL7 := Lib.hid (HL6.out.more hb6); clear hb6) | (refine wpList_store_mid rfl 42 (.tmp 3) (.tmp 65) rfl (w.heap.size + 2) 0 (knL (bothK i k ⟨dl, min dg (sg - 1)⟩ ⟨max sl (dl + 1), sg⟩)).toArray rfl rfl (by rw [knA_size]; exact there_blk HL7.out.t.j) (by rw [knA_size]; exact info_kn) (knL_one _) ?_))
      have T8 := HL7.out.setj (knF (bothK i k ⟨dl, min dg (sg - 1)⟩ ⟨max sl (dl + 1), sg⟩))
      change LsW _ _ _ _ _ _ _ _ _ _ (w7.setCells (w.heap.size + 2) 0 (knL (bothK i k ⟨dl, min dg (sg - 1)⟩ ⟨max sl (dl + 1), sg⟩))) at T8
      generalize hW8 : w7.setCells (w.heap.size + 2) 0 (knL (bothK i k ⟨dl, min dg (sg - 1)⟩ ⟨max sl (dl + 1), sg⟩)) = W8 at T8 ⊢
      clear hW8 e0 e1 e2 e3
      have HL8 := Lib.hid T8; clear T8
      have e0 : W8.cell? ⟨b4, 0, none⟩ = some (.int .u64 (dl : Int)) := HL8.out.d.cell 0 (by omega)
      have e1 : W8.cell? ⟨b4, 1, none⟩ = some (.int .u64 (dg : Int)) := HL8.out.d.cell 1 (by omega)
      have e2 : W8.cell? ⟨b5, 0, none⟩ = some (.int .u64 (sl : Int)) := HL8.out.s.cell 0 (by omega)
      have e3 : W8.cell? ⟨b5, 1, none⟩ = some (.int .u64 (sg : Int)) := HL8.out.s.cell 1 (by omega)
      go_upto_region 9 with fail
      clear e0 e1 e2 e3
      refine wp_region_noPanic ?_
      refine planM (.rd 1 (.eff 0 (.eff 2 (.eff 3 .done)))) [0, 1, 2] (fun W => Kp (fun b => b = w.heap.size + 1) W8 W) (by kernel_rfl) (by kernel_rfl) (fun _ _ _ _ _ h => h) ((Kp.refl _ _).drew) ?_
      refine pm_rdv 90 (.agg (knL (bothK i k ⟨dl, min dg (sg - 1)⟩ ⟨max sl (dl + 1), sg⟩)).toArray) rfl rfl rfl (fun W hS => exec_load_mid 42 (.tmp 3) rfl (w.heap.size + 2) (0) rfl (knL (bothK i k ⟨dl, min dg (sg - 1)⟩ ⟨max sl (dl + 1), sg⟩)) _ (rg_kept HL8.out.t.j.range hS (by omega)) Try.underlying42 rfl (by rw [knL_length]; exact info_kn)) ?_
      refine pm_efv 89 (.agg (knL (kz)).toArray) rfl rfl rfl (exec_load_mid 42 (.tmp 2) rfl (w.heap.size + 1) (0) rfl (knL (kz)) _ (HL8.out.t.more ((Below.refl _ _).drew)).n.range Try.underlying42 rfl (by rw [knL_length]; exact info_kn)) (fun _ => (Kp.refl _ _).drew) ?_
      have T0 := HL8.out.t.more ((Below.refl _ _).drew)
      have T1 := T0.setn (knF (kz))
      have T2 := T1.setj (knF (bothK i k ⟨dl, min dg (sg - 1)⟩ ⟨max sl (dl + 1), sg⟩))
      refine pm_store rfl rfl rfl 42 (.tmp 2) (.tmp 89) rfl (w.heap.size + 1) 0 (knL (kz)).toArray rfl rfl (by rw [knA_size]; exact there_blk T0.n) (by rw [knA_size]; exact info_kn) (knL_one _) (fun _ => Kp.setCells (M := fun b => b = w.heap.size + 1) (.inl rfl) _ _ _ ((Kp.refl _ _).drew)) ?_
      rw [knL_tl]
      refine pm_store rfl rfl rfl 42 (.tmp 3) (.tmp 90) rfl (w.heap.size + 2) 0 (knL (bothK i k ⟨dl, min dg (sg - 1)⟩ ⟨max sl (dl + 1), sg⟩)).toArray rfl rfl (by rw [knA_size]; exact there_blk T1.j) (by rw [knA_size]; exact info_kn) (knL_one _) (fun h => by cases h) ?_
      rw [knL_tl]
      refine pm_done ?_
      refine NoPanic.normal ?_
      generalize hWf : (W8.drew.setCells (w.heap.size + 1) 0 (rowF 31 (knF (kz)))).setCells (w.heap.size + 2) 0 (rowF 31 (knF (bothK i k ⟨dl, min dg (sg - 1)⟩ ⟨max sl (dl + 1), sg⟩))) = Wf
      have T3 : Tw w (w.heap.size + 1) (knF (kz)) (knF (bothK i k ⟨dl, min dg (sg - 1)⟩ ⟨max sl (dl + 1), sg⟩)) Wf := by rw [← hWf]; exact T2
      clear hWf T1 T0 T2
      have HT3 := Lib.hid T3; clear T3
      go_wp2
      exact bodyPost_ret (v := .tuple #[.agg (knL (kz)).toArray, .agg (knL (bothK i k ⟨dl, min dg (sg - 1)⟩ ⟨max sl (dl + 1), sg⟩)).toArray]) (results_cell2_range Try.results42 _ _ (w.heap.size + 1) (w.heap.size + 2) _ _ _ rfl rfl HT3.out.n.range HT3.out.j.range Try.underlying42 rfl (by rw [knL_length]; exact info_kn) (by rw [knL_length]; exact info_kn)) rfl ⟨by rw [HJN.out, HJJ.out], HT3.out.b⟩
end Go.Proofs.Ytjlddhnjbjhmkaa
namespace Go.Proofs.Ytjlddhnjbjhmkaa
open Go.RowKit

set_option maxRecDepth 100000 in
set_option maxHeartbeats 1500000 in
theorem less_rn {w : World} {x : Nat} {i : Ins8} {ctx : Nat} {k : Kn} (hI : InB w x i ctx k) (hm : i.May) (hr : k.right) (hop : i.op = 21 ∨ i.op = 22) (hset : (k.r i.dst).s = true) (hss : i.op = 22 → (k.r i.src).s = true) (hne : i.op = 22 → i.dst ≠ i.src) (h22 : i.op = 22)
    (dl dg sl sg : Nat) (hdl : (k.r i.dst).l = dl) (hdg : (k.r i.dst).g = dg) (hsl : (i.srcS k).l = sl) (hsg : (i.srcS k).g = sg) (hj : ¬ dl < sg) (hn : sl ≤ dg) :
    Calls Try.prog 42 #[.pointer (some ⟨x, 0, none⟩)] w fun e w' => e = .returned (.tuple #[.agg (knL (jltN i k ⟨dl, dg⟩ ⟨sl, sg⟩)).toArray, .agg (knL (jltJ i k ⟨dl, dg⟩ ⟨sl, sg⟩)).toArray]) ∧ Below w.heap.size w w' := by
  have hx := hI.lt
  have hdst := hm.dst
  have hd1 := (hr i.dst).1
  have hd2 := (hr i.dst).2.1
  have hs1 := (src_ok (i := i) (k := k) (by have := hm.imm; omega) hr).1
  have hs2 := (src_ok (i := i) (k := k) (by have := hm.imm; omega) hr).2
  rw [hdl, hdg] at hd1
  rw [hdg] at hd2
  rw [hsl, hsg] at hs1
  rw [hsg] at hs2
  have hsC : ∀ W, Below w.heap.size w W → Calls Try.prog 54 #[.pointer (some ⟨x, 0, none⟩)] W fun e w' => e = .returned (.agg #[.int .u64 (sl : Int), .int .u64 (sg : Int)]) ∧ Below W.heap.size W w' := fun W hb => by
    rw [← hsl, ← hsg]
    rcases hu : i.useImm with _ | _
    · rw [show i.srcS k = (k.r i.src).sp from by unfold Ins8.srcS; simp [hu]]
      exact csrc_reg (hI.below hb) hr hm hu (hss (hop.resolve_left (fun e => by simp [Ins8.useImm, e] at hu)))
    · rw [show i.srcS k = ⟨i.imm, i.imm⟩ from by unfold Ins8.srcS; simp [hu]]
      exact csrc_imm (hI.below hb) hm hu
  have hRG := fun W (hb : Below w.heap.size w W) => reg_ok (hI.below hb) hr i.dst hdst hset
  rw [hdl, hdg] at hRG
  obtain ⟨kz, hkz⟩ : ∃ z : Kn, z = kn0 := ⟨_, rfl⟩
  obtain ⟨W1, hW1⟩ : ∃ W1, W1 = ((w.alloc (.cells #[.pointer (some ⟨x, 0, none⟩)] 77)).alloc (.cells #[.bool false, .bool false, .int .u32 0, .int .u32 0, .bool false, .int .u32 0, .int .u32 0, .bool false, .int .u32 0, .int .u32 0, .bool false, .int .u32 0, .int .u32 0, .bool false, .int .u32 0, .int .u32 0, .bool false, .int .u32 0, .int .u32 0, .bool false, .int .u32 0, .int .u32 0, .bool false, .int .u32 0, .int .u32 0, .bool false, .int .u32 0, .int .u32 0, .bool false, .int .u32 0, .int .u32 0] 42)).alloc (.cells #[.bool false, .bool false, .int .u32 0, .int .u32 0, .bool false, .int .u32 0, .int .u32 0, .bool false, .int .u32 0, .int .u32 0, .bool false, .int .u32 0, .int .u32 0, .bool false, .int .u32 0, .int .u32 0, .bool false, .int .u32 0, .int .u32 0, .bool false, .int .u32 0, .int .u32 0, .bool false, .int .u32 0, .int .u32 0, .bool false, .int .u32 0, .int .u32 0, .bool false, .int .u32 0, .int .u32 0] 42) := ⟨_, rfl⟩
  have T1 : Tw w (w.heap.size + 1) (knF kz) (knF kz) W1 := by rw [hW1, hkz]; exact Tw.start1 w x
  have hc1 : W1.cell? ⟨w.heap.size, 0, none⟩ = some (.pointer (some ⟨x, 0, none⟩)) := by rw [hW1]; simp [go_sem]
  have HIN := Lib.hid (fun W (hb : Below w.heap.size w W) => hI.below hb)
  have HBO := Lib.hid (fun W (hb : Below w.heap.size w W) (hc : W.cell? ⟨w.heap.size, 0, none⟩ = some (.pointer (some ⟨x, 0, none⟩))) => both_ok (hI.below hb) hm w.heap.size hc)
  have HRG := Lib.hid hRG; have HSC := Lib.hid hsC; have HT1 := Lib.hid T1; have HC1 := Lib.hid hc1; have HI1 := Lib.hid (HIN.out W1 T1.b)
  have HJN : Hid (jltN i k ⟨dl, dg⟩ ⟨sl, sg⟩ = bothK i k ⟨max dl sl, dg⟩ ⟨sl, min sg dg⟩) := Lib.hid (by unfold jltN; rw [if_pos hn])
  have HJJ : Hid (jltJ i k ⟨dl, dg⟩ ⟨sl, sg⟩ = kz) := Lib.hid (by unfold jltJ; rw [if_neg hj]; exact hkz.symm)
  have kj : ¬ (dl : Int) < sg := by omega
  have kn : (sl : Int) ≤ dg := by omega
  have dj : decide (dl < sg) = false := by simp; omega
  have dn : decide (sl ≤ dg) = true := by simp; omega
  have q22 : ((i.op : Int) == 22) = true := by simp; omega
  have qd : ((i.dst : Int) == (i.src : Int)) = false := by have := hne h22; simp; omega
  clear h22 hop hne hj hn
  clear hRG hsC T1 hc1 hI hm hr hset hss hkz hdl hdg hsl hsg
  have HW1 := Lib.hid hW1; clear hW1
  go_enter Try.func42, Try.ntmps42
  go_upto_region 1 with fail
  rw [← HW1.out]
  go_cut [4, 5] from 7 to 15 (fun s4 s5 wx => LsPost w x dl dg sl sg kz s4 s5 wx)
  case first =>
    refine wp_region_noPanic ?_
    refine planM (.rd 0 (.rd 1 (.rd 2 (.rd 3 (.rd 4 (.rd 5 (.rd 7 (.many [(6, some 13), (8, some 15), (9, some 4), (10, some 5)] (.eff 11 (.eff 12 .done)))))))))) [0, 1, 2, 3, 4, 5, 6, 7, 8, 9, 10, 11] (fun W => Below W1.heap.size W1 W) (by kernel_rfl) (by kernel_rfl) (fun _ _ _ _ _ h => h) ((Below.refl _ _).drew) ?_
    refine pm_rd (.pointer (some ⟨x, 0, none⟩)) rfl rfl (fun W hS => ?_) (fun K hK => ?_)
    · have f0 := (Kp.of_below hS No).cell HC1.out (fun e => e)
      simp [go_sem, f0]
    go_simp
    refine hK _ ?_
    clear hK K
    refine pm_rd (.pointer (some ⟨x, 0, none⟩)) rfl rfl (fun W hS => ?_) (fun K hK => ?_)
    · have f0 := (Kp.of_below hS No).cell HC1.out (fun e => e)
      simp [go_sem, f0]
    go_simp
    refine hK _ ?_
    clear hK K
    repeat (refine pm_pure rfl (fun K hK => ?_); go_simp; refine hK _ ?_; clear hK K)
    refine pm_rd (.int .i64 (i.dst : Int)) rfl rfl (fun W hS => ?_) (fun K hK => ?_)
    · have f0 := (Kp.of_below hS No).cell HI1.out.cdst (fun e => e)
      simp [go_sem, f0]
    go_simp
    refine hK _ ?_
    clear hK K
    refine pm_rd (.pointer (some ⟨x, 0, none⟩)) rfl rfl (fun W hS => ?_) (fun K hK => ?_)
    · have f0 := (Kp.of_below hS No).cell HC1.out (fun e => e)
      simp [go_sem, f0]
    go_simp
    refine hK _ ?_
    clear hK K
    refine pm_manyJ (fun l v W => LsJ W1 dl dg sl sg l v W) (LsJ.zero _ _ _ _ _ _) ?_ ?_
    · intro c hc l v w1 hS hb hl hn hJ
      simp only [List.mem_cons, List.not_mem_nil, or_false] at hc
      rcases hc with rfl | rfl | rfl | rfl
      · have E7 : ∀ a : Act, (putM v l [(6, some 13), (8, some 15), (9, some 4), (10, some 5)] a).tmps[7]?.getD undef = a.tmps[7]?.getD undef := fun a => by simpa [Array.getD_eq_getD_getElem?] using putM_eval_other (v := v) (l := l) 7 [(6, some 13), (8, some 15), (9, some 4), (10, some 5)] a (by simp)
        have E12 : ∀ a : Act, (putM v l [(6, some 13), (8, some 15), (9, some 4), (10, some 5)] a).tmps[12]?.getD undef = a.tmps[12]?.getD undef := fun a => by simpa [Array.getD_eq_getD_getElem?] using putM_eval_other (v := v) (l := l) 12 [(6, some 13), (8, some 15), (9, some 4), (10, some 5)] a (by simp)
        refine pm_one rfl rfl (fun K' hK => ?_)
        refine wp_calls_ret (f := 39) (args := #[.pointer (some ⟨x, 0, none⟩), .int .i64 (i.dst : Int)]) ?_ (HRG.out w1 (HT1.out.b.trans (Below.mono hS HT1.out.b.size))) (fun w3 hb3 => ?_)
        · simp [execOp, go_sem]
          exact ⟨(E7 _).trans rfl, (E12 _).trans rfl⟩
        exact hK _ _ ⟨_, rfl, Below.trans hS (hb3.mono hS.size), hb3, hJ.ups6 hb3⟩
      · have E14 : ∀ a : Act, (putM v l [(6, some 13), (8, some 15), (9, some 4), (10, some 5)] a).tmps[14]?.getD undef = a.tmps[14]?.getD undef := fun a => by simpa [Array.getD_eq_getD_getElem?] using putM_eval_other (v := v) (l := l) 14 [(6, some 13), (8, some 15), (9, some 4), (10, some 5)] a (by simp)
        refine pm_one rfl rfl (fun K' hK => ?_)
        refine wp_calls_ret (f := 54) (args := #[.pointer (some ⟨x, 0, none⟩)]) ?_ (HSC.out w1 (HT1.out.b.trans (Below.mono hS HT1.out.b.size))) (fun w3 hb3 => ?_)
        · simp [execOp, go_sem]
          exact (E14 _).trans rfl
        exact hK _ _ ⟨_, rfl, Below.trans hS (hb3.mono hS.size), hb3, hJ.ups8 hb3⟩
      · refine pm_one rfl rfl (fun K' hK => ?_)
        refine wp_value (w' := w1.alloc (.cells #[.int .u64 0, .int .u64 0] 93)) (.pointer (some ⟨w1.heap.size, 0, none⟩)) (by kernel_rfl) ?_
        have hb3 : Below w1.heap.size w1 (w1.alloc (.cells #[.int .u64 0, .int .u64 0] 93)) := (Below.refl _ _).alloc (Nat.le_refl _) _
        exact hK _ _ ⟨_, rfl, Below.trans hS (hb3.mono hS.size), hb3, hJ.ups9 hS.size⟩
      · refine pm_one rfl rfl (fun K' hK => ?_)
        refine wp_value (w' := w1.alloc (.cells #[.int .u64 0, .int .u64 0] 93)) (.pointer (some ⟨w1.heap.size, 0, none⟩)) (by kernel_rfl) ?_
        have hb3 : Below w1.heap.size w1 (w1.alloc (.cells #[.int .u64 0, .int .u64 0] 93)) := (Below.refl _ _).alloc (Nat.le_refl _) _
        exact hK _ _ ⟨_, rfl, Below.trans hS (hb3.mono hS.size), hb3, hJ.ups10 hS.size⟩
    · intro l v w2 hS hb hl hJ
      have v6 := hJ.a (hl (6, some 13) (by simp))
      have v8 := hJ.b (hl (8, some 15) (by simp))
      obtain ⟨b4, v9, hb4, hB4⟩ := hJ.c (hl (9, some 4) (by simp))
      obtain ⟨b5, v10, hb5, hB5⟩ := hJ.d (hl (10, some 5) (by simp))
      have hne := hJ.e (hl (9, some 4) (by simp)) (hl (10, some 5) (by simp))
      have hne2 : b4 ≠ b5 := fun e => hne (by rw [v9, v10, e])
      simp only [putM, if_true, v6, v8, v9, v10]
      clear hJ v6 v8 v9 v10 hne hl
      have hT := HT1.out.more hS
      have hz1 := HT1.out.z
      have hc2 := (Kp.of_below (show Below W1.heap.size W1 w2 from hS) No).cell HC1.out (fun e => e)
      have hkA : Kp (fun b => b = b4) w2 (w2.setCells b4 0 [.int .u64 (dl : Int), .int .u64 (dg : Int)]) := Kp.setCells (M := fun b => b = b4) (.inl rfl) _ _ _ (Kp.refl _ _)
      have hkB : Kp (fun b => b = b5) (w2.setCells b4 0 [.int .u64 (dl : Int), .int .u64 (dg : Int)]) ((w2.setCells b4 0 [.int .u64 (dl : Int), .int .u64 (dg : Int)]).setCells b5 0 [.int .u64 (sl : Int), .int .u64 (sg : Int)]) := Kp.setCells (M := fun b => b = b5) (.inl rfl) _ _ _ (Kp.refl _ _)
      have hB5A := hB5.keep hkA (fun e => hne2 e.symm)
      have hL : LsW w x b4 b5 dl dg sl sg (knF kz) (knF kz) ((w2.setCells b4 0 [.int .u64 (dl : Int), .int .u64 (dg : Int)]).setCells b5 0 [.int .u64 (sl : Int), .int .u64 (sg : Int)]) :=
        ⟨⟨(Kp.setCells (w := w) (b := b5) (.inr (by omega)) _ _ _ (Kp.setCells (w := w) (b := b4) (.inr (by omega)) _ _ _ (Kp.of_below hT.b No))).below, hT.lo, by have := hkA.size; have := hkB.size; have := hT.z; omega, (hT.n.keep hkA (by omega)).keep hkB (by omega), (hT.j.keep hkA (by omega)).keep hkB (by omega)⟩,
         hkB.cell (hkA.cell hc2 (by show ¬ w.heap.size = b4; omega)) (by show ¬ w.heap.size = b5; omega), (hB4.fill (spF dl dg)).keep hkB hne2, hB5A.fill (spF sl sg), by omega, by omega⟩
      refine pm_store rfl rfl rfl 93 (.tmp 4) (.tmp 13) rfl b4 0 #[.int .u64 (dl : Int), .int .u64 (dg : Int)] rfl rfl (there_blk hB4) (by kernel_rfl) (by simp [Value.oneCell']) (fun _ => (Kp.setCells (w := W1) (b := b4) (.inr hb4) _ _ _ (Kp.of_below hS No)).below) ?_
      refine pm_store rfl rfl rfl 93 (.tmp 5) (.tmp 15) rfl b5 0 #[.int .u64 (sl : Int), .int .u64 (sg : Int)] rfl rfl (there_blk hB5A) (by kernel_rfl) (by simp [Value.oneCell']) (fun h => by cases h) ?_
      refine pm_done ?_
      refine NoPanic.normal ?_
      have HL := Lib.hid hL; clear hL
      go_wp2_with fail
      go_meet
      exact ⟨b4, b5, rfl, rfl, HL.out⟩
  case rest =>
    obtain ⟨b4, b5, rfl, rfl, hL5⟩ := hcut
    generalize wc = W5 at *
    have HL5 := Lib.hid hL5; clear hL5
    have HI5 := Lib.hid (HIN.out W5 HL5.out.t.b)
    go_upto_region 2 with fail
    go_cut [34] from 16 to 34 (fun s34 wx => s34 = .bool false ∧ wx = W5.drew)
    case first =>
      refine wp_region_noPanic ?_
      refine planM (.rd 0 (.rd 1 (.rd 2 (.rd 3 (.rd 4 (.rd 5 (.rd 6 (.rd 7 (.rd 8 (.rd 9 (.rd 10 (.rd 11 (.rd 12 (.rd 13 (.rd 14 (.rd 15 (.rd 16 (.rd 17 (.rd 18 .done))))))))))))))))))) [0, 1, 2, 3, 4, 5, 6, 7, 8, 9, 10, 11, 12, 13, 14, 15, 16, 17, 18] (fun W => Below W5.heap.size W5 W) (by kernel_rfl) (by kernel_rfl) (fun _ _ _ _ _ h => h) ((Below.refl _ _).drew) ?_
      refine pm_rd (.pointer (some ⟨x, 0, none⟩)) rfl rfl (fun W hS => ?_) (fun K hK => ?_)
      · have f0 := (Kp.of_below hS No).cell HL5.out.c (fun e => e)
        simp [go_sem, f0]
      go_simp
      refine hK _ ?_
      clear hK K
      repeat (refine pm_pure rfl (fun K hK => ?_); go_simp; refine hK _ ?_; clear hK K)
      refine pm_rd (.int .i64 (i.op : Int)) rfl rfl (fun W hS => ?_) (fun K hK => ?_)
      · have f0 := (Kp.of_below hS No).cell HI5.out.cop (fun e => e)
        simp [go_sem, f0]
      go_simp
      refine hK _ ?_
      clear hK K
      repeat (refine pm_pure rfl (fun K hK => ?_); go_simp; refine hK _ ?_; clear hK K)
      refine pm_rd (.pointer (some ⟨x, 0, none⟩)) rfl rfl (fun W hS => ?_) (fun K hK => ?_)
      · have f0 := (Kp.of_below hS No).cell HL5.out.c (fun e => e)
        simp [go_sem, f0]
      go_simp
      refine hK _ ?_
      clear hK K
      repeat (refine pm_pure rfl (fun K hK => ?_); go_simp; refine hK _ ?_; clear hK K)
      refine pm_rd (.int .i64 (i.dst : Int)) rfl rfl (fun W hS => ?_) (fun K hK => ?_)
      · have f0 := (Kp.of_below hS No).cell HI5.out.cdst (fun e => e)
        simp [go_sem, f0]
      go_simp
      refine hK _ ?_
      clear hK K
      refine pm_rd (.pointer (some ⟨x, 0, none⟩)) rfl rfl (fun W hS => ?_) (fun K hK => ?_)
      · have f0 := (Kp.of_below hS No).cell HL5.out.c (fun e => e)
        simp [go_sem, f0]
      go_simp
      refine hK _ ?_
      clear hK K
      repeat (refine pm_pure rfl (fun K hK => ?_); go_simp; refine hK _ ?_; clear hK K)
      refine pm_rd (.int .i64 (i.src : Int)) rfl rfl (fun W hS => ?_) (fun K hK => ?_)
      · have f0 := (Kp.of_below hS No).cell HI5.out.csrc (fun e => e)
        simp [go_sem, f0]
      go_simp
      refine hK _ ?_
      clear hK K
      repeat (refine pm_pure rfl (fun K hK => ?_); go_simp; refine hK _ ?_; clear hK K)
      refine pm_done ?_
      refine NoPanic.normal ?_
      go_wp2_with fail
      go_meet
      exact ⟨rfl, rfl⟩
    case rest =>
      obtain ⟨rfl, rfl⟩ := hcut
      have HL6 := Lib.hid (HL5.out.more ((Below.refl _ _).drew))
      generalize W5.drew = W6 at HL6 ⊢
      have e0 : W6.cell? ⟨b4, 0, none⟩ = some (.int .u64 (dl : Int)) := HL6.out.d.cell 0 (by omega)
      have e1 : W6.cell? ⟨b4, 1, none⟩ = some (.int .u64 (dg : Int)) := HL6.out.d.cell 1 (by omega)
      have e2 : W6.cell? ⟨b5, 0, none⟩ = some (.int .u64 (sl : Int)) := HL6.out.s.cell 0 (by omega)
      have e3 : W6.cell? ⟨b5, 1, none⟩ = some (.int .u64 (sg : Int)) := HL6.out.s.cell 1 (by omega)
      go_upto_region 9 with (first | (go_at_call 55; (with_reducible refine (HBO.out _ HL6.out.t.b HL6.out.c _ _ _ _ (max dl sl) (dg) (sl) (min sg dg) (by first | rfl | omega | (simp; omega) | (rw [IntKind.wrap_u64]; omega)) (by first | rfl | omega | (simp; omega) | (rw [IntKind.wrap_u64]; omega)) (by first | rfl | omega | (simp; omega) | (rw [IntKind.wrap_u64]; omega)) (by first | rfl | omega | (simp; omega) | (rw [IntKind.wrap_u64]; omega)) (by omega) (by omega) (by omega) (by omega)).mono ?_); rintro e w9 ⟨rfl, hb6⟩; have HL9 := Lib.hid (HL6.out.more hb6); clear hb6) | (refine wpList_store_mid rfl 42 (.tmp 2) (.tmp 88) rfl (w.heap.size + 1) 0 (knL (bothK i k ⟨max dl sl, dg⟩ ⟨sl, min sg dg⟩)).toArray rfl rfl (by rw [knA_size]; exact there_blk HL9.out.t.n) (by rw [knA_size]; exact info_kn) (knL_one _) ?_))
      have T10 := HL9.out.setn (knF (bothK i k ⟨max dl sl, dg⟩ ⟨sl, min sg dg⟩))
      change LsW _ _ _ _ _ _ _ _ _ _ (w9.setCells (w.heap.size + 1) 0 (knL (bothK i k ⟨max dl sl, dg⟩ ⟨sl, min sg dg⟩))) at T10
      generalize hWX : w9.setCells (w.heap.size + 1) 0 (knL (bothK i k ⟨max dl sl, dg⟩ ⟨sl, min sg dg⟩)) = WX at T10 ⊢
      clear hWX e0 e1 e2 e3
      have HLX := Lib.hid T10; clear T10
      refine wp_region_noPanic ?_
      refine planM (.rd 1 (.eff 0 (.eff 2 (.eff 3 .done)))) [0, 1, 2] (fun W => Kp (fun b => b = w.heap.size + 1) WX W) (by kernel_rfl) (by kernel_rfl) (fun _ _ _ _ _ h => h) ((Kp.refl _ _).drew) ?_
      refine pm_rdv 90 (.agg (knL (kz)).toArray) rfl rfl rfl (fun W hS => exec_load_mid 42 (.tmp 3) rfl (w.heap.size + 2) (0) rfl (knL (kz)) _ (rg_kept HLX.out.t.j.range hS (by omega)) Try.underlying42 rfl (by rw [knL_length]; exact info_kn)) ?_
      refine pm_efv 89 (.agg (knL (bothK i k ⟨max dl sl, dg⟩ ⟨sl, min sg dg⟩)).toArray) rfl rfl rfl (exec_load_mid 42 (.tmp 2) rfl (w.heap.size + 1) (0) rfl (knL (bothK i k ⟨max dl sl, dg⟩ ⟨sl, min sg dg⟩)) _ (HLX.out.t.more ((Below.refl _ _).drew)).n.range Try.underlying42 rfl (by rw [knL_length]; exact info_kn)) (fun _ => (Kp.refl _ _).drew) ?_
      have T0 := HLX.out.t.more ((Below.refl _ _).drew)
      have T1 := T0.setn (knF (bothK i k ⟨max dl sl, dg⟩ ⟨sl, min sg dg⟩))
      have T2 := T1.setj (knF (kz))
      refine pm_store rfl rfl rfl 42 (.tmp 2) (.tmp 89) rfl (w.heap.size + 1) 0 (knL (bothK i k ⟨max dl sl, dg⟩ ⟨sl, min sg dg⟩)).toArray rfl rfl (by rw [knA_size]; exact there_blk T0.n) (by rw [knA_size]; exact info_kn) (knL_one _) (fun _ => Kp.setCells (M := fun b => b = w.heap.size + 1) (.inl rfl) _ _ _ ((Kp.refl _ _).drew)) ?_
      rw [knL_tl]
      refine pm_store rfl rfl rfl 42 (.tmp 3) (.tmp 90) rfl (w.heap.size + 2) 0 (knL (kz)).toArray rfl rfl (by rw [knA_size]; exact there_blk T1.j) (by rw [knA_size]; exact info_kn) (knL_one _) (fun h => by cases h) ?_
      rw [knL_tl]
      refine pm_done ?_
      refine NoPanic.normal ?_
      generalize hWf : (WX.drew.setCells (w.heap.size + 1) 0 (rowF 31 (knF (bothK i k ⟨max dl sl, dg⟩ ⟨sl, min sg dg⟩)))).setCells (w.heap.size + 2) 0 (rowF 31 (knF (kz))) = Wf
      have T3 : Tw w (w.heap.size + 1) (knF (bothK i k ⟨max dl sl, dg⟩ ⟨sl, min sg dg⟩)) (knF (kz)) Wf := by rw [← hWf]; exact T2
      clear hWf T1 T0 T2
      have HT3 := Lib.hid T3; clear T3
      go_wp2
      exact bodyPost_ret (v := .tuple #[.agg (knL (bothK i k ⟨max dl sl, dg⟩ ⟨sl, min sg dg⟩)).toArray, .agg (knL (kz)).toArray]) (results_cell2_range Try.results42 _ _ (w.heap.size + 1) (w.heap.size + 2) _ _ _ rfl rfl HT3.out.n.range HT3.out.j.range Try.underlying42 rfl (by rw [knL_length]; exact info_kn) (by rw [knL_length]; exact info_kn)) rfl ⟨by rw [HJN.out, HJJ.out], HT3.out.b⟩
end Go.Proofs.Ytjlddhnjbjhmkaa
