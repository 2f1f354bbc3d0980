/- Layer 6: equal. -/
import Derived.Test.YtjlddhnjbjhmkaaGc
set_option linter.unusedVariables false
set_option linter.unusedSimpArgs false
namespace Go.Proofs.Ytjlddhnjbjhmkaa
open Go.RowKit

set_option maxRecDepth 100000 in
set_option maxHeartbeats 4000000 in
theorem equal_out {w : World} {x : Nat} {i : Ins8} {ctx : Nat} {k : Kn} (hI : InB w x i ctx k) (hm : i.May) (hr : k.right) (hset : (k.r i.dst).s = true) (dl dg : Nat) (hdl : (k.r i.dst).l = dl) (hdg : (k.r i.dst).g = dg) (hn : i.imm < dl ∨ dg < i.imm) :
    Calls Try.prog 41 #[.pointer (some ⟨x, 0, none⟩)] w fun e w' => e = .returned (.tuple #[.agg (knL (jeqN i k)).toArray, .agg (knL (jeqJ i k)).toArray]) ∧ Below w.heap.size w w' := by
  have hx := hI.lt
  have hdst := hm.dst
  have himm : (i.imm : Int) < 4294967296 := by have := hm.imm; omega
  have hgok := (hr i.dst).2.1
  have hlg := (hr i.dst).1
  rw [hdg] at hgok hlg
  rw [hdl] at hlg
  obtain ⟨W1, hW1⟩ : ∃ W1, W1 = (w.alloc (.cells #[.bool false, .bool false, .int .u32 0, .int .u32 0, .bool false, .int .u32 0, .int .u32 0, .bool false, .int .u32 0, .int .u32 0, .bool false, .int .u32 0, .int .u32 0, .bool false, .int .u32 0, .int .u32 0, .bool false, .int .u32 0, .int .u32 0, .bool false, .int .u32 0, .int .u32 0, .bool false, .int .u32 0, .int .u32 0, .bool false, .int .u32 0, .int .u32 0, .bool false, .int .u32 0, .int .u32 0] 42)).alloc (.cells #[.bool false, .bool false, .int .u32 0, .int .u32 0, .bool false, .int .u32 0, .int .u32 0, .bool false, .int .u32 0, .int .u32 0, .bool false, .int .u32 0, .int .u32 0, .bool false, .int .u32 0, .int .u32 0, .bool false, .int .u32 0, .int .u32 0, .bool false, .int .u32 0, .int .u32 0, .bool false, .int .u32 0, .int .u32 0, .bool false, .int .u32 0, .int .u32 0, .bool false, .int .u32 0, .int .u32 0] 42) := ⟨_, rfl⟩
  obtain ⟨kz, hkz⟩ : ∃ z : Kn, z = kn0 := ⟨_, rfl⟩
  have T1 : Tw w w.heap.size (knF kz) (knF kz) W1 := by rw [hW1, hkz]; exact Tw.start w
  have hRG := fun W (hb : Below w.heap.size w W) => reg_ok (hI.below hb) hr i.dst hdst hset
  rw [hdl, hdg] at hRG
  have HIN := Lib.hid (fun W (hb : Below w.heap.size w W) => hI.below hb)
  have HRG := Lib.hid hRG; have HT1 := Lib.hid T1; clear hRG T1 hI hm hr hset
  have HI1 := Lib.hid (HIN.out W1 HT1.out.b)
  have HW1 := Lib.hid hW1; clear hW1
  have HJN : Hid (jeqN i k = (k.put i.dst ⟨dl, dg⟩)) := Lib.hid (by unfold jeqN Rg.sp; rw [hdl, hdg]; rw [if_neg (by omega), if_neg (by omega), if_neg (by omega)])
  have HJJ : Hid (jeqJ i k = kz) := Lib.hid (by unfold jeqJ; rw [hdl, hdg]; rw [if_neg (by omega)]; exact hkz.symm)
  have HPJ := Lib.hid (fun W => cput_ok W k i.dst i.imm i.imm hdst (by omega) (by omega))
  have hq : ∀ W : World, (binOp .eql 93 (.agg #[.int .u64 (dl : Int), .int .u64 (dg : Int)]) (.agg #[.int .u64 (i.imm : Int), .int .u64 (i.imm : Int)])).run Try.prog W = .ok (.bool false) W := fun W => by rw [sp_eql]; simp; omega
  have q1 : ((i.imm : Int) == dl) = false := by simp; omega
  have q2 : ((i.imm : Int) == dg) = false := by simp; omega
  clear hdl hdg hkz
  have HPN := Lib.hid (fun W => cput_ok W k i.dst dl dg hdst (by omega) (by omega))
  rcases hn with hn | hn
  · have q3 : ¬ (dl : Int) ≤ i.imm := by omega
    clear hn
    go_enter Try.func41, Try.ntmps41
    go_upto_region 1 with fail
    rw [← HW1.out]
    go_cut [4, 5] from 6 to 18 (fun s4 s5 wx => EqPost w kz dl dg i.imm s4 s5 wx)
    case first =>
      have hwi : IntKind.u64.wrap (i.imm : Int) = (i.imm : Int) := by rw [IntKind.wrap_u64]; omega
      refine wp_region_noPanic ?_
      refine planM (.rd 0 (.rd 1 (.rd 2 (.rd 3 (.rd 4 (.rd 5 (.rd 7 (.rd 8 (.rd 9 (.rd 10 (.rd 11 (.rd 12 (.many [(6, some 12), (13, some 4)] (.eff 14 (.eff 15 .done))))))))))))))) [0, 1, 2, 3, 4, 5, 6, 7, 8, 9, 10, 11, 12, 13, 14] (fun W => Below W1.heap.size W1 W) (by kernel_rfl) (by kernel_rfl) (fun _ _ _ _ _ h => h) ((Below.refl _ _).drew) ?_
      repeat (refine pm_pure rfl (fun K hK => ?_); go_simp; refine hK _ ?_; clear hK K)
      refine pm_rd (.int .i64 (i.dst : Int)) rfl rfl (fun W hS => ?_) (fun K hK => ?_)
      · have f0 := (Kp.of_below hS No).cell HI1.out.cdst (fun e => e)
        simp [go_sem, f0]
      go_simp
      refine hK _ ?_
      clear hK K
      repeat (refine pm_pure rfl (fun K hK => ?_); go_simp; refine hK _ ?_; clear hK K)
      refine pm_rd (.int .u32 (i.imm : Int)) rfl rfl (fun W hS => ?_) (fun K hK => ?_)
      · have f0 := (Kp.of_below hS No).cell HI1.out.cimm (fun e => e)
        simp [go_sem, f0]
      go_simp
      refine hK _ ?_
      clear hK K
      repeat (refine pm_pure rfl (fun K hK => ?_); go_simp; refine hK _ ?_; clear hK K)
      refine pm_many (fun j v W => if j = 6 then v = .agg #[.int .u64 (dl : Int), .int .u64 (dg : Int)] else ∃ b, v = .pointer (some ⟨b, 0, none⟩) ∧ W1.heap.size ≤ b ∧ Blk W b 93 2 (spF 0 0)) ?_ ?_ ?_
      · intro j v w1 w2 h hb
        by_cases h4 : j = 6
        · simp only [if_pos h4] at h ⊢; exact h
        · simp only [if_neg h4] at h ⊢
          obtain ⟨b, h1, h2, h3⟩ := h
          exact ⟨b, h1, h2, h3.below hb⟩
      · intro c hc l v w1 hS hb hl hn hV
        simp only [List.mem_cons, List.not_mem_nil, or_false] at hc
        rcases hc with rfl | rfl
        · have E6 : ∀ a : Act, (putM v l [(6, some 12), (13, some 4)] a).tmps[6]?.getD undef = a.tmps[6]?.getD undef := fun a => by simpa [Array.getD_eq_getD_getElem?] using putM_eval_other (v := v) (l := l) 6 [(6, some 12), (13, some 4)] a (by simp)
          have E11 : ∀ a : Act, (putM v l [(6, some 12), (13, some 4)] a).tmps[11]?.getD undef = a.tmps[11]?.getD undef := fun a => by simpa [Array.getD_eq_getD_getElem?] using putM_eval_other (v := v) (l := l) 11 [(6, some 12), (13, some 4)] a (by simp)
          refine pm_one rfl rfl (fun K' hK => ?_)
          refine wp_calls_ret (f := 39) (args := #[.pointer (some ⟨x, 0, none⟩), .int .i64 (i.dst : Int)]) ?_ (HRG.out w1 (HT1.out.b.trans (Below.mono hS HT1.out.b.size))) (fun w3 hb3 => ?_)
          · simp [execOp, go_sem]
            exact ⟨(E6 _).trans rfl, (E11 _).trans rfl⟩
          exact hK _ _ ⟨_, rfl, Below.trans hS (hb3.mono hS.size), hb3, rfl⟩
        · refine pm_one rfl rfl (fun K' hK => ?_)
          refine wp_value (w' := w1.alloc (.cells #[.int .u64 0, .int .u64 0] 93)) (.pointer (some ⟨w1.heap.size, 0, none⟩)) (by kernel_rfl) ?_
          have hb3 : Below w1.heap.size w1 (w1.alloc (.cells #[.int .u64 0, .int .u64 0] 93)) := (Below.refl _ _).alloc (Nat.le_refl _) _
          exact hK _ _ ⟨_, rfl, Below.trans hS (hb3.mono hS.size), hb3, w1.heap.size, rfl, hS.size, spB w1 0 0⟩
      · intro v w2 hS hb hV
        have v6 : v 6 = .agg #[.int .u64 (dl : Int), .int .u64 (dg : Int)] := hV (6, some 12) (by simp)
        obtain ⟨b4, v13, hb4, hB4⟩ : ∃ b, v 13 = .pointer (some ⟨b, 0, none⟩) ∧ W1.heap.size ≤ b ∧ Blk w2 b 93 2 (spF 0 0) := hV (13, some 4) (by simp)
        simp only [putM, if_true, v6, v13]
        clear hV v6 v13
        have hT := HT1.out.more hS
        refine pm_eff rfl rfl (fun K hK => ?_)
        refine wp_store_mid 93 (.tmp 4) (.tmp 12) rfl b4 0 #[.int .u64 (dl : Int), .int .u64 (dg : Int)] rfl rfl (there_blk hB4) (by kernel_rfl) (by simp [Value.oneCell']) ?_
        have hkb : Kp (fun b => b = b4) w2 (w2.setCells b4 0 [.int .u64 (dl : Int), .int .u64 (dg : Int)]) := Kp.setCells (M := fun b => b = b4) (.inl rfl) _ _ _ (Kp.refl _ _)
        have hz1 := HT1.out.z
        have hT2 : Tw w w.heap.size (knF kz) (knF kz) (w2.setCells b4 0 [.int .u64 (dl : Int), .int .u64 (dg : Int)]) := ⟨(Kp.setCells (w := w) (b := b4) (.inr (by omega)) _ _ _ (Kp.of_below hT.b No)).below, Nat.le_refl _, by have := hkb.size; have := hT.z; omega, hT.n.keep hkb (by omega), hT.j.keep hkb (by omega)⟩
        have hD2 : Blk (w2.setCells b4 0 [.int .u64 (dl : Int), .int .u64 (dg : Int)]) b4 93 2 (spF dl dg) := hB4.fill (spF dl dg)
        have hlo : w.heap.size + 2 ≤ b4 := by omega
        have hS5 : Below W1.heap.size W1 (w2.setCells b4 0 [.int .u64 (dl : Int), .int .u64 (dg : Int)]) := (Kp.setCells (w := W1) (b := b4) (.inr hb4) _ _ _ (Kp.of_below hS No)).below
        refine hK _ _ (fun _ => hS5) ?_
        clear hS5
        clear hK K
        show wpPlanM _ _ _ _ _ _ _ _ (w2.setCells b4 0 [.int .u64 (dl : Int), .int .u64 (dg : Int)])
        generalize hW5 : w2.setCells b4 0 [.int .u64 (dl : Int), .int .u64 (dg : Int)] = W5 at hT2 hD2 ⊢
        clear hW5 hkb hT hS hb hB4 hb4 hz1
        have HT5 := Lib.hid hT2; have HD5 := Lib.hid hD2; clear hT2 hD2
        refine pm_eff rfl rfl (fun K hK => ?_)
        go_simp
        refine hK _ _ (fun h => by cases h) ?_
        clear hK K
        refine pm_done ?_
        refine NoPanic.normal ?_
        go_wp2_with fail
        go_meet
        exact ⟨b4, rfl, rfl, HT5.out, HD5.out, hlo⟩
    case rest =>
      obtain ⟨b4, rfl, rfl, hT5, hD5, hlo⟩ := hcut
      generalize wc = W5 at *
      have HT5 := Lib.hid hT5; have HD5 := Lib.hid hD5; clear hT5 hD5
      have e0 : W5.cell? ⟨b4, 0, none⟩ = some (.int .u64 (dl : Int)) := HD5.out.cell 0 (by omega)
      have e1 : W5.cell? ⟨b4, 1, none⟩ = some (.int .u64 (dg : Int)) := HD5.out.cell 1 (by omega)
      have f0 := HD5.out.frozen 0
      have f1 := HD5.out.frozen 1
      go_upto_region 11 with fail
      have HI9 := Lib.hid (HIN.out W5 HT5.out.b)
      refine wp_region_noPanic ?_
      refine planM (.rd 0 (.rd 1 (.rd 2 (.rd 3 (.rd 4 (.rd 5 (.rd 6 (.rd 7 (.rd 8 (.rd 9 (.rd 11 (.eff 10 (.eff 12 (.eff 13 .done)))))))))))))) [0, 1, 2, 3, 4, 5, 6, 7, 8, 9, 10, 11, 12] (fun W => Kp (fun b => b = w.heap.size) W5 W) (by kernel_rfl) (by kernel_rfl) (fun _ _ _ _ _ h => h) ((Kp.refl _ _).drew) ?_
      repeat (refine pm_pure rfl (fun K hK => ?_); go_simp; refine hK _ ?_; clear hK K)
      refine pm_rdv 69 (.agg (knL k).toArray) rfl rfl rfl (fun W hS => exec_load_mid 42 (.tmp 68) rfl (x) (6) rfl (knL k) _ (rg_kept HI9.out.known hS (by omega)) Try.underlying42 rfl (by rw [knL_length]; exact info_kn)) ?_
      repeat (refine pm_pure rfl (fun K hK => ?_); go_simp; refine hK _ ?_; clear hK K)
      refine pm_rd (.int .i64 (i.dst : Int)) rfl rfl (fun W hS => ?_) (fun K hK => ?_)
      · have f0 := Kp.cell hS HI9.out.cdst (by show ¬ x = _; omega)
        simp [go_sem, f0]
      go_simp
      refine hK _ ?_
      clear hK K
      repeat (refine pm_pure rfl (fun K hK => ?_); go_simp; refine hK _ ?_; clear hK K)
      refine pm_rdv 75 (.agg #[.int .u64 (dl : Int), .int .u64 (dg : Int)]) rfl rfl rfl (fun W hS => exec_load_mid 93 (.tmp 4) rfl (b4) (0) rfl [.int .u64 (dl : Int), .int .u64 (dg : Int)] _ (rg_kept (spB_range HD5.out) hS (by omega)) Try.underlying93 rfl (by kernel_rfl)) ?_
      refine pm_rdv 77 (.agg (knL (kz)).toArray) rfl rfl rfl (fun W hS => exec_load_mid 42 (.tmp 3) rfl (w.heap.size + 1) (0) rfl (knL (kz)) _ (rg_kept HT5.out.j.range hS (by omega)) Try.underlying42 rfl (by rw [knL_length]; exact info_kn)) ?_
      refine pm_eff rfl rfl (fun K hK => ?_)
      go_simp
      (with_reducible refine (HPN.out _).mono ?_)
      rintro e w8 ⟨rfl, hb8⟩
      have HB8 : Hid (Below W5.heap.size W5 w8) := Lib.hid (((Below.refl _ _).drew).trans hb8); clear hb8
      have HT8 := Lib.hid (HT5.out.more HB8.out)
      refine hK _ _ (fun _ => Kp.of_below HB8.out _) ?_
      clear hK K
      have T1 := HT8.out.setn (knF (k.put i.dst ⟨dl, dg⟩))
      have T2 := T1.setj (knF kz)
      refine pm_store rfl rfl rfl 42 (.tmp 2) (.tmp 76) rfl (w.heap.size) 0 (knL ((k.put i.dst ⟨dl, dg⟩))).toArray rfl rfl (by rw [knA_size]; exact there_blk HT8.out.n) (by rw [knA_size]; exact info_kn) (knL_one _) (fun _ => Kp.setCells (M := fun b => b = w.heap.size) (.inl rfl) _ _ _ (Kp.of_below HB8.out _)) ?_
      rw [knL_tl]
      refine pm_store rfl rfl rfl 42 (.tmp 3) (.tmp 77) rfl (w.heap.size + 1) 0 (knL (kz)).toArray rfl rfl (by rw [knA_size]; exact there_blk T1.j) (by rw [knA_size]; exact info_kn) (knL_one _) (fun h => by cases h) ?_
      rw [knL_tl]
      refine pm_done ?_
      refine NoPanic.normal ?_
      generalize hWf : (w8.setCells w.heap.size 0 (rowF 31 (knF (k.put i.dst ⟨dl, dg⟩)))).setCells (w.heap.size + 1) 0 (rowF 31 (knF kz)) = Wf at T2 ⊢
      clear hWf T1
      have HT3 := Lib.hid T2; clear T2
      go_wp2
      exact bodyPost_ret (v := .tuple #[.agg (knL (k.put i.dst ⟨dl, dg⟩)).toArray, .agg (knL kz).toArray]) (results_cell2_range Try.results41 _ _ w.heap.size (w.heap.size + 1) _ _ _ rfl rfl HT3.out.n.range HT3.out.j.range Try.underlying42 rfl (by rw [knL_length]; exact info_kn) (by rw [knL_length]; exact info_kn)) rfl ⟨by rw [HJN.out, HJJ.out], HT3.out.b⟩
  · have q3 : (dl : Int) ≤ i.imm := by omega
    have q4 : ¬ (i.imm : Int) ≤ dg := by omega
    clear hn
    go_enter Try.func41, Try.ntmps41
    go_upto_region 1 with fail
    rw [← HW1.out]
    go_cut [4, 5] from 6 to 18 (fun s4 s5 wx => EqPost w kz dl dg i.imm s4 s5 wx)
    case first =>
      have hwi : IntKind.u64.wrap (i.imm : Int) = (i.imm : Int) := by rw [IntKind.wrap_u64]; omega
      refine wp_region_noPanic ?_
      refine planM (.rd 0 (.rd 1 (.rd 2 (.rd 3 (.rd 4 (.rd 5 (.rd 7 (.rd 8 (.rd 9 (.rd 10 (.rd 11 (.rd 12 (.many [(6, some 12), (13, some 4)] (.eff 14 (.eff 15 .done))))))))))))))) [0, 1, 2, 3, 4, 5, 6, 7, 8, 9, 10, 11, 12, 13, 14] (fun W => Below W1.heap.size W1 W) (by kernel_rfl) (by kernel_rfl) (fun _ _ _ _ _ h => h) ((Below.refl _ _).drew) ?_
      repeat (refine pm_pure rfl (fun K hK => ?_); go_simp; refine hK _ ?_; clear hK K)
      refine pm_rd (.int .i64 (i.dst : Int)) rfl rfl (fun W hS => ?_) (fun K hK => ?_)
      · have f0 := (Kp.of_below hS No).cell HI1.out.cdst (fun e => e)
        simp [go_sem, f0]
      go_simp
      refine hK _ ?_
      clear hK K
      repeat (refine pm_pure rfl (fun K hK => ?_); go_simp; refine hK _ ?_; clear hK K)
      refine pm_rd (.int .u32 (i.imm : Int)) rfl rfl (fun W hS => ?_) (fun K hK => ?_)
      · have f0 := (Kp.of_below hS No).cell HI1.out.cimm (fun e => e)
        simp [go_sem, f0]
      go_simp
      refine hK _ ?_
      clear hK K
      repeat (refine pm_pure rfl (fun K hK => ?_); go_simp; refine hK _ ?_; clear hK K)
      refine pm_many (fun j v W => if j = 6 then v = .agg #[.int .u64 (dl : Int), .int .u64 (dg : Int)] else ∃ b, v = .pointer (some ⟨b, 0, none⟩) ∧ W1.heap.size ≤ b ∧ Blk W b 93 2 (spF 0 0)) ?_ ?_ ?_
      · intro j v w1 w2 h hb
        by_cases h4 : j = 6
        · simp only [if_pos h4] at h ⊢; exact h
        · simp only [if_neg h4] at h ⊢
          obtain ⟨b, h1, h2, h3⟩ := h
          exact ⟨b, h1, h2, h3.below hb⟩
      · intro c hc l v w1 hS hb hl hn hV
        simp only [List.mem_cons, List.not_mem_nil, or_false] at hc
        rcases hc with rfl | rfl
        · have E6 : ∀ a : Act, (putM v l [(6, some 12), (13, some 4)] a).tmps[6]?.getD undef = a.tmps[6]?.getD undef := fun a => by simpa [Array.getD_eq_getD_getElem?] using putM_eval_other (v := v) (l := l) 6 [(6, some 12), (13, some 4)] a (by simp)
          have E11 : ∀ a : Act, (putM v l [(6, some 12), (13, some 4)] a).tmps[11]?.getD undef = a.tmps[11]?.getD undef := fun a => by simpa [Array.getD_eq_getD_getElem?] using putM_eval_other (v := v) (l := l) 11 [(6, some 12), (13, some 4)] a (by simp)
          refine pm_one rfl rfl (fun K' hK => ?_)
          refine wp_calls_ret (f := 39) (args := #[.pointer (some ⟨x, 0, none⟩), .int .i64 (i.dst : Int)]) ?_ (HRG.out w1 (HT1.out.b.trans (Below.mono hS HT1.out.b.size))) (fun w3 hb3 => ?_)
          · simp [execOp, go_sem]
            exact ⟨(E6 _).trans rfl, (E11 _).trans rfl⟩
          exact hK _ _ ⟨_, rfl, Below.trans hS (hb3.mono hS.size), hb3, rfl⟩
        · refine pm_one rfl rfl (fun K' hK => ?_)
          refine wp_value (w' := w1.alloc (.cells #[.int .u64 0, .int .u64 0] 93)) (.pointer (some ⟨w1.heap.size, 0, none⟩)) (by kernel_rfl) ?_
          have hb3 : Below w1.heap.size w1 (w1.alloc (.cells #[.int .u64 0, .int .u64 0] 93)) := (Below.refl _ _).alloc (Nat.le_refl _) _
          exact hK _ _ ⟨_, rfl, Below.trans hS (hb3.mono hS.size), hb3, w1.heap.size, rfl, hS.size, spB w1 0 0⟩
      · intro v w2 hS hb hV
        have v6 : v 6 = .agg #[.int .u64 (dl : Int), .int .u64 (dg : Int)] := hV (6, some 12) (by simp)
        obtain ⟨b4, v13, hb4, hB4⟩ : ∃ b, v 13 = .pointer (some ⟨b, 0, none⟩) ∧ W1.heap.size ≤ b ∧ Blk w2 b 93 2 (spF 0 0) := hV (13, some 4) (by simp)
        simp only [putM, if_true, v6, v13]
        clear hV v6 v13
        have hT := HT1.out.more hS
        refine pm_eff rfl rfl (fun K hK => ?_)
        refine wp_store_mid 93 (.tmp 4) (.tmp 12) rfl b4 0 #[.int .u64 (dl : Int), .int .u64 (dg : Int)] rfl rfl (there_blk hB4) (by kernel_rfl) (by simp [Value.oneCell']) ?_
        have hkb : Kp (fun b => b = b4) w2 (w2.setCells b4 0 [.int .u64 (dl : Int), .int .u64 (dg : Int)]) := Kp.setCells (M := fun b => b = b4) (.inl rfl) _ _ _ (Kp.refl _ _)
        have hz1 := HT1.out.z
        have hT2 : Tw w w.heap.size (knF kz) (knF kz) (w2.setCells b4 0 [.int .u64 (dl : Int), .int .u64 (dg : Int)]) := ⟨(Kp.setCells (w := w) (b := b4) (.inr (by omega)) _ _ _ (Kp.of_below hT.b No)).below, Nat.le_refl _, by have := hkb.size; have := hT.z; omega, hT.n.keep hkb (by omega), hT.j.keep hkb (by omega)⟩
        have hD2 : Blk (w2.setCells b4 0 [.int .u64 (dl : Int), .int .u64 (dg : Int)]) b4 93 2 (spF dl dg) := hB4.fill (spF dl dg)
        have hlo : w.heap.size + 2 ≤ b4 := by omega
        have hS5 : Below W1.heap.size W1 (w2.setCells b4 0 [.int .u64 (dl : Int), .int .u64 (dg : Int)]) := (Kp.setCells (w := W1) (b := b4) (.inr hb4) _ _ _ (Kp.of_below hS No)).below
        refine hK _ _ (fun _ => hS5) ?_
        clear hS5
        clear hK K
        show wpPlanM _ _ _ _ _ _ _ _ (w2.setCells b4 0 [.int .u64 (dl : Int), .int .u64 (dg : Int)])
        generalize hW5 : w2.setCells b4 0 [.int .u64 (dl : Int), .int .u64 (dg : Int)] = W5 at hT2 hD2 ⊢
        clear hW5 hkb hT hS hb hB4 hb4 hz1
        have HT5 := Lib.hid hT2; have HD5 := Lib.hid hD2; clear hT2 hD2
        refine pm_eff rfl rfl (fun K hK => ?_)
        go_simp
        refine hK _ _ (fun h => by cases h) ?_
        clear hK K
        refine pm_done ?_
        refine NoPanic.normal ?_
        go_wp2_with fail
        go_meet
        exact ⟨b4, rfl, rfl, HT5.out, HD5.out, hlo⟩
    case rest =>
      obtain ⟨b4, rfl, rfl, hT5, hD5, hlo⟩ := hcut
      generalize wc = W5 at *
      have HT5 := Lib.hid hT5; have HD5 := Lib.hid hD5; clear hT5 hD5
      have e0 : W5.cell? ⟨b4, 0, none⟩ = some (.int .u64 (dl : Int)) := HD5.out.cell 0 (by omega)
      have e1 : W5.cell? ⟨b4, 1, none⟩ = some (.int .u64 (dg : Int)) := HD5.out.cell 1 (by omega)
      have f0 := HD5.out.frozen 0
      have f1 := HD5.out.frozen 1
      go_upto_region 11 with fail
      have HI9 := Lib.hid (HIN.out W5 HT5.out.b)
      refine wp_region_noPanic ?_
      refine planM (.rd 0 (.rd 1 (.rd 2 (.rd 3 (.rd 4 (.rd 5 (.rd 6 (.rd 7 (.rd 8 (.rd 9 (.rd 11 (.eff 10 (.eff 12 (.eff 13 .done)))))))))))))) [0, 1, 2, 3, 4, 5, 6, 7, 8, 9, 10, 11, 12] (fun W => Kp (fun b => b = w.heap.size) W5 W) (by kernel_rfl) (by kernel_rfl) (fun _ _ _ _ _ h => h) ((Kp.refl _ _).drew) ?_
      repeat (refine pm_pure rfl (fun K hK => ?_); go_simp; refine hK _ ?_; clear hK K)
      refine pm_rdv 69 (.agg (knL k).toArray) rfl rfl rfl (fun W hS => exec_load_mid 42 (.tmp 68) rfl (x) (6) rfl (knL k) _ (rg_kept HI9.out.known hS (by omega)) Try.underlying42 rfl (by rw [knL_length]; exact info_kn)) ?_
      repeat (refine pm_pure rfl (fun K hK => ?_); go_simp; refine hK _ ?_; clear hK K)
      refine pm_rd (.int .i64 (i.dst : Int)) rfl rfl (fun W hS => ?_) (fun K hK => ?_)
      · have f0 := Kp.cell hS HI9.out.cdst (by show ¬ x = _; omega)
        simp [go_sem, f0]
      go_simp
      refine hK _ ?_
      clear hK K
      repeat (refine pm_pure rfl (fun K hK => ?_); go_simp; refine hK _ ?_; clear hK K)
      refine pm_rdv 75 (.agg #[.int .u64 (dl : Int), .int .u64 (dg : Int)]) rfl rfl rfl (fun W hS => exec_load_mid 93 (.tmp 4) rfl (b4) (0) rfl [.int .u64 (dl : Int), .int .u64 (dg : Int)] _ (rg_kept (spB_range HD5.out) hS (by omega)) Try.underlying93 rfl (by kernel_rfl)) ?_
      refine pm_rdv 77 (.agg (knL (kz)).toArray) rfl rfl rfl (fun W hS => exec_load_mid 42 (.tmp 3) rfl (w.heap.size + 1) (0) rfl (knL (kz)) _ (rg_kept HT5.out.j.range hS (by omega)) Try.underlying42 rfl (by rw [knL_length]; exact info_kn)) ?_
      refine pm_eff rfl rfl (fun K hK => ?_)
      go_simp
      (with_reducible refine (HPN.out _).mono ?_)
      rintro e w8 ⟨rfl, hb8⟩
      have HB8 : Hid (Below W5.heap.size W5 w8) := Lib.hid (((Below.refl _ _).drew).trans hb8); clear hb8
      have HT8 := Lib.hid (HT5.out.more HB8.out)
      refine hK _ _ (fun _ => Kp.of_below HB8.out _) ?_
      clear hK K
      have T1 := HT8.out.setn (knF (k.put i.dst ⟨dl, dg⟩))
      have T2 := T1.setj (knF kz)
      refine pm_store rfl rfl rfl 42 (.tmp 2) (.tmp 76) rfl (w.heap.size) 0 (knL ((k.put i.dst ⟨dl, dg⟩))).toArray rfl rfl (by rw [knA_size]; exact there_blk HT8.out.n) (by rw [knA_size]; exact info_kn) (knL_one _) (fun _ => Kp.setCells (M := fun b => b = w.heap.size) (.inl rfl) _ _ _ (Kp.of_below HB8.out _)) ?_
      rw [knL_tl]
      refine pm_store rfl rfl rfl 42 (.tmp 3) (.tmp 77) rfl (w.heap.size + 1) 0 (knL (kz)).toArray rfl rfl (by rw [knA_size]; exact there_blk T1.j) (by rw [knA_size]; exact info_kn) (knL_one _) (fun h => by cases h) ?_
      rw [knL_tl]
      refine pm_done ?_
      refine NoPanic.normal ?_
      generalize hWf : (w8.setCells w.heap.size 0 (rowF 31 (knF (k.put i.dst ⟨dl, dg⟩)))).setCells (w.heap.size + 1) 0 (rowF 31 (knF kz)) = Wf at T2 ⊢
      clear hWf T1
      have HT3 := Lib.hid T2; clear T2
      go_wp2
      exact bodyPost_ret (v := .tuple #[.agg (knL (k.put i.dst ⟨dl, dg⟩)).toArray, .agg (knL kz).toArray]) (results_cell2_range Try.results41 _ _ w.heap.size (w.heap.size + 1) _ _ _ rfl rfl HT3.out.n.range HT3.out.j.range Try.underlying42 rfl (by rw [knL_length]; exact info_kn) (by rw [knL_length]; exact info_kn)) rfl ⟨by rw [HJN.out, HJJ.out], HT3.out.b⟩
end Go.Proofs.Ytjlddhnjbjhmkaa
namespace Go.Proofs.Ytjlddhnjbjhmkaa
open Go.RowKit

set_option maxRecDepth 100000 in
set_option maxHeartbeats 4000000 in
theorem equal_in {w : World} {x : Nat} {i : Ins8} {ctx : Nat} {k : Kn} (hI : InB w x i ctx k) (hm : i.May) (hr : k.right) (hset : (k.r i.dst).s = true) (dl dg : Nat) (hdl : (k.r i.dst).l = dl) (hdg : (k.r i.dst).g = dg) (hn : dl < i.imm ∧ i.imm < dg) :
    Calls Try.prog 41 #[.pointer (some ⟨x, 0, none⟩)] w fun e w' => e = .returned (.tuple #[.agg (knL (jeqN i k)).toArray, .agg (knL (jeqJ i k)).toArray]) ∧ Below w.heap.size w w' := by
  have hx := hI.lt
  have hdst := hm.dst
  have himm : (i.imm : Int) < 4294967296 := by have := hm.imm; omega
  have hgok := (hr i.dst).2.1
  have hlg := (hr i.dst).1
  rw [hdg] at hgok hlg
  rw [hdl] at hlg
  obtain ⟨W1, hW1⟩ : ∃ W1, W1 = (w.alloc (.cells #[.bool false, .bool false, .int .u32 0, .int .u32 0, .bool false, .int .u32 0, .int .u32 0, .bool false, .int .u32 0, .int .u32 0, .bool false, .int .u32 0, .int .u32 0, .bool false, .int .u32 0, .int .u32 0, .bool false, .int .u32 0, .int .u32 0, .bool false, .int .u32 0, .int .u32 0, .bool false, .int .u32 0, .int .u32 0, .bool false, .int .u32 0, .int .u32 0, .bool false, .int .u32 0, .int .u32 0] 42)).alloc (.cells #[.bool false, .bool false, .int .u32 0, .int .u32 0, .bool false, .int .u32 0, .int .u32 0, .bool false, .int .u32 0, .int .u32 0, .bool false, .int .u32 0, .int .u32 0, .bool false, .int .u32 0, .int .u32 0, .bool false, .int .u32 0, .int .u32 0, .bool false, .int .u32 0, .int .u32 0, .bool false, .int .u32 0, .int .u32 0, .bool false, .int .u32 0, .int .u32 0, .bool false, .int .u32 0, .int .u32 0] 42) := ⟨_, rfl⟩
  obtain ⟨kz, hkz⟩ : ∃ z : Kn, z = kn0 := ⟨_, rfl⟩
  have T1 : Tw w w.heap.size (knF kz) (knF kz) W1 := by rw [hW1, hkz]; exact Tw.start w
  have hRG := fun W (hb : Below w.heap.size w W) => reg_ok (hI.below hb) hr i.dst hdst hset
  rw [hdl, hdg] at hRG
  have HIN := Lib.hid (fun W (hb : Below w.heap.size w W) => hI.below hb)
  have HRG := Lib.hid hRG; have HT1 := Lib.hid T1; clear hRG T1 hI hm hr hset
  have HI1 := Lib.hid (HIN.out W1 HT1.out.b)
  have HW1 := Lib.hid hW1; clear hW1
  have HJN : Hid (jeqN i k = (k.put i.dst ⟨dl, dg⟩)) := Lib.hid (by unfold jeqN Rg.sp; rw [hdl, hdg]; rw [if_neg (by omega), if_neg (by omega), if_neg (by omega)])
  have HJJ : Hid (jeqJ i k = k.put i.dst ⟨i.imm, i.imm⟩) := Lib.hid (by unfold jeqJ; rw [hdl, hdg]; rw [if_pos (by omega)])
  have HPJ := Lib.hid (fun W => cput_ok W k i.dst i.imm i.imm hdst (by omega) (by omega))
  have HPN := Lib.hid (fun W => cput_ok W k i.dst (dl) (dg) hdst (by omega) (by omega))
  have hq : ∀ W : World, (binOp .eql 93 (.agg #[.int .u64 (dl : Int), .int .u64 (dg : Int)]) (.agg #[.int .u64 (i.imm : Int), .int .u64 (i.imm : Int)])).run Try.prog W = .ok (.bool false) W := fun W => by rw [sp_eql]; simp; omega
  have q1 : ((i.imm : Int) == dl) = false := by simp; omega
  have q2 : ((i.imm : Int) == dg) = false := by simp; omega
  have q3 : (dl : Int) ≤ i.imm := by omega
  have q4 : (i.imm : Int) ≤ dg := by omega
  clear hdl hdg hn hkz
  go_enter Try.func41, Try.ntmps41
  go_upto_region 1 with fail
  rw [← HW1.out]
  go_cut [4, 5] from 6 to 18 (fun s4 s5 wx => EqPost w kz dl dg i.imm s4 s5 wx)
  case first =>
    have hwi : IntKind.u64.wrap (i.imm : Int) = (i.imm : Int) := by rw [IntKind.wrap_u64]; omega
    refine wp_region_noPanic ?_
    refine planM (.rd 0 (.rd 1 (.rd 2 (.rd 3 (.rd 4 (.rd 5 (.rd 7 (.rd 8 (.rd 9 (.rd 10 (.rd 11 (.rd 12 (.many [(6, some 12), (13, some 4)] (.eff 14 (.eff 15 .done))))))))))))))) [0, 1, 2, 3, 4, 5, 6, 7, 8, 9, 10, 11, 12, 13, 14] (fun W => Below W1.heap.size W1 W) (by kernel_rfl) (by kernel_rfl) (fun _ _ _ _ _ h => h) ((Below.refl _ _).drew) ?_
    repeat (refine pm_pure rfl (fun K hK => ?_); go_simp; refine hK _ ?_; clear hK K)
    refine pm_rd (.int .i64 (i.dst : Int)) rfl rfl (fun W hS => ?_) (fun K hK => ?_)
    · have f0 := (Kp.of_below hS No).cell HI1.out.cdst (fun e => e)
      simp [go_sem, f0]
    go_simp
    refine hK _ ?_
    clear hK K
    repeat (refine pm_pure rfl (fun K hK => ?_); go_simp; refine hK _ ?_; clear hK K)
    refine pm_rd (.int .u32 (i.imm : Int)) rfl rfl (fun W hS => ?_) (fun K hK => ?_)
    · have f0 := (Kp.of_below hS No).cell HI1.out.cimm (fun e => e)
      simp [go_sem, f0]
    go_simp
    refine hK _ ?_
    clear hK K
    repeat (refine pm_pure rfl (fun K hK => ?_); go_simp; refine hK _ ?_; clear hK K)
    refine pm_many (fun j v W => if j = 6 then v = .agg #[.int .u64 (dl : Int), .int .u64 (dg : Int)] else ∃ b, v = .pointer (some ⟨b, 0, none⟩) ∧ W1.heap.size ≤ b ∧ Blk W b 93 2 (spF 0 0)) ?_ ?_ ?_
    · intro j v w1 w2 h hb
      by_cases h4 : j = 6
      · simp only [if_pos h4] at h ⊢; exact h
      · simp only [if_neg h4] at h ⊢
        obtain ⟨b, h1, h2, h3⟩ := h
        exact ⟨b, h1, h2, h3.below hb⟩
    · intro c hc l v w1 hS hb hl hn hV
      simp only [List.mem_cons, List.not_mem_nil, or_false] at hc
      rcases hc with rfl | rfl
      · have E6 : ∀ a : Act, (putM v l [(6, some 12), (13, some 4)] a).tmps[6]?.getD undef = a.tmps[6]?.getD undef := fun a => by simpa [Array.getD_eq_getD_getElem?] using putM_eval_other (v := v) (l := l) 6 [(6, some 12), (13, some 4)] a (by simp)
        have E11 : ∀ a : Act, (putM v l [(6, some 12), (13, some 4)] a).tmps[11]?.getD undef = a.tmps[11]?.getD undef := fun a => by simpa [Array.getD_eq_getD_getElem?] using putM_eval_other (v := v) (l := l) 11 [(6, some 12), (13, some 4)] a (by simp)
        refine pm_one rfl rfl (fun K' hK => ?_)
        refine wp_calls_ret (f := 39) (args := #[.pointer (some ⟨x, 0, none⟩), .int .i64 (i.dst : Int)]) ?_ (HRG.out w1 (HT1.out.b.trans (Below.mono hS HT1.out.b.size))) (fun w3 hb3 => ?_)
        · simp [execOp, go_sem]
          exact ⟨(E6 _).trans rfl, (E11 _).trans rfl⟩
        exact hK _ _ ⟨_, rfl, Below.trans hS (hb3.mono hS.size), hb3, rfl⟩
      · refine pm_one rfl rfl (fun K' hK => ?_)
        refine wp_value (w' := w1.alloc (.cells #[.int .u64 0, .int .u64 0] 93)) (.pointer (some ⟨w1.heap.size, 0, none⟩)) (by kernel_rfl) ?_
        have hb3 : Below w1.heap.size w1 (w1.alloc (.cells #[.int .u64 0, .int .u64 0] 93)) := (Below.refl _ _).alloc (Nat.le_refl _) _
        exact hK _ _ ⟨_, rfl, Below.trans hS (hb3.mono hS.size), hb3, w1.heap.size, rfl, hS.size, spB w1 0 0⟩
    · intro v w2 hS hb hV
      have v6 : v 6 = .agg #[.int .u64 (dl : Int), .int .u64 (dg : Int)] := hV (6, some 12) (by simp)
      obtain ⟨b4, v13, hb4, hB4⟩ : ∃ b, v 13 = .pointer (some ⟨b, 0, none⟩) ∧ W1.heap.size ≤ b ∧ Blk w2 b 93 2 (spF 0 0) := hV (13, some 4) (by simp)
      simp only [putM, if_true, v6, v13]
      clear hV v6 v13
      have hT := HT1.out.more hS
      refine pm_eff rfl rfl (fun K hK => ?_)
      refine wp_store_mid 93 (.tmp 4) (.tmp 12) rfl b4 0 #[.int .u64 (dl : Int), .int .u64 (dg : Int)] rfl rfl (there_blk hB4) (by kernel_rfl) (by simp [Value.oneCell']) ?_
      have hkb : Kp (fun b => b = b4) w2 (w2.setCells b4 0 [.int .u64 (dl : Int), .int .u64 (dg : Int)]) := Kp.setCells (M := fun b => b = b4) (.inl rfl) _ _ _ (Kp.refl _ _)
      have hz1 := HT1.out.z
      have hT2 : Tw w w.heap.size (knF kz) (knF kz) (w2.setCells b4 0 [.int .u64 (dl : Int), .int .u64 (dg : Int)]) := ⟨(Kp.setCells (w := w) (b := b4) (.inr (by omega)) _ _ _ (Kp.of_below hT.b No)).below, Nat.le_refl _, by have := hkb.size; have := hT.z; omega, hT.n.keep hkb (by omega), hT.j.keep hkb (by omega)⟩
      have hD2 : Blk (w2.setCells b4 0 [.int .u64 (dl : Int), .int .u64 (dg : Int)]) b4 93 2 (spF dl dg) := hB4.fill (spF dl dg)
      have hlo : w.heap.size + 2 ≤ b4 := by omega
      have hS5 : Below W1.heap.size W1 (w2.setCells b4 0 [.int .u64 (dl : Int), .int .u64 (dg : Int)]) := (Kp.setCells (w := W1) (b := b4) (.inr hb4) _ _ _ (Kp.of_below hS No)).below
      refine hK _ _ (fun _ => hS5) ?_
      clear hS5
      clear hK K
      show wpPlanM _ _ _ _ _ _ _ _ (w2.setCells b4 0 [.int .u64 (dl : Int), .int .u64 (dg : Int)])
      generalize hW5 : w2.setCells b4 0 [.int .u64 (dl : Int), .int .u64 (dg : Int)] = W5 at hT2 hD2 ⊢
      clear hW5 hkb hT hS hb hB4 hb4 hz1
      have HT5 := Lib.hid hT2; have HD5 := Lib.hid hD2; clear hT2 hD2
      refine pm_eff rfl rfl (fun K hK => ?_)
      go_simp
      refine hK _ _ (fun h => by cases h) ?_
      clear hK K
      refine pm_done ?_
      refine NoPanic.normal ?_
      go_wp2_with fail
      go_meet
      exact ⟨b4, rfl, rfl, HT5.out, HD5.out, hlo⟩
  case rest =>
    obtain ⟨b4, rfl, rfl, hT5, hD5, hlo⟩ := hcut
    generalize wc = W5 at *
    have HT5 := Lib.hid hT5; have HD5 := Lib.hid hD5; clear hT5 hD5
    have e0 : W5.cell? ⟨b4, 0, none⟩ = some (.int .u64 (dl : Int)) := HD5.out.cell 0 (by omega)
    have e1 : W5.cell? ⟨b4, 1, none⟩ = some (.int .u64 (dg : Int)) := HD5.out.cell 1 (by omega)
    have f0 := HD5.out.frozen 0
    have f1 := HD5.out.frozen 1
    go_upto_region 3 with fail
    have HI5 := Lib.hid (HIN.out W5 HT5.out.b)
    refine wp_region_noPanic ?_
    refine planM (.rd 0 (.rd 1 (.rd 2 (.rd 3 (.rd 4 (.rd 5 (.rd 6 (.rd 7 (.rd 8 (.rd 9 (.rd 10 (.rd 11 (.eff 12 (.eff 13 .done)))))))))))))) [0, 1, 2, 3, 4, 5, 6, 7, 8, 9, 10, 11, 12] (fun W => Below W5.heap.size W5 W) (by kernel_rfl) (by kernel_rfl) (fun _ _ _ _ _ h => h) ((Below.refl _ _).drew) ?_
    repeat (refine pm_pure rfl (fun K hK => ?_); go_simp; refine hK _ ?_; clear hK K)
    refine pm_rdv 32 (.agg (knL k).toArray) rfl rfl rfl (fun W hS => exec_load_mid 42 (.tmp 31) rfl (x) (6) rfl (knL k) _ (rg_below HI5.out.known hS) Try.underlying42 rfl (by rw [knL_length]; exact info_kn)) ?_
    repeat (refine pm_pure rfl (fun K hK => ?_); go_simp; refine hK _ ?_; clear hK K)
    refine pm_rd (.int .i64 (i.dst : Int)) rfl rfl (fun W hS => ?_) (fun K hK => ?_)
    · have f0 := (Kp.of_below hS No).cell HI5.out.cdst (fun e => e)
      simp [go_sem, f0]
    go_simp
    refine hK _ ?_
    clear hK K
    repeat (refine pm_pure rfl (fun K hK => ?_); go_simp; refine hK _ ?_; clear hK K)
    refine pm_eff rfl rfl (fun K hK => ?_)
    go_simp
    (with_reducible refine (HPJ.out _).mono ?_)
    rintro e w6 ⟨rfl, hb6⟩
    have HB6 : Hid (Below W5.heap.size W5 w6) := Lib.hid (((Below.refl _ _).drew).trans hb6); clear hb6
    refine hK _ _ (fun _ => HB6.out) ?_
    clear hK K
    have T7 := (HT5.out.more HB6.out).setj (knF (k.put i.dst ⟨i.imm, i.imm⟩))
    have hD7 : Blk (w6.setCells (w.heap.size + 1) 0 (rowF 31 (knF (k.put i.dst ⟨i.imm, i.imm⟩)))) b4 93 2 (spF dl dg) := (HD5.out.below HB6.out).keep (M := fun b => b = w.heap.size + 1) (Kp.setCells (M := fun b => b = w.heap.size + 1) (.inl rfl) _ _ _ (Kp.refl _ _)) (by omega)
    refine pm_store rfl rfl rfl 42 (.tmp 3) (.tmp 41) rfl (w.heap.size + 1) 0 (knL (k.put i.dst ⟨i.imm, i.imm⟩)).toArray rfl rfl (by rw [knA_size]; exact there_blk (HT5.out.more HB6.out).j) (by rw [knA_size]; exact info_kn) (knL_one _) (fun h => by cases h) ?_
    rw [knL_tl]
    refine pm_done ?_
    refine NoPanic.normal ?_
    generalize hW7 : w6.setCells (w.heap.size + 1) 0 (rowF 31 (knF (k.put i.dst ⟨i.imm, i.imm⟩))) = W7 at T7 hD7 ⊢
    clear hW7 e0 e1 f0 f1
    have HT7 := Lib.hid T7; have HD7 := Lib.hid hD7; clear T7 hD7
    have e0 : W7.cell? ⟨b4, 0, none⟩ = some (.int .u64 (dl : Int)) := HD7.out.cell 0 (by omega)
    have e1 : W7.cell? ⟨b4, 1, none⟩ = some (.int .u64 (dg : Int)) := HD7.out.cell 1 (by omega)
    have f0 := HD7.out.frozen 0
    have f1 := HD7.out.frozen 1
    go_upto_region 11 with fail
    have HI9 := Lib.hid (HIN.out W7 HT7.out.b)
    refine wp_region_noPanic ?_
    refine planM (.rd 0 (.rd 1 (.rd 2 (.rd 3 (.rd 4 (.rd 5 (.rd 6 (.rd 7 (.rd 8 (.rd 9 (.rd 11 (.eff 10 (.eff 12 (.eff 13 .done)))))))))))))) [0, 1, 2, 3, 4, 5, 6, 7, 8, 9, 10, 11, 12] (fun W => Kp (fun b => b = w.heap.size) W7 W) (by kernel_rfl) (by kernel_rfl) (fun _ _ _ _ _ h => h) ((Kp.refl _ _).drew) ?_
    repeat (refine pm_pure rfl (fun K hK => ?_); go_simp; refine hK _ ?_; clear hK K)
    refine pm_rdv 69 (.agg (knL k).toArray) rfl rfl rfl (fun W hS => exec_load_mid 42 (.tmp 68) rfl (x) (6) rfl (knL k) _ (rg_kept HI9.out.known hS (by omega)) Try.underlying42 rfl (by rw [knL_length]; exact info_kn)) ?_
    repeat (refine pm_pure rfl (fun K hK => ?_); go_simp; refine hK _ ?_; clear hK K)
    refine pm_rd (.int .i64 (i.dst : Int)) rfl rfl (fun W hS => ?_) (fun K hK => ?_)
    · have f0 := Kp.cell hS HI9.out.cdst (by show ¬ x = _; omega)
      simp [go_sem, f0]
    go_simp
    refine hK _ ?_
    clear hK K
    repeat (refine pm_pure rfl (fun K hK => ?_); go_simp; refine hK _ ?_; clear hK K)
    refine pm_rdv 75 (.agg #[.int .u64 (dl : Int), .int .u64 (dg : Int)]) rfl rfl rfl (fun W hS => exec_load_mid 93 (.tmp 4) rfl (b4) (0) rfl [.int .u64 (dl : Int), .int .u64 (dg : Int)] _ (rg_kept (spB_range HD7.out) hS (by omega)) Try.underlying93 rfl (by kernel_rfl)) ?_
    refine pm_rdv 77 (.agg (knL (k.put i.dst ⟨i.imm, i.imm⟩)).toArray) rfl rfl rfl (fun W hS => exec_load_mid 42 (.tmp 3) rfl (w.heap.size + 1) (0) rfl (knL (k.put i.dst ⟨i.imm, i.imm⟩)) _ (rg_kept HT7.out.j.range hS (by omega)) Try.underlying42 rfl (by rw [knL_length]; exact info_kn)) ?_
    refine pm_eff rfl rfl (fun K hK => ?_)
    go_simp
    (with_reducible refine (HPN.out _).mono ?_)
    rintro e w8 ⟨rfl, hb8⟩
    have HB8 : Hid (Below W7.heap.size W7 w8) := Lib.hid (((Below.refl _ _).drew).trans hb8); clear hb8
    have HT8 := Lib.hid (HT7.out.more HB8.out)
    refine hK _ _ (fun _ => Kp.of_below HB8.out _) ?_
    clear hK K
    have T1 := HT8.out.setn (knF (k.put i.dst ⟨dl, dg⟩))
    have T2 := T1.setj (knF (k.put i.dst ⟨i.imm, i.imm⟩))
    refine pm_store rfl rfl rfl 42 (.tmp 2) (.tmp 76) rfl (w.heap.size) 0 (knL ((k.put i.dst ⟨dl, dg⟩))).toArray rfl rfl (by rw [knA_size]; exact there_blk HT8.out.n) (by rw [knA_size]; exact info_kn) (knL_one _) (fun _ => Kp.setCells (M := fun b => b = w.heap.size) (.inl rfl) _ _ _ (Kp.of_below HB8.out _)) ?_
    rw [knL_tl]
    refine pm_store rfl rfl rfl 42 (.tmp 3) (.tmp 77) rfl (w.heap.size + 1) 0 (knL ((k.put i.dst ⟨i.imm, i.imm⟩))).toArray rfl rfl (by rw [knA_size]; exact there_blk T1.j) (by rw [knA_size]; exact info_kn) (knL_one _) (fun h => by cases h) ?_
    rw [knL_tl]
    refine pm_done ?_
    refine NoPanic.normal ?_
    generalize hWf : (w8.setCells w.heap.size 0 (rowF 31 (knF (k.put i.dst ⟨dl, dg⟩)))).setCells (w.heap.size + 1) 0 (rowF 31 (knF (k.put i.dst ⟨i.imm, i.imm⟩))) = Wf at T2 ⊢
    clear hWf T1
    have HT3 := Lib.hid T2; clear T2
    go_wp2
    exact bodyPost_ret (v := .tuple #[.agg (knL (k.put i.dst ⟨dl, dg⟩)).toArray, .agg (knL (k.put i.dst ⟨i.imm, i.imm⟩)).toArray]) (results_cell2_range Try.results41 _ _ w.heap.size (w.heap.size + 1) _ _ _ rfl rfl HT3.out.n.range HT3.out.j.range Try.underlying42 rfl (by rw [knL_length]; exact info_kn) (by rw [knL_length]; exact info_kn)) rfl ⟨by rw [HJN.out, HJJ.out], HT3.out.b⟩
end Go.Proofs.Ytjlddhnjbjhmkaa
namespace Go.Proofs.Ytjlddhnjbjhmkaa
open Go.RowKit

set_option maxRecDepth 100000 in
set_option maxHeartbeats 1000000 in
theorem equal_lo {w : World} {x : Nat} {i : Ins8} {ctx : Nat} {k : Kn} (hI : InB w x i ctx k) (hm : i.May) (hr : k.right) (hset : (k.r i.dst).s = true) (dl dg : Nat) (hdl : (k.r i.dst).l = dl) (hdg : (k.r i.dst).g = dg) (hn : i.imm = dl ∧ dl < dg) :
    Calls Try.prog 41 #[.pointer (some ⟨x, 0, none⟩)] w fun e w' => e = .returned (.tuple #[.agg (knL (jeqN i k)).toArray, .agg (knL (jeqJ i k)).toArray]) ∧ Below w.heap.size w w' := by
  have hx := hI.lt
  have hdst := hm.dst
  have himm : (i.imm : Int) < 4294967296 := by have := hm.imm; omega
  have hgok := (hr i.dst).2.1
  have hlg := (hr i.dst).1
  rw [hdg] at hgok hlg
  rw [hdl] at hlg
  obtain ⟨W1, hW1⟩ : ∃ W1, W1 = (w.alloc (.cells #[.bool false, .bool false, .int .u32 0, .int .u32 0, .bool false, .int .u32 0, .int .u32 0, .bool false, .int .u32 0, .int .u32 0, .bool false, .int .u32 0, .int .u32 0, .bool false, .int .u32 0, .int .u32 0, .bool false, .int .u32 0, .int .u32 0, .bool false, .int .u32 0, .int .u32 0, .bool false, .int .u32 0, .int .u32 0, .bool false, .int .u32 0, .int .u32 0, .bool false, .int .u32 0, .int .u32 0] 42)).alloc (.cells #[.bool false, .bool false, .int .u32 0, .int .u32 0, .bool false, .int .u32 0, .int .u32 0, .bool false, .int .u32 0, .int .u32 0, .bool false, .int .u32 0, .int .u32 0, .bool false, .int .u32 0, .int .u32 0, .bool false, .int .u32 0, .int .u32 0, .bool false, .int .u32 0, .int .u32 0, .bool false, .int .u32 0, .int .u32 0, .bool false, .int .u32 0, .int .u32 0, .bool false, .int .u32 0, .int .u32 0] 42) := ⟨_, rfl⟩
  obtain ⟨kz, hkz⟩ : ∃ z : Kn, z = kn0 := ⟨_, rfl⟩
  have T1 : Tw w w.heap.size (knF kz) (knF kz) W1 := by rw [hW1, hkz]; exact Tw.start w
  have hRG := fun W (hb : Below w.heap.size w W) => reg_ok (hI.below hb) hr i.dst hdst hset
  rw [hdl, hdg] at hRG
  have HIN := Lib.hid (fun W (hb : Below w.heap.size w W) => hI.below hb)
  have HRG := Lib.hid hRG; have HT1 := Lib.hid T1; clear hRG T1 hI hm hr hset
  have HI1 := Lib.hid (HIN.out W1 HT1.out.b)
  have HW1 := Lib.hid hW1; clear hW1
  have HJN : Hid (jeqN i k = (k.put i.dst ⟨dl + 1, dg⟩)) := Lib.hid (by unfold jeqN Rg.sp; rw [hdl, hdg]; rw [if_neg (by omega), if_pos (by omega)])
  have HJJ : Hid (jeqJ i k = k.put i.dst ⟨i.imm, i.imm⟩) := Lib.hid (by unfold jeqJ; rw [hdl, hdg]; rw [if_pos (by omega)])
  have HPJ := Lib.hid (fun W => cput_ok W k i.dst i.imm i.imm hdst (by omega) (by omega))
  have hpn := fun W => cput_ok W k i.dst (dl + 1) dg hdst (by omega) (by omega)
  rw [show ((dl + 1 : Nat) : Int) = (dl : Int) + 1 from by simp] at hpn
  have HPN := Lib.hid hpn; clear hpn
  have hq : ∀ W : World, (binOp .eql 93 (.agg #[.int .u64 (dl : Int), .int .u64 (dg : Int)]) (.agg #[.int .u64 (i.imm : Int), .int .u64 (i.imm : Int)])).run Try.prog W = .ok (.bool false) W := fun W => by rw [sp_eql]; simp; omega
  have q1 : ((i.imm : Int) == dl) = true := by simp; omega
  have hw1 : IntKind.u64.wrap ((dl : Int) + 1) = ((dl + 1 : Nat) : Int) := by rw [IntKind.wrap_u64]; omega
  have q3 : (dl : Int) ≤ i.imm := by omega
  have q4 : (i.imm : Int) ≤ dg := by omega
  clear hdl hdg hkz
  have HLT := Lib.hid hn.2; clear hn
  go_enter Try.func41, Try.ntmps41
  go_upto_region 1 with fail
  rw [← HW1.out]
  go_cut [4, 5] from 6 to 18 (fun s4 s5 wx => EqPost w kz dl dg i.imm s4 s5 wx)
  case first =>
    have hwi : IntKind.u64.wrap (i.imm : Int) = (i.imm : Int) := by rw [IntKind.wrap_u64]; omega
    refine wp_region_noPanic ?_
    refine planM (.rd 0 (.rd 1 (.rd 2 (.rd 3 (.rd 4 (.rd 5 (.rd 7 (.rd 8 (.rd 9 (.rd 10 (.rd 11 (.rd 12 (.many [(6, some 12), (13, some 4)] (.eff 14 (.eff 15 .done))))))))))))))) [0, 1, 2, 3, 4, 5, 6, 7, 8, 9, 10, 11, 12, 13, 14] (fun W => Below W1.heap.size W1 W) (by kernel_rfl) (by kernel_rfl) (fun _ _ _ _ _ h => h) ((Below.refl _ _).drew) ?_
    repeat (refine pm_pure rfl (fun K hK => ?_); go_simp; refine hK _ ?_; clear hK K)
    refine pm_rd (.int .i64 (i.dst : Int)) rfl rfl (fun W hS => ?_) (fun K hK => ?_)
    · have f0 := (Kp.of_below hS No).cell HI1.out.cdst (fun e => e)
      simp [go_sem, f0]
    go_simp
    refine hK _ ?_
    clear hK K
    repeat (refine pm_pure rfl (fun K hK => ?_); go_simp; refine hK _ ?_; clear hK K)
    refine pm_rd (.int .u32 (i.imm : Int)) rfl rfl (fun W hS => ?_) (fun K hK => ?_)
    · have f0 := (Kp.of_below hS No).cell HI1.out.cimm (fun e => e)
      simp [go_sem, f0]
    go_simp
    refine hK _ ?_
    clear hK K
    repeat (refine pm_pure rfl (fun K hK => ?_); go_simp; refine hK _ ?_; clear hK K)
    refine pm_many (fun j v W => if j = 6 then v = .agg #[.int .u64 (dl : Int), .int .u64 (dg : Int)] else ∃ b, v = .pointer (some ⟨b, 0, none⟩) ∧ W1.heap.size ≤ b ∧ Blk W b 93 2 (spF 0 0)) ?_ ?_ ?_
    · intro j v w1 w2 h hb
      by_cases h4 : j = 6
      · simp only [if_pos h4] at h ⊢; exact h
      · simp only [if_neg h4] at h ⊢
        obtain ⟨b, h1, h2, h3⟩ := h
        exact ⟨b, h1, h2, h3.below hb⟩
    · intro c hc l v w1 hS hb hl hn hV
      simp only [List.mem_cons, List.not_mem_nil, or_false] at hc
      rcases hc with rfl | rfl
      · have E6 : ∀ a : Act, (putM v l [(6, some 12), (13, some 4)] a).tmps[6]?.getD undef = a.tmps[6]?.getD undef := fun a => by simpa [Array.getD_eq_getD_getElem?] using putM_eval_other (v := v) (l := l) 6 [(6, some 12), (13, some 4)] a (by simp)
        have E11 : ∀ a : Act, (putM v l [(6, some 12), (13, some 4)] a).tmps[11]?.getD undef = a.tmps[11]?.getD undef := fun a => by simpa [Array.getD_eq_getD_getElem?] using putM_eval_other (v := v) (l := l) 11 [(6, some 12), (13, some 4)] a (by simp)
        refine pm_one rfl rfl (fun K' hK => ?_)
        refine wp_calls_ret (f := 39) (args := #[.pointer (some ⟨x, 0, none⟩), .int .i64 (i.dst : Int)]) ?_ (HRG.out w1 (HT1.out.b.trans (Below.mono hS HT1.out.b.size))) (fun w3 hb3 => ?_)
        · simp [execOp, go_sem]
          exact ⟨(E6 _).trans rfl, (E11 _).trans rfl⟩
        exact hK _ _ ⟨_, rfl, Below.trans hS (hb3.mono hS.size), hb3, rfl⟩
      · refine pm_one rfl rfl (fun K' hK => ?_)
        refine wp_value (w' := w1.alloc (.cells #[.int .u64 0, .int .u64 0] 93)) (.pointer (some ⟨w1.heap.size, 0, none⟩)) (by kernel_rfl) ?_
        have hb3 : Below w1.heap.size w1 (w1.alloc (.cells #[.int .u64 0, .int .u64 0] 93)) := (Below.refl _ _).alloc (Nat.le_refl _) _
        exact hK _ _ ⟨_, rfl, Below.trans hS (hb3.mono hS.size), hb3, w1.heap.size, rfl, hS.size, spB w1 0 0⟩
    · intro v w2 hS hb hV
      have v6 : v 6 = .agg #[.int .u64 (dl : Int), .int .u64 (dg : Int)] := hV (6, some 12) (by simp)
      obtain ⟨b4, v13, hb4, hB4⟩ : ∃ b, v 13 = .pointer (some ⟨b, 0, none⟩) ∧ W1.heap.size ≤ b ∧ Blk w2 b 93 2 (spF 0 0) := hV (13, some 4) (by simp)
      simp only [putM, if_true, v6, v13]
      clear hV v6 v13
      have hT := HT1.out.more hS
      refine pm_eff rfl rfl (fun K hK => ?_)
      refine wp_store_mid 93 (.tmp 4) (.tmp 12) rfl b4 0 #[.int .u64 (dl : Int), .int .u64 (dg : Int)] rfl rfl (there_blk hB4) (by kernel_rfl) (by simp [Value.oneCell']) ?_
      have hkb : Kp (fun b => b = b4) w2 (w2.setCells b4 0 [.int .u64 (dl : Int), .int .u64 (dg : Int)]) := Kp.setCells (M := fun b => b = b4) (.inl rfl) _ _ _ (Kp.refl _ _)
      have hz1 := HT1.out.z
      have hT2 : Tw w w.heap.size (knF kz) (knF kz) (w2.setCells b4 0 [.int .u64 (dl : Int), .int .u64 (dg : Int)]) := ⟨(Kp.setCells (w := w) (b := b4) (.inr (by omega)) _ _ _ (Kp.of_below hT.b No)).below, Nat.le_refl _, by have := hkb.size; have := hT.z; omega, hT.n.keep hkb (by omega), hT.j.keep hkb (by omega)⟩
      have hD2 : Blk (w2.setCells b4 0 [.int .u64 (dl : Int), .int .u64 (dg : Int)]) b4 93 2 (spF dl dg) := hB4.fill (spF dl dg)
      have hlo : w.heap.size + 2 ≤ b4 := by omega
      have hS5 : Below W1.heap.size W1 (w2.setCells b4 0 [.int .u64 (dl : Int), .int .u64 (dg : Int)]) := (Kp.setCells (w := W1) (b := b4) (.inr hb4) _ _ _ (Kp.of_below hS No)).below
      refine hK _ _ (fun _ => hS5) ?_
      clear hS5
      clear hK K
      show wpPlanM _ _ _ _ _ _ _ _ (w2.setCells b4 0 [.int .u64 (dl : Int), .int .u64 (dg : Int)])
      generalize hW5 : w2.setCells b4 0 [.int .u64 (dl : Int), .int .u64 (dg : Int)] = W5 at hT2 hD2 ⊢
      clear hW5 hkb hT hS hb hB4 hb4 hz1
      have HT5 := Lib.hid hT2; have HD5 := Lib.hid hD2; clear hT2 hD2
      refine pm_eff rfl rfl (fun K hK => ?_)
      go_simp
      refine hK _ _ (fun h => by cases h) ?_
      clear hK K
      refine pm_done ?_
      refine NoPanic.normal ?_
      go_wp2_with fail
      go_meet
      exact ⟨b4, rfl, rfl, HT5.out, HD5.out, hlo⟩
  case rest =>
    obtain ⟨b4, rfl, rfl, hT5, hD5, hlo⟩ := hcut
    generalize wc = W5 at *
    have HT5 := Lib.hid hT5; have HD5 := Lib.hid hD5; clear hT5 hD5
    have e0 : W5.cell? ⟨b4, 0, none⟩ = some (.int .u64 (dl : Int)) := HD5.out.cell 0 (by omega)
    have e1 : W5.cell? ⟨b4, 1, none⟩ = some (.int .u64 (dg : Int)) := HD5.out.cell 1 (by omega)
    have f0 := HD5.out.frozen 0
    have f1 := HD5.out.frozen 1
    go_upto_region 3 with fail
    have HI5 := Lib.hid (HIN.out W5 HT5.out.b)
    refine wp_region_noPanic ?_
    refine planM (.rd 0 (.rd 1 (.rd 2 (.rd 3 (.rd 4 (.rd 5 (.rd 6 (.rd 7 (.rd 8 (.rd 9 (.rd 10 (.rd 11 (.eff 12 (.eff 13 .done)))))))))))))) [0, 1, 2, 3, 4, 5, 6, 7, 8, 9, 10, 11, 12] (fun W => Below W5.heap.size W5 W) (by kernel_rfl) (by kernel_rfl) (fun _ _ _ _ _ h => h) ((Below.refl _ _).drew) ?_
    repeat (refine pm_pure rfl (fun K hK => ?_); go_simp; refine hK _ ?_; clear hK K)
    refine pm_rdv 32 (.agg (knL k).toArray) rfl rfl rfl (fun W hS => exec_load_mid 42 (.tmp 31) rfl (x) (6) rfl (knL k) _ (rg_below HI5.out.known hS) Try.underlying42 rfl (by rw [knL_length]; exact info_kn)) ?_
    repeat (refine pm_pure rfl (fun K hK => ?_); go_simp; refine hK _ ?_; clear hK K)
    refine pm_rd (.int .i64 (i.dst : Int)) rfl rfl (fun W hS => ?_) (fun K hK => ?_)
    · have f0 := (Kp.of_below hS No).cell HI5.out.cdst (fun e => e)
      simp [go_sem, f0]
    go_simp
    refine hK _ ?_
    clear hK K
    repeat (refine pm_pure rfl (fun K hK => ?_); go_simp; refine hK _ ?_; clear hK K)
    refine pm_eff rfl rfl (fun K hK => ?_)
    go_simp
    (with_reducible refine (HPJ.out _).mono ?_)
    rintro e w6 ⟨rfl, hb6⟩
    have HB6 : Hid (Below W5.heap.size W5 w6) := Lib.hid (((Below.refl _ _).drew).trans hb6); clear hb6
    refine hK _ _ (fun _ => HB6.out) ?_
    clear hK K
    have T7 := (HT5.out.more HB6.out).setj (knF (k.put i.dst ⟨i.imm, i.imm⟩))
    have hD7 : Blk (w6.setCells (w.heap.size + 1) 0 (rowF 31 (knF (k.put i.dst ⟨i.imm, i.imm⟩)))) b4 93 2 (spF dl dg) := (HD5.out.below HB6.out).keep (M := fun b => b = w.heap.size + 1) (Kp.setCells (M := fun b => b = w.heap.size + 1) (.inl rfl) _ _ _ (Kp.refl _ _)) (by omega)
    refine pm_store rfl rfl rfl 42 (.tmp 3) (.tmp 41) rfl (w.heap.size + 1) 0 (knL (k.put i.dst ⟨i.imm, i.imm⟩)).toArray rfl rfl (by rw [knA_size]; exact there_blk (HT5.out.more HB6.out).j) (by rw [knA_size]; exact info_kn) (knL_one _) (fun h => by cases h) ?_
    rw [knL_tl]
    refine pm_done ?_
    refine NoPanic.normal ?_
    generalize hW7 : w6.setCells (w.heap.size + 1) 0 (rowF 31 (knF (k.put i.dst ⟨i.imm, i.imm⟩))) = W7 at T7 hD7 ⊢
    clear hW7 e0 e1 f0 f1
    have HT7 := Lib.hid T7; have HD7 := Lib.hid hD7; clear T7 hD7
    have e0 : W7.cell? ⟨b4, 0, none⟩ = some (.int .u64 (dl : Int)) := HD7.out.cell 0 (by omega)
    have e1 : W7.cell? ⟨b4, 1, none⟩ = some (.int .u64 (dg : Int)) := HD7.out.cell 1 (by omega)
    have f0 := HD7.out.frozen 0
    have f1 := HD7.out.frozen 1
    go_upto_region 11 with fail
    have T9 := HT7.out.setb b4 0 hlo (.int .u64 ((dl : Int) + 1))
    have hD9 : Blk (W7.setCell ⟨b4, 0, none⟩ (.int .u64 ((dl : Int) + 1))) b4 93 2 (spF (dl + 1) (dg)) := (HD7.out.set 0 (.int .u64 ((dl : Int) + 1))).congr (spF_lo dl dg)
    generalize hW9 : W7.setCell ⟨b4, 0, none⟩ (.int .u64 ((dl : Int) + 1)) = W9 at T9 hD9 ⊢
    clear hW9 e0 e1 f0 f1
    have HT9 := Lib.hid T9; have HD9 := Lib.hid hD9; clear T9 hD9
    have HI9 := Lib.hid (HIN.out W9 HT9.out.b)
    refine wp_region_noPanic ?_
    refine planM (.rd 0 (.rd 1 (.rd 2 (.rd 3 (.rd 4 (.rd 5 (.rd 6 (.rd 7 (.rd 8 (.rd 9 (.rd 11 (.eff 10 (.eff 12 (.eff 13 .done)))))))))))))) [0, 1, 2, 3, 4, 5, 6, 7, 8, 9, 10, 11, 12] (fun W => Kp (fun b => b = w.heap.size) W9 W) (by kernel_rfl) (by kernel_rfl) (fun _ _ _ _ _ h => h) ((Kp.refl _ _).drew) ?_
    repeat (refine pm_pure rfl (fun K hK => ?_); go_simp; refine hK _ ?_; clear hK K)
    refine pm_rdv 69 (.agg (knL k).toArray) rfl rfl rfl (fun W hS => exec_load_mid 42 (.tmp 68) rfl (x) (6) rfl (knL k) _ (rg_kept HI9.out.known hS (by omega)) Try.underlying42 rfl (by rw [knL_length]; exact info_kn)) ?_
    repeat (refine pm_pure rfl (fun K hK => ?_); go_simp; refine hK _ ?_; clear hK K)
    refine pm_rd (.int .i64 (i.dst : Int)) rfl rfl (fun W hS => ?_) (fun K hK => ?_)
    · have f0 := Kp.cell hS HI9.out.cdst (by show ¬ x = _; omega)
      simp [go_sem, f0]
    go_simp
    refine hK _ ?_
    clear hK K
    repeat (refine pm_pure rfl (fun K hK => ?_); go_simp; refine hK _ ?_; clear hK K)
    refine pm_rdv 75 (.agg #[.int .u64 ((dl + 1 : Nat) : Int), .int .u64 ((dg : Nat) : Int)]) rfl rfl rfl (fun W hS => exec_load_mid 93 (.tmp 4) rfl (b4) (0) rfl [.int .u64 ((dl + 1 : Nat) : Int), .int .u64 ((dg : Nat) : Int)] _ (rg_kept (spB_range HD9.out) hS (by omega)) Try.underlying93 rfl (by kernel_rfl)) ?_
    refine pm_rdv 77 (.agg (knL (k.put i.dst ⟨i.imm, i.imm⟩)).toArray) rfl rfl rfl (fun W hS => exec_load_mid 42 (.tmp 3) rfl (w.heap.size + 1) (0) rfl (knL (k.put i.dst ⟨i.imm, i.imm⟩)) _ (rg_kept HT9.out.j.range hS (by omega)) Try.underlying42 rfl (by rw [knL_length]; exact info_kn)) ?_
    refine pm_eff rfl rfl (fun K hK => ?_)
    go_simp
    (with_reducible refine (HPN.out _).mono ?_)
    rintro e w8 ⟨rfl, hb8⟩
    have HB8 : Hid (Below W9.heap.size W9 w8) := Lib.hid (((Below.refl _ _).drew).trans hb8); clear hb8
    have HT8 := Lib.hid (HT9.out.more HB8.out)
    refine hK _ _ (fun _ => Kp.of_below HB8.out _) ?_
    clear hK K
    have T1 := HT8.out.setn (knF (k.put i.dst ⟨dl + 1, dg⟩))
    have T2 := T1.setj (knF (k.put i.dst ⟨i.imm, i.imm⟩))
    refine pm_store rfl rfl rfl 42 (.tmp 2) (.tmp 76) rfl (w.heap.size) 0 (knL ((k.put i.dst ⟨dl + 1, dg⟩))).toArray rfl rfl (by rw [knA_size]; exact there_blk HT8.out.n) (by rw [knA_size]; exact info_kn) (knL_one _) (fun _ => Kp.setCells (M := fun b => b = w.heap.size) (.inl rfl) _ _ _ (Kp.of_below HB8.out _)) ?_
    rw [knL_tl]
    refine pm_store rfl rfl rfl 42 (.tmp 3) (.tmp 77) rfl (w.heap.size + 1) 0 (knL ((k.put i.dst ⟨i.imm, i.imm⟩))).toArray rfl rfl (by rw [knA_size]; exact there_blk T1.j) (by rw [knA_size]; exact info_kn) (knL_one _) (fun h => by cases h) ?_
    rw [knL_tl]
    refine pm_done ?_
    refine NoPanic.normal ?_
    generalize hWf : (w8.setCells w.heap.size 0 (rowF 31 (knF (k.put i.dst ⟨dl + 1, dg⟩)))).setCells (w.heap.size + 1) 0 (rowF 31 (knF (k.put i.dst ⟨i.imm, i.imm⟩))) = Wf at T2 ⊢
    clear hWf T1
    have HT3 := Lib.hid T2; clear T2
    go_wp2
    exact bodyPost_ret (v := .tuple #[.agg (knL (k.put i.dst ⟨dl + 1, dg⟩)).toArray, .agg (knL (k.put i.dst ⟨i.imm, i.imm⟩)).toArray]) (results_cell2_range Try.results41 _ _ w.heap.size (w.heap.size + 1) _ _ _ rfl rfl HT3.out.n.range HT3.out.j.range Try.underlying42 rfl (by rw [knL_length]; exact info_kn) (by rw [knL_length]; exact info_kn)) rfl ⟨by rw [HJN.out, HJJ.out], HT3.out.b⟩
end Go.Proofs.Ytjlddhnjbjhmkaa
namespace Go.Proofs.Ytjlddhnjbjhmkaa
open Go.RowKit

set_option maxRecDepth 100000 in
set_option maxHeartbeats 1000000 in
theorem equal_hi {w : World} {x : Nat} {i : Ins8} {ctx : Nat} {k : Kn} (hI : InB w x i ctx k) (hm : i.May) (hr : k.right) (hset : (k.r i.dst).s = true) (dl dg : Nat) (hdl : (k.r i.dst).l = dl) (hdg : (k.r i.dst).g = dg) (hn : i.imm = dg ∧ dl < dg) :
    Calls Try.prog 41 #[.pointer (some ⟨x, 0, none⟩)] w fun e w' => e = .returned (.tuple #[.agg (knL (jeqN i k)).toArray, .agg (knL (jeqJ i k)).toArray]) ∧ Below w.heap.size w w' := by
  have hx := hI.lt
  have hdst := hm.dst
  have himm : (i.imm : Int) < 4294967296 := by have := hm.imm; omega
  have hgok := (hr i.dst).2.1
  have hlg := (hr i.dst).1
  rw [hdg] at hgok hlg
  rw [hdl] at hlg
  obtain ⟨W1, hW1⟩ : ∃ W1, W1 = (w.alloc (.cells #[.bool false, .bool false, .int .u32 0, .int .u32 0, .bool false, .int .u32 0, .int .u32 0, .bool false, .int .u32 0, .int .u32 0, .bool false, .int .u32 0, .int .u32 0, .bool false, .int .u32 0, .int .u32 0, .bool false, .int .u32 0, .int .u32 0, .bool false, .int .u32 0, .int .u32 0, .bool false, .int .u32 0, .int .u32 0, .bool false, .int .u32 0, .int .u32 0, .bool false, .int .u32 0, .int .u32 0] 42)).alloc (.cells #[.bool false, .bool false, .int .u32 0, .int .u32 0, .bool false, .int .u32 0, .int .u32 0, .bool false, .int .u32 0, .int .u32 0, .bool false, .int .u32 0, .int .u32 0, .bool false, .int .u32 0, .int .u32 0, .bool false, .int .u32 0, .int .u32 0, .bool false, .int .u32 0, .int .u32 0, .bool false, .int .u32 0, .int .u32 0, .bool false, .int .u32 0, .int .u32 0, .bool false, .int .u32 0, .int .u32 0] 42) := ⟨_, rfl⟩
  obtain ⟨kz, hkz⟩ : ∃ z : Kn, z = kn0 := ⟨_, rfl⟩
  have T1 : Tw w w.heap.size (knF kz) (knF kz) W1 := by rw [hW1, hkz]; exact Tw.start w
  have hRG := fun W (hb : Below w.heap.size w W) => reg_ok (hI.below hb) hr i.dst hdst hset
  rw [hdl, hdg] at hRG
  have HIN := Lib.hid (fun W (hb : Below w.heap.size w W) => hI.below hb)
  have HRG := Lib.hid hRG; have HT1 := Lib.hid T1; clear hRG T1 hI hm hr hset
  have HI1 := Lib.hid (HIN.out W1 HT1.out.b)
  have HW1 := Lib.hid hW1; clear hW1
  have HJN : Hid (jeqN i k = (k.put i.dst ⟨dl, dg - 1⟩)) := Lib.hid (by unfold jeqN Rg.sp; rw [hdl, hdg]; rw [if_neg (by omega), if_neg (by omega), if_pos (by omega)])
  have HJJ : Hid (jeqJ i k = k.put i.dst ⟨i.imm, i.imm⟩) := Lib.hid (by unfold jeqJ; rw [hdl, hdg]; rw [if_pos (by omega)])
  have HPJ := Lib.hid (fun W => cput_ok W k i.dst i.imm i.imm hdst (by omega) (by omega))
  have HPN := Lib.hid (fun W => cput_ok W k i.dst (dl) (dg - 1) hdst (by omega) (by omega))
  have hq : ∀ W : World, (binOp .eql 93 (.agg #[.int .u64 (dl : Int), .int .u64 (dg : Int)]) (.agg #[.int .u64 (i.imm : Int), .int .u64 (i.imm : Int)])).run Try.prog W = .ok (.bool false) W := fun W => by rw [sp_eql]; simp; omega
  have q1 : ((i.imm : Int) == dl) = false := by simp; omega
  have q2 : ((i.imm : Int) == dg) = true := by simp; omega
  have hw1 : IntKind.u64.wrap ((dg : Int) - 1) = ((dg - 1 : Nat) : Int) := by rw [IntKind.wrap_u64]; omega
  have q3 : (dl : Int) ≤ i.imm := by omega
  have q4 : (i.imm : Int) ≤ dg := by omega
  clear hdl hdg hkz
  have HLT := Lib.hid hn.2; clear hn
  go_enter Try.func41, Try.ntmps41
  go_upto_region 1 with fail
  rw [← HW1.out]
  go_cut [4, 5] from 6 to 18 (fun s4 s5 wx => EqPost w kz dl dg i.imm s4 s5 wx)
  case first =>
    have hwi : IntKind.u64.wrap (i.imm : Int) = (i.imm : Int) := by rw [IntKind.wrap_u64]; omega
    refine wp_region_noPanic ?_
    refine planM (.rd 0 (.rd 1 (.rd 2 (.rd 3 (.rd 4 (.rd 5 (.rd 7 (.rd 8 (.rd 9 (.rd 10 (.rd 11 (.rd 12 (.many [(6, some 12), (13, some 4)] (.eff 14 (.eff 15 .done))))))))))))))) [0, 1, 2, 3, 4, 5, 6, 7, 8, 9, 10, 11, 12, 13, 14] (fun W => Below W1.heap.size W1 W) (by kernel_rfl) (by kernel_rfl) (fun _ _ _ _ _ h => h) ((Below.refl _ _).drew) ?_
    repeat (refine pm_pure rfl (fun K hK => ?_); go_simp; refine hK _ ?_; clear hK K)
    refine pm_rd (.int .i64 (i.dst : Int)) rfl rfl (fun W hS => ?_) (fun K hK => ?_)
    · have f0 := (Kp.of_below hS No).cell HI1.out.cdst (fun e => e)
      simp [go_sem, f0]
    go_simp
    refine hK _ ?_
    clear hK K
    repeat (refine pm_pure rfl (fun K hK => ?_); go_simp; refine hK _ ?_; clear hK K)
    refine pm_rd (.int .u32 (i.imm : Int)) rfl rfl (fun W hS => ?_) (fun K hK => ?_)
    · have f0 := (Kp.of_below hS No).cell HI1.out.cimm (fun e => e)
      simp [go_sem, f0]
    go_simp
    refine hK _ ?_
    clear hK K
    repeat (refine pm_pure rfl (fun K hK => ?_); go_simp; refine hK _ ?_; clear hK K)
    refine pm_many (fun j v W => if j = 6 then v = .agg #[.int .u64 (dl : Int), .int .u64 (dg : Int)] else ∃ b, v = .pointer (some ⟨b, 0, none⟩) ∧ W1.heap.size ≤ b ∧ Blk W b 93 2 (spF 0 0)) ?_ ?_ ?_
    · intro j v w1 w2 h hb
      by_cases h4 : j = 6
      · simp only [if_pos h4] at h ⊢; exact h
      · simp only [if_neg h4] at h ⊢
        obtain ⟨b, h1, h2, h3⟩ := h
        exact ⟨b, h1, h2, h3.below hb⟩
    · intro c hc l v w1 hS hb hl hn hV
      simp only [List.mem_cons, List.not_mem_nil, or_false] at hc
      rcases hc with rfl | rfl
      · have E6 : ∀ a : Act, (putM v l [(6, some 12), (13, some 4)] a).tmps[6]?.getD undef = a.tmps[6]?.getD undef := fun a => by simpa [Array.getD_eq_getD_getElem?] using putM_eval_other (v := v) (l := l) 6 [(6, some 12), (13, some 4)] a (by simp)
        have E11 : ∀ a : Act, (putM v l [(6, some 12), (13, some 4)] a).tmps[11]?.getD undef = a.tmps[11]?.getD undef := fun a => by simpa [Array.getD_eq_getD_getElem?] using putM_eval_other (v := v) (l := l) 11 [(6, some 12), (13, some 4)] a (by simp)
        refine pm_one rfl rfl (fun K' hK => ?_)
        refine wp_calls_ret (f := 39) (args := #[.pointer (some ⟨x, 0, none⟩), .int .i64 (i.dst : Int)]) ?_ (HRG.out w1 (HT1.out.b.trans (Below.mono hS HT1.out.b.size))) (fun w3 hb3 => ?_)
        · simp [execOp, go_sem]
          exact ⟨(E6 _).trans rfl, (E11 _).trans rfl⟩
        exact hK _ _ ⟨_, rfl, Below.trans hS (hb3.mono hS.size), hb3, rfl⟩
      · refine pm_one rfl rfl (fun K' hK => ?_)
        refine wp_value (w' := w1.alloc (.cells #[.int .u64 0, .int .u64 0] 93)) (.pointer (some ⟨w1.heap.size, 0, none⟩)) (by kernel_rfl) ?_
        have hb3 : Below w1.heap.size w1 (w1.alloc (.cells #[.int .u64 0, .int .u64 0] 93)) := (Below.refl _ _).alloc (Nat.le_refl _) _
        exact hK _ _ ⟨_, rfl, Below.trans hS (hb3.mono hS.size), hb3, w1.heap.size, rfl, hS.size, spB w1 0 0⟩
    · intro v w2 hS hb hV
      have v6 : v 6 = .agg #[.int .u64 (dl : Int), .int .u64 (dg : Int)] := hV (6, some 12) (by simp)
      obtain ⟨b4, v13, hb4, hB4⟩ : ∃ b, v 13 = .pointer (some ⟨b, 0, none⟩) ∧ W1.heap.size ≤ b ∧ Blk w2 b 93 2 (spF 0 0) := hV (13, some 4) (by simp)
      simp only [putM, if_true, v6, v13]
      clear hV v6 v13
      have hT := HT1.out.more hS
      refine pm_eff rfl rfl (fun K hK => ?_)
      refine wp_store_mid 93 (.tmp 4) (.tmp 12) rfl b4 0 #[.int .u64 (dl : Int), .int .u64 (dg : Int)] rfl rfl (there_blk hB4) (by kernel_rfl) (by simp [Value.oneCell']) ?_
      have hkb : Kp (fun b => b = b4) w2 (w2.setCells b4 0 [.int .u64 (dl : Int), .int .u64 (dg : Int)]) := Kp.setCells (M := fun b => b = b4) (.inl rfl) _ _ _ (Kp.refl _ _)
      have hz1 := HT1.out.z
      have hT2 : Tw w w.heap.size (knF kz) (knF kz) (w2.setCells b4 0 [.int .u64 (dl : Int), .int .u64 (dg : Int)]) := ⟨(Kp.setCells (w := w) (b := b4) (.inr (by omega)) _ _ _ (Kp.of_below hT.b No)).below, Nat.le_refl _, by have := hkb.size; have := hT.z; omega, hT.n.keep hkb (by omega), hT.j.keep hkb (by omega)⟩
      have hD2 : Blk (w2.setCells b4 0 [.int .u64 (dl : Int), .int .u64 (dg : Int)]) b4 93 2 (spF dl dg) := hB4.fill (spF dl dg)
      have hlo : w.heap.size + 2 ≤ b4 := by omega
      have hS5 : Below W1.heap.size W1 (w2.setCells b4 0 [.int .u64 (dl : Int), .int .u64 (dg : Int)]) := (Kp.setCells (w := W1) (b := b4) (.inr hb4) _ _ _ (Kp.of_below hS No)).below
      refine hK _ _ (fun _ => hS5) ?_
      clear hS5
      clear hK K
      show wpPlanM _ _ _ _ _ _ _ _ (w2.setCells b4 0 [.int .u64 (dl : Int), .int .u64 (dg : Int)])
      generalize hW5 : w2.setCells b4 0 [.int .u64 (dl : Int), .int .u64 (dg : Int)] = W5 at hT2 hD2 ⊢
      clear hW5 hkb hT hS hb hB4 hb4 hz1
      have HT5 := Lib.hid hT2; have HD5 := Lib.hid hD2; clear hT2 hD2
      refine pm_eff rfl rfl (fun K hK => ?_)
      go_simp
      refine hK _ _ (fun h => by cases h) ?_
      clear hK K
      refine pm_done ?_
      refine NoPanic.normal ?_
      go_wp2_with fail
      go_meet
      exact ⟨b4, rfl, rfl, HT5.out, HD5.out, hlo⟩
  case rest =>
    obtain ⟨b4, rfl, rfl, hT5, hD5, hlo⟩ := hcut
    generalize wc = W5 at *
    have HT5 := Lib.hid hT5; have HD5 := Lib.hid hD5; clear hT5 hD5
    have e0 : W5.cell? ⟨b4, 0, none⟩ = some (.int .u64 (dl : Int)) := HD5.out.cell 0 (by omega)
    have e1 : W5.cell? ⟨b4, 1, none⟩ = some (.int .u64 (dg : Int)) := HD5.out.cell 1 (by omega)
    have f0 := HD5.out.frozen 0
    have f1 := HD5.out.frozen 1
    go_upto_region 3 with fail
    have HI5 := Lib.hid (HIN.out W5 HT5.out.b)
    refine wp_region_noPanic ?_
    refine planM (.rd 0 (.rd 1 (.rd 2 (.rd 3 (.rd 4 (.rd 5 (.rd 6 (.rd 7 (.rd 8 (.rd 9 (.rd 10 (.rd 11 (.eff 12 (.eff 13 .done)))))))))))))) [0, 1, 2, 3, 4, 5, 6, 7, 8, 9, 10, 11, 12] (fun W => Below W5.heap.size W5 W) (by kernel_rfl) (by kernel_rfl) (fun _ _ _ _ _ h => h) ((Below.refl _ _).drew) ?_
    repeat (refine pm_pure rfl (fun K hK => ?_); go_simp; refine hK _ ?_; clear hK K)
    refine pm_rdv 32 (.agg (knL k).toArray) rfl rfl rfl (fun W hS => exec_load_mid 42 (.tmp 31) rfl (x) (6) rfl (knL k) _ (rg_below HI5.out.known hS) Try.underlying42 rfl (by rw [knL_length]; exact info_kn)) ?_
    repeat (refine pm_pure rfl (fun K hK => ?_); go_simp; refine hK _ ?_; clear hK K)
    refine pm_rd (.int .i64 (i.dst : Int)) rfl rfl (fun W hS => ?_) (fun K hK => ?_)
    · have f0 := (Kp.of_below hS No).cell HI5.out.cdst (fun e => e)
      simp [go_sem, f0]
    go_simp
    refine hK _ ?_
    clear hK K
    repeat (refine pm_pure rfl (fun K hK => ?_); go_simp; refine hK _ ?_; clear hK K)
    refine pm_eff rfl rfl (fun K hK => ?_)
    go_simp
    (with_reducible refine (HPJ.out _).mono ?_)
    rintro e w6 ⟨rfl, hb6⟩
    have HB6 : Hid (Below W5.heap.size W5 w6) := Lib.hid (((Below.refl _ _).drew).trans hb6); clear hb6
    refine hK _ _ (fun _ => HB6.out) ?_
    clear hK K
    have T7 := (HT5.out.more HB6.out).setj (knF (k.put i.dst ⟨i.imm, i.imm⟩))
    have hD7 : Blk (w6.setCells (w.heap.size + 1) 0 (rowF 31 (knF (k.put i.dst ⟨i.imm, i.imm⟩)))) b4 93 2 (spF dl dg) := (HD5.out.below HB6.out).keep (M := fun b => b = w.heap.size + 1) (Kp.setCells (M := fun b => b = w.heap.size + 1) (.inl rfl) _ _ _ (Kp.refl _ _)) (by omega)
    refine pm_store rfl rfl rfl 42 (.tmp 3) (.tmp 41) rfl (w.heap.size + 1) 0 (knL (k.put i.dst ⟨i.imm, i.imm⟩)).toArray rfl rfl (by rw [knA_size]; exact there_blk (HT5.out.more HB6.out).j) (by rw [knA_size]; exact info_kn) (knL_one _) (fun h => by cases h) ?_
    rw [knL_tl]
    refine pm_done ?_
    refine NoPanic.normal ?_
    generalize hW7 : w6.setCells (w.heap.size + 1) 0 (rowF 31 (knF (k.put i.dst ⟨i.imm, i.imm⟩))) = W7 at T7 hD7 ⊢
    clear hW7 e0 e1 f0 f1
    have HT7 := Lib.hid T7; have HD7 := Lib.hid hD7; clear T7 hD7
    have e0 : W7.cell? ⟨b4, 0, none⟩ = some (.int .u64 (dl : Int)) := HD7.out.cell 0 (by omega)
    have e1 : W7.cell? ⟨b4, 1, none⟩ = some (.int .u64 (dg : Int)) := HD7.out.cell 1 (by omega)
    have f0 := HD7.out.frozen 0
    have f1 := HD7.out.frozen 1
    go_upto_region 11 with fail
    have T9 := HT7.out.setb b4 1 hlo (.int .u64 ((dg - 1 : Nat) : Int))
    have hD9 : Blk (W7.setCell ⟨b4, 1, none⟩ (.int .u64 ((dg - 1 : Nat) : Int))) b4 93 2 (spF (dl) (dg - 1)) := (HD7.out.set 1 (.int .u64 ((dg - 1 : Nat) : Int))).congr (spF_hi dl dg (dg - 1))
    generalize hW9 : W7.setCell ⟨b4, 1, none⟩ (.int .u64 ((dg - 1 : Nat) : Int)) = W9 at T9 hD9 ⊢
    clear hW9 e0 e1 f0 f1
    have HT9 := Lib.hid T9; have HD9 := Lib.hid hD9; clear T9 hD9
    have HI9 := Lib.hid (HIN.out W9 HT9.out.b)
    refine wp_region_noPanic ?_
    refine planM (.rd 0 (.rd 1 (.rd 2 (.rd 3 (.rd 4 (.rd 5 (.rd 6 (.rd 7 (.rd 8 (.rd 9 (.rd 11 (.eff 10 (.eff 12 (.eff 13 .done)))))))))))))) [0, 1, 2, 3, 4, 5, 6, 7, 8, 9, 10, 11, 12] (fun W => Kp (fun b => b = w.heap.size) W9 W) (by kernel_rfl) (by kernel_rfl) (fun _ _ _ _ _ h => h) ((Kp.refl _ _).drew) ?_
    repeat (refine pm_pure rfl (fun K hK => ?_); go_simp; refine hK _ ?_; clear hK K)
    refine pm_rdv 69 (.agg (knL k).toArray) rfl rfl rfl (fun W hS => exec_load_mid 42 (.tmp 68) rfl (x) (6) rfl (knL k) _ (rg_kept HI9.out.known hS (by omega)) Try.underlying42 rfl (by rw [knL_length]; exact info_kn)) ?_
    repeat (refine pm_pure rfl (fun K hK => ?_); go_simp; refine hK _ ?_; clear hK K)
    refine pm_rd (.int .i64 (i.dst : Int)) rfl rfl (fun W hS => ?_) (fun K hK => ?_)
    · have f0 := Kp.cell hS HI9.out.cdst (by show ¬ x = _; omega)
      simp [go_sem, f0]
    go_simp
    refine hK _ ?_
    clear hK K
    repeat (refine pm_pure rfl (fun K hK => ?_); go_simp; refine hK _ ?_; clear hK K)
    refine pm_rdv 75 (.agg #[.int .u64 ((dl : Nat) : Int), .int .u64 ((dg - 1 : Nat) : Int)]) rfl rfl rfl (fun W hS => exec_load_mid 93 (.tmp 4) rfl (b4) (0) rfl [.int .u64 ((dl : Nat) : Int), .int .u64 ((dg - 1 : Nat) : Int)] _ (rg_kept (spB_range HD9.out) hS (by omega)) Try.underlying93 rfl (by kernel_rfl)) ?_
    refine pm_rdv 77 (.agg (knL (k.put i.dst ⟨i.imm, i.imm⟩)).toArray) rfl rfl rfl (fun W hS => exec_load_mid 42 (.tmp 3) rfl (w.heap.size + 1) (0) rfl (knL (k.put i.dst ⟨i.imm, i.imm⟩)) _ (rg_kept HT9.out.j.range hS (by omega)) Try.underlying42 rfl (by rw [knL_length]; exact info_kn)) ?_
    refine pm_eff rfl rfl (fun K hK => ?_)
    go_simp
    (with_reducible refine (HPN.out _).mono ?_)
    rintro e w8 ⟨rfl, hb8⟩
    have HB8 : Hid (Below W9.heap.size W9 w8) := Lib.hid (((Below.refl _ _).drew).trans hb8); clear hb8
    have HT8 := Lib.hid (HT9.out.more HB8.out)
    refine hK _ _ (fun _ => Kp.of_below HB8.out _) ?_
    clear hK K
    have T1 := HT8.out.setn (knF (k.put i.dst ⟨dl, dg - 1⟩))
    have T2 := T1.setj (knF (k.put i.dst ⟨i.imm, i.imm⟩))
    refine pm_store rfl rfl rfl 42 (.tmp 2) (.tmp 76) rfl (w.heap.size) 0 (knL ((k.put i.dst ⟨dl, dg - 1⟩))).toArray rfl rfl (by rw [knA_size]; exact there_blk HT8.out.n) (by rw [knA_size]; exact info_kn) (knL_one _) (fun _ => Kp.setCells (M := fun b => b = w.heap.size) (.inl rfl) _ _ _ (Kp.of_below HB8.out _)) ?_
    rw [knL_tl]
    refine pm_store rfl rfl rfl 42 (.tmp 3) (.tmp 77) rfl (w.heap.size + 1) 0 (knL ((k.put i.dst ⟨i.imm, i.imm⟩))).toArray rfl rfl (by rw [knA_size]; exact there_blk T1.j) (by rw [knA_size]; exact info_kn) (knL_one _) (fun h => by cases h) ?_
    rw [knL_tl]
    refine pm_done ?_
    refine NoPanic.normal ?_
    generalize hWf : (w8.setCells w.heap.size 0 (rowF 31 (knF (k.put i.dst ⟨dl, dg - 1⟩)))).setCells (w.heap.size + 1) 0 (rowF 31 (knF (k.put i.dst ⟨i.imm, i.imm⟩))) = Wf at T2 ⊢
    clear hWf T1
    have HT3 := Lib.hid T2; clear T2
    go_wp2
    exact bodyPost_ret (v := .tuple #[.agg (knL (k.put i.dst ⟨dl, dg - 1⟩)).toArray, .agg (knL (k.put i.dst ⟨i.imm, i.imm⟩)).toArray]) (results_cell2_range Try.results41 _ _ w.heap.size (w.heap.size + 1) _ _ _ rfl rfl HT3.out.n.range HT3.out.j.range Try.underlying42 rfl (by rw [knL_length]; exact info_kn) (by rw [knL_length]; exact info_kn)) rfl ⟨by rw [HJN.out, HJJ.out], HT3.out.b⟩
end Go.Proofs.Ytjlddhnjbjhmkaa
namespace Go.Proofs.Ytjlddhnjbjhmkaa
open Go.RowKit

set_option maxRecDepth 100000 in
set_option maxHeartbeats 4000000 in
theorem equal_one {w : World} {x : Nat} {i : Ins8} {ctx : Nat} {k : Kn} (hI : InB w x i ctx k) (hm : i.May) (hr : k.right) (hset : (k.r i.dst).s = true) (dl dg : Nat) (hdl : (k.r i.dst).l = dl) (hdg : (k.r i.dst).g = dg) (hn : i.imm = dl ∧ dl = dg) :
    Calls Try.prog 41 #[.pointer (some ⟨x, 0, none⟩)] w fun e w' => e = .returned (.tuple #[.agg (knL (jeqN i k)).toArray, .agg (knL (jeqJ i k)).toArray]) ∧ Below w.heap.size w w' := by
  have hx := hI.lt
  have hdst := hm.dst
  have himm : (i.imm : Int) < 4294967296 := by have := hm.imm; omega
  have hgok := (hr i.dst).2.1
  have hlg := (hr i.dst).1
  rw [hdg] at hgok hlg
  rw [hdl] at hlg
  obtain ⟨W1, hW1⟩ : ∃ W1, W1 = (w.alloc (.cells #[.bool false, .bool false, .int .u32 0, .int .u32 0, .bool false, .int .u32 0, .int .u32 0, .bool false, .int .u32 0, .int .u32 0, .bool false, .int .u32 0, .int .u32 0, .bool false, .int .u32 0, .int .u32 0, .bool false, .int .u32 0, .int .u32 0, .bool false, .int .u32 0, .int .u32 0, .bool false, .int .u32 0, .int .u32 0, .bool false, .int .u32 0, .int .u32 0, .bool false, .int .u32 0, .int .u32 0] 42)).alloc (.cells #[.bool false, .bool false, .int .u32 0, .int .u32 0, .bool false, .int .u32 0, .int .u32 0, .bool false, .int .u32 0, .int .u32 0, .bool false, .int .u32 0, .int .u32 0, .bool false, .int .u32 0, .int .u32 0, .bool false, .int .u32 0, .int .u32 0, .bool false, .int .u32 0, .int .u32 0, .bool false, .int .u32 0, .int .u32 0, .bool false, .int .u32 0, .int .u32 0, .bool false, .int .u32 0, .int .u32 0] 42) := ⟨_, rfl⟩
  obtain ⟨kz, hkz⟩ : ∃ z : Kn, z = kn0 := ⟨_, rfl⟩
  have T1 : Tw w w.heap.size (knF kz) (knF kz) W1 := by rw [hW1, hkz]; exact Tw.start w
  have hRG := fun W (hb : Below w.heap.size w W) => reg_ok (hI.below hb) hr i.dst hdst hset
  rw [hdl, hdg] at hRG
  have HIN := Lib.hid (fun W (hb : Below w.heap.size w W) => hI.below hb)
  have HRG := Lib.hid hRG; have HT1 := Lib.hid T1; clear hRG T1 hI hm hr hset
  have HI1 := Lib.hid (HIN.out W1 HT1.out.b)
  have HW1 := Lib.hid hW1; clear hW1
  have HJN : Hid (jeqN i k = kz) := Lib.hid (by unfold jeqN Rg.sp; rw [hdl, hdg]; rw [if_pos (by omega)]; exact hkz.symm)
  have HJJ : Hid (jeqJ i k = k.put i.dst ⟨i.imm, i.imm⟩) := Lib.hid (by unfold jeqJ; rw [hdl, hdg]; rw [if_pos (by omega)])
  have HPJ := Lib.hid (fun W => cput_ok W k i.dst i.imm i.imm hdst (by omega) (by omega))
  have hq : ∀ W : World, (binOp .eql 93 (.agg #[.int .u64 (dl : Int), .int .u64 (dg : Int)]) (.agg #[.int .u64 (i.imm : Int), .int .u64 (i.imm : Int)])).run Try.prog W = .ok (.bool true) W := fun W => by rw [sp_eql]; simp; omega
  have q3 : (dl : Int) ≤ i.imm := by omega
  have q4 : (i.imm : Int) ≤ dg := by omega
  clear hdl hdg hkz hn
  go_enter Try.func41, Try.ntmps41
  go_upto_region 1 with fail
  rw [← HW1.out]
  go_cut [4, 5] from 6 to 18 (fun s4 s5 wx => EqPost w kz dl dg i.imm s4 s5 wx)
  case first =>
    have hwi : IntKind.u64.wrap (i.imm : Int) = (i.imm : Int) := by rw [IntKind.wrap_u64]; omega
    refine wp_region_noPanic ?_
    refine planM (.rd 0 (.rd 1 (.rd 2 (.rd 3 (.rd 4 (.rd 5 (.rd 7 (.rd 8 (.rd 9 (.rd 10 (.rd 11 (.rd 12 (.many [(6, some 12), (13, some 4)] (.eff 14 (.eff 15 .done))))))))))))))) [0, 1, 2, 3, 4, 5, 6, 7, 8, 9, 10, 11, 12, 13, 14] (fun W => Below W1.heap.size W1 W) (by kernel_rfl) (by kernel_rfl) (fun _ _ _ _ _ h => h) ((Below.refl _ _).drew) ?_
    repeat (refine pm_pure rfl (fun K hK => ?_); go_simp; refine hK _ ?_; clear hK K)
    refine pm_rd (.int .i64 (i.dst : Int)) rfl rfl (fun W hS => ?_) (fun K hK => ?_)
    · have f0 := (Kp.of_below hS No).cell HI1.out.cdst (fun e => e)
      simp [go_sem, f0]
    go_simp
    refine hK _ ?_
    clear hK K
    repeat (refine pm_pure rfl (fun K hK => ?_); go_simp; refine hK _ ?_; clear hK K)
    refine pm_rd (.int .u32 (i.imm : Int)) rfl rfl (fun W hS => ?_) (fun K hK => ?_)
    · have f0 := (Kp.of_below hS No).cell HI1.out.cimm (fun e => e)
      simp [go_sem, f0]
    go_simp
    refine hK _ ?_
    clear hK K
    repeat (refine pm_pure rfl (fun K hK => ?_); go_simp; refine hK _ ?_; clear hK K)
    refine pm_many (fun j v W => if j = 6 then v = .agg #[.int .u64 (dl : Int), .int .u64 (dg : Int)] else ∃ b, v = .pointer (some ⟨b, 0, none⟩) ∧ W1.heap.size ≤ b ∧ Blk W b 93 2 (spF 0 0)) ?_ ?_ ?_
    · intro j v w1 w2 h hb
      by_cases h4 : j = 6
      · simp only [if_pos h4] at h ⊢; exact h
      · simp only [if_neg h4] at h ⊢
        obtain ⟨b, h1, h2, h3⟩ := h
        exact ⟨b, h1, h2, h3.below hb⟩
    · intro c hc l v w1 hS hb hl hn hV
      simp only [List.mem_cons, List.not_mem_nil, or_false] at hc
      rcases hc with rfl | rfl
      · have E6 : ∀ a : Act, (putM v l [(6, some 12), (13, some 4)] a).tmps[6]?.getD undef = a.tmps[6]?.getD undef := fun a => by simpa [Array.getD_eq_getD_getElem?] using putM_eval_other (v := v) (l := l) 6 [(6, some 12), (13, some 4)] a (by simp)
        have E11 : ∀ a : Act, (putM v l [(6, some 12), (13, some 4)] a).tmps[11]?.getD undef = a.tmps[11]?.getD undef := fun a => by simpa [Array.getD_eq_getD_getElem?] using putM_eval_other (v := v) (l := l) 11 [(6, some 12), (13, some 4)] a (by simp)
        refine pm_one rfl rfl (fun K' hK => ?_)
        refine wp_calls_ret (f := 39) (args := #[.pointer (some ⟨x, 0, none⟩), .int .i64 (i.dst : Int)]) ?_ (HRG.out w1 (HT1.out.b.trans (Below.mono hS HT1.out.b.size))) (fun w3 hb3 => ?_)
        · simp [execOp, go_sem]
          exact ⟨(E6 _).trans rfl, (E11 _).trans rfl⟩
        exact hK _ _ ⟨_, rfl, Below.trans hS (hb3.mono hS.size), hb3, rfl⟩
      · refine pm_one rfl rfl (fun K' hK => ?_)
        refine wp_value (w' := w1.alloc (.cells #[.int .u64 0, .int .u64 0] 93)) (.pointer (some ⟨w1.heap.size, 0, none⟩)) (by kernel_rfl) ?_
        have hb3 : Below w1.heap.size w1 (w1.alloc (.cells #[.int .u64 0, .int .u64 0] 93)) := (Below.refl _ _).alloc (Nat.le_refl _) _
        exact hK _ _ ⟨_, rfl, Below.trans hS (hb3.mono hS.size), hb3, w1.heap.size, rfl, hS.size, spB w1 0 0⟩
    · intro v w2 hS hb hV
      have v6 : v 6 = .agg #[.int .u64 (dl : Int), .int .u64 (dg : Int)] := hV (6, some 12) (by simp)
      obtain ⟨b4, v13, hb4, hB4⟩ : ∃ b, v 13 = .pointer (some ⟨b, 0, none⟩) ∧ W1.heap.size ≤ b ∧ Blk w2 b 93 2 (spF 0 0) := hV (13, some 4) (by simp)
      simp only [putM, if_true, v6, v13]
      clear hV v6 v13
      have hT := HT1.out.more hS
      refine pm_eff rfl rfl (fun K hK => ?_)
      refine wp_store_mid 93 (.tmp 4) (.tmp 12) rfl b4 0 #[.int .u64 (dl : Int), .int .u64 (dg : Int)] rfl rfl (there_blk hB4) (by kernel_rfl) (by simp [Value.oneCell']) ?_
      have hkb : Kp (fun b => b = b4) w2 (w2.setCells b4 0 [.int .u64 (dl : Int), .int .u64 (dg : Int)]) := Kp.setCells (M := fun b => b = b4) (.inl rfl) _ _ _ (Kp.refl _ _)
      have hz1 := HT1.out.z
      have hT2 : Tw w w.heap.size (knF kz) (knF kz) (w2.setCells b4 0 [.int .u64 (dl : Int), .int .u64 (dg : Int)]) := ⟨(Kp.setCells (w := w) (b := b4) (.inr (by omega)) _ _ _ (Kp.of_below hT.b No)).below, Nat.le_refl _, by have := hkb.size; have := hT.z; omega, hT.n.keep hkb (by omega), hT.j.keep hkb (by omega)⟩
      have hD2 : Blk (w2.setCells b4 0 [.int .u64 (dl : Int), .int .u64 (dg : Int)]) b4 93 2 (spF dl dg) := hB4.fill (spF dl dg)
      have hlo : w.heap.size + 2 ≤ b4 := by omega
      have hS5 : Below W1.heap.size W1 (w2.setCells b4 0 [.int .u64 (dl : Int), .int .u64 (dg : Int)]) := (Kp.setCells (w := W1) (b := b4) (.inr hb4) _ _ _ (Kp.of_below hS No)).below
      refine hK _ _ (fun _ => hS5) ?_
      clear hS5
      clear hK K
      show wpPlanM _ _ _ _ _ _ _ _ (w2.setCells b4 0 [.int .u64 (dl : Int), .int .u64 (dg : Int)])
      generalize hW5 : w2.setCells b4 0 [.int .u64 (dl : Int), .int .u64 (dg : Int)] = W5 at hT2 hD2 ⊢
      clear hW5 hkb hT hS hb hB4 hb4 hz1
      have HT5 := Lib.hid hT2; have HD5 := Lib.hid hD2; clear hT2 hD2
      refine pm_eff rfl rfl (fun K hK => ?_)
      go_simp
      refine hK _ _ (fun h => by cases h) ?_
      clear hK K
      refine pm_done ?_
      refine NoPanic.normal ?_
      go_wp2_with fail
      go_meet
      exact ⟨b4, rfl, rfl, HT5.out, HD5.out, hlo⟩
  case rest =>
    obtain ⟨b4, rfl, rfl, hT5, hD5, hlo⟩ := hcut
    generalize wc = W5 at *
    have HT5 := Lib.hid hT5; have HD5 := Lib.hid hD5; clear hT5 hD5
    have e0 : W5.cell? ⟨b4, 0, none⟩ = some (.int .u64 (dl : Int)) := HD5.out.cell 0 (by omega)
    have e1 : W5.cell? ⟨b4, 1, none⟩ = some (.int .u64 (dg : Int)) := HD5.out.cell 1 (by omega)
    have f0 := HD5.out.frozen 0
    have f1 := HD5.out.frozen 1
    go_upto_region 3 with fail
    have HI5 := Lib.hid (HIN.out W5 HT5.out.b)
    refine wp_region_noPanic ?_
    refine planM (.rd 0 (.rd 1 (.rd 2 (.rd 3 (.rd 4 (.rd 5 (.rd 6 (.rd 7 (.rd 8 (.rd 9 (.rd 10 (.rd 11 (.eff 12 (.eff 13 .done)))))))))))))) [0, 1, 2, 3, 4, 5, 6, 7, 8, 9, 10, 11, 12] (fun W => Below W5.heap.size W5 W) (by kernel_rfl) (by kernel_rfl) (fun _ _ _ _ _ h => h) ((Below.refl _ _).drew) ?_
    repeat (refine pm_pure rfl (fun K hK => ?_); go_simp; refine hK _ ?_; clear hK K)
    refine pm_rdv 32 (.agg (knL k).toArray) rfl rfl rfl (fun W hS => exec_load_mid 42 (.tmp 31) rfl (x) (6) rfl (knL k) _ (rg_below HI5.out.known hS) Try.underlying42 rfl (by rw [knL_length]; exact info_kn)) ?_
    repeat (refine pm_pure rfl (fun K hK => ?_); go_simp; refine hK _ ?_; clear hK K)
    refine pm_rd (.int .i64 (i.dst : Int)) rfl rfl (fun W hS => ?_) (fun K hK => ?_)
    · have f0 := (Kp.of_below hS No).cell HI5.out.cdst (fun e => e)
      simp [go_sem, f0]
    go_simp
    refine hK _ ?_
    clear hK K
    repeat (refine pm_pure rfl (fun K hK => ?_); go_simp; refine hK _ ?_; clear hK K)
    refine pm_eff rfl rfl (fun K hK => ?_)
    go_simp
    (with_reducible refine (HPJ.out _).mono ?_)
    rintro e w6 ⟨rfl, hb6⟩
    have HB6 : Hid (Below W5.heap.size W5 w6) := Lib.hid (((Below.refl _ _).drew).trans hb6); clear hb6
    refine hK _ _ (fun _ => HB6.out) ?_
    clear hK K
    have T7 := (HT5.out.more HB6.out).setj (knF (k.put i.dst ⟨i.imm, i.imm⟩))
    have hD7 : Blk (w6.setCells (w.heap.size + 1) 0 (rowF 31 (knF (k.put i.dst ⟨i.imm, i.imm⟩)))) b4 93 2 (spF dl dg) := (HD5.out.below HB6.out).keep (M := fun b => b = w.heap.size + 1) (Kp.setCells (M := fun b => b = w.heap.size + 1) (.inl rfl) _ _ _ (Kp.refl _ _)) (by omega)
    refine pm_store rfl rfl rfl 42 (.tmp 3) (.tmp 41) rfl (w.heap.size + 1) 0 (knL (k.put i.dst ⟨i.imm, i.imm⟩)).toArray rfl rfl (by rw [knA_size]; exact there_blk (HT5.out.more HB6.out).j) (by rw [knA_size]; exact info_kn) (knL_one _) (fun h => by cases h) ?_
    rw [knL_tl]
    refine pm_done ?_
    refine NoPanic.normal ?_
    generalize hW7 : w6.setCells (w.heap.size + 1) 0 (rowF 31 (knF (k.put i.dst ⟨i.imm, i.imm⟩))) = W7 at T7 hD7 ⊢
    clear hW7 e0 e1 f0 f1
    have HT7 := Lib.hid T7; have HD7 := Lib.hid hD7; clear T7 hD7
    have e0 : W7.cell? ⟨b4, 0, none⟩ = some (.int .u64 (dl : Int)) := HD7.out.cell 0 (by omega)
    have e1 : W7.cell? ⟨b4, 1, none⟩ = some (.int .u64 (dg : Int)) := HD7.out.cell 1 (by omega)
    have f0 := HD7.out.frozen 0
    have f1 := HD7.out.frozen 1
    go_upto_region 5 with fail
    refine wp_region_noPanic ?_
    refine planM (.rd 1 (.eff 0 (.eff 2 (.eff 3 .done)))) [0, 1, 2] (fun W => Kp (fun b => b = w.heap.size) W7 W) (by kernel_rfl) (by kernel_rfl) (fun _ _ _ _ _ h => h) ((Kp.refl _ _).drew) ?_
    refine pm_rdv 48 (.agg (knL (k.put i.dst ⟨i.imm, i.imm⟩)).toArray) rfl rfl rfl (fun W hS => exec_load_mid 42 (.tmp 3) rfl (w.heap.size + 1) (0) rfl (knL (k.put i.dst ⟨i.imm, i.imm⟩)) _ (rg_kept HT7.out.j.range hS (by omega)) Try.underlying42 rfl (by rw [knL_length]; exact info_kn)) ?_
    refine pm_efv 47 (.agg (knL (kz)).toArray) rfl rfl rfl (exec_load_mid 42 (.tmp 2) rfl (w.heap.size) (0) rfl (knL (kz)) _ (HT7.out.more ((Below.refl _ _).drew)).n.range Try.underlying42 rfl (by rw [knL_length]; exact info_kn)) (fun _ => (Kp.refl _ _).drew) ?_
    have T0 := HT7.out.more ((Below.refl _ _).drew)
    have T1 := T0.setn (knF kz)
    have T2 := T1.setj (knF (k.put i.dst ⟨i.imm, i.imm⟩))
    refine pm_store rfl rfl rfl 42 (.tmp 2) (.tmp 47) rfl (w.heap.size) 0 (knL (kz)).toArray rfl rfl (by rw [knA_size]; exact there_blk T0.n) (by rw [knA_size]; exact info_kn) (knL_one _) (fun _ => Kp.setCells (M := fun b => b = w.heap.size) (.inl rfl) _ _ _ ((Kp.refl _ _).drew)) ?_
    rw [knL_tl]
    refine pm_store rfl rfl rfl 42 (.tmp 3) (.tmp 48) rfl (w.heap.size + 1) 0 (knL (k.put i.dst ⟨i.imm, i.imm⟩)).toArray rfl rfl (by rw [knA_size]; exact there_blk T1.j) (by rw [knA_size]; exact info_kn) (knL_one _) (fun h => by cases h) ?_
    rw [knL_tl]
    refine pm_done ?_
    refine NoPanic.normal ?_
    generalize hWf : (W7.drew.setCells w.heap.size 0 (rowF 31 (knF kz))).setCells (w.heap.size + 1) 0 (rowF 31 (knF (k.put i.dst ⟨i.imm, i.imm⟩))) = Wf at T2 ⊢
    clear hWf T1 T0
    have HT3 := Lib.hid T2; clear T2
    go_wp2
    exact bodyPost_ret (v := .tuple #[.agg (knL kz).toArray, .agg (knL (k.put i.dst ⟨i.imm, i.imm⟩)).toArray]) (results_cell2_range Try.results41 _ _ w.heap.size (w.heap.size + 1) _ _ _ rfl rfl HT3.out.n.range HT3.out.j.range Try.underlying42 rfl (by rw [knL_length]; exact info_kn) (by rw [knL_length]; exact info_kn)) rfl ⟨by rw [HJN.out, HJJ.out], HT3.out.b⟩
end Go.Proofs.Ytjlddhnjbjhmkaa
