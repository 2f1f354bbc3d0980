/- Layer 6: sum. -/
import Derived.Test.YtjlddhnjbjhmkaaGc
set_option linter.unusedVariables false
set_option linter.unusedSimpArgs false
namespace Go.Proofs.Ytjlddhnjbjhmkaa
open Go.RowKit

set_option maxRecDepth 100000 in
set_option maxHeartbeats 4000000 in
theorem sum_lo {w : World} {x : Nat} {i : Ins8} {ctx : Nat} {k : Kn} (hI : InB w x i ctx k) (hm : i.May) (h31 : i.op = 12 ∨ i.op = 13 → i.imm ≤ 31) (hr : k.right) (hop : i.op ≤ 15) (dS : Sp) (hd : i.op ≤ 2 ∧ dS = ⟨0, 0⟩)
    (hsrc : i.useImm = true ∨ (k.r i.src).s = true) (h0 : i.op = 14 ∨ i.op = 15 → 0 < (i.srcS k).l) :
    Calls Try.prog 44 #[.pointer (some ⟨x, 0, none⟩)] w fun e w' => e = .returned (.agg (knL (k.put i.dst (mkS i.op dS (i.srcS k)))).toArray) ∧ Below w.heap.size w w' := by
  have hx := hI.lt
  have p1 := hm.op1
  have hdst := hm.dst
  have hdst' : (i.dst : Int) < 10 := by omega
  have hsC : ∀ W, Below w.heap.size w W → Calls Try.prog 54 #[.pointer (some ⟨x, 0, none⟩)] W fun e w' => e = .returned (.agg #[.int .u64 ((i.srcS k).l : Int), .int .u64 ((i.srcS k).g : Int)]) ∧ Below W.heap.size W w' := fun W hb => by
    rcases hu : i.useImm with _ | _
    · rw [show i.srcS k = (k.r i.src).sp from by unfold Ins8.srcS; simp [hu]]
      exact csrc_reg (hI.below hb) hr hm hu (hsrc.resolve_left (by simp [hu]))
    · rw [show i.srcS k = ⟨i.imm, i.imm⟩ from by unfold Ins8.srcS; simp [hu]]
      exact csrc_imm (hI.below hb) hm hu
  have hsok := src_ok (i := i) (k := k) (by have := hm.imm; omega) hr
  have h5 : i.op = 12 ∨ i.op = 13 → (i.srcS k).l ≤ 31 := fun e => by
    have hu : i.useImm = true := by rcases e with e | e <;> simp [Ins8.useImm, e]
    rw [show i.srcS k = ⟨i.imm, i.imm⟩ from by unfold Ins8.srcS; simp [hu]]
    exact h31 e
  obtain ⟨sS, hsS⟩ : ∃ s, s = i.srcS k := ⟨_, rfl⟩
  rw [← hsS] at hsC hsok h0 h5 ⊢
  clear hsS hsrc h31
  have hdok : dS.ok := by
    rw [hd.2]; exact ⟨Nat.le_refl _, Nat.zero_le _⟩
  have hFN := fun W => mkop_ok W i.op p1 hop dS sS hdok hsok h0 h5
  have hPU := fun W => cput_ok W k i.dst (mkS i.op dS sS).l (mkS i.op dS sS).g hdst (Nat.le_trans (mk_ok hdok hsok h0).1 (mk_ok hdok hsok h0).2) (mk_ok hdok hsok h0).2
  obtain ⟨W1, hW1⟩ : ∃ W1, W1 = (w.alloc (.cells #[.bool false, .bool false, .int .u32 0, .int .u32 0, .bool false, .int .u32 0, .int .u32 0, .bool false, .int .u32 0, .int .u32 0, .bool false, .int .u32 0, .int .u32 0, .bool false, .int .u32 0, .int .u32 0, .bool false, .int .u32 0, .int .u32 0, .bool false, .int .u32 0, .int .u32 0, .bool false, .int .u32 0, .int .u32 0, .bool false, .int .u32 0, .int .u32 0, .bool false, .int .u32 0, .int .u32 0] 42)).alloc (.cells #[.int .u64 0, .int .u64 0] 93) := ⟨_, rfl⟩
  have S1 : Sm w 0 0 W1 := by rw [hW1]; exact Sm.start w
  have hRG : (k.r i.dst).s = true → ∀ W, Below w.heap.size w W → Calls Try.prog 39 #[.pointer (some ⟨x, 0, none⟩), .int .i64 (i.dst : Int)] W fun e w' => e = .returned (.agg #[.int .u64 ((k.r i.dst).l : Int), .int .u64 ((k.r i.dst).g : Int)]) ∧ Below W.heap.size W w' := fun h W hb => reg_ok (hI.below hb) hr i.dst hdst h
  have HIN := Lib.hid (fun W (hb : Below w.heap.size w W) => hI.below hb)
  have HSC := Lib.hid hsC; have HFN := Lib.hid hFN; have HPU := Lib.hid hPU; have HS1 := Lib.hid S1; have HRG := Lib.hid hRG
  clear hsC hFN hPU S1 hRG hdok hsok hI hm hr h5
  have hent := enter_fnC i.op p1 hop
  have htab := tab_look i.op p1 hop
  have HENT := Lib.hid hent; have HTAB := Lib.hid htab; clear hent htab
  have HW1 := Lib.hid hW1; clear hW1
  have c1 := (HIN.out W1 HS1.out.b).cop
  have c2 := (HIN.out W1 HS1.out.b).cdst
  obtain ⟨sl, sg⟩ := sS
  obtain ⟨hle, rfl⟩ := hd
  have hc : i.op = 1 ∨ i.op = 2 := by omega
  have q14 : ((i.op : Int) != 14) = true := by simp; omega
  have q15 : ((i.op : Int) != 15) = true := by simp; omega
  have hz : ¬ (i.op = 14 ∨ i.op = 15) := by omega
  rcases hc with h | h
  · have q1 : ((i.op : Int) != 1) = false := by simp; omega
    clear h
    go_enter Try.func44, Try.ntmps44
    go_upto_region 2 with fail
    rw [← HW1.out]
    go_upto_region 4 with fail
    clear c1 c2
    go_upto_region 5 with (first | (go_at_call 54; (with_reducible refine (HSC.out _ HS1.out.b).mono ?_); rintro e w4 ⟨rfl, hb4⟩; have HS4 := Lib.hid (HS1.out.more hb4); clear hb4) | (refine wpList_store_new rfl 93 (.tmp 4) (.tmp 28) rfl #[.int .u64 0, .int .u64 0] #[.int .u64 (sl : Int), .int .u64 (sg : Int)] rfl rfl (by kernel_rfl) rfl (by simp [Value.oneCell']) ?_))
    have S5 := HS4.out.more ((Below.refl _ _).alloc (Nat.le_refl _) (.cells #[.int .u64 (sl : Int), .int .u64 (sg : Int)] 93))
    have hsb := spB w4 sl sg
    generalize hW5 : w4.alloc (.cells #[.int .u64 (sl : Int), .int .u64 (sg : Int)] 93) = W5 at S5 hsb ⊢
    clear hW5
    generalize w4.heap.size = g4 at hsb ⊢
    have HS5 := Lib.hid S5; clear S5
    have c1 := (HIN.out W5 HS5.out.b).cop
    have cs0 : W5.cell? ⟨g4, 0, none⟩ = some (.int .u64 (sl : Int)) := hsb.cell 0 (by omega)
    have HSB := Lib.hid hsb; clear hsb
    go_upto_region 6 with (go_at_call 51; (with_reducible refine (cmust_ok _ _).mono ?_); rintro e w' ⟨rfl, rfl⟩)
    clear c1 cs0
    have HIW := Lib.hid (HIN.out W5 HS5.out.b)
    obtain ⟨ix, hix⟩ := HTAB.out
    have HIX := Lib.hid hix; clear hix
    obtain ⟨R5, hR5⟩ := HS5.out.r
    have HR5 := Lib.hid hR5; clear hR5
    refine wp_region_noPanic ?_
    refine planM (.rd 0 (.rd 1 (.rd 2 (.rd 3 (.rd 4 (.rd 5 (.rd 6 (.rd 7 (.rd 8 (.rd 10 (.rd 11 (.rd 12 (.rd 13 (.rd 14 (.rd 16 (.rd 17 (.eff 9 (.eff 15 (.eff 18 (.eff 19 (.eff 20 .done))))))))))))))))))))) [0, 1, 2, 3, 4, 5, 6, 7, 8, 9, 10, 11, 12, 13, 14, 15, 16, 17, 18, 19] (fun W => Below W5.heap.size W5 W) (by kernel_rfl) (by kernel_rfl) (fun _ _ _ _ _ h => h) ((Below.refl _ _).drew) ?_
    repeat (refine pm_pure rfl (fun K hK => ?_); go_simp; refine hK _ ?_; clear hK K)
    refine pm_rd (.agg (knL k).toArray) rfl rfl (fun W hS => exec_load_mid 42 (.tmp 51) rfl (x) (6) rfl (knL k) _ (rg_below HIW.out.known hS) Try.underlying42 rfl (by rw [knL_length]; exact info_kn)) (fun K hK => ?_)
    refine hK _ ?_
    clear hK K
    repeat (refine pm_pure rfl (fun K hK => ?_); go_simp; refine hK _ ?_; clear hK K)
    refine pm_rd (.int .i64 (i.dst : Int)) rfl rfl (fun W hS => ?_) (fun K hK => ?_)
    · have f0 := (Kp.of_below hS No).cell HIW.out.cdst (fun e => e)
      simp [go_sem, f0]
    go_simp
    refine hK _ ?_
    clear hK K
    repeat (refine pm_pure rfl (fun K hK => ?_); go_simp; refine hK _ ?_; clear hK K)
    refine pm_rd (.int .i64 (i.op : Int)) rfl rfl (fun W hS => ?_) (fun K hK => ?_)
    · have f0 := (Kp.of_below hS No).cell HIW.out.cop (fun e => e)
      simp [go_sem, f0]
    go_simp
    refine hK _ ?_
    clear hK K
    repeat (refine pm_pure rfl (fun K hK => ?_); go_simp; refine hK _ ?_; clear hK K)
    refine pm_rd (.agg #[.int .u64 ((0 : Nat) : Int), .int .u64 ((0 : Nat) : Int)]) rfl rfl (fun W hS => exec_load_mid 93 (.tmp 3) rfl (w.heap.size + 1) 0 rfl [.int .u64 ((0 : Nat) : Int), .int .u64 ((0 : Nat) : Int)] _ (rg_below (spB_range HS5.out.d) hS) Try.underlying93 rfl (by kernel_rfl)) (fun K hK => ?_)
    refine hK _ ?_
    clear hK K
    refine pm_rd (.agg #[.int .u64 (sl : Int), .int .u64 (sg : Int)]) rfl rfl (fun W hS => exec_load_mid 93 (.tmp 4) rfl g4 0 rfl [.int .u64 (sl : Int), .int .u64 (sg : Int)] _ (rg_below (spB_range HSB.out) hS) Try.underlying93 rfl (by kernel_rfl)) (fun K hK => ?_)
    refine hK _ ?_
    clear hK K
    refine pm_eff rfl rfl (fun K hK => ?_)
    go_simp
    (with_reducible refine (makes_ok _).mono ?_)
    rintro e w9 ⟨rfl, rfl⟩
    have S9 : Below W5.heap.size W5 (W5.drew.alloc (.map tabE 15)) := ((Below.refl _ _).drew).alloc (Nat.le_refl _) _
    have hmb : (W5.drew.alloc (.map tabE 15)).heap[W5.drew.heap.size]? = some (.map tabE 15) := heap_alloc_new _ _
    generalize hW9 : W5.drew.alloc (.map tabE 15) = W9 at S9 hmb ⊢
    clear hW9
    have HS9 := Lib.hid S9; have HMB := Lib.hid hmb; clear S9 hmb
    refine hK _ _ (fun _ => HS9.out) ?_
    clear hK K
    refine pm_eff rfl rfl (fun K hK => ?_)
    refine wp_value (w' := W9) (.func (.func (fnC i.op)) #[] #[]) (by have h9 := run_look W9 W5.heap.size tabE 15 (i.op : Int) ix _ HMB.out HIX.out; simp [execOp, go_sem, h9]) ?_
    refine hK _ _ (fun _ => HS9.out) ?_
    clear hK K
    refine pm_eff rfl rfl (fun K hK => ?_)
    go_simp
    rw [HENT.out, Oper.upon_enter]
    have FN := HFN.out W9
    rw [show ((0 : Nat) : Int) = 0 from rfl] at FN
    (with_reducible refine FN.mono ?_)
    rintro e w10 ⟨rfl, hb10⟩
    have HS10 := Lib.hid (HS9.out.trans (hb10.mono HS9.out.size)); clear hb10
    refine hK _ _ (fun _ => HS10.out) ?_
    clear hK K
    refine pm_eff rfl rfl (fun K hK => ?_)
    go_simp
    (with_reducible refine (HPU.out _).mono ?_)
    rintro e w11 ⟨rfl, hb11⟩
    have HS11 := Lib.hid (HS10.out.trans (hb11.mono HS10.out.size)); clear hb11
    refine hK _ _ (fun _ => HS11.out) ?_
    clear hK K
    have hB11 : Below w.heap.size w w11 := HS5.out.b.trans (HS11.out.mono HS5.out.b.size)
    have hR11 : Blk w11 w.heap.size 42 31 R5 := HR5.out.below HS11.out
    obtain ⟨W3f, HW3f, HR3f, HB3f, HK3f⟩ := fin_store hB11 hR11 (Nat.le_refl _) (knL (k.put i.dst (mkS i.op ⟨0, 0⟩ ⟨sl, sg⟩))) (knL_length _)
    refine pm_eff rfl rfl (fun K hK => ?_)
    refine wp_store_mid 42 (.tmp 2) (.tmp 68) rfl w.heap.size 0 (knL (k.put i.dst (mkS i.op ⟨0, 0⟩ ⟨sl, sg⟩))).toArray rfl rfl (by rw [knA_size]; exact there_blk hR11) (by rw [knA_size]; exact info_kn) (knL_one _) ?_
    rw [← HW3f.out]
    refine hK _ _ (fun h => by cases h) ?_
    clear hK K
    refine pm_done ?_
    refine NoPanic.normal ?_
    go_wp2
    exact bodyPost_ret (v := .agg (knL (k.put i.dst (mkS i.op ⟨0, 0⟩ ⟨sl, sg⟩))).toArray) (results_cell1_range Try.results44 _ _ w.heap.size 0 _ _ rfl HR3f.out Try.underlying42 rfl (by rw [knL_length]; exact info_kn)) rfl ⟨rfl, HB3f.out⟩
  · have q1 : ((i.op : Int) != 1) = true := by simp; omega
    have q2 : ((i.op : Int) != 2) = false := by simp; omega
    clear h
    go_enter Try.func44, Try.ntmps44
    go_upto_region 2 with fail
    rw [← HW1.out]
    go_upto_region 4 with fail
    clear c1 c2
    go_upto_region 5 with (first | (go_at_call 54; (with_reducible refine (HSC.out _ HS1.out.b).mono ?_); rintro e w4 ⟨rfl, hb4⟩; have HS4 := Lib.hid (HS1.out.more hb4); clear hb4) | (refine wpList_store_new rfl 93 (.tmp 4) (.tmp 28) rfl #[.int .u64 0, .int .u64 0] #[.int .u64 (sl : Int), .int .u64 (sg : Int)] rfl rfl (by kernel_rfl) rfl (by simp [Value.oneCell']) ?_))
    have S5 := HS4.out.more ((Below.refl _ _).alloc (Nat.le_refl _) (.cells #[.int .u64 (sl : Int), .int .u64 (sg : Int)] 93))
    have hsb := spB w4 sl sg
    generalize hW5 : w4.alloc (.cells #[.int .u64 (sl : Int), .int .u64 (sg : Int)] 93) = W5 at S5 hsb ⊢
    clear hW5
    generalize w4.heap.size = g4 at hsb ⊢
    have HS5 := Lib.hid S5; clear S5
    have c1 := (HIN.out W5 HS5.out.b).cop
    have cs0 : W5.cell? ⟨g4, 0, none⟩ = some (.int .u64 (sl : Int)) := hsb.cell 0 (by omega)
    have HSB := Lib.hid hsb; clear hsb
    go_upto_region 6 with (go_at_call 51; (with_reducible refine (cmust_ok _ _).mono ?_); rintro e w' ⟨rfl, rfl⟩)
    clear c1 cs0
    have HIW := Lib.hid (HIN.out W5 HS5.out.b)
    obtain ⟨ix, hix⟩ := HTAB.out
    have HIX := Lib.hid hix; clear hix
    obtain ⟨R5, hR5⟩ := HS5.out.r
    have HR5 := Lib.hid hR5; clear hR5
    refine wp_region_noPanic ?_
    refine planM (.rd 0 (.rd 1 (.rd 2 (.rd 3 (.rd 4 (.rd 5 (.rd 6 (.rd 7 (.rd 8 (.rd 10 (.rd 11 (.rd 12 (.rd 13 (.rd 14 (.rd 16 (.rd 17 (.eff 9 (.eff 15 (.eff 18 (.eff 19 (.eff 20 .done))))))))))))))))))))) [0, 1, 2, 3, 4, 5, 6, 7, 8, 9, 10, 11, 12, 13, 14, 15, 16, 17, 18, 19] (fun W => Below W5.heap.size W5 W) (by kernel_rfl) (by kernel_rfl) (fun _ _ _ _ _ h => h) ((Below.refl _ _).drew) ?_
    repeat (refine pm_pure rfl (fun K hK => ?_); go_simp; refine hK _ ?_; clear hK K)
    refine pm_rd (.agg (knL k).toArray) rfl rfl (fun W hS => exec_load_mid 42 (.tmp 51) rfl (x) (6) rfl (knL k) _ (rg_below HIW.out.known hS) Try.underlying42 rfl (by rw [knL_length]; exact info_kn)) (fun K hK => ?_)
    refine hK _ ?_
    clear hK K
    repeat (refine pm_pure rfl (fun K hK => ?_); go_simp; refine hK _ ?_; clear hK K)
    refine pm_rd (.int .i64 (i.dst : Int)) rfl rfl (fun W hS => ?_) (fun K hK => ?_)
    · have f0 := (Kp.of_below hS No).cell HIW.out.cdst (fun e => e)
      simp [go_sem, f0]
    go_simp
    refine hK _ ?_
    clear hK K
    repeat (refine pm_pure rfl (fun K hK => ?_); go_simp; refine hK _ ?_; clear hK K)
    refine pm_rd (.int .i64 (i.op : Int)) rfl rfl (fun W hS => ?_) (fun K hK => ?_)
    · have f0 := (Kp.of_below hS No).cell HIW.out.cop (fun e => e)
      simp [go_sem, f0]
    go_simp
    refine hK _ ?_
    clear hK K
    repeat (refine pm_pure rfl (fun K hK => ?_); go_simp; refine hK _ ?_; clear hK K)
    refine pm_rd (.agg #[.int .u64 ((0 : Nat) : Int), .int .u64 ((0 : Nat) : Int)]) rfl rfl (fun W hS => exec_load_mid 93 (.tmp 3) rfl (w.heap.size + 1) 0 rfl [.int .u64 ((0 : Nat) : Int), .int .u64 ((0 : Nat) : Int)] _ (rg_below (spB_range HS5.out.d) hS) Try.underlying93 rfl (by kernel_rfl)) (fun K hK => ?_)
    refine hK _ ?_
    clear hK K
    refine pm_rd (.agg #[.int .u64 (sl : Int), .int .u64 (sg : Int)]) rfl rfl (fun W hS => exec_load_mid 93 (.tmp 4) rfl g4 0 rfl [.int .u64 (sl : Int), .int .u64 (sg : Int)] _ (rg_below (spB_range HSB.out) hS) Try.underlying93 rfl (by kernel_rfl)) (fun K hK => ?_)
    refine hK _ ?_
    clear hK K
    refine pm_eff rfl rfl (fun K hK => ?_)
    go_simp
    (with_reducible refine (makes_ok _).mono ?_)
    rintro e w9 ⟨rfl, rfl⟩
    have S9 : Below W5.heap.size W5 (W5.drew.alloc (.map tabE 15)) := ((Below.refl _ _).drew).alloc (Nat.le_refl _) _
    have hmb : (W5.drew.alloc (.map tabE 15)).heap[W5.drew.heap.size]? = some (.map tabE 15) := heap_alloc_new _ _
    generalize hW9 : W5.drew.alloc (.map tabE 15) = W9 at S9 hmb ⊢
    clear hW9
    have HS9 := Lib.hid S9; have HMB := Lib.hid hmb; clear S9 hmb
    refine hK _ _ (fun _ => HS9.out) ?_
    clear hK K
    refine pm_eff rfl rfl (fun K hK => ?_)
    refine wp_value (w' := W9) (.func (.func (fnC i.op)) #[] #[]) (by have h9 := run_look W9 W5.heap.size tabE 15 (i.op : Int) ix _ HMB.out HIX.out; simp [execOp, go_sem, h9]) ?_
    refine hK _ _ (fun _ => HS9.out) ?_
    clear hK K
    refine pm_eff rfl rfl (fun K hK => ?_)
    go_simp
    rw [HENT.out, Oper.upon_enter]
    have FN := HFN.out W9
    rw [show ((0 : Nat) : Int) = 0 from rfl] at FN
    (with_reducible refine FN.mono ?_)
    rintro e w10 ⟨rfl, hb10⟩
    have HS10 := Lib.hid (HS9.out.trans (hb10.mono HS9.out.size)); clear hb10
    refine hK _ _ (fun _ => HS10.out) ?_
    clear hK K
    refine pm_eff rfl rfl (fun K hK => ?_)
    go_simp
    (with_reducible refine (HPU.out _).mono ?_)
    rintro e w11 ⟨rfl, hb11⟩
    have HS11 := Lib.hid (HS10.out.trans (hb11.mono HS10.out.size)); clear hb11
    refine hK _ _ (fun _ => HS11.out) ?_
    clear hK K
    have hB11 : Below w.heap.size w w11 := HS5.out.b.trans (HS11.out.mono HS5.out.b.size)
    have hR11 : Blk w11 w.heap.size 42 31 R5 := HR5.out.below HS11.out
    obtain ⟨W3f, HW3f, HR3f, HB3f, HK3f⟩ := fin_store hB11 hR11 (Nat.le_refl _) (knL (k.put i.dst (mkS i.op ⟨0, 0⟩ ⟨sl, sg⟩))) (knL_length _)
    refine pm_eff rfl rfl (fun K hK => ?_)
    refine wp_store_mid 42 (.tmp 2) (.tmp 68) rfl w.heap.size 0 (knL (k.put i.dst (mkS i.op ⟨0, 0⟩ ⟨sl, sg⟩))).toArray rfl rfl (by rw [knA_size]; exact there_blk hR11) (by rw [knA_size]; exact info_kn) (knL_one _) ?_
    rw [← HW3f.out]
    refine hK _ _ (fun h => by cases h) ?_
    clear hK K
    refine pm_done ?_
    refine NoPanic.normal ?_
    go_wp2
    exact bodyPost_ret (v := .agg (knL (k.put i.dst (mkS i.op ⟨0, 0⟩ ⟨sl, sg⟩))).toArray) (results_cell1_range Try.results44 _ _ w.heap.size 0 _ _ rfl HR3f.out Try.underlying42 rfl (by rw [knL_length]; exact info_kn)) rfl ⟨rfl, HB3f.out⟩
end Go.Proofs.Ytjlddhnjbjhmkaa
namespace Go.Proofs.Ytjlddhnjbjhmkaa
open Go.RowKit

set_option maxRecDepth 100000 in
set_option maxHeartbeats 4000000 in
theorem sum_14 {w : World} {x : Nat} {i : Ins8} {ctx : Nat} {k : Kn} (hI : InB w x i ctx k) (hm : i.May) (h31 : i.op = 12 ∨ i.op = 13 → i.imm ≤ 31) (hr : k.right) (hop : i.op ≤ 15) (dS : Sp) (hd : 3 ≤ i.op ∧ (k.r i.dst).s = true ∧ dS = (k.r i.dst).sp) (h : i.op = 14)
    (hsrc : i.useImm = true ∨ (k.r i.src).s = true) (h0 : i.op = 14 ∨ i.op = 15 → 0 < (i.srcS k).l) :
    Calls Try.prog 44 #[.pointer (some ⟨x, 0, none⟩)] w fun e w' => e = .returned (.agg (knL (k.put i.dst (mkS i.op dS (i.srcS k)))).toArray) ∧ Below w.heap.size w w' := by
  obtain ⟨dl, dg⟩ := dS
  obtain ⟨hge, hset, hsp⟩ := hd
  have hdl : (k.r i.dst).l = dl := (congrArg Sp.l hsp).symm
  have hdg : (k.r i.dst).g = dg := (congrArg Sp.g hsp).symm
  have hx := hI.lt
  have p1 := hm.op1
  have hdst := hm.dst
  have hdst' : (i.dst : Int) < 10 := by omega
  have hsC : ∀ W, Below w.heap.size w W → Calls Try.prog 54 #[.pointer (some ⟨x, 0, none⟩)] W fun e w' => e = .returned (.agg #[.int .u64 ((i.srcS k).l : Int), .int .u64 ((i.srcS k).g : Int)]) ∧ Below W.heap.size W w' := fun W hb => by
    rcases hu : i.useImm with _ | _
    · rw [show i.srcS k = (k.r i.src).sp from by unfold Ins8.srcS; simp [hu]]
      exact csrc_reg (hI.below hb) hr hm hu (hsrc.resolve_left (by simp [hu]))
    · rw [show i.srcS k = ⟨i.imm, i.imm⟩ from by unfold Ins8.srcS; simp [hu]]
      exact csrc_imm (hI.below hb) hm hu
  have hsok := src_ok (i := i) (k := k) (by have := hm.imm; omega) hr
  have h5 : i.op = 12 ∨ i.op = 13 → (i.srcS k).l ≤ 31 := fun e => by
    have hu : i.useImm = true := by rcases e with e | e <;> simp [Ins8.useImm, e]
    rw [show i.srcS k = ⟨i.imm, i.imm⟩ from by unfold Ins8.srcS; simp [hu]]
    exact h31 e
  obtain ⟨sS, hsS⟩ : ∃ s, s = i.srcS k := ⟨_, rfl⟩
  rw [← hsS] at hsC hsok h0 h5 ⊢
  clear hsS hsrc h31
  have hdok : (Sp.mk dl dg).ok := by
    rw [hsp]; exact hr.sp _
  have hFN := fun W => mkop_ok W i.op p1 hop ⟨dl, dg⟩ sS hdok hsok h0 h5
  have hPU := fun W => cput_ok W k i.dst (mkS i.op ⟨dl, dg⟩ sS).l (mkS i.op ⟨dl, dg⟩ sS).g hdst (Nat.le_trans (mk_ok hdok hsok h0).1 (mk_ok hdok hsok h0).2) (mk_ok hdok hsok h0).2
  obtain ⟨W1, hW1⟩ : ∃ W1, W1 = (w.alloc (.cells #[.bool false, .bool false, .int .u32 0, .int .u32 0, .bool false, .int .u32 0, .int .u32 0, .bool false, .int .u32 0, .int .u32 0, .bool false, .int .u32 0, .int .u32 0, .bool false, .int .u32 0, .int .u32 0, .bool false, .int .u32 0, .int .u32 0, .bool false, .int .u32 0, .int .u32 0, .bool false, .int .u32 0, .int .u32 0, .bool false, .int .u32 0, .int .u32 0, .bool false, .int .u32 0, .int .u32 0] 42)).alloc (.cells #[.int .u64 0, .int .u64 0] 93) := ⟨_, rfl⟩
  have S1 : Sm w 0 0 W1 := by rw [hW1]; exact Sm.start w
  have hRG : (k.r i.dst).s = true → ∀ W, Below w.heap.size w W → Calls Try.prog 39 #[.pointer (some ⟨x, 0, none⟩), .int .i64 (i.dst : Int)] W fun e w' => e = .returned (.agg #[.int .u64 ((k.r i.dst).l : Int), .int .u64 ((k.r i.dst).g : Int)]) ∧ Below W.heap.size W w' := fun h W hb => reg_ok (hI.below hb) hr i.dst hdst h
  rw [hdl, hdg] at hRG
  clear hsp hdl hdg
  have HIN := Lib.hid (fun W (hb : Below w.heap.size w W) => hI.below hb)
  have HSC := Lib.hid hsC; have HFN := Lib.hid hFN; have HPU := Lib.hid hPU; have HS1 := Lib.hid S1; have HRG := Lib.hid hRG
  clear hsC hFN hPU S1 hRG hdok hsok hI hm hr h5
  have hent := enter_fnC i.op p1 hop
  have htab := tab_look i.op p1 hop
  have HENT := Lib.hid hent; have HTAB := Lib.hid htab; clear hent htab
  have HW1 := Lib.hid hW1; clear hW1
  have c1 := (HIN.out W1 HS1.out.b).cop
  have c2 := (HIN.out W1 HS1.out.b).cdst
  obtain ⟨sl, sg⟩ := sS
  have q1 : ((i.op : Int) != 1) = true := by simp; omega
  have q2 : ((i.op : Int) != 2) = true := by simp; omega
  have q14 : ((i.op : Int) != 14) = false := by simp; omega
  have k0 : (0 : Int) < sl := by have := h0 (.inl h); show (0 : Int) < (sl : Int); have : 0 < sl := this; omega
  have k1 : decide (0 < sl) = true := by simp; omega
  clear h
  go_enter Try.func44, Try.ntmps44
  go_upto_region 2 with fail
  rw [← HW1.out]
  go_upto_region 4 with (first | (go_at_call 39; (with_reducible refine (HRG.out hset _ HS1.out.b).mono ?_); rintro e w2 ⟨rfl, hb2⟩; have HS2 := Lib.hid (HS1.out.more hb2); clear hb2) | (refine wpList_store_mid rfl 93 (.tmp 3) (.tmp 26) rfl (w.heap.size + 1) 0 #[.int .u64 (dl : Int), .int .u64 (dg : Int)] rfl rfl (there_blk HS2.out.d) (by kernel_rfl) (by simp [Value.oneCell']) ?_))
  have S3 := HS2.out.setd dl dg
  generalize hW3 : w2.setCells (w.heap.size + 1) 0 [.int .u64 (dl : Int), .int .u64 (dg : Int)] = W3 at S3 ⊢
  clear hW3 c1 c2
  have HS3 := Lib.hid S3; clear S3
  go_upto_region 5 with (first | (go_at_call 54; (with_reducible refine (HSC.out _ HS3.out.b).mono ?_); rintro e w4 ⟨rfl, hb4⟩; have HS4 := Lib.hid (HS3.out.more hb4); clear hb4) | (refine wpList_store_new rfl 93 (.tmp 4) (.tmp 28) rfl #[.int .u64 0, .int .u64 0] #[.int .u64 (sl : Int), .int .u64 (sg : Int)] rfl rfl (by kernel_rfl) rfl (by simp [Value.oneCell']) ?_))
  have S5 := HS4.out.more ((Below.refl _ _).alloc (Nat.le_refl _) (.cells #[.int .u64 (sl : Int), .int .u64 (sg : Int)] 93))
  have hsb := spB w4 sl sg
  generalize hW5 : w4.alloc (.cells #[.int .u64 (sl : Int), .int .u64 (sg : Int)] 93) = W5 at S5 hsb ⊢
  clear hW5
  generalize w4.heap.size = g4 at hsb ⊢
  have HS5 := Lib.hid S5; clear S5
  have c1 := (HIN.out W5 HS5.out.b).cop
  have cs0 : W5.cell? ⟨g4, 0, none⟩ = some (.int .u64 (sl : Int)) := hsb.cell 0 (by omega)
  have HSB := Lib.hid hsb; clear hsb
  go_upto_region 6 with (go_at_call 51; (with_reducible refine (cmust_ok _ _).mono ?_); rintro e w' ⟨rfl, rfl⟩)
  clear c1 cs0
  have HIW := Lib.hid (HIN.out W5 HS5.out.b)
  obtain ⟨ix, hix⟩ := HTAB.out
  have HIX := Lib.hid hix; clear hix
  obtain ⟨R5, hR5⟩ := HS5.out.r
  have HR5 := Lib.hid hR5; clear hR5
  refine wp_region_noPanic ?_
  refine planM (.rd 0 (.rd 1 (.rd 2 (.rd 3 (.rd 4 (.rd 5 (.rd 6 (.rd 7 (.rd 8 (.rd 10 (.rd 11 (.rd 12 (.rd 13 (.rd 14 (.rd 16 (.rd 17 (.eff 9 (.eff 15 (.eff 18 (.eff 19 (.eff 20 .done))))))))))))))))))))) [0, 1, 2, 3, 4, 5, 6, 7, 8, 9, 10, 11, 12, 13, 14, 15, 16, 17, 18, 19] (fun W => Below W5.heap.size W5 W) (by kernel_rfl) (by kernel_rfl) (fun _ _ _ _ _ h => h) ((Below.refl _ _).drew) ?_
  repeat (refine pm_pure rfl (fun K hK => ?_); go_simp; refine hK _ ?_; clear hK K)
  refine pm_rd (.agg (knL k).toArray) rfl rfl (fun W hS => exec_load_mid 42 (.tmp 51) rfl (x) (6) rfl (knL k) _ (rg_below HIW.out.known hS) Try.underlying42 rfl (by rw [knL_length]; exact info_kn)) (fun K hK => ?_)
  refine hK _ ?_
  clear hK K
  repeat (refine pm_pure rfl (fun K hK => ?_); go_simp; refine hK _ ?_; clear hK K)
  refine pm_rd (.int .i64 (i.dst : Int)) rfl rfl (fun W hS => ?_) (fun K hK => ?_)
  · have f0 := (Kp.of_below hS No).cell HIW.out.cdst (fun e => e)
    simp [go_sem, f0]
  go_simp
  refine hK _ ?_
  clear hK K
  repeat (refine pm_pure rfl (fun K hK => ?_); go_simp; refine hK _ ?_; clear hK K)
  refine pm_rd (.int .i64 (i.op : Int)) rfl rfl (fun W hS => ?_) (fun K hK => ?_)
  · have f0 := (Kp.of_below hS No).cell HIW.out.cop (fun e => e)
    simp [go_sem, f0]
  go_simp
  refine hK _ ?_
  clear hK K
  repeat (refine pm_pure rfl (fun K hK => ?_); go_simp; refine hK _ ?_; clear hK K)
  refine pm_rd (.agg #[.int .u64 (dl : Int), .int .u64 (dg : Int)]) rfl rfl (fun W hS => exec_load_mid 93 (.tmp 3) rfl (w.heap.size + 1) 0 rfl [.int .u64 (dl : Int), .int .u64 (dg : Int)] _ (rg_below (spB_range HS5.out.d) hS) Try.underlying93 rfl (by kernel_rfl)) (fun K hK => ?_)
  refine hK _ ?_
  clear hK K
  refine pm_rd (.agg #[.int .u64 (sl : Int), .int .u64 (sg : Int)]) rfl rfl (fun W hS => exec_load_mid 93 (.tmp 4) rfl g4 0 rfl [.int .u64 (sl : Int), .int .u64 (sg : Int)] _ (rg_below (spB_range HSB.out) hS) Try.underlying93 rfl (by kernel_rfl)) (fun K hK => ?_)
  refine hK _ ?_
  clear hK K
  refine pm_eff rfl rfl (fun K hK => ?_)
  go_simp
  (with_reducible refine (makes_ok _).mono ?_)
  rintro e w9 ⟨rfl, rfl⟩
  have S9 : Below W5.heap.size W5 (W5.drew.alloc (.map tabE 15)) := ((Below.refl _ _).drew).alloc (Nat.le_refl _) _
  have hmb : (W5.drew.alloc (.map tabE 15)).heap[W5.drew.heap.size]? = some (.map tabE 15) := heap_alloc_new _ _
  generalize hW9 : W5.drew.alloc (.map tabE 15) = W9 at S9 hmb ⊢
  clear hW9
  have HS9 := Lib.hid S9; have HMB := Lib.hid hmb; clear S9 hmb
  refine hK _ _ (fun _ => HS9.out) ?_
  clear hK K
  refine pm_eff rfl rfl (fun K hK => ?_)
  refine wp_value (w' := W9) (.func (.func (fnC i.op)) #[] #[]) (by have h9 := run_look W9 W5.heap.size tabE 15 (i.op : Int) ix _ HMB.out HIX.out; simp [execOp, go_sem, h9]) ?_
  refine hK _ _ (fun _ => HS9.out) ?_
  clear hK K
  refine pm_eff rfl rfl (fun K hK => ?_)
  go_simp
  rw [HENT.out, Oper.upon_enter]
  have FN := HFN.out W9
  (with_reducible refine FN.mono ?_)
  rintro e w10 ⟨rfl, hb10⟩
  have HS10 := Lib.hid (HS9.out.trans (hb10.mono HS9.out.size)); clear hb10
  refine hK _ _ (fun _ => HS10.out) ?_
  clear hK K
  refine pm_eff rfl rfl (fun K hK => ?_)
  go_simp
  (with_reducible refine (HPU.out _).mono ?_)
  rintro e w11 ⟨rfl, hb11⟩
  have HS11 := Lib.hid (HS10.out.trans (hb11.mono HS10.out.size)); clear hb11
  refine hK _ _ (fun _ => HS11.out) ?_
  clear hK K
  have hB11 : Below w.heap.size w w11 := HS5.out.b.trans (HS11.out.mono HS5.out.b.size)
  have hR11 : Blk w11 w.heap.size 42 31 R5 := HR5.out.below HS11.out
  obtain ⟨W3f, HW3f, HR3f, HB3f, HK3f⟩ := fin_store hB11 hR11 (Nat.le_refl _) (knL (k.put i.dst (mkS i.op ⟨dl, dg⟩ ⟨sl, sg⟩))) (knL_length _)
  refine pm_eff rfl rfl (fun K hK => ?_)
  refine wp_store_mid 42 (.tmp 2) (.tmp 68) rfl w.heap.size 0 (knL (k.put i.dst (mkS i.op ⟨dl, dg⟩ ⟨sl, sg⟩))).toArray rfl rfl (by rw [knA_size]; exact there_blk hR11) (by rw [knA_size]; exact info_kn) (knL_one _) ?_
  rw [← HW3f.out]
  refine hK _ _ (fun h => by cases h) ?_
  clear hK K
  refine pm_done ?_
  refine NoPanic.normal ?_
  go_wp2
  exact bodyPost_ret (v := .agg (knL (k.put i.dst (mkS i.op ⟨dl, dg⟩ ⟨sl, sg⟩))).toArray) (results_cell1_range Try.results44 _ _ w.heap.size 0 _ _ rfl HR3f.out Try.underlying42 rfl (by rw [knL_length]; exact info_kn)) rfl ⟨rfl, HB3f.out⟩
end Go.Proofs.Ytjlddhnjbjhmkaa
namespace Go.Proofs.Ytjlddhnjbjhmkaa
open Go.RowKit

set_option maxRecDepth 100000 in
set_option maxHeartbeats 4000000 in
theorem sum_mid {w : World} {x : Nat} {i : Ins8} {ctx : Nat} {k : Kn} (hI : InB w x i ctx k) (hm : i.May) (h31 : i.op = 12 ∨ i.op = 13 → i.imm ≤ 31) (hr : k.right) (hop : i.op ≤ 15) (dS : Sp) (hd : 3 ≤ i.op ∧ (k.r i.dst).s = true ∧ dS = (k.r i.dst).sp) (hz : ¬ (i.op = 14 ∨ i.op = 15))
    (hsrc : i.useImm = true ∨ (k.r i.src).s = true) (h0 : i.op = 14 ∨ i.op = 15 → 0 < (i.srcS k).l) :
    Calls Try.prog 44 #[.pointer (some ⟨x, 0, none⟩)] w fun e w' => e = .returned (.agg (knL (k.put i.dst (mkS i.op dS (i.srcS k)))).toArray) ∧ Below w.heap.size w w' := by
  obtain ⟨dl, dg⟩ := dS
  obtain ⟨hge, hset, hsp⟩ := hd
  have hdl : (k.r i.dst).l = dl := (congrArg Sp.l hsp).symm
  have hdg : (k.r i.dst).g = dg := (congrArg Sp.g hsp).symm
  have hx := hI.lt
  have p1 := hm.op1
  have hdst := hm.dst
  have hdst' : (i.dst : Int) < 10 := by omega
  have hsC : ∀ W, Below w.heap.size w W → Calls Try.prog 54 #[.pointer (some ⟨x, 0, none⟩)] W fun e w' => e = .returned (.agg #[.int .u64 ((i.srcS k).l : Int), .int .u64 ((i.srcS k).g : Int)]) ∧ Below W.heap.size W w' := fun W hb => by
    rcases hu : i.useImm with _ | _
    · rw [show i.srcS k = (k.r i.src).sp from by unfold Ins8.srcS; simp [hu]]
      exact csrc_reg (hI.below hb) hr hm hu (hsrc.resolve_left (by simp [hu]))
    · rw [show i.srcS k = ⟨i.imm, i.imm⟩ from by unfold Ins8.srcS; simp [hu]]
      exact csrc_imm (hI.below hb) hm hu
  have hsok := src_ok (i := i) (k := k) (by have := hm.imm; omega) hr
  have h5 : i.op = 12 ∨ i.op = 13 → (i.srcS k).l ≤ 31 := fun e => by
    have hu : i.useImm = true := by rcases e with e | e <;> simp [Ins8.useImm, e]
    rw [show i.srcS k = ⟨i.imm, i.imm⟩ from by unfold Ins8.srcS; simp [hu]]
    exact h31 e
  obtain ⟨sS, hsS⟩ : ∃ s, s = i.srcS k := ⟨_, rfl⟩
  rw [← hsS] at hsC hsok h0 h5 ⊢
  clear hsS hsrc h31
  have hdok : (Sp.mk dl dg).ok := by
    rw [hsp]; exact hr.sp _
  have hFN := fun W => mkop_ok W i.op p1 hop ⟨dl, dg⟩ sS hdok hsok h0 h5
  have hPU := fun W => cput_ok W k i.dst (mkS i.op ⟨dl, dg⟩ sS).l (mkS i.op ⟨dl, dg⟩ sS).g hdst (Nat.le_trans (mk_ok hdok hsok h0).1 (mk_ok hdok hsok h0).2) (mk_ok hdok hsok h0).2
  obtain ⟨W1, hW1⟩ : ∃ W1, W1 = (w.alloc (.cells #[.bool false, .bool false, .int .u32 0, .int .u32 0, .bool false, .int .u32 0, .int .u32 0, .bool false, .int .u32 0, .int .u32 0, .bool false, .int .u32 0, .int .u32 0, .bool false, .int .u32 0, .int .u32 0, .bool false, .int .u32 0, .int .u32 0, .bool false, .int .u32 0, .int .u32 0, .bool false, .int .u32 0, .int .u32 0, .bool false, .int .u32 0, .int .u32 0, .bool false, .int .u32 0, .int .u32 0] 42)).alloc (.cells #[.int .u64 0, .int .u64 0] 93) := ⟨_, rfl⟩
  have S1 : Sm w 0 0 W1 := by rw [hW1]; exact Sm.start w
  have hRG : (k.r i.dst).s = true → ∀ W, Below w.heap.size w W → Calls Try.prog 39 #[.pointer (some ⟨x, 0, none⟩), .int .i64 (i.dst : Int)] W fun e w' => e = .returned (.agg #[.int .u64 ((k.r i.dst).l : Int), .int .u64 ((k.r i.dst).g : Int)]) ∧ Below W.heap.size W w' := fun h W hb => reg_ok (hI.below hb) hr i.dst hdst h
  rw [hdl, hdg] at hRG
  clear hsp hdl hdg
  have HIN := Lib.hid (fun W (hb : Below w.heap.size w W) => hI.below hb)
  have HSC := Lib.hid hsC; have HFN := Lib.hid hFN; have HPU := Lib.hid hPU; have HS1 := Lib.hid S1; have HRG := Lib.hid hRG
  clear hsC hFN hPU S1 hRG hdok hsok hI hm hr h5
  have hent := enter_fnC i.op p1 hop
  have htab := tab_look i.op p1 hop
  have HENT := Lib.hid hent; have HTAB := Lib.hid htab; clear hent htab
  have HW1 := Lib.hid hW1; clear hW1
  have c1 := (HIN.out W1 HS1.out.b).cop
  have c2 := (HIN.out W1 HS1.out.b).cdst
  obtain ⟨sl, sg⟩ := sS
  have q1 : ((i.op : Int) != 1) = true := by simp; omega
  have q2 : ((i.op : Int) != 2) = true := by simp; omega
  have q14 : ((i.op : Int) != 14) = true := by simp; omega
  have q15 : ((i.op : Int) != 15) = true := by simp; omega
  go_enter Try.func44, Try.ntmps44
  go_upto_region 2 with fail
  rw [← HW1.out]
  go_upto_region 4 with (first | (go_at_call 39; (with_reducible refine (HRG.out hset _ HS1.out.b).mono ?_); rintro e w2 ⟨rfl, hb2⟩; have HS2 := Lib.hid (HS1.out.more hb2); clear hb2) | (refine wpList_store_mid rfl 93 (.tmp 3) (.tmp 26) rfl (w.heap.size + 1) 0 #[.int .u64 (dl : Int), .int .u64 (dg : Int)] rfl rfl (there_blk HS2.out.d) (by kernel_rfl) (by simp [Value.oneCell']) ?_))
  have S3 := HS2.out.setd dl dg
  generalize hW3 : w2.setCells (w.heap.size + 1) 0 [.int .u64 (dl : Int), .int .u64 (dg : Int)] = W3 at S3 ⊢
  clear hW3 c1 c2
  have HS3 := Lib.hid S3; clear S3
  go_upto_region 5 with (first | (go_at_call 54; (with_reducible refine (HSC.out _ HS3.out.b).mono ?_); rintro e w4 ⟨rfl, hb4⟩; have HS4 := Lib.hid (HS3.out.more hb4); clear hb4) | (refine wpList_store_new rfl 93 (.tmp 4) (.tmp 28) rfl #[.int .u64 0, .int .u64 0] #[.int .u64 (sl : Int), .int .u64 (sg : Int)] rfl rfl (by kernel_rfl) rfl (by simp [Value.oneCell']) ?_))
  have S5 := HS4.out.more ((Below.refl _ _).alloc (Nat.le_refl _) (.cells #[.int .u64 (sl : Int), .int .u64 (sg : Int)] 93))
  have hsb := spB w4 sl sg
  generalize hW5 : w4.alloc (.cells #[.int .u64 (sl : Int), .int .u64 (sg : Int)] 93) = W5 at S5 hsb ⊢
  clear hW5
  generalize w4.heap.size = g4 at hsb ⊢
  have HS5 := Lib.hid S5; clear S5
  have c1 := (HIN.out W5 HS5.out.b).cop
  have cs0 : W5.cell? ⟨g4, 0, none⟩ = some (.int .u64 (sl : Int)) := hsb.cell 0 (by omega)
  have HSB := Lib.hid hsb; clear hsb
  go_upto_region 6 with (go_at_call 51; (with_reducible refine (cmust_ok _ _).mono ?_); rintro e w' ⟨rfl, rfl⟩)
  clear c1 cs0
  have HIW := Lib.hid (HIN.out W5 HS5.out.b)
  obtain ⟨ix, hix⟩ := HTAB.out
  have HIX := Lib.hid hix; clear hix
  obtain ⟨R5, hR5⟩ := HS5.out.r
  have HR5 := Lib.hid hR5; clear hR5
  refine wp_region_noPanic ?_
  refine planM (.rd 0 (.rd 1 (.rd 2 (.rd 3 (.rd 4 (.rd 5 (.rd 6 (.rd 7 (.rd 8 (.rd 10 (.rd 11 (.rd 12 (.rd 13 (.rd 14 (.rd 16 (.rd 17 (.eff 9 (.eff 15 (.eff 18 (.eff 19 (.eff 20 .done))))))))))))))))))))) [0, 1, 2, 3, 4, 5, 6, 7, 8, 9, 10, 11, 12, 13, 14, 15, 16, 17, 18, 19] (fun W => Below W5.heap.size W5 W) (by kernel_rfl) (by kernel_rfl) (fun _ _ _ _ _ h => h) ((Below.refl _ _).drew) ?_
  repeat (refine pm_pure rfl (fun K hK => ?_); go_simp; refine hK _ ?_; clear hK K)
  refine pm_rd (.agg (knL k).toArray) rfl rfl (fun W hS => exec_load_mid 42 (.tmp 51) rfl (x) (6) rfl (knL k) _ (rg_below HIW.out.known hS) Try.underlying42 rfl (by rw [knL_length]; exact info_kn)) (fun K hK => ?_)
  refine hK _ ?_
  clear hK K
  repeat (refine pm_pure rfl (fun K hK => ?_); go_simp; refine hK _ ?_; clear hK K)
  refine pm_rd (.int .i64 (i.dst : Int)) rfl rfl (fun W hS => ?_) (fun K hK => ?_)
  · have f0 := (Kp.of_below hS No).cell HIW.out.cdst (fun e => e)
    simp [go_sem, f0]
  go_simp
  refine hK _ ?_
  clear hK K
  repeat (refine pm_pure rfl (fun K hK => ?_); go_simp; refine hK _ ?_; clear hK K)
  refine pm_rd (.int .i64 (i.op : Int)) rfl rfl (fun W hS => ?_) (fun K hK => ?_)
  · have f0 := (Kp.of_below hS No).cell HIW.out.cop (fun e => e)
    simp [go_sem, f0]
  go_simp
  refine hK _ ?_
  clear hK K
  repeat (refine pm_pure rfl (fun K hK => ?_); go_simp; refine hK _ ?_; clear hK K)
  refine pm_rd (.agg #[.int .u64 (dl : Int), .int .u64 (dg : Int)]) rfl rfl (fun W hS => exec_load_mid 93 (.tmp 3) rfl (w.heap.size + 1) 0 rfl [.int .u64 (dl : Int), .int .u64 (dg : Int)] _ (rg_below (spB_range HS5.out.d) hS) Try.underlying93 rfl (by kernel_rfl)) (fun K hK => ?_)
  refine hK _ ?_
  clear hK K
  refine pm_rd (.agg #[.int .u64 (sl : Int), .int .u64 (sg : Int)]) rfl rfl (fun W hS => exec_load_mid 93 (.tmp 4) rfl g4 0 rfl [.int .u64 (sl : Int), .int .u64 (sg : Int)] _ (rg_below (spB_range HSB.out) hS) Try.underlying93 rfl (by kernel_rfl)) (fun K hK => ?_)
  refine hK _ ?_
  clear hK K
  refine pm_eff rfl rfl (fun K hK => ?_)
  go_simp
  (with_reducible refine (makes_ok _).mono ?_)
  rintro e w9 ⟨rfl, rfl⟩
  have S9 : Below W5.heap.size W5 (W5.drew.alloc (.map tabE 15)) := ((Below.refl _ _).drew).alloc (Nat.le_refl _) _
  have hmb : (W5.drew.alloc (.map tabE 15)).heap[W5.drew.heap.size]? = some (.map tabE 15) := heap_alloc_new _ _
  generalize hW9 : W5.drew.alloc (.map tabE 15) = W9 at S9 hmb ⊢
  clear hW9
  have HS9 := Lib.hid S9; have HMB := Lib.hid hmb; clear S9 hmb
  refine hK _ _ (fun _ => HS9.out) ?_
  clear hK K
  refine pm_eff rfl rfl (fun K hK => ?_)
  refine wp_value (w' := W9) (.func (.func (fnC i.op)) #[] #[]) (by have h9 := run_look W9 W5.heap.size tabE 15 (i.op : Int) ix _ HMB.out HIX.out; simp [execOp, go_sem, h9]) ?_
  refine hK _ _ (fun _ => HS9.out) ?_
  clear hK K
  refine pm_eff rfl rfl (fun K hK => ?_)
  go_simp
  rw [HENT.out, Oper.upon_enter]
  have FN := HFN.out W9
  (with_reducible refine FN.mono ?_)
  rintro e w10 ⟨rfl, hb10⟩
  have HS10 := Lib.hid (HS9.out.trans (hb10.mono HS9.out.size)); clear hb10
  refine hK _ _ (fun _ => HS10.out) ?_
  clear hK K
  refine pm_eff rfl rfl (fun K hK => ?_)
  go_simp
  (with_reducible refine (HPU.out _).mono ?_)
  rintro e w11 ⟨rfl, hb11⟩
  have HS11 := Lib.hid (HS10.out.trans (hb11.mono HS10.out.size)); clear hb11
  refine hK _ _ (fun _ => HS11.out) ?_
  clear hK K
  have hB11 : Below w.heap.size w w11 := HS5.out.b.trans (HS11.out.mono HS5.out.b.size)
  have hR11 : Blk w11 w.heap.size 42 31 R5 := HR5.out.below HS11.out
  obtain ⟨W3f, HW3f, HR3f, HB3f, HK3f⟩ := fin_store hB11 hR11 (Nat.le_refl _) (knL (k.put i.dst (mkS i.op ⟨dl, dg⟩ ⟨sl, sg⟩))) (knL_length _)
  refine pm_eff rfl rfl (fun K hK => ?_)
  refine wp_store_mid 42 (.tmp 2) (.tmp 68) rfl w.heap.size 0 (knL (k.put i.dst (mkS i.op ⟨dl, dg⟩ ⟨sl, sg⟩))).toArray rfl rfl (by rw [knA_size]; exact there_blk hR11) (by rw [knA_size]; exact info_kn) (knL_one _) ?_
  rw [← HW3f.out]
  refine hK _ _ (fun h => by cases h) ?_
  clear hK K
  refine pm_done ?_
  refine NoPanic.normal ?_
  go_wp2
  exact bodyPost_ret (v := .agg (knL (k.put i.dst (mkS i.op ⟨dl, dg⟩ ⟨sl, sg⟩))).toArray) (results_cell1_range Try.results44 _ _ w.heap.size 0 _ _ rfl HR3f.out Try.underlying42 rfl (by rw [knL_length]; exact info_kn)) rfl ⟨rfl, HB3f.out⟩
end Go.Proofs.Ytjlddhnjbjhmkaa
namespace Go.Proofs.Ytjlddhnjbjhmkaa
open Go.RowKit

set_option maxRecDepth 100000 in
set_option maxHeartbeats 4000000 in
theorem sum_15 {w : World} {x : Nat} {i : Ins8} {ctx : Nat} {k : Kn} (hI : InB w x i ctx k) (hm : i.May) (h31 : i.op = 12 ∨ i.op = 13 → i.imm ≤ 31) (hr : k.right) (hop : i.op ≤ 15) (dS : Sp) (hd : 3 ≤ i.op ∧ (k.r i.dst).s = true ∧ dS = (k.r i.dst).sp) (h : i.op = 15)
    (hsrc : i.useImm = true ∨ (k.r i.src).s = true) (h0 : i.op = 14 ∨ i.op = 15 → 0 < (i.srcS k).l) :
    Calls Try.prog 44 #[.pointer (some ⟨x, 0, none⟩)] w fun e w' => e = .returned (.agg (knL (k.put i.dst (mkS i.op dS (i.srcS k)))).toArray) ∧ Below w.heap.size w w' := by
  obtain ⟨dl, dg⟩ := dS
  obtain ⟨hge, hset, hsp⟩ := hd
  have hdl : (k.r i.dst).l = dl := (congrArg Sp.l hsp).symm
  have hdg : (k.r i.dst).g = dg := (congrArg Sp.g hsp).symm
  have hx := hI.lt
  have p1 := hm.op1
  have hdst := hm.dst
  have hdst' : (i.dst : Int) < 10 := by omega
  have hsC : ∀ W, Below w.heap.size w W → Calls Try.prog 54 #[.pointer (some ⟨x, 0, none⟩)] W fun e w' => e = .returned (.agg #[.int .u64 ((i.srcS k).l : Int), .int .u64 ((i.srcS k).g : Int)]) ∧ Below W.heap.size W w' := fun W hb => by
    rcases hu : i.useImm with _ | _
    · rw [show i.srcS k = (k.r i.src).sp from by unfold Ins8.srcS; simp [hu]]
      exact csrc_reg (hI.below hb) hr hm hu (hsrc.resolve_left (by simp [hu]))
    · rw [show i.srcS k = ⟨i.imm, i.imm⟩ from by unfold Ins8.srcS; simp [hu]]
      exact csrc_imm (hI.below hb) hm hu
  have hsok := src_ok (i := i) (k := k) (by have := hm.imm; omega) hr
  have h5 : i.op = 12 ∨ i.op = 13 → (i.srcS k).l ≤ 31 := fun e => by
    have hu : i.useImm = true := by rcases e with e | e <;> simp [Ins8.useImm, e]
    rw [show i.srcS k = ⟨i.imm, i.imm⟩ from by unfold Ins8.srcS; simp [hu]]
    exact h31 e
  obtain ⟨sS, hsS⟩ : ∃ s, s = i.srcS k := ⟨_, rfl⟩
  rw [← hsS] at hsC hsok h0 h5 ⊢
  clear hsS hsrc h31
  have hdok : (Sp.mk dl dg).ok := by
    rw [hsp]; exact hr.sp _
  have hFN := fun W => mkop_ok W i.op p1 hop ⟨dl, dg⟩ sS hdok hsok h0 h5
  have hPU := fun W => cput_ok W k i.dst (mkS i.op ⟨dl, dg⟩ sS).l (mkS i.op ⟨dl, dg⟩ sS).g hdst (Nat.le_trans (mk_ok hdok hsok h0).1 (mk_ok hdok hsok h0).2) (mk_ok hdok hsok h0).2
  obtain ⟨W1, hW1⟩ : ∃ W1, W1 = (w.alloc (.cells #[.bool false, .bool false, .int .u32 0, .int .u32 0, .bool false, .int .u32 0, .int .u32 0, .bool false, .int .u32 0, .int .u32 0, .bool false, .int .u32 0, .int .u32 0, .bool false, .int .u32 0, .int .u32 0, .bool false, .int .u32 0, .int .u32 0, .bool false, .int .u32 0, .int .u32 0, .bool false, .int .u32 0, .int .u32 0, .bool false, .int .u32 0, .int .u32 0, .bool false, .int .u32 0, .int .u32 0] 42)).alloc (.cells #[.int .u64 0, .int .u64 0] 93) := ⟨_, rfl⟩
  have S1 : Sm w 0 0 W1 := by rw [hW1]; exact Sm.start w
  have hRG : (k.r i.dst).s = true → ∀ W, Below w.heap.size w W → Calls Try.prog 39 #[.pointer (some ⟨x, 0, none⟩), .int .i64 (i.dst : Int)] W fun e w' => e = .returned (.agg #[.int .u64 ((k.r i.dst).l : Int), .int .u64 ((k.r i.dst).g : Int)]) ∧ Below W.heap.size W w' := fun h W hb => reg_ok (hI.below hb) hr i.dst hdst h
  rw [hdl, hdg] at hRG
  clear hsp hdl hdg
  have HIN := Lib.hid (fun W (hb : Below w.heap.size w W) => hI.below hb)
  have HSC := Lib.hid hsC; have HFN := Lib.hid hFN; have HPU := Lib.hid hPU; have HS1 := Lib.hid S1; have HRG := Lib.hid hRG
  clear hsC hFN hPU S1 hRG hdok hsok hI hm hr h5
  have hent := enter_fnC i.op p1 hop
  have htab := tab_look i.op p1 hop
  have HENT := Lib.hid hent; have HTAB := Lib.hid htab; clear hent htab
  have HW1 := Lib.hid hW1; clear hW1
  have c1 := (HIN.out W1 HS1.out.b).cop
  have c2 := (HIN.out W1 HS1.out.b).cdst
  obtain ⟨sl, sg⟩ := sS
  have q1 : ((i.op : Int) != 1) = true := by simp; omega
  have q2 : ((i.op : Int) != 2) = true := by simp; omega
  have q14 : ((i.op : Int) != 14) = true := by simp; omega
  have q15 : ((i.op : Int) != 15) = false := by simp; omega
  have k0 : (0 : Int) < sl := by have : 0 < sl := h0 (.inr h); omega
  have k1 : decide (0 < sl) = true := by simp; omega
  clear h
  go_enter Try.func44, Try.ntmps44
  go_upto_region 2 with fail
  rw [← HW1.out]
  go_upto_region 4 with (first | (go_at_call 39; (with_reducible refine (HRG.out hset _ HS1.out.b).mono ?_); rintro e w2 ⟨rfl, hb2⟩; have HS2 := Lib.hid (HS1.out.more hb2); clear hb2) | (refine wpList_store_mid rfl 93 (.tmp 3) (.tmp 26) rfl (w.heap.size + 1) 0 #[.int .u64 (dl : Int), .int .u64 (dg : Int)] rfl rfl (there_blk HS2.out.d) (by kernel_rfl) (by simp [Value.oneCell']) ?_))
  have S3 := HS2.out.setd dl dg
  generalize hW3 : w2.setCells (w.heap.size + 1) 0 [.int .u64 (dl : Int), .int .u64 (dg : Int)] = W3 at S3 ⊢
  clear hW3 c1 c2
  have HS3 := Lib.hid S3; clear S3
  go_upto_region 5 with (first | (go_at_call 54; (with_reducible refine (HSC.out _ HS3.out.b).mono ?_); rintro e w4 ⟨rfl, hb4⟩; have HS4 := Lib.hid (HS3.out.more hb4); clear hb4) | (refine wpList_store_new rfl 93 (.tmp 4) (.tmp 28) rfl #[.int .u64 0, .int .u64 0] #[.int .u64 (sl : Int), .int .u64 (sg : Int)] rfl rfl (by kernel_rfl) rfl (by simp [Value.oneCell']) ?_))
  have S5 := HS4.out.more ((Below.refl _ _).alloc (Nat.le_refl _) (.cells #[.int .u64 (sl : Int), .int .u64 (sg : Int)] 93))
  have hsb := spB w4 sl sg
  generalize hW5 : w4.alloc (.cells #[.int .u64 (sl : Int), .int .u64 (sg : Int)] 93) = W5 at S5 hsb ⊢
  clear hW5
  generalize w4.heap.size = g4 at hsb ⊢
  have HS5 := Lib.hid S5; clear S5
  have c1 := (HIN.out W5 HS5.out.b).cop
  have cs0 : W5.cell? ⟨g4, 0, none⟩ = some (.int .u64 (sl : Int)) := hsb.cell 0 (by omega)
  have HSB := Lib.hid hsb; clear hsb
  go_upto_region 6 with (go_at_call 51; (with_reducible refine (cmust_ok _ _).mono ?_); rintro e w' ⟨rfl, rfl⟩)
  clear c1 cs0
  have HIW := Lib.hid (HIN.out W5 HS5.out.b)
  obtain ⟨ix, hix⟩ := HTAB.out
  have HIX := Lib.hid hix; clear hix
  obtain ⟨R5, hR5⟩ := HS5.out.r
  have HR5 := Lib.hid hR5; clear hR5
  refine wp_region_noPanic ?_
  refine planM (.rd 0 (.rd 1 (.rd 2 (.rd 3 (.rd 4 (.rd 5 (.rd 6 (.rd 7 (.rd 8 (.rd 10 (.rd 11 (.rd 12 (.rd 13 (.rd 14 (.rd 16 (.rd 17 (.eff 9 (.eff 15 (.eff 18 (.eff 19 (.eff 20 .done))))))))))))))))))))) [0, 1, 2, 3, 4, 5, 6, 7, 8, 9, 10, 11, 12, 13, 14, 15, 16, 17, 18, 19] (fun W => Below W5.heap.size W5 W) (by kernel_rfl) (by kernel_rfl) (fun _ _ _ _ _ h => h) ((Below.refl _ _).drew) ?_
  repeat (refine pm_pure rfl (fun K hK => ?_); go_simp; refine hK _ ?_; clear hK K)
  refine pm_rd (.agg (knL k).toArray) rfl rfl (fun W hS => exec_load_mid 42 (.tmp 51) rfl (x) (6) rfl (knL k) _ (rg_below HIW.out.known hS) Try.underlying42 rfl (by rw [knL_length]; exact info_kn)) (fun K hK => ?_)
  refine hK _ ?_
  clear hK K
  repeat (refine pm_pure rfl (fun K hK => ?_); go_simp; refine hK _ ?_; clear hK K)
  refine pm_rd (.int .i64 (i.dst : Int)) rfl rfl (fun W hS => ?_) (fun K hK => ?_)
  · have f0 := (Kp.of_below hS No).cell HIW.out.cdst (fun e => e)
    simp [go_sem, f0]
  go_simp
  refine hK _ ?_
  clear hK K
  repeat (refine pm_pure rfl (fun K hK => ?_); go_simp; refine hK _ ?_; clear hK K)
  refine pm_rd (.int .i64 (i.op : Int)) rfl rfl (fun W hS => ?_) (fun K hK => ?_)
  · have f0 := (Kp.of_below hS No).cell HIW.out.cop (fun e => e)
    simp [go_sem, f0]
  go_simp
  refine hK _ ?_
  clear hK K
  repeat (refine pm_pure rfl (fun K hK => ?_); go_simp; refine hK _ ?_; clear hK K)
  refine pm_rd (.agg #[.int .u64 (dl : Int), .int .u64 (dg : Int)]) rfl rfl (fun W hS => exec_load_mid 93 (.tmp 3) rfl (w.heap.size + 1) 0 rfl [.int .u64 (dl : Int), .int .u64 (dg : Int)] _ (rg_below (spB_range HS5.out.d) hS) Try.underlying93 rfl (by kernel_rfl)) (fun K hK => ?_)
  refine hK _ ?_
  clear hK K
  refine pm_rd (.agg #[.int .u64 (sl : Int), .int .u64 (sg : Int)]) rfl rfl (fun W hS => exec_load_mid 93 (.tmp 4) rfl g4 0 rfl [.int .u64 (sl : Int), .int .u64 (sg : Int)] _ (rg_below (spB_range HSB.out) hS) Try.underlying93 rfl (by kernel_rfl)) (fun K hK => ?_)
  refine hK _ ?_
  clear hK K
  refine pm_eff rfl rfl (fun K hK => ?_)
  go_simp
  (with_reducible refine (makes_ok _).mono ?_)
  rintro e w9 ⟨rfl, rfl⟩
  have S9 : Below W5.heap.size W5 (W5.drew.alloc (.map tabE 15)) := ((Below.refl _ _).drew).alloc (Nat.le_refl _) _
  have hmb : (W5.drew.alloc (.map tabE 15)).heap[W5.drew.heap.size]? = some (.map tabE 15) := heap_alloc_new _ _
  generalize hW9 : W5.drew.alloc (.map tabE 15) = W9 at S9 hmb ⊢
  clear hW9
  have HS9 := Lib.hid S9; have HMB := Lib.hid hmb; clear S9 hmb
  refine hK _ _ (fun _ => HS9.out) ?_
  clear hK K
  refine pm_eff rfl rfl (fun K hK => ?_)
  refine wp_value (w' := W9) (.func (.func (fnC i.op)) #[] #[]) (by have h9 := run_look W9 W5.heap.size tabE 15 (i.op : Int) ix _ HMB.out HIX.out; simp [execOp, go_sem, h9]) ?_
  refine hK _ _ (fun _ => HS9.out) ?_
  clear hK K
  refine pm_eff rfl rfl (fun K hK => ?_)
  go_simp
  rw [HENT.out, Oper.upon_enter]
  have FN := HFN.out W9
  (with_reducible refine FN.mono ?_)
  rintro e w10 ⟨rfl, hb10⟩
  have HS10 := Lib.hid (HS9.out.trans (hb10.mono HS9.out.size)); clear hb10
  refine hK _ _ (fun _ => HS10.out) ?_
  clear hK K
  refine pm_eff rfl rfl (fun K hK => ?_)
  go_simp
  (with_reducible refine (HPU.out _).mono ?_)
  rintro e w11 ⟨rfl, hb11⟩
  have HS11 := Lib.hid (HS10.out.trans (hb11.mono HS10.out.size)); clear hb11
  refine hK _ _ (fun _ => HS11.out) ?_
  clear hK K
  have hB11 : Below w.heap.size w w11 := HS5.out.b.trans (HS11.out.mono HS5.out.b.size)
  have hR11 : Blk w11 w.heap.size 42 31 R5 := HR5.out.below HS11.out
  obtain ⟨W3f, HW3f, HR3f, HB3f, HK3f⟩ := fin_store hB11 hR11 (Nat.le_refl _) (knL (k.put i.dst (mkS i.op ⟨dl, dg⟩ ⟨sl, sg⟩))) (knL_length _)
  refine pm_eff rfl rfl (fun K hK => ?_)
  refine wp_store_mid 42 (.tmp 2) (.tmp 68) rfl w.heap.size 0 (knL (k.put i.dst (mkS i.op ⟨dl, dg⟩ ⟨sl, sg⟩))).toArray rfl rfl (by rw [knA_size]; exact there_blk hR11) (by rw [knA_size]; exact info_kn) (knL_one _) ?_
  rw [← HW3f.out]
  refine hK _ _ (fun h => by cases h) ?_
  clear hK K
  refine pm_done ?_
  refine NoPanic.normal ?_
  go_wp2
  exact bodyPost_ret (v := .agg (knL (k.put i.dst (mkS i.op ⟨dl, dg⟩ ⟨sl, sg⟩))).toArray) (results_cell1_range Try.results44 _ _ w.heap.size 0 _ _ rfl HR3f.out Try.underlying42 rfl (by rw [knL_length]; exact info_kn)) rfl ⟨rfl, HB3f.out⟩
end Go.Proofs.Ytjlddhnjbjhmkaa
namespace Go.Proofs.Ytjlddhnjbjhmkaa
open Go.RowKit


set_option maxRecDepth 100000 in
set_option maxHeartbeats 4000000 in
theorem sum_unset_d {w : World} {x : Nat} {i : Ins8} {ctx : Nat} {k : Kn} (hI : InB w x i ctx k) (hm : i.May) (h3 : 3 ≤ i.op) (hs : (k.r i.dst).s = false) :
    Calls Try.prog 44 #[.pointer (some ⟨x, 0, none⟩)] w fun e w' => e = .panicked (stopC 161) ∧ Below w.heap.size w w' := by
  have hx := hI.lt
  have hdst := hm.dst
  obtain ⟨W1, hW1⟩ : ∃ W1, W1 = (w.alloc (.cells #[.bool false, .bool false, .int .u32 0, .int .u32 0, .bool false, .int .u32 0, .int .u32 0, .bool false, .int .u32 0, .int .u32 0, .bool false, .int .u32 0, .int .u32 0, .bool false, .int .u32 0, .int .u32 0, .bool false, .int .u32 0, .int .u32 0, .bool false, .int .u32 0, .int .u32 0, .bool false, .int .u32 0, .int .u32 0, .bool false, .int .u32 0, .int .u32 0, .bool false, .int .u32 0, .int .u32 0] 42)).alloc (.cells #[.int .u64 0, .int .u64 0] 93) := ⟨_, rfl⟩
  have S1 : Sm w 0 0 W1 := by rw [hW1]; exact Sm.start w
  have hRG := fun W (hb : Below w.heap.size w W) => reg_not (hI.below hb) i.dst hdst hs
  have c1 := (hI.below S1.b).cop
  have c2 := (hI.below S1.b).cdst
  have q1 : ((i.op : Int) != 1) = true := by simp; omega
  have q2 : ((i.op : Int) != 2) = true := by simp; omega
  have HS1 := Lib.hid S1; have HRG := Lib.hid hRG; clear S1 hRG hI hm hs
  have HW1 := Lib.hid hW1; clear hW1
  go_enter Try.func44, Try.ntmps44
  go_upto_region 2 with fail
  rw [← HW1.out]
  go_wp2_with (go_at_call 39; (with_reducible refine (HRG.out _ HS1.out.b).mono ?_); rintro e w2 ⟨rfl, hb2⟩; have HB2 := Lib.hid hb2; clear hb2)
  exact ⟨rfl, rfl, HS1.out.b.trans (HB2.out.mono HS1.out.b.size)⟩
set_option maxRecDepth 100000 in
set_option maxHeartbeats 4000000 in
theorem sum_unset_s {w : World} {x : Nat} {i : Ins8} {ctx : Nat} {k : Kn} (hI : InB w x i ctx k) (hm : i.May) (hr : k.right) (h3 : 3 ≤ i.op → (k.r i.dst).s = true) (hu : i.useImm = false) (hs : (k.r i.src).s = false) :
    Calls Try.prog 44 #[.pointer (some ⟨x, 0, none⟩)] w fun e w' => e = .panicked (stopC 161) ∧ Below w.heap.size w w' := by
  have hx := hI.lt
  have hdst := hm.dst
  have p1 := hm.op1
  obtain ⟨W1, hW1⟩ : ∃ W1, W1 = (w.alloc (.cells #[.bool false, .bool false, .int .u32 0, .int .u32 0, .bool false, .int .u32 0, .int .u32 0, .bool false, .int .u32 0, .int .u32 0, .bool false, .int .u32 0, .int .u32 0, .bool false, .int .u32 0, .int .u32 0, .bool false, .int .u32 0, .int .u32 0, .bool false, .int .u32 0, .int .u32 0, .bool false, .int .u32 0, .int .u32 0, .bool false, .int .u32 0, .int .u32 0, .bool false, .int .u32 0, .int .u32 0] 42)).alloc (.cells #[.int .u64 0, .int .u64 0] 93) := ⟨_, rfl⟩
  have S1 : Sm w 0 0 W1 := by rw [hW1]; exact Sm.start w
  have hRG : (k.r i.dst).s = true → ∀ W, Below w.heap.size w W → Calls Try.prog 39 #[.pointer (some ⟨x, 0, none⟩), .int .i64 (i.dst : Int)] W fun e w' => e = .returned (.agg #[.int .u64 ((k.r i.dst).l : Int), .int .u64 ((k.r i.dst).g : Int)]) ∧ Below W.heap.size W w' := fun h W hb => reg_ok (hI.below hb) hr i.dst hdst h
  have hSC := fun W (hb : Below w.heap.size w W) => csrc_not (hI.below hb) hm hu hs
  have c1 := (hI.below S1.b).cop
  have c2 := (hI.below S1.b).cdst
  have HS1 := Lib.hid S1; have HRG := Lib.hid hRG; have HSC := Lib.hid hSC; clear S1 hRG hSC hI hm hs hu hr
  have HW1 := Lib.hid hW1; clear hW1
  have hc : i.op = 1 ∨ i.op = 2 ∨ 3 ≤ i.op := by omega
  rcases hc with h | h | h
  · have q1 : ((i.op : Int) != 1) = false := by simp; omega
    clear h
    go_enter Try.func44, Try.ntmps44
    go_upto_region 2 with fail
    rw [← HW1.out]
    go_wp2_with (go_at_call 54; (with_reducible refine (HSC.out _ HS1.out.b).mono ?_); rintro e w2 ⟨rfl, hb2⟩; have HB2 := Lib.hid hb2; clear hb2)
    exact ⟨rfl, rfl, HS1.out.b.trans (HB2.out.mono HS1.out.b.size)⟩
  · have q1 : ((i.op : Int) != 1) = true := by simp; omega
    have q2 : ((i.op : Int) != 2) = false := by simp; omega
    clear h
    go_enter Try.func44, Try.ntmps44
    go_upto_region 2 with fail
    rw [← HW1.out]
    go_wp2_with (go_at_call 54; (with_reducible refine (HSC.out _ HS1.out.b).mono ?_); rintro e w2 ⟨rfl, hb2⟩; have HB2 := Lib.hid hb2; clear hb2)
    exact ⟨rfl, rfl, HS1.out.b.trans (HB2.out.mono HS1.out.b.size)⟩
  · have q1 : ((i.op : Int) != 1) = true := by simp; omega
    have q2 : ((i.op : Int) != 2) = true := by simp; omega
    have hset := h3 h
    go_enter Try.func44, Try.ntmps44
    go_upto_region 2 with fail
    rw [← HW1.out]
    go_upto_region 4 with (first | (go_at_call 39; (with_reducible refine (HRG.out hset _ HS1.out.b).mono ?_); rintro e w2 ⟨rfl, hb2⟩; have HS2 := Lib.hid (HS1.out.more hb2); clear hb2) | (refine wpList_store_mid rfl 93 (.tmp 3) (.tmp 26) rfl (w.heap.size + 1) 0 #[.int .u64 ((k.r i.dst).l : Int), .int .u64 ((k.r i.dst).g : Int)] rfl rfl (there_blk HS2.out.d) (by kernel_rfl) (by simp [Value.oneCell']) ?_))
    have S3 := HS2.out.setd (k.r i.dst).l (k.r i.dst).g
    generalize hW3 : w2.setCells (w.heap.size + 1) 0 [.int .u64 ((k.r i.dst).l : Int), .int .u64 ((k.r i.dst).g : Int)] = W3 at S3 ⊢
    clear hW3 c1 c2
    have HS3 := Lib.hid S3; clear S3
    go_wp2_with (go_at_call 54; (with_reducible refine (HSC.out _ HS3.out.b).mono ?_); rintro e w4 ⟨rfl, hb4⟩; have HB4 := Lib.hid hb4; clear hb4)
    exact ⟨rfl, rfl, HS3.out.b.trans (HB4.out.mono HS3.out.b.size)⟩
set_option maxRecDepth 100000 in
set_option maxHeartbeats 4000000 in
theorem sum_zero {w : World} {x : Nat} {i : Ins8} {ctx : Nat} {k : Kn} (hI : InB w x i ctx k) (hm : i.May) (hr : k.right) (h14 : i.op = 14 ∨ i.op = 15) (hset : (k.r i.dst).s = true) (hss : (k.r i.src).s = true) (hl : (k.r i.src).l = 0) :
    Calls Try.prog 44 #[.pointer (some ⟨x, 0, none⟩)] w fun e w' => e = .panicked (stopC 162) ∧ Below w.heap.size w w' := by
  have hx := hI.lt
  have hdst := hm.dst
  have hu : i.useImm = false := by rcases h14 with e | e <;> simp [Ins8.useImm, e]
  obtain ⟨W1, hW1⟩ : ∃ W1, W1 = (w.alloc (.cells #[.bool false, .bool false, .int .u32 0, .int .u32 0, .bool false, .int .u32 0, .int .u32 0, .bool false, .int .u32 0, .int .u32 0, .bool false, .int .u32 0, .int .u32 0, .bool false, .int .u32 0, .int .u32 0, .bool false, .int .u32 0, .int .u32 0, .bool false, .int .u32 0, .int .u32 0, .bool false, .int .u32 0, .int .u32 0, .bool false, .int .u32 0, .int .u32 0, .bool false, .int .u32 0, .int .u32 0] 42)).alloc (.cells #[.int .u64 0, .int .u64 0] 93) := ⟨_, rfl⟩
  have S1 : Sm w 0 0 W1 := by rw [hW1]; exact Sm.start w
  have hRG : (k.r i.dst).s = true → ∀ W, Below w.heap.size w W → Calls Try.prog 39 #[.pointer (some ⟨x, 0, none⟩), .int .i64 (i.dst : Int)] W fun e w' => e = .returned (.agg #[.int .u64 ((k.r i.dst).l : Int), .int .u64 ((k.r i.dst).g : Int)]) ∧ Below W.heap.size W w' := fun h W hb => reg_ok (hI.below hb) hr i.dst hdst h
  obtain ⟨sl, hsl⟩ : ∃ s, s = (k.r i.src).l := ⟨_, rfl⟩
  obtain ⟨sg, hsg⟩ : ∃ s, s = (k.r i.src).g := ⟨_, rfl⟩
  have hSC := fun W (hb : Below w.heap.size w W) => csrc_reg (hI.below hb) hr hm hu hss
  rw [← hsl, ← hsg] at hSC
  rw [← hsl] at hl
  clear hsl hsg
  subst hl
  have HIN := Lib.hid (fun W (hb : Below w.heap.size w W) => hI.below hb)
  have c1 := (hI.below S1.b).cop
  have c2 := (hI.below S1.b).cdst
  have HS1 := Lib.hid S1; have HRG := Lib.hid hRG; have HSC := Lib.hid hSC; clear S1 hRG hSC hI hm hu hr hss
  have HW1 := Lib.hid hW1; clear hW1
  have q1 : ((i.op : Int) != 1) = true := by simp; omega
  have q2 : ((i.op : Int) != 2) = true := by simp; omega
  rcases h14 with h | h
  · have q14 : ((i.op : Int) != 14) = false := by simp; omega
    clear h
    go_enter Try.func44, Try.ntmps44
    go_upto_region 2 with fail
    rw [← HW1.out]
    go_upto_region 4 with (first | (go_at_call 39; (with_reducible refine (HRG.out hset _ HS1.out.b).mono ?_); rintro e w2 ⟨rfl, hb2⟩; have HS2 := Lib.hid (HS1.out.more hb2); clear hb2) | (refine wpList_store_mid rfl 93 (.tmp 3) (.tmp 26) rfl (w.heap.size + 1) 0 #[.int .u64 ((k.r i.dst).l : Int), .int .u64 ((k.r i.dst).g : Int)] rfl rfl (there_blk HS2.out.d) (by kernel_rfl) (by simp [Value.oneCell']) ?_))
    have S3 := HS2.out.setd (k.r i.dst).l (k.r i.dst).g
    generalize hW3 : w2.setCells (w.heap.size + 1) 0 [.int .u64 ((k.r i.dst).l : Int), .int .u64 ((k.r i.dst).g : Int)] = W3 at S3 ⊢
    clear hW3 c1 c2
    have HS3 := Lib.hid S3; clear S3
    go_upto_region 5 with (first | (go_at_call 54; (with_reducible refine (HSC.out _ HS3.out.b).mono ?_); rintro e w4 ⟨rfl, hb4⟩; have HS4 := Lib.hid (HS3.out.more hb4); clear hb4) | (refine wpList_store_new rfl 93 (.tmp 4) (.tmp 28) rfl #[.int .u64 0, .int .u64 0] #[.int .u64 ((0 : Nat) : Int), .int .u64 (sg : Int)] rfl rfl (by kernel_rfl) rfl (by simp [Value.oneCell']) ?_))
    have S5 := HS4.out.more ((Below.refl _ _).alloc (Nat.le_refl _) (.cells #[.int .u64 ((0 : Nat) : Int), .int .u64 (sg : Int)] 93))
    have hsb := spB w4 0 sg
    generalize hW5 : w4.alloc (.cells #[.int .u64 ((0 : Nat) : Int), .int .u64 (sg : Int)] 93) = W5 at S5 hsb ⊢
    clear hW5
    generalize w4.heap.size = g4 at hsb ⊢
    have HS5 := Lib.hid S5; clear S5
    have c1 := (HIN.out W5 HS5.out.b).cop
    have cs0 : W5.cell? ⟨g4, 0, none⟩ = some (.int .u64 ((0 : Nat) : Int)) := hsb.cell 0 (by omega)
    have HSB := Lib.hid hsb; clear hsb
    go_wp2_with (go_at_call 51; refine (cmust_not _ _).mono ?_; rintro e w' ⟨rfl, rfl⟩)
    exact ⟨rfl, rfl, HS5.out.b⟩
  · have q14 : ((i.op : Int) != 14) = true := by simp; omega
    have q15 : ((i.op : Int) != 15) = false := by simp; omega
    clear h
    go_enter Try.func44, Try.ntmps44
    go_upto_region 2 with fail
    rw [← HW1.out]
    go_upto_region 4 with (first | (go_at_call 39; (with_reducible refine (HRG.out hset _ HS1.out.b).mono ?_); rintro e w2 ⟨rfl, hb2⟩; have HS2 := Lib.hid (HS1.out.more hb2); clear hb2) | (refine wpList_store_mid rfl 93 (.tmp 3) (.tmp 26) rfl (w.heap.size + 1) 0 #[.int .u64 ((k.r i.dst).l : Int), .int .u64 ((k.r i.dst).g : Int)] rfl rfl (there_blk HS2.out.d) (by kernel_rfl) (by simp [Value.oneCell']) ?_))
    have S3 := HS2.out.setd (k.r i.dst).l (k.r i.dst).g
    generalize hW3 : w2.setCells (w.heap.size + 1) 0 [.int .u64 ((k.r i.dst).l : Int), .int .u64 ((k.r i.dst).g : Int)] = W3 at S3 ⊢
    clear hW3 c1 c2
    have HS3 := Lib.hid S3; clear S3
    go_upto_region 5 with (first | (go_at_call 54; (with_reducible refine (HSC.out _ HS3.out.b).mono ?_); rintro e w4 ⟨rfl, hb4⟩; have HS4 := Lib.hid (HS3.out.more hb4); clear hb4) | (refine wpList_store_new rfl 93 (.tmp 4) (.tmp 28) rfl #[.int .u64 0, .int .u64 0] #[.int .u64 ((0 : Nat) : Int), .int .u64 (sg : Int)] rfl rfl (by kernel_rfl) rfl (by simp [Value.oneCell']) ?_))
    have S5 := HS4.out.more ((Below.refl _ _).alloc (Nat.le_refl _) (.cells #[.int .u64 ((0 : Nat) : Int), .int .u64 (sg : Int)] 93))
    have hsb := spB w4 0 sg
    generalize hW5 : w4.alloc (.cells #[.int .u64 ((0 : Nat) : Int), .int .u64 (sg : Int)] 93) = W5 at S5 hsb ⊢
    clear hW5
    generalize w4.heap.size = g4 at hsb ⊢
    have HS5 := Lib.hid S5; clear S5
    have c1 := (HIN.out W5 HS5.out.b).cop
    have cs0 : W5.cell? ⟨g4, 0, none⟩ = some (.int .u64 ((0 : Nat) : Int)) := hsb.cell 0 (by omega)
    have HSB := Lib.hid hsb; clear hsb
    go_wp2_with (go_at_call 51; refine (cmust_not _ _).mono ?_; rintro e w' ⟨rfl, rfl⟩)
    exact ⟨rfl, rfl, HS5.out.b⟩
end Go.Proofs.Ytjlddhnjbjhmkaa
