/- Layer 6, the document's answer: what is behind. -/
import Derived.Test.YtjlddhnjbjhmkaaRb6
import Derived.BigQuiet
import Derived.IntWalk
set_option linter.unusedVariables false
set_option linter.unusedSimpArgs false
namespace Go.Proofs.Ytjlddhnjbjhmkaa
open Go.RowKit

set_option maxRecDepth 100000 in
set_option maxHeartbeats 4000000 in
theorem rb_main (w : World) (i : Ins8) (ctx : Nat) (k : Kn) (hmb : mayB i.z = true) (hr : k.right) (hctx : ctx ≤ 256) (hco : k.come = true) (hun : unsB i k = false) : Calls Try.prog 22 #[.agg #[.int .i64 (i.op : Int), .int .i64 (i.dst : Int), .int .i64 (i.src : Int), .int .i64 i.off, .int .u32 (i.imm : Int)], .int .i64 (ctx : Int), .agg (knL k).toArray] w fun e w' => e = .returned (wayBV (behindB ctx i k)) ∧ Below w.heap.size w w' := by
  obtain ⟨L, hL⟩ : ∃ L, L = (knL k).toArray := ⟨_, rfl⟩
  obtain ⟨W1, HW1, HR1⟩ := rb_world w i k L hL
  rw [← hL]
  clear hL
  obtain ⟨hm, h31⟩ := may_of hmb
  have HM := Lib.hid hm; have H31 := Lib.hid h31; have HRT := Lib.hid hr; have HCX := Lib.hid hctx
  have HU := Lib.hid (fun W => uses_in W i.op hm.op1 hm.op2)
  clear hm h31 hr hctx hmb
  obtain ⟨us, hus⟩ : ∃ b, b = uS i.op := ⟨_, rfl⟩
  obtain ⟨ui, hui⟩ : ∃ b, b = uI i.op := ⟨_, rfl⟩
  have HUS := Lib.hid hus; have HUI := Lib.hid hui
  rw [← hus, ← hui] at HU
  clear hus hui
  go_enter Try.func22, Try.ntmps22
  go_upto_region 0 with fail
  refine wp_region_list ?_
  refine wpList_box 3 0 45 #[.int .i64 (i.op : Int), .int .i64 (i.dst : Int), .int .i64 (i.src : Int), .int .i64 i.off, .int .u32 (i.imm : Int)] w.heap.size rfl (by kernel_rfl) ?_
  refine wpList_box 5 2 42 L (w.heap.size + 1) (by simp) (by kernel_rfl) ?_
  refine wpList_alw2 6 (w.heap.size + 2) (by simp) ?_
  rw [← HW1.out]
  clear HW1
  have c0 : W1.cell? ⟨w.heap.size + 1, 0, none⟩ = some (.bool k.come) := HR1.out.kk.cell 0 (by omega)
  have hc1 : k.come = true := hco
  rw [hc1] at c0
  have i0 : W1.cell? ⟨w.heap.size, 0, none⟩ = some (.int .i64 (i.op : Int)) := HR1.out.ii.cell 0 (by omega)
  have HUN := Lib.hid hun; clear hun
  have HCO := Lib.hid hco; clear hco hc1
  go_upto_region 5 with (go_at_call 28; (with_reducible refine (HU.out _).mono ?_); rintro e w9 ⟨rfl, rfl⟩)
  obtain ⟨nb, hnb⟩ : ∃ b, b = needB i.op := ⟨_, rfl⟩
  go_cut [13] from 33 to 50 (fun sv wx => sv = .bool nb ∧ wx = W1)
  case first =>
    have ho1 := HM.out.op1
    have ho2 := HM.out.op2
    have hcs : i.op < 3 ∨ (3 ≤ i.op ∧ i.op ≤ 22 ∧ i.op ≠ 16 ∧ i.op ≠ 17 ∧ i.op ≠ 19) ∨ i.op = 16 ∨ i.op = 17 ∨ i.op = 19 ∨ 22 < i.op := by omega
    rcases hcs with h | ⟨h, h2, h3, h4, h5⟩ | h | h | h | h
    · skip
      have q : ¬ (3 : Int) ≤ (i.op : Int) := by omega
      have hq : needB i.op = false := by simp [needB]; omega
      clear ho1 ho2 h
      go_wp2_with fail
      go_meet
      exact ⟨by rw [hnb, hq]; try (first | rfl | simp [q3, q4, q5]), rfl⟩
    · skip
      have q : (3 : Int) ≤ (i.op : Int) := by omega
      have q2 : (i.op : Int) ≤ 22 := by omega
      have q3 : ¬ (i.op : Int) = 16 := by omega
      have q4 : ¬ (i.op : Int) = 17 := by omega
      have q5 : ¬ (i.op : Int) = 19 := by omega
      have hq : needB i.op = true := by simp [needB]; omega
      clear ho1 ho2 h h2 h3 h4 h5
      go_wp2_with fail
      go_meet
      exact ⟨by rw [hnb, hq]; try (first | rfl | simp [q3, q4, q5]), rfl⟩
    · skip
      have q : (i.op : Int) = 16 := by omega
      have hq : needB i.op = false := by rw [h]; rfl
      clear ho1 ho2 h
      go_wp2_with fail
      go_meet
      exact ⟨by rw [hnb, hq]; try (first | rfl | simp [q3, q4, q5]), rfl⟩
    · skip
      have q : (i.op : Int) = 17 := by omega
      have hq : needB i.op = false := by rw [h]; rfl
      clear ho1 ho2 h
      go_wp2_with fail
      go_meet
      exact ⟨by rw [hnb, hq]; try (first | rfl | simp [q3, q4, q5]), rfl⟩
    · skip
      have q : (i.op : Int) = 19 := by omega
      have hq : needB i.op = false := by rw [h]; rfl
      clear ho1 ho2 h
      go_wp2_with fail
      go_meet
      exact ⟨by rw [hnb, hq]; try (first | rfl | simp [q3, q4, q5]), rfl⟩
    · skip
      have q : (3 : Int) ≤ (i.op : Int) := by omega
      have q2 : ¬ (i.op : Int) ≤ 22 := by omega
      have hq : needB i.op = false := by simp [needB]; omega
      clear ho1 ho2 h
      go_wp2_with fail
      go_meet
      exact ⟨by rw [hnb, hq]; try (first | rfl | simp [q3, q4, q5]), rfl⟩
  case rest =>
    obtain ⟨rfl, hwc⟩ := hcut
    rw [hwc]
    clear hwc
    have HNB := Lib.hid hnb; clear hnb
    obtain ⟨ub, hub⟩ : ∃ b, b = unsB i k := ⟨_, rfl⟩
    obtain ⟨ds, hds⟩ : ∃ b, b = (k.r i.dst).s := ⟨_, rfl⟩
    obtain ⟨ss, hss⟩ : ∃ b, b = (k.r i.src).s := ⟨_, rfl⟩
    obtain ⟨rs, hrs⟩ : ∃ b, b = (k.r 0).s := ⟨_, rfl⟩
    have i1 : W1.cell? ⟨w.heap.size, 1, none⟩ = some (.int .i64 (i.dst : Int)) := HR1.out.ii.cell 1 (by omega)
    have i2 : W1.cell? ⟨w.heap.size, 2, none⟩ = some (.int .i64 (i.src : Int)) := HR1.out.ii.cell 2 (by omega)
    have e0 : W1.cell? ⟨w.heap.size + 1, 1 + i.dst * 3, none⟩ = some (.bool ds) := by have := HR1.out.kk.cell (1 + i.dst * 3) (by have := HM.out.dst; omega); rw [knF_s, ← hds] at this; exact this
    have e1 : W1.cell? ⟨w.heap.size + 1, 1 + i.src * 3, none⟩ = some (.bool ss) := by have := HR1.out.kk.cell (1 + i.src * 3) (by have := HM.out.src; omega); rw [knF_s, ← hss] at this; exact this
    have e2 : W1.cell? ⟨w.heap.size + 1, 1, none⟩ = some (.bool rs) := by have := HR1.out.kk.cell (1 + 0 * 3) (by omega); rw [knF_s, ← hrs] at this; exact this
    have hb1 : (i.dst : Int) < 10 := by have := HM.out.dst; omega
    have hb2 : (i.src : Int) < 10 := by have := HM.out.src; omega
    have heq : ub = ((nb && !ds) || (us && !ss) || (i.op == 24 && !rs)) := by rw [hub, hds, hss, hrs, HNB.out, HUS.out]; rfl
    have HEQ := Lib.hid heq; have HUB := Lib.hid hub; have HDS := Lib.hid hds; have HSS := Lib.hid hss; have HRS := Lib.hid hrs
    clear heq hub hds hss hrs
    go_upto_region 6 with fail
    go_cut [83] from 51 to 83 (fun sv wx => sv = .bool ub ∧ wx = W1)
    case first =>
      cases nb
      · skip
        cases us
        · skip
          by_cases q : i.op = 24
          · have q24 : (i.op : Int) = 24 := by omega
            have HQ := Lib.hid q; clear q
            cases rs
            · go_wp2_with fail
              go_meet
              exact ⟨by rw [HEQ.out]; first | rfl | simp [HQ.out], rfl⟩
            · go_wp2_with fail
              go_meet
              exact ⟨by rw [HEQ.out]; first | rfl | simp [HQ.out], rfl⟩
          · have q24 : ¬ (i.op : Int) = 24 := by omega
            have HQ : Hid ((i.op == 24) = false) := Lib.hid (by simpa using q); clear q
            go_wp2_with fail
            go_meet
            exact ⟨by rw [HEQ.out]; first | rfl | simp [HQ.out], rfl⟩
        · cases ss
          · have HQ : Hid True := Lib.hid trivial
            go_wp2_with fail
            go_meet
            exact ⟨by rw [HEQ.out]; first | rfl | simp [HQ.out], rfl⟩
          · skip
            by_cases q : i.op = 24
            · have q24 : (i.op : Int) = 24 := by omega
              have HQ := Lib.hid q; clear q
              cases rs
              · go_wp2_with fail
                go_meet
                exact ⟨by rw [HEQ.out]; first | rfl | simp [HQ.out], rfl⟩
              · go_wp2_with fail
                go_meet
                exact ⟨by rw [HEQ.out]; first | rfl | simp [HQ.out], rfl⟩
            · have q24 : ¬ (i.op : Int) = 24 := by omega
              have HQ : Hid ((i.op == 24) = false) := Lib.hid (by simpa using q); clear q
              go_wp2_with fail
              go_meet
              exact ⟨by rw [HEQ.out]; first | rfl | simp [HQ.out], rfl⟩
      · cases ds
        · have HQ : Hid True := Lib.hid trivial
          go_wp2_with fail
          go_meet
          exact ⟨by rw [HEQ.out]; first | rfl | simp [HQ.out], rfl⟩
        · skip
          cases us
          · skip
            by_cases q : i.op = 24
            · have q24 : (i.op : Int) = 24 := by omega
              have HQ := Lib.hid q; clear q
              cases rs
              · go_wp2_with fail
                go_meet
                exact ⟨by rw [HEQ.out]; first | rfl | simp [HQ.out], rfl⟩
              · go_wp2_with fail
                go_meet
                exact ⟨by rw [HEQ.out]; first | rfl | simp [HQ.out], rfl⟩
            · have q24 : ¬ (i.op : Int) = 24 := by omega
              have HQ : Hid ((i.op == 24) = false) := Lib.hid (by simpa using q); clear q
              go_wp2_with fail
              go_meet
              exact ⟨by rw [HEQ.out]; first | rfl | simp [HQ.out], rfl⟩
          · cases ss
            · have HQ : Hid True := Lib.hid trivial
              go_wp2_with fail
              go_meet
              exact ⟨by rw [HEQ.out]; first | rfl | simp [HQ.out], rfl⟩
            · skip
              by_cases q : i.op = 24
              · have q24 : (i.op : Int) = 24 := by omega
                have HQ := Lib.hid q; clear q
                cases rs
                · go_wp2_with fail
                  go_meet
                  exact ⟨by rw [HEQ.out]; first | rfl | simp [HQ.out], rfl⟩
                · go_wp2_with fail
                  go_meet
                  exact ⟨by rw [HEQ.out]; first | rfl | simp [HQ.out], rfl⟩
              · have q24 : ¬ (i.op : Int) = 24 := by omega
                have HQ : Hid ((i.op == 24) = false) := Lib.hid (by simpa using q); clear q
                go_wp2_with fail
                go_meet
                exact ⟨by rw [HEQ.out]; first | rfl | simp [HQ.out], rfl⟩
    case rest =>
      obtain ⟨rfl, hwc⟩ := hcut
      rw [hwc]
      clear hwc
      clear i1 i2 e0 e1 e2 hb1 hb2
      obtain rfl : ub = false := HUB.out.trans HUN.out
      clear i0 c0
      go_upto_region 8 with fail
      obtain ⟨Wd, hWd⟩ : ∃ Wd, Wd = W1.drew := ⟨_, rfl⟩
      have hbd : Below W1.heap.size W1 Wd := by rw [hWd]; exact (Below.refl _ _).drew
      have hzd : Wd.heap.size = W1.heap.size := by rw [hWd]; rfl
      refine wp_region_noPanic ?_
      refine planM (.rd 0 (.rd 1 (.rd 2 (.rd 3 (.rd 4 (.rd 6 (.rd 7 (.rd 8 (.rd 9 (.rd 10 (.many [(5, some 90), (11, some 96), (12, some 14), (13, some 15)] (.eff 14 (.eff 15 .done))))))))))))) [0, 1, 2, 3, 4, 5, 6, 7, 8, 9, 10, 11, 12, 13, 14] (fun W => Below W1.heap.size W1 W) (by kernel_rfl) (by kernel_rfl) (fun _ _ _ _ _ h => h) (by rw [← hWd]; exact hbd) ?_
      rw [← hWd]
      clear hWd
      have HBD := Lib.hid hbd; have HZD := Lib.hid hzd; clear hbd hzd
      refine pm_rdv 85 (.pointer (some ⟨w.heap.size, 1, none⟩)) rfl rfl rfl (fun W hS => by kernel_rfl) ?_
      refine pm_rdv 86 (.int .i64 (i.dst : Int)) rfl rfl rfl (fun W hS => exec_ldint (.tmp 85) rfl (by kernel_rfl) ((HR1.out.ii.below hS).cell 1 (by omega))) ?_
      refine pm_rdv 87 (.pointer (some ⟨w.heap.size + 1, 1, none⟩)) rfl rfl rfl (fun W hS => by kernel_rfl) ?_
      refine pm_rdv 88 (.pointer (some ⟨w.heap.size + 1, 1 + i.dst * 3, none⟩)) rfl rfl rfl (fun W hS => exec_idxr (.tmp 87) (.tmp 86) rfl (by kernel_rfl) (by kernel_rfl) HM.out.dst) ?_
      refine pm_rdv 89 (.agg #[.bool (k.r i.dst).s, .int .u32 ((k.r i.dst).l : Int), .int .u32 ((k.r i.dst).g : Int)]) rfl rfl rfl (fun W hS => exec_load_mid 37 (.tmp 88) rfl (w.heap.size + 1) (1 + i.dst * 3) (by kernel_rfl) [.bool (k.r i.dst).s, .int .u32 ((k.r i.dst).l : Int), .int .u32 ((k.r i.dst).g : Int)] _ (kn_rg (HR1.out.kk.below hS) _ HM.out.dst) Try.underlying37 rfl info_rg) ?_
      refine pm_rdv 91 (.pointer (some ⟨w.heap.size, 2, none⟩)) rfl rfl rfl (fun W hS => by kernel_rfl) ?_
      refine pm_rdv 92 (.int .i64 (i.src : Int)) rfl rfl rfl (fun W hS => exec_ldint (.tmp 91) rfl (by kernel_rfl) ((HR1.out.ii.below hS).cell 2 (by omega))) ?_
      refine pm_rdv 93 (.pointer (some ⟨w.heap.size + 1, 1, none⟩)) rfl rfl rfl (fun W hS => by kernel_rfl) ?_
      refine pm_rdv 94 (.pointer (some ⟨w.heap.size + 1, 1 + i.src * 3, none⟩)) rfl rfl rfl (fun W hS => exec_idxr (.tmp 93) (.tmp 92) rfl (by kernel_rfl) (by kernel_rfl) HM.out.src) ?_
      refine pm_rdv 95 (.agg #[.bool (k.r i.src).s, .int .u32 ((k.r i.src).l : Int), .int .u32 ((k.r i.src).g : Int)]) rfl rfl rfl (fun W hS => exec_load_mid 37 (.tmp 94) rfl (w.heap.size + 1) (1 + i.src * 3) (by kernel_rfl) [.bool (k.r i.src).s, .int .u32 ((k.r i.src).l : Int), .int .u32 ((k.r i.src).g : Int)] _ (kn_rg (HR1.out.kk.below hS) _ HM.out.src) Try.underlying37 rfl info_rg) ?_
      refine pm_manyW (fun l v W => SpJ W1.heap.size (.agg #[.int .i64 ((k.r i.dst).l : Int), .int .i64 ((k.r i.dst).g : Int)]) (.agg #[.int .i64 ((k.r i.src).l : Int), .int .i64 ((k.r i.src).g : Int)]) l v W) (SpJ.zero _ _ _ _) ?_ ?_
      · intro q hq l v w1 hS hb hl hn hJ
        have E : ∀ (t : Nat) (a : Act), (∀ k, k ∈ [(5, some 90), (11, some 96), (12, some 14), (13, some 15)] → k.2 ≠ some t) → (putM v l [(5, some 90), (11, some 96), (12, some 14), (13, some 15)] a).tmps[t]?.getD undef = a.tmps[t]?.getD undef := fun t a h => by simpa [Array.getD_eq_getD_getElem?] using putM_eval_other (v := v) (l := l) t [(5, some 90), (11, some 96), (12, some 14), (13, some 15)] a h
        simp only [List.mem_cons, List.not_mem_nil, or_false] at hq
        rcases hq with rfl | rfl | rfl | rfl
        · refine pm_one rfl rfl (fun K' hK => ?_)
          refine wp_calls_ret (f := 33) (args := #[.agg #[.bool (k.r i.dst).s, .int .u32 ((k.r i.dst).l : Int), .int .u32 ((k.r i.dst).g : Int)]]) ?_ (refspan_ok w1 (k.r i.dst) (by have h1 := (HRT.out i.dst).1; have h2 := (HRT.out i.dst).2.1; omega) (HRT.out i.dst).2.1) (fun w3 hb3 => ?_)
          · simp [execOp, go_sem]
            exact (E 89 _ (by simp)).trans rfl
          exact hK _ _ ⟨_, rfl, Below.trans hS (hb3.mono hS.size), Below.trans hb (hb3.mono hb.size), hJ.a hb3⟩
        · refine pm_one rfl rfl (fun K' hK => ?_)
          refine wp_calls_ret (f := 33) (args := #[.agg #[.bool (k.r i.src).s, .int .u32 ((k.r i.src).l : Int), .int .u32 ((k.r i.src).g : Int)]]) ?_ (refspan_ok w1 (k.r i.src) (by have h1 := (HRT.out i.src).1; have h2 := (HRT.out i.src).2.1; omega) (HRT.out i.src).2.1) (fun w3 hb3 => ?_)
          · simp [execOp, go_sem]
            exact (E 95 _ (by simp)).trans rfl
          exact hK _ _ ⟨_, rfl, Below.trans hS (hb3.mono hS.size), Below.trans hb (hb3.mono hb.size), hJ.b hb3⟩
        · refine pm_one rfl rfl (fun K' hK => ?_)
          refine wp_value (w' := w1.alloc (.cells #[.int .i64 0, .int .i64 0] 83)) (.pointer (some ⟨w1.heap.size, 0, none⟩)) (by kernel_rfl) ?_
          have hb3 : Below w1.heap.size w1 (w1.alloc (.cells #[.int .i64 0, .int .i64 0] 83)) := (Below.refl _ _).alloc (Nat.le_refl _) _
          exact hK _ _ ⟨_, rfl, Below.trans hS (hb3.mono hS.size), Below.trans hb (hb3.mono hb.size), hJ.c hS.size⟩
        · refine pm_one rfl rfl (fun K' hK => ?_)
          refine wp_value (w' := w1.alloc (.cells #[.int .i64 0, .int .i64 0] 83)) (.pointer (some ⟨w1.heap.size, 0, none⟩)) (by kernel_rfl) ?_
          have hb3 : Below w1.heap.size w1 (w1.alloc (.cells #[.int .i64 0, .int .i64 0] 83)) := (Below.refl _ _).alloc (Nat.le_refl _) _
          exact hK _ _ ⟨_, rfl, Below.trans hS (hb3.mono hS.size), Below.trans hb (hb3.mono hb.size), hJ.d hS.size⟩
      intro lq vq Wq hS hb hl hJ
      have v5 := hJ.p (hl (5, some 90) (by simp))
      have v11 := hJ.q (hl (11, some 96) (by simp))
      obtain ⟨b1, v12, hz1, hB1⟩ := hJ.s.a (hl (12, some 14) (by simp))
      obtain ⟨b2, v13, hz2, hB2⟩ := hJ.s.b (hl (13, some 15) (by simp))
      have hne := hJ.s.e (hl (12, some 14) (by simp)) (hl (13, some 15) (by simp))
      have hne2 : b1 ≠ b2 := fun e => hne (by rw [v12, v13, e])
      simp only [putM, if_true, v5, v11, v12, v13]
      clear hJ v5 v11 v12 v13 hl hne
      have hrq := HR1.out.more hS
      have hz := HR1.out.lt
      have HZ1 : Hid (w.heap.size + 3 ≤ b1) := Lib.hid (by omega)
      have HZ2 : Hid (w.heap.size + 3 ≤ b2) := Lib.hid (by omega)
      have HNE := Lib.hid hne2
      clear hb hz hz2 hne2
      refine pm_store rfl rfl rfl 83 (.tmp 14) (.tmp 90) rfl b1 0 #[.int .i64 ((k.r i.dst).l : Int), .int .i64 ((k.r i.dst).g : Int)] (by kernel_rfl) (by kernel_rfl) (there_blk hB1) size_sp83 (by simp [Value.oneCell']) (fun _ => (Kp.setCells (w := W1) (b := b1) (.inr hz1) _ _ _ (Kp.of_below hS No)).below) ?_
      clear hS hz1
      have hk1 : Kp (fun x => x = b1) Wq (Wq.setCells b1 0 [.int .i64 ((k.r i.dst).l : Int), .int .i64 ((k.r i.dst).g : Int)]) := Kp.setCells (M := fun x => x = b1) (.inl rfl) _ _ _ (Kp.refl _ _)
      have hd1 := snB.fill hB1 (k.r i.dst).sp
      have hB2' := hB2.keep hk1 (by have := HNE.out; omega)
      have hr1 := hrq.set b1 HZ1.out 0 [.int .i64 ((k.r i.dst).l : Int), .int .i64 ((k.r i.dst).g : Int)]
      obtain ⟨Wr, hWr⟩ : ∃ Wr, Wr = Wq.setCells b1 0 [.int .i64 ((k.r i.dst).l : Int), .int .i64 ((k.r i.dst).g : Int)] := ⟨_, rfl⟩
      have hd1 : snB (Wq.setCells b1 0 [.int .i64 ((k.r i.dst).l : Int), .int .i64 ((k.r i.dst).g : Int)]) b1 (k.r i.dst).sp := hd1
      show wpPlanM _ _ _ _ _ _ _ _ (Wq.setCells b1 0 [.int .i64 ((k.r i.dst).l : Int), .int .i64 ((k.r i.dst).g : Int)])
      rw [← hWr] at hd1 hB2' hr1 ⊢
      clear hWr hk1 hB1 hB2 hrq
      refine pm_store rfl rfl rfl 83 (.tmp 15) (.tmp 96) rfl b2 0 #[.int .i64 ((k.r i.src).l : Int), .int .i64 ((k.r i.src).g : Int)] (by kernel_rfl) (by kernel_rfl) (there_blk hB2') size_sp83 (by simp [Value.oneCell']) (fun h => by cases h) ?_
      have hk2 : Kp (fun x => x = b2) Wr (Wr.setCells b2 0 [.int .i64 ((k.r i.src).l : Int), .int .i64 ((k.r i.src).g : Int)]) := Kp.setCells (M := fun x => x = b2) (.inl rfl) _ _ _ (Kp.refl _ _)
      have hs2 : snB (Wr.setCells b2 0 [.int .i64 ((k.r i.src).l : Int), .int .i64 ((k.r i.src).g : Int)]) b2 (k.r i.src).sp := snB.fill hB2' (k.r i.src).sp
      have hd2 : snB (Wr.setCells b2 0 [.int .i64 ((k.r i.src).l : Int), .int .i64 ((k.r i.src).g : Int)]) b1 (k.r i.dst).sp := Blk.keep hd1 hk2 (by have := HNE.out; omega)
      have hr2 := hr1.set b2 HZ2.out 0 [.int .i64 ((k.r i.src).l : Int), .int .i64 ((k.r i.src).g : Int)]
      obtain ⟨W2, hW2⟩ : ∃ W2, W2 = Wr.setCells b2 0 [.int .i64 ((k.r i.src).l : Int), .int .i64 ((k.r i.src).g : Int)] := ⟨_, rfl⟩
      show wpPlanM _ _ _ _ _ _ _ _ (Wr.setCells b2 0 [.int .i64 ((k.r i.src).l : Int), .int .i64 ((k.r i.src).g : Int)])
      rw [← hW2] at hs2 hd2 hr2 ⊢
      have HR2 := Lib.hid hr2; have HD2 := Lib.hid hd2; have HS2 := Lib.hid hs2
      clear hW2 hk2 hs2 hd2 hr2 hr1 hB2' hd1 HR1
      refine pm_done ?_
      refine NoPanic.normal ?_
      obtain ⟨d, hdd⟩ : ∃ d, d = (k.r i.dst).sp := ⟨_, rfl⟩
      obtain ⟨s, hse⟩ : ∃ s, s = srefS i k := ⟨_, rfl⟩
      have HDE := Lib.hid hdd; have HSE := Lib.hid hse
      rw [← hdd] at HD2
      clear hdd hse
      have i4 : W2.cell? ⟨w.heap.size, 4, none⟩ = some (.int .u32 (i.imm : Int)) := HR2.out.ii.cell 4 (by omega)
      have him : (i.imm : Int) ≤ 4294967295 := by have := HM.out.imm; omega
      go_upto_if 97 with fail
      go_cut [] from 98 to 104 (fun wx => Rb w i k wx ∧ snB wx b1 d ∧ snB wx b2 s)
      case first =>
        cases ui
        · go_wp2_with fail
          go_meet
          exact ⟨HR2.out, HD2.out, by rw [HSE.out]; unfold srefS; rw [← HUI.out]; exact HS2.out⟩
        · go_upto_region 10 with fail
          refine wp_region_list ?_
          refine wpList_val0 (.pointer (some ⟨w.heap.size, 4, none⟩)) rfl (by kernel_rfl) ?_
          refine wpList_val0 (.int .u32 (i.imm : Int)) rfl (exec_ldu32 (.tmp 98) rfl (by kernel_rfl) i4) ?_
          refine wpList_val0 (.int .i64 (i.imm : Int)) rfl (exec_cv64 (.tmp 99) rfl (by kernel_rfl) (by omega) him) ?_
          refine wpList_val0 (.pointer (some ⟨w.heap.size, 4, none⟩)) rfl (by kernel_rfl) ?_
          refine wpList_val0 (.int .u32 (i.imm : Int)) rfl (exec_ldu32 (.tmp 101) rfl (by kernel_rfl) i4) ?_
          refine wpList_val0 (.int .i64 (i.imm : Int)) rfl (exec_cv64 (.tmp 102) rfl (by kernel_rfl) (by omega) him) ?_
          refine wpList_val0 (.agg #[.int .i64 (i.imm : Int), .int .i64 (i.imm : Int)]) rfl (exec_build2 83 0 1 (.tmp 100) (.tmp 103) rfl (.int .i64 (i.imm : Int)) (.int .i64 (i.imm : Int)) (by kernel_rfl) (by kernel_rfl) _ (bsp _ _ _)) ?_
          refine wpList_store_mid rfl 83 (.tmp 15) (.tmp 104) (by kernel_rfl) b2 0 #[.int .i64 (i.imm : Int), .int .i64 (i.imm : Int)] (by kernel_rfl) (by kernel_rfl) (there_blk HS2.out) size_sp83 (by simp [Value.oneCell']) ?_
          have hk1 : Kp (fun x => x = b2) W2 (W2.setCells b2 0 [.int .i64 (i.imm : Int), .int .i64 (i.imm : Int)]) := Kp.setCells (M := fun x => x = b2) (.inl rfl) _ _ _ (Kp.refl _ _)
          have hd1 := Blk.keep HD2.out hk1 (by have := HNE.out; omega)
          have hs1 : snB (W2.setCells b2 0 [.int .i64 (i.imm : Int), .int .i64 (i.imm : Int)]) b2 s := by rw [HSE.out]; unfold srefS; rw [← HUI.out]; exact snB.fill HS2.out ⟨i.imm, i.imm⟩
          have hr1 := HR2.out.set b2 HZ2.out 0 [.int .i64 (i.imm : Int), .int .i64 (i.imm : Int)]
          obtain ⟨Wr, hWr⟩ : ∃ Wr, Wr = W2.setCells b2 0 [.int .i64 (i.imm : Int), .int .i64 (i.imm : Int)] := ⟨_, rfl⟩
          show wpList _ _ _ _ _ (W2.setCells b2 0 [.int .i64 (i.imm : Int), .int .i64 (i.imm : Int)])
          rw [← hWr] at hd1 hs1 hr1 ⊢
          have H1 := Lib.hid hd1; have H2 := Lib.hid hs1; have H3 := Lib.hid hr1
          clear hWr hk1 hd1 hs1 hr1
          go_wp2_with fail
          go_meet
          exact ⟨H3.out, H1.out, H2.out⟩
      case rest =>
        obtain ⟨hr3, hd3, hs3⟩ := hcut
        obtain ⟨W3, hW3⟩ : ∃ W3, W3 = wc := ⟨_, rfl⟩
        rw [← hW3] at hr3 hd3 hs3 ⊢
        clear i4 him HR2 HD2 HS2
        have HR3 := Lib.hid hr3; have HD3 := Lib.hid hd3; have HS3 := Lib.hid hs3
        clear hr3 hd3 hs3 hW3
        have s0 : W3.cell? ⟨b2, 0, none⟩ = some (.int .i64 (s.l : Int)) := HS3.out.l
        obtain ⟨dz, hdz⟩ : ∃ b, b = divB i s := ⟨_, rfl⟩
        go_upto_region 11 with fail
        go_cut [115] from 105 to 115 (fun sv wx => sv = .bool dz ∧ wx = W3)
        case first =>
          by_cases h1 : i.op = 14
          · have q1 : (i.op : Int) = 14 := by omega
            have HQ1 := Lib.hid h1; clear h1
            by_cases h2 : s.l = 0
            · have q2 : (s.l : Int) = 0 := by omega
              have HQ2 := Lib.hid h2; clear h2
              go_wp2_with fail
              go_meet
              exact ⟨by rw [hdz]; unfold divB; first | (simp [HQ1.out, HQ2.out]; done) | (simp [HQ1.out, HQ2.out]; rw [Bool.eq_iff_iff]; simp), rfl⟩
            · have q2 : ¬ (s.l : Int) = 0 := by omega
              have HQ2 := Lib.hid h2; clear h2
              go_wp2_with fail
              go_meet
              exact ⟨by rw [hdz]; unfold divB; first | (simp [HQ1.out, HQ2.out]; done) | (simp [HQ1.out, HQ2.out]; rw [Bool.eq_iff_iff]; simp), rfl⟩
          · have q1 : ¬ (i.op : Int) = 14 := by omega
            have HQ1 := Lib.hid h1; clear h1
            by_cases h3 : i.op = 15
            · have q3 : (i.op : Int) = 15 := by omega
              have HQ3 := Lib.hid h3; clear h3
              by_cases h2 : s.l = 0
              · have q2 : (s.l : Int) = 0 := by omega
                have HQ2 := Lib.hid h2; clear h2
                go_wp2_with fail
                go_meet
                exact ⟨by rw [hdz]; unfold divB; first | (simp [HQ1.out, HQ2.out, HQ3.out]; done) | (simp [HQ1.out, HQ2.out, HQ3.out]; rw [Bool.eq_iff_iff]; simp), rfl⟩
              · have q2 : ¬ (s.l : Int) = 0 := by omega
                have HQ2 := Lib.hid h2; clear h2
                go_wp2_with fail
                go_meet
                exact ⟨by rw [hdz]; unfold divB; first | (simp [HQ1.out, HQ2.out, HQ3.out]; done) | (simp [HQ1.out, HQ2.out, HQ3.out]; rw [Bool.eq_iff_iff]; simp), rfl⟩
            · have q3 : ¬ (i.op : Int) = 15 := by omega
              have HQ2 := Lib.hid h3; clear h3
              go_wp2_with fail
              go_meet
              exact ⟨by rw [hdz]; unfold divB; first | (simp [HQ1.out, HQ2.out]; done) | (simp [HQ1.out, HQ2.out]; rw [Bool.eq_iff_iff]; simp), rfl⟩
        case rest =>
          obtain ⟨rfl, hwc⟩ := hcut
          rw [hwc]
          clear hwc s0
          have HDZ := Lib.hid hdz; clear hdz
          cases dz
          · skip
            go_upto_region 13 with fail
            refine wp_region_list ?_
            refine wpList_lds 117 15 b2 (s.l : Int) (s.g : Int) (by kernel_rfl) (by kernel_rfl) HS3.out ?_
            obtain ⟨b3, hb3⟩ : ∃ b3, b3 = W3.heap.size := ⟨_, rfl⟩
            refine wpList_als 16 b3 hb3 ?_
            have hX : Blk (W3.alloc (.cells #[.int .i64 0, .int .i64 0] 83)) b3 83 2 (fun j => [.int .i64 0, .int .i64 0].getD j undef) := by rw [hb3]; exact Blk.litL W3 83 [.int .i64 0, .int .i64 0]
            have hba : Below W3.heap.size W3 (W3.alloc (.cells #[.int .i64 0, .int .i64 0] 83)) := (Below.refl _ _).alloc (Nat.le_refl _) _
            have hrx := HR3.out.more hba
            have hdx := Blk.below HD3.out hba
            have hsx := Blk.below HS3.out hba
            have hl1 : b1 < b3 := by rw [hb3]; exact Blk.lt HD3.out
            have hl2 : b2 < b3 := by rw [hb3]; exact Blk.lt HS3.out
            obtain ⟨Wx, hWx⟩ : ∃ Wx, Wx = W3.alloc (.cells #[.int .i64 0, .int .i64 0] 83) := ⟨_, rfl⟩
            rw [← hWx] at hX hrx hdx hsx ⊢
            clear hWx hba hb3
            refine wpList_store_mid rfl 83 (.tmp 16) (.tmp 117) (by kernel_rfl) b3 0 #[.int .i64 (s.l : Int), .int .i64 (s.g : Int)] (by kernel_rfl) (by kernel_rfl) (there_blk hX) size_sp83 (by simp [Value.oneCell']) ?_
            have hk : Kp (fun x => x = b3) Wx (Wx.setCells b3 0 [.int .i64 (s.l : Int), .int .i64 (s.g : Int)]) := Kp.setCells (M := fun x => x = b3) (.inl rfl) _ _ _ (Kp.refl _ _)
            have hX2 : snB (Wx.setCells b3 0 [.int .i64 (s.l : Int), .int .i64 (s.g : Int)]) b3 s := snB.fill hX s
            have hr4 := hrx.set b3 (by have := HZ1.out; omega) 0 [.int .i64 (s.l : Int), .int .i64 (s.g : Int)]
            have hd4 : snB (Wx.setCells b3 0 [.int .i64 (s.l : Int), .int .i64 (s.g : Int)]) b1 d := Blk.keep hdx hk (by omega)
            have hs4 : snB (Wx.setCells b3 0 [.int .i64 (s.l : Int), .int .i64 (s.g : Int)]) b2 s := Blk.keep hsx hk (by omega)
            obtain ⟨W4, hW4⟩ : ∃ W4, W4 = Wx.setCells b3 0 [.int .i64 (s.l : Int), .int .i64 (s.g : Int)] := ⟨_, rfl⟩
            show wpList _ _ _ _ _ (Wx.setCells b3 0 [.int .i64 (s.l : Int), .int .i64 (s.g : Int)])
            rw [← hW4] at hX2 hr4 hd4 hs4 ⊢
            have HR4 := Lib.hid hr4; have HD4 := Lib.hid hd4; have HS4 := Lib.hid hs4; have HB4 := Lib.hid hX2; have HL1 := Lib.hid hl1; have HL2 := Lib.hid hl2
            clear hW4 hX hrx hdx hsx hk hX2 hr4 hd4 hs4 hl1 hl2 HR3 HD3 HS3
            go_upto_region 14 with fail
            have hcl : i.op ≤ 15 ∨ i.op = 16 ∨ i.op = 17 ∨ i.op = 18 ∨ i.op = 19 ∨ (i.op = 20 ∨ i.op = 21 ∨ i.op = 22) ∨ i.op = 23 ∨ i.op = 24 := by have := HM.out.op2; omega
            rcases hcl with h | h | h | h | h | h | h | h
            · skip
              have ho1 := HM.out.op1
              have q15 : (i.op : Int) ≤ 15 := by omega
              have qn16 : ¬ (16 : Int) ≤ (i.op : Int) := by omega
              have n14 : ¬ (i.op : Int) = 16 := by omega
              have n15 : ¬ (i.op : Int) = 18 := by omega
              have e23 : s = i.srcS k := by rw [HSE.out]; exact sref_is HM.out.op1 HM.out.op2 (by omega)
              have hdok : d.ok := by rw [HDE.out]; exact HRT.out.sp _
              have hsok : s.ok := by rw [e23]; exact src_ok (by have := HM.out.imm; omega) HRT.out
              have hdiv : ¬ ((i.op = 14 ∨ i.op = 15) ∧ s.l = 0) := by
                have h := HDZ.out
                unfold divB at h
                rintro ⟨a, b⟩
                rw [b] at h
                rcases a with a | a <;> rw [a] at h <;> cases h
              have h5 : i.op = 12 ∨ i.op = 13 → s.l ≤ 31 := by
                intro a
                have hu : i.useImm = true := by rcases a with a | a <;> simp [Ins8.useImm, a]
                rw [e23]
                unfold Ins8.srcS
                rw [if_pos hu]
                exact H31.out a
              have hbh : behindB ctx i k = .ok (k.put i.dst (mkS i.op d s)) kn0 := by rw [HDE.out, e23]; exact bB_sum HCO.out HUN.out HM.out.op1 (by omega) (by rw [← e23]; exact hdiv)
              have hmk := fun W => refmake_ok W i.op HM.out.op1 (by omega) d s hdok hsok (fun a => by rcases Nat.eq_zero_or_pos s.l with h | h; exact absurd ⟨a, h⟩ hdiv; exact h) h5
              have hmok : (mkS i.op d s).ok := mk_ok hdok hsok (fun a => by rcases Nat.eq_zero_or_pos s.l with h | h; exact absurd ⟨a, h⟩ hdiv; exact h)
              obtain ⟨m, hm⟩ : ∃ m, m = mkS i.op d s := ⟨_, rfl⟩
              rw [← hm] at hbh hmk hmok
              have HMK := Lib.hid hmk; have HBH := Lib.hid hbh
              have HWI := Lib.hid (fun W => refwith_ok W k i.dst m.l m.g HM.out.dst (by have h1 := hmok.1; have h2 := hmok.2; omega) hmok.2)
              clear ho1 e23 hdok hsok hdiv h5 hmk hm hmok hbh h
              go_upto_region 22 with fail
              refine wp_region_noPanic ?_
              refine planM (.rd 0 (.rd 1 (.rd 2 (.rd 3 (.rd 4 (.rd 5 (.eff 6 (.eff 7 (.rd 8 (.eff 9 .done)))))))))) [0, 1, 2, 3, 4, 5, 6, 7, 8] (fun W => Below W4.heap.size W4 W) (by kernel_rfl) (by kernel_rfl) (fun _ _ _ _ _ h => h) ((Below.refl _ _).drew) ?_
              refine pm_rdv 152 (.agg (knL k).toArray) rfl rfl rfl (fun W hS => exec_load_mid 42 (.tmp 5) rfl (w.heap.size + 1) 0 (by kernel_rfl) (knL k) _ ((HR4.out.kk.below hS).range) Try.underlying42 rfl (by rw [knL_length]; exact info_kn)) ?_
              refine pm_rdv 153 (.pointer (some ⟨w.heap.size, 1, none⟩)) rfl rfl rfl (fun W hS => by kernel_rfl) ?_
              refine pm_rdv 154 (.int .i64 (i.dst : Int)) rfl rfl rfl (fun W hS => exec_ldint (.tmp 153) rfl (by kernel_rfl) ((HR4.out.ii.below hS).cell 1 (by omega))) ?_
              refine pm_rdv 155 (.int .i64 (i.op : Int)) rfl rfl rfl (fun W hS => by kernel_rfl) ?_
              refine pm_rdv 156 (.agg #[.int .i64 (d.l : Int), .int .i64 (d.g : Int)]) rfl rfl rfl (fun W hS => exec_load_mid 83 (.tmp 14) rfl b1 0 (by kernel_rfl) [.int .i64 (d.l : Int), .int .i64 (d.g : Int)] _ (by have := Blk.range (Blk.below HD4.out hS); exact this) Try.underlying83 rfl size_sp83) ?_
              refine pm_rdv 157 (.agg #[.int .i64 (s.l : Int), .int .i64 (s.g : Int)]) rfl rfl rfl (fun W hS => exec_load_mid 83 (.tmp 15) rfl b2 0 (by kernel_rfl) [.int .i64 (s.l : Int), .int .i64 (s.g : Int)] _ (by have := Blk.range (Blk.below HS4.out hS); exact this) Try.underlying83 rfl size_sp83) ?_
              have hbd : Below W4.heap.size W4 W4.drew := (Below.refl _ _).drew
              obtain ⟨Wd, hWd⟩ : ∃ Wd, Wd = W4.drew := ⟨_, rfl⟩
              rw [← hWd] at hbd ⊢
              clear hWd
              refine pm_eff rfl rfl (fun K hK => ?_)
              refine wp_calls_ret (f := 35) (args := #[.int .i64 (i.op : Int), .agg #[.int .i64 (d.l : Int), .int .i64 (d.g : Int)], .agg #[.int .i64 (s.l : Int), .int .i64 (s.g : Int)]]) (by kernel_rfl) (HMK.out _) (fun w5 hb5 => ?_)
              have hb6 := hbd.trans (hb5.mono hbd.size)
              refine hK _ _ (fun _ => hb6) ?_
              clear hK K hb5 hbd
              refine pm_eff rfl rfl (fun K hK => ?_)
              refine wp_calls_ret (f := 34) (args := #[.agg (knL k).toArray, .int .i64 (i.dst : Int), .agg #[.int .i64 (m.l : Int), .int .i64 (m.g : Int)]]) (by kernel_rfl) (HWI.out _) (fun w7 hb7 => ?_)
              have hb8 := hb6.trans (hb7.mono hb6.size)
              refine hK _ _ (fun _ => hb8) ?_
              clear hK K hb7 hb6
              have HR8 := Lib.hid (HR4.out.more hb8); clear hb8
              refine pm_rdv 160 (.agg (wayL (k.put i.dst m) kn0 0).toArray) rfl rfl rfl (fun W hS => exec_build1 64 0 (.tmp 159) rfl (.agg (knL (k.put i.dst m)).toArray) (by kernel_rfl) _ (bw_n _ _)) ?_
              obtain ⟨W9, HW9, HR9, HE9, HK9⟩ := fin_store HR8.out.b HR8.out.rr (by omega) (wayL (k.put i.dst m) kn0 0) (wayL_length _ _ _)
              refine pm_store rfl rfl rfl 64 (.tmp 6) (.tmp 160) rfl (w.heap.size + 2) 0 (wayL (k.put i.dst m) kn0 0).toArray (by kernel_rfl) (by kernel_rfl) (by rw [wayA_size]; exact there_blk HR8.out.rr) (by rw [wayA_size]; exact info_way) (wayL_one _ _ _) (fun h => by cases h) ?_
              show wpPlanM _ _ _ _ _ _ _ _ (w7.setCells (w.heap.size + 2) 0 (wayL (k.put i.dst m) kn0 0))
              rw [← HW9.out]
              refine pm_done ?_
              refine NoPanic.normal ?_
              go_wp2
              refine bodyPost_ret (v := .agg (wayL (k.put i.dst m) kn0 0).toArray) (results_cell1_range Try.results22 _ _ (w.heap.size + 2) 0 (wayL (k.put i.dst m) kn0 0) _ (by kernel_rfl) HR9.out Try.underlying64 rfl (by rw [wayL_length]; exact info_way)) ?_ ⟨(congrArg (fun b => Ending.returned (wayBV b)) (HBH.out)).symm, HE9.out⟩
              rfl
            · skip
              have ho : i.op = 16 := h
              have q : (i.op : Int) = 16 := by omega
              have e23 : s = (k.r i.src).sp := by rw [HSE.out]; unfold srefS; rw [ho]; rfl
              have HOK : Hid s.ok := Lib.hid (by rw [e23]; exact HRT.out.sp _)
              have HBH : Hid (behindB ctx i k = if 0 ≤ (s.l : Int) + i.off ∧ (s.g : Int) + i.off < (ctx : Nat) then .ok (k.put i.dst ⟨0, 255⟩) kn0 else .no 163) := Lib.hid (by rw [e23]; exact bB_ld HCO.out HUN.out (.inl ⟨ho, rfl⟩))
              clear e23
              go_upto_region 19 with fail
              have b0 : W4.cell? ⟨b3, 0, none⟩ = some (.int .i64 (s.l : Int)) := HB4.out.l
              have b1c : W4.cell? ⟨b3, 1, none⟩ = some (.int .i64 (s.g : Int)) := HB4.out.g
              have i3 : W4.cell? ⟨w.heap.size, 3, none⟩ = some (.int .i64 i.off) := HR4.out.ii.cell 3 (by omega)
              have f1 : -32768 ≤ i.off := HM.out.off1
              have f2 : i.off ≤ 32767 := HM.out.off2
              have f3 : (s.l : Int) ≤ 4294967295 := by have h1 := HOK.out.1; have h2 := HOK.out.2; omega
              have f4 : (s.g : Int) ≤ 4294967295 := by have h2 := HOK.out.2; omega
              have f5 : (ctx : Int) ≤ 256 := by have := HCX.out; omega
              have q2 : (16 : Int) ≤ (i.op : Int) := by omega
              have q3 : (i.op : Int) ≤ 18 := by omega
              by_cases hA : (s.l : Int) + i.off < 0
              · have hbh : behindB ctx i k = .no 163 := by rw [HBH.out]; exact if_neg (by omega)
                have HBE := Lib.hid hbh; clear hbh h ho
                go_upto_region 20 with fail
                refine wp_region_list ?_
                refine wpList_val0 (.agg (wayL kn0 kn0 163).toArray) rfl (exec_build1 64 2 (.const (.int .i64 163)) rfl (.int .i64 163) rfl _ (bw_e _ _)) ?_
                refine wpList_stw 6 148 (w.heap.size + 2) (kn0) (kn0) 163 (by kernel_rfl) (by kernel_rfl) HR4.out.rr ?_
                obtain ⟨W9, HW9, HR9, HE9, HK9⟩ := fin_store HR4.out.b HR4.out.rr (by omega) (wayL (kn0) (kn0) 163) (wayL_length _ _ _)
                rw [← HW9.out]
                go_wp2
                refine bodyPost_ret (v := .agg (wayL (kn0) (kn0) 163).toArray) (results_cell1_range Try.results22 _ _ (w.heap.size + 2) 0 (wayL (kn0) (kn0) 163) _ (by kernel_rfl) HR9.out Try.underlying64 rfl (by rw [wayL_length]; exact info_way)) ?_ ⟨(congrArg (fun b => Ending.returned (wayBV b)) (HBE.out)).symm, HE9.out⟩
                rfl
              · by_cases hB : (ctx : Int) ≤ (s.g : Int) + i.off
                · have hbh : behindB ctx i k = .no 163 := by rw [HBH.out]; exact if_neg (by omega)
                  have HBE := Lib.hid hbh; clear hbh h ho
                  go_upto_region 20 with fail
                  refine wp_region_list ?_
                  refine wpList_val0 (.agg (wayL kn0 kn0 163).toArray) rfl (exec_build1 64 2 (.const (.int .i64 163)) rfl (.int .i64 163) rfl _ (bw_e _ _)) ?_
                  refine wpList_stw 6 148 (w.heap.size + 2) (kn0) (kn0) 163 (by kernel_rfl) (by kernel_rfl) HR4.out.rr ?_
                  obtain ⟨W9, HW9, HR9, HE9, HK9⟩ := fin_store HR4.out.b HR4.out.rr (by omega) (wayL (kn0) (kn0) 163) (wayL_length _ _ _)
                  rw [← HW9.out]
                  go_wp2
                  refine bodyPost_ret (v := .agg (wayL (kn0) (kn0) 163).toArray) (results_cell1_range Try.results22 _ _ (w.heap.size + 2) 0 (wayL (kn0) (kn0) 163) _ (by kernel_rfl) HR9.out Try.underlying64 rfl (by rw [wayL_length]; exact info_way)) ?_ ⟨(congrArg (fun b => Ending.returned (wayBV b)) (HBE.out)).symm, HE9.out⟩
                  rfl
                · have hbh : behindB ctx i k = .ok (k.put i.dst ⟨0, 255⟩) kn0 := by rw [HBH.out]; exact if_pos ⟨by omega, by omega⟩
                  have HBE := Lib.hid hbh; clear hbh h ho
                  go_upto_region 24 with fail
                  refine wp_region_list ?_
                  refine wpList_ldk 164 5 (w.heap.size + 1) 0 (k) (by kernel_rfl) (by kernel_rfl) HR4.out.kk.range ?_
                  refine wpList_val0 (.pointer (some ⟨w.heap.size, 1, none⟩)) rfl (by kernel_rfl) ?_
                  refine wpList_val0 (.int .i64 (i.dst : Int)) rfl (exec_ldint (.tmp 165) rfl (by kernel_rfl) (HR4.out.ii.cell 1 (by omega))) ?_
                  refine wpList_val0 (.agg #[.int .i64 0, .int .i64 255]) rfl (exec_build2 83 0 1 (.const (.int .i64 0)) (.const (.int .i64 255)) rfl (.int .i64 0) (.int .i64 255) rfl rfl _ (bsp _ _ _)) ?_
                  refine wpList_callg (f := 34) (args := #[.agg (knL k).toArray, .int .i64 (i.dst : Int), .agg #[.int .i64 ((0 : Nat) : Int), .int .i64 ((255 : Nat) : Int)]]) (v := .agg (knL (k.put i.dst ⟨0, 255⟩)).toArray) (R := Below W4.heap.size W4) (by kernel_rfl) (by kernel_rfl) (refwith_ok W4 k i.dst 0 255 HM.out.dst (by omega) (by omega)) (fun Wc hbc => ?_)
                  have HRC := Lib.hid (HR4.out.more hbc); clear hbc
                  refine wpList_val0 (.agg (wayL (k.put i.dst ⟨0, 255⟩) kn0 0).toArray) rfl (exec_build1 64 0 (.tmp 168) rfl (.agg (knL (k.put i.dst ⟨0, 255⟩)).toArray) (by kernel_rfl) _ (bw_n (k.put i.dst ⟨0, 255⟩) _)) ?_
                  refine wpList_stw 6 169 (w.heap.size + 2) (k.put i.dst ⟨0, 255⟩) (kn0) 0 (by kernel_rfl) (by kernel_rfl) HRC.out.rr ?_
                  obtain ⟨W9, HW9, HR9, HE9, HK9⟩ := fin_store HRC.out.b HRC.out.rr (by omega) (wayL (k.put i.dst ⟨0, 255⟩) (kn0) 0) (wayL_length _ _ _)
                  rw [← HW9.out]
                  go_wp2
                  refine bodyPost_ret (v := .agg (wayL (k.put i.dst ⟨0, 255⟩) (kn0) 0).toArray) (results_cell1_range Try.results22 _ _ (w.heap.size + 2) 0 (wayL (k.put i.dst ⟨0, 255⟩) (kn0) 0) _ (by kernel_rfl) HR9.out Try.underlying64 rfl (by rw [wayL_length]; exact info_way)) ?_ ⟨(congrArg (fun b => Ending.returned (wayBV b)) (HBE.out)).symm, HE9.out⟩
                  rfl
            · skip
              have ho : i.op = 17 := h
              have q : (i.op : Int) = 17 := by omega
              have e23 : s = (k.r i.src).sp := by rw [HSE.out]; unfold srefS; rw [ho]; rfl
              have HOK : Hid s.ok := Lib.hid (by rw [e23]; exact HRT.out.sp _)
              have HBH : Hid (behindB ctx i k = if 0 ≤ (s.l : Int) + i.off ∧ (s.g : Int) + i.off < (64 : Nat) then .ok (k.put i.dst ⟨0, 255⟩) kn0 else .no 163) := Lib.hid (by rw [e23]; exact bB_ld (size := 64) HCO.out HUN.out (.inr ⟨ho, rfl⟩))
              clear e23
              go_upto_region 19 with fail
              have b0 : W4.cell? ⟨b3, 0, none⟩ = some (.int .i64 (s.l : Int)) := HB4.out.l
              have b1c : W4.cell? ⟨b3, 1, none⟩ = some (.int .i64 (s.g : Int)) := HB4.out.g
              have i3 : W4.cell? ⟨w.heap.size, 3, none⟩ = some (.int .i64 i.off) := HR4.out.ii.cell 3 (by omega)
              have f1 : -32768 ≤ i.off := HM.out.off1
              have f2 : i.off ≤ 32767 := HM.out.off2
              have f3 : (s.l : Int) ≤ 4294967295 := by have h1 := HOK.out.1; have h2 := HOK.out.2; omega
              have f4 : (s.g : Int) ≤ 4294967295 := by have h2 := HOK.out.2; omega
              have f5 : (ctx : Int) ≤ 256 := by have := HCX.out; omega
              have q2 : (16 : Int) ≤ (i.op : Int) := by omega
              have q3 : (i.op : Int) ≤ 18 := by omega
              by_cases hA : (s.l : Int) + i.off < 0
              · have hbh : behindB ctx i k = .no 163 := by rw [HBH.out]; exact if_neg (by omega)
                have HBE := Lib.hid hbh; clear hbh h ho
                go_upto_region 20 with fail
                refine wp_region_list ?_
                refine wpList_val0 (.agg (wayL kn0 kn0 163).toArray) rfl (exec_build1 64 2 (.const (.int .i64 163)) rfl (.int .i64 163) rfl _ (bw_e _ _)) ?_
                refine wpList_stw 6 148 (w.heap.size + 2) (kn0) (kn0) 163 (by kernel_rfl) (by kernel_rfl) HR4.out.rr ?_
                obtain ⟨W9, HW9, HR9, HE9, HK9⟩ := fin_store HR4.out.b HR4.out.rr (by omega) (wayL (kn0) (kn0) 163) (wayL_length _ _ _)
                rw [← HW9.out]
                go_wp2
                refine bodyPost_ret (v := .agg (wayL (kn0) (kn0) 163).toArray) (results_cell1_range Try.results22 _ _ (w.heap.size + 2) 0 (wayL (kn0) (kn0) 163) _ (by kernel_rfl) HR9.out Try.underlying64 rfl (by rw [wayL_length]; exact info_way)) ?_ ⟨(congrArg (fun b => Ending.returned (wayBV b)) (HBE.out)).symm, HE9.out⟩
                rfl
              · by_cases hB : (64 : Int) ≤ (s.g : Int) + i.off
                · have hbh : behindB ctx i k = .no 163 := by rw [HBH.out]; exact if_neg (by omega)
                  have HBE := Lib.hid hbh; clear hbh h ho
                  go_upto_region 20 with fail
                  refine wp_region_list ?_
                  refine wpList_val0 (.agg (wayL kn0 kn0 163).toArray) rfl (exec_build1 64 2 (.const (.int .i64 163)) rfl (.int .i64 163) rfl _ (bw_e _ _)) ?_
                  refine wpList_stw 6 148 (w.heap.size + 2) (kn0) (kn0) 163 (by kernel_rfl) (by kernel_rfl) HR4.out.rr ?_
                  obtain ⟨W9, HW9, HR9, HE9, HK9⟩ := fin_store HR4.out.b HR4.out.rr (by omega) (wayL (kn0) (kn0) 163) (wayL_length _ _ _)
                  rw [← HW9.out]
                  go_wp2
                  refine bodyPost_ret (v := .agg (wayL (kn0) (kn0) 163).toArray) (results_cell1_range Try.results22 _ _ (w.heap.size + 2) 0 (wayL (kn0) (kn0) 163) _ (by kernel_rfl) HR9.out Try.underlying64 rfl (by rw [wayL_length]; exact info_way)) ?_ ⟨(congrArg (fun b => Ending.returned (wayBV b)) (HBE.out)).symm, HE9.out⟩
                  rfl
                · have hbh : behindB ctx i k = .ok (k.put i.dst ⟨0, 255⟩) kn0 := by rw [HBH.out]; exact if_pos ⟨by omega, by omega⟩
                  have HBE := Lib.hid hbh; clear hbh h ho
                  go_upto_region 24 with fail
                  refine wp_region_list ?_
                  refine wpList_ldk 164 5 (w.heap.size + 1) 0 (k) (by kernel_rfl) (by kernel_rfl) HR4.out.kk.range ?_
                  refine wpList_val0 (.pointer (some ⟨w.heap.size, 1, none⟩)) rfl (by kernel_rfl) ?_
                  refine wpList_val0 (.int .i64 (i.dst : Int)) rfl (exec_ldint (.tmp 165) rfl (by kernel_rfl) (HR4.out.ii.cell 1 (by omega))) ?_
                  refine wpList_val0 (.agg #[.int .i64 0, .int .i64 255]) rfl (exec_build2 83 0 1 (.const (.int .i64 0)) (.const (.int .i64 255)) rfl (.int .i64 0) (.int .i64 255) rfl rfl _ (bsp _ _ _)) ?_
                  refine wpList_callg (f := 34) (args := #[.agg (knL k).toArray, .int .i64 (i.dst : Int), .agg #[.int .i64 ((0 : Nat) : Int), .int .i64 ((255 : Nat) : Int)]]) (v := .agg (knL (k.put i.dst ⟨0, 255⟩)).toArray) (R := Below W4.heap.size W4) (by kernel_rfl) (by kernel_rfl) (refwith_ok W4 k i.dst 0 255 HM.out.dst (by omega) (by omega)) (fun Wc hbc => ?_)
                  have HRC := Lib.hid (HR4.out.more hbc); clear hbc
                  refine wpList_val0 (.agg (wayL (k.put i.dst ⟨0, 255⟩) kn0 0).toArray) rfl (exec_build1 64 0 (.tmp 168) rfl (.agg (knL (k.put i.dst ⟨0, 255⟩)).toArray) (by kernel_rfl) _ (bw_n (k.put i.dst ⟨0, 255⟩) _)) ?_
                  refine wpList_stw 6 169 (w.heap.size + 2) (k.put i.dst ⟨0, 255⟩) (kn0) 0 (by kernel_rfl) (by kernel_rfl) HRC.out.rr ?_
                  obtain ⟨W9, HW9, HR9, HE9, HK9⟩ := fin_store HRC.out.b HRC.out.rr (by omega) (wayL (k.put i.dst ⟨0, 255⟩) (kn0) 0) (wayL_length _ _ _)
                  rw [← HW9.out]
                  go_wp2
                  refine bodyPost_ret (v := .agg (wayL (k.put i.dst ⟨0, 255⟩) (kn0) 0).toArray) (results_cell1_range Try.results22 _ _ (w.heap.size + 2) 0 (wayL (k.put i.dst ⟨0, 255⟩) (kn0) 0) _ (by kernel_rfl) HR9.out Try.underlying64 rfl (by rw [wayL_length]; exact info_way)) ?_ ⟨(congrArg (fun b => Ending.returned (wayBV b)) (HBE.out)).symm, HE9.out⟩
                  rfl
            · skip
              have ho : i.op = 18 := h
              have q : (i.op : Int) = 18 := by omega
              have HOK : Hid d.ok := Lib.hid (by rw [HDE.out]; exact HRT.out.sp _)
              have HBH : Hid (behindB ctx i k = if 0 ≤ (d.l : Int) + i.off ∧ (d.g : Int) + i.off < 64 then .ok k kn0 else .no 163) := Lib.hid (by rw [HDE.out]; exact bB_st HCO.out HUN.out ho)
              go_upto_region 18 with fail
              refine wp_region_list ?_
              refine wpList_lds 124 14 b1 (d.l : Int) (d.g : Int) (by kernel_rfl) (by kernel_rfl) HD4.out ?_
              refine wpList_store_mid rfl 83 (.tmp 16) (.tmp 124) (by kernel_rfl) b3 0 #[.int .i64 (d.l : Int), .int .i64 (d.g : Int)] (by kernel_rfl) (by kernel_rfl) (there_blk HB4.out) size_sp83 (by simp [Value.oneCell']) ?_
              have hX2 : snB (W4.setCells b3 0 [.int .i64 (d.l : Int), .int .i64 (d.g : Int)]) b3 d := snB.fill HB4.out d
              have hr4 := HR4.out.set b3 (by have := HZ1.out; have := HL1.out; omega) 0 [.int .i64 (d.l : Int), .int .i64 (d.g : Int)]
              obtain ⟨W5, hW5⟩ : ∃ W5, W5 = W4.setCells b3 0 [.int .i64 (d.l : Int), .int .i64 (d.g : Int)] := ⟨_, rfl⟩
              show wpList _ _ _ _ _ (W4.setCells b3 0 [.int .i64 (d.l : Int), .int .i64 (d.g : Int)])
              rw [← hW5] at hX2 hr4 ⊢
              have HR5 := Lib.hid hr4; have HB5 := Lib.hid hX2
              clear hW5 hX2 hr4
              go_upto_region 19 with fail
              have b0 : W5.cell? ⟨b3, 0, none⟩ = some (.int .i64 (d.l : Int)) := HB5.out.l
              have b1c : W5.cell? ⟨b3, 1, none⟩ = some (.int .i64 (d.g : Int)) := HB5.out.g
              have i3 : W5.cell? ⟨w.heap.size, 3, none⟩ = some (.int .i64 i.off) := HR5.out.ii.cell 3 (by omega)
              have f1 : -32768 ≤ i.off := HM.out.off1
              have f2 : i.off ≤ 32767 := HM.out.off2
              have f3 : (d.l : Int) ≤ 4294967295 := by have h1 := HOK.out.1; have h2 := HOK.out.2; omega
              have f4 : (d.g : Int) ≤ 4294967295 := by have h2 := HOK.out.2; omega
              have f5 : (ctx : Int) ≤ 256 := by have := HCX.out; omega
              have q2 : (16 : Int) ≤ (i.op : Int) := by omega
              have q3 : (i.op : Int) ≤ 18 := by omega
              by_cases hA : (d.l : Int) + i.off < 0
              · have hbh : behindB ctx i k = .no 163 := by rw [HBH.out]; exact if_neg (by omega)
                have HBE := Lib.hid hbh; clear hbh h ho
                go_upto_region 20 with fail
                refine wp_region_list ?_
                refine wpList_val0 (.agg (wayL kn0 kn0 163).toArray) rfl (exec_build1 64 2 (.const (.int .i64 163)) rfl (.int .i64 163) rfl _ (bw_e _ _)) ?_
                refine wpList_stw 6 148 (w.heap.size + 2) (kn0) (kn0) 163 (by kernel_rfl) (by kernel_rfl) HR5.out.rr ?_
                obtain ⟨W9, HW9, HR9, HE9, HK9⟩ := fin_store HR5.out.b HR5.out.rr (by omega) (wayL (kn0) (kn0) 163) (wayL_length _ _ _)
                rw [← HW9.out]
                go_wp2
                refine bodyPost_ret (v := .agg (wayL (kn0) (kn0) 163).toArray) (results_cell1_range Try.results22 _ _ (w.heap.size + 2) 0 (wayL (kn0) (kn0) 163) _ (by kernel_rfl) HR9.out Try.underlying64 rfl (by rw [wayL_length]; exact info_way)) ?_ ⟨(congrArg (fun b => Ending.returned (wayBV b)) (HBE.out)).symm, HE9.out⟩
                rfl
              · by_cases hB : (64 : Int) ≤ (d.g : Int) + i.off
                · have hbh : behindB ctx i k = .no 163 := by rw [HBH.out]; exact if_neg (by omega)
                  have HBE := Lib.hid hbh; clear hbh h ho
                  go_upto_region 20 with fail
                  refine wp_region_list ?_
                  refine wpList_val0 (.agg (wayL kn0 kn0 163).toArray) rfl (exec_build1 64 2 (.const (.int .i64 163)) rfl (.int .i64 163) rfl _ (bw_e _ _)) ?_
                  refine wpList_stw 6 148 (w.heap.size + 2) (kn0) (kn0) 163 (by kernel_rfl) (by kernel_rfl) HR5.out.rr ?_
                  obtain ⟨W9, HW9, HR9, HE9, HK9⟩ := fin_store HR5.out.b HR5.out.rr (by omega) (wayL (kn0) (kn0) 163) (wayL_length _ _ _)
                  rw [← HW9.out]
                  go_wp2
                  refine bodyPost_ret (v := .agg (wayL (kn0) (kn0) 163).toArray) (results_cell1_range Try.results22 _ _ (w.heap.size + 2) 0 (wayL (kn0) (kn0) 163) _ (by kernel_rfl) HR9.out Try.underlying64 rfl (by rw [wayL_length]; exact info_way)) ?_ ⟨(congrArg (fun b => Ending.returned (wayBV b)) (HBE.out)).symm, HE9.out⟩
                  rfl
                · have hbh : behindB ctx i k = .ok k kn0 := by rw [HBH.out]; exact if_pos ⟨by omega, by omega⟩
                  have HBE := Lib.hid hbh; clear hbh h ho
                  go_upto_region 26 with fail
                  refine wp_region_list ?_
                  refine wpList_ldk 173 5 (w.heap.size + 1) 0 (k) (by kernel_rfl) (by kernel_rfl) HR5.out.kk.range ?_
                  refine wpList_val0 (.agg (wayL (k) kn0 0).toArray) rfl (exec_build1 64 0 (.tmp 173) rfl (.agg (knL (k)).toArray) (by kernel_rfl) _ (bw_n (k) _)) ?_
                  refine wpList_stw 6 174 (w.heap.size + 2) (k) (kn0) 0 (by kernel_rfl) (by kernel_rfl) HR5.out.rr ?_
                  obtain ⟨W9, HW9, HR9, HE9, HK9⟩ := fin_store HR5.out.b HR5.out.rr (by omega) (wayL (k) (kn0) 0) (wayL_length _ _ _)
                  rw [← HW9.out]
                  go_wp2
                  refine bodyPost_ret (v := .agg (wayL (k) (kn0) 0).toArray) (results_cell1_range Try.results22 _ _ (w.heap.size + 2) 0 (wayL (k) (kn0) 0) _ (by kernel_rfl) HR9.out Try.underlying64 rfl (by rw [wayL_length]; exact info_way)) ?_ ⟨(congrArg (fun b => Ending.returned (wayBV b)) (HBE.out)).symm, HE9.out⟩
                  rfl
            · skip
              have ho : i.op = 19 := h
              have q : (i.op : Int) = 19 := by omega
              have HO := Lib.hid ho; clear ho h
              go_upto_region 28 with fail
              refine wp_region_list ?_
              refine wpList_ldk 178 5 (w.heap.size + 1) 0 (k) (by kernel_rfl) (by kernel_rfl) HR4.out.kk.range ?_
              refine wpList_val0 (.agg (wayL kn0 (k) 0).toArray) rfl (exec_build1 64 1 (.tmp 178) rfl (.agg (knL (k)).toArray) (by kernel_rfl) _ (bw_j (k) _)) ?_
              refine wpList_stw 6 179 (w.heap.size + 2) (kn0) (k) 0 (by kernel_rfl) (by kernel_rfl) HR4.out.rr ?_
              obtain ⟨W9, HW9, HR9, HE9, HK9⟩ := fin_store HR4.out.b HR4.out.rr (by omega) (wayL (kn0) (k) 0) (wayL_length _ _ _)
              rw [← HW9.out]
              go_wp2
              refine bodyPost_ret (v := .agg (wayL (kn0) (k) 0).toArray) (results_cell1_range Try.results22 _ _ (w.heap.size + 2) 0 (wayL (kn0) (k) 0) _ (by kernel_rfl) HR9.out Try.underlying64 rfl (by rw [wayL_length]; exact info_way)) ?_ ⟨(congrArg (fun b => Ending.returned (wayBV b)) (bB_ja HCO.out HO.out)).symm, HE9.out⟩
              rfl
            · skip
              have ho : i.op = 20 ∨ i.op = 21 ∨ i.op = 22 := h
              have q1 : (20 : Int) ≤ (i.op : Int) := by omega
              have q2 : (i.op : Int) ≤ 22 := by omega
              have q3 : ¬ (i.op : Int) = 16 := by omega
              have q4 : ¬ (i.op : Int) = 18 := by omega
              have q5 : ¬ (i.op : Int) = 19 := by omega
              have q6 : ¬ (i.op : Int) = 23 := by omega
              have q7 : ¬ (i.op : Int) = 24 := by omega
              have q8 : ¬ (i.op : Int) ≤ 18 := by omega
              have q9 : ¬ (i.op : Int) ≤ 17 := by omega
              have q10 : ¬ (i.op : Int) ≤ 15 := by omega
              have q11 : (16 : Int) ≤ (i.op : Int) := by omega
              have hu : i.useImm = decide (i.op ≤ 21) := by rcases ho with e | e | e <;> simp [Ins8.useImm, e]
              have e23 : s = i.srcS k := by rw [HSE.out]; exact sref_is HM.out.op1 HM.out.op2 (by omega)
              have hj := fun W => refjump_ok W i k ho HM.out.dst HM.out.src (by have := HM.out.imm; omega) HRT.out hu
              have hbh := bB_jump (ctx := ctx) HCO.out HUN.out ho
              rw [← e23] at hj hbh
              have el : (k.r i.dst).l = d.l := congrArg Sp.l HDE.out.symm
              have eg : (k.r i.dst).g = d.g := congrArg Sp.g HDE.out.symm
              rw [el, eg] at hj
              obtain ⟨nx, hnx⟩ : ∃ n, n = if i.op = 20 then jeqN i k else if i.op = 22 ∧ i.dst = i.src then k else jltN i k (k.r i.dst).sp s := ⟨_, rfl⟩
              obtain ⟨jx, hjx⟩ : ∃ n, n = if i.op = 20 then jeqJ i k else if i.op = 22 ∧ i.dst = i.src then kn0 else jltJ i k (k.r i.dst).sp s := ⟨_, rfl⟩
              rw [← hnx, ← hjx] at hj hbh
              have HJP := Lib.hid hj; have HBH := Lib.hid hbh
              clear hj hbh hnx hjx e23 hu el eg ho h
              go_upto_region 38 with fail
              refine wp_region_list ?_
              refine wpList_valueg (w' := W4) (.agg #[.int .i64 (i.op : Int), .int .i64 (i.dst : Int), .int .i64 (i.src : Int), .int .i64 i.off, .int .u32 (i.imm : Int)]) (by kernel_rfl) (exec_load_mid 45 (.tmp 3) rfl w.heap.size 0 (by kernel_rfl) [.int .i64 (i.op : Int), .int .i64 (i.dst : Int), .int .i64 (i.src : Int), .int .i64 i.off, .int .u32 (i.imm : Int)] _ (by have := HR4.out.ii.range; exact this) Try.underlying45 rfl (by kernel_rfl)) ?_
              refine wpList_ldk 201 5 (w.heap.size + 1) 0 (k) (by kernel_rfl) (by kernel_rfl) HR4.out.kk.range ?_
              refine wpList_lds 202 14 b1 (d.l : Int) (d.g : Int) (by kernel_rfl) (by kernel_rfl) HD4.out ?_
              refine wpList_lds 203 15 b2 (s.l : Int) (s.g : Int) (by kernel_rfl) (by kernel_rfl) HS4.out ?_
              refine wpList_callg (f := 36) (args := #[.agg #[.int .i64 (i.op : Int), .int .i64 (i.dst : Int), .int .i64 (i.src : Int), .int .i64 i.off, .int .u32 (i.imm : Int)], .agg (knL k).toArray, .agg #[.int .i64 (d.l : Int), .int .i64 (d.g : Int)], .agg #[.int .i64 (s.l : Int), .int .i64 (s.g : Int)]]) (v := .agg (wayL nx jx 0).toArray) (R := Below W4.heap.size W4) (by kernel_rfl) (by kernel_rfl) (HJP.out W4) (fun Wc hbc => ?_)
              have HRC := Lib.hid (HR4.out.more hbc); clear hbc
              refine wpList_stw 6 204 (w.heap.size + 2) (nx) (jx) 0 (by kernel_rfl) (by kernel_rfl) HRC.out.rr ?_
              obtain ⟨W9, HW9, HR9, HE9, HK9⟩ := fin_store HRC.out.b HRC.out.rr (by omega) (wayL (nx) (jx) 0) (wayL_length _ _ _)
              rw [← HW9.out]
              go_wp2
              refine bodyPost_ret (v := .agg (wayL (nx) (jx) 0).toArray) (results_cell1_range Try.results22 _ _ (w.heap.size + 2) 0 (wayL (nx) (jx) 0) _ (by kernel_rfl) HR9.out Try.underlying64 rfl (by rw [wayL_length]; exact info_way)) ?_ ⟨(congrArg (fun b => Ending.returned (wayBV b)) (HBH.out)).symm, HE9.out⟩
              rfl
            · skip
              have ho : i.op = 23 := h
              have q : (i.op : Int) = 23 := by omega
              have HO := Lib.hid ho; clear ho h
              go_upto_region 30 with fail
              refine wp_region_list ?_
              refine wpList_ldk 183 5 (w.heap.size + 1) 0 (k) (by kernel_rfl) (by kernel_rfl) HR4.out.kk.range ?_
              refine wpList_val0 (.agg #[.int .i64 0, .int .i64 4294967295]) rfl (exec_build2 83 0 1 (.const (.int .i64 0)) (.const (.int .i64 4294967295)) rfl (.int .i64 0) (.int .i64 4294967295) rfl rfl _ (bsp _ _ _)) ?_
              refine wpList_callg (f := 34) (args := #[.agg (knL k).toArray, .int .i64 0, .agg #[.int .i64 0, .int .i64 4294967295]]) (v := .agg (knL (clrK k 0)).toArray) (R := Below W4.heap.size W4) (by kernel_rfl) (by kernel_rfl) (with_all W4 k) (fun Wc hbc => ?_)
              have hrc := HR4.out.more hbc
              clear hbc
              refine wpList_store_mid rfl 42 (.tmp 5) (.tmp 185) (by kernel_rfl) (w.heap.size + 1) 0 (knL (clrK k 0)).toArray (by kernel_rfl) (by kernel_rfl) (by rw [knA_size]; exact there_blk hrc.kk) (by rw [knA_size]; exact info_kn) (knL_one _) ?_
              have hr5 := hrc.setk (clrK k 0) 0 (knL (clrK k 0)) (hrc.kk.fill (knF (clrK k 0)))
              obtain ⟨W5, hW5⟩ : ∃ W5, W5 = Wc.setCells (w.heap.size + 1) 0 (knL (clrK k 0)) := ⟨_, rfl⟩
              show wpList _ _ _ _ _ (Wc.setCells (w.heap.size + 1) 0 (knL (clrK k 0)))
              rw [← hW5] at hr5 ⊢
              have HR5 := Lib.hid hr5
              clear hW5 hrc hr5
              go_wp2
              go_loopw [18] (fun x wr => ∃ m : Nat, m ≤ 5 ∧ x = .int .i64 ((m + 1 : Nat) : Int) ∧ Rb w i (clrK k m) wr) (fun x _ => 6 - (intOf x).toNat)
              case atStart => exact ⟨0, by omega, rfl, HR5.out⟩
              case round =>
                obtain ⟨m, hm, rfl, hc⟩ := hrel
                by_cases hlt : m < 5
                · have hlt' : ((m + 1 : Nat) : Int) ≤ 5 := by omega
                  have hlt2 : ((m + 1 : Nat) : Int) < 10 := by omega
                  have hN := hc.next (m + 1) rg0
                  rw [clrK_succ] at hN
                  have HN := Lib.hid hN; clear hN
                  have HC := Lib.hid hc; clear hc
                  go_wp2_with (refine wpList_store_mid rfl 37 (.tmp 193) (.tmp 191) rfl (w.heap.size + 1) (1 + (m + 1) * 3) #[.bool false, .int .u32 0, .int .u32 0] rfl rfl (there_mid HC.out.kk (1 + (m + 1) * 3) 3 (by omega)) (by kernel_rfl) (by simp [Value.oneCell']) ?_)
                  go_roundw
                  case rel => exact ⟨m + 1, by omega, by go_num, HN.out⟩
                  case measure => simp [intOf]; omega
                · obtain rfl : m = 5 := by omega
                  rw [clrK_five] at hc
                  have HC := Lib.hid hc; clear hc
                  go_upto_region 35 with fail
                  refine wp_region_list ?_
                  refine wpList_ldk 194 5 (w.heap.size + 1) 0 (callK k) (by kernel_rfl) (by kernel_rfl) HC.out.kk.range ?_
                  refine wpList_val0 (.agg (wayL (callK k) kn0 0).toArray) rfl (exec_build1 64 0 (.tmp 194) rfl (.agg (knL (callK k)).toArray) (by kernel_rfl) _ (bw_n (callK k) _)) ?_
                  refine wpList_stw 6 195 (w.heap.size + 2) (callK k) (kn0) 0 (by kernel_rfl) (by kernel_rfl) HC.out.rr ?_
                  obtain ⟨W9, HW9, HR9, HE9, HK9⟩ := fin_store HC.out.b HC.out.rr (by omega) (wayL (callK k) (kn0) 0) (wayL_length _ _ _)
                  rw [← HW9.out]
                  go_wp2
                  refine bodyPost_ret (v := .agg (wayL (callK k) (kn0) 0).toArray) (results_cell1_range Try.results22 _ _ (w.heap.size + 2) 0 (wayL (callK k) (kn0) 0) _ (by kernel_rfl) HR9.out Try.underlying64 rfl (by rw [wayL_length]; exact info_way)) ?_ ⟨(congrArg (fun b => Ending.returned (wayBV b)) (bB_call HCO.out HO.out)).symm, HE9.out⟩
                  rfl
            · skip
              have ho : i.op = 24 := h
              have q : (i.op : Int) = 24 := by omega
              have HO := Lib.hid ho; clear ho h
              go_upto_region 37 with fail
              refine wp_region_list ?_
              refine wpList_val0 (.agg (wayL kn0 kn0 0).toArray) rfl (exec_build0 64 rfl _ (bw_0 _)) ?_
              refine wpList_stw 6 199 (w.heap.size + 2) (kn0) (kn0) 0 (by kernel_rfl) (by kernel_rfl) HR4.out.rr ?_
              obtain ⟨W9, HW9, HR9, HE9, HK9⟩ := fin_store HR4.out.b HR4.out.rr (by omega) (wayL (kn0) (kn0) 0) (wayL_length _ _ _)
              rw [← HW9.out]
              go_wp2
              refine bodyPost_ret (v := .agg (wayL (kn0) (kn0) 0).toArray) (results_cell1_range Try.results22 _ _ (w.heap.size + 2) 0 (wayL (kn0) (kn0) 0) _ (by kernel_rfl) HR9.out Try.underlying64 rfl (by rw [wayL_length]; exact info_way)) ?_ ⟨(congrArg (fun b => Ending.returned (wayBV b)) (bB_exit HCO.out HUN.out HO.out)).symm, HE9.out⟩
              rfl
          · skip
            have hd := HDZ.out
            have h14 : i.op = 14 ∨ i.op = 15 := by unfold divB at hd; simp at hd; exact hd.1
            have hsl : s.l = 0 := by unfold divB at hd; simp at hd; exact hd.2
            have e23 : s = i.srcS k := by rw [HSE.out]; exact sref_is HM.out.op1 HM.out.op2 (by omega)
            have hbh := bB_div (ctx := ctx) HCO.out HUN.out h14 (by rw [← e23]; exact hsl)
            have HBH := Lib.hid hbh; clear hbh hd h14 hsl e23
            go_upto_region 12 with fail
            refine wp_region_list ?_
            refine wpList_val0 (.agg (wayL kn0 kn0 162).toArray) rfl (exec_build1 64 2 (.const (.int .i64 162)) rfl (.int .i64 162) rfl _ (bw_e _ _)) ?_
            refine wpList_stw 6 116 (w.heap.size + 2) (kn0) (kn0) 162 (by kernel_rfl) (by kernel_rfl) HR3.out.rr ?_
            obtain ⟨W9, HW9, HR9, HE9, HK9⟩ := fin_store HR3.out.b HR3.out.rr (by omega) (wayL (kn0) (kn0) 162) (wayL_length _ _ _)
            rw [← HW9.out]
            go_wp2
            refine bodyPost_ret (v := .agg (wayL (kn0) (kn0) 162).toArray) (results_cell1_range Try.results22 _ _ (w.heap.size + 2) 0 (wayL (kn0) (kn0) 162) _ (by kernel_rfl) HR9.out Try.underlying64 rfl (by rw [wayL_length]; exact info_way)) ?_ ⟨(congrArg (fun b => Ending.returned (wayBV b)) (HBH.out)).symm, HE9.out⟩
            rfl

theorem refbehind_ok (w : World) (i : Ins8) (ctx : Nat) (k : Kn) (hmb : mayB i.z = true) (hr : k.right) (hctx : ctx ≤ 256) : Calls Try.prog 22 #[.agg #[.int .i64 (i.op : Int), .int .i64 (i.dst : Int), .int .i64 (i.src : Int), .int .i64 i.off, .int .u32 (i.imm : Int)], .int .i64 (ctx : Int), .agg (knL k).toArray] w fun e w' => e = .returned (wayBV (behindB ctx i k)) ∧ Below w.heap.size w w' := by
  cases hc : k.come
  · rw [bB_not hc]
    exact rb_not w i ctx k hmb hr hctx hc
  · cases hu : unsB i k
    · exact rb_main w i ctx k hmb hr hctx hc hu
    · obtain ⟨hm, _⟩ := may_of hmb
      rw [bB_unset hc hm.op1 hm.op2 hu]
      exact rb_unset w i ctx k hmb hr hctx hc hu
end Go.Proofs.Ytjlddhnjbjhmkaa
