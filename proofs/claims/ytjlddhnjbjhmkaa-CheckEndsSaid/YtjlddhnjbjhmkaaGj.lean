/- Layer 6: jumps that give up. -/
import Derived.Test.YtjlddhnjbjhmkaaGc
set_option linter.unusedVariables false
set_option linter.unusedSimpArgs false
namespace Go.Proofs.Ytjlddhnjbjhmkaa
open Go.RowKit

theorem wp_calls_panic {P : Program} {Q : Exit → Act → World → Prop} {o : Oper} {a : Act} {w : World} {K : Act → World → Prop} {f : FuncId} {args : Array Value} {c : List PanicEntry} {R : World → Prop} (h : (execOp a.eval o).run P w = .ok (.enter f args) w)
    (hc : Calls P f args w fun e w' => e = .panicked c ∧ R w') (hk : ∀ w', R w' → Q (.panic c) a w') : o.wp P a w K Q := by
  unfold Oper.wp
  rw [h]
  refine hc.mono ?_
  rintro e w' ⟨rfl, h⟩
  exact hk w' h

set_option maxRecDepth 100000 in
set_option maxHeartbeats 1500000 in
theorem equal_not {w : World} {x : Nat} {i : Ins8} {ctx : Nat} {k : Kn} (hI : InB w x i ctx k) (hm : i.May) (hset : (k.r i.dst).s = false) :
    Calls Try.prog 41 #[.pointer (some ⟨x, 0, none⟩)] w fun e w' => e = .panicked (stopC 161) ∧ Below w.heap.size w w' := by
  have hx := hI.lt
  have hdst := hm.dst
  have himm : (i.imm : Int) < 4294967296 := by have := hm.imm; omega
  obtain ⟨W1, hW1⟩ : ∃ W1, W1 = (w.alloc (.cells #[.bool false, .bool false, .int .u32 0, .int .u32 0, .bool false, .int .u32 0, .int .u32 0, .bool false, .int .u32 0, .int .u32 0, .bool false, .int .u32 0, .int .u32 0, .bool false, .int .u32 0, .int .u32 0, .bool false, .int .u32 0, .int .u32 0, .bool false, .int .u32 0, .int .u32 0, .bool false, .int .u32 0, .int .u32 0, .bool false, .int .u32 0, .int .u32 0, .bool false, .int .u32 0, .int .u32 0] 42)).alloc (.cells #[.bool false, .bool false, .int .u32 0, .int .u32 0, .bool false, .int .u32 0, .int .u32 0, .bool false, .int .u32 0, .int .u32 0, .bool false, .int .u32 0, .int .u32 0, .bool false, .int .u32 0, .int .u32 0, .bool false, .int .u32 0, .int .u32 0, .bool false, .int .u32 0, .int .u32 0, .bool false, .int .u32 0, .int .u32 0, .bool false, .int .u32 0, .int .u32 0, .bool false, .int .u32 0, .int .u32 0] 42) := ⟨_, rfl⟩
  have T1 : Tw w w.heap.size (knF kn0) (knF kn0) W1 := by rw [hW1]; exact Tw.start w
  have hRG := fun W (hb : Below w.heap.size w W) => reg_not (hI.below hb) i.dst hdst hset
  have HI1 := Lib.hid (hI.below T1.b)
  have HRG := Lib.hid hRG; have HT1 := Lib.hid T1; clear hRG T1 hI hm hset
  have HW1 := Lib.hid hW1; clear hW1
  go_enter Try.func41, Try.ntmps41
  go_upto_region 1 with fail
  rw [← HW1.out]
  refine planM (.rd 0 (.rd 1 (.rd 2 (.rd 3 (.rd 4 (.rd 5 (.rd 7 (.rd 8 (.rd 9 (.rd 10 (.rd 11 (.rd 12 (.many [(6, some 12), (13, some 4)] (.eff 14 (.eff 15 .done))))))))))))))) [0, 1, 2, 3, 4, 5, 6, 7, 8, 9, 10, 11, 12, 13, 14] (fun W => Below W1.heap.size W1 W) (by kernel_rfl) (by kernel_rfl) (fun c a d v w h => by cases d <;> exact h) ((Below.refl _ _).drew) ?_
  repeat (refine pm_pure rfl (fun K hK => ?_); go_simp; refine hK _ ?_; clear hK K)
  refine pm_rd (.int .i64 (i.dst : Int)) rfl rfl (fun W hS => ?_) (fun K hK => ?_)
  · have f0 := (Kp.of_below hS No).cell HI1.out.cdst (fun e => e)
    simp [go_sem, f0]
  go_simp
  refine hK _ ?_
  clear hK K
  repeat (refine pm_pure rfl (fun K hK => ?_); go_simp; refine hK _ ?_; clear hK K)
  refine pm_rd (.int .u32 (i.imm : Int)) rfl rfl (fun W hS => ?_) (fun K hK => ?_)
  · have f0 := (Kp.of_below hS No).cell HI1.out.cimm (fun e => e)
    simp [go_sem, f0]
  go_simp
  refine hK _ ?_
  clear hK K
  repeat (refine pm_pure rfl (fun K hK => ?_); go_simp; refine hK _ ?_; clear hK K)
  refine pm_manyJ (fun l v W => l 6 = false) (by simp) ?_ ?_
  · intro c hc l v w1 hS hb hl hn hJ
    simp only [List.mem_cons, List.not_mem_nil, or_false] at hc
    rcases hc with rfl | rfl
    · have E6 : ∀ a : Act, (putM v l [(6, some 12), (13, some 4)] a).tmps[6]?.getD undef = a.tmps[6]?.getD undef := fun a => by simpa [Array.getD_eq_getD_getElem?] using putM_eval_other (v := v) (l := l) 6 [(6, some 12), (13, some 4)] a (by simp)
      have E11 : ∀ a : Act, (putM v l [(6, some 12), (13, some 4)] a).tmps[11]?.getD undef = a.tmps[11]?.getD undef := fun a => by simpa [Array.getD_eq_getD_getElem?] using putM_eval_other (v := v) (l := l) 11 [(6, some 12), (13, some 4)] a (by simp)
      refine pm_one rfl rfl (fun K' hK => ?_)
      refine wp_calls_panic (f := 39) (args := #[.pointer (some ⟨x, 0, none⟩), .int .i64 (i.dst : Int)]) ?_ (HRG.out w1 (HT1.out.b.trans (Below.mono hS HT1.out.b.size))) (fun w3 hb3 => ?_)
      · simp [execOp, go_sem]
        exact ⟨(E6 _).trans rfl, (E11 _).trans rfl⟩
      rcases h13 : l 13 with _ | _ <;> simp only [putM, hl, h13, if_true, Bool.false_eq_true, if_false] <;> exact ⟨rfl, rfl, (HT1.out.b.trans (Below.mono hS HT1.out.b.size)).trans (hb3.mono (HT1.out.b.trans (Below.mono hS HT1.out.b.size)).size)⟩
    · refine pm_one rfl rfl (fun K' hK => ?_)
      refine wp_value (w' := w1.alloc (.cells #[.int .u64 0, .int .u64 0] 93)) (.pointer (some ⟨w1.heap.size, 0, none⟩)) (by kernel_rfl) ?_
      have hb3 : Below w1.heap.size w1 (w1.alloc (.cells #[.int .u64 0, .int .u64 0] 93)) := (Below.refl _ _).alloc (Nat.le_refl _) _
      exact hK _ _ ⟨_, rfl, Below.trans hS (hb3.mono hS.size), hb3, hJ⟩
  · intro l v w2 hS hb hl hJ
    have := hl (6, some 12) (by simp)
    rw [hJ] at this; cases this

set_option maxRecDepth 100000 in
set_option maxHeartbeats 1500000 in
theorem less_unset_d {w : World} {x : Nat} {i : Ins8} {ctx : Nat} {k : Kn} (hI : InB w x i ctx k) (hm : i.May) (hset : (k.r i.dst).s = false) :
    Calls Try.prog 42 #[.pointer (some ⟨x, 0, none⟩)] w fun e w' => e = .panicked (stopC 161) ∧ Below w.heap.size w w' := by
  have hx := hI.lt
  have hdst := hm.dst
  obtain ⟨W1, hW1⟩ : ∃ W1, W1 = ((w.alloc (.cells #[.pointer (some ⟨x, 0, none⟩)] 77)).alloc (.cells #[.bool false, .bool false, .int .u32 0, .int .u32 0, .bool false, .int .u32 0, .int .u32 0, .bool false, .int .u32 0, .int .u32 0, .bool false, .int .u32 0, .int .u32 0, .bool false, .int .u32 0, .int .u32 0, .bool false, .int .u32 0, .int .u32 0, .bool false, .int .u32 0, .int .u32 0, .bool false, .int .u32 0, .int .u32 0, .bool false, .int .u32 0, .int .u32 0, .bool false, .int .u32 0, .int .u32 0] 42)).alloc (.cells #[.bool false, .bool false, .int .u32 0, .int .u32 0, .bool false, .int .u32 0, .int .u32 0, .bool false, .int .u32 0, .int .u32 0, .bool false, .int .u32 0, .int .u32 0, .bool false, .int .u32 0, .int .u32 0, .bool false, .int .u32 0, .int .u32 0, .bool false, .int .u32 0, .int .u32 0, .bool false, .int .u32 0, .int .u32 0, .bool false, .int .u32 0, .int .u32 0, .bool false, .int .u32 0, .int .u32 0] 42) := ⟨_, rfl⟩
  have T1 : Tw w (w.heap.size + 1) (knF kn0) (knF kn0) W1 := by rw [hW1]; exact Tw.start1 w x
  have hc1 : W1.cell? ⟨w.heap.size, 0, none⟩ = some (.pointer (some ⟨x, 0, none⟩)) := by rw [hW1]; simp [go_sem]
  have HRG := Lib.hid (fun W (hb : Below w.heap.size w W) => reg_not (hI.below hb) i.dst hdst hset)
  clear hset
  have HT1 := Lib.hid T1; have HC1 := Lib.hid hc1; have HI1 := Lib.hid (hI.below T1.b); clear T1 hc1 hI hm
  have HW1 := Lib.hid hW1; clear hW1
  go_enter Try.func42, Try.ntmps42
  go_upto_region 1 with fail
  rw [← HW1.out]
  refine planM (.rd 0 (.rd 1 (.rd 2 (.rd 3 (.rd 4 (.rd 5 (.rd 7 (.many [(6, some 13), (8, some 15), (9, some 4), (10, some 5)] (.eff 11 (.eff 12 .done)))))))))) [0, 1, 2, 3, 4, 5, 6, 7, 8, 9, 10, 11] (fun W => Below W1.heap.size W1 W) (by kernel_rfl) (by kernel_rfl) (fun c a d v w h => by cases d <;> exact h) ((Below.refl _ _).drew) ?_
  refine pm_rd (.pointer (some ⟨x, 0, none⟩)) rfl rfl (fun W hS => ?_) (fun K hK => ?_)
  · have f0 := (Kp.of_below hS No).cell HC1.out (fun e => e)
    simp [go_sem, f0]
  go_simp
  refine hK _ ?_
  clear hK K
  refine pm_rd (.pointer (some ⟨x, 0, none⟩)) rfl rfl (fun W hS => ?_) (fun K hK => ?_)
  · have f0 := (Kp.of_below hS No).cell HC1.out (fun e => e)
    simp [go_sem, f0]
  go_simp
  refine hK _ ?_
  clear hK K
  repeat (refine pm_pure rfl (fun K hK => ?_); go_simp; refine hK _ ?_; clear hK K)
  refine pm_rd (.int .i64 (i.dst : Int)) rfl rfl (fun W hS => ?_) (fun K hK => ?_)
  · have f0 := (Kp.of_below hS No).cell HI1.out.cdst (fun e => e)
    simp [go_sem, f0]
  go_simp
  refine hK _ ?_
  clear hK K
  refine pm_rd (.pointer (some ⟨x, 0, none⟩)) rfl rfl (fun W hS => ?_) (fun K hK => ?_)
  · have f0 := (Kp.of_below hS No).cell HC1.out (fun e => e)
    simp [go_sem, f0]
  go_simp
  refine hK _ ?_
  clear hK K
  refine pm_manyJ (fun l v W => l 6 = false ∧ l 8 = false) (by simp) ?_ ?_
  · intro c hc l v w1 hS hb hl hn hJ
    simp only [List.mem_cons, List.not_mem_nil, or_false] at hc
    rcases hc with rfl | rfl | rfl | rfl
    · have E7 : ∀ a : Act, (putM v l [(6, some 13), (8, some 15), (9, some 4), (10, some 5)] a).tmps[7]?.getD undef = a.tmps[7]?.getD undef := fun a => by simpa [Array.getD_eq_getD_getElem?] using putM_eval_other (v := v) (l := l) 7 [(6, some 13), (8, some 15), (9, some 4), (10, some 5)] a (by simp)
      have E12 : ∀ a : Act, (putM v l [(6, some 13), (8, some 15), (9, some 4), (10, some 5)] a).tmps[12]?.getD undef = a.tmps[12]?.getD undef := fun a => by simpa [Array.getD_eq_getD_getElem?] using putM_eval_other (v := v) (l := l) 12 [(6, some 13), (8, some 15), (9, some 4), (10, some 5)] a (by simp)
      refine pm_one rfl rfl (fun K' hK => ?_)
      refine wp_calls_panic (f := 39) (args := #[.pointer (some ⟨x, 0, none⟩), .int .i64 (i.dst : Int)]) ?_ (HRG.out w1 (HT1.out.b.trans (Below.mono hS HT1.out.b.size))) (fun w3 hb3 => ?_)
      · simp [execOp, go_sem]
        exact ⟨(E7 _).trans rfl, (E12 _).trans rfl⟩
      obtain ⟨j6, j8⟩ := hJ
      rcases h9 : l 9 with _ | _ <;> rcases h10 : l 10 with _ | _ <;> simp only [putM, j6, j8, h9, h10, if_true, Bool.false_eq_true, if_false] <;> exact ⟨rfl, rfl, (HT1.out.b.trans (Below.mono hS HT1.out.b.size)).trans (hb3.mono (HT1.out.b.trans (Below.mono hS HT1.out.b.size)).size)⟩
    · have := hn (6, some 13) (by simp) (by kernel_rfl)
      rw [hJ.1] at this; cases this
    · refine pm_one rfl rfl (fun K' hK => ?_)
      refine wp_value (w' := w1.alloc (.cells #[.int .u64 0, .int .u64 0] 93)) (.pointer (some ⟨w1.heap.size, 0, none⟩)) (by kernel_rfl) ?_
      have hb3 : Below w1.heap.size w1 (w1.alloc (.cells #[.int .u64 0, .int .u64 0] 93)) := (Below.refl _ _).alloc (Nat.le_refl _) _
      exact hK _ _ ⟨_, rfl, Below.trans hS (hb3.mono hS.size), hb3, ⟨hJ.1, hJ.2⟩⟩
    · refine pm_one rfl rfl (fun K' hK => ?_)
      refine wp_value (w' := w1.alloc (.cells #[.int .u64 0, .int .u64 0] 93)) (.pointer (some ⟨w1.heap.size, 0, none⟩)) (by kernel_rfl) ?_
      have hb3 : Below w1.heap.size w1 (w1.alloc (.cells #[.int .u64 0, .int .u64 0] 93)) := (Below.refl _ _).alloc (Nat.le_refl _) _
      exact hK _ _ ⟨_, rfl, Below.trans hS (hb3.mono hS.size), hb3, ⟨hJ.1, hJ.2⟩⟩
  · intro l v w2 hS hb hl hJ
    have := hl (6, some 13) (by simp)
    rw [hJ.1] at this; cases this

set_option maxRecDepth 100000 in
set_option maxHeartbeats 1500000 in
theorem less_unset_s {w : World} {x : Nat} {i : Ins8} {ctx : Nat} {k : Kn} (hI : InB w x i ctx k) (hm : i.May) (hr : k.right) (hset : (k.r i.dst).s = true) (hu : i.useImm = false) (hss : (k.r i.src).s = false) :
    Calls Try.prog 42 #[.pointer (some ⟨x, 0, none⟩)] w fun e w' => e = .panicked (stopC 161) ∧ Below w.heap.size w w' := by
  have hx := hI.lt
  have hdst := hm.dst
  obtain ⟨W1, hW1⟩ : ∃ W1, W1 = ((w.alloc (.cells #[.pointer (some ⟨x, 0, none⟩)] 77)).alloc (.cells #[.bool false, .bool false, .int .u32 0, .int .u32 0, .bool false, .int .u32 0, .int .u32 0, .bool false, .int .u32 0, .int .u32 0, .bool false, .int .u32 0, .int .u32 0, .bool false, .int .u32 0, .int .u32 0, .bool false, .int .u32 0, .int .u32 0, .bool false, .int .u32 0, .int .u32 0, .bool false, .int .u32 0, .int .u32 0, .bool false, .int .u32 0, .int .u32 0, .bool false, .int .u32 0, .int .u32 0] 42)).alloc (.cells #[.bool false, .bool false, .int .u32 0, .int .u32 0, .bool false, .int .u32 0, .int .u32 0, .bool false, .int .u32 0, .int .u32 0, .bool false, .int .u32 0, .int .u32 0, .bool false, .int .u32 0, .int .u32 0, .bool false, .int .u32 0, .int .u32 0, .bool false, .int .u32 0, .int .u32 0, .bool false, .int .u32 0, .int .u32 0, .bool false, .int .u32 0, .int .u32 0, .bool false, .int .u32 0, .int .u32 0] 42) := ⟨_, rfl⟩
  have T1 : Tw w (w.heap.size + 1) (knF kn0) (knF kn0) W1 := by rw [hW1]; exact Tw.start1 w x
  have hc1 : W1.cell? ⟨w.heap.size, 0, none⟩ = some (.pointer (some ⟨x, 0, none⟩)) := by rw [hW1]; simp [go_sem]
  have HRG := Lib.hid (fun W (hb : Below w.heap.size w W) => reg_ok (hI.below hb) hr i.dst hdst hset)
  have HSC := Lib.hid (fun W (hb : Below w.heap.size w W) => csrc_not (hI.below hb) hm hu hss)
  clear hset hr hu hss
  have HT1 := Lib.hid T1; have HC1 := Lib.hid hc1; have HI1 := Lib.hid (hI.below T1.b); clear T1 hc1 hI hm
  have HW1 := Lib.hid hW1; clear hW1
  go_enter Try.func42, Try.ntmps42
  go_upto_region 1 with fail
  rw [← HW1.out]
  refine planM (.rd 0 (.rd 1 (.rd 2 (.rd 3 (.rd 4 (.rd 5 (.rd 7 (.many [(6, some 13), (8, some 15), (9, some 4), (10, some 5)] (.eff 11 (.eff 12 .done)))))))))) [0, 1, 2, 3, 4, 5, 6, 7, 8, 9, 10, 11] (fun W => Below W1.heap.size W1 W) (by kernel_rfl) (by kernel_rfl) (fun c a d v w h => by cases d <;> exact h) ((Below.refl _ _).drew) ?_
  refine pm_rd (.pointer (some ⟨x, 0, none⟩)) rfl rfl (fun W hS => ?_) (fun K hK => ?_)
  · have f0 := (Kp.of_below hS No).cell HC1.out (fun e => e)
    simp [go_sem, f0]
  go_simp
  refine hK _ ?_
  clear hK K
  refine pm_rd (.pointer (some ⟨x, 0, none⟩)) rfl rfl (fun W hS => ?_) (fun K hK => ?_)
  · have f0 := (Kp.of_below hS No).cell HC1.out (fun e => e)
    simp [go_sem, f0]
  go_simp
  refine hK _ ?_
  clear hK K
  repeat (refine pm_pure rfl (fun K hK => ?_); go_simp; refine hK _ ?_; clear hK K)
  refine pm_rd (.int .i64 (i.dst : Int)) rfl rfl (fun W hS => ?_) (fun K hK => ?_)
  · have f0 := (Kp.of_below hS No).cell HI1.out.cdst (fun e => e)
    simp [go_sem, f0]
  go_simp
  refine hK _ ?_
  clear hK K
  refine pm_rd (.pointer (some ⟨x, 0, none⟩)) rfl rfl (fun W hS => ?_) (fun K hK => ?_)
  · have f0 := (Kp.of_below hS No).cell HC1.out (fun e => e)
    simp [go_sem, f0]
  go_simp
  refine hK _ ?_
  clear hK K
  refine pm_manyJ (fun l v W => l 8 = false) (by simp) ?_ ?_
  · intro c hc l v w1 hS hb hl hn hJ
    simp only [List.mem_cons, List.not_mem_nil, or_false] at hc
    rcases hc with rfl | rfl | rfl | rfl
    · have E7 : ∀ a : Act, (putM v l [(6, some 13), (8, some 15), (9, some 4), (10, some 5)] a).tmps[7]?.getD undef = a.tmps[7]?.getD undef := fun a => by simpa [Array.getD_eq_getD_getElem?] using putM_eval_other (v := v) (l := l) 7 [(6, some 13), (8, some 15), (9, some 4), (10, some 5)] a (by simp)
      have E12 : ∀ a : Act, (putM v l [(6, some 13), (8, some 15), (9, some 4), (10, some 5)] a).tmps[12]?.getD undef = a.tmps[12]?.getD undef := fun a => by simpa [Array.getD_eq_getD_getElem?] using putM_eval_other (v := v) (l := l) 12 [(6, some 13), (8, some 15), (9, some 4), (10, some 5)] a (by simp)
      refine pm_one rfl rfl (fun K' hK => ?_)
      refine wp_calls_ret (f := 39) (args := #[.pointer (some ⟨x, 0, none⟩), .int .i64 (i.dst : Int)]) ?_ (HRG.out w1 (HT1.out.b.trans (Below.mono hS HT1.out.b.size))) (fun w3 hb3 => ?_)
      · simp [execOp, go_sem]
        exact ⟨(E7 _).trans rfl, (E12 _).trans rfl⟩
      exact hK _ _ ⟨_, rfl, Below.trans hS (hb3.mono hS.size), hb3, hJ⟩
    · have E14 : ∀ a : Act, (putM v l [(6, some 13), (8, some 15), (9, some 4), (10, some 5)] a).tmps[14]?.getD undef = a.tmps[14]?.getD undef := fun a => by simpa [Array.getD_eq_getD_getElem?] using putM_eval_other (v := v) (l := l) 14 [(6, some 13), (8, some 15), (9, some 4), (10, some 5)] a (by simp)
      have e6 := hn (6, some 13) (by simp) (by kernel_rfl)
      refine pm_one rfl rfl (fun K' hK => ?_)
      refine wp_calls_panic (f := 54) (args := #[.pointer (some ⟨x, 0, none⟩)]) ?_ (HSC.out w1 (HT1.out.b.trans (Below.mono hS HT1.out.b.size))) (fun w3 hb3 => ?_)
      · simp [execOp, go_sem]
        exact (E14 _).trans rfl
      rcases h9 : l 9 with _ | _ <;> rcases h10 : l 10 with _ | _ <;> simp only [putM, e6, hJ, h9, h10, if_true, Bool.false_eq_true, if_false] <;> exact ⟨rfl, rfl, (HT1.out.b.trans (Below.mono hS HT1.out.b.size)).trans (hb3.mono (HT1.out.b.trans (Below.mono hS HT1.out.b.size)).size)⟩
    · refine pm_one rfl rfl (fun K' hK => ?_)
      refine wp_value (w' := w1.alloc (.cells #[.int .u64 0, .int .u64 0] 93)) (.pointer (some ⟨w1.heap.size, 0, none⟩)) (by kernel_rfl) ?_
      have hb3 : Below w1.heap.size w1 (w1.alloc (.cells #[.int .u64 0, .int .u64 0] 93)) := (Below.refl _ _).alloc (Nat.le_refl _) _
      exact hK _ _ ⟨_, rfl, Below.trans hS (hb3.mono hS.size), hb3, hJ⟩
    · refine pm_one rfl rfl (fun K' hK => ?_)
      refine wp_value (w' := w1.alloc (.cells #[.int .u64 0, .int .u64 0] 93)) (.pointer (some ⟨w1.heap.size, 0, none⟩)) (by kernel_rfl) ?_
      have hb3 : Below w1.heap.size w1 (w1.alloc (.cells #[.int .u64 0, .int .u64 0] 93)) := (Below.refl _ _).alloc (Nat.le_refl _) _
      exact hK _ _ ⟨_, rfl, Below.trans hS (hb3.mono hS.size), hb3, hJ⟩
  · intro l v w2 hS hb hl hJ
    have := hl (8, some 15) (by simp)
    rw [hJ] at this; cases this
end Go.Proofs.Ytjlddhnjbjhmkaa
namespace Go.Proofs.Ytjlddhnjbjhmkaa
open Go.RowKit

set_option maxRecDepth 100000 in
set_option maxHeartbeats 1500000 in
theorem less_same {w : World} {x : Nat} {i : Ins8} {ctx : Nat} {k : Kn} (hI : InB w x i ctx k) (hm : i.May) (hr : k.right) (hop : i.op = 21 ∨ i.op = 22) (hset : (k.r i.dst).s = true) (hss : i.op = 22 → (k.r i.src).s = true) (heq : i.dst = i.src) (h22 : i.op = 22)
    (dl dg sl sg : Nat) (hdl : (k.r i.dst).l = dl) (hdg : (k.r i.dst).g = dg) (hsl : (i.srcS k).l = sl) (hsg : (i.srcS k).g = sg)  :
    Calls Try.prog 42 #[.pointer (some ⟨x, 0, none⟩)] w fun e w' => e = .returned (.tuple #[.agg (knL (k)).toArray, .agg (knL (kn0)).toArray]) ∧ Below w.heap.size w w' := by
  have hx := hI.lt
  have hdst := hm.dst
  have hd1 := (hr i.dst).1
  have hd2 := (hr i.dst).2.1
  have hs1 := (src_ok (i := i) (k := k) (by have := hm.imm; omega) hr).1
  have hs2 := (src_ok (i := i) (k := k) (by have := hm.imm; omega) hr).2
  rw [hdl, hdg] at hd1
  rw [hdg] at hd2
  rw [hsl, hsg] at hs1
  rw [hsg] at hs2
  have hsC : ∀ W, Below w.heap.size w W → Calls Try.prog 54 #[.pointer (some ⟨x, 0, none⟩)] W fun e w' => e = .returned (.agg #[.int .u64 (sl : Int), .int .u64 (sg : Int)]) ∧ Below W.heap.size W w' := fun W hb => by
    rw [← hsl, ← hsg]
    rcases hu : i.useImm with _ | _
    · rw [show i.srcS k = (k.r i.src).sp from by unfold Ins8.srcS; simp [hu]]
      exact csrc_reg (hI.below hb) hr hm hu (hss (hop.resolve_left (fun e => by simp [Ins8.useImm, e] at hu)))
    · rw [show i.srcS k = ⟨i.imm, i.imm⟩ from by unfold Ins8.srcS; simp [hu]]
      exact csrc_imm (hI.below hb) hm hu
  have hRG := fun W (hb : Below w.heap.size w W) => reg_ok (hI.below hb) hr i.dst hdst hset
  rw [hdl, hdg] at hRG
  obtain ⟨kz, hkz⟩ : ∃ z : Kn, z = kn0 := ⟨_, rfl⟩
  obtain ⟨W1, hW1⟩ : ∃ W1, W1 = ((w.alloc (.cells #[.pointer (some ⟨x, 0, none⟩)] 77)).alloc (.cells #[.bool false, .bool false, .int .u32 0, .int .u32 0, .bool false, .int .u32 0, .int .u32 0, .bool false, .int .u32 0, .int .u32 0, .bool false, .int .u32 0, .int .u32 0, .bool false, .int .u32 0, .int .u32 0, .bool false, .int .u32 0, .int .u32 0, .bool false, .int .u32 0, .int .u32 0, .bool false, .int .u32 0, .int .u32 0, .bool false, .int .u32 0, .int .u32 0, .bool false, .int .u32 0, .int .u32 0] 42)).alloc (.cells #[.bool false, .bool false, .int .u32 0, .int .u32 0, .bool false, .int .u32 0, .int .u32 0, .bool false, .int .u32 0, .int .u32 0, .bool false, .int .u32 0, .int .u32 0, .bool false, .int .u32 0, .int .u32 0, .bool false, .int .u32 0, .int .u32 0, .bool false, .int .u32 0, .int .u32 0, .bool false, .int .u32 0, .int .u32 0, .bool false, .int .u32 0, .int .u32 0, .bool false, .int .u32 0, .int .u32 0] 42) := ⟨_, rfl⟩
  have T1 : Tw w (w.heap.size + 1) (knF kz) (knF kz) W1 := by rw [hW1, hkz]; exact Tw.start1 w x
  have hc1 : W1.cell? ⟨w.heap.size, 0, none⟩ = some (.pointer (some ⟨x, 0, none⟩)) := by rw [hW1]; simp [go_sem]
  have HIN := Lib.hid (fun W (hb : Below w.heap.size w W) => hI.below hb)
  have HBO := Lib.hid (fun W (hb : Below w.heap.size w W) (hc : W.cell? ⟨w.heap.size, 0, none⟩ = some (.pointer (some ⟨x, 0, none⟩))) => both_ok (hI.below hb) hm w.heap.size hc)
  have HRG := Lib.hid hRG; have HSC := Lib.hid hsC; have HT1 := Lib.hid T1; have HC1 := Lib.hid hc1; have HI1 := Lib.hid (HIN.out W1 T1.b)
  have q22 : ((i.op : Int) == 22) = true := by simp; omega
  have qd : ((i.dst : Int) == (i.src : Int)) = true := by simp; omega
  clear h22 hop heq
  clear hRG hsC T1 hc1 hI hm hr hset hss hkz hdl hdg hsl hsg
  have HW1 := Lib.hid hW1; clear hW1
  go_enter Try.func42, Try.ntmps42
  go_upto_region 1 with fail
  rw [← HW1.out]
  go_cut [4, 5] from 7 to 15 (fun s4 s5 wx => LsPost w x dl dg sl sg kz s4 s5 wx)
  case first =>
    refine wp_region_noPanic ?_
    refine planM (.rd 0 (.rd 1 (.rd 2 (.rd 3 (.rd 4 (.rd 5 (.rd 7 (.many [(6, some 13), (8, some 15), (9, some 4), (10, some 5)] (.eff 11 (.eff 12 .done)))))))))) [0, 1, 2, 3, 4, 5, 6, 7, 8, 9, 10, 11] (fun W => Below W1.heap.size W1 W) (by kernel_rfl) (by kernel_rfl) (fun _ _ _ _ _ h => h) ((Below.refl _ _).drew) ?_
    refine pm_rd (.pointer (some ⟨x, 0, none⟩)) rfl rfl (fun W hS => ?_) (fun K hK => ?_)
    · have f0 := (Kp.of_below hS No).cell HC1.out (fun e => e)
      simp [go_sem, f0]
    go_simp
    refine hK _ ?_
    clear hK K
    refine pm_rd (.pointer (some ⟨x, 0, none⟩)) rfl rfl (fun W hS => ?_) (fun K hK => ?_)
    · have f0 := (Kp.of_below hS No).cell HC1.out (fun e => e)
      simp [go_sem, f0]
    go_simp
    refine hK _ ?_
    clear hK K
    repeat (refine pm_pure rfl (fun K hK => ?_); go_simp; refine hK _ ?_; clear hK K)
    refine pm_rd (.int .i64 (i.dst : Int)) rfl rfl (fun W hS => ?_) (fun K hK => ?_)
    · have f0 := (Kp.of_below hS No).cell HI1.out.cdst (fun e => e)
      simp [go_sem, f0]
    go_simp
    refine hK _ ?_
    clear hK K
    refine pm_rd (.pointer (some ⟨x, 0, none⟩)) rfl rfl (fun W hS => ?_) (fun K hK => ?_)
    · have f0 := (Kp.of_below hS No).cell HC1.out (fun e => e)
      simp [go_sem, f0]
    go_simp
    refine hK _ ?_
    clear hK K
    refine pm_manyJ (fun l v W => LsJ W1 dl dg sl sg l v W) (LsJ.zero _ _ _ _ _ _) ?_ ?_
    · intro c hc l v w1 hS hb hl hn hJ
      simp only [List.mem_cons, List.not_mem_nil, or_false] at hc
      rcases hc with rfl | rfl | rfl | rfl
      · have E7 : ∀ a : Act, (putM v l [(6, some 13), (8, some 15), (9, some 4), (10, some 5)] a).tmps[7]?.getD undef = a.tmps[7]?.getD undef := fun a => by simpa [Array.getD_eq_getD_getElem?] using putM_eval_other (v := v) (l := l) 7 [(6, some 13), (8, some 15), (9, some 4), (10, some 5)] a (by simp)
        have E12 : ∀ a : Act, (putM v l [(6, some 13), (8, some 15), (9, some 4), (10, some 5)] a).tmps[12]?.getD undef = a.tmps[12]?.getD undef := fun a => by simpa [Array.getD_eq_getD_getElem?] using putM_eval_other (v := v) (l := l) 12 [(6, some 13), (8, some 15), (9, some 4), (10, some 5)] a (by simp)
        refine pm_one rfl rfl (fun K' hK => ?_)
        refine wp_calls_ret (f := 39) (args := #[.pointer (some ⟨x, 0, none⟩), .int .i64 (i.dst : Int)]) ?_ (HRG.out w1 (HT1.out.b.trans (Below.mono hS HT1.out.b.size))) (fun w3 hb3 => ?_)
        · simp [execOp, go_sem]
          exact ⟨(E7 _).trans rfl, (E12 _).trans rfl⟩
        exact hK _ _ ⟨_, rfl, Below.trans hS (hb3.mono hS.size), hb3, hJ.ups6 hb3⟩
      · have E14 : ∀ a : Act, (putM v l [(6, some 13), (8, some 15), (9, some 4), (10, some 5)] a).tmps[14]?.getD undef = a.tmps[14]?.getD undef := fun a => by simpa [Array.getD_eq_getD_getElem?] using putM_eval_other (v := v) (l := l) 14 [(6, some 13), (8, some 15), (9, some 4), (10, some 5)] a (by simp)
        refine pm_one rfl rfl (fun K' hK => ?_)
        refine wp_calls_ret (f := 54) (args := #[.pointer (some ⟨x, 0, none⟩)]) ?_ (HSC.out w1 (HT1.out.b.trans (Below.mono hS HT1.out.b.size))) (fun w3 hb3 => ?_)
        · simp [execOp, go_sem]
          exact (E14 _).trans rfl
        exact hK _ _ ⟨_, rfl, Below.trans hS (hb3.mono hS.size), hb3, hJ.ups8 hb3⟩
      · refine pm_one rfl rfl (fun K' hK => ?_)
        refine wp_value (w' := w1.alloc (.cells #[.int .u64 0, .int .u64 0] 93)) (.pointer (some ⟨w1.heap.size, 0, none⟩)) (by kernel_rfl) ?_
        have hb3 : Below w1.heap.size w1 (w1.alloc (.cells #[.int .u64 0, .int .u64 0] 93)) := (Below.refl _ _).alloc (Nat.le_refl _) _
        exact hK _ _ ⟨_, rfl, Below.trans hS (hb3.mono hS.size), hb3, hJ.ups9 hS.size⟩
      · refine pm_one rfl rfl (fun K' hK => ?_)
        refine wp_value (w' := w1.alloc (.cells #[.int .u64 0, .int .u64 0] 93)) (.pointer (some ⟨w1.heap.size, 0, none⟩)) (by kernel_rfl) ?_
        have hb3 : Below w1.heap.size w1 (w1.alloc (.cells #[.int .u64 0, .int .u64 0] 93)) := (Below.refl _ _).alloc (Nat.le_refl _) _
        exact hK _ _ ⟨_, rfl, Below.trans hS (hb3.mono hS.size), hb3, hJ.ups10 hS.size⟩
    · intro l v w2 hS hb hl hJ
      have v6 := hJ.a (hl (6, some 13) (by simp))
      have v8 := hJ.b (hl (8, some 15) (by simp))
      obtain ⟨b4, v9, hb4, hB4⟩ := hJ.c (hl (9, some 4) (by simp))
      obtain ⟨b5, v10, hb5, hB5⟩ := hJ.d (hl (10, some 5) (by simp))
      have hne := hJ.e (hl (9, some 4) (by simp)) (hl (10, some 5) (by simp))
      have hne2 : b4 ≠ b5 := fun e => hne (by rw [v9, v10, e])
      simp only [putM, if_true, v6, v8, v9, v10]
      clear hJ v6 v8 v9 v10 hne hl
      have hT := HT1.out.more hS
      have hz1 := HT1.out.z
      have hc2 := (Kp.of_below (show Below W1.heap.size W1 w2 from hS) No).cell HC1.out (fun e => e)
      have hkA : Kp (fun b => b = b4) w2 (w2.setCells b4 0 [.int .u64 (dl : Int), .int .u64 (dg : Int)]) := Kp.setCells (M := fun b => b = b4) (.inl rfl) _ _ _ (Kp.refl _ _)
      have hkB : Kp (fun b => b = b5) (w2.setCells b4 0 [.int .u64 (dl : Int), .int .u64 (dg : Int)]) ((w2.setCells b4 0 [.int .u64 (dl : Int), .int .u64 (dg : Int)]).setCells b5 0 [.int .u64 (sl : Int), .int .u64 (sg : Int)]) := Kp.setCells (M := fun b => b = b5) (.inl rfl) _ _ _ (Kp.refl _ _)
      have hB5A := hB5.keep hkA (fun e => hne2 e.symm)
      have hL : LsW w x b4 b5 dl dg sl sg (knF kz) (knF kz) ((w2.setCells b4 0 [.int .u64 (dl : Int), .int .u64 (dg : Int)]).setCells b5 0 [.int .u64 (sl : Int), .int .u64 (sg : Int)]) :=
        ⟨⟨(Kp.setCells (w := w) (b := b5) (.inr (by omega)) _ _ _ (Kp.setCells (w := w) (b := b4) (.inr (by omega)) _ _ _ (Kp.of_below hT.b No))).below, hT.lo, by have := hkA.size; have := hkB.size; have := hT.z; omega, (hT.n.keep hkA (by omega)).keep hkB (by omega), (hT.j.keep hkA (by omega)).keep hkB (by omega)⟩,
         hkB.cell (hkA.cell hc2 (by show ¬ w.heap.size = b4; omega)) (by show ¬ w.heap.size = b5; omega), (hB4.fill (spF dl dg)).keep hkB hne2, hB5A.fill (spF sl sg), by omega, by omega⟩
      refine pm_store rfl rfl rfl 93 (.tmp 4) (.tmp 13) rfl b4 0 #[.int .u64 (dl : Int), .int .u64 (dg : Int)] rfl rfl (there_blk hB4) (by kernel_rfl) (by simp [Value.oneCell']) (fun _ => (Kp.setCells (w := W1) (b := b4) (.inr hb4) _ _ _ (Kp.of_below hS No)).below) ?_
      refine pm_store rfl rfl rfl 93 (.tmp 5) (.tmp 15) rfl b5 0 #[.int .u64 (sl : Int), .int .u64 (sg : Int)] rfl rfl (there_blk hB5A) (by kernel_rfl) (by simp [Value.oneCell']) (fun h => by cases h) ?_
      refine pm_done ?_
      refine NoPanic.normal ?_
      have HL := Lib.hid hL; clear hL
      go_wp2_with fail
      go_meet
      exact ⟨b4, b5, rfl, rfl, HL.out⟩
  case rest =>
    obtain ⟨b4, b5, rfl, rfl, hL5⟩ := hcut
    generalize wc = W5 at *
    have HL5 := Lib.hid hL5; clear hL5
    have HI5 := Lib.hid (HIN.out W5 HL5.out.t.b)
    go_upto_region 2 with fail
    go_cut [34] from 16 to 34 (fun s34 wx => s34 = .bool true ∧ wx = W5.drew)
    case first =>
      refine wp_region_noPanic ?_
      refine planM (.rd 0 (.rd 1 (.rd 2 (.rd 3 (.rd 4 (.rd 5 (.rd 6 (.rd 7 (.rd 8 (.rd 9 (.rd 10 (.rd 11 (.rd 12 (.rd 13 (.rd 14 (.rd 15 (.rd 16 (.rd 17 (.rd 18 .done))))))))))))))))))) [0, 1, 2, 3, 4, 5, 6, 7, 8, 9, 10, 11, 12, 13, 14, 15, 16, 17, 18] (fun W => Below W5.heap.size W5 W) (by kernel_rfl) (by kernel_rfl) (fun _ _ _ _ _ h => h) ((Below.refl _ _).drew) ?_
      refine pm_rd (.pointer (some ⟨x, 0, none⟩)) rfl rfl (fun W hS => ?_) (fun K hK => ?_)
      · have f0 := (Kp.of_below hS No).cell HL5.out.c (fun e => e)
        simp [go_sem, f0]
      go_simp
      refine hK _ ?_
      clear hK K
      repeat (refine pm_pure rfl (fun K hK => ?_); go_simp; refine hK _ ?_; clear hK K)
      refine pm_rd (.int .i64 (i.op : Int)) rfl rfl (fun W hS => ?_) (fun K hK => ?_)
      · have f0 := (Kp.of_below hS No).cell HI5.out.cop (fun e => e)
        simp [go_sem, f0]
      go_simp
      refine hK _ ?_
      clear hK K
      repeat (refine pm_pure rfl (fun K hK => ?_); go_simp; refine hK _ ?_; clear hK K)
      refine pm_rd (.pointer (some ⟨x, 0, none⟩)) rfl rfl (fun W hS => ?_) (fun K hK => ?_)
      · have f0 := (Kp.of_below hS No).cell HL5.out.c (fun e => e)
        simp [go_sem, f0]
      go_simp
      refine hK _ ?_
      clear hK K
      repeat (refine pm_pure rfl (fun K hK => ?_); go_simp; refine hK _ ?_; clear hK K)
      refine pm_rd (.int .i64 (i.dst : Int)) rfl rfl (fun W hS => ?_) (fun K hK => ?_)
      · have f0 := (Kp.of_below hS No).cell HI5.out.cdst (fun e => e)
        simp [go_sem, f0]
      go_simp
      refine hK _ ?_
      clear hK K
      refine pm_rd (.pointer (some ⟨x, 0, none⟩)) rfl rfl (fun W hS => ?_) (fun K hK => ?_)
      · have f0 := (Kp.of_below hS No).cell HL5.out.c (fun e => e)
        simp [go_sem, f0]
      go_simp
      refine hK _ ?_
      clear hK K
      repeat (refine pm_pure rfl (fun K hK => ?_); go_simp; refine hK _ ?_; clear hK K)
      refine pm_rd (.int .i64 (i.src : Int)) rfl rfl (fun W hS => ?_) (fun K hK => ?_)
      · have f0 := (Kp.of_below hS No).cell HI5.out.csrc (fun e => e)
        simp [go_sem, f0]
      go_simp
      refine hK _ ?_
      clear hK K
      repeat (refine pm_pure rfl (fun K hK => ?_); go_simp; refine hK _ ?_; clear hK K)
      refine pm_done ?_
      refine NoPanic.normal ?_
      go_wp2_with fail
      go_meet
      exact ⟨rfl, rfl⟩
    case rest =>
      obtain ⟨rfl, rfl⟩ := hcut
      have HL6 := Lib.hid (HL5.out.more ((Below.refl _ _).drew))
      generalize W5.drew = W6 at HL6 ⊢
      go_upto_region 3 with fail
      have HI6 := Lib.hid (HIN.out W6 HL6.out.t.b)
      refine wp_region_list ?_
      refine wpList_val0 (.pointer (some ⟨x, 0, none⟩)) rfl (by have c0 := HL6.out.c; simp [go_sem, c0]) ?_
      refine wpList_val0 (.pointer (some ⟨x, 0, none⟩)) rfl (by kernel_rfl) ?_
      refine wpList_val0 (.pointer (some ⟨x, 6, none⟩)) rfl (by kernel_rfl) ?_
      refine wpList_load_mid rfl 42 (.tmp 37) (by kernel_rfl) x 6 (by kernel_rfl) (knL k) _ HI6.out.known Try.underlying42 rfl (by rw [knL_length]; exact info_kn) ?_
      refine wpList_val0 (.agg #[.bool false, .bool false, .int .u32 0, .int .u32 0, .bool false, .int .u32 0, .int .u32 0, .bool false, .int .u32 0, .int .u32 0, .bool false, .int .u32 0, .int .u32 0, .bool false, .int .u32 0, .int .u32 0, .bool false, .int .u32 0, .int .u32 0, .bool false, .int .u32 0, .int .u32 0, .bool false, .int .u32 0, .int .u32 0, .bool false, .int .u32 0, .int .u32 0, .bool false, .int .u32 0, .int .u32 0]) rfl (by kernel_rfl) ?_
      refine wpList_store_mid rfl 42 (.tmp 2) (.tmp 38) (by kernel_rfl) (w.heap.size + 1) 0 (knL k).toArray (by kernel_rfl) (by kernel_rfl) (by rw [knA_size]; exact there_blk HL6.out.t.n) (by rw [knA_size]; exact info_kn) (knL_one _) ?_
      rw [knL_tl]
      have T7 := HL6.out.t.setn (knF k)
      refine wpList_store_mid rfl 42 (.tmp 3) (.tmp 39) (by kernel_rfl) (w.heap.size + 2) 0 #[.bool false, .bool false, .int .u32 0, .int .u32 0, .bool false, .int .u32 0, .int .u32 0, .bool false, .int .u32 0, .int .u32 0, .bool false, .int .u32 0, .int .u32 0, .bool false, .int .u32 0, .int .u32 0, .bool false, .int .u32 0, .int .u32 0, .bool false, .int .u32 0, .int .u32 0, .bool false, .int .u32 0, .int .u32 0, .bool false, .int .u32 0, .int .u32 0, .bool false, .int .u32 0, .int .u32 0] (by kernel_rfl) (by kernel_rfl) (there_blk T7.j) (by kernel_rfl) (by kernel_rfl) ?_
      have ez : (#[.bool false, .bool false, .int .u32 0, .int .u32 0, .bool false, .int .u32 0, .int .u32 0, .bool false, .int .u32 0, .int .u32 0, .bool false, .int .u32 0, .int .u32 0, .bool false, .int .u32 0, .int .u32 0, .bool false, .int .u32 0, .int .u32 0, .bool false, .int .u32 0, .int .u32 0, .bool false, .int .u32 0, .int .u32 0, .bool false, .int .u32 0, .int .u32 0, .bool false, .int .u32 0, .int .u32 0] : Array Value).toList = rowF 31 (knF kn0) := by kernel_rfl
      rw [ez]
      have T8 := T7.setj (knF kn0)
      generalize hWf : (W6.setCells (w.heap.size + 1) 0 (rowF 31 (knF k))).setCells (w.heap.size + 2) 0 (rowF 31 (knF kn0)) = Wf
      have T9 : Tw w (w.heap.size + 1) (knF k) (knF kn0) Wf := by rw [← hWf]; exact T8
      clear hWf T7 T8 ez
      have HT3 := Lib.hid T9; clear T9
      go_wp2
      exact bodyPost_ret (v := .tuple #[.agg (knL k).toArray, .agg (knL kn0).toArray]) (results_cell2_range Try.results42 _ _ (w.heap.size + 1) (w.heap.size + 2) _ _ _ rfl rfl HT3.out.n.range HT3.out.j.range Try.underlying42 rfl (by rw [knL_length]; exact info_kn) (by rw [knL_length]; exact info_kn)) rfl ⟨rfl, HT3.out.b⟩
end Go.Proofs.Ytjlddhnjbjhmkaa
