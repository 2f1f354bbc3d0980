/- The document's run: a step (ja jeq_y jeq_n jlti_y jlti_n jlt_y jlt_n exit_ call_). -/
import Derived.Test.YtpnkbpjhbmacaaaRv11
set_option linter.unusedVariables false
set_option linter.unusedSimpArgs false
namespace Go.Proofs.Ytpnkbpjhbmacaaa
open Go.RowKit

set_option maxRecDepth 100000 in
set_option maxHeartbeats 8000000 in
theorem stepr_ja {w : World} {okc : Nat → Prop} {KA : Option Addr} {kc : Nat} {s : Vm} {IA : Option Addr} {ic : Nat} {pr : List Ins8} {CA : Option Addr} {cc : Nat} {cx : List UInt8} {A : Option Addr} {ca : Nat} {ans : List Nat} (ctx : Int) (H : StepIn w okc KA kc s IA ic pr CA cc cx A ca ans) (i : Ins8) (hi : pr[s.at_]? = some i) (hm : i.May) (hop : i.op = 19) :
    Calls Try.prog 26 #[.agg #[.int .i64 ctx, .slice IA pr.length ic], .slice CA cx.length cc, .slice A ans.length ca, .agg (stL (.slice KA s.calls.length kc) s false).toArray] w (StepPost w okc (s.mark.next i.off) false) := by
  obtain ⟨L, hL⟩ : ∃ L, L = (stL (.slice KA s.calls.length kc) s false).toArray := ⟨_, rfl⟩
  obtain ⟨W1, hW1⟩ : ∃ W1, W1 = ((w.alloc (.cells #[.int .i64 ctx, .slice IA pr.length ic] 24)).alloc (.cells L 83)).alloc (.cells Try.zeroCells83 83) := ⟨_, rfl⟩
  have G1 : S3 w (.int .i64 ctx) (.slice IA pr.length ic) (stF (.slice KA s.calls.length kc) s false) W1 := by rw [hW1, hL]; exact S3.start w _ _ _ _ size_state
  have hz1 : W1.heap.size = w.heap.size + 3 := by rw [hW1]; simp
  have HZ1 := Lib.hid hz1; clear hz1
  have c0 : W1.cell? ⟨w.heap.size + 1, 0, none⟩ = some (.int .i64 (s.at_ : Int)) := G1.s.cell 0 (by omega)
  have c23 := G1.s.cell 23 (by omega)
  have f23 := G1.s.frozen 23
  have c1 := G1.p1
  have G2 := (G1.put 23 (.int .i64 (s.at_ : Int))).congr (stF_mark (.slice KA s.calls.length kc) s false)
  have HG2 := Lib.hid G2; clear G2
  have HG1 := Lib.hid G1; clear G1
  rw [← hL]
  clear hL
  have HW1 := Lib.hid hW1; clear hW1
  obtain ⟨hat, _⟩ := List.getElem?_eq_some_iff.1 hi
  have hat' : (s.at_ : Int) < pr.length := by omega
  obtain ⟨a, rfl, _, hab, hcl⟩ := H.ins.at_ (j := s.at_ * 5) (by have := Nat.mul_lt_mul_of_pos_right hat (show 0 < 5 by omega); exact this)
  have hld : ∀ j v, (insCells i)[j]? = some v → (W1.setCell ⟨w.heap.size + 1, 23, none⟩ (.int .i64 (s.at_ : Int))).cell? ((a.add (s.at_ * 5)).add j) = some v := fun j v hv => by
    have hj : j < 5 := by
      rcases Nat.lt_or_ge j 5 with h | h
      · exact h
      · rw [List.getElem?_eq_none (by simpa [insCells] using h)] at hv; cases hv
    rw [add_add]
    have := hcl (s.at_ * 5 + j) v (by rw [ins_cells pr s.at_ j i hi hj]; exact hv)
    exact (World.cell?_of_block (HG2.out.b.block _ (by rw [add_block]; exact hab))).trans this
  have hld : ∀ j v, [.int .i64 19, .int .i64 (i.dst : Int), .int .i64 (i.src : Int), .int .i64 i.off, .int .u32 (i.imm : Int)][j]? = some v → (W1.setCell ⟨w.heap.size + 1, 23, none⟩ (.int .i64 (s.at_ : Int))).cell? ((a.add (s.at_ * 5)).add j) = some v := fun j v hv => hld j v (by simp only [insCells, hop]; exact hv)
  have hu : ∀ W : World, Calls Try.prog 27 #[.int .i64 19] W fun e w' => e = .returned (.tuple #[.bool false, .bool false, .bool true, .bool false, .bool true]) ∧ W = w' := fun W => by
    have := uses_in W i.op hm.op1 hm.op2
    rw [hop] at this
    exact this
  have hdst := hm.dst
  have hsrc := hm.src
  have hdst' : (i.dst : Int) < 10 := by omega
  have hsrc' : (i.src : Int) < 10 := by omega
  have ho1 := hm.off1
  have ho2 := hm.off2
  have him := hm.imm
  have hrd := H.ok.reg i.dst
  have hrs := H.ok.reg i.src
  have HOK := Lib.hid H.ok
  have HH := Lib.hid H
  have hN4 := HG2.out.ins (by rw [← HZ1.out]; simp [World.setCell]) i
  rw [hop] at hN4
  have HN4 := Lib.hid hN4; clear hN4
  have HLD := Lib.hid hld; clear hld
  have HCL := Lib.hid hcl; clear hcl
  have HU := Lib.hid hu; clear hu
  have HOP := Lib.hid hop; clear hop
  have HM := Lib.hid hm; clear hm
  have HI := Lib.hid hi; clear hi
  have hj := HM.out.jmp (by rw [HOP.out]; omega)
  have hj1 := hj.1
  have hj2 := hj.2
  clear hj
  clear H
  go_enter Try.func26, Try.ntmps26
  go_upto_region 1 with fail
  rw [← HW1.out]
  go_upto_region 5 with (refine wpList_value (.agg #[.int .i64 19, .int .i64 (i.dst : Int), .int .i64 (i.src : Int), .int .i64 i.off, .int .u32 (i.imm : Int)]) rfl (exec_load_at 50 (.tmp 38) rfl (a.add (s.at_ * 5)) rfl ([.int .i64 19, .int .i64 (i.dst : Int), .int .i64 (i.src : Int), .int .i64 i.off, .int .u32 (i.imm : Int)]) _ HLD.out Try.underlying50 rfl size_ins) ?_)
  clear c0 c23 f23 c1
  generalize hW4 : (W1.setCell ⟨w.heap.size + 1, 23, none⟩ (.int .i64 (s.at_ : Int))).alloc (.cells #[.int .i64 19, .int .i64 (i.dst : Int), .int .i64 (i.src : Int), .int .i64 i.off, .int .u32 (i.imm : Int)] 50) = W4 at HN4
  rw [HZ1.out]
  have i0 : W4.cell? ⟨w.heap.size + 3, 0, none⟩ = some (.int .i64 19) := (by have := HN4.out.n.cells.1; rw [HOP.out] at this; exact this)
  have i1 := HN4.out.n.cells.2.1
  have i2 := HN4.out.n.cells.2.2.1
  have i3 := HN4.out.n.cells.2.2.2.1
  have i4 := HN4.out.n.cells.2.2.2.2
  have s0 : W4.cell? ⟨w.heap.size + 1, 0, none⟩ = some (.int .i64 (s.at_ : Int)) := HN4.out.g.s.cell 0 (by omega)
  have sd : W4.cell? ⟨w.heap.size + 1, 1 + i.dst, none⟩ = some (.bool (s.set i.dst)) := by rw [HN4.out.g.s.cell (1 + i.dst) (by omega), stF_set _ _ _ _ hdst]; rfl
  have ss : W4.cell? ⟨w.heap.size + 1, 1 + i.src, none⟩ = some (.bool (s.set i.src)) := by rw [HN4.out.g.s.cell (1 + i.src) (by omega), stF_set _ _ _ _ hsrc]; rfl
  have sz : W4.cell? ⟨w.heap.size + 1, 1, none⟩ = some (.bool (s.set 0)) := HN4.out.g.s.cell 1 (by omega)
  go_upto_region 10 with (go_at_call 27; (with_reducible refine (HU.out _).mono ?_); rintro e w' ⟨rfl, rfl⟩)
  clear i0 i1 i2 i3 i4 s0 sd ss sz
  refine wp_region_noPanic ?_
  refine plan (.rd 0 (.rd 1 (.rd 2 (.rd 3 (.rd 4 (.rd 5 (.rd 6 (.rd 7 (.rd 8 (.rd 9 (.rd 10 (.rd 11 .done)))))))))))) [0, 1, 2, 3, 4, 5, 6, 7, 8, 9, 10, 11] (fun W => S4 w (.int .i64 ctx) (.slice (some a) pr.length ic) (stF (.slice KA s.calls.length kc) s.mark false) i W) (by kernel_rfl) (by kernel_rfl) (fun _ _ _ _ _ h => h) HN4.out.drewp ?_
  repeat (refine pl_pure rfl (fun K hK => ?_); go_simp; refine hK _ ?_; clear hK K)
  refine pl_rd (.int .i64 (i.dst : Int)) rfl rfl (fun W hS => ?_) (fun K hK => ?_)
  · have f0 := hS.n.cells.2.1
    simp [go_sem, f0]
  go_simp
  refine hK _ ?_
  clear hK K
  repeat (refine pl_pure rfl (fun K hK => ?_); go_simp; refine hK _ ?_; clear hK K)
  refine pl_rd (.int .i64 (s.reg i.dst : Int)) rfl rfl (fun W hS => ?_) (fun K hK => ?_)
  · have f0 : W.cell? ⟨w.heap.size + 1, 11 + i.dst, none⟩ = some (.int .i64 (s.reg i.dst : Int)) := by rw [hS.g.s.cell (11 + i.dst) (by omega), stF_reg _ _ _ _ hdst]; rfl
    simp [go_sem, f0]
  go_simp
  refine hK _ ?_
  clear hK K
  repeat (refine pl_pure rfl (fun K hK => ?_); go_simp; refine hK _ ?_; clear hK K)
  refine pl_rd (.int .i64 (i.src : Int)) rfl rfl (fun W hS => ?_) (fun K hK => ?_)
  · have f0 := hS.n.cells.2.2.1
    simp [go_sem, f0]
  go_simp
  refine hK _ ?_
  clear hK K
  repeat (refine pl_pure rfl (fun K hK => ?_); go_simp; refine hK _ ?_; clear hK K)
  refine pl_rd (.int .i64 (s.reg i.src : Int)) rfl rfl (fun W hS => ?_) (fun K hK => ?_)
  · have f0 : W.cell? ⟨w.heap.size + 1, 11 + i.src, none⟩ = some (.int .i64 (s.reg i.src : Int)) := by rw [hS.g.s.cell (11 + i.src) (by omega), stF_reg _ _ _ _ hsrc]; rfl
    simp [go_sem, f0]
  go_simp
  refine hK _ ?_
  clear hK K
  repeat (refine pl_pure rfl (fun K hK => ?_); go_simp; refine hK _ ?_; clear hK K)
  refine pl_done ?_
  refine NoPanic.normal ?_
  have HN5 := Lib.hid HN4.out.drewp
  generalize hW5 : W4.drew = W5 at HN5 ⊢
  clear hW5
  have i0 : W5.cell? ⟨w.heap.size + 3, 0, none⟩ = some (.int .i64 19) := (by have := HN5.out.n.cells.1; rw [HOP.out] at this; exact this)
  have i1 := HN5.out.n.cells.2.1
  have i2 := HN5.out.n.cells.2.2.1
  have i3 := HN5.out.n.cells.2.2.2.1
  have i4 := HN5.out.n.cells.2.2.2.2
  have s0 : W5.cell? ⟨w.heap.size + 1, 0, none⟩ = some (.int .i64 (s.at_ : Int)) := HN5.out.g.s.cell 0 (by omega)
  go_upto_region 39 with fail
  clear i0 i1 i2 i3 i4 s0
  have c0 : W5.cell? ⟨w.heap.size + 1, 0, none⟩ = some (.int .i64 (s.at_ : Int)) := HN5.out.g.s.cell 0 (by omega)
  have c21 : W5.cell? ⟨w.heap.size + 1, 21, none⟩ = some (.int .i64 (s.steps : Int)) := HN5.out.g.s.cell 21 (by omega)
  have f0 := HN5.out.g.s.frozen 0
  have f21 := HN5.out.g.s.frozen 21
  have hat9 := HH.out.at_
  have hst9 := HH.out.st
  have HN8 := Lib.hid (((HN5.out.put 21 (.int .i64 ((s.steps : Int) + 1))).put 0 (.int .i64 ((s.at_ : Int) + 1 + i.off))).congr (stF_next (.slice KA s.calls.length kc) s.mark false i.off ((s.at_ : Int) + 1 + i.off) (by simp only [Vm.next]; show _ = (((s.at_ : Int) + (1 + _)).toNat : Int); omega)))
  go_upto_region 41 with fail
  generalize hW8 : (W5.setCell ⟨w.heap.size + 1, 21, none⟩ (.int .i64 ((s.steps : Int) + 1))).setCell ⟨w.heap.size + 1, 0, none⟩ (.int .i64 ((s.at_ : Int) + 1 + i.off)) = W8 at HN8 ⊢
  clear hW8 c0 c21 f0 f21
  obtain ⟨HT9, W10, HW10, HR10, HK10, HB10⟩ := HN8.out.g.done (stL (.slice KA s.calls.length kc) (s.mark.next i.off) false) (stL_length _ _ _)
  refine wp_region_list ?_
  refine wpList_load_mid rfl 83 (.tmp 7) rfl (w.heap.size + 1) 0 rfl (stL (.slice KA s.calls.length kc) (s.mark.next i.off) false) _ HN8.out.g.s.range Try.underlying83 rfl (by rw [stL_length]; exact info_state) ?_
  refine wpList_store_mid rfl 83 (.tmp 8) (.tmp 262) rfl (w.heap.size + 2) 0 (stL (.slice KA s.calls.length kc) (s.mark.next i.off) false).toArray rfl rfl (by rw [stA_size]; exact HT9.out) (by rw [stA_size]; exact info_state) (stL_one _ rfl _ _) ?_
  rw [← HW10.out]
  go_wp2
  exact bodyPost_ret (v := .agg (stL (.slice KA s.calls.length kc) (s.mark.next i.off) false).toArray) (results_cell1_range Try.results26 _ _ (w.heap.size + 2) 0 _ _ rfl HR10.out Try.underlying83 rfl (by rw [stL_length]; exact info_state)) rfl ⟨KA, kc, rfl, (HH.out.sl.move (Mv.of_below HB10.out okc)).mono (fun _ _ h => .inl h), HB10.out⟩

set_option maxRecDepth 100000 in
set_option maxHeartbeats 8000000 in
theorem stepr_jeq_y {w : World} {okc : Nat → Prop} {KA : Option Addr} {kc : Nat} {s : Vm} {IA : Option Addr} {ic : Nat} {pr : List Ins8} {CA : Option Addr} {cc : Nat} {cx : List UInt8} {A : Option Addr} {ca : Nat} {ans : List Nat} (ctx : Int) (H : StepIn w okc KA kc s IA ic pr CA cc cx A ca ans) (i : Ins8) (hi : pr[s.at_]? = some i) (hm : i.May) (hop : i.op = 20) (hsd : s.set i.dst = true) (heq : s.reg i.dst = i.imm) :
    Calls Try.prog 26 #[.agg #[.int .i64 ctx, .slice IA pr.length ic], .slice CA cx.length cc, .slice A ans.length ca, .agg (stL (.slice KA s.calls.length kc) s false).toArray] w (StepPost w okc (s.mark.next i.off) false) := by
  obtain ⟨L, hL⟩ : ∃ L, L = (stL (.slice KA s.calls.length kc) s false).toArray := ⟨_, rfl⟩
  obtain ⟨W1, hW1⟩ : ∃ W1, W1 = ((w.alloc (.cells #[.int .i64 ctx, .slice IA pr.length ic] 24)).alloc (.cells L 83)).alloc (.cells Try.zeroCells83 83) := ⟨_, rfl⟩
  have G1 : S3 w (.int .i64 ctx) (.slice IA pr.length ic) (stF (.slice KA s.calls.length kc) s false) W1 := by rw [hW1, hL]; exact S3.start w _ _ _ _ size_state
  have hz1 : W1.heap.size = w.heap.size + 3 := by rw [hW1]; simp
  have HZ1 := Lib.hid hz1; clear hz1
  have c0 : W1.cell? ⟨w.heap.size + 1, 0, none⟩ = some (.int .i64 (s.at_ : Int)) := G1.s.cell 0 (by omega)
  have c23 := G1.s.cell 23 (by omega)
  have f23 := G1.s.frozen 23
  have c1 := G1.p1
  have G2 := (G1.put 23 (.int .i64 (s.at_ : Int))).congr (stF_mark (.slice KA s.calls.length kc) s false)
  have HG2 := Lib.hid G2; clear G2
  have HG1 := Lib.hid G1; clear G1
  rw [← hL]
  clear hL
  have HW1 := Lib.hid hW1; clear hW1
  obtain ⟨hat, _⟩ := List.getElem?_eq_some_iff.1 hi
  have hat' : (s.at_ : Int) < pr.length := by omega
  obtain ⟨a, rfl, _, hab, hcl⟩ := H.ins.at_ (j := s.at_ * 5) (by have := Nat.mul_lt_mul_of_pos_right hat (show 0 < 5 by omega); exact this)
  have hld : ∀ j v, (insCells i)[j]? = some v → (W1.setCell ⟨w.heap.size + 1, 23, none⟩ (.int .i64 (s.at_ : Int))).cell? ((a.add (s.at_ * 5)).add j) = some v := fun j v hv => by
    have hj : j < 5 := by
      rcases Nat.lt_or_ge j 5 with h | h
      · exact h
      · rw [List.getElem?_eq_none (by simpa [insCells] using h)] at hv; cases hv
    rw [add_add]
    have := hcl (s.at_ * 5 + j) v (by rw [ins_cells pr s.at_ j i hi hj]; exact hv)
    exact (World.cell?_of_block (HG2.out.b.block _ (by rw [add_block]; exact hab))).trans this
  have hld : ∀ j v, [.int .i64 20, .int .i64 (i.dst : Int), .int .i64 (i.src : Int), .int .i64 i.off, .int .u32 (i.imm : Int)][j]? = some v → (W1.setCell ⟨w.heap.size + 1, 23, none⟩ (.int .i64 (s.at_ : Int))).cell? ((a.add (s.at_ * 5)).add j) = some v := fun j v hv => hld j v (by simp only [insCells, hop]; exact hv)
  have hu : ∀ W : World, Calls Try.prog 27 #[.int .i64 20] W fun e w' => e = .returned (.tuple #[.bool true, .bool false, .bool true, .bool true, .bool true]) ∧ W = w' := fun W => by
    have := uses_in W i.op hm.op1 hm.op2
    rw [hop] at this
    exact this
  have hdst := hm.dst
  have hsrc := hm.src
  have hdst' : (i.dst : Int) < 10 := by omega
  have hsrc' : (i.src : Int) < 10 := by omega
  have ho1 := hm.off1
  have ho2 := hm.off2
  have him := hm.imm
  have hrd := H.ok.reg i.dst
  have hrs := H.ok.reg i.src
  have HOK := Lib.hid H.ok
  have HH := Lib.hid H
  have hN4 := HG2.out.ins (by rw [← HZ1.out]; simp [World.setCell]) i
  rw [hop] at hN4
  have HN4 := Lib.hid hN4; clear hN4
  have HLD := Lib.hid hld; clear hld
  have HCL := Lib.hid hcl; clear hcl
  have HU := Lib.hid hu; clear hu
  have HOP := Lib.hid hop; clear hop
  have HM := Lib.hid hm; clear hm
  have HI := Lib.hid hi; clear hi
  have hj := HM.out.jmp (by rw [HOP.out]; omega)
  have hj1 := hj.1
  have hj2 := hj.2
  clear hj
  have hq1 : ((s.reg i.dst : Int) == (i.imm : Int)) = true := by simp; omega
  have hq2 : (s.reg i.dst == i.imm) = true := by simp; omega
  have hq3 : decide (s.reg i.dst = i.imm) = true := by simp; omega
  clear heq
  clear H
  go_enter Try.func26, Try.ntmps26
  go_upto_region 1 with fail
  rw [← HW1.out]
  go_upto_region 5 with (refine wpList_value (.agg #[.int .i64 20, .int .i64 (i.dst : Int), .int .i64 (i.src : Int), .int .i64 i.off, .int .u32 (i.imm : Int)]) rfl (exec_load_at 50 (.tmp 38) rfl (a.add (s.at_ * 5)) rfl ([.int .i64 20, .int .i64 (i.dst : Int), .int .i64 (i.src : Int), .int .i64 i.off, .int .u32 (i.imm : Int)]) _ HLD.out Try.underlying50 rfl size_ins) ?_)
  clear c0 c23 f23 c1
  generalize hW4 : (W1.setCell ⟨w.heap.size + 1, 23, none⟩ (.int .i64 (s.at_ : Int))).alloc (.cells #[.int .i64 20, .int .i64 (i.dst : Int), .int .i64 (i.src : Int), .int .i64 i.off, .int .u32 (i.imm : Int)] 50) = W4 at HN4
  rw [HZ1.out]
  have i0 : W4.cell? ⟨w.heap.size + 3, 0, none⟩ = some (.int .i64 20) := (by have := HN4.out.n.cells.1; rw [HOP.out] at this; exact this)
  have i1 := HN4.out.n.cells.2.1
  have i2 := HN4.out.n.cells.2.2.1
  have i3 := HN4.out.n.cells.2.2.2.1
  have i4 := HN4.out.n.cells.2.2.2.2
  have s0 : W4.cell? ⟨w.heap.size + 1, 0, none⟩ = some (.int .i64 (s.at_ : Int)) := HN4.out.g.s.cell 0 (by omega)
  have sd : W4.cell? ⟨w.heap.size + 1, 1 + i.dst, none⟩ = some (.bool (s.set i.dst)) := by rw [HN4.out.g.s.cell (1 + i.dst) (by omega), stF_set _ _ _ _ hdst]; rfl
  have ss : W4.cell? ⟨w.heap.size + 1, 1 + i.src, none⟩ = some (.bool (s.set i.src)) := by rw [HN4.out.g.s.cell (1 + i.src) (by omega), stF_set _ _ _ _ hsrc]; rfl
  have sz : W4.cell? ⟨w.heap.size + 1, 1, none⟩ = some (.bool (s.set 0)) := HN4.out.g.s.cell 1 (by omega)
  go_upto_region 10 with (go_at_call 27; (with_reducible refine (HU.out _).mono ?_); rintro e w' ⟨rfl, rfl⟩)
  clear i0 i1 i2 i3 i4 s0 sd ss sz
  refine wp_region_noPanic ?_
  refine plan (.rd 0 (.rd 1 (.rd 2 (.rd 3 (.rd 4 (.rd 5 (.rd 6 (.rd 7 (.rd 8 (.rd 9 (.rd 10 (.rd 11 .done)))))))))))) [0, 1, 2, 3, 4, 5, 6, 7, 8, 9, 10, 11] (fun W => S4 w (.int .i64 ctx) (.slice (some a) pr.length ic) (stF (.slice KA s.calls.length kc) s.mark false) i W) (by kernel_rfl) (by kernel_rfl) (fun _ _ _ _ _ h => h) HN4.out.drewp ?_
  repeat (refine pl_pure rfl (fun K hK => ?_); go_simp; refine hK _ ?_; clear hK K)
  refine pl_rd (.int .i64 (i.dst : Int)) rfl rfl (fun W hS => ?_) (fun K hK => ?_)
  · have f0 := hS.n.cells.2.1
    simp [go_sem, f0]
  go_simp
  refine hK _ ?_
  clear hK K
  repeat (refine pl_pure rfl (fun K hK => ?_); go_simp; refine hK _ ?_; clear hK K)
  refine pl_rd (.int .i64 (s.reg i.dst : Int)) rfl rfl (fun W hS => ?_) (fun K hK => ?_)
  · have f0 : W.cell? ⟨w.heap.size + 1, 11 + i.dst, none⟩ = some (.int .i64 (s.reg i.dst : Int)) := by rw [hS.g.s.cell (11 + i.dst) (by omega), stF_reg _ _ _ _ hdst]; rfl
    simp [go_sem, f0]
  go_simp
  refine hK _ ?_
  clear hK K
  repeat (refine pl_pure rfl (fun K hK => ?_); go_simp; refine hK _ ?_; clear hK K)
  refine pl_rd (.int .i64 (i.src : Int)) rfl rfl (fun W hS => ?_) (fun K hK => ?_)
  · have f0 := hS.n.cells.2.2.1
    simp [go_sem, f0]
  go_simp
  refine hK _ ?_
  clear hK K
  repeat (refine pl_pure rfl (fun K hK => ?_); go_simp; refine hK _ ?_; clear hK K)
  refine pl_rd (.int .i64 (s.reg i.src : Int)) rfl rfl (fun W hS => ?_) (fun K hK => ?_)
  · have f0 : W.cell? ⟨w.heap.size + 1, 11 + i.src, none⟩ = some (.int .i64 (s.reg i.src : Int)) := by rw [hS.g.s.cell (11 + i.src) (by omega), stF_reg _ _ _ _ hsrc]; rfl
    simp [go_sem, f0]
  go_simp
  refine hK _ ?_
  clear hK K
  repeat (refine pl_pure rfl (fun K hK => ?_); go_simp; refine hK _ ?_; clear hK K)
  refine pl_done ?_
  refine NoPanic.normal ?_
  have HN5 := Lib.hid HN4.out.drewp
  generalize hW5 : W4.drew = W5 at HN5 ⊢
  clear hW5
  have i0 : W5.cell? ⟨w.heap.size + 3, 0, none⟩ = some (.int .i64 20) := (by have := HN5.out.n.cells.1; rw [HOP.out] at this; exact this)
  have i1 := HN5.out.n.cells.2.1
  have i2 := HN5.out.n.cells.2.2.1
  have i3 := HN5.out.n.cells.2.2.2.1
  have i4 := HN5.out.n.cells.2.2.2.2
  have s0 : W5.cell? ⟨w.heap.size + 1, 0, none⟩ = some (.int .i64 (s.at_ : Int)) := HN5.out.g.s.cell 0 (by omega)
  go_upto_region 39 with fail
  clear i0 i1 i2 i3 i4 s0
  have c0 : W5.cell? ⟨w.heap.size + 1, 0, none⟩ = some (.int .i64 (s.at_ : Int)) := HN5.out.g.s.cell 0 (by omega)
  have c21 : W5.cell? ⟨w.heap.size + 1, 21, none⟩ = some (.int .i64 (s.steps : Int)) := HN5.out.g.s.cell 21 (by omega)
  have f0 := HN5.out.g.s.frozen 0
  have f21 := HN5.out.g.s.frozen 21
  have hat9 := HH.out.at_
  have hst9 := HH.out.st
  have HN8 := Lib.hid (((HN5.out.put 21 (.int .i64 ((s.steps : Int) + 1))).put 0 (.int .i64 ((s.at_ : Int) + 1 + i.off))).congr (stF_next (.slice KA s.calls.length kc) s.mark false i.off ((s.at_ : Int) + 1 + i.off) (by simp only [Vm.next]; show _ = (((s.at_ : Int) + (1 + _)).toNat : Int); omega)))
  go_upto_region 41 with fail
  generalize hW8 : (W5.setCell ⟨w.heap.size + 1, 21, none⟩ (.int .i64 ((s.steps : Int) + 1))).setCell ⟨w.heap.size + 1, 0, none⟩ (.int .i64 ((s.at_ : Int) + 1 + i.off)) = W8 at HN8 ⊢
  clear hW8 c0 c21 f0 f21
  obtain ⟨HT9, W10, HW10, HR10, HK10, HB10⟩ := HN8.out.g.done (stL (.slice KA s.calls.length kc) (s.mark.next i.off) false) (stL_length _ _ _)
  refine wp_region_list ?_
  refine wpList_load_mid rfl 83 (.tmp 7) rfl (w.heap.size + 1) 0 rfl (stL (.slice KA s.calls.length kc) (s.mark.next i.off) false) _ HN8.out.g.s.range Try.underlying83 rfl (by rw [stL_length]; exact info_state) ?_
  refine wpList_store_mid rfl 83 (.tmp 8) (.tmp 262) rfl (w.heap.size + 2) 0 (stL (.slice KA s.calls.length kc) (s.mark.next i.off) false).toArray rfl rfl (by rw [stA_size]; exact HT9.out) (by rw [stA_size]; exact info_state) (stL_one _ rfl _ _) ?_
  rw [← HW10.out]
  go_wp2
  exact bodyPost_ret (v := .agg (stL (.slice KA s.calls.length kc) (s.mark.next i.off) false).toArray) (results_cell1_range Try.results26 _ _ (w.heap.size + 2) 0 _ _ rfl HR10.out Try.underlying83 rfl (by rw [stL_length]; exact info_state)) rfl ⟨KA, kc, rfl, (HH.out.sl.move (Mv.of_below HB10.out okc)).mono (fun _ _ h => .inl h), HB10.out⟩

set_option maxRecDepth 100000 in
set_option maxHeartbeats 8000000 in
theorem stepr_jeq_n {w : World} {okc : Nat → Prop} {KA : Option Addr} {kc : Nat} {s : Vm} {IA : Option Addr} {ic : Nat} {pr : List Ins8} {CA : Option Addr} {cc : Nat} {cx : List UInt8} {A : Option Addr} {ca : Nat} {ans : List Nat} (ctx : Int) (H : StepIn w okc KA kc s IA ic pr CA cc cx A ca ans) (i : Ins8) (hi : pr[s.at_]? = some i) (hm : i.May) (hop : i.op = 20) (hsd : s.set i.dst = true) (heq : s.reg i.dst ≠ i.imm) :
    Calls Try.prog 26 #[.agg #[.int .i64 ctx, .slice IA pr.length ic], .slice CA cx.length cc, .slice A ans.length ca, .agg (stL (.slice KA s.calls.length kc) s false).toArray] w (StepPost w okc (s.mark.next 0) false) := by
  obtain ⟨L, hL⟩ : ∃ L, L = (stL (.slice KA s.calls.length kc) s false).toArray := ⟨_, rfl⟩
  obtain ⟨W1, hW1⟩ : ∃ W1, W1 = ((w.alloc (.cells #[.int .i64 ctx, .slice IA pr.length ic] 24)).alloc (.cells L 83)).alloc (.cells Try.zeroCells83 83) := ⟨_, rfl⟩
  have G1 : S3 w (.int .i64 ctx) (.slice IA pr.length ic) (stF (.slice KA s.calls.length kc) s false) W1 := by rw [hW1, hL]; exact S3.start w _ _ _ _ size_state
  have hz1 : W1.heap.size = w.heap.size + 3 := by rw [hW1]; simp
  have HZ1 := Lib.hid hz1; clear hz1
  have c0 : W1.cell? ⟨w.heap.size + 1, 0, none⟩ = some (.int .i64 (s.at_ : Int)) := G1.s.cell 0 (by omega)
  have c23 := G1.s.cell 23 (by omega)
  have f23 := G1.s.frozen 23
  have c1 := G1.p1
  have G2 := (G1.put 23 (.int .i64 (s.at_ : Int))).congr (stF_mark (.slice KA s.calls.length kc) s false)
  have HG2 := Lib.hid G2; clear G2
  have HG1 := Lib.hid G1; clear G1
  rw [← hL]
  clear hL
  have HW1 := Lib.hid hW1; clear hW1
  obtain ⟨hat, _⟩ := List.getElem?_eq_some_iff.1 hi
  have hat' : (s.at_ : Int) < pr.length := by omega
  obtain ⟨a, rfl, _, hab, hcl⟩ := H.ins.at_ (j := s.at_ * 5) (by have := Nat.mul_lt_mul_of_pos_right hat (show 0 < 5 by omega); exact this)
  have hld : ∀ j v, (insCells i)[j]? = some v → (W1.setCell ⟨w.heap.size + 1, 23, none⟩ (.int .i64 (s.at_ : Int))).cell? ((a.add (s.at_ * 5)).add j) = some v := fun j v hv => by
    have hj : j < 5 := by
      rcases Nat.lt_or_ge j 5 with h | h
      · exact h
      · rw [List.getElem?_eq_none (by simpa [insCells] using h)] at hv; cases hv
    rw [add_add]
    have := hcl (s.at_ * 5 + j) v (by rw [ins_cells pr s.at_ j i hi hj]; exact hv)
    exact (World.cell?_of_block (HG2.out.b.block _ (by rw [add_block]; exact hab))).trans this
  have hld : ∀ j v, [.int .i64 20, .int .i64 (i.dst : Int), .int .i64 (i.src : Int), .int .i64 i.off, .int .u32 (i.imm : Int)][j]? = some v → (W1.setCell ⟨w.heap.size + 1, 23, none⟩ (.int .i64 (s.at_ : Int))).cell? ((a.add (s.at_ * 5)).add j) = some v := fun j v hv => hld j v (by simp only [insCells, hop]; exact hv)
  have hu : ∀ W : World, Calls Try.prog 27 #[.int .i64 20] W fun e w' => e = .returned (.tuple #[.bool true, .bool false, .bool true, .bool true, .bool true]) ∧ W = w' := fun W => by
    have := uses_in W i.op hm.op1 hm.op2
    rw [hop] at this
    exact this
  have hdst := hm.dst
  have hsrc := hm.src
  have hdst' : (i.dst : Int) < 10 := by omega
  have hsrc' : (i.src : Int) < 10 := by omega
  have ho1 := hm.off1
  have ho2 := hm.off2
  have him := hm.imm
  have hrd := H.ok.reg i.dst
  have hrs := H.ok.reg i.src
  have HOK := Lib.hid H.ok
  have HH := Lib.hid H
  have hN4 := HG2.out.ins (by rw [← HZ1.out]; simp [World.setCell]) i
  rw [hop] at hN4
  have HN4 := Lib.hid hN4; clear hN4
  have HLD := Lib.hid hld; clear hld
  have HCL := Lib.hid hcl; clear hcl
  have HU := Lib.hid hu; clear hu
  have HOP := Lib.hid hop; clear hop
  have HM := Lib.hid hm; clear hm
  have HI := Lib.hid hi; clear hi
  have hj := HM.out.jmp (by rw [HOP.out]; omega)
  have hj1 := hj.1
  have hj2 := hj.2
  clear hj
  have hq1 : ((s.reg i.dst : Int) == (i.imm : Int)) = false := by simp; omega
  have hq2 : (s.reg i.dst == i.imm) = false := by simp; omega
  have hq3 : decide (s.reg i.dst = i.imm) = false := by simp; omega
  clear heq
  clear H
  go_enter Try.func26, Try.ntmps26
  go_upto_region 1 with fail
  rw [← HW1.out]
  go_upto_region 5 with (refine wpList_value (.agg #[.int .i64 20, .int .i64 (i.dst : Int), .int .i64 (i.src : Int), .int .i64 i.off, .int .u32 (i.imm : Int)]) rfl (exec_load_at 50 (.tmp 38) rfl (a.add (s.at_ * 5)) rfl ([.int .i64 20, .int .i64 (i.dst : Int), .int .i64 (i.src : Int), .int .i64 i.off, .int .u32 (i.imm : Int)]) _ HLD.out Try.underlying50 rfl size_ins) ?_)
  clear c0 c23 f23 c1
  generalize hW4 : (W1.setCell ⟨w.heap.size + 1, 23, none⟩ (.int .i64 (s.at_ : Int))).alloc (.cells #[.int .i64 20, .int .i64 (i.dst : Int), .int .i64 (i.src : Int), .int .i64 i.off, .int .u32 (i.imm : Int)] 50) = W4 at HN4
  rw [HZ1.out]
  have i0 : W4.cell? ⟨w.heap.size + 3, 0, none⟩ = some (.int .i64 20) := (by have := HN4.out.n.cells.1; rw [HOP.out] at this; exact this)
  have i1 := HN4.out.n.cells.2.1
  have i2 := HN4.out.n.cells.2.2.1
  have i3 := HN4.out.n.cells.2.2.2.1
  have i4 := HN4.out.n.cells.2.2.2.2
  have s0 : W4.cell? ⟨w.heap.size + 1, 0, none⟩ = some (.int .i64 (s.at_ : Int)) := HN4.out.g.s.cell 0 (by omega)
  have sd : W4.cell? ⟨w.heap.size + 1, 1 + i.dst, none⟩ = some (.bool (s.set i.dst)) := by rw [HN4.out.g.s.cell (1 + i.dst) (by omega), stF_set _ _ _ _ hdst]; rfl
  have ss : W4.cell? ⟨w.heap.size + 1, 1 + i.src, none⟩ = some (.bool (s.set i.src)) := by rw [HN4.out.g.s.cell (1 + i.src) (by omega), stF_set _ _ _ _ hsrc]; rfl
  have sz : W4.cell? ⟨w.heap.size + 1, 1, none⟩ = some (.bool (s.set 0)) := HN4.out.g.s.cell 1 (by omega)
  go_upto_region 10 with (go_at_call 27; (with_reducible refine (HU.out _).mono ?_); rintro e w' ⟨rfl, rfl⟩)
  clear i0 i1 i2 i3 i4 s0 sd ss sz
  refine wp_region_noPanic ?_
  refine plan (.rd 0 (.rd 1 (.rd 2 (.rd 3 (.rd 4 (.rd 5 (.rd 6 (.rd 7 (.rd 8 (.rd 9 (.rd 10 (.rd 11 .done)))))))))))) [0, 1, 2, 3, 4, 5, 6, 7, 8, 9, 10, 11] (fun W => S4 w (.int .i64 ctx) (.slice (some a) pr.length ic) (stF (.slice KA s.calls.length kc) s.mark false) i W) (by kernel_rfl) (by kernel_rfl) (fun _ _ _ _ _ h => h) HN4.out.drewp ?_
  repeat (refine pl_pure rfl (fun K hK => ?_); go_simp; refine hK _ ?_; clear hK K)
  refine pl_rd (.int .i64 (i.dst : Int)) rfl rfl (fun W hS => ?_) (fun K hK => ?_)
  · have f0 := hS.n.cells.2.1
    simp [go_sem, f0]
  go_simp
  refine hK _ ?_
  clear hK K
  repeat (refine pl_pure rfl (fun K hK => ?_); go_simp; refine hK _ ?_; clear hK K)
  refine pl_rd (.int .i64 (s.reg i.dst : Int)) rfl rfl (fun W hS => ?_) (fun K hK => ?_)
  · have f0 : W.cell? ⟨w.heap.size + 1, 11 + i.dst, none⟩ = some (.int .i64 (s.reg i.dst : Int)) := by rw [hS.g.s.cell (11 + i.dst) (by omega), stF_reg _ _ _ _ hdst]; rfl
    simp [go_sem, f0]
  go_simp
  refine hK _ ?_
  clear hK K
  repeat (refine pl_pure rfl (fun K hK => ?_); go_simp; refine hK _ ?_; clear hK K)
  refine pl_rd (.int .i64 (i.src : Int)) rfl rfl (fun W hS => ?_) (fun K hK => ?_)
  · have f0 := hS.n.cells.2.2.1
    simp [go_sem, f0]
  go_simp
  refine hK _ ?_
  clear hK K
  repeat (refine pl_pure rfl (fun K hK => ?_); go_simp; refine hK _ ?_; clear hK K)
  refine pl_rd (.int .i64 (s.reg i.src : Int)) rfl rfl (fun W hS => ?_) (fun K hK => ?_)
  · have f0 : W.cell? ⟨w.heap.size + 1, 11 + i.src, none⟩ = some (.int .i64 (s.reg i.src : Int)) := by rw [hS.g.s.cell (11 + i.src) (by omega), stF_reg _ _ _ _ hsrc]; rfl
    simp [go_sem, f0]
  go_simp
  refine hK _ ?_
  clear hK K
  repeat (refine pl_pure rfl (fun K hK => ?_); go_simp; refine hK _ ?_; clear hK K)
  refine pl_done ?_
  refine NoPanic.normal ?_
  have HN5 := Lib.hid HN4.out.drewp
  generalize hW5 : W4.drew = W5 at HN5 ⊢
  clear hW5
  have i0 : W5.cell? ⟨w.heap.size + 3, 0, none⟩ = some (.int .i64 20) := (by have := HN5.out.n.cells.1; rw [HOP.out] at this; exact this)
  have i1 := HN5.out.n.cells.2.1
  have i2 := HN5.out.n.cells.2.2.1
  have i3 := HN5.out.n.cells.2.2.2.1
  have i4 := HN5.out.n.cells.2.2.2.2
  have s0 : W5.cell? ⟨w.heap.size + 1, 0, none⟩ = some (.int .i64 (s.at_ : Int)) := HN5.out.g.s.cell 0 (by omega)
  go_upto_region 39 with fail
  clear i0 i1 i2 i3 i4 s0
  have c0 : W5.cell? ⟨w.heap.size + 1, 0, none⟩ = some (.int .i64 (s.at_ : Int)) := HN5.out.g.s.cell 0 (by omega)
  have c21 : W5.cell? ⟨w.heap.size + 1, 21, none⟩ = some (.int .i64 (s.steps : Int)) := HN5.out.g.s.cell 21 (by omega)
  have f0 := HN5.out.g.s.frozen 0
  have f21 := HN5.out.g.s.frozen 21
  have hat9 := HH.out.at_
  have hst9 := HH.out.st
  have HN8 := Lib.hid (((HN5.out.put 21 (.int .i64 ((s.steps : Int) + 1))).put 0 (.int .i64 ((s.at_ : Int) + 1))).congr (stF_next (.slice KA s.calls.length kc) s.mark false 0 ((s.at_ : Int) + 1) (by simp only [Vm.next]; show _ = (((s.at_ : Int) + (1 + _)).toNat : Int); omega)))
  go_upto_region 41 with fail
  generalize hW8 : (W5.setCell ⟨w.heap.size + 1, 21, none⟩ (.int .i64 ((s.steps : Int) + 1))).setCell ⟨w.heap.size + 1, 0, none⟩ (.int .i64 ((s.at_ : Int) + 1)) = W8 at HN8 ⊢
  clear hW8 c0 c21 f0 f21
  obtain ⟨HT9, W10, HW10, HR10, HK10, HB10⟩ := HN8.out.g.done (stL (.slice KA s.calls.length kc) (s.mark.next 0) false) (stL_length _ _ _)
  refine wp_region_list ?_
  refine wpList_load_mid rfl 83 (.tmp 7) rfl (w.heap.size + 1) 0 rfl (stL (.slice KA s.calls.length kc) (s.mark.next 0) false) _ HN8.out.g.s.range Try.underlying83 rfl (by rw [stL_length]; exact info_state) ?_
  refine wpList_store_mid rfl 83 (.tmp 8) (.tmp 262) rfl (w.heap.size + 2) 0 (stL (.slice KA s.calls.length kc) (s.mark.next 0) false).toArray rfl rfl (by rw [stA_size]; exact HT9.out) (by rw [stA_size]; exact info_state) (stL_one _ rfl _ _) ?_
  rw [← HW10.out]
  go_wp2
  exact bodyPost_ret (v := .agg (stL (.slice KA s.calls.length kc) (s.mark.next 0) false).toArray) (results_cell1_range Try.results26 _ _ (w.heap.size + 2) 0 _ _ rfl HR10.out Try.underlying83 rfl (by rw [stL_length]; exact info_state)) rfl ⟨KA, kc, rfl, (HH.out.sl.move (Mv.of_below HB10.out okc)).mono (fun _ _ h => .inl h), HB10.out⟩

set_option maxRecDepth 100000 in
set_option maxHeartbeats 8000000 in
theorem stepr_jlti_y {w : World} {okc : Nat → Prop} {KA : Option Addr} {kc : Nat} {s : Vm} {IA : Option Addr} {ic : Nat} {pr : List Ins8} {CA : Option Addr} {cc : Nat} {cx : List UInt8} {A : Option Addr} {ca : Nat} {ans : List Nat} (ctx : Int) (H : StepIn w okc KA kc s IA ic pr CA cc cx A ca ans) (i : Ins8) (hi : pr[s.at_]? = some i) (hm : i.May) (hop : i.op = 21) (hsd : s.set i.dst = true) (heq : s.reg i.dst < i.imm) :
    Calls Try.prog 26 #[.agg #[.int .i64 ctx, .slice IA pr.length ic], .slice CA cx.length cc, .slice A ans.length ca, .agg (stL (.slice KA s.calls.length kc) s false).toArray] w (StepPost w okc (s.mark.next i.off) false) := by
  obtain ⟨L, hL⟩ : ∃ L, L = (stL (.slice KA s.calls.length kc) s false).toArray := ⟨_, rfl⟩
  obtain ⟨W1, hW1⟩ : ∃ W1, W1 = ((w.alloc (.cells #[.int .i64 ctx, .slice IA pr.length ic] 24)).alloc (.cells L 83)).alloc (.cells Try.zeroCells83 83) := ⟨_, rfl⟩
  have G1 : S3 w (.int .i64 ctx) (.slice IA pr.length ic) (stF (.slice KA s.calls.length kc) s false) W1 := by rw [hW1, hL]; exact S3.start w _ _ _ _ size_state
  have hz1 : W1.heap.size = w.heap.size + 3 := by rw [hW1]; simp
  have HZ1 := Lib.hid hz1; clear hz1
  have c0 : W1.cell? ⟨w.heap.size + 1, 0, none⟩ = some (.int .i64 (s.at_ : Int)) := G1.s.cell 0 (by omega)
  have c23 := G1.s.cell 23 (by omega)
  have f23 := G1.s.frozen 23
  have c1 := G1.p1
  have G2 := (G1.put 23 (.int .i64 (s.at_ : Int))).congr (stF_mark (.slice KA s.calls.length kc) s false)
  have HG2 := Lib.hid G2; clear G2
  have HG1 := Lib.hid G1; clear G1
  rw [← hL]
  clear hL
  have HW1 := Lib.hid hW1; clear hW1
  obtain ⟨hat, _⟩ := List.getElem?_eq_some_iff.1 hi
  have hat' : (s.at_ : Int) < pr.length := by omega
  obtain ⟨a, rfl, _, hab, hcl⟩ := H.ins.at_ (j := s.at_ * 5) (by have := Nat.mul_lt_mul_of_pos_right hat (show 0 < 5 by omega); exact this)
  have hld : ∀ j v, (insCells i)[j]? = some v → (W1.setCell ⟨w.heap.size + 1, 23, none⟩ (.int .i64 (s.at_ : Int))).cell? ((a.add (s.at_ * 5)).add j) = some v := fun j v hv => by
    have hj : j < 5 := by
      rcases Nat.lt_or_ge j 5 with h | h
      · exact h
      · rw [List.getElem?_eq_none (by simpa [insCells] using h)] at hv; cases hv
    rw [add_add]
    have := hcl (s.at_ * 5 + j) v (by rw [ins_cells pr s.at_ j i hi hj]; exact hv)
    exact (World.cell?_of_block (HG2.out.b.block _ (by rw [add_block]; exact hab))).trans this
  have hld : ∀ j v, [.int .i64 21, .int .i64 (i.dst : Int), .int .i64 (i.src : Int), .int .i64 i.off, .int .u32 (i.imm : Int)][j]? = some v → (W1.setCell ⟨w.heap.size + 1, 23, none⟩ (.int .i64 (s.at_ : Int))).cell? ((a.add (s.at_ * 5)).add j) = some v := fun j v hv => hld j v (by simp only [insCells, hop]; exact hv)
  have hu : ∀ W : World, Calls Try.prog 27 #[.int .i64 21] W fun e w' => e = .returned (.tuple #[.bool true, .bool false, .bool true, .bool true, .bool true]) ∧ W = w' := fun W => by
    have := uses_in W i.op hm.op1 hm.op2
    rw [hop] at this
    exact this
  have hdst := hm.dst
  have hsrc := hm.src
  have hdst' : (i.dst : Int) < 10 := by omega
  have hsrc' : (i.src : Int) < 10 := by omega
  have ho1 := hm.off1
  have ho2 := hm.off2
  have him := hm.imm
  have hrd := H.ok.reg i.dst
  have hrs := H.ok.reg i.src
  have HOK := Lib.hid H.ok
  have HH := Lib.hid H
  have hN4 := HG2.out.ins (by rw [← HZ1.out]; simp [World.setCell]) i
  rw [hop] at hN4
  have HN4 := Lib.hid hN4; clear hN4
  have HLD := Lib.hid hld; clear hld
  have HCL := Lib.hid hcl; clear hcl
  have HU := Lib.hid hu; clear hu
  have HOP := Lib.hid hop; clear hop
  have HM := Lib.hid hm; clear hm
  have HI := Lib.hid hi; clear hi
  have hj := HM.out.jmp (by rw [HOP.out]; omega)
  have hj1 := hj.1
  have hj2 := hj.2
  clear hj
  have hq1 : decide ((s.reg i.dst : Int) < (i.imm : Int)) = true := by simp; omega
  have hq2 : decide (s.reg i.dst < i.imm) = true := by simp; omega
  clear heq
  clear H
  go_enter Try.func26, Try.ntmps26
  go_upto_region 1 with fail
  rw [← HW1.out]
  go_upto_region 5 with (refine wpList_value (.agg #[.int .i64 21, .int .i64 (i.dst : Int), .int .i64 (i.src : Int), .int .i64 i.off, .int .u32 (i.imm : Int)]) rfl (exec_load_at 50 (.tmp 38) rfl (a.add (s.at_ * 5)) rfl ([.int .i64 21, .int .i64 (i.dst : Int), .int .i64 (i.src : Int), .int .i64 i.off, .int .u32 (i.imm : Int)]) _ HLD.out Try.underlying50 rfl size_ins) ?_)
  clear c0 c23 f23 c1
  generalize hW4 : (W1.setCell ⟨w.heap.size + 1, 23, none⟩ (.int .i64 (s.at_ : Int))).alloc (.cells #[.int .i64 21, .int .i64 (i.dst : Int), .int .i64 (i.src : Int), .int .i64 i.off, .int .u32 (i.imm : Int)] 50) = W4 at HN4
  rw [HZ1.out]
  have i0 : W4.cell? ⟨w.heap.size + 3, 0, none⟩ = some (.int .i64 21) := (by have := HN4.out.n.cells.1; rw [HOP.out] at this; exact this)
  have i1 := HN4.out.n.cells.2.1
  have i2 := HN4.out.n.cells.2.2.1
  have i3 := HN4.out.n.cells.2.2.2.1
  have i4 := HN4.out.n.cells.2.2.2.2
  have s0 : W4.cell? ⟨w.heap.size + 1, 0, none⟩ = some (.int .i64 (s.at_ : Int)) := HN4.out.g.s.cell 0 (by omega)
  have sd : W4.cell? ⟨w.heap.size + 1, 1 + i.dst, none⟩ = some (.bool (s.set i.dst)) := by rw [HN4.out.g.s.cell (1 + i.dst) (by omega), stF_set _ _ _ _ hdst]; rfl
  have ss : W4.cell? ⟨w.heap.size + 1, 1 + i.src, none⟩ = some (.bool (s.set i.src)) := by rw [HN4.out.g.s.cell (1 + i.src) (by omega), stF_set _ _ _ _ hsrc]; rfl
  have sz : W4.cell? ⟨w.heap.size + 1, 1, none⟩ = some (.bool (s.set 0)) := HN4.out.g.s.cell 1 (by omega)
  go_upto_region 10 with (go_at_call 27; (with_reducible refine (HU.out _).mono ?_); rintro e w' ⟨rfl, rfl⟩)
  clear i0 i1 i2 i3 i4 s0 sd ss sz
  refine wp_region_noPanic ?_
  refine plan (.rd 0 (.rd 1 (.rd 2 (.rd 3 (.rd 4 (.rd 5 (.rd 6 (.rd 7 (.rd 8 (.rd 9 (.rd 10 (.rd 11 .done)))))))))))) [0, 1, 2, 3, 4, 5, 6, 7, 8, 9, 10, 11] (fun W => S4 w (.int .i64 ctx) (.slice (some a) pr.length ic) (stF (.slice KA s.calls.length kc) s.mark false) i W) (by kernel_rfl) (by kernel_rfl) (fun _ _ _ _ _ h => h) HN4.out.drewp ?_
  repeat (refine pl_pure rfl (fun K hK => ?_); go_simp; refine hK _ ?_; clear hK K)
  refine pl_rd (.int .i64 (i.dst : Int)) rfl rfl (fun W hS => ?_) (fun K hK => ?_)
  · have f0 := hS.n.cells.2.1
    simp [go_sem, f0]
  go_simp
  refine hK _ ?_
  clear hK K
  repeat (refine pl_pure rfl (fun K hK => ?_); go_simp; refine hK _ ?_; clear hK K)
  refine pl_rd (.int .i64 (s.reg i.dst : Int)) rfl rfl (fun W hS => ?_) (fun K hK => ?_)
  · have f0 : W.cell? ⟨w.heap.size + 1, 11 + i.dst, none⟩ = some (.int .i64 (s.reg i.dst : Int)) := by rw [hS.g.s.cell (11 + i.dst) (by omega), stF_reg _ _ _ _ hdst]; rfl
    simp [go_sem, f0]
  go_simp
  refine hK _ ?_
  clear hK K
  repeat (refine pl_pure rfl (fun K hK => ?_); go_simp; refine hK _ ?_; clear hK K)
  refine pl_rd (.int .i64 (i.src : Int)) rfl rfl (fun W hS => ?_) (fun K hK => ?_)
  · have f0 := hS.n.cells.2.2.1
    simp [go_sem, f0]
  go_simp
  refine hK _ ?_
  clear hK K
  repeat (refine pl_pure rfl (fun K hK => ?_); go_simp; refine hK _ ?_; clear hK K)
  refine pl_rd (.int .i64 (s.reg i.src : Int)) rfl rfl (fun W hS => ?_) (fun K hK => ?_)
  · have f0 : W.cell? ⟨w.heap.size + 1, 11 + i.src, none⟩ = some (.int .i64 (s.reg i.src : Int)) := by rw [hS.g.s.cell (11 + i.src) (by omega), stF_reg _ _ _ _ hsrc]; rfl
    simp [go_sem, f0]
  go_simp
  refine hK _ ?_
  clear hK K
  repeat (refine pl_pure rfl (fun K hK => ?_); go_simp; refine hK _ ?_; clear hK K)
  refine pl_done ?_
  refine NoPanic.normal ?_
  have HN5 := Lib.hid HN4.out.drewp
  generalize hW5 : W4.drew = W5 at HN5 ⊢
  clear hW5
  have i0 : W5.cell? ⟨w.heap.size + 3, 0, none⟩ = some (.int .i64 21) := (by have := HN5.out.n.cells.1; rw [HOP.out] at this; exact this)
  have i1 := HN5.out.n.cells.2.1
  have i2 := HN5.out.n.cells.2.2.1
  have i3 := HN5.out.n.cells.2.2.2.1
  have i4 := HN5.out.n.cells.2.2.2.2
  have s0 : W5.cell? ⟨w.heap.size + 1, 0, none⟩ = some (.int .i64 (s.at_ : Int)) := HN5.out.g.s.cell 0 (by omega)
  go_upto_region 39 with fail
  clear i0 i1 i2 i3 i4 s0
  have c0 : W5.cell? ⟨w.heap.size + 1, 0, none⟩ = some (.int .i64 (s.at_ : Int)) := HN5.out.g.s.cell 0 (by omega)
  have c21 : W5.cell? ⟨w.heap.size + 1, 21, none⟩ = some (.int .i64 (s.steps : Int)) := HN5.out.g.s.cell 21 (by omega)
  have f0 := HN5.out.g.s.frozen 0
  have f21 := HN5.out.g.s.frozen 21
  have hat9 := HH.out.at_
  have hst9 := HH.out.st
  have HN8 := Lib.hid (((HN5.out.put 21 (.int .i64 ((s.steps : Int) + 1))).put 0 (.int .i64 ((s.at_ : Int) + 1 + i.off))).congr (stF_next (.slice KA s.calls.length kc) s.mark false i.off ((s.at_ : Int) + 1 + i.off) (by simp only [Vm.next]; show _ = (((s.at_ : Int) + (1 + _)).toNat : Int); omega)))
  go_upto_region 41 with fail
  generalize hW8 : (W5.setCell ⟨w.heap.size + 1, 21, none⟩ (.int .i64 ((s.steps : Int) + 1))).setCell ⟨w.heap.size + 1, 0, none⟩ (.int .i64 ((s.at_ : Int) + 1 + i.off)) = W8 at HN8 ⊢
  clear hW8 c0 c21 f0 f21
  obtain ⟨HT9, W10, HW10, HR10, HK10, HB10⟩ := HN8.out.g.done (stL (.slice KA s.calls.length kc) (s.mark.next i.off) false) (stL_length _ _ _)
  refine wp_region_list ?_
  refine wpList_load_mid rfl 83 (.tmp 7) rfl (w.heap.size + 1) 0 rfl (stL (.slice KA s.calls.length kc) (s.mark.next i.off) false) _ HN8.out.g.s.range Try.underlying83 rfl (by rw [stL_length]; exact info_state) ?_
  refine wpList_store_mid rfl 83 (.tmp 8) (.tmp 262) rfl (w.heap.size + 2) 0 (stL (.slice KA s.calls.length kc) (s.mark.next i.off) false).toArray rfl rfl (by rw [stA_size]; exact HT9.out) (by rw [stA_size]; exact info_state) (stL_one _ rfl _ _) ?_
  rw [← HW10.out]
  go_wp2
  exact bodyPost_ret (v := .agg (stL (.slice KA s.calls.length kc) (s.mark.next i.off) false).toArray) (results_cell1_range Try.results26 _ _ (w.heap.size + 2) 0 _ _ rfl HR10.out Try.underlying83 rfl (by rw [stL_length]; exact info_state)) rfl ⟨KA, kc, rfl, (HH.out.sl.move (Mv.of_below HB10.out okc)).mono (fun _ _ h => .inl h), HB10.out⟩

set_option maxRecDepth 100000 in
set_option maxHeartbeats 8000000 in
theorem stepr_jlti_n {w : World} {okc : Nat → Prop} {KA : Option Addr} {kc : Nat} {s : Vm} {IA : Option Addr} {ic : Nat} {pr : List Ins8} {CA : Option Addr} {cc : Nat} {cx : List UInt8} {A : Option Addr} {ca : Nat} {ans : List Nat} (ctx : Int) (H : StepIn w okc KA kc s IA ic pr CA cc cx A ca ans) (i : Ins8) (hi : pr[s.at_]? = some i) (hm : i.May) (hop : i.op = 21) (hsd : s.set i.dst = true) (heq : ¬ s.reg i.dst < i.imm) :
    Calls Try.prog 26 #[.agg #[.int .i64 ctx, .slice IA pr.length ic], .slice CA cx.length cc, .slice A ans.length ca, .agg (stL (.slice KA s.calls.length kc) s false).toArray] w (StepPost w okc (s.mark.next 0) false) := by
  obtain ⟨L, hL⟩ : ∃ L, L = (stL (.slice KA s.calls.length kc) s false).toArray := ⟨_, rfl⟩
  obtain ⟨W1, hW1⟩ : ∃ W1, W1 = ((w.alloc (.cells #[.int .i64 ctx, .slice IA pr.length ic] 24)).alloc (.cells L 83)).alloc (.cells Try.zeroCells83 83) := ⟨_, rfl⟩
  have G1 : S3 w (.int .i64 ctx) (.slice IA pr.length ic) (stF (.slice KA s.calls.length kc) s false) W1 := by rw [hW1, hL]; exact S3.start w _ _ _ _ size_state
  have hz1 : W1.heap.size = w.heap.size + 3 := by rw [hW1]; simp
  have HZ1 := Lib.hid hz1; clear hz1
  have c0 : W1.cell? ⟨w.heap.size + 1, 0, none⟩ = some (.int .i64 (s.at_ : Int)) := G1.s.cell 0 (by omega)
  have c23 := G1.s.cell 23 (by omega)
  have f23 := G1.s.frozen 23
  have c1 := G1.p1
  have G2 := (G1.put 23 (.int .i64 (s.at_ : Int))).congr (stF_mark (.slice KA s.calls.length kc) s false)
  have HG2 := Lib.hid G2; clear G2
  have HG1 := Lib.hid G1; clear G1
  rw [← hL]
  clear hL
  have HW1 := Lib.hid hW1; clear hW1
  obtain ⟨hat, _⟩ := List.getElem?_eq_some_iff.1 hi
  have hat' : (s.at_ : Int) < pr.length := by omega
  obtain ⟨a, rfl, _, hab, hcl⟩ := H.ins.at_ (j := s.at_ * 5) (by have := Nat.mul_lt_mul_of_pos_right hat (show 0 < 5 by omega); exact this)
  have hld : ∀ j v, (insCells i)[j]? = some v → (W1.setCell ⟨w.heap.size + 1, 23, none⟩ (.int .i64 (s.at_ : Int))).cell? ((a.add (s.at_ * 5)).add j) = some v := fun j v hv => by
    have hj : j < 5 := by
      rcases Nat.lt_or_ge j 5 with h | h
      · exact h
      · rw [List.getElem?_eq_none (by simpa [insCells] using h)] at hv; cases hv
    rw [add_add]
    have := hcl (s.at_ * 5 + j) v (by rw [ins_cells pr s.at_ j i hi hj]; exact hv)
    exact (World.cell?_of_block (HG2.out.b.block _ (by rw [add_block]; exact hab))).trans this
  have hld : ∀ j v, [.int .i64 21, .int .i64 (i.dst : Int), .int .i64 (i.src : Int), .int .i64 i.off, .int .u32 (i.imm : Int)][j]? = some v → (W1.setCell ⟨w.heap.size + 1, 23, none⟩ (.int .i64 (s.at_ : Int))).cell? ((a.add (s.at_ * 5)).add j) = some v := fun j v hv => hld j v (by simp only [insCells, hop]; exact hv)
  have hu : ∀ W : World, Calls Try.prog 27 #[.int .i64 21] W fun e w' => e = .returned (.tuple #[.bool true, .bool false, .bool true, .bool true, .bool true]) ∧ W = w' := fun W => by
    have := uses_in W i.op hm.op1 hm.op2
    rw [hop] at this
    exact this
  have hdst := hm.dst
  have hsrc := hm.src
  have hdst' : (i.dst : Int) < 10 := by omega
  have hsrc' : (i.src : Int) < 10 := by omega
  have ho1 := hm.off1
  have ho2 := hm.off2
  have him := hm.imm
  have hrd := H.ok.reg i.dst
  have hrs := H.ok.reg i.src
  have HOK := Lib.hid H.ok
  have HH := Lib.hid H
  have hN4 := HG2.out.ins (by rw [← HZ1.out]; simp [World.setCell]) i
  rw [hop] at hN4
  have HN4 := Lib.hid hN4; clear hN4
  have HLD := Lib.hid hld; clear hld
  have HCL := Lib.hid hcl; clear hcl
  have HU := Lib.hid hu; clear hu
  have HOP := Lib.hid hop; clear hop
  have HM := Lib.hid hm; clear hm
  have HI := Lib.hid hi; clear hi
  have hj := HM.out.jmp (by rw [HOP.out]; omega)
  have hj1 := hj.1
  have hj2 := hj.2
  clear hj
  have hq1 : decide ((s.reg i.dst : Int) < (i.imm : Int)) = false := by simp; omega
  have hq2 : decide (s.reg i.dst < i.imm) = false := by simp; omega
  clear heq
  clear H
  go_enter Try.func26, Try.ntmps26
  go_upto_region 1 with fail
  rw [← HW1.out]
  go_upto_region 5 with (refine wpList_value (.agg #[.int .i64 21, .int .i64 (i.dst : Int), .int .i64 (i.src : Int), .int .i64 i.off, .int .u32 (i.imm : Int)]) rfl (exec_load_at 50 (.tmp 38) rfl (a.add (s.at_ * 5)) rfl ([.int .i64 21, .int .i64 (i.dst : Int), .int .i64 (i.src : Int), .int .i64 i.off, .int .u32 (i.imm : Int)]) _ HLD.out Try.underlying50 rfl size_ins) ?_)
  clear c0 c23 f23 c1
  generalize hW4 : (W1.setCell ⟨w.heap.size + 1, 23, none⟩ (.int .i64 (s.at_ : Int))).alloc (.cells #[.int .i64 21, .int .i64 (i.dst : Int), .int .i64 (i.src : Int), .int .i64 i.off, .int .u32 (i.imm : Int)] 50) = W4 at HN4
  rw [HZ1.out]
  have i0 : W4.cell? ⟨w.heap.size + 3, 0, none⟩ = some (.int .i64 21) := (by have := HN4.out.n.cells.1; rw [HOP.out] at this; exact this)
  have i1 := HN4.out.n.cells.2.1
  have i2 := HN4.out.n.cells.2.2.1
  have i3 := HN4.out.n.cells.2.2.2.1
  have i4 := HN4.out.n.cells.2.2.2.2
  have s0 : W4.cell? ⟨w.heap.size + 1, 0, none⟩ = some (.int .i64 (s.at_ : Int)) := HN4.out.g.s.cell 0 (by omega)
  have sd : W4.cell? ⟨w.heap.size + 1, 1 + i.dst, none⟩ = some (.bool (s.set i.dst)) := by rw [HN4.out.g.s.cell (1 + i.dst) (by omega), stF_set _ _ _ _ hdst]; rfl
  have ss : W4.cell? ⟨w.heap.size + 1, 1 + i.src, none⟩ = some (.bool (s.set i.src)) := by rw [HN4.out.g.s.cell (1 + i.src) (by omega), stF_set _ _ _ _ hsrc]; rfl
  have sz : W4.cell? ⟨w.heap.size + 1, 1, none⟩ = some (.bool (s.set 0)) := HN4.out.g.s.cell 1 (by omega)
  go_upto_region 10 with (go_at_call 27; (with_reducible refine (HU.out _).mono ?_); rintro e w' ⟨rfl, rfl⟩)
  clear i0 i1 i2 i3 i4 s0 sd ss sz
  refine wp_region_noPanic ?_
  refine plan (.rd 0 (.rd 1 (.rd 2 (.rd 3 (.rd 4 (.rd 5 (.rd 6 (.rd 7 (.rd 8 (.rd 9 (.rd 10 (.rd 11 .done)))))))))))) [0, 1, 2, 3, 4, 5, 6, 7, 8, 9, 10, 11] (fun W => S4 w (.int .i64 ctx) (.slice (some a) pr.length ic) (stF (.slice KA s.calls.length kc) s.mark false) i W) (by kernel_rfl) (by kernel_rfl) (fun _ _ _ _ _ h => h) HN4.out.drewp ?_
  repeat (refine pl_pure rfl (fun K hK => ?_); go_simp; refine hK _ ?_; clear hK K)
  refine pl_rd (.int .i64 (i.dst : Int)) rfl rfl (fun W hS => ?_) (fun K hK => ?_)
  · have f0 := hS.n.cells.2.1
    simp [go_sem, f0]
  go_simp
  refine hK _ ?_
  clear hK K
  repeat (refine pl_pure rfl (fun K hK => ?_); go_simp; refine hK _ ?_; clear hK K)
  refine pl_rd (.int .i64 (s.reg i.dst : Int)) rfl rfl (fun W hS => ?_) (fun K hK => ?_)
  · have f0 : W.cell? ⟨w.heap.size + 1, 11 + i.dst, none⟩ = some (.int .i64 (s.reg i.dst : Int)) := by rw [hS.g.s.cell (11 + i.dst) (by omega), stF_reg _ _ _ _ hdst]; rfl
    simp [go_sem, f0]
  go_simp
  refine hK _ ?_
  clear hK K
  repeat (refine pl_pure rfl (fun K hK => ?_); go_simp; refine hK _ ?_; clear hK K)
  refine pl_rd (.int .i64 (i.src : Int)) rfl rfl (fun W hS => ?_) (fun K hK => ?_)
  · have f0 := hS.n.cells.2.2.1
    simp [go_sem, f0]
  go_simp
  refine hK _ ?_
  clear hK K
  repeat (refine pl_pure rfl (fun K hK => ?_); go_simp; refine hK _ ?_; clear hK K)
  refine pl_rd (.int .i64 (s.reg i.src : Int)) rfl rfl (fun W hS => ?_) (fun K hK => ?_)
  · have f0 : W.cell? ⟨w.heap.size + 1, 11 + i.src, none⟩ = some (.int .i64 (s.reg i.src : Int)) := by rw [hS.g.s.cell (11 + i.src) (by omega), stF_reg _ _ _ _ hsrc]; rfl
    simp [go_sem, f0]
  go_simp
  refine hK _ ?_
  clear hK K
  repeat (refine pl_pure rfl (fun K hK => ?_); go_simp; refine hK _ ?_; clear hK K)
  refine pl_done ?_
  refine NoPanic.normal ?_
  have HN5 := Lib.hid HN4.out.drewp
  generalize hW5 : W4.drew = W5 at HN5 ⊢
  clear hW5
  have i0 : W5.cell? ⟨w.heap.size + 3, 0, none⟩ = some (.int .i64 21) := (by have := HN5.out.n.cells.1; rw [HOP.out] at this; exact this)
  have i1 := HN5.out.n.cells.2.1
  have i2 := HN5.out.n.cells.2.2.1
  have i3 := HN5.out.n.cells.2.2.2.1
  have i4 := HN5.out.n.cells.2.2.2.2
  have s0 : W5.cell? ⟨w.heap.size + 1, 0, none⟩ = some (.int .i64 (s.at_ : Int)) := HN5.out.g.s.cell 0 (by omega)
  go_upto_region 39 with fail
  clear i0 i1 i2 i3 i4 s0
  have c0 : W5.cell? ⟨w.heap.size + 1, 0, none⟩ = some (.int .i64 (s.at_ : Int)) := HN5.out.g.s.cell 0 (by omega)
  have c21 : W5.cell? ⟨w.heap.size + 1, 21, none⟩ = some (.int .i64 (s.steps : Int)) := HN5.out.g.s.cell 21 (by omega)
  have f0 := HN5.out.g.s.frozen 0
  have f21 := HN5.out.g.s.frozen 21
  have hat9 := HH.out.at_
  have hst9 := HH.out.st
  have HN8 := Lib.hid (((HN5.out.put 21 (.int .i64 ((s.steps : Int) + 1))).put 0 (.int .i64 ((s.at_ : Int) + 1))).congr (stF_next (.slice KA s.calls.length kc) s.mark false 0 ((s.at_ : Int) + 1) (by simp only [Vm.next]; show _ = (((s.at_ : Int) + (1 + _)).toNat : Int); omega)))
  go_upto_region 41 with fail
  generalize hW8 : (W5.setCell ⟨w.heap.size + 1, 21, none⟩ (.int .i64 ((s.steps : Int) + 1))).setCell ⟨w.heap.size + 1, 0, none⟩ (.int .i64 ((s.at_ : Int) + 1)) = W8 at HN8 ⊢
  clear hW8 c0 c21 f0 f21
  obtain ⟨HT9, W10, HW10, HR10, HK10, HB10⟩ := HN8.out.g.done (stL (.slice KA s.calls.length kc) (s.mark.next 0) false) (stL_length _ _ _)
  refine wp_region_list ?_
  refine wpList_load_mid rfl 83 (.tmp 7) rfl (w.heap.size + 1) 0 rfl (stL (.slice KA s.calls.length kc) (s.mark.next 0) false) _ HN8.out.g.s.range Try.underlying83 rfl (by rw [stL_length]; exact info_state) ?_
  refine wpList_store_mid rfl 83 (.tmp 8) (.tmp 262) rfl (w.heap.size + 2) 0 (stL (.slice KA s.calls.length kc) (s.mark.next 0) false).toArray rfl rfl (by rw [stA_size]; exact HT9.out) (by rw [stA_size]; exact info_state) (stL_one _ rfl _ _) ?_
  rw [← HW10.out]
  go_wp2
  exact bodyPost_ret (v := .agg (stL (.slice KA s.calls.length kc) (s.mark.next 0) false).toArray) (results_cell1_range Try.results26 _ _ (w.heap.size + 2) 0 _ _ rfl HR10.out Try.underlying83 rfl (by rw [stL_length]; exact info_state)) rfl ⟨KA, kc, rfl, (HH.out.sl.move (Mv.of_below HB10.out okc)).mono (fun _ _ h => .inl h), HB10.out⟩

set_option maxRecDepth 100000 in
set_option maxHeartbeats 8000000 in
theorem stepr_jlt_y {w : World} {okc : Nat → Prop} {KA : Option Addr} {kc : Nat} {s : Vm} {IA : Option Addr} {ic : Nat} {pr : List Ins8} {CA : Option Addr} {cc : Nat} {cx : List UInt8} {A : Option Addr} {ca : Nat} {ans : List Nat} (ctx : Int) (H : StepIn w okc KA kc s IA ic pr CA cc cx A ca ans) (i : Ins8) (hi : pr[s.at_]? = some i) (hm : i.May) (hop : i.op = 22) (hsd : s.set i.dst = true) (hss : s.set i.src = true) (heq : s.reg i.dst < s.reg i.src) :
    Calls Try.prog 26 #[.agg #[.int .i64 ctx, .slice IA pr.length ic], .slice CA cx.length cc, .slice A ans.length ca, .agg (stL (.slice KA s.calls.length kc) s false).toArray] w (StepPost w okc (s.mark.next i.off) false) := by
  obtain ⟨L, hL⟩ : ∃ L, L = (stL (.slice KA s.calls.length kc) s false).toArray := ⟨_, rfl⟩
  obtain ⟨W1, hW1⟩ : ∃ W1, W1 = ((w.alloc (.cells #[.int .i64 ctx, .slice IA pr.length ic] 24)).alloc (.cells L 83)).alloc (.cells Try.zeroCells83 83) := ⟨_, rfl⟩
  have G1 : S3 w (.int .i64 ctx) (.slice IA pr.length ic) (stF (.slice KA s.calls.length kc) s false) W1 := by rw [hW1, hL]; exact S3.start w _ _ _ _ size_state
  have hz1 : W1.heap.size = w.heap.size + 3 := by rw [hW1]; simp
  have HZ1 := Lib.hid hz1; clear hz1
  have c0 : W1.cell? ⟨w.heap.size + 1, 0, none⟩ = some (.int .i64 (s.at_ : Int)) := G1.s.cell 0 (by omega)
  have c23 := G1.s.cell 23 (by omega)
  have f23 := G1.s.frozen 23
  have c1 := G1.p1
  have G2 := (G1.put 23 (.int .i64 (s.at_ : Int))).congr (stF_mark (.slice KA s.calls.length kc) s false)
  have HG2 := Lib.hid G2; clear G2
  have HG1 := Lib.hid G1; clear G1
  rw [← hL]
  clear hL
  have HW1 := Lib.hid hW1; clear hW1
  obtain ⟨hat, _⟩ := List.getElem?_eq_some_iff.1 hi
  have hat' : (s.at_ : Int) < pr.length := by omega
  obtain ⟨a, rfl, _, hab, hcl⟩ := H.ins.at_ (j := s.at_ * 5) (by have := Nat.mul_lt_mul_of_pos_right hat (show 0 < 5 by omega); exact this)
  have hld : ∀ j v, (insCells i)[j]? = some v → (W1.setCell ⟨w.heap.size + 1, 23, none⟩ (.int .i64 (s.at_ : Int))).cell? ((a.add (s.at_ * 5)).add j) = some v := fun j v hv => by
    have hj : j < 5 := by
      rcases Nat.lt_or_ge j 5 with h | h
      · exact h
      · rw [List.getElem?_eq_none (by simpa [insCells] using h)] at hv; cases hv
    rw [add_add]
    have := hcl (s.at_ * 5 + j) v (by rw [ins_cells pr s.at_ j i hi hj]; exact hv)
    exact (World.cell?_of_block (HG2.out.b.block _ (by rw [add_block]; exact hab))).trans this
  have hld : ∀ j v, [.int .i64 22, .int .i64 (i.dst : Int), .int .i64 (i.src : Int), .int .i64 i.off, .int .u32 (i.imm : Int)][j]? = some v → (W1.setCell ⟨w.heap.size + 1, 23, none⟩ (.int .i64 (s.at_ : Int))).cell? ((a.add (s.at_ * 5)).add j) = some v := fun j v hv => hld j v (by simp only [insCells, hop]; exact hv)
  have hu : ∀ W : World, Calls Try.prog 27 #[.int .i64 22] W fun e w' => e = .returned (.tuple #[.bool true, .bool true, .bool true, .bool false, .bool true]) ∧ W = w' := fun W => by
    have := uses_in W i.op hm.op1 hm.op2
    rw [hop] at this
    exact this
  have hdst := hm.dst
  have hsrc := hm.src
  have hdst' : (i.dst : Int) < 10 := by omega
  have hsrc' : (i.src : Int) < 10 := by omega
  have ho1 := hm.off1
  have ho2 := hm.off2
  have him := hm.imm
  have hrd := H.ok.reg i.dst
  have hrs := H.ok.reg i.src
  have HOK := Lib.hid H.ok
  have HH := Lib.hid H
  have hN4 := HG2.out.ins (by rw [← HZ1.out]; simp [World.setCell]) i
  rw [hop] at hN4
  have HN4 := Lib.hid hN4; clear hN4
  have HLD := Lib.hid hld; clear hld
  have HCL := Lib.hid hcl; clear hcl
  have HU := Lib.hid hu; clear hu
  have HOP := Lib.hid hop; clear hop
  have HM := Lib.hid hm; clear hm
  have HI := Lib.hid hi; clear hi
  have hj := HM.out.jmp (by rw [HOP.out]; omega)
  have hj1 := hj.1
  have hj2 := hj.2
  clear hj
  have hq1 : decide ((s.reg i.dst : Int) < (s.reg i.src : Int)) = true := by simp; omega
  have hq2 : decide (s.reg i.dst < s.reg i.src) = true := by simp; omega
  clear heq
  clear H
  go_enter Try.func26, Try.ntmps26
  go_upto_region 1 with fail
  rw [← HW1.out]
  go_upto_region 5 with (refine wpList_value (.agg #[.int .i64 22, .int .i64 (i.dst : Int), .int .i64 (i.src : Int), .int .i64 i.off, .int .u32 (i.imm : Int)]) rfl (exec_load_at 50 (.tmp 38) rfl (a.add (s.at_ * 5)) rfl ([.int .i64 22, .int .i64 (i.dst : Int), .int .i64 (i.src : Int), .int .i64 i.off, .int .u32 (i.imm : Int)]) _ HLD.out Try.underlying50 rfl size_ins) ?_)
  clear c0 c23 f23 c1
  generalize hW4 : (W1.setCell ⟨w.heap.size + 1, 23, none⟩ (.int .i64 (s.at_ : Int))).alloc (.cells #[.int .i64 22, .int .i64 (i.dst : Int), .int .i64 (i.src : Int), .int .i64 i.off, .int .u32 (i.imm : Int)] 50) = W4 at HN4
  rw [HZ1.out]
  have i0 : W4.cell? ⟨w.heap.size + 3, 0, none⟩ = some (.int .i64 22) := (by have := HN4.out.n.cells.1; rw [HOP.out] at this; exact this)
  have i1 := HN4.out.n.cells.2.1
  have i2 := HN4.out.n.cells.2.2.1
  have i3 := HN4.out.n.cells.2.2.2.1
  have i4 := HN4.out.n.cells.2.2.2.2
  have s0 : W4.cell? ⟨w.heap.size + 1, 0, none⟩ = some (.int .i64 (s.at_ : Int)) := HN4.out.g.s.cell 0 (by omega)
  have sd : W4.cell? ⟨w.heap.size + 1, 1 + i.dst, none⟩ = some (.bool (s.set i.dst)) := by rw [HN4.out.g.s.cell (1 + i.dst) (by omega), stF_set _ _ _ _ hdst]; rfl
  have ss : W4.cell? ⟨w.heap.size + 1, 1 + i.src, none⟩ = some (.bool (s.set i.src)) := by rw [HN4.out.g.s.cell (1 + i.src) (by omega), stF_set _ _ _ _ hsrc]; rfl
  have sz : W4.cell? ⟨w.heap.size + 1, 1, none⟩ = some (.bool (s.set 0)) := HN4.out.g.s.cell 1 (by omega)
  go_upto_region 10 with (go_at_call 27; (with_reducible refine (HU.out _).mono ?_); rintro e w' ⟨rfl, rfl⟩)
  clear i0 i1 i2 i3 i4 s0 sd ss sz
  refine wp_region_noPanic ?_
  refine plan (.rd 0 (.rd 1 (.rd 2 (.rd 3 (.rd 4 (.rd 5 (.rd 6 (.rd 7 (.rd 8 (.rd 9 (.rd 10 (.rd 11 .done)))))))))))) [0, 1, 2, 3, 4, 5, 6, 7, 8, 9, 10, 11] (fun W => S4 w (.int .i64 ctx) (.slice (some a) pr.length ic) (stF (.slice KA s.calls.length kc) s.mark false) i W) (by kernel_rfl) (by kernel_rfl) (fun _ _ _ _ _ h => h) HN4.out.drewp ?_
  repeat (refine pl_pure rfl (fun K hK => ?_); go_simp; refine hK _ ?_; clear hK K)
  refine pl_rd (.int .i64 (i.dst : Int)) rfl rfl (fun W hS => ?_) (fun K hK => ?_)
  · have f0 := hS.n.cells.2.1
    simp [go_sem, f0]
  go_simp
  refine hK _ ?_
  clear hK K
  repeat (refine pl_pure rfl (fun K hK => ?_); go_simp; refine hK _ ?_; clear hK K)
  refine pl_rd (.int .i64 (s.reg i.dst : Int)) rfl rfl (fun W hS => ?_) (fun K hK => ?_)
  · have f0 : W.cell? ⟨w.heap.size + 1, 11 + i.dst, none⟩ = some (.int .i64 (s.reg i.dst : Int)) := by rw [hS.g.s.cell (11 + i.dst) (by omega), stF_reg _ _ _ _ hdst]; rfl
    simp [go_sem, f0]
  go_simp
  refine hK _ ?_
  clear hK K
  repeat (refine pl_pure rfl (fun K hK => ?_); go_simp; refine hK _ ?_; clear hK K)
  refine pl_rd (.int .i64 (i.src : Int)) rfl rfl (fun W hS => ?_) (fun K hK => ?_)
  · have f0 := hS.n.cells.2.2.1
    simp [go_sem, f0]
  go_simp
  refine hK _ ?_
  clear hK K
  repeat (refine pl_pure rfl (fun K hK => ?_); go_simp; refine hK _ ?_; clear hK K)
  refine pl_rd (.int .i64 (s.reg i.src : Int)) rfl rfl (fun W hS => ?_) (fun K hK => ?_)
  · have f0 : W.cell? ⟨w.heap.size + 1, 11 + i.src, none⟩ = some (.int .i64 (s.reg i.src : Int)) := by rw [hS.g.s.cell (11 + i.src) (by omega), stF_reg _ _ _ _ hsrc]; rfl
    simp [go_sem, f0]
  go_simp
  refine hK _ ?_
  clear hK K
  repeat (refine pl_pure rfl (fun K hK => ?_); go_simp; refine hK _ ?_; clear hK K)
  refine pl_done ?_
  refine NoPanic.normal ?_
  have HN5 := Lib.hid HN4.out.drewp
  generalize hW5 : W4.drew = W5 at HN5 ⊢
  clear hW5
  have i0 : W5.cell? ⟨w.heap.size + 3, 0, none⟩ = some (.int .i64 22) := (by have := HN5.out.n.cells.1; rw [HOP.out] at this; exact this)
  have i1 := HN5.out.n.cells.2.1
  have i2 := HN5.out.n.cells.2.2.1
  have i3 := HN5.out.n.cells.2.2.2.1
  have i4 := HN5.out.n.cells.2.2.2.2
  have s0 : W5.cell? ⟨w.heap.size + 1, 0, none⟩ = some (.int .i64 (s.at_ : Int)) := HN5.out.g.s.cell 0 (by omega)
  go_upto_region 39 with fail
  clear i0 i1 i2 i3 i4 s0
  have c0 : W5.cell? ⟨w.heap.size + 1, 0, none⟩ = some (.int .i64 (s.at_ : Int)) := HN5.out.g.s.cell 0 (by omega)
  have c21 : W5.cell? ⟨w.heap.size + 1, 21, none⟩ = some (.int .i64 (s.steps : Int)) := HN5.out.g.s.cell 21 (by omega)
  have f0 := HN5.out.g.s.frozen 0
  have f21 := HN5.out.g.s.frozen 21
  have hat9 := HH.out.at_
  have hst9 := HH.out.st
  have HN8 := Lib.hid (((HN5.out.put 21 (.int .i64 ((s.steps : Int) + 1))).put 0 (.int .i64 ((s.at_ : Int) + 1 + i.off))).congr (stF_next (.slice KA s.calls.length kc) s.mark false i.off ((s.at_ : Int) + 1 + i.off) (by simp only [Vm.next]; show _ = (((s.at_ : Int) + (1 + _)).toNat : Int); omega)))
  go_upto_region 41 with fail
  generalize hW8 : (W5.setCell ⟨w.heap.size + 1, 21, none⟩ (.int .i64 ((s.steps : Int) + 1))).setCell ⟨w.heap.size + 1, 0, none⟩ (.int .i64 ((s.at_ : Int) + 1 + i.off)) = W8 at HN8 ⊢
  clear hW8 c0 c21 f0 f21
  obtain ⟨HT9, W10, HW10, HR10, HK10, HB10⟩ := HN8.out.g.done (stL (.slice KA s.calls.length kc) (s.mark.next i.off) false) (stL_length _ _ _)
  refine wp_region_list ?_
  refine wpList_load_mid rfl 83 (.tmp 7) rfl (w.heap.size + 1) 0 rfl (stL (.slice KA s.calls.length kc) (s.mark.next i.off) false) _ HN8.out.g.s.range Try.underlying83 rfl (by rw [stL_length]; exact info_state) ?_
  refine wpList_store_mid rfl 83 (.tmp 8) (.tmp 262) rfl (w.heap.size + 2) 0 (stL (.slice KA s.calls.length kc) (s.mark.next i.off) false).toArray rfl rfl (by rw [stA_size]; exact HT9.out) (by rw [stA_size]; exact info_state) (stL_one _ rfl _ _) ?_
  rw [← HW10.out]
  go_wp2
  exact bodyPost_ret (v := .agg (stL (.slice KA s.calls.length kc) (s.mark.next i.off) false).toArray) (results_cell1_range Try.results26 _ _ (w.heap.size + 2) 0 _ _ rfl HR10.out Try.underlying83 rfl (by rw [stL_length]; exact info_state)) rfl ⟨KA, kc, rfl, (HH.out.sl.move (Mv.of_below HB10.out okc)).mono (fun _ _ h => .inl h), HB10.out⟩

set_option maxRecDepth 100000 in
set_option maxHeartbeats 8000000 in
theorem stepr_jlt_n {w : World} {okc : Nat → Prop} {KA : Option Addr} {kc : Nat} {s : Vm} {IA : Option Addr} {ic : Nat} {pr : List Ins8} {CA : Option Addr} {cc : Nat} {cx : List UInt8} {A : Option Addr} {ca : Nat} {ans : List Nat} (ctx : Int) (H : StepIn w okc KA kc s IA ic pr CA cc cx A ca ans) (i : Ins8) (hi : pr[s.at_]? = some i) (hm : i.May) (hop : i.op = 22) (hsd : s.set i.dst = true) (hss : s.set i.src = true) (heq : ¬ s.reg i.dst < s.reg i.src) :
    Calls Try.prog 26 #[.agg #[.int .i64 ctx, .slice IA pr.length ic], .slice CA cx.length cc, .slice A ans.length ca, .agg (stL (.slice KA s.calls.length kc) s false).toArray] w (StepPost w okc (s.mark.next 0) false) := by
  obtain ⟨L, hL⟩ : ∃ L, L = (stL (.slice KA s.calls.length kc) s false).toArray := ⟨_, rfl⟩
  obtain ⟨W1, hW1⟩ : ∃ W1, W1 = ((w.alloc (.cells #[.int .i64 ctx, .slice IA pr.length ic] 24)).alloc (.cells L 83)).alloc (.cells Try.zeroCells83 83) := ⟨_, rfl⟩
  have G1 : S3 w (.int .i64 ctx) (.slice IA pr.length ic) (stF (.slice KA s.calls.length kc) s false) W1 := by rw [hW1, hL]; exact S3.start w _ _ _ _ size_state
  have hz1 : W1.heap.size = w.heap.size + 3 := by rw [hW1]; simp
  have HZ1 := Lib.hid hz1; clear hz1
  have c0 : W1.cell? ⟨w.heap.size + 1, 0, none⟩ = some (.int .i64 (s.at_ : Int)) := G1.s.cell 0 (by omega)
  have c23 := G1.s.cell 23 (by omega)
  have f23 := G1.s.frozen 23
  have c1 := G1.p1
  have G2 := (G1.put 23 (.int .i64 (s.at_ : Int))).congr (stF_mark (.slice KA s.calls.length kc) s false)
  have HG2 := Lib.hid G2; clear G2
  have HG1 := Lib.hid G1; clear G1
  rw [← hL]
  clear hL
  have HW1 := Lib.hid hW1; clear hW1
  obtain ⟨hat, _⟩ := List.getElem?_eq_some_iff.1 hi
  have hat' : (s.at_ : Int) < pr.length := by omega
  obtain ⟨a, rfl, _, hab, hcl⟩ := H.ins.at_ (j := s.at_ * 5) (by have := Nat.mul_lt_mul_of_pos_right hat (show 0 < 5 by omega); exact this)
  have hld : ∀ j v, (insCells i)[j]? = some v → (W1.setCell ⟨w.heap.size + 1, 23, none⟩ (.int .i64 (s.at_ : Int))).cell? ((a.add (s.at_ * 5)).add j) = some v := fun j v hv => by
    have hj : j < 5 := by
      rcases Nat.lt_or_ge j 5 with h | h
      · exact h
      · rw [List.getElem?_eq_none (by simpa [insCells] using h)] at hv; cases hv
    rw [add_add]
    have := hcl (s.at_ * 5 + j) v (by rw [ins_cells pr s.at_ j i hi hj]; exact hv)
    exact (World.cell?_of_block (HG2.out.b.block _ (by rw [add_block]; exact hab))).trans this
  have hld : ∀ j v, [.int .i64 22, .int .i64 (i.dst : Int), .int .i64 (i.src : Int), .int .i64 i.off, .int .u32 (i.imm : Int)][j]? = some v → (W1.setCell ⟨w.heap.size + 1, 23, none⟩ (.int .i64 (s.at_ : Int))).cell? ((a.add (s.at_ * 5)).add j) = some v := fun j v hv => hld j v (by simp only [insCells, hop]; exact hv)
  have hu : ∀ W : World, Calls Try.prog 27 #[.int .i64 22] W fun e w' => e = .returned (.tuple #[.bool true, .bool true, .bool true, .bool false, .bool true]) ∧ W = w' := fun W => by
    have := uses_in W i.op hm.op1 hm.op2
    rw [hop] at this
    exact this
  have hdst := hm.dst
  have hsrc := hm.src
  have hdst' : (i.dst : Int) < 10 := by omega
  have hsrc' : (i.src : Int) < 10 := by omega
  have ho1 := hm.off1
  have ho2 := hm.off2
  have him := hm.imm
  have hrd := H.ok.reg i.dst
  have hrs := H.ok.reg i.src
  have HOK := Lib.hid H.ok
  have HH := Lib.hid H
  have hN4 := HG2.out.ins (by rw [← HZ1.out]; simp [World.setCell]) i
  rw [hop] at hN4
  have HN4 := Lib.hid hN4; clear hN4
  have HLD := Lib.hid hld; clear hld
  have HCL := Lib.hid hcl; clear hcl
  have HU := Lib.hid hu; clear hu
  have HOP := Lib.hid hop; clear hop
  have HM := Lib.hid hm; clear hm
  have HI := Lib.hid hi; clear hi
  have hj := HM.out.jmp (by rw [HOP.out]; omega)
  have hj1 := hj.1
  have hj2 := hj.2
  clear hj
  have hq1 : decide ((s.reg i.dst : Int) < (s.reg i.src : Int)) = false := by simp; omega
  have hq2 : decide (s.reg i.dst < s.reg i.src) = false := by simp; omega
  clear heq
  clear H
  go_enter Try.func26, Try.ntmps26
  go_upto_region 1 with fail
  rw [← HW1.out]
  go_upto_region 5 with (refine wpList_value (.agg #[.int .i64 22, .int .i64 (i.dst : Int), .int .i64 (i.src : Int), .int .i64 i.off, .int .u32 (i.imm : Int)]) rfl (exec_load_at 50 (.tmp 38) rfl (a.add (s.at_ * 5)) rfl ([.int .i64 22, .int .i64 (i.dst : Int), .int .i64 (i.src : Int), .int .i64 i.off, .int .u32 (i.imm : Int)]) _ HLD.out Try.underlying50 rfl size_ins) ?_)
  clear c0 c23 f23 c1
  generalize hW4 : (W1.setCell ⟨w.heap.size + 1, 23, none⟩ (.int .i64 (s.at_ : Int))).alloc (.cells #[.int .i64 22, .int .i64 (i.dst : Int), .int .i64 (i.src : Int), .int .i64 i.off, .int .u32 (i.imm : Int)] 50) = W4 at HN4
  rw [HZ1.out]
  have i0 : W4.cell? ⟨w.heap.size + 3, 0, none⟩ = some (.int .i64 22) := (by have := HN4.out.n.cells.1; rw [HOP.out] at this; exact this)
  have i1 := HN4.out.n.cells.2.1
  have i2 := HN4.out.n.cells.2.2.1
  have i3 := HN4.out.n.cells.2.2.2.1
  have i4 := HN4.out.n.cells.2.2.2.2
  have s0 : W4.cell? ⟨w.heap.size + 1, 0, none⟩ = some (.int .i64 (s.at_ : Int)) := HN4.out.g.s.cell 0 (by omega)
  have sd : W4.cell? ⟨w.heap.size + 1, 1 + i.dst, none⟩ = some (.bool (s.set i.dst)) := by rw [HN4.out.g.s.cell (1 + i.dst) (by omega), stF_set _ _ _ _ hdst]; rfl
  have ss : W4.cell? ⟨w.heap.size + 1, 1 + i.src, none⟩ = some (.bool (s.set i.src)) := by rw [HN4.out.g.s.cell (1 + i.src) (by omega), stF_set _ _ _ _ hsrc]; rfl
  have sz : W4.cell? ⟨w.heap.size + 1, 1, none⟩ = some (.bool (s.set 0)) := HN4.out.g.s.cell 1 (by omega)
  go_upto_region 10 with (go_at_call 27; (with_reducible refine (HU.out _).mono ?_); rintro e w' ⟨rfl, rfl⟩)
  clear i0 i1 i2 i3 i4 s0 sd ss sz
  refine wp_region_noPanic ?_
  refine plan (.rd 0 (.rd 1 (.rd 2 (.rd 3 (.rd 4 (.rd 5 (.rd 6 (.rd 7 (.rd 8 (.rd 9 (.rd 10 (.rd 11 .done)))))))))))) [0, 1, 2, 3, 4, 5, 6, 7, 8, 9, 10, 11] (fun W => S4 w (.int .i64 ctx) (.slice (some a) pr.length ic) (stF (.slice KA s.calls.length kc) s.mark false) i W) (by kernel_rfl) (by kernel_rfl) (fun _ _ _ _ _ h => h) HN4.out.drewp ?_
  repeat (refine pl_pure rfl (fun K hK => ?_); go_simp; refine hK _ ?_; clear hK K)
  refine pl_rd (.int .i64 (i.dst : Int)) rfl rfl (fun W hS => ?_) (fun K hK => ?_)
  · have f0 := hS.n.cells.2.1
    simp [go_sem, f0]
  go_simp
  refine hK _ ?_
  clear hK K
  repeat (refine pl_pure rfl (fun K hK => ?_); go_simp; refine hK _ ?_; clear hK K)
  refine pl_rd (.int .i64 (s.reg i.dst : Int)) rfl rfl (fun W hS => ?_) (fun K hK => ?_)
  · have f0 : W.cell? ⟨w.heap.size + 1, 11 + i.dst, none⟩ = some (.int .i64 (s.reg i.dst : Int)) := by rw [hS.g.s.cell (11 + i.dst) (by omega), stF_reg _ _ _ _ hdst]; rfl
    simp [go_sem, f0]
  go_simp
  refine hK _ ?_
  clear hK K
  repeat (refine pl_pure rfl (fun K hK => ?_); go_simp; refine hK _ ?_; clear hK K)
  refine pl_rd (.int .i64 (i.src : Int)) rfl rfl (fun W hS => ?_) (fun K hK => ?_)
  · have f0 := hS.n.cells.2.2.1
    simp [go_sem, f0]
  go_simp
  refine hK _ ?_
  clear hK K
  repeat (refine pl_pure rfl (fun K hK => ?_); go_simp; refine hK _ ?_; clear hK K)
  refine pl_rd (.int .i64 (s.reg i.src : Int)) rfl rfl (fun W hS => ?_) (fun K hK => ?_)
  · have f0 : W.cell? ⟨w.heap.size + 1, 11 + i.src, none⟩ = some (.int .i64 (s.reg i.src : Int)) := by rw [hS.g.s.cell (11 + i.src) (by omega), stF_reg _ _ _ _ hsrc]; rfl
    simp [go_sem, f0]
  go_simp
  refine hK _ ?_
  clear hK K
  repeat (refine pl_pure rfl (fun K hK => ?_); go_simp; refine hK _ ?_; clear hK K)
  refine pl_done ?_
  refine NoPanic.normal ?_
  have HN5 := Lib.hid HN4.out.drewp
  generalize hW5 : W4.drew = W5 at HN5 ⊢
  clear hW5
  have i0 : W5.cell? ⟨w.heap.size + 3, 0, none⟩ = some (.int .i64 22) := (by have := HN5.out.n.cells.1; rw [HOP.out] at this; exact this)
  have i1 := HN5.out.n.cells.2.1
  have i2 := HN5.out.n.cells.2.2.1
  have i3 := HN5.out.n.cells.2.2.2.1
  have i4 := HN5.out.n.cells.2.2.2.2
  have s0 : W5.cell? ⟨w.heap.size + 1, 0, none⟩ = some (.int .i64 (s.at_ : Int)) := HN5.out.g.s.cell 0 (by omega)
  go_upto_region 39 with fail
  clear i0 i1 i2 i3 i4 s0
  have c0 : W5.cell? ⟨w.heap.size + 1, 0, none⟩ = some (.int .i64 (s.at_ : Int)) := HN5.out.g.s.cell 0 (by omega)
  have c21 : W5.cell? ⟨w.heap.size + 1, 21, none⟩ = some (.int .i64 (s.steps : Int)) := HN5.out.g.s.cell 21 (by omega)
  have f0 := HN5.out.g.s.frozen 0
  have f21 := HN5.out.g.s.frozen 21
  have hat9 := HH.out.at_
  have hst9 := HH.out.st
  have HN8 := Lib.hid (((HN5.out.put 21 (.int .i64 ((s.steps : Int) + 1))).put 0 (.int .i64 ((s.at_ : Int) + 1))).congr (stF_next (.slice KA s.calls.length kc) s.mark false 0 ((s.at_ : Int) + 1) (by simp only [Vm.next]; show _ = (((s.at_ : Int) + (1 + _)).toNat : Int); omega)))
  go_upto_region 41 with fail
  generalize hW8 : (W5.setCell ⟨w.heap.size + 1, 21, none⟩ (.int .i64 ((s.steps : Int) + 1))).setCell ⟨w.heap.size + 1, 0, none⟩ (.int .i64 ((s.at_ : Int) + 1)) = W8 at HN8 ⊢
  clear hW8 c0 c21 f0 f21
  obtain ⟨HT9, W10, HW10, HR10, HK10, HB10⟩ := HN8.out.g.done (stL (.slice KA s.calls.length kc) (s.mark.next 0) false) (stL_length _ _ _)
  refine wp_region_list ?_
  refine wpList_load_mid rfl 83 (.tmp 7) rfl (w.heap.size + 1) 0 rfl (stL (.slice KA s.calls.length kc) (s.mark.next 0) false) _ HN8.out.g.s.range Try.underlying83 rfl (by rw [stL_length]; exact info_state) ?_
  refine wpList_store_mid rfl 83 (.tmp 8) (.tmp 262) rfl (w.heap.size + 2) 0 (stL (.slice KA s.calls.length kc) (s.mark.next 0) false).toArray rfl rfl (by rw [stA_size]; exact HT9.out) (by rw [stA_size]; exact info_state) (stL_one _ rfl _ _) ?_
  rw [← HW10.out]
  go_wp2
  exact bodyPost_ret (v := .agg (stL (.slice KA s.calls.length kc) (s.mark.next 0) false).toArray) (results_cell1_range Try.results26 _ _ (w.heap.size + 2) 0 _ _ rfl HR10.out Try.underlying83 rfl (by rw [stL_length]; exact info_state)) rfl ⟨KA, kc, rfl, (HH.out.sl.move (Mv.of_below HB10.out okc)).mono (fun _ _ h => .inl h), HB10.out⟩

set_option maxRecDepth 100000 in
set_option maxHeartbeats 8000000 in
theorem stepr_exit {w : World} {okc : Nat → Prop} {KA : Option Addr} {kc : Nat} {s : Vm} {IA : Option Addr} {ic : Nat} {pr : List Ins8} {CA : Option Addr} {cc : Nat} {cx : List UInt8} {A : Option Addr} {ca : Nat} {ans : List Nat} (ctx : Int) (H : StepIn w okc KA kc s IA ic pr CA cc cx A ca ans) (i : Ins8) (hi : pr[s.at_]? = some i) (hm : i.May) (hop : i.op = 24) (hs0 : s.set 0 = true) :
    Calls Try.prog 26 #[.agg #[.int .i64 ctx, .slice IA pr.length ic], .slice CA cx.length cc, .slice A ans.length ca, .agg (stL (.slice KA s.calls.length kc) s false).toArray] w (StepPost w okc ((s.mark.tell (s.reg 0)).next 0) true) := by
  obtain ⟨L, hL⟩ : ∃ L, L = (stL (.slice KA s.calls.length kc) s false).toArray := ⟨_, rfl⟩
  obtain ⟨W1, hW1⟩ : ∃ W1, W1 = ((w.alloc (.cells #[.int .i64 ctx, .slice IA pr.length ic] 24)).alloc (.cells L 83)).alloc (.cells Try.zeroCells83 83) := ⟨_, rfl⟩
  have G1 : S3 w (.int .i64 ctx) (.slice IA pr.length ic) (stF (.slice KA s.calls.length kc) s false) W1 := by rw [hW1, hL]; exact S3.start w _ _ _ _ size_state
  have hz1 : W1.heap.size = w.heap.size + 3 := by rw [hW1]; simp
  have HZ1 := Lib.hid hz1; clear hz1
  have c0 : W1.cell? ⟨w.heap.size + 1, 0, none⟩ = some (.int .i64 (s.at_ : Int)) := G1.s.cell 0 (by omega)
  have c23 := G1.s.cell 23 (by omega)
  have f23 := G1.s.frozen 23
  have c1 := G1.p1
  have G2 := (G1.put 23 (.int .i64 (s.at_ : Int))).congr (stF_mark (.slice KA s.calls.length kc) s false)
  have HG2 := Lib.hid G2; clear G2
  have HG1 := Lib.hid G1; clear G1
  rw [← hL]
  clear hL
  have HW1 := Lib.hid hW1; clear hW1
  obtain ⟨hat, _⟩ := List.getElem?_eq_some_iff.1 hi
  have hat' : (s.at_ : Int) < pr.length := by omega
  obtain ⟨a, rfl, _, hab, hcl⟩ := H.ins.at_ (j := s.at_ * 5) (by have := Nat.mul_lt_mul_of_pos_right hat (show 0 < 5 by omega); exact this)
  have hld : ∀ j v, (insCells i)[j]? = some v → (W1.setCell ⟨w.heap.size + 1, 23, none⟩ (.int .i64 (s.at_ : Int))).cell? ((a.add (s.at_ * 5)).add j) = some v := fun j v hv => by
    have hj : j < 5 := by
      rcases Nat.lt_or_ge j 5 with h | h
      · exact h
      · rw [List.getElem?_eq_none (by simpa [insCells] using h)] at hv; cases hv
    rw [add_add]
    have := hcl (s.at_ * 5 + j) v (by rw [ins_cells pr s.at_ j i hi hj]; exact hv)
    exact (World.cell?_of_block (HG2.out.b.block _ (by rw [add_block]; exact hab))).trans this
  have hld : ∀ j v, [.int .i64 24, .int .i64 (i.dst : Int), .int .i64 (i.src : Int), .int .i64 i.off, .int .u32 (i.imm : Int)][j]? = some v → (W1.setCell ⟨w.heap.size + 1, 23, none⟩ (.int .i64 (s.at_ : Int))).cell? ((a.add (s.at_ * 5)).add j) = some v := fun j v hv => hld j v (by simp only [insCells, hop]; exact hv)
  have hu : ∀ W : World, Calls Try.prog 27 #[.int .i64 24] W fun e w' => e = .returned (.tuple #[.bool false, .bool false, .bool false, .bool false, .bool true]) ∧ W = w' := fun W => by
    have := uses_in W i.op hm.op1 hm.op2
    rw [hop] at this
    exact this
  have hdst := hm.dst
  have hsrc := hm.src
  have hdst' : (i.dst : Int) < 10 := by omega
  have hsrc' : (i.src : Int) < 10 := by omega
  have ho1 := hm.off1
  have ho2 := hm.off2
  have him := hm.imm
  have hrd := H.ok.reg i.dst
  have hrs := H.ok.reg i.src
  have HOK := Lib.hid H.ok
  have HH := Lib.hid H
  have hN4 := HG2.out.ins (by rw [← HZ1.out]; simp [World.setCell]) i
  rw [hop] at hN4
  have HN4 := Lib.hid hN4; clear hN4
  have HLD := Lib.hid hld; clear hld
  have HCL := Lib.hid hcl; clear hcl
  have HU := Lib.hid hu; clear hu
  have HOP := Lib.hid hop; clear hop
  have HM := Lib.hid hm; clear hm
  have HI := Lib.hid hi; clear hi
  have hr0 := HOK.out.reg 0
  have hwv : IntKind.u32.wrap (s.reg 0 : Int) = (s.reg 0 : Int) := IntWalk.u32_in _ (by omega)
  clear H
  go_enter Try.func26, Try.ntmps26
  go_upto_region 1 with fail
  rw [← HW1.out]
  go_upto_region 5 with (refine wpList_value (.agg #[.int .i64 24, .int .i64 (i.dst : Int), .int .i64 (i.src : Int), .int .i64 i.off, .int .u32 (i.imm : Int)]) rfl (exec_load_at 50 (.tmp 38) rfl (a.add (s.at_ * 5)) rfl ([.int .i64 24, .int .i64 (i.dst : Int), .int .i64 (i.src : Int), .int .i64 i.off, .int .u32 (i.imm : Int)]) _ HLD.out Try.underlying50 rfl size_ins) ?_)
  clear c0 c23 f23 c1
  generalize hW4 : (W1.setCell ⟨w.heap.size + 1, 23, none⟩ (.int .i64 (s.at_ : Int))).alloc (.cells #[.int .i64 24, .int .i64 (i.dst : Int), .int .i64 (i.src : Int), .int .i64 i.off, .int .u32 (i.imm : Int)] 50) = W4 at HN4
  rw [HZ1.out]
  have i0 : W4.cell? ⟨w.heap.size + 3, 0, none⟩ = some (.int .i64 24) := (by have := HN4.out.n.cells.1; rw [HOP.out] at this; exact this)
  have i1 := HN4.out.n.cells.2.1
  have i2 := HN4.out.n.cells.2.2.1
  have i3 := HN4.out.n.cells.2.2.2.1
  have i4 := HN4.out.n.cells.2.2.2.2
  have s0 : W4.cell? ⟨w.heap.size + 1, 0, none⟩ = some (.int .i64 (s.at_ : Int)) := HN4.out.g.s.cell 0 (by omega)
  have sd : W4.cell? ⟨w.heap.size + 1, 1 + i.dst, none⟩ = some (.bool (s.set i.dst)) := by rw [HN4.out.g.s.cell (1 + i.dst) (by omega), stF_set _ _ _ _ hdst]; rfl
  have ss : W4.cell? ⟨w.heap.size + 1, 1 + i.src, none⟩ = some (.bool (s.set i.src)) := by rw [HN4.out.g.s.cell (1 + i.src) (by omega), stF_set _ _ _ _ hsrc]; rfl
  have sz : W4.cell? ⟨w.heap.size + 1, 1, none⟩ = some (.bool (s.set 0)) := HN4.out.g.s.cell 1 (by omega)
  go_upto_region 10 with (go_at_call 27; (with_reducible refine (HU.out _).mono ?_); rintro e w' ⟨rfl, rfl⟩)
  clear i0 i1 i2 i3 i4 s0 sd ss sz
  refine wp_region_noPanic ?_
  refine plan (.rd 0 (.rd 1 (.rd 2 (.rd 3 (.rd 4 (.rd 5 (.rd 6 (.rd 7 (.rd 8 (.rd 9 (.rd 10 (.rd 11 .done)))))))))))) [0, 1, 2, 3, 4, 5, 6, 7, 8, 9, 10, 11] (fun W => S4 w (.int .i64 ctx) (.slice (some a) pr.length ic) (stF (.slice KA s.calls.length kc) s.mark false) i W) (by kernel_rfl) (by kernel_rfl) (fun _ _ _ _ _ h => h) HN4.out.drewp ?_
  repeat (refine pl_pure rfl (fun K hK => ?_); go_simp; refine hK _ ?_; clear hK K)
  refine pl_rd (.int .i64 (i.dst : Int)) rfl rfl (fun W hS => ?_) (fun K hK => ?_)
  · have f0 := hS.n.cells.2.1
    simp [go_sem, f0]
  go_simp
  refine hK _ ?_
  clear hK K
  repeat (refine pl_pure rfl (fun K hK => ?_); go_simp; refine hK _ ?_; clear hK K)
  refine pl_rd (.int .i64 (s.reg i.dst : Int)) rfl rfl (fun W hS => ?_) (fun K hK => ?_)
  · have f0 : W.cell? ⟨w.heap.size + 1, 11 + i.dst, none⟩ = some (.int .i64 (s.reg i.dst : Int)) := by rw [hS.g.s.cell (11 + i.dst) (by omega), stF_reg _ _ _ _ hdst]; rfl
    simp [go_sem, f0]
  go_simp
  refine hK _ ?_
  clear hK K
  repeat (refine pl_pure rfl (fun K hK => ?_); go_simp; refine hK _ ?_; clear hK K)
  refine pl_rd (.int .i64 (i.src : Int)) rfl rfl (fun W hS => ?_) (fun K hK => ?_)
  · have f0 := hS.n.cells.2.2.1
    simp [go_sem, f0]
  go_simp
  refine hK _ ?_
  clear hK K
  repeat (refine pl_pure rfl (fun K hK => ?_); go_simp; refine hK _ ?_; clear hK K)
  refine pl_rd (.int .i64 (s.reg i.src : Int)) rfl rfl (fun W hS => ?_) (fun K hK => ?_)
  · have f0 : W.cell? ⟨w.heap.size + 1, 11 + i.src, none⟩ = some (.int .i64 (s.reg i.src : Int)) := by rw [hS.g.s.cell (11 + i.src) (by omega), stF_reg _ _ _ _ hsrc]; rfl
    simp [go_sem, f0]
  go_simp
  refine hK _ ?_
  clear hK K
  repeat (refine pl_pure rfl (fun K hK => ?_); go_simp; refine hK _ ?_; clear hK K)
  refine pl_done ?_
  refine NoPanic.normal ?_
  have HN5 := Lib.hid HN4.out.drewp
  generalize hW5 : W4.drew = W5 at HN5 ⊢
  clear hW5
  have i0 : W5.cell? ⟨w.heap.size + 3, 0, none⟩ = some (.int .i64 24) := (by have := HN5.out.n.cells.1; rw [HOP.out] at this; exact this)
  have i1 := HN5.out.n.cells.2.1
  have i2 := HN5.out.n.cells.2.2.1
  have i3 := HN5.out.n.cells.2.2.2.1
  have i4 := HN5.out.n.cells.2.2.2.2
  have s0 : W5.cell? ⟨w.heap.size + 1, 0, none⟩ = some (.int .i64 (s.at_ : Int)) := HN5.out.g.s.cell 0 (by omega)
  have c11 : W5.cell? ⟨w.heap.size + 1, 11, none⟩ = some (.int .i64 (s.reg 0 : Int)) := HN5.out.g.s.cell 11 (by omega)
  have c90 := HN5.out.g.s.cell 90 (by omega)
  have f90 := HN5.out.g.s.frozen 90
  have c24 := HN5.out.g.s.cell 24 (by omega)
  have f24 := HN5.out.g.s.frozen 24
  have HN7 := Lib.hid (((HN5.out.put 90 (.bool true)).put 24 (.int .u32 (s.reg 0 : Int))).congr (stF_tell (.slice KA s.calls.length kc) s.mark false (s.reg 0)))
  go_upto_region 39 with fail
  clear i0 i1 i2 i3 i4 s0 c11 c90 f90 c24 f24
  generalize hW7 : (W5.setCell ⟨w.heap.size + 1, 90, none⟩ (.bool true)).setCell ⟨w.heap.size + 1, 24, none⟩ (.int .u32 (s.reg 0 : Int)) = W7 at HN7 ⊢
  clear hW7
  have c0 : W7.cell? ⟨w.heap.size + 1, 0, none⟩ = some (.int .i64 (s.at_ : Int)) := HN7.out.g.s.cell 0 (by omega)
  have c21 : W7.cell? ⟨w.heap.size + 1, 21, none⟩ = some (.int .i64 (s.steps : Int)) := HN7.out.g.s.cell 21 (by omega)
  have f0 := HN7.out.g.s.frozen 0
  have f21 := HN7.out.g.s.frozen 21
  have hat9 := HH.out.at_
  have hst9 := HH.out.st
  have HN8 := Lib.hid (((HN7.out.put 21 (.int .i64 ((s.steps : Int) + 1))).put 0 (.int .i64 ((s.at_ : Int) + 1))).congr (stF_next (.slice KA s.calls.length kc) (s.mark.tell (s.reg 0)) true 0 ((s.at_ : Int) + 1) (by simp only [Vm.next]; show _ = (((s.at_ : Int) + (1 + _)).toNat : Int); omega)))
  go_upto_region 41 with fail
  generalize hW8 : (W7.setCell ⟨w.heap.size + 1, 21, none⟩ (.int .i64 ((s.steps : Int) + 1))).setCell ⟨w.heap.size + 1, 0, none⟩ (.int .i64 ((s.at_ : Int) + 1)) = W8 at HN8 ⊢
  clear hW8 c0 c21 f0 f21
  obtain ⟨HT9, W10, HW10, HR10, HK10, HB10⟩ := HN8.out.g.done (stL (.slice KA s.calls.length kc) ((s.mark.tell (s.reg 0)).next 0) true) (stL_length _ _ _)
  refine wp_region_list ?_
  refine wpList_load_mid rfl 83 (.tmp 7) rfl (w.heap.size + 1) 0 rfl (stL (.slice KA s.calls.length kc) ((s.mark.tell (s.reg 0)).next 0) true) _ HN8.out.g.s.range Try.underlying83 rfl (by rw [stL_length]; exact info_state) ?_
  refine wpList_store_mid rfl 83 (.tmp 8) (.tmp 262) rfl (w.heap.size + 2) 0 (stL (.slice KA s.calls.length kc) ((s.mark.tell (s.reg 0)).next 0) true).toArray rfl rfl (by rw [stA_size]; exact HT9.out) (by rw [stA_size]; exact info_state) (stL_one _ rfl _ _) ?_
  rw [← HW10.out]
  go_wp2
  exact bodyPost_ret (v := .agg (stL (.slice KA s.calls.length kc) ((s.mark.tell (s.reg 0)).next 0) true).toArray) (results_cell1_range Try.results26 _ _ (w.heap.size + 2) 0 _ _ rfl HR10.out Try.underlying83 rfl (by rw [stL_length]; exact info_state)) rfl ⟨KA, kc, rfl, (HH.out.sl.move (Mv.of_below HB10.out okc)).mono (fun _ _ h => .inl h), HB10.out⟩

set_option maxRecDepth 100000 in
set_option maxHeartbeats 8000000 in
theorem stepr_call {w : World} {okc : Nat → Prop} {KA : Option Addr} {kc : Nat} {s : Vm} {IA : Option Addr} {ic : Nat} {pr : List Ins8} {CA : Option Addr} {cc : Nat} {cx : List UInt8} {A : Option Addr} {ca : Nat} {ans : List Nat} (ctx : Int) (H : StepIn w okc KA kc s IA ic pr CA cc cx A ca ans) (i : Ins8) (hi : pr[s.at_]? = some i) (hm : i.May) (hop : i.op = 23) :
    Calls Try.prog 26 #[.agg #[.int .i64 ctx, .slice IA pr.length ic], .slice CA cx.length cc, .slice A ans.length ca, .agg (stL (.slice KA s.calls.length kc) s false).toArray] w (StepPost w okc ((s.mark.call i.imm ans).next 0) false) := by
  obtain ⟨L, hL⟩ : ∃ L, L = (stL (.slice KA s.calls.length kc) s false).toArray := ⟨_, rfl⟩
  obtain ⟨W1, hW1⟩ : ∃ W1, W1 = ((w.alloc (.cells #[.int .i64 ctx, .slice IA pr.length ic] 24)).alloc (.cells L 83)).alloc (.cells Try.zeroCells83 83) := ⟨_, rfl⟩
  have G1 : S3 w (.int .i64 ctx) (.slice IA pr.length ic) (stF (.slice KA s.calls.length kc) s false) W1 := by rw [hW1, hL]; exact S3.start w _ _ _ _ size_state
  have hz1 : W1.heap.size = w.heap.size + 3 := by rw [hW1]; simp
  have HZ1 := Lib.hid hz1; clear hz1
  have c0 : W1.cell? ⟨w.heap.size + 1, 0, none⟩ = some (.int .i64 (s.at_ : Int)) := G1.s.cell 0 (by omega)
  have c23 := G1.s.cell 23 (by omega)
  have f23 := G1.s.frozen 23
  have c1 := G1.p1
  have G2 := (G1.put 23 (.int .i64 (s.at_ : Int))).congr (stF_mark (.slice KA s.calls.length kc) s false)
  have HG2 := Lib.hid G2; clear G2
  have HG1 := Lib.hid G1; clear G1
  rw [← hL]
  clear hL
  have HW1 := Lib.hid hW1; clear hW1
  obtain ⟨hat, _⟩ := List.getElem?_eq_some_iff.1 hi
  have hat' : (s.at_ : Int) < pr.length := by omega
  obtain ⟨a, rfl, _, hab, hcl⟩ := H.ins.at_ (j := s.at_ * 5) (by have := Nat.mul_lt_mul_of_pos_right hat (show 0 < 5 by omega); exact this)
  have hld : ∀ j v, (insCells i)[j]? = some v → (W1.setCell ⟨w.heap.size + 1, 23, none⟩ (.int .i64 (s.at_ : Int))).cell? ((a.add (s.at_ * 5)).add j) = some v := fun j v hv => by
    have hj : j < 5 := by
      rcases Nat.lt_or_ge j 5 with h | h
      · exact h
      · rw [List.getElem?_eq_none (by simpa [insCells] using h)] at hv; cases hv
    rw [add_add]
    have := hcl (s.at_ * 5 + j) v (by rw [ins_cells pr s.at_ j i hi hj]; exact hv)
    exact (World.cell?_of_block (HG2.out.b.block _ (by rw [add_block]; exact hab))).trans this
  have hld : ∀ j v, [.int .i64 23, .int .i64 (i.dst : Int), .int .i64 (i.src : Int), .int .i64 i.off, .int .u32 (i.imm : Int)][j]? = some v → (W1.setCell ⟨w.heap.size + 1, 23, none⟩ (.int .i64 (s.at_ : Int))).cell? ((a.add (s.at_ * 5)).add j) = some v := fun j v hv => hld j v (by simp only [insCells, hop]; exact hv)
  have hu : ∀ W : World, Calls Try.prog 27 #[.int .i64 23] W fun e w' => e = .returned (.tuple #[.bool false, .bool false, .bool false, .bool true, .bool true]) ∧ W = w' := fun W => by
    have := uses_in W i.op hm.op1 hm.op2
    rw [hop] at this
    exact this
  have hdst := hm.dst
  have hsrc := hm.src
  have hdst' : (i.dst : Int) < 10 := by omega
  have hsrc' : (i.src : Int) < 10 := by omega
  have ho1 := hm.off1
  have ho2 := hm.off2
  have him := hm.imm
  have hrd := H.ok.reg i.dst
  have hrs := H.ok.reg i.src
  have HOK := Lib.hid H.ok
  have HH := Lib.hid H
  have hN4 := HG2.out.ins (by rw [← HZ1.out]; simp [World.setCell]) i
  rw [hop] at hN4
  have HN4 := Lib.hid hN4; clear hN4
  have HLD := Lib.hid hld; clear hld
  have HCL := Lib.hid hcl; clear hcl
  have HU := Lib.hid hu; clear hu
  have HOP := Lib.hid hop; clear hop
  have HM := Lib.hid hm; clear hm
  have HI := Lib.hid hi; clear hi
  have hwi : IntKind.i64.wrap (i.imm : Int) = (i.imm : Int) := IntWalk.i64_in _ (by omega)
  clear H
  go_enter Try.func26, Try.ntmps26
  go_upto_region 1 with fail
  rw [← HW1.out]
  go_upto_region 5 with (refine wpList_value (.agg #[.int .i64 23, .int .i64 (i.dst : Int), .int .i64 (i.src : Int), .int .i64 i.off, .int .u32 (i.imm : Int)]) rfl (exec_load_at 50 (.tmp 38) rfl (a.add (s.at_ * 5)) rfl ([.int .i64 23, .int .i64 (i.dst : Int), .int .i64 (i.src : Int), .int .i64 i.off, .int .u32 (i.imm : Int)]) _ HLD.out Try.underlying50 rfl size_ins) ?_)
  clear c0 c23 f23 c1
  generalize hW4 : (W1.setCell ⟨w.heap.size + 1, 23, none⟩ (.int .i64 (s.at_ : Int))).alloc (.cells #[.int .i64 23, .int .i64 (i.dst : Int), .int .i64 (i.src : Int), .int .i64 i.off, .int .u32 (i.imm : Int)] 50) = W4 at HN4
  rw [HZ1.out]
  have i0 : W4.cell? ⟨w.heap.size + 3, 0, none⟩ = some (.int .i64 23) := (by have := HN4.out.n.cells.1; rw [HOP.out] at this; exact this)
  have i1 := HN4.out.n.cells.2.1
  have i2 := HN4.out.n.cells.2.2.1
  have i3 := HN4.out.n.cells.2.2.2.1
  have i4 := HN4.out.n.cells.2.2.2.2
  have s0 : W4.cell? ⟨w.heap.size + 1, 0, none⟩ = some (.int .i64 (s.at_ : Int)) := HN4.out.g.s.cell 0 (by omega)
  have sd : W4.cell? ⟨w.heap.size + 1, 1 + i.dst, none⟩ = some (.bool (s.set i.dst)) := by rw [HN4.out.g.s.cell (1 + i.dst) (by omega), stF_set _ _ _ _ hdst]; rfl
  have ss : W4.cell? ⟨w.heap.size + 1, 1 + i.src, none⟩ = some (.bool (s.set i.src)) := by rw [HN4.out.g.s.cell (1 + i.src) (by omega), stF_set _ _ _ _ hsrc]; rfl
  have sz : W4.cell? ⟨w.heap.size + 1, 1, none⟩ = some (.bool (s.set 0)) := HN4.out.g.s.cell 1 (by omega)
  go_upto_region 10 with (go_at_call 27; (with_reducible refine (HU.out _).mono ?_); rintro e w' ⟨rfl, rfl⟩)
  clear i0 i1 i2 i3 i4 s0 sd ss sz
  refine wp_region_noPanic ?_
  refine plan (.rd 0 (.rd 1 (.rd 2 (.rd 3 (.rd 4 (.rd 5 (.rd 6 (.rd 7 (.rd 8 (.rd 9 (.rd 10 (.rd 11 .done)))))))))))) [0, 1, 2, 3, 4, 5, 6, 7, 8, 9, 10, 11] (fun W => S4 w (.int .i64 ctx) (.slice (some a) pr.length ic) (stF (.slice KA s.calls.length kc) s.mark false) i W) (by kernel_rfl) (by kernel_rfl) (fun _ _ _ _ _ h => h) HN4.out.drewp ?_
  repeat (refine pl_pure rfl (fun K hK => ?_); go_simp; refine hK _ ?_; clear hK K)
  refine pl_rd (.int .i64 (i.dst : Int)) rfl rfl (fun W hS => ?_) (fun K hK => ?_)
  · have f0 := hS.n.cells.2.1
    simp [go_sem, f0]
  go_simp
  refine hK _ ?_
  clear hK K
  repeat (refine pl_pure rfl (fun K hK => ?_); go_simp; refine hK _ ?_; clear hK K)
  refine pl_rd (.int .i64 (s.reg i.dst : Int)) rfl rfl (fun W hS => ?_) (fun K hK => ?_)
  · have f0 : W.cell? ⟨w.heap.size + 1, 11 + i.dst, none⟩ = some (.int .i64 (s.reg i.dst : Int)) := by rw [hS.g.s.cell (11 + i.dst) (by omega), stF_reg _ _ _ _ hdst]; rfl
    simp [go_sem, f0]
  go_simp
  refine hK _ ?_
  clear hK K
  repeat (refine pl_pure rfl (fun K hK => ?_); go_simp; refine hK _ ?_; clear hK K)
  refine pl_rd (.int .i64 (i.src : Int)) rfl rfl (fun W hS => ?_) (fun K hK => ?_)
  · have f0 := hS.n.cells.2.2.1
    simp [go_sem, f0]
  go_simp
  refine hK _ ?_
  clear hK K
  repeat (refine pl_pure rfl (fun K hK => ?_); go_simp; refine hK _ ?_; clear hK K)
  refine pl_rd (.int .i64 (s.reg i.src : Int)) rfl rfl (fun W hS => ?_) (fun K hK => ?_)
  · have f0 : W.cell? ⟨w.heap.size + 1, 11 + i.src, none⟩ = some (.int .i64 (s.reg i.src : Int)) := by rw [hS.g.s.cell (11 + i.src) (by omega), stF_reg _ _ _ _ hsrc]; rfl
    simp [go_sem, f0]
  go_simp
  refine hK _ ?_
  clear hK K
  repeat (refine pl_pure rfl (fun K hK => ?_); go_simp; refine hK _ ?_; clear hK K)
  refine pl_done ?_
  refine NoPanic.normal ?_
  have HN5 := Lib.hid HN4.out.drewp
  generalize hW5 : W4.drew = W5 at HN5 ⊢
  clear hW5
  have i0 : W5.cell? ⟨w.heap.size + 3, 0, none⟩ = some (.int .i64 23) := (by have := HN5.out.n.cells.1; rw [HOP.out] at this; exact this)
  have i1 := HN5.out.n.cells.2.1
  have i2 := HN5.out.n.cells.2.2.1
  have i3 := HN5.out.n.cells.2.2.2.1
  have i4 := HN5.out.n.cells.2.2.2.2
  have s0 : W5.cell? ⟨w.heap.size + 1, 0, none⟩ = some (.int .i64 (s.at_ : Int)) := HN5.out.g.s.cell 0 (by omega)
  go_upto_region 35 with fail
  clear s0
  have HCR := Lib.hid (show ∀ W : World, Below w.heap.size w W → Calls Try.prog 36 #[.agg (stL (.slice KA s.calls.length kc) s.mark false).toArray, .int .i64 (i.imm : Int), .slice A ans.length ca] W (CallPost W s.mark false i.imm ans) from fun W hW =>
    callr_ok W KA kc s.mark false i.imm ⟨HH.out.ok.reg, HH.out.ok.scr⟩ HH.out.un ((HH.out.sl.mono (fun _ _ _ => trivial)).move (Mv.of_below hW Any)) HH.out.cl A ca ans (Sl.move HH.out.an (Mv.of_below hW Any)) HH.out.anl HH.out.anv)
  refine wp_region_list ?_
  refine wpList_load_mid rfl 83 (.tmp 7) rfl (w.heap.size + 1) 0 rfl (stL (.slice KA s.calls.length kc) s.mark false) _ HN5.out.g.s.range Try.underlying83 rfl (by rw [stL_length]; exact info_state) ?_
  go_upto_region 39 with (first | (go_at_call 36; (with_reducible refine (HCR.out _ HN5.out.g.b).mono ?_); rintro e w6 ⟨A9, c9, rfl, hown9, hb9⟩; have HO9 := Lib.hid hown9; have HN6 := Lib.hid (HN5.out.more hb9); clear hown9 hb9) | (refine wpList_store_mid rfl 83 (.tmp 7) (.tmp 239) rfl (w.heap.size + 1) 0 (stL (.slice A9 (s.calls.length + 1) c9) (s.mark.call i.imm ans) false).toArray rfl rfl (by rw [stA_size]; exact there_blk HN6.out.g.s) (by rw [stA_size]; exact info_state) (stL_one _ rfl _ _) ?_))
  have hk6 : Kp (fun b => b = w.heap.size + 1) w6 (w6.setCells (w.heap.size + 1) 0 (stL (.slice A9 (s.calls.length + 1) c9) (s.mark.call i.imm ans) false).toArray.toList) := Kp.setCells (M := fun b => b = w.heap.size + 1) (.inl rfl) _ _ _ (Kp.refl _ _)
  have HN7 : Hid (S4 w (.int .i64 ctx) (.slice (some a) pr.length ic) (stF (.slice A9 (s.calls.length + 1) c9) (s.mark.call i.imm ans) false) i (w6.setCells (w.heap.size + 1) 0 (stL (.slice A9 (s.calls.length + 1) c9) (s.mark.call i.imm ans) false).toArray.toList)) := Lib.hid (HN6.out.fill (stF (.slice A9 (s.calls.length + 1) c9) (s.mark.call i.imm ans) false))
  clear i0 i1 i2 i3 i4
  generalize hW7 : w6.setCells (w.heap.size + 1) 0 (stL (.slice A9 (s.calls.length + 1) c9) (s.mark.call i.imm ans) false).toArray.toList = W7 at HN7 hk6 ⊢
  clear hW7
  have hz5 : w.heap.size + 3 ≤ W5.heap.size := HN5.out.g.z
  have HO7 := Lib.hid (own_move HO9.out (fun k hk hlt => hk6.block k hlt (fun e => by have := (HO9.out.lt k hk).1; omega)))
  have ecl : ((s.mark.call i.imm ans).next 0).calls.length = s.calls.length + 1 := by simp [Vm.next, Vm.call, Vm.mark]
  have HE := Lib.hid ecl; clear ecl hk6
  have c0 : W7.cell? ⟨w.heap.size + 1, 0, none⟩ = some (.int .i64 (s.at_ : Int)) := HN7.out.g.s.cell 0 (by omega)
  have c21 : W7.cell? ⟨w.heap.size + 1, 21, none⟩ = some (.int .i64 (s.steps : Int)) := HN7.out.g.s.cell 21 (by omega)
  have f0 := HN7.out.g.s.frozen 0
  have f21 := HN7.out.g.s.frozen 21
  have hat9 := HH.out.at_
  have hst9 := HH.out.st
  have HN8 := Lib.hid (((HN7.out.put 21 (.int .i64 ((s.steps : Int) + 1))).put 0 (.int .i64 ((s.at_ : Int) + 1))).congr (stF_next (.slice A9 (s.calls.length + 1) c9) (s.mark.call i.imm ans) false 0 ((s.at_ : Int) + 1) (by simp only [Vm.next]; show _ = (((s.at_ : Int) + (1 + _)).toNat : Int); omega)))
  go_upto_region 41 with fail
  generalize hW8 : (W7.setCell ⟨w.heap.size + 1, 21, none⟩ (.int .i64 ((s.steps : Int) + 1))).setCell ⟨w.heap.size + 1, 0, none⟩ (.int .i64 ((s.at_ : Int) + 1)) = W8 at HN8 ⊢
  have HW8 := Lib.hid hW8; clear hW8 c0 c21 f0 f21
  obtain ⟨HT9, W10, HW10, HR10, HK10, HB10⟩ := HN8.out.g.done (stL (.slice A9 (s.calls.length + 1) c9) ((s.mark.call i.imm ans).next 0) false) (stL_length _ _ _)
  refine wp_region_list ?_
  refine wpList_load_mid rfl 83 (.tmp 7) rfl (w.heap.size + 1) 0 rfl (stL (.slice A9 (s.calls.length + 1) c9) ((s.mark.call i.imm ans).next 0) false) _ HN8.out.g.s.range Try.underlying83 rfl (by rw [stL_length]; exact info_state) ?_
  refine wpList_store_mid rfl 83 (.tmp 8) (.tmp 262) rfl (w.heap.size + 2) 0 (stL (.slice A9 (s.calls.length + 1) c9) ((s.mark.call i.imm ans).next 0) false).toArray rfl rfl (by rw [stA_size]; exact HT9.out) (by rw [stA_size]; exact info_state) (stL_one _ rfl _ _) ?_
  rw [← HW10.out]
  go_wp2
  exact bodyPost_ret (v := .agg (stL (.slice A9 (s.calls.length + 1) c9) ((s.mark.call i.imm ans).next 0) false).toArray) (results_cell1_range Try.results26 _ _ (w.heap.size + 2) 0 _ _ rfl HR10.out Try.underlying83 rfl (by rw [stL_length]; exact info_state)) rfl ⟨A9, c9, by rw [HE.out], by rw [HE.out]; exact call_rd HO7.out hz5 HW8.out HK10.out, HB10.out⟩

end Go.Proofs.Ytpnkbpjhbmacaaa
