/- The document's run: a step (b16n b16p b17n b17p b18n b18p ldc sts). -/
import Derived.Test.YtpnkbpjhbmacaaaRv11
set_option linter.unusedVariables false
set_option linter.unusedSimpArgs false
namespace Go.Proofs.Ytpnkbpjhbmacaaa
open Go.RowKit

set_option maxRecDepth 100000 in
set_option maxHeartbeats 8000000 in
theorem stepr_b16n {w : World} {okc : Nat → Prop} {KA : Option Addr} {kc : Nat} {s : Vm} {IA : Option Addr} {ic : Nat} {pr : List Ins8} {CA : Option Addr} {cc : Nat} {cx : List UInt8} {A : Option Addr} {ca : Nat} {ans : List Nat} (ctx : Int) (H : StepIn w okc KA kc s IA ic pr CA cc cx A ca ans) (i : Ins8) (hi : pr[s.at_]? = some i) (hm : i.May) (hop : i.op = 16) (hss : s.set i.src = true) (hpl : (s.reg i.src : Int) + i.off < 0) :
    Calls Try.prog 26 #[.agg #[.int .i64 ctx, .slice IA pr.length ic], .slice CA cx.length cc, .slice A ans.length ca, .agg (stL (.slice KA s.calls.length kc) s false).toArray] w (StepPost w okc (s.mark.fall 4) true) := by
  obtain ⟨L, hL⟩ : ∃ L, L = (stL (.slice KA s.calls.length kc) s false).toArray := ⟨_, rfl⟩
  obtain ⟨W1, hW1⟩ : ∃ W1, W1 = ((w.alloc (.cells #[.int .i64 ctx, .slice IA pr.length ic] 24)).alloc (.cells L 83)).alloc (.cells Try.zeroCells83 83) := ⟨_, rfl⟩
  have G1 : S3 w (.int .i64 ctx) (.slice IA pr.length ic) (stF (.slice KA s.calls.length kc) s false) W1 := by rw [hW1, hL]; exact S3.start w _ _ _ _ size_state
  have hz1 : W1.heap.size = w.heap.size + 3 := by rw [hW1]; simp
  have HZ1 := Lib.hid hz1; clear hz1
  have c0 : W1.cell? ⟨w.heap.size + 1, 0, none⟩ = some (.int .i64 (s.at_ : Int)) := G1.s.cell 0 (by omega)
  have c23 := G1.s.cell 23 (by omega)
  have f23 := G1.s.frozen 23
  have c1 := G1.p1
  have G2 := (G1.put 23 (.int .i64 (s.at_ : Int))).congr (stF_mark (.slice KA s.calls.length kc) s false)
  have HG2 := Lib.hid G2; clear G2
  have HG1 := Lib.hid G1; clear G1
  rw [← hL]
  clear hL
  have HW1 := Lib.hid hW1; clear hW1
  obtain ⟨hat, _⟩ := List.getElem?_eq_some_iff.1 hi
  have hat' : (s.at_ : Int) < pr.length := by omega
  obtain ⟨a, rfl, _, hab, hcl⟩ := H.ins.at_ (j := s.at_ * 5) (by have := Nat.mul_lt_mul_of_pos_right hat (show 0 < 5 by omega); exact this)
  have hld : ∀ j v, (insCells i)[j]? = some v → (W1.setCell ⟨w.heap.size + 1, 23, none⟩ (.int .i64 (s.at_ : Int))).cell? ((a.add (s.at_ * 5)).add j) = some v := fun j v hv => by
    have hj : j < 5 := by
      rcases Nat.lt_or_ge j 5 with h | h
      · exact h
      · rw [List.getElem?_eq_none (by simpa [insCells] using h)] at hv; cases hv
    rw [add_add]
    have := hcl (s.at_ * 5 + j) v (by rw [ins_cells pr s.at_ j i hi hj]; exact hv)
    exact (World.cell?_of_block (HG2.out.b.block _ (by rw [add_block]; exact hab))).trans this
  have hld : ∀ j v, [.int .i64 16, .int .i64 (i.dst : Int), .int .i64 (i.src : Int), .int .i64 i.off, .int .u32 (i.imm : Int)][j]? = some v → (W1.setCell ⟨w.heap.size + 1, 23, none⟩ (.int .i64 (s.at_ : Int))).cell? ((a.add (s.at_ * 5)).add j) = some v := fun j v hv => hld j v (by simp only [insCells, hop]; exact hv)
  have hu : ∀ W : World, Calls Try.prog 27 #[.int .i64 16] W fun e w' => e = .returned (.tuple #[.bool true, .bool true, .bool true, .bool false, .bool true]) ∧ W = w' := fun W => by
    have := uses_in W i.op hm.op1 hm.op2
    rw [hop] at this
    exact this
  have hdst := hm.dst
  have hsrc := hm.src
  have hdst' : (i.dst : Int) < 10 := by omega
  have hsrc' : (i.src : Int) < 10 := by omega
  have ho1 := hm.off1
  have ho2 := hm.off2
  have him := hm.imm
  have hrd := H.ok.reg i.dst
  have hrs := H.ok.reg i.src
  have HOK := Lib.hid H.ok
  have HH := Lib.hid H
  have hN4 := HG2.out.ins (by rw [← HZ1.out]; simp [World.setCell]) i
  rw [hop] at hN4
  have HN4 := Lib.hid hN4; clear hN4
  have HLD := Lib.hid hld; clear hld
  have HCL := Lib.hid hcl; clear hcl
  have HU := Lib.hid hu; clear hu
  have HOP := Lib.hid hop; clear hop
  have HM := Lib.hid hm; clear hm
  have HI := Lib.hid hi; clear hi
  have hpd : decide ((s.reg i.src : Int) + i.off < 0) = true := by simp; omega
  clear H
  go_enter Try.func26, Try.ntmps26
  go_upto_region 1 with fail
  rw [← HW1.out]
  go_upto_region 5 with (refine wpList_value (.agg #[.int .i64 16, .int .i64 (i.dst : Int), .int .i64 (i.src : Int), .int .i64 i.off, .int .u32 (i.imm : Int)]) rfl (exec_load_at 50 (.tmp 38) rfl (a.add (s.at_ * 5)) rfl ([.int .i64 16, .int .i64 (i.dst : Int), .int .i64 (i.src : Int), .int .i64 i.off, .int .u32 (i.imm : Int)]) _ HLD.out Try.underlying50 rfl size_ins) ?_)
  clear c0 c23 f23 c1
  generalize hW4 : (W1.setCell ⟨w.heap.size + 1, 23, none⟩ (.int .i64 (s.at_ : Int))).alloc (.cells #[.int .i64 16, .int .i64 (i.dst : Int), .int .i64 (i.src : Int), .int .i64 i.off, .int .u32 (i.imm : Int)] 50) = W4 at HN4
  rw [HZ1.out]
  have i0 : W4.cell? ⟨w.heap.size + 3, 0, none⟩ = some (.int .i64 16) := (by have := HN4.out.n.cells.1; rw [HOP.out] at this; exact this)
  have i1 := HN4.out.n.cells.2.1
  have i2 := HN4.out.n.cells.2.2.1
  have i3 := HN4.out.n.cells.2.2.2.1
  have i4 := HN4.out.n.cells.2.2.2.2
  have s0 : W4.cell? ⟨w.heap.size + 1, 0, none⟩ = some (.int .i64 (s.at_ : Int)) := HN4.out.g.s.cell 0 (by omega)
  have sd : W4.cell? ⟨w.heap.size + 1, 1 + i.dst, none⟩ = some (.bool (s.set i.dst)) := by rw [HN4.out.g.s.cell (1 + i.dst) (by omega), stF_set _ _ _ _ hdst]; rfl
  have ss : W4.cell? ⟨w.heap.size + 1, 1 + i.src, none⟩ = some (.bool (s.set i.src)) := by rw [HN4.out.g.s.cell (1 + i.src) (by omega), stF_set _ _ _ _ hsrc]; rfl
  have sz : W4.cell? ⟨w.heap.size + 1, 1, none⟩ = some (.bool (s.set 0)) := HN4.out.g.s.cell 1 (by omega)
  go_upto_region 10 with (go_at_call 27; (with_reducible refine (HU.out _).mono ?_); rintro e w' ⟨rfl, rfl⟩)
  clear i0 i1 i2 i3 i4 s0 sd ss sz
  refine wp_region_noPanic ?_
  refine plan (.rd 0 (.rd 1 (.rd 2 (.rd 3 (.rd 4 (.rd 5 (.rd 6 (.rd 7 (.rd 8 (.rd 9 (.rd 10 (.rd 11 .done)))))))))))) [0, 1, 2, 3, 4, 5, 6, 7, 8, 9, 10, 11] (fun W => S4 w (.int .i64 ctx) (.slice (some a) pr.length ic) (stF (.slice KA s.calls.length kc) s.mark false) i W) (by kernel_rfl) (by kernel_rfl) (fun _ _ _ _ _ h => h) HN4.out.drewp ?_
  repeat (refine pl_pure rfl (fun K hK => ?_); go_simp; refine hK _ ?_; clear hK K)
  refine pl_rd (.int .i64 (i.dst : Int)) rfl rfl (fun W hS => ?_) (fun K hK => ?_)
  · have f0 := hS.n.cells.2.1
    simp [go_sem, f0]
  go_simp
  refine hK _ ?_
  clear hK K
  repeat (refine pl_pure rfl (fun K hK => ?_); go_simp; refine hK _ ?_; clear hK K)
  refine pl_rd (.int .i64 (s.reg i.dst : Int)) rfl rfl (fun W hS => ?_) (fun K hK => ?_)
  · have f0 : W.cell? ⟨w.heap.size + 1, 11 + i.dst, none⟩ = some (.int .i64 (s.reg i.dst : Int)) := by rw [hS.g.s.cell (11 + i.dst) (by omega), stF_reg _ _ _ _ hdst]; rfl
    simp [go_sem, f0]
  go_simp
  refine hK _ ?_
  clear hK K
  repeat (refine pl_pure rfl (fun K hK => ?_); go_simp; refine hK _ ?_; clear hK K)
  refine pl_rd (.int .i64 (i.src : Int)) rfl rfl (fun W hS => ?_) (fun K hK => ?_)
  · have f0 := hS.n.cells.2.2.1
    simp [go_sem, f0]
  go_simp
  refine hK _ ?_
  clear hK K
  repeat (refine pl_pure rfl (fun K hK => ?_); go_simp; refine hK _ ?_; clear hK K)
  refine pl_rd (.int .i64 (s.reg i.src : Int)) rfl rfl (fun W hS => ?_) (fun K hK => ?_)
  · have f0 : W.cell? ⟨w.heap.size + 1, 11 + i.src, none⟩ = some (.int .i64 (s.reg i.src : Int)) := by rw [hS.g.s.cell (11 + i.src) (by omega), stF_reg _ _ _ _ hsrc]; rfl
    simp [go_sem, f0]
  go_simp
  refine hK _ ?_
  clear hK K
  repeat (refine pl_pure rfl (fun K hK => ?_); go_simp; refine hK _ ?_; clear hK K)
  refine pl_done ?_
  refine NoPanic.normal ?_
  have HN5 := Lib.hid HN4.out.drewp
  generalize hW5 : W4.drew = W5 at HN5 ⊢
  clear hW5
  have i0 : W5.cell? ⟨w.heap.size + 3, 0, none⟩ = some (.int .i64 16) := (by have := HN5.out.n.cells.1; rw [HOP.out] at this; exact this)
  have i1 := HN5.out.n.cells.2.1
  have i2 := HN5.out.n.cells.2.2.1
  have i3 := HN5.out.n.cells.2.2.2.1
  have i4 := HN5.out.n.cells.2.2.2.2
  have s0 : W5.cell? ⟨w.heap.size + 1, 0, none⟩ = some (.int .i64 (s.at_ : Int)) := HN5.out.g.s.cell 0 (by omega)
  go_upto_region 22 with fail
  clear i0 i1 i2 i3 i4 s0
  have HF := Lib.hid (show ∀ W : World, Calls Try.prog 33 #[.agg (stL (.slice KA s.calls.length kc) s.mark false).toArray, .int .i64 4] W fun e w' => e = .returned (.agg (stL (.slice KA s.calls.length kc) (s.mark.fall 4) true).toArray) ∧ Below W.heap.size W w' from fun W => faultsr_ok W (.slice KA s.calls.length kc) rfl s.mark false 4)
  refine wp_region_list ?_
  refine wpList_load_mid rfl 83 (.tmp 7) rfl (w.heap.size + 1) 0 rfl (stL (.slice KA s.calls.length kc) s.mark false) _ HN5.out.g.s.range Try.underlying83 rfl (by rw [stL_length]; exact info_state) ?_
  go_wp2_with (first | (go_at_call 33; (with_reducible refine (HF.out _).mono ?_); rintro e w9 ⟨rfl, hb9⟩; have HB9 := Lib.hid hb9; clear hb9; have HG9 := Lib.hid (HN5.out.g.more HB9.out); obtain ⟨HT9, W10, HW10, HR10, HK10, HB10⟩ := HG9.out.done (stL (.slice KA s.calls.length kc) (s.mark.fall 4) true) (stL_length _ _ _)) | (refine wpList_store_mid rfl 83 (.tmp 8) (.tmp 157) rfl (w.heap.size + 2) 0 (stL (.slice KA s.calls.length kc) (s.mark.fall 4) true).toArray rfl rfl (by rw [stA_size]; exact HT9.out) (by rw [stA_size]; exact info_state) (stL_one _ rfl _ _) ?_; rw [← HW10.out]))
  exact bodyPost_ret (v := .agg (stL (.slice KA s.calls.length kc) (s.mark.fall 4) true).toArray) (results_cell1_range Try.results26 _ _ (w.heap.size + 2) 0 _ _ rfl HR10.out Try.underlying83 rfl (by rw [stL_length]; exact info_state)) rfl ⟨KA, kc, rfl, (HH.out.sl.move (Mv.of_below HB10.out okc)).mono (fun _ _ h => .inl h), HB10.out⟩

set_option maxRecDepth 100000 in
set_option maxHeartbeats 8000000 in
theorem stepr_b16p {w : World} {okc : Nat → Prop} {KA : Option Addr} {kc : Nat} {s : Vm} {IA : Option Addr} {ic : Nat} {pr : List Ins8} {CA : Option Addr} {cc : Nat} {cx : List UInt8} {A : Option Addr} {ca : Nat} {ans : List Nat} (ctx : Int) (H : StepIn w okc KA kc s IA ic pr CA cc cx A ca ans) (i : Ins8) (hi : pr[s.at_]? = some i) (hm : i.May) (hop : i.op = 16) (hss : s.set i.src = true) (hpl : 0 ≤ (s.reg i.src : Int) + i.off) (hph : (cx.length : Int) ≤ (s.reg i.src : Int) + i.off) :
    Calls Try.prog 26 #[.agg #[.int .i64 ctx, .slice IA pr.length ic], .slice CA cx.length cc, .slice A ans.length ca, .agg (stL (.slice KA s.calls.length kc) s false).toArray] w (StepPost w okc (s.mark.fall 4) true) := by
  obtain ⟨L, hL⟩ : ∃ L, L = (stL (.slice KA s.calls.length kc) s false).toArray := ⟨_, rfl⟩
  obtain ⟨W1, hW1⟩ : ∃ W1, W1 = ((w.alloc (.cells #[.int .i64 ctx, .slice IA pr.length ic] 24)).alloc (.cells L 83)).alloc (.cells Try.zeroCells83 83) := ⟨_, rfl⟩
  have G1 : S3 w (.int .i64 ctx) (.slice IA pr.length ic) (stF (.slice KA s.calls.length kc) s false) W1 := by rw [hW1, hL]; exact S3.start w _ _ _ _ size_state
  have hz1 : W1.heap.size = w.heap.size + 3 := by rw [hW1]; simp
  have HZ1 := Lib.hid hz1; clear hz1
  have c0 : W1.cell? ⟨w.heap.size + 1, 0, none⟩ = some (.int .i64 (s.at_ : Int)) := G1.s.cell 0 (by omega)
  have c23 := G1.s.cell 23 (by omega)
  have f23 := G1.s.frozen 23
  have c1 := G1.p1
  have G2 := (G1.put 23 (.int .i64 (s.at_ : Int))).congr (stF_mark (.slice KA s.calls.length kc) s false)
  have HG2 := Lib.hid G2; clear G2
  have HG1 := Lib.hid G1; clear G1
  rw [← hL]
  clear hL
  have HW1 := Lib.hid hW1; clear hW1
  obtain ⟨hat, _⟩ := List.getElem?_eq_some_iff.1 hi
  have hat' : (s.at_ : Int) < pr.length := by omega
  obtain ⟨a, rfl, _, hab, hcl⟩ := H.ins.at_ (j := s.at_ * 5) (by have := Nat.mul_lt_mul_of_pos_right hat (show 0 < 5 by omega); exact this)
  have hld : ∀ j v, (insCells i)[j]? = some v → (W1.setCell ⟨w.heap.size + 1, 23, none⟩ (.int .i64 (s.at_ : Int))).cell? ((a.add (s.at_ * 5)).add j) = some v := fun j v hv => by
    have hj : j < 5 := by
      rcases Nat.lt_or_ge j 5 with h | h
      · exact h
      · rw [List.getElem?_eq_none (by simpa [insCells] using h)] at hv; cases hv
    rw [add_add]
    have := hcl (s.at_ * 5 + j) v (by rw [ins_cells pr s.at_ j i hi hj]; exact hv)
    exact (World.cell?_of_block (HG2.out.b.block _ (by rw [add_block]; exact hab))).trans this
  have hld : ∀ j v, [.int .i64 16, .int .i64 (i.dst : Int), .int .i64 (i.src : Int), .int .i64 i.off, .int .u32 (i.imm : Int)][j]? = some v → (W1.setCell ⟨w.heap.size + 1, 23, none⟩ (.int .i64 (s.at_ : Int))).cell? ((a.add (s.at_ * 5)).add j) = some v := fun j v hv => hld j v (by simp only [insCells, hop]; exact hv)
  have hu : ∀ W : World, Calls Try.prog 27 #[.int .i64 16] W fun e w' => e = .returned (.tuple #[.bool true, .bool true, .bool true, .bool false, .bool true]) ∧ W = w' := fun W => by
    have := uses_in W i.op hm.op1 hm.op2
    rw [hop] at this
    exact this
  have hdst := hm.dst
  have hsrc := hm.src
  have hdst' : (i.dst : Int) < 10 := by omega
  have hsrc' : (i.src : Int) < 10 := by omega
  have ho1 := hm.off1
  have ho2 := hm.off2
  have him := hm.imm
  have hrd := H.ok.reg i.dst
  have hrs := H.ok.reg i.src
  have HOK := Lib.hid H.ok
  have HH := Lib.hid H
  have hN4 := HG2.out.ins (by rw [← HZ1.out]; simp [World.setCell]) i
  rw [hop] at hN4
  have HN4 := Lib.hid hN4; clear hN4
  have HLD := Lib.hid hld; clear hld
  have HCL := Lib.hid hcl; clear hcl
  have HU := Lib.hid hu; clear hu
  have HOP := Lib.hid hop; clear hop
  have HM := Lib.hid hm; clear hm
  have HI := Lib.hid hi; clear hi
  obtain ⟨p, hp⟩ := Int.eq_ofNat_of_zero_le hpl
  have hp2 : (s.reg i.src : Int) + i.off = (p : Int) := hp
  have hp3 : ¬ p < cx.length := by omega
  have hp4 : (cx.length : Int) ≤ (p : Int) := by omega
  have hp5 : cx.length ≤ p := by omega
  clear hpl hph hp
  clear H
  go_enter Try.func26, Try.ntmps26
  go_upto_region 1 with fail
  rw [← HW1.out]
  go_upto_region 5 with (refine wpList_value (.agg #[.int .i64 16, .int .i64 (i.dst : Int), .int .i64 (i.src : Int), .int .i64 i.off, .int .u32 (i.imm : Int)]) rfl (exec_load_at 50 (.tmp 38) rfl (a.add (s.at_ * 5)) rfl ([.int .i64 16, .int .i64 (i.dst : Int), .int .i64 (i.src : Int), .int .i64 i.off, .int .u32 (i.imm : Int)]) _ HLD.out Try.underlying50 rfl size_ins) ?_)
  clear c0 c23 f23 c1
  generalize hW4 : (W1.setCell ⟨w.heap.size + 1, 23, none⟩ (.int .i64 (s.at_ : Int))).alloc (.cells #[.int .i64 16, .int .i64 (i.dst : Int), .int .i64 (i.src : Int), .int .i64 i.off, .int .u32 (i.imm : Int)] 50) = W4 at HN4
  rw [HZ1.out]
  have i0 : W4.cell? ⟨w.heap.size + 3, 0, none⟩ = some (.int .i64 16) := (by have := HN4.out.n.cells.1; rw [HOP.out] at this; exact this)
  have i1 := HN4.out.n.cells.2.1
  have i2 := HN4.out.n.cells.2.2.1
  have i3 := HN4.out.n.cells.2.2.2.1
  have i4 := HN4.out.n.cells.2.2.2.2
  have s0 : W4.cell? ⟨w.heap.size + 1, 0, none⟩ = some (.int .i64 (s.at_ : Int)) := HN4.out.g.s.cell 0 (by omega)
  have sd : W4.cell? ⟨w.heap.size + 1, 1 + i.dst, none⟩ = some (.bool (s.set i.dst)) := by rw [HN4.out.g.s.cell (1 + i.dst) (by omega), stF_set _ _ _ _ hdst]; rfl
  have ss : W4.cell? ⟨w.heap.size + 1, 1 + i.src, none⟩ = some (.bool (s.set i.src)) := by rw [HN4.out.g.s.cell (1 + i.src) (by omega), stF_set _ _ _ _ hsrc]; rfl
  have sz : W4.cell? ⟨w.heap.size + 1, 1, none⟩ = some (.bool (s.set 0)) := HN4.out.g.s.cell 1 (by omega)
  go_upto_region 10 with (go_at_call 27; (with_reducible refine (HU.out _).mono ?_); rintro e w' ⟨rfl, rfl⟩)
  clear i0 i1 i2 i3 i4 s0 sd ss sz
  refine wp_region_noPanic ?_
  refine plan (.rd 0 (.rd 1 (.rd 2 (.rd 3 (.rd 4 (.rd 5 (.rd 6 (.rd 7 (.rd 8 (.rd 9 (.rd 10 (.rd 11 .done)))))))))))) [0, 1, 2, 3, 4, 5, 6, 7, 8, 9, 10, 11] (fun W => S4 w (.int .i64 ctx) (.slice (some a) pr.length ic) (stF (.slice KA s.calls.length kc) s.mark false) i W) (by kernel_rfl) (by kernel_rfl) (fun _ _ _ _ _ h => h) HN4.out.drewp ?_
  repeat (refine pl_pure rfl (fun K hK => ?_); go_simp; refine hK _ ?_; clear hK K)
  refine pl_rd (.int .i64 (i.dst : Int)) rfl rfl (fun W hS => ?_) (fun K hK => ?_)
  · have f0 := hS.n.cells.2.1
    simp [go_sem, f0]
  go_simp
  refine hK _ ?_
  clear hK K
  repeat (refine pl_pure rfl (fun K hK => ?_); go_simp; refine hK _ ?_; clear hK K)
  refine pl_rd (.int .i64 (s.reg i.dst : Int)) rfl rfl (fun W hS => ?_) (fun K hK => ?_)
  · have f0 : W.cell? ⟨w.heap.size + 1, 11 + i.dst, none⟩ = some (.int .i64 (s.reg i.dst : Int)) := by rw [hS.g.s.cell (11 + i.dst) (by omega), stF_reg _ _ _ _ hdst]; rfl
    simp [go_sem, f0]
  go_simp
  refine hK _ ?_
  clear hK K
  repeat (refine pl_pure rfl (fun K hK => ?_); go_simp; refine hK _ ?_; clear hK K)
  refine pl_rd (.int .i64 (i.src : Int)) rfl rfl (fun W hS => ?_) (fun K hK => ?_)
  · have f0 := hS.n.cells.2.2.1
    simp [go_sem, f0]
  go_simp
  refine hK _ ?_
  clear hK K
  repeat (refine pl_pure rfl (fun K hK => ?_); go_simp; refine hK _ ?_; clear hK K)
  refine pl_rd (.int .i64 (s.reg i.src : Int)) rfl rfl (fun W hS => ?_) (fun K hK => ?_)
  · have f0 : W.cell? ⟨w.heap.size + 1, 11 + i.src, none⟩ = some (.int .i64 (s.reg i.src : Int)) := by rw [hS.g.s.cell (11 + i.src) (by omega), stF_reg _ _ _ _ hsrc]; rfl
    simp [go_sem, f0]
  go_simp
  refine hK _ ?_
  clear hK K
  repeat (refine pl_pure rfl (fun K hK => ?_); go_simp; refine hK _ ?_; clear hK K)
  refine pl_done ?_
  refine NoPanic.normal ?_
  have HN5 := Lib.hid HN4.out.drewp
  generalize hW5 : W4.drew = W5 at HN5 ⊢
  clear hW5
  have i0 : W5.cell? ⟨w.heap.size + 3, 0, none⟩ = some (.int .i64 16) := (by have := HN5.out.n.cells.1; rw [HOP.out] at this; exact this)
  have i1 := HN5.out.n.cells.2.1
  have i2 := HN5.out.n.cells.2.2.1
  have i3 := HN5.out.n.cells.2.2.2.1
  have i4 := HN5.out.n.cells.2.2.2.2
  have s0 : W5.cell? ⟨w.heap.size + 1, 0, none⟩ = some (.int .i64 (s.at_ : Int)) := HN5.out.g.s.cell 0 (by omega)
  go_upto_region 22 with fail
  clear i0 i1 i2 i3 i4 s0
  have HF := Lib.hid (show ∀ W : World, Calls Try.prog 33 #[.agg (stL (.slice KA s.calls.length kc) s.mark false).toArray, .int .i64 4] W fun e w' => e = .returned (.agg (stL (.slice KA s.calls.length kc) (s.mark.fall 4) true).toArray) ∧ Below W.heap.size W w' from fun W => faultsr_ok W (.slice KA s.calls.length kc) rfl s.mark false 4)
  refine wp_region_list ?_
  refine wpList_load_mid rfl 83 (.tmp 7) rfl (w.heap.size + 1) 0 rfl (stL (.slice KA s.calls.length kc) s.mark false) _ HN5.out.g.s.range Try.underlying83 rfl (by rw [stL_length]; exact info_state) ?_
  go_wp2_with (first | (go_at_call 33; (with_reducible refine (HF.out _).mono ?_); rintro e w9 ⟨rfl, hb9⟩; have HB9 := Lib.hid hb9; clear hb9; have HG9 := Lib.hid (HN5.out.g.more HB9.out); obtain ⟨HT9, W10, HW10, HR10, HK10, HB10⟩ := HG9.out.done (stL (.slice KA s.calls.length kc) (s.mark.fall 4) true) (stL_length _ _ _)) | (refine wpList_store_mid rfl 83 (.tmp 8) (.tmp 157) rfl (w.heap.size + 2) 0 (stL (.slice KA s.calls.length kc) (s.mark.fall 4) true).toArray rfl rfl (by rw [stA_size]; exact HT9.out) (by rw [stA_size]; exact info_state) (stL_one _ rfl _ _) ?_; rw [← HW10.out]))
  exact bodyPost_ret (v := .agg (stL (.slice KA s.calls.length kc) (s.mark.fall 4) true).toArray) (results_cell1_range Try.results26 _ _ (w.heap.size + 2) 0 _ _ rfl HR10.out Try.underlying83 rfl (by rw [stL_length]; exact info_state)) rfl ⟨KA, kc, rfl, (HH.out.sl.move (Mv.of_below HB10.out okc)).mono (fun _ _ h => .inl h), HB10.out⟩

set_option maxRecDepth 100000 in
set_option maxHeartbeats 8000000 in
theorem stepr_b17n {w : World} {okc : Nat → Prop} {KA : Option Addr} {kc : Nat} {s : Vm} {IA : Option Addr} {ic : Nat} {pr : List Ins8} {CA : Option Addr} {cc : Nat} {cx : List UInt8} {A : Option Addr} {ca : Nat} {ans : List Nat} (ctx : Int) (H : StepIn w okc KA kc s IA ic pr CA cc cx A ca ans) (i : Ins8) (hi : pr[s.at_]? = some i) (hm : i.May) (hop : i.op = 17) (hss : s.set i.src = true) (hpl : (s.reg i.src : Int) + i.off < 0) :
    Calls Try.prog 26 #[.agg #[.int .i64 ctx, .slice IA pr.length ic], .slice CA cx.length cc, .slice A ans.length ca, .agg (stL (.slice KA s.calls.length kc) s false).toArray] w (StepPost w okc (s.mark.fall 4) true) := by
  obtain ⟨L, hL⟩ : ∃ L, L = (stL (.slice KA s.calls.length kc) s false).toArray := ⟨_, rfl⟩
  obtain ⟨W1, hW1⟩ : ∃ W1, W1 = ((w.alloc (.cells #[.int .i64 ctx, .slice IA pr.length ic] 24)).alloc (.cells L 83)).alloc (.cells Try.zeroCells83 83) := ⟨_, rfl⟩
  have G1 : S3 w (.int .i64 ctx) (.slice IA pr.length ic) (stF (.slice KA s.calls.length kc) s false) W1 := by rw [hW1, hL]; exact S3.start w _ _ _ _ size_state
  have hz1 : W1.heap.size = w.heap.size + 3 := by rw [hW1]; simp
  have HZ1 := Lib.hid hz1; clear hz1
  have c0 : W1.cell? ⟨w.heap.size + 1, 0, none⟩ = some (.int .i64 (s.at_ : Int)) := G1.s.cell 0 (by omega)
  have c23 := G1.s.cell 23 (by omega)
  have f23 := G1.s.frozen 23
  have c1 := G1.p1
  have G2 := (G1.put 23 (.int .i64 (s.at_ : Int))).congr (stF_mark (.slice KA s.calls.length kc) s false)
  have HG2 := Lib.hid G2; clear G2
  have HG1 := Lib.hid G1; clear G1
  rw [← hL]
  clear hL
  have HW1 := Lib.hid hW1; clear hW1
  obtain ⟨hat, _⟩ := List.getElem?_eq_some_iff.1 hi
  have hat' : (s.at_ : Int) < pr.length := by omega
  obtain ⟨a, rfl, _, hab, hcl⟩ := H.ins.at_ (j := s.at_ * 5) (by have := Nat.mul_lt_mul_of_pos_right hat (show 0 < 5 by omega); exact this)
  have hld : ∀ j v, (insCells i)[j]? = some v → (W1.setCell ⟨w.heap.size + 1, 23, none⟩ (.int .i64 (s.at_ : Int))).cell? ((a.add (s.at_ * 5)).add j) = some v := fun j v hv => by
    have hj : j < 5 := by
      rcases Nat.lt_or_ge j 5 with h | h
      · exact h
      · rw [List.getElem?_eq_none (by simpa [insCells] using h)] at hv; cases hv
    rw [add_add]
    have := hcl (s.at_ * 5 + j) v (by rw [ins_cells pr s.at_ j i hi hj]; exact hv)
    exact (World.cell?_of_block (HG2.out.b.block _ (by rw [add_block]; exact hab))).trans this
  have hld : ∀ j v, [.int .i64 17, .int .i64 (i.dst : Int), .int .i64 (i.src : Int), .int .i64 i.off, .int .u32 (i.imm : Int)][j]? = some v → (W1.setCell ⟨w.heap.size + 1, 23, none⟩ (.int .i64 (s.at_ : Int))).cell? ((a.add (s.at_ * 5)).add j) = some v := fun j v hv => hld j v (by simp only [insCells, hop]; exact hv)
  have hu : ∀ W : World, Calls Try.prog 27 #[.int .i64 17] W fun e w' => e = .returned (.tuple #[.bool true, .bool true, .bool true, .bool false, .bool true]) ∧ W = w' := fun W => by
    have := uses_in W i.op hm.op1 hm.op2
    rw [hop] at this
    exact this
  have hdst := hm.dst
  have hsrc := hm.src
  have hdst' : (i.dst : Int) < 10 := by omega
  have hsrc' : (i.src : Int) < 10 := by omega
  have ho1 := hm.off1
  have ho2 := hm.off2
  have him := hm.imm
  have hrd := H.ok.reg i.dst
  have hrs := H.ok.reg i.src
  have HOK := Lib.hid H.ok
  have HH := Lib.hid H
  have hN4 := HG2.out.ins (by rw [← HZ1.out]; simp [World.setCell]) i
  rw [hop] at hN4
  have HN4 := Lib.hid hN4; clear hN4
  have HLD := Lib.hid hld; clear hld
  have HCL := Lib.hid hcl; clear hcl
  have HU := Lib.hid hu; clear hu
  have HOP := Lib.hid hop; clear hop
  have HM := Lib.hid hm; clear hm
  have HI := Lib.hid hi; clear hi
  have hpd : decide ((s.reg i.src : Int) + i.off < 0) = true := by simp; omega
  clear H
  go_enter Try.func26, Try.ntmps26
  go_upto_region 1 with fail
  rw [← HW1.out]
  go_upto_region 5 with (refine wpList_value (.agg #[.int .i64 17, .int .i64 (i.dst : Int), .int .i64 (i.src : Int), .int .i64 i.off, .int .u32 (i.imm : Int)]) rfl (exec_load_at 50 (.tmp 38) rfl (a.add (s.at_ * 5)) rfl ([.int .i64 17, .int .i64 (i.dst : Int), .int .i64 (i.src : Int), .int .i64 i.off, .int .u32 (i.imm : Int)]) _ HLD.out Try.underlying50 rfl size_ins) ?_)
  clear c0 c23 f23 c1
  generalize hW4 : (W1.setCell ⟨w.heap.size + 1, 23, none⟩ (.int .i64 (s.at_ : Int))).alloc (.cells #[.int .i64 17, .int .i64 (i.dst : Int), .int .i64 (i.src : Int), .int .i64 i.off, .int .u32 (i.imm : Int)] 50) = W4 at HN4
  rw [HZ1.out]
  have i0 : W4.cell? ⟨w.heap.size + 3, 0, none⟩ = some (.int .i64 17) := (by have := HN4.out.n.cells.1; rw [HOP.out] at this; exact this)
  have i1 := HN4.out.n.cells.2.1
  have i2 := HN4.out.n.cells.2.2.1
  have i3 := HN4.out.n.cells.2.2.2.1
  have i4 := HN4.out.n.cells.2.2.2.2
  have s0 : W4.cell? ⟨w.heap.size + 1, 0, none⟩ = some (.int .i64 (s.at_ : Int)) := HN4.out.g.s.cell 0 (by omega)
  have sd : W4.cell? ⟨w.heap.size + 1, 1 + i.dst, none⟩ = some (.bool (s.set i.dst)) := by rw [HN4.out.g.s.cell (1 + i.dst) (by omega), stF_set _ _ _ _ hdst]; rfl
  have ss : W4.cell? ⟨w.heap.size + 1, 1 + i.src, none⟩ = some (.bool (s.set i.src)) := by rw [HN4.out.g.s.cell (1 + i.src) (by omega), stF_set _ _ _ _ hsrc]; rfl
  have sz : W4.cell? ⟨w.heap.size + 1, 1, none⟩ = some (.bool (s.set 0)) := HN4.out.g.s.cell 1 (by omega)
  go_upto_region 10 with (go_at_call 27; (with_reducible refine (HU.out _).mono ?_); rintro e w' ⟨rfl, rfl⟩)
  clear i0 i1 i2 i3 i4 s0 sd ss sz
  refine wp_region_noPanic ?_
  refine plan (.rd 0 (.rd 1 (.rd 2 (.rd 3 (.rd 4 (.rd 5 (.rd 6 (.rd 7 (.rd 8 (.rd 9 (.rd 10 (.rd 11 .done)))))))))))) [0, 1, 2, 3, 4, 5, 6, 7, 8, 9, 10, 11] (fun W => S4 w (.int .i64 ctx) (.slice (some a) pr.length ic) (stF (.slice KA s.calls.length kc) s.mark false) i W) (by kernel_rfl) (by kernel_rfl) (fun _ _ _ _ _ h => h) HN4.out.drewp ?_
  repeat (refine pl_pure rfl (fun K hK => ?_); go_simp; refine hK _ ?_; clear hK K)
  refine pl_rd (.int .i64 (i.dst : Int)) rfl rfl (fun W hS => ?_) (fun K hK => ?_)
  · have f0 := hS.n.cells.2.1
    simp [go_sem, f0]
  go_simp
  refine hK _ ?_
  clear hK K
  repeat (refine pl_pure rfl (fun K hK => ?_); go_simp; refine hK _ ?_; clear hK K)
  refine pl_rd (.int .i64 (s.reg i.dst : Int)) rfl rfl (fun W hS => ?_) (fun K hK => ?_)
  · have f0 : W.cell? ⟨w.heap.size + 1, 11 + i.dst, none⟩ = some (.int .i64 (s.reg i.dst : Int)) := by rw [hS.g.s.cell (11 + i.dst) (by omega), stF_reg _ _ _ _ hdst]; rfl
    simp [go_sem, f0]
  go_simp
  refine hK _ ?_
  clear hK K
  repeat (refine pl_pure rfl (fun K hK => ?_); go_simp; refine hK _ ?_; clear hK K)
  refine pl_rd (.int .i64 (i.src : Int)) rfl rfl (fun W hS => ?_) (fun K hK => ?_)
  · have f0 := hS.n.cells.2.2.1
    simp [go_sem, f0]
  go_simp
  refine hK _ ?_
  clear hK K
  repeat (refine pl_pure rfl (fun K hK => ?_); go_simp; refine hK _ ?_; clear hK K)
  refine pl_rd (.int .i64 (s.reg i.src : Int)) rfl rfl (fun W hS => ?_) (fun K hK => ?_)
  · have f0 : W.cell? ⟨w.heap.size + 1, 11 + i.src, none⟩ = some (.int .i64 (s.reg i.src : Int)) := by rw [hS.g.s.cell (11 + i.src) (by omega), stF_reg _ _ _ _ hsrc]; rfl
    simp [go_sem, f0]
  go_simp
  refine hK _ ?_
  clear hK K
  repeat (refine pl_pure rfl (fun K hK => ?_); go_simp; refine hK _ ?_; clear hK K)
  refine pl_done ?_
  refine NoPanic.normal ?_
  have HN5 := Lib.hid HN4.out.drewp
  generalize hW5 : W4.drew = W5 at HN5 ⊢
  clear hW5
  have i0 : W5.cell? ⟨w.heap.size + 3, 0, none⟩ = some (.int .i64 17) := (by have := HN5.out.n.cells.1; rw [HOP.out] at this; exact this)
  have i1 := HN5.out.n.cells.2.1
  have i2 := HN5.out.n.cells.2.2.1
  have i3 := HN5.out.n.cells.2.2.2.1
  have i4 := HN5.out.n.cells.2.2.2.2
  have s0 : W5.cell? ⟨w.heap.size + 1, 0, none⟩ = some (.int .i64 (s.at_ : Int)) := HN5.out.g.s.cell 0 (by omega)
  go_upto_region 22 with fail
  clear i0 i1 i2 i3 i4 s0
  have HF := Lib.hid (show ∀ W : World, Calls Try.prog 33 #[.agg (stL (.slice KA s.calls.length kc) s.mark false).toArray, .int .i64 4] W fun e w' => e = .returned (.agg (stL (.slice KA s.calls.length kc) (s.mark.fall 4) true).toArray) ∧ Below W.heap.size W w' from fun W => faultsr_ok W (.slice KA s.calls.length kc) rfl s.mark false 4)
  refine wp_region_list ?_
  refine wpList_load_mid rfl 83 (.tmp 7) rfl (w.heap.size + 1) 0 rfl (stL (.slice KA s.calls.length kc) s.mark false) _ HN5.out.g.s.range Try.underlying83 rfl (by rw [stL_length]; exact info_state) ?_
  go_wp2_with (first | (go_at_call 33; (with_reducible refine (HF.out _).mono ?_); rintro e w9 ⟨rfl, hb9⟩; have HB9 := Lib.hid hb9; clear hb9; have HG9 := Lib.hid (HN5.out.g.more HB9.out); obtain ⟨HT9, W10, HW10, HR10, HK10, HB10⟩ := HG9.out.done (stL (.slice KA s.calls.length kc) (s.mark.fall 4) true) (stL_length _ _ _)) | (refine wpList_store_mid rfl 83 (.tmp 8) (.tmp 157) rfl (w.heap.size + 2) 0 (stL (.slice KA s.calls.length kc) (s.mark.fall 4) true).toArray rfl rfl (by rw [stA_size]; exact HT9.out) (by rw [stA_size]; exact info_state) (stL_one _ rfl _ _) ?_; rw [← HW10.out]))
  exact bodyPost_ret (v := .agg (stL (.slice KA s.calls.length kc) (s.mark.fall 4) true).toArray) (results_cell1_range Try.results26 _ _ (w.heap.size + 2) 0 _ _ rfl HR10.out Try.underlying83 rfl (by rw [stL_length]; exact info_state)) rfl ⟨KA, kc, rfl, (HH.out.sl.move (Mv.of_below HB10.out okc)).mono (fun _ _ h => .inl h), HB10.out⟩

set_option maxRecDepth 100000 in
set_option maxHeartbeats 8000000 in
theorem stepr_b17p {w : World} {okc : Nat → Prop} {KA : Option Addr} {kc : Nat} {s : Vm} {IA : Option Addr} {ic : Nat} {pr : List Ins8} {CA : Option Addr} {cc : Nat} {cx : List UInt8} {A : Option Addr} {ca : Nat} {ans : List Nat} (ctx : Int) (H : StepIn w okc KA kc s IA ic pr CA cc cx A ca ans) (i : Ins8) (hi : pr[s.at_]? = some i) (hm : i.May) (hop : i.op = 17) (hss : s.set i.src = true) (hpl : 0 ≤ (s.reg i.src : Int) + i.off) (hph : (64 : Int) ≤ (s.reg i.src : Int) + i.off) :
    Calls Try.prog 26 #[.agg #[.int .i64 ctx, .slice IA pr.length ic], .slice CA cx.length cc, .slice A ans.length ca, .agg (stL (.slice KA s.calls.length kc) s false).toArray] w (StepPost w okc (s.mark.fall 4) true) := by
  obtain ⟨L, hL⟩ : ∃ L, L = (stL (.slice KA s.calls.length kc) s false).toArray := ⟨_, rfl⟩
  obtain ⟨W1, hW1⟩ : ∃ W1, W1 = ((w.alloc (.cells #[.int .i64 ctx, .slice IA pr.length ic] 24)).alloc (.cells L 83)).alloc (.cells Try.zeroCells83 83) := ⟨_, rfl⟩
  have G1 : S3 w (.int .i64 ctx) (.slice IA pr.length ic) (stF (.slice KA s.calls.length kc) s false) W1 := by rw [hW1, hL]; exact S3.start w _ _ _ _ size_state
  have hz1 : W1.heap.size = w.heap.size + 3 := by rw [hW1]; simp
  have HZ1 := Lib.hid hz1; clear hz1
  have c0 : W1.cell? ⟨w.heap.size + 1, 0, none⟩ = some (.int .i64 (s.at_ : Int)) := G1.s.cell 0 (by omega)
  have c23 := G1.s.cell 23 (by omega)
  have f23 := G1.s.frozen 23
  have c1 := G1.p1
  have G2 := (G1.put 23 (.int .i64 (s.at_ : Int))).congr (stF_mark (.slice KA s.calls.length kc) s false)
  have HG2 := Lib.hid G2; clear G2
  have HG1 := Lib.hid G1; clear G1
  rw [← hL]
  clear hL
  have HW1 := Lib.hid hW1; clear hW1
  obtain ⟨hat, _⟩ := List.getElem?_eq_some_iff.1 hi
  have hat' : (s.at_ : Int) < pr.length := by omega
  obtain ⟨a, rfl, _, hab, hcl⟩ := H.ins.at_ (j := s.at_ * 5) (by have := Nat.mul_lt_mul_of_pos_right hat (show 0 < 5 by omega); exact this)
  have hld : ∀ j v, (insCells i)[j]? = some v → (W1.setCell ⟨w.heap.size + 1, 23, none⟩ (.int .i64 (s.at_ : Int))).cell? ((a.add (s.at_ * 5)).add j) = some v := fun j v hv => by
    have hj : j < 5 := by
      rcases Nat.lt_or_ge j 5 with h | h
      · exact h
      · rw [List.getElem?_eq_none (by simpa [insCells] using h)] at hv; cases hv
    rw [add_add]
    have := hcl (s.at_ * 5 + j) v (by rw [ins_cells pr s.at_ j i hi hj]; exact hv)
    exact (World.cell?_of_block (HG2.out.b.block _ (by rw [add_block]; exact hab))).trans this
  have hld : ∀ j v, [.int .i64 17, .int .i64 (i.dst : Int), .int .i64 (i.src : Int), .int .i64 i.off, .int .u32 (i.imm : Int)][j]? = some v → (W1.setCell ⟨w.heap.size + 1, 23, none⟩ (.int .i64 (s.at_ : Int))).cell? ((a.add (s.at_ * 5)).add j) = some v := fun j v hv => hld j v (by simp only [insCells, hop]; exact hv)
  have hu : ∀ W : World, Calls Try.prog 27 #[.int .i64 17] W fun e w' => e = .returned (.tuple #[.bool true, .bool true, .bool true, .bool false, .bool true]) ∧ W = w' := fun W => by
    have := uses_in W i.op hm.op1 hm.op2
    rw [hop] at this
    exact this
  have hdst := hm.dst
  have hsrc := hm.src
  have hdst' : (i.dst : Int) < 10 := by omega
  have hsrc' : (i.src : Int) < 10 := by omega
  have ho1 := hm.off1
  have ho2 := hm.off2
  have him := hm.imm
  have hrd := H.ok.reg i.dst
  have hrs := H.ok.reg i.src
  have HOK := Lib.hid H.ok
  have HH := Lib.hid H
  have hN4 := HG2.out.ins (by rw [← HZ1.out]; simp [World.setCell]) i
  rw [hop] at hN4
  have HN4 := Lib.hid hN4; clear hN4
  have HLD := Lib.hid hld; clear hld
  have HCL := Lib.hid hcl; clear hcl
  have HU := Lib.hid hu; clear hu
  have HOP := Lib.hid hop; clear hop
  have HM := Lib.hid hm; clear hm
  have HI := Lib.hid hi; clear hi
  obtain ⟨p, hp⟩ := Int.eq_ofNat_of_zero_le hpl
  have hp2 : (s.reg i.src : Int) + i.off = (p : Int) := hp
  have hp3 : ¬ p < 64 := by omega
  have hp4 : (64 : Int) ≤ (p : Int) := by omega
  have hp5 : 64 ≤ p := by omega
  clear hpl hph hp
  clear H
  go_enter Try.func26, Try.ntmps26
  go_upto_region 1 with fail
  rw [← HW1.out]
  go_upto_region 5 with (refine wpList_value (.agg #[.int .i64 17, .int .i64 (i.dst : Int), .int .i64 (i.src : Int), .int .i64 i.off, .int .u32 (i.imm : Int)]) rfl (exec_load_at 50 (.tmp 38) rfl (a.add (s.at_ * 5)) rfl ([.int .i64 17, .int .i64 (i.dst : Int), .int .i64 (i.src : Int), .int .i64 i.off, .int .u32 (i.imm : Int)]) _ HLD.out Try.underlying50 rfl size_ins) ?_)
  clear c0 c23 f23 c1
  generalize hW4 : (W1.setCell ⟨w.heap.size + 1, 23, none⟩ (.int .i64 (s.at_ : Int))).alloc (.cells #[.int .i64 17, .int .i64 (i.dst : Int), .int .i64 (i.src : Int), .int .i64 i.off, .int .u32 (i.imm : Int)] 50) = W4 at HN4
  rw [HZ1.out]
  have i0 : W4.cell? ⟨w.heap.size + 3, 0, none⟩ = some (.int .i64 17) := (by have := HN4.out.n.cells.1; rw [HOP.out] at this; exact this)
  have i1 := HN4.out.n.cells.2.1
  have i2 := HN4.out.n.cells.2.2.1
  have i3 := HN4.out.n.cells.2.2.2.1
  have i4 := HN4.out.n.cells.2.2.2.2
  have s0 : W4.cell? ⟨w.heap.size + 1, 0, none⟩ = some (.int .i64 (s.at_ : Int)) := HN4.out.g.s.cell 0 (by omega)
  have sd : W4.cell? ⟨w.heap.size + 1, 1 + i.dst, none⟩ = some (.bool (s.set i.dst)) := by rw [HN4.out.g.s.cell (1 + i.dst) (by omega), stF_set _ _ _ _ hdst]; rfl
  have ss : W4.cell? ⟨w.heap.size + 1, 1 + i.src, none⟩ = some (.bool (s.set i.src)) := by rw [HN4.out.g.s.cell (1 + i.src) (by omega), stF_set _ _ _ _ hsrc]; rfl
  have sz : W4.cell? ⟨w.heap.size + 1, 1, none⟩ = some (.bool (s.set 0)) := HN4.out.g.s.cell 1 (by omega)
  go_upto_region 10 with (go_at_call 27; (with_reducible refine (HU.out _).mono ?_); rintro e w' ⟨rfl, rfl⟩)
  clear i0 i1 i2 i3 i4 s0 sd ss sz
  refine wp_region_noPanic ?_
  refine plan (.rd 0 (.rd 1 (.rd 2 (.rd 3 (.rd 4 (.rd 5 (.rd 6 (.rd 7 (.rd 8 (.rd 9 (.rd 10 (.rd 11 .done)))))))))))) [0, 1, 2, 3, 4, 5, 6, 7, 8, 9, 10, 11] (fun W => S4 w (.int .i64 ctx) (.slice (some a) pr.length ic) (stF (.slice KA s.calls.length kc) s.mark false) i W) (by kernel_rfl) (by kernel_rfl) (fun _ _ _ _ _ h => h) HN4.out.drewp ?_
  repeat (refine pl_pure rfl (fun K hK => ?_); go_simp; refine hK _ ?_; clear hK K)
  refine pl_rd (.int .i64 (i.dst : Int)) rfl rfl (fun W hS => ?_) (fun K hK => ?_)
  · have f0 := hS.n.cells.2.1
    simp [go_sem, f0]
  go_simp
  refine hK _ ?_
  clear hK K
  repeat (refine pl_pure rfl (fun K hK => ?_); go_simp; refine hK _ ?_; clear hK K)
  refine pl_rd (.int .i64 (s.reg i.dst : Int)) rfl rfl (fun W hS => ?_) (fun K hK => ?_)
  · have f0 : W.cell? ⟨w.heap.size + 1, 11 + i.dst, none⟩ = some (.int .i64 (s.reg i.dst : Int)) := by rw [hS.g.s.cell (11 + i.dst) (by omega), stF_reg _ _ _ _ hdst]; rfl
    simp [go_sem, f0]
  go_simp
  refine hK _ ?_
  clear hK K
  repeat (refine pl_pure rfl (fun K hK => ?_); go_simp; refine hK _ ?_; clear hK K)
  refine pl_rd (.int .i64 (i.src : Int)) rfl rfl (fun W hS => ?_) (fun K hK => ?_)
  · have f0 := hS.n.cells.2.2.1
    simp [go_sem, f0]
  go_simp
  refine hK _ ?_
  clear hK K
  repeat (refine pl_pure rfl (fun K hK => ?_); go_simp; refine hK _ ?_; clear hK K)
  refine pl_rd (.int .i64 (s.reg i.src : Int)) rfl rfl (fun W hS => ?_) (fun K hK => ?_)
  · have f0 : W.cell? ⟨w.heap.size + 1, 11 + i.src, none⟩ = some (.int .i64 (s.reg i.src : Int)) := by rw [hS.g.s.cell (11 + i.src) (by omega), stF_reg _ _ _ _ hsrc]; rfl
    simp [go_sem, f0]
  go_simp
  refine hK _ ?_
  clear hK K
  repeat (refine pl_pure rfl (fun K hK => ?_); go_simp; refine hK _ ?_; clear hK K)
  refine pl_done ?_
  refine NoPanic.normal ?_
  have HN5 := Lib.hid HN4.out.drewp
  generalize hW5 : W4.drew = W5 at HN5 ⊢
  clear hW5
  have i0 : W5.cell? ⟨w.heap.size + 3, 0, none⟩ = some (.int .i64 17) := (by have := HN5.out.n.cells.1; rw [HOP.out] at this; exact this)
  have i1 := HN5.out.n.cells.2.1
  have i2 := HN5.out.n.cells.2.2.1
  have i3 := HN5.out.n.cells.2.2.2.1
  have i4 := HN5.out.n.cells.2.2.2.2
  have s0 : W5.cell? ⟨w.heap.size + 1, 0, none⟩ = some (.int .i64 (s.at_ : Int)) := HN5.out.g.s.cell 0 (by omega)
  go_upto_region 22 with fail
  clear i0 i1 i2 i3 i4 s0
  have HF := Lib.hid (show ∀ W : World, Calls Try.prog 33 #[.agg (stL (.slice KA s.calls.length kc) s.mark false).toArray, .int .i64 4] W fun e w' => e = .returned (.agg (stL (.slice KA s.calls.length kc) (s.mark.fall 4) true).toArray) ∧ Below W.heap.size W w' from fun W => faultsr_ok W (.slice KA s.calls.length kc) rfl s.mark false 4)
  refine wp_region_list ?_
  refine wpList_load_mid rfl 83 (.tmp 7) rfl (w.heap.size + 1) 0 rfl (stL (.slice KA s.calls.length kc) s.mark false) _ HN5.out.g.s.range Try.underlying83 rfl (by rw [stL_length]; exact info_state) ?_
  go_wp2_with (first | (go_at_call 33; (with_reducible refine (HF.out _).mono ?_); rintro e w9 ⟨rfl, hb9⟩; have HB9 := Lib.hid hb9; clear hb9; have HG9 := Lib.hid (HN5.out.g.more HB9.out); obtain ⟨HT9, W10, HW10, HR10, HK10, HB10⟩ := HG9.out.done (stL (.slice KA s.calls.length kc) (s.mark.fall 4) true) (stL_length _ _ _)) | (refine wpList_store_mid rfl 83 (.tmp 8) (.tmp 157) rfl (w.heap.size + 2) 0 (stL (.slice KA s.calls.length kc) (s.mark.fall 4) true).toArray rfl rfl (by rw [stA_size]; exact HT9.out) (by rw [stA_size]; exact info_state) (stL_one _ rfl _ _) ?_; rw [← HW10.out]))
  exact bodyPost_ret (v := .agg (stL (.slice KA s.calls.length kc) (s.mark.fall 4) true).toArray) (results_cell1_range Try.results26 _ _ (w.heap.size + 2) 0 _ _ rfl HR10.out Try.underlying83 rfl (by rw [stL_length]; exact info_state)) rfl ⟨KA, kc, rfl, (HH.out.sl.move (Mv.of_below HB10.out okc)).mono (fun _ _ h => .inl h), HB10.out⟩

set_option maxRecDepth 100000 in
set_option maxHeartbeats 8000000 in
theorem stepr_b18n {w : World} {okc : Nat → Prop} {KA : Option Addr} {kc : Nat} {s : Vm} {IA : Option Addr} {ic : Nat} {pr : List Ins8} {CA : Option Addr} {cc : Nat} {cx : List UInt8} {A : Option Addr} {ca : Nat} {ans : List Nat} (ctx : Int) (H : StepIn w okc KA kc s IA ic pr CA cc cx A ca ans) (i : Ins8) (hi : pr[s.at_]? = some i) (hm : i.May) (hop : i.op = 18) (hsd : s.set i.dst = true) (hss : s.set i.src = true) (hpl : (s.reg i.dst : Int) + i.off < 0) :
    Calls Try.prog 26 #[.agg #[.int .i64 ctx, .slice IA pr.length ic], .slice CA cx.length cc, .slice A ans.length ca, .agg (stL (.slice KA s.calls.length kc) s false).toArray] w (StepPost w okc (s.mark.fall 4) true) := by
  obtain ⟨L, hL⟩ : ∃ L, L = (stL (.slice KA s.calls.length kc) s false).toArray := ⟨_, rfl⟩
  obtain ⟨W1, hW1⟩ : ∃ W1, W1 = ((w.alloc (.cells #[.int .i64 ctx, .slice IA pr.length ic] 24)).alloc (.cells L 83)).alloc (.cells Try.zeroCells83 83) := ⟨_, rfl⟩
  have G1 : S3 w (.int .i64 ctx) (.slice IA pr.length ic) (stF (.slice KA s.calls.length kc) s false) W1 := by rw [hW1, hL]; exact S3.start w _ _ _ _ size_state
  have hz1 : W1.heap.size = w.heap.size + 3 := by rw [hW1]; simp
  have HZ1 := Lib.hid hz1; clear hz1
  have c0 : W1.cell? ⟨w.heap.size + 1, 0, none⟩ = some (.int .i64 (s.at_ : Int)) := G1.s.cell 0 (by omega)
  have c23 := G1.s.cell 23 (by omega)
  have f23 := G1.s.frozen 23
  have c1 := G1.p1
  have G2 := (G1.put 23 (.int .i64 (s.at_ : Int))).congr (stF_mark (.slice KA s.calls.length kc) s false)
  have HG2 := Lib.hid G2; clear G2
  have HG1 := Lib.hid G1; clear G1
  rw [← hL]
  clear hL
  have HW1 := Lib.hid hW1; clear hW1
  obtain ⟨hat, _⟩ := List.getElem?_eq_some_iff.1 hi
  have hat' : (s.at_ : Int) < pr.length := by omega
  obtain ⟨a, rfl, _, hab, hcl⟩ := H.ins.at_ (j := s.at_ * 5) (by have := Nat.mul_lt_mul_of_pos_right hat (show 0 < 5 by omega); exact this)
  have hld : ∀ j v, (insCells i)[j]? = some v → (W1.setCell ⟨w.heap.size + 1, 23, none⟩ (.int .i64 (s.at_ : Int))).cell? ((a.add (s.at_ * 5)).add j) = some v := fun j v hv => by
    have hj : j < 5 := by
      rcases Nat.lt_or_ge j 5 with h | h
      · exact h
      · rw [List.getElem?_eq_none (by simpa [insCells] using h)] at hv; cases hv
    rw [add_add]
    have := hcl (s.at_ * 5 + j) v (by rw [ins_cells pr s.at_ j i hi hj]; exact hv)
    exact (World.cell?_of_block (HG2.out.b.block _ (by rw [add_block]; exact hab))).trans this
  have hld : ∀ j v, [.int .i64 18, .int .i64 (i.dst : Int), .int .i64 (i.src : Int), .int .i64 i.off, .int .u32 (i.imm : Int)][j]? = some v → (W1.setCell ⟨w.heap.size + 1, 23, none⟩ (.int .i64 (s.at_ : Int))).cell? ((a.add (s.at_ * 5)).add j) = some v := fun j v hv => hld j v (by simp only [insCells, hop]; exact hv)
  have hu : ∀ W : World, Calls Try.prog 27 #[.int .i64 18] W fun e w' => e = .returned (.tuple #[.bool true, .bool true, .bool true, .bool false, .bool true]) ∧ W = w' := fun W => by
    have := uses_in W i.op hm.op1 hm.op2
    rw [hop] at this
    exact this
  have hdst := hm.dst
  have hsrc := hm.src
  have hdst' : (i.dst : Int) < 10 := by omega
  have hsrc' : (i.src : Int) < 10 := by omega
  have ho1 := hm.off1
  have ho2 := hm.off2
  have him := hm.imm
  have hrd := H.ok.reg i.dst
  have hrs := H.ok.reg i.src
  have HOK := Lib.hid H.ok
  have HH := Lib.hid H
  have hN4 := HG2.out.ins (by rw [← HZ1.out]; simp [World.setCell]) i
  rw [hop] at hN4
  have HN4 := Lib.hid hN4; clear hN4
  have HLD := Lib.hid hld; clear hld
  have HCL := Lib.hid hcl; clear hcl
  have HU := Lib.hid hu; clear hu
  have HOP := Lib.hid hop; clear hop
  have HM := Lib.hid hm; clear hm
  have HI := Lib.hid hi; clear hi
  have hpd : decide ((s.reg i.dst : Int) + i.off < 0) = true := by simp; omega
  clear H
  go_enter Try.func26, Try.ntmps26
  go_upto_region 1 with fail
  rw [← HW1.out]
  go_upto_region 5 with (refine wpList_value (.agg #[.int .i64 18, .int .i64 (i.dst : Int), .int .i64 (i.src : Int), .int .i64 i.off, .int .u32 (i.imm : Int)]) rfl (exec_load_at 50 (.tmp 38) rfl (a.add (s.at_ * 5)) rfl ([.int .i64 18, .int .i64 (i.dst : Int), .int .i64 (i.src : Int), .int .i64 i.off, .int .u32 (i.imm : Int)]) _ HLD.out Try.underlying50 rfl size_ins) ?_)
  clear c0 c23 f23 c1
  generalize hW4 : (W1.setCell ⟨w.heap.size + 1, 23, none⟩ (.int .i64 (s.at_ : Int))).alloc (.cells #[.int .i64 18, .int .i64 (i.dst : Int), .int .i64 (i.src : Int), .int .i64 i.off, .int .u32 (i.imm : Int)] 50) = W4 at HN4
  rw [HZ1.out]
  have i0 : W4.cell? ⟨w.heap.size + 3, 0, none⟩ = some (.int .i64 18) := (by have := HN4.out.n.cells.1; rw [HOP.out] at this; exact this)
  have i1 := HN4.out.n.cells.2.1
  have i2 := HN4.out.n.cells.2.2.1
  have i3 := HN4.out.n.cells.2.2.2.1
  have i4 := HN4.out.n.cells.2.2.2.2
  have s0 : W4.cell? ⟨w.heap.size + 1, 0, none⟩ = some (.int .i64 (s.at_ : Int)) := HN4.out.g.s.cell 0 (by omega)
  have sd : W4.cell? ⟨w.heap.size + 1, 1 + i.dst, none⟩ = some (.bool (s.set i.dst)) := by rw [HN4.out.g.s.cell (1 + i.dst) (by omega), stF_set _ _ _ _ hdst]; rfl
  have ss : W4.cell? ⟨w.heap.size + 1, 1 + i.src, none⟩ = some (.bool (s.set i.src)) := by rw [HN4.out.g.s.cell (1 + i.src) (by omega), stF_set _ _ _ _ hsrc]; rfl
  have sz : W4.cell? ⟨w.heap.size + 1, 1, none⟩ = some (.bool (s.set 0)) := HN4.out.g.s.cell 1 (by omega)
  go_upto_region 10 with (go_at_call 27; (with_reducible refine (HU.out _).mono ?_); rintro e w' ⟨rfl, rfl⟩)
  clear i0 i1 i2 i3 i4 s0 sd ss sz
  refine wp_region_noPanic ?_
  refine plan (.rd 0 (.rd 1 (.rd 2 (.rd 3 (.rd 4 (.rd 5 (.rd 6 (.rd 7 (.rd 8 (.rd 9 (.rd 10 (.rd 11 .done)))))))))))) [0, 1, 2, 3, 4, 5, 6, 7, 8, 9, 10, 11] (fun W => S4 w (.int .i64 ctx) (.slice (some a) pr.length ic) (stF (.slice KA s.calls.length kc) s.mark false) i W) (by kernel_rfl) (by kernel_rfl) (fun _ _ _ _ _ h => h) HN4.out.drewp ?_
  repeat (refine pl_pure rfl (fun K hK => ?_); go_simp; refine hK _ ?_; clear hK K)
  refine pl_rd (.int .i64 (i.dst : Int)) rfl rfl (fun W hS => ?_) (fun K hK => ?_)
  · have f0 := hS.n.cells.2.1
    simp [go_sem, f0]
  go_simp
  refine hK _ ?_
  clear hK K
  repeat (refine pl_pure rfl (fun K hK => ?_); go_simp; refine hK _ ?_; clear hK K)
  refine pl_rd (.int .i64 (s.reg i.dst : Int)) rfl rfl (fun W hS => ?_) (fun K hK => ?_)
  · have f0 : W.cell? ⟨w.heap.size + 1, 11 + i.dst, none⟩ = some (.int .i64 (s.reg i.dst : Int)) := by rw [hS.g.s.cell (11 + i.dst) (by omega), stF_reg _ _ _ _ hdst]; rfl
    simp [go_sem, f0]
  go_simp
  refine hK _ ?_
  clear hK K
  repeat (refine pl_pure rfl (fun K hK => ?_); go_simp; refine hK _ ?_; clear hK K)
  refine pl_rd (.int .i64 (i.src : Int)) rfl rfl (fun W hS => ?_) (fun K hK => ?_)
  · have f0 := hS.n.cells.2.2.1
    simp [go_sem, f0]
  go_simp
  refine hK _ ?_
  clear hK K
  repeat (refine pl_pure rfl (fun K hK => ?_); go_simp; refine hK _ ?_; clear hK K)
  refine pl_rd (.int .i64 (s.reg i.src : Int)) rfl rfl (fun W hS => ?_) (fun K hK => ?_)
  · have f0 : W.cell? ⟨w.heap.size + 1, 11 + i.src, none⟩ = some (.int .i64 (s.reg i.src : Int)) := by rw [hS.g.s.cell (11 + i.src) (by omega), stF_reg _ _ _ _ hsrc]; rfl
    simp [go_sem, f0]
  go_simp
  refine hK _ ?_
  clear hK K
  repeat (refine pl_pure rfl (fun K hK => ?_); go_simp; refine hK _ ?_; clear hK K)
  refine pl_done ?_
  refine NoPanic.normal ?_
  have HN5 := Lib.hid HN4.out.drewp
  generalize hW5 : W4.drew = W5 at HN5 ⊢
  clear hW5
  have i0 : W5.cell? ⟨w.heap.size + 3, 0, none⟩ = some (.int .i64 18) := (by have := HN5.out.n.cells.1; rw [HOP.out] at this; exact this)
  have i1 := HN5.out.n.cells.2.1
  have i2 := HN5.out.n.cells.2.2.1
  have i3 := HN5.out.n.cells.2.2.2.1
  have i4 := HN5.out.n.cells.2.2.2.2
  have s0 : W5.cell? ⟨w.heap.size + 1, 0, none⟩ = some (.int .i64 (s.at_ : Int)) := HN5.out.g.s.cell 0 (by omega)
  go_upto_region 22 with fail
  clear i0 i1 i2 i3 i4 s0
  have HF := Lib.hid (show ∀ W : World, Calls Try.prog 33 #[.agg (stL (.slice KA s.calls.length kc) s.mark false).toArray, .int .i64 4] W fun e w' => e = .returned (.agg (stL (.slice KA s.calls.length kc) (s.mark.fall 4) true).toArray) ∧ Below W.heap.size W w' from fun W => faultsr_ok W (.slice KA s.calls.length kc) rfl s.mark false 4)
  refine wp_region_list ?_
  refine wpList_load_mid rfl 83 (.tmp 7) rfl (w.heap.size + 1) 0 rfl (stL (.slice KA s.calls.length kc) s.mark false) _ HN5.out.g.s.range Try.underlying83 rfl (by rw [stL_length]; exact info_state) ?_
  go_wp2_with (first | (go_at_call 33; (with_reducible refine (HF.out _).mono ?_); rintro e w9 ⟨rfl, hb9⟩; have HB9 := Lib.hid hb9; clear hb9; have HG9 := Lib.hid (HN5.out.g.more HB9.out); obtain ⟨HT9, W10, HW10, HR10, HK10, HB10⟩ := HG9.out.done (stL (.slice KA s.calls.length kc) (s.mark.fall 4) true) (stL_length _ _ _)) | (refine wpList_store_mid rfl 83 (.tmp 8) (.tmp 157) rfl (w.heap.size + 2) 0 (stL (.slice KA s.calls.length kc) (s.mark.fall 4) true).toArray rfl rfl (by rw [stA_size]; exact HT9.out) (by rw [stA_size]; exact info_state) (stL_one _ rfl _ _) ?_; rw [← HW10.out]))
  exact bodyPost_ret (v := .agg (stL (.slice KA s.calls.length kc) (s.mark.fall 4) true).toArray) (results_cell1_range Try.results26 _ _ (w.heap.size + 2) 0 _ _ rfl HR10.out Try.underlying83 rfl (by rw [stL_length]; exact info_state)) rfl ⟨KA, kc, rfl, (HH.out.sl.move (Mv.of_below HB10.out okc)).mono (fun _ _ h => .inl h), HB10.out⟩

set_option maxRecDepth 100000 in
set_option maxHeartbeats 8000000 in
theorem stepr_b18p {w : World} {okc : Nat → Prop} {KA : Option Addr} {kc : Nat} {s : Vm} {IA : Option Addr} {ic : Nat} {pr : List Ins8} {CA : Option Addr} {cc : Nat} {cx : List UInt8} {A : Option Addr} {ca : Nat} {ans : List Nat} (ctx : Int) (H : StepIn w okc KA kc s IA ic pr CA cc cx A ca ans) (i : Ins8) (hi : pr[s.at_]? = some i) (hm : i.May) (hop : i.op = 18) (hsd : s.set i.dst = true) (hss : s.set i.src = true) (hpl : 0 ≤ (s.reg i.dst : Int) + i.off) (hph : (64 : Int) ≤ (s.reg i.dst : Int) + i.off) :
    Calls Try.prog 26 #[.agg #[.int .i64 ctx, .slice IA pr.length ic], .slice CA cx.length cc, .slice A ans.length ca, .agg (stL (.slice KA s.calls.length kc) s false).toArray] w (StepPost w okc (s.mark.fall 4) true) := by
  obtain ⟨L, hL⟩ : ∃ L, L = (stL (.slice KA s.calls.length kc) s false).toArray := ⟨_, rfl⟩
  obtain ⟨W1, hW1⟩ : ∃ W1, W1 = ((w.alloc (.cells #[.int .i64 ctx, .slice IA pr.length ic] 24)).alloc (.cells L 83)).alloc (.cells Try.zeroCells83 83) := ⟨_, rfl⟩
  have G1 : S3 w (.int .i64 ctx) (.slice IA pr.length ic) (stF (.slice KA s.calls.length kc) s false) W1 := by rw [hW1, hL]; exact S3.start w _ _ _ _ size_state
  have hz1 : W1.heap.size = w.heap.size + 3 := by rw [hW1]; simp
  have HZ1 := Lib.hid hz1; clear hz1
  have c0 : W1.cell? ⟨w.heap.size + 1, 0, none⟩ = some (.int .i64 (s.at_ : Int)) := G1.s.cell 0 (by omega)
  have c23 := G1.s.cell 23 (by omega)
  have f23 := G1.s.frozen 23
  have c1 := G1.p1
  have G2 := (G1.put 23 (.int .i64 (s.at_ : Int))).congr (stF_mark (.slice KA s.calls.length kc) s false)
  have HG2 := Lib.hid G2; clear G2
  have HG1 := Lib.hid G1; clear G1
  rw [← hL]
  clear hL
  have HW1 := Lib.hid hW1; clear hW1
  obtain ⟨hat, _⟩ := List.getElem?_eq_some_iff.1 hi
  have hat' : (s.at_ : Int) < pr.length := by omega
  obtain ⟨a, rfl, _, hab, hcl⟩ := H.ins.at_ (j := s.at_ * 5) (by have := Nat.mul_lt_mul_of_pos_right hat (show 0 < 5 by omega); exact this)
  have hld : ∀ j v, (insCells i)[j]? = some v → (W1.setCell ⟨w.heap.size + 1, 23, none⟩ (.int .i64 (s.at_ : Int))).cell? ((a.add (s.at_ * 5)).add j) = some v := fun j v hv => by
    have hj : j < 5 := by
      rcases Nat.lt_or_ge j 5 with h | h
      · exact h
      · rw [List.getElem?_eq_none (by simpa [insCells] using h)] at hv; cases hv
    rw [add_add]
    have := hcl (s.at_ * 5 + j) v (by rw [ins_cells pr s.at_ j i hi hj]; exact hv)
    exact (World.cell?_of_block (HG2.out.b.block _ (by rw [add_block]; exact hab))).trans this
  have hld : ∀ j v, [.int .i64 18, .int .i64 (i.dst : Int), .int .i64 (i.src : Int), .int .i64 i.off, .int .u32 (i.imm : Int)][j]? = some v → (W1.setCell ⟨w.heap.size + 1, 23, none⟩ (.int .i64 (s.at_ : Int))).cell? ((a.add (s.at_ * 5)).add j) = some v := fun j v hv => hld j v (by simp only [insCells, hop]; exact hv)
  have hu : ∀ W : World, Calls Try.prog 27 #[.int .i64 18] W fun e w' => e = .returned (.tuple #[.bool true, .bool true, .bool true, .bool false, .bool true]) ∧ W = w' := fun W => by
    have := uses_in W i.op hm.op1 hm.op2
    rw [hop] at this
    exact this
  have hdst := hm.dst
  have hsrc := hm.src
  have hdst' : (i.dst : Int) < 10 := by omega
  have hsrc' : (i.src : Int) < 10 := by omega
  have ho1 := hm.off1
  have ho2 := hm.off2
  have him := hm.imm
  have hrd := H.ok.reg i.dst
  have hrs := H.ok.reg i.src
  have HOK := Lib.hid H.ok
  have HH := Lib.hid H
  have hN4 := HG2.out.ins (by rw [← HZ1.out]; simp [World.setCell]) i
  rw [hop] at hN4
  have HN4 := Lib.hid hN4; clear hN4
  have HLD := Lib.hid hld; clear hld
  have HCL := Lib.hid hcl; clear hcl
  have HU := Lib.hid hu; clear hu
  have HOP := Lib.hid hop; clear hop
  have HM := Lib.hid hm; clear hm
  have HI := Lib.hid hi; clear hi
  obtain ⟨p, hp⟩ := Int.eq_ofNat_of_zero_le hpl
  have hp2 : (s.reg i.dst : Int) + i.off = (p : Int) := hp
  have hp3 : ¬ p < 64 := by omega
  have hp4 : (64 : Int) ≤ (p : Int) := by omega
  have hp5 : 64 ≤ p := by omega
  clear hpl hph hp
  clear H
  go_enter Try.func26, Try.ntmps26
  go_upto_region 1 with fail
  rw [← HW1.out]
  go_upto_region 5 with (refine wpList_value (.agg #[.int .i64 18, .int .i64 (i.dst : Int), .int .i64 (i.src : Int), .int .i64 i.off, .int .u32 (i.imm : Int)]) rfl (exec_load_at 50 (.tmp 38) rfl (a.add (s.at_ * 5)) rfl ([.int .i64 18, .int .i64 (i.dst : Int), .int .i64 (i.src : Int), .int .i64 i.off, .int .u32 (i.imm : Int)]) _ HLD.out Try.underlying50 rfl size_ins) ?_)
  clear c0 c23 f23 c1
  generalize hW4 : (W1.setCell ⟨w.heap.size + 1, 23, none⟩ (.int .i64 (s.at_ : Int))).alloc (.cells #[.int .i64 18, .int .i64 (i.dst : Int), .int .i64 (i.src : Int), .int .i64 i.off, .int .u32 (i.imm : Int)] 50) = W4 at HN4
  rw [HZ1.out]
  have i0 : W4.cell? ⟨w.heap.size + 3, 0, none⟩ = some (.int .i64 18) := (by have := HN4.out.n.cells.1; rw [HOP.out] at this; exact this)
  have i1 := HN4.out.n.cells.2.1
  have i2 := HN4.out.n.cells.2.2.1
  have i3 := HN4.out.n.cells.2.2.2.1
  have i4 := HN4.out.n.cells.2.2.2.2
  have s0 : W4.cell? ⟨w.heap.size + 1, 0, none⟩ = some (.int .i64 (s.at_ : Int)) := HN4.out.g.s.cell 0 (by omega)
  have sd : W4.cell? ⟨w.heap.size + 1, 1 + i.dst, none⟩ = some (.bool (s.set i.dst)) := by rw [HN4.out.g.s.cell (1 + i.dst) (by omega), stF_set _ _ _ _ hdst]; rfl
  have ss : W4.cell? ⟨w.heap.size + 1, 1 + i.src, none⟩ = some (.bool (s.set i.src)) := by rw [HN4.out.g.s.cell (1 + i.src) (by omega), stF_set _ _ _ _ hsrc]; rfl
  have sz : W4.cell? ⟨w.heap.size + 1, 1, none⟩ = some (.bool (s.set 0)) := HN4.out.g.s.cell 1 (by omega)
  go_upto_region 10 with (go_at_call 27; (with_reducible refine (HU.out _).mono ?_); rintro e w' ⟨rfl, rfl⟩)
  clear i0 i1 i2 i3 i4 s0 sd ss sz
  refine wp_region_noPanic ?_
  refine plan (.rd 0 (.rd 1 (.rd 2 (.rd 3 (.rd 4 (.rd 5 (.rd 6 (.rd 7 (.rd 8 (.rd 9 (.rd 10 (.rd 11 .done)))))))))))) [0, 1, 2, 3, 4, 5, 6, 7, 8, 9, 10, 11] (fun W => S4 w (.int .i64 ctx) (.slice (some a) pr.length ic) (stF (.slice KA s.calls.length kc) s.mark false) i W) (by kernel_rfl) (by kernel_rfl) (fun _ _ _ _ _ h => h) HN4.out.drewp ?_
  repeat (refine pl_pure rfl (fun K hK => ?_); go_simp; refine hK _ ?_; clear hK K)
  refine pl_rd (.int .i64 (i.dst : Int)) rfl rfl (fun W hS => ?_) (fun K hK => ?_)
  · have f0 := hS.n.cells.2.1
    simp [go_sem, f0]
  go_simp
  refine hK _ ?_
  clear hK K
  repeat (refine pl_pure rfl (fun K hK => ?_); go_simp; refine hK _ ?_; clear hK K)
  refine pl_rd (.int .i64 (s.reg i.dst : Int)) rfl rfl (fun W hS => ?_) (fun K hK => ?_)
  · have f0 : W.cell? ⟨w.heap.size + 1, 11 + i.dst, none⟩ = some (.int .i64 (s.reg i.dst : Int)) := by rw [hS.g.s.cell (11 + i.dst) (by omega), stF_reg _ _ _ _ hdst]; rfl
    simp [go_sem, f0]
  go_simp
  refine hK _ ?_
  clear hK K
  repeat (refine pl_pure rfl (fun K hK => ?_); go_simp; refine hK _ ?_; clear hK K)
  refine pl_rd (.int .i64 (i.src : Int)) rfl rfl (fun W hS => ?_) (fun K hK => ?_)
  · have f0 := hS.n.cells.2.2.1
    simp [go_sem, f0]
  go_simp
  refine hK _ ?_
  clear hK K
  repeat (refine pl_pure rfl (fun K hK => ?_); go_simp; refine hK _ ?_; clear hK K)
  refine pl_rd (.int .i64 (s.reg i.src : Int)) rfl rfl (fun W hS => ?_) (fun K hK => ?_)
  · have f0 : W.cell? ⟨w.heap.size + 1, 11 + i.src, none⟩ = some (.int .i64 (s.reg i.src : Int)) := by rw [hS.g.s.cell (11 + i.src) (by omega), stF_reg _ _ _ _ hsrc]; rfl
    simp [go_sem, f0]
  go_simp
  refine hK _ ?_
  clear hK K
  repeat (refine pl_pure rfl (fun K hK => ?_); go_simp; refine hK _ ?_; clear hK K)
  refine pl_done ?_
  refine NoPanic.normal ?_
  have HN5 := Lib.hid HN4.out.drewp
  generalize hW5 : W4.drew = W5 at HN5 ⊢
  clear hW5
  have i0 : W5.cell? ⟨w.heap.size + 3, 0, none⟩ = some (.int .i64 18) := (by have := HN5.out.n.cells.1; rw [HOP.out] at this; exact this)
  have i1 := HN5.out.n.cells.2.1
  have i2 := HN5.out.n.cells.2.2.1
  have i3 := HN5.out.n.cells.2.2.2.1
  have i4 := HN5.out.n.cells.2.2.2.2
  have s0 : W5.cell? ⟨w.heap.size + 1, 0, none⟩ = some (.int .i64 (s.at_ : Int)) := HN5.out.g.s.cell 0 (by omega)
  go_upto_region 22 with fail
  clear i0 i1 i2 i3 i4 s0
  have HF := Lib.hid (show ∀ W : World, Calls Try.prog 33 #[.agg (stL (.slice KA s.calls.length kc) s.mark false).toArray, .int .i64 4] W fun e w' => e = .returned (.agg (stL (.slice KA s.calls.length kc) (s.mark.fall 4) true).toArray) ∧ Below W.heap.size W w' from fun W => faultsr_ok W (.slice KA s.calls.length kc) rfl s.mark false 4)
  refine wp_region_list ?_
  refine wpList_load_mid rfl 83 (.tmp 7) rfl (w.heap.size + 1) 0 rfl (stL (.slice KA s.calls.length kc) s.mark false) _ HN5.out.g.s.range Try.underlying83 rfl (by rw [stL_length]; exact info_state) ?_
  go_wp2_with (first | (go_at_call 33; (with_reducible refine (HF.out _).mono ?_); rintro e w9 ⟨rfl, hb9⟩; have HB9 := Lib.hid hb9; clear hb9; have HG9 := Lib.hid (HN5.out.g.more HB9.out); obtain ⟨HT9, W10, HW10, HR10, HK10, HB10⟩ := HG9.out.done (stL (.slice KA s.calls.length kc) (s.mark.fall 4) true) (stL_length _ _ _)) | (refine wpList_store_mid rfl 83 (.tmp 8) (.tmp 157) rfl (w.heap.size + 2) 0 (stL (.slice KA s.calls.length kc) (s.mark.fall 4) true).toArray rfl rfl (by rw [stA_size]; exact HT9.out) (by rw [stA_size]; exact info_state) (stL_one _ rfl _ _) ?_; rw [← HW10.out]))
  exact bodyPost_ret (v := .agg (stL (.slice KA s.calls.length kc) (s.mark.fall 4) true).toArray) (results_cell1_range Try.results26 _ _ (w.heap.size + 2) 0 _ _ rfl HR10.out Try.underlying83 rfl (by rw [stL_length]; exact info_state)) rfl ⟨KA, kc, rfl, (HH.out.sl.move (Mv.of_below HB10.out okc)).mono (fun _ _ h => .inl h), HB10.out⟩

set_option maxRecDepth 100000 in
set_option maxHeartbeats 8000000 in
theorem stepr_ldc {w : World} {okc : Nat → Prop} {KA : Option Addr} {kc : Nat} {s : Vm} {IA : Option Addr} {ic : Nat} {pr : List Ins8} {CA : Option Addr} {cc : Nat} {cx : List UInt8} {A : Option Addr} {ca : Nat} {ans : List Nat} (ctx : Int) (H : StepIn w okc KA kc s IA ic pr CA cc cx A ca ans) (i : Ins8) (hi : pr[s.at_]? = some i) (hm : i.May) (hop : i.op = 16) (hss : s.set i.src = true) (hpl : 0 ≤ (s.reg i.src : Int) + i.off) (hph : (s.reg i.src : Int) + i.off < cx.length) :
    Calls Try.prog 26 #[.agg #[.int .i64 ctx, .slice IA pr.length ic], .slice CA cx.length cc, .slice A ans.length ca, .agg (stL (.slice KA s.calls.length kc) s false).toArray] w (StepPost w okc ((s.mark.put i.dst (cx.getD ((s.reg i.src : Int) + i.off).toNat 0).toNat).next 0) false) := by
  obtain ⟨L, hL⟩ : ∃ L, L = (stL (.slice KA s.calls.length kc) s false).toArray := ⟨_, rfl⟩
  obtain ⟨W1, hW1⟩ : ∃ W1, W1 = ((w.alloc (.cells #[.int .i64 ctx, .slice IA pr.length ic] 24)).alloc (.cells L 83)).alloc (.cells Try.zeroCells83 83) := ⟨_, rfl⟩
  have G1 : S3 w (.int .i64 ctx) (.slice IA pr.length ic) (stF (.slice KA s.calls.length kc) s false) W1 := by rw [hW1, hL]; exact S3.start w _ _ _ _ size_state
  have hz1 : W1.heap.size = w.heap.size + 3 := by rw [hW1]; simp
  have HZ1 := Lib.hid hz1; clear hz1
  have c0 : W1.cell? ⟨w.heap.size + 1, 0, none⟩ = some (.int .i64 (s.at_ : Int)) := G1.s.cell 0 (by omega)
  have c23 := G1.s.cell 23 (by omega)
  have f23 := G1.s.frozen 23
  have c1 := G1.p1
  have G2 := (G1.put 23 (.int .i64 (s.at_ : Int))).congr (stF_mark (.slice KA s.calls.length kc) s false)
  have HG2 := Lib.hid G2; clear G2
  have HG1 := Lib.hid G1; clear G1
  rw [← hL]
  clear hL
  have HW1 := Lib.hid hW1; clear hW1
  obtain ⟨hat, _⟩ := List.getElem?_eq_some_iff.1 hi
  have hat' : (s.at_ : Int) < pr.length := by omega
  obtain ⟨a, rfl, _, hab, hcl⟩ := H.ins.at_ (j := s.at_ * 5) (by have := Nat.mul_lt_mul_of_pos_right hat (show 0 < 5 by omega); exact this)
  have hld : ∀ j v, (insCells i)[j]? = some v → (W1.setCell ⟨w.heap.size + 1, 23, none⟩ (.int .i64 (s.at_ : Int))).cell? ((a.add (s.at_ * 5)).add j) = some v := fun j v hv => by
    have hj : j < 5 := by
      rcases Nat.lt_or_ge j 5 with h | h
      · exact h
      · rw [List.getElem?_eq_none (by simpa [insCells] using h)] at hv; cases hv
    rw [add_add]
    have := hcl (s.at_ * 5 + j) v (by rw [ins_cells pr s.at_ j i hi hj]; exact hv)
    exact (World.cell?_of_block (HG2.out.b.block _ (by rw [add_block]; exact hab))).trans this
  have hld : ∀ j v, [.int .i64 16, .int .i64 (i.dst : Int), .int .i64 (i.src : Int), .int .i64 i.off, .int .u32 (i.imm : Int)][j]? = some v → (W1.setCell ⟨w.heap.size + 1, 23, none⟩ (.int .i64 (s.at_ : Int))).cell? ((a.add (s.at_ * 5)).add j) = some v := fun j v hv => hld j v (by simp only [insCells, hop]; exact hv)
  have hu : ∀ W : World, Calls Try.prog 27 #[.int .i64 16] W fun e w' => e = .returned (.tuple #[.bool true, .bool true, .bool true, .bool false, .bool true]) ∧ W = w' := fun W => by
    have := uses_in W i.op hm.op1 hm.op2
    rw [hop] at this
    exact this
  have hdst := hm.dst
  have hsrc := hm.src
  have hdst' : (i.dst : Int) < 10 := by omega
  have hsrc' : (i.src : Int) < 10 := by omega
  have ho1 := hm.off1
  have ho2 := hm.off2
  have him := hm.imm
  have hrd := H.ok.reg i.dst
  have hrs := H.ok.reg i.src
  have HOK := Lib.hid H.ok
  have HH := Lib.hid H
  have hN4 := HG2.out.ins (by rw [← HZ1.out]; simp [World.setCell]) i
  rw [hop] at hN4
  have HN4 := Lib.hid hN4; clear hN4
  have HLD := Lib.hid hld; clear hld
  have HCL := Lib.hid hcl; clear hcl
  have HU := Lib.hid hu; clear hu
  have HOP := Lib.hid hop; clear hop
  have HM := Lib.hid hm; clear hm
  have HI := Lib.hid hi; clear hi
  obtain ⟨p, hp⟩ := Int.eq_ofNat_of_zero_le hpl
  have hp2 : (s.reg i.src : Int) + i.off = (p : Int) := hp
  have hp3 : p < cx.length := by omega
  have hp4 : (p : Int) < cx.length := by omega
  obtain ⟨ca2, rfl, _, hcab, hcac⟩ := Sl.at_ HH.out.cxr (j := p) (by omega)
  have hcell := hcac p (.int .u8 ((cx.getD p 0).toNat : Int)) (by simp [bv, List.getD, hp3])
  have hvl : (cx.getD p 0).toNat < 256 := (cx.getD p 0).toNat_lt
  have hpe : ((s.reg i.src : Int) + i.off).toNat = p := by omega
  rw [hpe]
  obtain ⟨v, hv⟩ : ∃ v, v = (cx.getD p 0).toNat := ⟨_, rfl⟩
  rw [← hv] at hcell hvl ⊢
  have hwv : IntKind.i64.wrap (v : Int) = (v : Int) := IntWalk.i64_in (v : Int) (by omega)
  have HCC := Lib.hid hcell; clear hcell
  have HCA := Lib.hid hcac; clear hcac
  have HPL := Lib.hid hpl; clear hpl hph hv hp hpe
  clear H
  go_enter Try.func26, Try.ntmps26
  go_upto_region 1 with fail
  rw [← HW1.out]
  go_upto_region 5 with (refine wpList_value (.agg #[.int .i64 16, .int .i64 (i.dst : Int), .int .i64 (i.src : Int), .int .i64 i.off, .int .u32 (i.imm : Int)]) rfl (exec_load_at 50 (.tmp 38) rfl (a.add (s.at_ * 5)) rfl ([.int .i64 16, .int .i64 (i.dst : Int), .int .i64 (i.src : Int), .int .i64 i.off, .int .u32 (i.imm : Int)]) _ HLD.out Try.underlying50 rfl size_ins) ?_)
  clear c0 c23 f23 c1
  generalize hW4 : (W1.setCell ⟨w.heap.size + 1, 23, none⟩ (.int .i64 (s.at_ : Int))).alloc (.cells #[.int .i64 16, .int .i64 (i.dst : Int), .int .i64 (i.src : Int), .int .i64 i.off, .int .u32 (i.imm : Int)] 50) = W4 at HN4
  rw [HZ1.out]
  have i0 : W4.cell? ⟨w.heap.size + 3, 0, none⟩ = some (.int .i64 16) := (by have := HN4.out.n.cells.1; rw [HOP.out] at this; exact this)
  have i1 := HN4.out.n.cells.2.1
  have i2 := HN4.out.n.cells.2.2.1
  have i3 := HN4.out.n.cells.2.2.2.1
  have i4 := HN4.out.n.cells.2.2.2.2
  have s0 : W4.cell? ⟨w.heap.size + 1, 0, none⟩ = some (.int .i64 (s.at_ : Int)) := HN4.out.g.s.cell 0 (by omega)
  have sd : W4.cell? ⟨w.heap.size + 1, 1 + i.dst, none⟩ = some (.bool (s.set i.dst)) := by rw [HN4.out.g.s.cell (1 + i.dst) (by omega), stF_set _ _ _ _ hdst]; rfl
  have ss : W4.cell? ⟨w.heap.size + 1, 1 + i.src, none⟩ = some (.bool (s.set i.src)) := by rw [HN4.out.g.s.cell (1 + i.src) (by omega), stF_set _ _ _ _ hsrc]; rfl
  have sz : W4.cell? ⟨w.heap.size + 1, 1, none⟩ = some (.bool (s.set 0)) := HN4.out.g.s.cell 1 (by omega)
  go_upto_region 10 with (go_at_call 27; (with_reducible refine (HU.out _).mono ?_); rintro e w' ⟨rfl, rfl⟩)
  clear i0 i1 i2 i3 i4 s0 sd ss sz
  refine wp_region_noPanic ?_
  refine plan (.rd 0 (.rd 1 (.rd 2 (.rd 3 (.rd 4 (.rd 5 (.rd 6 (.rd 7 (.rd 8 (.rd 9 (.rd 10 (.rd 11 .done)))))))))))) [0, 1, 2, 3, 4, 5, 6, 7, 8, 9, 10, 11] (fun W => S4 w (.int .i64 ctx) (.slice (some a) pr.length ic) (stF (.slice KA s.calls.length kc) s.mark false) i W) (by kernel_rfl) (by kernel_rfl) (fun _ _ _ _ _ h => h) HN4.out.drewp ?_
  repeat (refine pl_pure rfl (fun K hK => ?_); go_simp; refine hK _ ?_; clear hK K)
  refine pl_rd (.int .i64 (i.dst : Int)) rfl rfl (fun W hS => ?_) (fun K hK => ?_)
  · have f0 := hS.n.cells.2.1
    simp [go_sem, f0]
  go_simp
  refine hK _ ?_
  clear hK K
  repeat (refine pl_pure rfl (fun K hK => ?_); go_simp; refine hK _ ?_; clear hK K)
  refine pl_rd (.int .i64 (s.reg i.dst : Int)) rfl rfl (fun W hS => ?_) (fun K hK => ?_)
  · have f0 : W.cell? ⟨w.heap.size + 1, 11 + i.dst, none⟩ = some (.int .i64 (s.reg i.dst : Int)) := by rw [hS.g.s.cell (11 + i.dst) (by omega), stF_reg _ _ _ _ hdst]; rfl
    simp [go_sem, f0]
  go_simp
  refine hK _ ?_
  clear hK K
  repeat (refine pl_pure rfl (fun K hK => ?_); go_simp; refine hK _ ?_; clear hK K)
  refine pl_rd (.int .i64 (i.src : Int)) rfl rfl (fun W hS => ?_) (fun K hK => ?_)
  · have f0 := hS.n.cells.2.2.1
    simp [go_sem, f0]
  go_simp
  refine hK _ ?_
  clear hK K
  repeat (refine pl_pure rfl (fun K hK => ?_); go_simp; refine hK _ ?_; clear hK K)
  refine pl_rd (.int .i64 (s.reg i.src : Int)) rfl rfl (fun W hS => ?_) (fun K hK => ?_)
  · have f0 : W.cell? ⟨w.heap.size + 1, 11 + i.src, none⟩ = some (.int .i64 (s.reg i.src : Int)) := by rw [hS.g.s.cell (11 + i.src) (by omega), stF_reg _ _ _ _ hsrc]; rfl
    simp [go_sem, f0]
  go_simp
  refine hK _ ?_
  clear hK K
  repeat (refine pl_pure rfl (fun K hK => ?_); go_simp; refine hK _ ?_; clear hK K)
  refine pl_done ?_
  refine NoPanic.normal ?_
  have HN5 := Lib.hid HN4.out.drewp
  generalize hW5 : W4.drew = W5 at HN5 ⊢
  clear hW5
  have i0 : W5.cell? ⟨w.heap.size + 3, 0, none⟩ = some (.int .i64 16) := (by have := HN5.out.n.cells.1; rw [HOP.out] at this; exact this)
  have i1 := HN5.out.n.cells.2.1
  have i2 := HN5.out.n.cells.2.2.1
  have i3 := HN5.out.n.cells.2.2.2.1
  have i4 := HN5.out.n.cells.2.2.2.2
  have s0 : W5.cell? ⟨w.heap.size + 1, 0, none⟩ = some (.int .i64 (s.at_ : Int)) := HN5.out.g.s.cell 0 (by omega)
  go_upto_region 27 with fail
  clear i0 i1 i2 i3 i4 s0
  refine wp_region_noPanic ?_
  refine plan (.rd 0 (.rd 1 (.rd 2 (.rd 3 (.rd 4 (.rd 5 (.rd 6 (.rd 7 (.eff 8 (.eff 9 .done)))))))))) [0, 1, 2, 3, 4, 5, 6, 7, 8] (fun W => S4 w (.int .i64 ctx) (.slice (some a) pr.length ic) (stF (.slice KA s.calls.length kc) s.mark false) i W) (by kernel_rfl) (by kernel_rfl) (fun _ _ _ _ _ h => h) HN5.out.drewp ?_
  refine pl_rd (.agg (stL (.slice KA s.calls.length kc) s.mark false).toArray) rfl rfl (fun W hS => ?_) (fun K hK => ?_)
  · exact exec_load_mid 83 (.tmp 7) rfl (w.heap.size + 1) 0 rfl (stL (.slice KA s.calls.length kc) s.mark false) _ hS.g.s.range Try.underlying83 rfl (by rw [stL_length]; exact info_state)
  refine hK _ ?_
  clear hK K
  repeat (refine pl_pure rfl (fun K hK => ?_); go_simp; refine hK _ ?_; clear hK K)
  refine pl_rd (.int .i64 (i.dst : Int)) rfl rfl (fun W hS => ?_) (fun K hK => ?_)
  · have f0 := hS.n.cells.2.1
    simp [go_sem, f0]
  go_simp
  refine hK _ ?_
  clear hK K
  repeat (refine pl_pure rfl (fun K hK => ?_); go_simp; refine hK _ ?_; clear hK K)
  refine pl_rd (.int .u8 (v : Int)) rfl rfl (fun W hS => ?_) (fun K hK => ?_)
  · have f0 := (Kp.of_below hS.g.b No).cell HCC.out (fun e => e)
    simp [go_sem, f0]
  go_simp
  refine hK _ ?_
  clear hK K
  repeat (refine pl_pure rfl (fun K hK => ?_); go_simp; refine hK _ ?_; clear hK K)
  have HP := Lib.hid (fun W => putr_ok W (.slice KA s.calls.length kc) rfl s.mark false i.dst v hdst)
  refine pl_eff rfl rfl (fun K hK => ?_)
  go_simp
  (with_reducible refine (HP.out _).mono ?_)
  rintro e w6 ⟨rfl, hb6⟩
  have HN6 := Lib.hid (HN5.out.drewp.more hb6); clear hb6
  refine hK _ _ (fun _ => HN6.out) ?_
  clear hK K
  refine pl_eff rfl rfl (fun K hK => ?_)
  refine wp_store_mid 83 (.tmp 7) (.tmp 180) rfl (w.heap.size + 1) 0 (stL (.slice KA s.calls.length kc) (s.mark.put i.dst v) false).toArray rfl rfl (by rw [stA_size]; exact there_blk HN6.out.g.s) (by rw [stA_size]; exact info_state) (stL_one _ rfl _ _) ?_
  have HN7 : Hid (S4 w (.int .i64 ctx) (.slice (some a) pr.length ic) (stF (.slice KA s.calls.length kc) (s.mark.put i.dst v) false) i (w6.setCells (w.heap.size + 1) 0 (stL (.slice KA s.calls.length kc) (s.mark.put i.dst v) false).toArray.toList)) := Lib.hid (HN6.out.fill (stF (.slice KA s.calls.length kc) (s.mark.put i.dst v) false))
  refine hK _ _ (fun h => by cases h) ?_
  clear hK K
  refine pl_done ?_
  refine NoPanic.normal ?_
  generalize hW7 : w6.setCells (w.heap.size + 1) 0 (stL (.slice KA s.calls.length kc) (s.mark.put i.dst v) false).toArray.toList = W7 at HN7 ⊢
  clear hW7
  have c0 : W7.cell? ⟨w.heap.size + 1, 0, none⟩ = some (.int .i64 (s.at_ : Int)) := HN7.out.g.s.cell 0 (by omega)
  have c21 : W7.cell? ⟨w.heap.size + 1, 21, none⟩ = some (.int .i64 (s.steps : Int)) := HN7.out.g.s.cell 21 (by omega)
  have f0 := HN7.out.g.s.frozen 0
  have f21 := HN7.out.g.s.frozen 21
  have hat9 := HH.out.at_
  have hst9 := HH.out.st
  have HN8 := Lib.hid (((HN7.out.put 21 (.int .i64 ((s.steps : Int) + 1))).put 0 (.int .i64 ((s.at_ : Int) + 1))).congr (stF_next (.slice KA s.calls.length kc) (s.mark.put i.dst v) false 0 ((s.at_ : Int) + 1) (by simp only [Vm.next]; show _ = (((s.at_ : Int) + (1 + _)).toNat : Int); omega)))
  go_upto_region 41 with fail
  generalize hW8 : (W7.setCell ⟨w.heap.size + 1, 21, none⟩ (.int .i64 ((s.steps : Int) + 1))).setCell ⟨w.heap.size + 1, 0, none⟩ (.int .i64 ((s.at_ : Int) + 1)) = W8 at HN8 ⊢
  clear hW8 c0 c21 f0 f21
  obtain ⟨HT9, W10, HW10, HR10, HK10, HB10⟩ := HN8.out.g.done (stL (.slice KA s.calls.length kc) ((s.mark.put i.dst v).next 0) false) (stL_length _ _ _)
  refine wp_region_list ?_
  refine wpList_load_mid rfl 83 (.tmp 7) rfl (w.heap.size + 1) 0 rfl (stL (.slice KA s.calls.length kc) ((s.mark.put i.dst v).next 0) false) _ HN8.out.g.s.range Try.underlying83 rfl (by rw [stL_length]; exact info_state) ?_
  refine wpList_store_mid rfl 83 (.tmp 8) (.tmp 262) rfl (w.heap.size + 2) 0 (stL (.slice KA s.calls.length kc) ((s.mark.put i.dst v).next 0) false).toArray rfl rfl (by rw [stA_size]; exact HT9.out) (by rw [stA_size]; exact info_state) (stL_one _ rfl _ _) ?_
  rw [← HW10.out]
  go_wp2
  exact bodyPost_ret (v := .agg (stL (.slice KA s.calls.length kc) ((s.mark.put i.dst v).next 0) false).toArray) (results_cell1_range Try.results26 _ _ (w.heap.size + 2) 0 _ _ rfl HR10.out Try.underlying83 rfl (by rw [stL_length]; exact info_state)) rfl ⟨KA, kc, rfl, (HH.out.sl.move (Mv.of_below HB10.out okc)).mono (fun _ _ h => .inl h), HB10.out⟩

set_option maxRecDepth 100000 in
set_option maxHeartbeats 8000000 in
theorem stepr_sts {w : World} {okc : Nat → Prop} {KA : Option Addr} {kc : Nat} {s : Vm} {IA : Option Addr} {ic : Nat} {pr : List Ins8} {CA : Option Addr} {cc : Nat} {cx : List UInt8} {A : Option Addr} {ca : Nat} {ans : List Nat} (ctx : Int) (H : StepIn w okc KA kc s IA ic pr CA cc cx A ca ans) (i : Ins8) (hi : pr[s.at_]? = some i) (hm : i.May) (hop : i.op = 18) (hsd : s.set i.dst = true) (hss : s.set i.src = true) (hpl : 0 ≤ (s.reg i.dst : Int) + i.off) (hph : (s.reg i.dst : Int) + i.off < 64) :
    Calls Try.prog 26 #[.agg #[.int .i64 ctx, .slice IA pr.length ic], .slice CA cx.length cc, .slice A ans.length ca, .agg (stL (.slice KA s.calls.length kc) s false).toArray] w (StepPost w okc ((s.mark.poke ((s.reg i.dst : Int) + i.off).toNat (s.reg i.src % 256)).next 0) false) := by
  obtain ⟨L, hL⟩ : ∃ L, L = (stL (.slice KA s.calls.length kc) s false).toArray := ⟨_, rfl⟩
  obtain ⟨W1, hW1⟩ : ∃ W1, W1 = ((w.alloc (.cells #[.int .i64 ctx, .slice IA pr.length ic] 24)).alloc (.cells L 83)).alloc (.cells Try.zeroCells83 83) := ⟨_, rfl⟩
  have G1 : S3 w (.int .i64 ctx) (.slice IA pr.length ic) (stF (.slice KA s.calls.length kc) s false) W1 := by rw [hW1, hL]; exact S3.start w _ _ _ _ size_state
  have hz1 : W1.heap.size = w.heap.size + 3 := by rw [hW1]; simp
  have HZ1 := Lib.hid hz1; clear hz1
  have c0 : W1.cell? ⟨w.heap.size + 1, 0, none⟩ = some (.int .i64 (s.at_ : Int)) := G1.s.cell 0 (by omega)
  have c23 := G1.s.cell 23 (by omega)
  have f23 := G1.s.frozen 23
  have c1 := G1.p1
  have G2 := (G1.put 23 (.int .i64 (s.at_ : Int))).congr (stF_mark (.slice KA s.calls.length kc) s false)
  have HG2 := Lib.hid G2; clear G2
  have HG1 := Lib.hid G1; clear G1
  rw [← hL]
  clear hL
  have HW1 := Lib.hid hW1; clear hW1
  obtain ⟨hat, _⟩ := List.getElem?_eq_some_iff.1 hi
  have hat' : (s.at_ : Int) < pr.length := by omega
  obtain ⟨a, rfl, _, hab, hcl⟩ := H.ins.at_ (j := s.at_ * 5) (by have := Nat.mul_lt_mul_of_pos_right hat (show 0 < 5 by omega); exact this)
  have hld : ∀ j v, (insCells i)[j]? = some v → (W1.setCell ⟨w.heap.size + 1, 23, none⟩ (.int .i64 (s.at_ : Int))).cell? ((a.add (s.at_ * 5)).add j) = some v := fun j v hv => by
    have hj : j < 5 := by
      rcases Nat.lt_or_ge j 5 with h | h
      · exact h
      · rw [List.getElem?_eq_none (by simpa [insCells] using h)] at hv; cases hv
    rw [add_add]
    have := hcl (s.at_ * 5 + j) v (by rw [ins_cells pr s.at_ j i hi hj]; exact hv)
    exact (World.cell?_of_block (HG2.out.b.block _ (by rw [add_block]; exact hab))).trans this
  have hld : ∀ j v, [.int .i64 18, .int .i64 (i.dst : Int), .int .i64 (i.src : Int), .int .i64 i.off, .int .u32 (i.imm : Int)][j]? = some v → (W1.setCell ⟨w.heap.size + 1, 23, none⟩ (.int .i64 (s.at_ : Int))).cell? ((a.add (s.at_ * 5)).add j) = some v := fun j v hv => hld j v (by simp only [insCells, hop]; exact hv)
  have hu : ∀ W : World, Calls Try.prog 27 #[.int .i64 18] W fun e w' => e = .returned (.tuple #[.bool true, .bool true, .bool true, .bool false, .bool true]) ∧ W = w' := fun W => by
    have := uses_in W i.op hm.op1 hm.op2
    rw [hop] at this
    exact this
  have hdst := hm.dst
  have hsrc := hm.src
  have hdst' : (i.dst : Int) < 10 := by omega
  have hsrc' : (i.src : Int) < 10 := by omega
  have ho1 := hm.off1
  have ho2 := hm.off2
  have him := hm.imm
  have hrd := H.ok.reg i.dst
  have hrs := H.ok.reg i.src
  have HOK := Lib.hid H.ok
  have HH := Lib.hid H
  have hN4 := HG2.out.ins (by rw [← HZ1.out]; simp [World.setCell]) i
  rw [hop] at hN4
  have HN4 := Lib.hid hN4; clear hN4
  have HLD := Lib.hid hld; clear hld
  have HCL := Lib.hid hcl; clear hcl
  have HU := Lib.hid hu; clear hu
  have HOP := Lib.hid hop; clear hop
  have HM := Lib.hid hm; clear hm
  have HI := Lib.hid hi; clear hi
  obtain ⟨p, hp⟩ := Int.eq_ofNat_of_zero_le hpl
  have hp2 : (s.reg i.dst : Int) + i.off = (p : Int) := hp
  have hp3 : p < 64 := by omega
  have hp4 : (p : Int) < 64 := by omega
  have hpe : ((s.reg i.dst : Int) + i.off).toNat = p := by omega
  rw [hpe]
  obtain ⟨v, hv⟩ : ∃ v, v = s.reg i.src % 256 := ⟨_, rfl⟩
  have hv2 : (s.reg i.src : Int) % 256 = (v : Int) := by omega
  have hvl : v < 256 := by omega
  rw [← hv]
  have hwv : IntKind.u8.wrap (v : Int) = (v : Int) := IntWalk.u8_in (v : Int) (by omega)
  have HPL := Lib.hid hpl; clear hpl hph hv hp hpe
  clear H
  go_enter Try.func26, Try.ntmps26
  go_upto_region 1 with fail
  rw [← HW1.out]
  go_upto_region 5 with (refine wpList_value (.agg #[.int .i64 18, .int .i64 (i.dst : Int), .int .i64 (i.src : Int), .int .i64 i.off, .int .u32 (i.imm : Int)]) rfl (exec_load_at 50 (.tmp 38) rfl (a.add (s.at_ * 5)) rfl ([.int .i64 18, .int .i64 (i.dst : Int), .int .i64 (i.src : Int), .int .i64 i.off, .int .u32 (i.imm : Int)]) _ HLD.out Try.underlying50 rfl size_ins) ?_)
  clear c0 c23 f23 c1
  generalize hW4 : (W1.setCell ⟨w.heap.size + 1, 23, none⟩ (.int .i64 (s.at_ : Int))).alloc (.cells #[.int .i64 18, .int .i64 (i.dst : Int), .int .i64 (i.src : Int), .int .i64 i.off, .int .u32 (i.imm : Int)] 50) = W4 at HN4
  rw [HZ1.out]
  have i0 : W4.cell? ⟨w.heap.size + 3, 0, none⟩ = some (.int .i64 18) := (by have := HN4.out.n.cells.1; rw [HOP.out] at this; exact this)
  have i1 := HN4.out.n.cells.2.1
  have i2 := HN4.out.n.cells.2.2.1
  have i3 := HN4.out.n.cells.2.2.2.1
  have i4 := HN4.out.n.cells.2.2.2.2
  have s0 : W4.cell? ⟨w.heap.size + 1, 0, none⟩ = some (.int .i64 (s.at_ : Int)) := HN4.out.g.s.cell 0 (by omega)
  have sd : W4.cell? ⟨w.heap.size + 1, 1 + i.dst, none⟩ = some (.bool (s.set i.dst)) := by rw [HN4.out.g.s.cell (1 + i.dst) (by omega), stF_set _ _ _ _ hdst]; rfl
  have ss : W4.cell? ⟨w.heap.size + 1, 1 + i.src, none⟩ = some (.bool (s.set i.src)) := by rw [HN4.out.g.s.cell (1 + i.src) (by omega), stF_set _ _ _ _ hsrc]; rfl
  have sz : W4.cell? ⟨w.heap.size + 1, 1, none⟩ = some (.bool (s.set 0)) := HN4.out.g.s.cell 1 (by omega)
  go_upto_region 10 with (go_at_call 27; (with_reducible refine (HU.out _).mono ?_); rintro e w' ⟨rfl, rfl⟩)
  clear i0 i1 i2 i3 i4 s0 sd ss sz
  refine wp_region_noPanic ?_
  refine plan (.rd 0 (.rd 1 (.rd 2 (.rd 3 (.rd 4 (.rd 5 (.rd 6 (.rd 7 (.rd 8 (.rd 9 (.rd 10 (.rd 11 .done)))))))))))) [0, 1, 2, 3, 4, 5, 6, 7, 8, 9, 10, 11] (fun W => S4 w (.int .i64 ctx) (.slice (some a) pr.length ic) (stF (.slice KA s.calls.length kc) s.mark false) i W) (by kernel_rfl) (by kernel_rfl) (fun _ _ _ _ _ h => h) HN4.out.drewp ?_
  repeat (refine pl_pure rfl (fun K hK => ?_); go_simp; refine hK _ ?_; clear hK K)
  refine pl_rd (.int .i64 (i.dst : Int)) rfl rfl (fun W hS => ?_) (fun K hK => ?_)
  · have f0 := hS.n.cells.2.1
    simp [go_sem, f0]
  go_simp
  refine hK _ ?_
  clear hK K
  repeat (refine pl_pure rfl (fun K hK => ?_); go_simp; refine hK _ ?_; clear hK K)
  refine pl_rd (.int .i64 (s.reg i.dst : Int)) rfl rfl (fun W hS => ?_) (fun K hK => ?_)
  · have f0 : W.cell? ⟨w.heap.size + 1, 11 + i.dst, none⟩ = some (.int .i64 (s.reg i.dst : Int)) := by rw [hS.g.s.cell (11 + i.dst) (by omega), stF_reg _ _ _ _ hdst]; rfl
    simp [go_sem, f0]
  go_simp
  refine hK _ ?_
  clear hK K
  repeat (refine pl_pure rfl (fun K hK => ?_); go_simp; refine hK _ ?_; clear hK K)
  refine pl_rd (.int .i64 (i.src : Int)) rfl rfl (fun W hS => ?_) (fun K hK => ?_)
  · have f0 := hS.n.cells.2.2.1
    simp [go_sem, f0]
  go_simp
  refine hK _ ?_
  clear hK K
  repeat (refine pl_pure rfl (fun K hK => ?_); go_simp; refine hK _ ?_; clear hK K)
  refine pl_rd (.int .i64 (s.reg i.src : Int)) rfl rfl (fun W hS => ?_) (fun K hK => ?_)
  · have f0 : W.cell? ⟨w.heap.size + 1, 11 + i.src, none⟩ = some (.int .i64 (s.reg i.src : Int)) := by rw [hS.g.s.cell (11 + i.src) (by omega), stF_reg _ _ _ _ hsrc]; rfl
    simp [go_sem, f0]
  go_simp
  refine hK _ ?_
  clear hK K
  repeat (refine pl_pure rfl (fun K hK => ?_); go_simp; refine hK _ ?_; clear hK K)
  refine pl_done ?_
  refine NoPanic.normal ?_
  have HN5 := Lib.hid HN4.out.drewp
  generalize hW5 : W4.drew = W5 at HN5 ⊢
  clear hW5
  have i0 : W5.cell? ⟨w.heap.size + 3, 0, none⟩ = some (.int .i64 18) := (by have := HN5.out.n.cells.1; rw [HOP.out] at this; exact this)
  have i1 := HN5.out.n.cells.2.1
  have i2 := HN5.out.n.cells.2.2.1
  have i3 := HN5.out.n.cells.2.2.2.1
  have i4 := HN5.out.n.cells.2.2.2.2
  have s0 : W5.cell? ⟨w.heap.size + 1, 0, none⟩ = some (.int .i64 (s.at_ : Int)) := HN5.out.g.s.cell 0 (by omega)
  have cp := HN5.out.g.s.cell (26 + p) (by omega)
  have fp := HN5.out.g.s.frozen (26 + p)
  have HN7 := Lib.hid ((HN5.out.put (26 + p) (.int .u8 (v : Int))).congr (stF_poke (.slice KA s.calls.length kc) s.mark false p v hp3))
  go_upto_region 39 with fail
  clear i0 i1 i2 i3 i4 s0 cp fp
  generalize hW7 : W5.setCell ⟨w.heap.size + 1, 26 + p, none⟩ (.int .u8 (v : Int)) = W7 at HN7 ⊢
  clear hW7
  have c0 : W7.cell? ⟨w.heap.size + 1, 0, none⟩ = some (.int .i64 (s.at_ : Int)) := HN7.out.g.s.cell 0 (by omega)
  have c21 : W7.cell? ⟨w.heap.size + 1, 21, none⟩ = some (.int .i64 (s.steps : Int)) := HN7.out.g.s.cell 21 (by omega)
  have f0 := HN7.out.g.s.frozen 0
  have f21 := HN7.out.g.s.frozen 21
  have hat9 := HH.out.at_
  have hst9 := HH.out.st
  have HN8 := Lib.hid (((HN7.out.put 21 (.int .i64 ((s.steps : Int) + 1))).put 0 (.int .i64 ((s.at_ : Int) + 1))).congr (stF_next (.slice KA s.calls.length kc) (s.mark.poke p v) false 0 ((s.at_ : Int) + 1) (by simp only [Vm.next]; show _ = (((s.at_ : Int) + (1 + _)).toNat : Int); omega)))
  go_upto_region 41 with fail
  generalize hW8 : (W7.setCell ⟨w.heap.size + 1, 21, none⟩ (.int .i64 ((s.steps : Int) + 1))).setCell ⟨w.heap.size + 1, 0, none⟩ (.int .i64 ((s.at_ : Int) + 1)) = W8 at HN8 ⊢
  clear hW8 c0 c21 f0 f21
  obtain ⟨HT9, W10, HW10, HR10, HK10, HB10⟩ := HN8.out.g.done (stL (.slice KA s.calls.length kc) ((s.mark.poke p v).next 0) false) (stL_length _ _ _)
  refine wp_region_list ?_
  refine wpList_load_mid rfl 83 (.tmp 7) rfl (w.heap.size + 1) 0 rfl (stL (.slice KA s.calls.length kc) ((s.mark.poke p v).next 0) false) _ HN8.out.g.s.range Try.underlying83 rfl (by rw [stL_length]; exact info_state) ?_
  refine wpList_store_mid rfl 83 (.tmp 8) (.tmp 262) rfl (w.heap.size + 2) 0 (stL (.slice KA s.calls.length kc) ((s.mark.poke p v).next 0) false).toArray rfl rfl (by rw [stA_size]; exact HT9.out) (by rw [stA_size]; exact info_state) (stL_one _ rfl _ _) ?_
  rw [← HW10.out]
  go_wp2
  exact bodyPost_ret (v := .agg (stL (.slice KA s.calls.length kc) ((s.mark.poke p v).next 0) false).toArray) (results_cell1_range Try.results26 _ _ (w.heap.size + 2) 0 _ _ rfl HR10.out Try.underlying83 rfl (by rw [stL_length]; exact info_state)) rfl ⟨KA, kc, rfl, (HH.out.sl.move (Mv.of_below HB10.out okc)).mono (fun _ _ h => .inl h), HB10.out⟩

end Go.Proofs.Ytpnkbpjhbmacaaa
