/- The document's run: a step (fall u1 u2 u3 u4 u5 u6 u7 u8 u9 u10 u11 u12 u13 d14 d15). -/
import Derived.Test.YtpnkbpjhbmacaaaRv11
set_option linter.unusedVariables false
set_option linter.unusedSimpArgs false
namespace Go.Proofs.Ytpnkbpjhbmacaaa
open Go.RowKit

set_option maxRecDepth 100000 in
set_option maxHeartbeats 4000000 in
theorem stepr_out {w : World} {okc : Nat → Prop} {KA : Option Addr} {kc : Nat} {s : Vm} {IA : Option Addr} {ic : Nat} {pr : List Ins8} {CA : Option Addr} {cc : Nat} {cx : List UInt8} {A : Option Addr} {ca : Nat} {ans : List Nat} (ctx : Int) (H : StepIn w okc KA kc s IA ic pr CA cc cx A ca ans) (hlt : pr.length ≤ s.at_) :
    Calls Try.prog 26 #[.agg #[.int .i64 ctx, .slice IA pr.length ic], .slice CA cx.length cc, .slice A ans.length ca, .agg (stL (.slice KA s.calls.length kc) s false).toArray] w (StepPost w okc (s.mark.fall 1) true) := by
  obtain ⟨L, hL⟩ : ∃ L, L = (stL (.slice KA s.calls.length kc) s false).toArray := ⟨_, rfl⟩
  obtain ⟨W1, hW1⟩ : ∃ W1, W1 = ((w.alloc (.cells #[.int .i64 ctx, .slice IA pr.length ic] 24)).alloc (.cells L 83)).alloc (.cells Try.zeroCells83 83) := ⟨_, rfl⟩
  have G1 : S3 w (.int .i64 ctx) (.slice IA pr.length ic) (stF (.slice KA s.calls.length kc) s false) W1 := by rw [hW1, hL]; exact S3.start w _ _ _ _ size_state
  have hz1 : W1.heap.size = w.heap.size + 3 := by rw [hW1]; simp
  have HZ1 := Lib.hid hz1; clear hz1
  have c0 : W1.cell? ⟨w.heap.size + 1, 0, none⟩ = some (.int .i64 (s.at_ : Int)) := G1.s.cell 0 (by omega)
  have c23 := G1.s.cell 23 (by omega)
  have f23 := G1.s.frozen 23
  have c1 := G1.p1
  have G2 := (G1.put 23 (.int .i64 (s.at_ : Int))).congr (stF_mark (.slice KA s.calls.length kc) s false)
  have HG2 := Lib.hid G2; clear G2
  have HG1 := Lib.hid G1; clear G1
  rw [← hL]
  clear hL
  have HW1 := Lib.hid hW1; clear hW1
  have HH := Lib.hid H
  go_enter Try.func26, Try.ntmps26
  go_upto_region 1 with fail
  rw [← HW1.out]
  go_upto_region 3 with fail
  generalize hW2 : W1.setCell ⟨w.heap.size + 1, 23, none⟩ (.int .i64 (s.at_ : Int)) = W2 at HG2 ⊢
  clear hW2
  have HF := Lib.hid (show ∀ W : World, Calls Try.prog 33 #[.agg (stL (.slice KA s.calls.length kc) s.mark false).toArray, .int .i64 1] W fun e w' => e = .returned (.agg (stL (.slice KA s.calls.length kc) (s.mark.fall 1) true).toArray) ∧ Below W.heap.size W w' from fun W => faultsr_ok W (.slice KA s.calls.length kc) rfl s.mark false 1)
  refine wp_region_list ?_
  refine wpList_load_mid rfl 83 (.tmp 7) rfl (w.heap.size + 1) 0 rfl (stL (.slice KA s.calls.length kc) s.mark false) _ HG2.out.s.range Try.underlying83 rfl (by rw [stL_length]; exact info_state) ?_
  go_wp2_with (first | (go_at_call 33; (with_reducible refine (HF.out _).mono ?_); rintro e w9 ⟨rfl, hb9⟩; have HB9 := Lib.hid hb9; clear hb9; have HG9 := Lib.hid (HG2.out.more HB9.out); obtain ⟨HT9, W10, HW10, HR10, HK10, HB10⟩ := HG9.out.done (stL (.slice KA s.calls.length kc) (s.mark.fall 1) true) (stL_length _ _ _)) | (refine wpList_store_mid rfl 83 (.tmp 8) (.tmp 33) rfl (w.heap.size + 2) 0 (stL (.slice KA s.calls.length kc) (s.mark.fall 1) true).toArray rfl rfl (by rw [stA_size]; exact HT9.out) (by rw [stA_size]; exact info_state) (stL_one _ rfl _ _) ?_; rw [← HW10.out]))
  exact bodyPost_ret (v := .agg (stL (.slice KA s.calls.length kc) (s.mark.fall 1) true).toArray) (results_cell1_range Try.results26 _ _ (w.heap.size + 2) 0 _ _ rfl HR10.out Try.underlying83 rfl (by rw [stL_length]; exact info_state)) rfl ⟨KA, kc, rfl, (HH.out.sl.move (Mv.of_below HB10.out okc)).mono (fun _ _ h => .inl h), HB10.out⟩

set_option maxRecDepth 100000 in
set_option maxHeartbeats 8000000 in
theorem stepr_u1 {w : World} {okc : Nat → Prop} {KA : Option Addr} {kc : Nat} {s : Vm} {IA : Option Addr} {ic : Nat} {pr : List Ins8} {CA : Option Addr} {cc : Nat} {cx : List UInt8} {A : Option Addr} {ca : Nat} {ans : List Nat} (ctx : Int) (H : StepIn w okc KA kc s IA ic pr CA cc cx A ca ans) (i : Ins8) (hi : pr[s.at_]? = some i) (hm : i.May) (hop : i.op = 3 ∨ i.op = 6 ∨ i.op = 8 ∨ i.op = 12 ∨ i.op = 13) (hsd : s.set i.dst = false) :
    Calls Try.prog 26 #[.agg #[.int .i64 ctx, .slice IA pr.length ic], .slice CA cx.length cc, .slice A ans.length ca, .agg (stL (.slice KA s.calls.length kc) s false).toArray] w (StepPost w okc (s.mark.fall 2) true) := by
  obtain ⟨L, hL⟩ : ∃ L, L = (stL (.slice KA s.calls.length kc) s false).toArray := ⟨_, rfl⟩
  obtain ⟨W1, hW1⟩ : ∃ W1, W1 = ((w.alloc (.cells #[.int .i64 ctx, .slice IA pr.length ic] 24)).alloc (.cells L 83)).alloc (.cells Try.zeroCells83 83) := ⟨_, rfl⟩
  have G1 : S3 w (.int .i64 ctx) (.slice IA pr.length ic) (stF (.slice KA s.calls.length kc) s false) W1 := by rw [hW1, hL]; exact S3.start w _ _ _ _ size_state
  have hz1 : W1.heap.size = w.heap.size + 3 := by rw [hW1]; simp
  have HZ1 := Lib.hid hz1; clear hz1
  have c0 : W1.cell? ⟨w.heap.size + 1, 0, none⟩ = some (.int .i64 (s.at_ : Int)) := G1.s.cell 0 (by omega)
  have c23 := G1.s.cell 23 (by omega)
  have f23 := G1.s.frozen 23
  have c1 := G1.p1
  have G2 := (G1.put 23 (.int .i64 (s.at_ : Int))).congr (stF_mark (.slice KA s.calls.length kc) s false)
  have HG2 := Lib.hid G2; clear G2
  have HG1 := Lib.hid G1; clear G1
  rw [← hL]
  clear hL
  have HW1 := Lib.hid hW1; clear hW1
  obtain ⟨hat, _⟩ := List.getElem?_eq_some_iff.1 hi
  have hat' : (s.at_ : Int) < pr.length := by omega
  obtain ⟨a, rfl, _, hab, hcl⟩ := H.ins.at_ (j := s.at_ * 5) (by have := Nat.mul_lt_mul_of_pos_right hat (show 0 < 5 by omega); exact this)
  have hld : ∀ j v, (insCells i)[j]? = some v → (W1.setCell ⟨w.heap.size + 1, 23, none⟩ (.int .i64 (s.at_ : Int))).cell? ((a.add (s.at_ * 5)).add j) = some v := fun j v hv => by
    have hj : j < 5 := by
      rcases Nat.lt_or_ge j 5 with h | h
      · exact h
      · rw [List.getElem?_eq_none (by simpa [insCells] using h)] at hv; cases hv
    rw [add_add]
    have := hcl (s.at_ * 5 + j) v (by rw [ins_cells pr s.at_ j i hi hj]; exact hv)
    exact (World.cell?_of_block (HG2.out.b.block _ (by rw [add_block]; exact hab))).trans this
  have hu : ∀ W : World, Calls Try.prog 27 #[.int .i64 (i.op : Int)] W fun e w' => e = .returned (.tuple #[.bool true, .bool false, .bool false, .bool true, .bool true]) ∧ W = w' := fun W => by
    have := uses_in W i.op hm.op1 hm.op2
    have e : uD i.op = true ∧ uS i.op = false ∧ uO i.op = false ∧ uI i.op = true := by rcases hop with h | h | h | h | h <;> rw [h] <;> exact ⟨rfl, rfl, rfl, rfl⟩
    rw [e.1, e.2.1, e.2.2.1, e.2.2.2] at this
    exact this
  have : decide ((i.op : Int) ≥ 3) = true := by simp; omega
  have : decide (3 ≤ (i.op : Int)) = true := by simp; omega
  have : decide ((i.op : Int) ≤ 22) = true := by simp; omega
  have : decide ((i.op : Int) ≥ 16) = false := by simp; omega
  have : decide (16 ≤ (i.op : Int)) = false := by simp; omega
  have : decide ((i.op : Int) ≤ 18) = true := by simp; omega
  have : decide ((i.op : Int) ≤ 15) = true := by simp; omega
  have : decide ((i.op : Int) ≥ 21) = false := by simp; omega
  have : decide (21 ≤ (i.op : Int)) = false := by simp; omega
  have : ((i.op : Int) == 14) = false := by simp; omega
  have : ((i.op : Int) != 14) = true := by simp; omega
  have : ((i.op : Int) == 15) = false := by simp; omega
  have : ((i.op : Int) != 15) = true := by simp; omega
  have : ((i.op : Int) == 16) = false := by simp; omega
  have : ((i.op : Int) != 16) = true := by simp; omega
  have : ((i.op : Int) == 17) = false := by simp; omega
  have : ((i.op : Int) != 17) = true := by simp; omega
  have : ((i.op : Int) == 18) = false := by simp; omega
  have : ((i.op : Int) != 18) = true := by simp; omega
  have : ((i.op : Int) == 19) = false := by simp; omega
  have : ((i.op : Int) != 19) = true := by simp; omega
  have : ((i.op : Int) == 20) = false := by simp; omega
  have : ((i.op : Int) != 20) = true := by simp; omega
  have : ((i.op : Int) == 23) = false := by simp; omega
  have : ((i.op : Int) != 23) = true := by simp; omega
  have : ((i.op : Int) == 24) = false := by simp; omega
  have : ((i.op : Int) != 24) = true := by simp; omega
  have hdst := hm.dst
  have hsrc := hm.src
  have hdst' : (i.dst : Int) < 10 := by omega
  have hsrc' : (i.src : Int) < 10 := by omega
  have ho1 := hm.off1
  have ho2 := hm.off2
  have him := hm.imm
  have hrd := H.ok.reg i.dst
  have hrs := H.ok.reg i.src
  have HOK := Lib.hid H.ok
  have HH := Lib.hid H
  have hN4 := HG2.out.ins (by rw [← HZ1.out]; simp [World.setCell]) i
  have HN4 := Lib.hid hN4; clear hN4
  have HLD := Lib.hid hld; clear hld
  have HCL := Lib.hid hcl; clear hcl
  have HU := Lib.hid hu; clear hu
  have HOP := Lib.hid hop; clear hop
  have HM := Lib.hid hm; clear hm
  have HI := Lib.hid hi; clear hi
  clear H
  go_enter Try.func26, Try.ntmps26
  go_upto_region 1 with fail
  rw [← HW1.out]
  go_upto_region 5 with (refine wpList_value (.agg #[.int .i64 (i.op : Int), .int .i64 (i.dst : Int), .int .i64 (i.src : Int), .int .i64 i.off, .int .u32 (i.imm : Int)]) rfl (exec_load_at 50 (.tmp 38) rfl (a.add (s.at_ * 5)) rfl (insCells i) _ HLD.out Try.underlying50 rfl size_ins) ?_)
  clear c0 c23 f23 c1
  generalize hW4 : (W1.setCell ⟨w.heap.size + 1, 23, none⟩ (.int .i64 (s.at_ : Int))).alloc (.cells #[.int .i64 (i.op : Int), .int .i64 (i.dst : Int), .int .i64 (i.src : Int), .int .i64 i.off, .int .u32 (i.imm : Int)] 50) = W4 at HN4
  rw [HZ1.out]
  have i0 : W4.cell? ⟨w.heap.size + 3, 0, none⟩ = some (.int .i64 (i.op : Int)) := HN4.out.n.cells.1
  have i1 := HN4.out.n.cells.2.1
  have i2 := HN4.out.n.cells.2.2.1
  have i3 := HN4.out.n.cells.2.2.2.1
  have i4 := HN4.out.n.cells.2.2.2.2
  have s0 : W4.cell? ⟨w.heap.size + 1, 0, none⟩ = some (.int .i64 (s.at_ : Int)) := HN4.out.g.s.cell 0 (by omega)
  have sd : W4.cell? ⟨w.heap.size + 1, 1 + i.dst, none⟩ = some (.bool (s.set i.dst)) := by rw [HN4.out.g.s.cell (1 + i.dst) (by omega), stF_set _ _ _ _ hdst]; rfl
  have ss : W4.cell? ⟨w.heap.size + 1, 1 + i.src, none⟩ = some (.bool (s.set i.src)) := by rw [HN4.out.g.s.cell (1 + i.src) (by omega), stF_set _ _ _ _ hsrc]; rfl
  have sz : W4.cell? ⟨w.heap.size + 1, 1, none⟩ = some (.bool (s.set 0)) := HN4.out.g.s.cell 1 (by omega)
  go_upto_region 9 with (go_at_call 27; (with_reducible refine (HU.out _).mono ?_); rintro e w' ⟨rfl, rfl⟩)
  have HF := Lib.hid (show ∀ W : World, Calls Try.prog 33 #[.agg (stL (.slice KA s.calls.length kc) s.mark false).toArray, .int .i64 2] W fun e w' => e = .returned (.agg (stL (.slice KA s.calls.length kc) (s.mark.fall 2) true).toArray) ∧ Below W.heap.size W w' from fun W => faultsr_ok W (.slice KA s.calls.length kc) rfl s.mark false 2)
  refine wp_region_list ?_
  refine wpList_load_mid rfl 83 (.tmp 7) rfl (w.heap.size + 1) 0 rfl (stL (.slice KA s.calls.length kc) s.mark false) _ HN4.out.g.s.range Try.underlying83 rfl (by rw [stL_length]; exact info_state) ?_
  go_wp2_with (first | (go_at_call 33; (with_reducible refine (HF.out _).mono ?_); rintro e w9 ⟨rfl, hb9⟩; have HB9 := Lib.hid hb9; clear hb9; have HG9 := Lib.hid (HN4.out.g.more HB9.out); obtain ⟨HT9, W10, HW10, HR10, HK10, HB10⟩ := HG9.out.done (stL (.slice KA s.calls.length kc) (s.mark.fall 2) true) (stL_length _ _ _)) | (refine wpList_store_mid rfl 83 (.tmp 8) (.tmp 99) rfl (w.heap.size + 2) 0 (stL (.slice KA s.calls.length kc) (s.mark.fall 2) true).toArray rfl rfl (by rw [stA_size]; exact HT9.out) (by rw [stA_size]; exact info_state) (stL_one _ rfl _ _) ?_; rw [← HW10.out]))
  exact bodyPost_ret (v := .agg (stL (.slice KA s.calls.length kc) (s.mark.fall 2) true).toArray) (results_cell1_range Try.results26 _ _ (w.heap.size + 2) 0 _ _ rfl HR10.out Try.underlying83 rfl (by rw [stL_length]; exact info_state)) rfl ⟨KA, kc, rfl, (HH.out.sl.move (Mv.of_below HB10.out okc)).mono (fun _ _ h => .inl h), HB10.out⟩

set_option maxRecDepth 100000 in
set_option maxHeartbeats 8000000 in
theorem stepr_u2 {w : World} {okc : Nat → Prop} {KA : Option Addr} {kc : Nat} {s : Vm} {IA : Option Addr} {ic : Nat} {pr : List Ins8} {CA : Option Addr} {cc : Nat} {cx : List UInt8} {A : Option Addr} {ca : Nat} {ans : List Nat} (ctx : Int) (H : StepIn w okc KA kc s IA ic pr CA cc cx A ca ans) (i : Ins8) (hi : pr[s.at_]? = some i) (hm : i.May) (hop : i.op = 4 ∨ i.op = 5 ∨ i.op = 7 ∨ i.op = 9 ∨ i.op = 10 ∨ i.op = 11 ∨ i.op = 14 ∨ i.op = 15) (hsd : s.set i.dst = false) :
    Calls Try.prog 26 #[.agg #[.int .i64 ctx, .slice IA pr.length ic], .slice CA cx.length cc, .slice A ans.length ca, .agg (stL (.slice KA s.calls.length kc) s false).toArray] w (StepPost w okc (s.mark.fall 2) true) := by
  obtain ⟨L, hL⟩ : ∃ L, L = (stL (.slice KA s.calls.length kc) s false).toArray := ⟨_, rfl⟩
  obtain ⟨W1, hW1⟩ : ∃ W1, W1 = ((w.alloc (.cells #[.int .i64 ctx, .slice IA pr.length ic] 24)).alloc (.cells L 83)).alloc (.cells Try.zeroCells83 83) := ⟨_, rfl⟩
  have G1 : S3 w (.int .i64 ctx) (.slice IA pr.length ic) (stF (.slice KA s.calls.length kc) s false) W1 := by rw [hW1, hL]; exact S3.start w _ _ _ _ size_state
  have hz1 : W1.heap.size = w.heap.size + 3 := by rw [hW1]; simp
  have HZ1 := Lib.hid hz1; clear hz1
  have c0 : W1.cell? ⟨w.heap.size + 1, 0, none⟩ = some (.int .i64 (s.at_ : Int)) := G1.s.cell 0 (by omega)
  have c23 := G1.s.cell 23 (by omega)
  have f23 := G1.s.frozen 23
  have c1 := G1.p1
  have G2 := (G1.put 23 (.int .i64 (s.at_ : Int))).congr (stF_mark (.slice KA s.calls.length kc) s false)
  have HG2 := Lib.hid G2; clear G2
  have HG1 := Lib.hid G1; clear G1
  rw [← hL]
  clear hL
  have HW1 := Lib.hid hW1; clear hW1
  obtain ⟨hat, _⟩ := List.getElem?_eq_some_iff.1 hi
  have hat' : (s.at_ : Int) < pr.length := by omega
  obtain ⟨a, rfl, _, hab, hcl⟩ := H.ins.at_ (j := s.at_ * 5) (by have := Nat.mul_lt_mul_of_pos_right hat (show 0 < 5 by omega); exact this)
  have hld : ∀ j v, (insCells i)[j]? = some v → (W1.setCell ⟨w.heap.size + 1, 23, none⟩ (.int .i64 (s.at_ : Int))).cell? ((a.add (s.at_ * 5)).add j) = some v := fun j v hv => by
    have hj : j < 5 := by
      rcases Nat.lt_or_ge j 5 with h | h
      · exact h
      · rw [List.getElem?_eq_none (by simpa [insCells] using h)] at hv; cases hv
    rw [add_add]
    have := hcl (s.at_ * 5 + j) v (by rw [ins_cells pr s.at_ j i hi hj]; exact hv)
    exact (World.cell?_of_block (HG2.out.b.block _ (by rw [add_block]; exact hab))).trans this
  have hu : ∀ W : World, Calls Try.prog 27 #[.int .i64 (i.op : Int)] W fun e w' => e = .returned (.tuple #[.bool true, .bool true, .bool false, .bool false, .bool true]) ∧ W = w' := fun W => by
    have := uses_in W i.op hm.op1 hm.op2
    have e : uD i.op = true ∧ uS i.op = true ∧ uO i.op = false ∧ uI i.op = false := by rcases hop with h | h | h | h | h | h | h | h <;> rw [h] <;> exact ⟨rfl, rfl, rfl, rfl⟩
    rw [e.1, e.2.1, e.2.2.1, e.2.2.2] at this
    exact this
  have : decide ((i.op : Int) ≥ 3) = true := by simp; omega
  have : decide (3 ≤ (i.op : Int)) = true := by simp; omega
  have : decide ((i.op : Int) ≤ 22) = true := by simp; omega
  have : decide ((i.op : Int) ≥ 16) = false := by simp; omega
  have : decide (16 ≤ (i.op : Int)) = false := by simp; omega
  have : decide ((i.op : Int) ≤ 18) = true := by simp; omega
  have : decide ((i.op : Int) ≤ 15) = true := by simp; omega
  have : decide ((i.op : Int) ≥ 21) = false := by simp; omega
  have : decide (21 ≤ (i.op : Int)) = false := by simp; omega
  have : ((i.op : Int) == 16) = false := by simp; omega
  have : ((i.op : Int) != 16) = true := by simp; omega
  have : ((i.op : Int) == 17) = false := by simp; omega
  have : ((i.op : Int) != 17) = true := by simp; omega
  have : ((i.op : Int) == 18) = false := by simp; omega
  have : ((i.op : Int) != 18) = true := by simp; omega
  have : ((i.op : Int) == 19) = false := by simp; omega
  have : ((i.op : Int) != 19) = true := by simp; omega
  have : ((i.op : Int) == 20) = false := by simp; omega
  have : ((i.op : Int) != 20) = true := by simp; omega
  have : ((i.op : Int) == 23) = false := by simp; omega
  have : ((i.op : Int) != 23) = true := by simp; omega
  have : ((i.op : Int) == 24) = false := by simp; omega
  have : ((i.op : Int) != 24) = true := by simp; omega
  have hdst := hm.dst
  have hsrc := hm.src
  have hdst' : (i.dst : Int) < 10 := by omega
  have hsrc' : (i.src : Int) < 10 := by omega
  have ho1 := hm.off1
  have ho2 := hm.off2
  have him := hm.imm
  have hrd := H.ok.reg i.dst
  have hrs := H.ok.reg i.src
  have HOK := Lib.hid H.ok
  have HH := Lib.hid H
  have hN4 := HG2.out.ins (by rw [← HZ1.out]; simp [World.setCell]) i
  have HN4 := Lib.hid hN4; clear hN4
  have HLD := Lib.hid hld; clear hld
  have HCL := Lib.hid hcl; clear hcl
  have HU := Lib.hid hu; clear hu
  have HOP := Lib.hid hop; clear hop
  have HM := Lib.hid hm; clear hm
  have HI := Lib.hid hi; clear hi
  clear H
  go_enter Try.func26, Try.ntmps26
  go_upto_region 1 with fail
  rw [← HW1.out]
  go_upto_region 5 with (refine wpList_value (.agg #[.int .i64 (i.op : Int), .int .i64 (i.dst : Int), .int .i64 (i.src : Int), .int .i64 i.off, .int .u32 (i.imm : Int)]) rfl (exec_load_at 50 (.tmp 38) rfl (a.add (s.at_ * 5)) rfl (insCells i) _ HLD.out Try.underlying50 rfl size_ins) ?_)
  clear c0 c23 f23 c1
  generalize hW4 : (W1.setCell ⟨w.heap.size + 1, 23, none⟩ (.int .i64 (s.at_ : Int))).alloc (.cells #[.int .i64 (i.op : Int), .int .i64 (i.dst : Int), .int .i64 (i.src : Int), .int .i64 i.off, .int .u32 (i.imm : Int)] 50) = W4 at HN4
  rw [HZ1.out]
  have i0 : W4.cell? ⟨w.heap.size + 3, 0, none⟩ = some (.int .i64 (i.op : Int)) := HN4.out.n.cells.1
  have i1 := HN4.out.n.cells.2.1
  have i2 := HN4.out.n.cells.2.2.1
  have i3 := HN4.out.n.cells.2.2.2.1
  have i4 := HN4.out.n.cells.2.2.2.2
  have s0 : W4.cell? ⟨w.heap.size + 1, 0, none⟩ = some (.int .i64 (s.at_ : Int)) := HN4.out.g.s.cell 0 (by omega)
  have sd : W4.cell? ⟨w.heap.size + 1, 1 + i.dst, none⟩ = some (.bool (s.set i.dst)) := by rw [HN4.out.g.s.cell (1 + i.dst) (by omega), stF_set _ _ _ _ hdst]; rfl
  have ss : W4.cell? ⟨w.heap.size + 1, 1 + i.src, none⟩ = some (.bool (s.set i.src)) := by rw [HN4.out.g.s.cell (1 + i.src) (by omega), stF_set _ _ _ _ hsrc]; rfl
  have sz : W4.cell? ⟨w.heap.size + 1, 1, none⟩ = some (.bool (s.set 0)) := HN4.out.g.s.cell 1 (by omega)
  go_upto_region 9 with (go_at_call 27; (with_reducible refine (HU.out _).mono ?_); rintro e w' ⟨rfl, rfl⟩)
  have HF := Lib.hid (show ∀ W : World, Calls Try.prog 33 #[.agg (stL (.slice KA s.calls.length kc) s.mark false).toArray, .int .i64 2] W fun e w' => e = .returned (.agg (stL (.slice KA s.calls.length kc) (s.mark.fall 2) true).toArray) ∧ Below W.heap.size W w' from fun W => faultsr_ok W (.slice KA s.calls.length kc) rfl s.mark false 2)
  refine wp_region_list ?_
  refine wpList_load_mid rfl 83 (.tmp 7) rfl (w.heap.size + 1) 0 rfl (stL (.slice KA s.calls.length kc) s.mark false) _ HN4.out.g.s.range Try.underlying83 rfl (by rw [stL_length]; exact info_state) ?_
  go_wp2_with (first | (go_at_call 33; (with_reducible refine (HF.out _).mono ?_); rintro e w9 ⟨rfl, hb9⟩; have HB9 := Lib.hid hb9; clear hb9; have HG9 := Lib.hid (HN4.out.g.more HB9.out); obtain ⟨HT9, W10, HW10, HR10, HK10, HB10⟩ := HG9.out.done (stL (.slice KA s.calls.length kc) (s.mark.fall 2) true) (stL_length _ _ _)) | (refine wpList_store_mid rfl 83 (.tmp 8) (.tmp 99) rfl (w.heap.size + 2) 0 (stL (.slice KA s.calls.length kc) (s.mark.fall 2) true).toArray rfl rfl (by rw [stA_size]; exact HT9.out) (by rw [stA_size]; exact info_state) (stL_one _ rfl _ _) ?_; rw [← HW10.out]))
  exact bodyPost_ret (v := .agg (stL (.slice KA s.calls.length kc) (s.mark.fall 2) true).toArray) (results_cell1_range Try.results26 _ _ (w.heap.size + 2) 0 _ _ rfl HR10.out Try.underlying83 rfl (by rw [stL_length]; exact info_state)) rfl ⟨KA, kc, rfl, (HH.out.sl.move (Mv.of_below HB10.out okc)).mono (fun _ _ h => .inl h), HB10.out⟩

set_option maxRecDepth 100000 in
set_option maxHeartbeats 8000000 in
theorem stepr_u3 {w : World} {okc : Nat → Prop} {KA : Option Addr} {kc : Nat} {s : Vm} {IA : Option Addr} {ic : Nat} {pr : List Ins8} {CA : Option Addr} {cc : Nat} {cx : List UInt8} {A : Option Addr} {ca : Nat} {ans : List Nat} (ctx : Int) (H : StepIn w okc KA kc s IA ic pr CA cc cx A ca ans) (i : Ins8) (hi : pr[s.at_]? = some i) (hm : i.May) (hop : i.op = 4 ∨ i.op = 5 ∨ i.op = 7 ∨ i.op = 9 ∨ i.op = 10 ∨ i.op = 11 ∨ i.op = 14 ∨ i.op = 15) (hsd : s.set i.dst = true) (hss : s.set i.src = false) :
    Calls Try.prog 26 #[.agg #[.int .i64 ctx, .slice IA pr.length ic], .slice CA cx.length cc, .slice A ans.length ca, .agg (stL (.slice KA s.calls.length kc) s false).toArray] w (StepPost w okc (s.mark.fall 2) true) := by
  obtain ⟨L, hL⟩ : ∃ L, L = (stL (.slice KA s.calls.length kc) s false).toArray := ⟨_, rfl⟩
  obtain ⟨W1, hW1⟩ : ∃ W1, W1 = ((w.alloc (.cells #[.int .i64 ctx, .slice IA pr.length ic] 24)).alloc (.cells L 83)).alloc (.cells Try.zeroCells83 83) := ⟨_, rfl⟩
  have G1 : S3 w (.int .i64 ctx) (.slice IA pr.length ic) (stF (.slice KA s.calls.length kc) s false) W1 := by rw [hW1, hL]; exact S3.start w _ _ _ _ size_state
  have hz1 : W1.heap.size = w.heap.size + 3 := by rw [hW1]; simp
  have HZ1 := Lib.hid hz1; clear hz1
  have c0 : W1.cell? ⟨w.heap.size + 1, 0, none⟩ = some (.int .i64 (s.at_ : Int)) := G1.s.cell 0 (by omega)
  have c23 := G1.s.cell 23 (by omega)
  have f23 := G1.s.frozen 23
  have c1 := G1.p1
  have G2 := (G1.put 23 (.int .i64 (s.at_ : Int))).congr (stF_mark (.slice KA s.calls.length kc) s false)
  have HG2 := Lib.hid G2; clear G2
  have HG1 := Lib.hid G1; clear G1
  rw [← hL]
  clear hL
  have HW1 := Lib.hid hW1; clear hW1
  obtain ⟨hat, _⟩ := List.getElem?_eq_some_iff.1 hi
  have hat' : (s.at_ : Int) < pr.length := by omega
  obtain ⟨a, rfl, _, hab, hcl⟩ := H.ins.at_ (j := s.at_ * 5) (by have := Nat.mul_lt_mul_of_pos_right hat (show 0 < 5 by omega); exact this)
  have hld : ∀ j v, (insCells i)[j]? = some v → (W1.setCell ⟨w.heap.size + 1, 23, none⟩ (.int .i64 (s.at_ : Int))).cell? ((a.add (s.at_ * 5)).add j) = some v := fun j v hv => by
    have hj : j < 5 := by
      rcases Nat.lt_or_ge j 5 with h | h
      · exact h
      · rw [List.getElem?_eq_none (by simpa [insCells] using h)] at hv; cases hv
    rw [add_add]
    have := hcl (s.at_ * 5 + j) v (by rw [ins_cells pr s.at_ j i hi hj]; exact hv)
    exact (World.cell?_of_block (HG2.out.b.block _ (by rw [add_block]; exact hab))).trans this
  have hu : ∀ W : World, Calls Try.prog 27 #[.int .i64 (i.op : Int)] W fun e w' => e = .returned (.tuple #[.bool true, .bool true, .bool false, .bool false, .bool true]) ∧ W = w' := fun W => by
    have := uses_in W i.op hm.op1 hm.op2
    have e : uD i.op = true ∧ uS i.op = true ∧ uO i.op = false ∧ uI i.op = false := by rcases hop with h | h | h | h | h | h | h | h <;> rw [h] <;> exact ⟨rfl, rfl, rfl, rfl⟩
    rw [e.1, e.2.1, e.2.2.1, e.2.2.2] at this
    exact this
  have : decide ((i.op : Int) ≥ 3) = true := by simp; omega
  have : decide (3 ≤ (i.op : Int)) = true := by simp; omega
  have : decide ((i.op : Int) ≤ 22) = true := by simp; omega
  have : decide ((i.op : Int) ≥ 16) = false := by simp; omega
  have : decide (16 ≤ (i.op : Int)) = false := by simp; omega
  have : decide ((i.op : Int) ≤ 18) = true := by simp; omega
  have : decide ((i.op : Int) ≤ 15) = true := by simp; omega
  have : decide ((i.op : Int) ≥ 21) = false := by simp; omega
  have : decide (21 ≤ (i.op : Int)) = false := by simp; omega
  have : ((i.op : Int) == 16) = false := by simp; omega
  have : ((i.op : Int) != 16) = true := by simp; omega
  have : ((i.op : Int) == 17) = false := by simp; omega
  have : ((i.op : Int) != 17) = true := by simp; omega
  have : ((i.op : Int) == 18) = false := by simp; omega
  have : ((i.op : Int) != 18) = true := by simp; omega
  have : ((i.op : Int) == 19) = false := by simp; omega
  have : ((i.op : Int) != 19) = true := by simp; omega
  have : ((i.op : Int) == 20) = false := by simp; omega
  have : ((i.op : Int) != 20) = true := by simp; omega
  have : ((i.op : Int) == 23) = false := by simp; omega
  have : ((i.op : Int) != 23) = true := by simp; omega
  have : ((i.op : Int) == 24) = false := by simp; omega
  have : ((i.op : Int) != 24) = true := by simp; omega
  have hdst := hm.dst
  have hsrc := hm.src
  have hdst' : (i.dst : Int) < 10 := by omega
  have hsrc' : (i.src : Int) < 10 := by omega
  have ho1 := hm.off1
  have ho2 := hm.off2
  have him := hm.imm
  have hrd := H.ok.reg i.dst
  have hrs := H.ok.reg i.src
  have HOK := Lib.hid H.ok
  have HH := Lib.hid H
  have hN4 := HG2.out.ins (by rw [← HZ1.out]; simp [World.setCell]) i
  have HN4 := Lib.hid hN4; clear hN4
  have HLD := Lib.hid hld; clear hld
  have HCL := Lib.hid hcl; clear hcl
  have HU := Lib.hid hu; clear hu
  have HOP := Lib.hid hop; clear hop
  have HM := Lib.hid hm; clear hm
  have HI := Lib.hid hi; clear hi
  clear H
  go_enter Try.func26, Try.ntmps26
  go_upto_region 1 with fail
  rw [← HW1.out]
  go_upto_region 5 with (refine wpList_value (.agg #[.int .i64 (i.op : Int), .int .i64 (i.dst : Int), .int .i64 (i.src : Int), .int .i64 i.off, .int .u32 (i.imm : Int)]) rfl (exec_load_at 50 (.tmp 38) rfl (a.add (s.at_ * 5)) rfl (insCells i) _ HLD.out Try.underlying50 rfl size_ins) ?_)
  clear c0 c23 f23 c1
  generalize hW4 : (W1.setCell ⟨w.heap.size + 1, 23, none⟩ (.int .i64 (s.at_ : Int))).alloc (.cells #[.int .i64 (i.op : Int), .int .i64 (i.dst : Int), .int .i64 (i.src : Int), .int .i64 i.off, .int .u32 (i.imm : Int)] 50) = W4 at HN4
  rw [HZ1.out]
  have i0 : W4.cell? ⟨w.heap.size + 3, 0, none⟩ = some (.int .i64 (i.op : Int)) := HN4.out.n.cells.1
  have i1 := HN4.out.n.cells.2.1
  have i2 := HN4.out.n.cells.2.2.1
  have i3 := HN4.out.n.cells.2.2.2.1
  have i4 := HN4.out.n.cells.2.2.2.2
  have s0 : W4.cell? ⟨w.heap.size + 1, 0, none⟩ = some (.int .i64 (s.at_ : Int)) := HN4.out.g.s.cell 0 (by omega)
  have sd : W4.cell? ⟨w.heap.size + 1, 1 + i.dst, none⟩ = some (.bool (s.set i.dst)) := by rw [HN4.out.g.s.cell (1 + i.dst) (by omega), stF_set _ _ _ _ hdst]; rfl
  have ss : W4.cell? ⟨w.heap.size + 1, 1 + i.src, none⟩ = some (.bool (s.set i.src)) := by rw [HN4.out.g.s.cell (1 + i.src) (by omega), stF_set _ _ _ _ hsrc]; rfl
  have sz : W4.cell? ⟨w.heap.size + 1, 1, none⟩ = some (.bool (s.set 0)) := HN4.out.g.s.cell 1 (by omega)
  go_upto_region 9 with (go_at_call 27; (with_reducible refine (HU.out _).mono ?_); rintro e w' ⟨rfl, rfl⟩)
  have HF := Lib.hid (show ∀ W : World, Calls Try.prog 33 #[.agg (stL (.slice KA s.calls.length kc) s.mark false).toArray, .int .i64 2] W fun e w' => e = .returned (.agg (stL (.slice KA s.calls.length kc) (s.mark.fall 2) true).toArray) ∧ Below W.heap.size W w' from fun W => faultsr_ok W (.slice KA s.calls.length kc) rfl s.mark false 2)
  refine wp_region_list ?_
  refine wpList_load_mid rfl 83 (.tmp 7) rfl (w.heap.size + 1) 0 rfl (stL (.slice KA s.calls.length kc) s.mark false) _ HN4.out.g.s.range Try.underlying83 rfl (by rw [stL_length]; exact info_state) ?_
  go_wp2_with (first | (go_at_call 33; (with_reducible refine (HF.out _).mono ?_); rintro e w9 ⟨rfl, hb9⟩; have HB9 := Lib.hid hb9; clear hb9; have HG9 := Lib.hid (HN4.out.g.more HB9.out); obtain ⟨HT9, W10, HW10, HR10, HK10, HB10⟩ := HG9.out.done (stL (.slice KA s.calls.length kc) (s.mark.fall 2) true) (stL_length _ _ _)) | (refine wpList_store_mid rfl 83 (.tmp 8) (.tmp 99) rfl (w.heap.size + 2) 0 (stL (.slice KA s.calls.length kc) (s.mark.fall 2) true).toArray rfl rfl (by rw [stA_size]; exact HT9.out) (by rw [stA_size]; exact info_state) (stL_one _ rfl _ _) ?_; rw [← HW10.out]))
  exact bodyPost_ret (v := .agg (stL (.slice KA s.calls.length kc) (s.mark.fall 2) true).toArray) (results_cell1_range Try.results26 _ _ (w.heap.size + 2) 0 _ _ rfl HR10.out Try.underlying83 rfl (by rw [stL_length]; exact info_state)) rfl ⟨KA, kc, rfl, (HH.out.sl.move (Mv.of_below HB10.out okc)).mono (fun _ _ h => .inl h), HB10.out⟩

set_option maxRecDepth 100000 in
set_option maxHeartbeats 8000000 in
theorem stepr_u4 {w : World} {okc : Nat → Prop} {KA : Option Addr} {kc : Nat} {s : Vm} {IA : Option Addr} {ic : Nat} {pr : List Ins8} {CA : Option Addr} {cc : Nat} {cx : List UInt8} {A : Option Addr} {ca : Nat} {ans : List Nat} (ctx : Int) (H : StepIn w okc KA kc s IA ic pr CA cc cx A ca ans) (i : Ins8) (hi : pr[s.at_]? = some i) (hm : i.May) (hop : i.op = 2) (hss : s.set i.src = false) :
    Calls Try.prog 26 #[.agg #[.int .i64 ctx, .slice IA pr.length ic], .slice CA cx.length cc, .slice A ans.length ca, .agg (stL (.slice KA s.calls.length kc) s false).toArray] w (StepPost w okc (s.mark.fall 2) true) := by
  obtain ⟨L, hL⟩ : ∃ L, L = (stL (.slice KA s.calls.length kc) s false).toArray := ⟨_, rfl⟩
  obtain ⟨W1, hW1⟩ : ∃ W1, W1 = ((w.alloc (.cells #[.int .i64 ctx, .slice IA pr.length ic] 24)).alloc (.cells L 83)).alloc (.cells Try.zeroCells83 83) := ⟨_, rfl⟩
  have G1 : S3 w (.int .i64 ctx) (.slice IA pr.length ic) (stF (.slice KA s.calls.length kc) s false) W1 := by rw [hW1, hL]; exact S3.start w _ _ _ _ size_state
  have hz1 : W1.heap.size = w.heap.size + 3 := by rw [hW1]; simp
  have HZ1 := Lib.hid hz1; clear hz1
  have c0 : W1.cell? ⟨w.heap.size + 1, 0, none⟩ = some (.int .i64 (s.at_ : Int)) := G1.s.cell 0 (by omega)
  have c23 := G1.s.cell 23 (by omega)
  have f23 := G1.s.frozen 23
  have c1 := G1.p1
  have G2 := (G1.put 23 (.int .i64 (s.at_ : Int))).congr (stF_mark (.slice KA s.calls.length kc) s false)
  have HG2 := Lib.hid G2; clear G2
  have HG1 := Lib.hid G1; clear G1
  rw [← hL]
  clear hL
  have HW1 := Lib.hid hW1; clear hW1
  obtain ⟨hat, _⟩ := List.getElem?_eq_some_iff.1 hi
  have hat' : (s.at_ : Int) < pr.length := by omega
  obtain ⟨a, rfl, _, hab, hcl⟩ := H.ins.at_ (j := s.at_ * 5) (by have := Nat.mul_lt_mul_of_pos_right hat (show 0 < 5 by omega); exact this)
  have hld : ∀ j v, (insCells i)[j]? = some v → (W1.setCell ⟨w.heap.size + 1, 23, none⟩ (.int .i64 (s.at_ : Int))).cell? ((a.add (s.at_ * 5)).add j) = some v := fun j v hv => by
    have hj : j < 5 := by
      rcases Nat.lt_or_ge j 5 with h | h
      · exact h
      · rw [List.getElem?_eq_none (by simpa [insCells] using h)] at hv; cases hv
    rw [add_add]
    have := hcl (s.at_ * 5 + j) v (by rw [ins_cells pr s.at_ j i hi hj]; exact hv)
    exact (World.cell?_of_block (HG2.out.b.block _ (by rw [add_block]; exact hab))).trans this
  have hld : ∀ j v, [.int .i64 2, .int .i64 (i.dst : Int), .int .i64 (i.src : Int), .int .i64 i.off, .int .u32 (i.imm : Int)][j]? = some v → (W1.setCell ⟨w.heap.size + 1, 23, none⟩ (.int .i64 (s.at_ : Int))).cell? ((a.add (s.at_ * 5)).add j) = some v := fun j v hv => hld j v (by simp only [insCells, hop]; exact hv)
  have hu : ∀ W : World, Calls Try.prog 27 #[.int .i64 2] W fun e w' => e = .returned (.tuple #[.bool true, .bool true, .bool false, .bool false, .bool true]) ∧ W = w' := fun W => by
    have := uses_in W i.op hm.op1 hm.op2
    rw [hop] at this
    exact this
  have hdst := hm.dst
  have hsrc := hm.src
  have hdst' : (i.dst : Int) < 10 := by omega
  have hsrc' : (i.src : Int) < 10 := by omega
  have ho1 := hm.off1
  have ho2 := hm.off2
  have him := hm.imm
  have hrd := H.ok.reg i.dst
  have hrs := H.ok.reg i.src
  have HOK := Lib.hid H.ok
  have HH := Lib.hid H
  have hN4 := HG2.out.ins (by rw [← HZ1.out]; simp [World.setCell]) i
  rw [hop] at hN4
  have HN4 := Lib.hid hN4; clear hN4
  have HLD := Lib.hid hld; clear hld
  have HCL := Lib.hid hcl; clear hcl
  have HU := Lib.hid hu; clear hu
  have HOP := Lib.hid hop; clear hop
  have HM := Lib.hid hm; clear hm
  have HI := Lib.hid hi; clear hi
  clear H
  go_enter Try.func26, Try.ntmps26
  go_upto_region 1 with fail
  rw [← HW1.out]
  go_upto_region 5 with (refine wpList_value (.agg #[.int .i64 2, .int .i64 (i.dst : Int), .int .i64 (i.src : Int), .int .i64 i.off, .int .u32 (i.imm : Int)]) rfl (exec_load_at 50 (.tmp 38) rfl (a.add (s.at_ * 5)) rfl ([.int .i64 2, .int .i64 (i.dst : Int), .int .i64 (i.src : Int), .int .i64 i.off, .int .u32 (i.imm : Int)]) _ HLD.out Try.underlying50 rfl size_ins) ?_)
  clear c0 c23 f23 c1
  generalize hW4 : (W1.setCell ⟨w.heap.size + 1, 23, none⟩ (.int .i64 (s.at_ : Int))).alloc (.cells #[.int .i64 2, .int .i64 (i.dst : Int), .int .i64 (i.src : Int), .int .i64 i.off, .int .u32 (i.imm : Int)] 50) = W4 at HN4
  rw [HZ1.out]
  have i0 : W4.cell? ⟨w.heap.size + 3, 0, none⟩ = some (.int .i64 2) := (by have := HN4.out.n.cells.1; rw [HOP.out] at this; exact this)
  have i1 := HN4.out.n.cells.2.1
  have i2 := HN4.out.n.cells.2.2.1
  have i3 := HN4.out.n.cells.2.2.2.1
  have i4 := HN4.out.n.cells.2.2.2.2
  have s0 : W4.cell? ⟨w.heap.size + 1, 0, none⟩ = some (.int .i64 (s.at_ : Int)) := HN4.out.g.s.cell 0 (by omega)
  have sd : W4.cell? ⟨w.heap.size + 1, 1 + i.dst, none⟩ = some (.bool (s.set i.dst)) := by rw [HN4.out.g.s.cell (1 + i.dst) (by omega), stF_set _ _ _ _ hdst]; rfl
  have ss : W4.cell? ⟨w.heap.size + 1, 1 + i.src, none⟩ = some (.bool (s.set i.src)) := by rw [HN4.out.g.s.cell (1 + i.src) (by omega), stF_set _ _ _ _ hsrc]; rfl
  have sz : W4.cell? ⟨w.heap.size + 1, 1, none⟩ = some (.bool (s.set 0)) := HN4.out.g.s.cell 1 (by omega)
  go_upto_region 9 with (go_at_call 27; (with_reducible refine (HU.out _).mono ?_); rintro e w' ⟨rfl, rfl⟩)
  have HF := Lib.hid (show ∀ W : World, Calls Try.prog 33 #[.agg (stL (.slice KA s.calls.length kc) s.mark false).toArray, .int .i64 2] W fun e w' => e = .returned (.agg (stL (.slice KA s.calls.length kc) (s.mark.fall 2) true).toArray) ∧ Below W.heap.size W w' from fun W => faultsr_ok W (.slice KA s.calls.length kc) rfl s.mark false 2)
  refine wp_region_list ?_
  refine wpList_load_mid rfl 83 (.tmp 7) rfl (w.heap.size + 1) 0 rfl (stL (.slice KA s.calls.length kc) s.mark false) _ HN4.out.g.s.range Try.underlying83 rfl (by rw [stL_length]; exact info_state) ?_
  go_wp2_with (first | (go_at_call 33; (with_reducible refine (HF.out _).mono ?_); rintro e w9 ⟨rfl, hb9⟩; have HB9 := Lib.hid hb9; clear hb9; have HG9 := Lib.hid (HN4.out.g.more HB9.out); obtain ⟨HT9, W10, HW10, HR10, HK10, HB10⟩ := HG9.out.done (stL (.slice KA s.calls.length kc) (s.mark.fall 2) true) (stL_length _ _ _)) | (refine wpList_store_mid rfl 83 (.tmp 8) (.tmp 99) rfl (w.heap.size + 2) 0 (stL (.slice KA s.calls.length kc) (s.mark.fall 2) true).toArray rfl rfl (by rw [stA_size]; exact HT9.out) (by rw [stA_size]; exact info_state) (stL_one _ rfl _ _) ?_; rw [← HW10.out]))
  exact bodyPost_ret (v := .agg (stL (.slice KA s.calls.length kc) (s.mark.fall 2) true).toArray) (results_cell1_range Try.results26 _ _ (w.heap.size + 2) 0 _ _ rfl HR10.out Try.underlying83 rfl (by rw [stL_length]; exact info_state)) rfl ⟨KA, kc, rfl, (HH.out.sl.move (Mv.of_below HB10.out okc)).mono (fun _ _ h => .inl h), HB10.out⟩

set_option maxRecDepth 100000 in
set_option maxHeartbeats 8000000 in
theorem stepr_u5 {w : World} {okc : Nat → Prop} {KA : Option Addr} {kc : Nat} {s : Vm} {IA : Option Addr} {ic : Nat} {pr : List Ins8} {CA : Option Addr} {cc : Nat} {cx : List UInt8} {A : Option Addr} {ca : Nat} {ans : List Nat} (ctx : Int) (H : StepIn w okc KA kc s IA ic pr CA cc cx A ca ans) (i : Ins8) (hi : pr[s.at_]? = some i) (hm : i.May) (hop : i.op = 16) (hss : s.set i.src = false) :
    Calls Try.prog 26 #[.agg #[.int .i64 ctx, .slice IA pr.length ic], .slice CA cx.length cc, .slice A ans.length ca, .agg (stL (.slice KA s.calls.length kc) s false).toArray] w (StepPost w okc (s.mark.fall 2) true) := by
  obtain ⟨L, hL⟩ : ∃ L, L = (stL (.slice KA s.calls.length kc) s false).toArray := ⟨_, rfl⟩
  obtain ⟨W1, hW1⟩ : ∃ W1, W1 = ((w.alloc (.cells #[.int .i64 ctx, .slice IA pr.length ic] 24)).alloc (.cells L 83)).alloc (.cells Try.zeroCells83 83) := ⟨_, rfl⟩
  have G1 : S3 w (.int .i64 ctx) (.slice IA pr.length ic) (stF (.slice KA s.calls.length kc) s false) W1 := by rw [hW1, hL]; exact S3.start w _ _ _ _ size_state
  have hz1 : W1.heap.size = w.heap.size + 3 := by rw [hW1]; simp
  have HZ1 := Lib.hid hz1; clear hz1
  have c0 : W1.cell? ⟨w.heap.size + 1, 0, none⟩ = some (.int .i64 (s.at_ : Int)) := G1.s.cell 0 (by omega)
  have c23 := G1.s.cell 23 (by omega)
  have f23 := G1.s.frozen 23
  have c1 := G1.p1
  have G2 := (G1.put 23 (.int .i64 (s.at_ : Int))).congr (stF_mark (.slice KA s.calls.length kc) s false)
  have HG2 := Lib.hid G2; clear G2
  have HG1 := Lib.hid G1; clear G1
  rw [← hL]
  clear hL
  have HW1 := Lib.hid hW1; clear hW1
  obtain ⟨hat, _⟩ := List.getElem?_eq_some_iff.1 hi
  have hat' : (s.at_ : Int) < pr.length := by omega
  obtain ⟨a, rfl, _, hab, hcl⟩ := H.ins.at_ (j := s.at_ * 5) (by have := Nat.mul_lt_mul_of_pos_right hat (show 0 < 5 by omega); exact this)
  have hld : ∀ j v, (insCells i)[j]? = some v → (W1.setCell ⟨w.heap.size + 1, 23, none⟩ (.int .i64 (s.at_ : Int))).cell? ((a.add (s.at_ * 5)).add j) = some v := fun j v hv => by
    have hj : j < 5 := by
      rcases Nat.lt_or_ge j 5 with h | h
      · exact h
      · rw [List.getElem?_eq_none (by simpa [insCells] using h)] at hv; cases hv
    rw [add_add]
    have := hcl (s.at_ * 5 + j) v (by rw [ins_cells pr s.at_ j i hi hj]; exact hv)
    exact (World.cell?_of_block (HG2.out.b.block _ (by rw [add_block]; exact hab))).trans this
  have hld : ∀ j v, [.int .i64 16, .int .i64 (i.dst : Int), .int .i64 (i.src : Int), .int .i64 i.off, .int .u32 (i.imm : Int)][j]? = some v → (W1.setCell ⟨w.heap.size + 1, 23, none⟩ (.int .i64 (s.at_ : Int))).cell? ((a.add (s.at_ * 5)).add j) = some v := fun j v hv => hld j v (by simp only [insCells, hop]; exact hv)
  have hu : ∀ W : World, Calls Try.prog 27 #[.int .i64 16] W fun e w' => e = .returned (.tuple #[.bool true, .bool true, .bool true, .bool false, .bool true]) ∧ W = w' := fun W => by
    have := uses_in W i.op hm.op1 hm.op2
    rw [hop] at this
    exact this
  have hdst := hm.dst
  have hsrc := hm.src
  have hdst' : (i.dst : Int) < 10 := by omega
  have hsrc' : (i.src : Int) < 10 := by omega
  have ho1 := hm.off1
  have ho2 := hm.off2
  have him := hm.imm
  have hrd := H.ok.reg i.dst
  have hrs := H.ok.reg i.src
  have HOK := Lib.hid H.ok
  have HH := Lib.hid H
  have hN4 := HG2.out.ins (by rw [← HZ1.out]; simp [World.setCell]) i
  rw [hop] at hN4
  have HN4 := Lib.hid hN4; clear hN4
  have HLD := Lib.hid hld; clear hld
  have HCL := Lib.hid hcl; clear hcl
  have HU := Lib.hid hu; clear hu
  have HOP := Lib.hid hop; clear hop
  have HM := Lib.hid hm; clear hm
  have HI := Lib.hid hi; clear hi
  clear H
  go_enter Try.func26, Try.ntmps26
  go_upto_region 1 with fail
  rw [← HW1.out]
  go_upto_region 5 with (refine wpList_value (.agg #[.int .i64 16, .int .i64 (i.dst : Int), .int .i64 (i.src : Int), .int .i64 i.off, .int .u32 (i.imm : Int)]) rfl (exec_load_at 50 (.tmp 38) rfl (a.add (s.at_ * 5)) rfl ([.int .i64 16, .int .i64 (i.dst : Int), .int .i64 (i.src : Int), .int .i64 i.off, .int .u32 (i.imm : Int)]) _ HLD.out Try.underlying50 rfl size_ins) ?_)
  clear c0 c23 f23 c1
  generalize hW4 : (W1.setCell ⟨w.heap.size + 1, 23, none⟩ (.int .i64 (s.at_ : Int))).alloc (.cells #[.int .i64 16, .int .i64 (i.dst : Int), .int .i64 (i.src : Int), .int .i64 i.off, .int .u32 (i.imm : Int)] 50) = W4 at HN4
  rw [HZ1.out]
  have i0 : W4.cell? ⟨w.heap.size + 3, 0, none⟩ = some (.int .i64 16) := (by have := HN4.out.n.cells.1; rw [HOP.out] at this; exact this)
  have i1 := HN4.out.n.cells.2.1
  have i2 := HN4.out.n.cells.2.2.1
  have i3 := HN4.out.n.cells.2.2.2.1
  have i4 := HN4.out.n.cells.2.2.2.2
  have s0 : W4.cell? ⟨w.heap.size + 1, 0, none⟩ = some (.int .i64 (s.at_ : Int)) := HN4.out.g.s.cell 0 (by omega)
  have sd : W4.cell? ⟨w.heap.size + 1, 1 + i.dst, none⟩ = some (.bool (s.set i.dst)) := by rw [HN4.out.g.s.cell (1 + i.dst) (by omega), stF_set _ _ _ _ hdst]; rfl
  have ss : W4.cell? ⟨w.heap.size + 1, 1 + i.src, none⟩ = some (.bool (s.set i.src)) := by rw [HN4.out.g.s.cell (1 + i.src) (by omega), stF_set _ _ _ _ hsrc]; rfl
  have sz : W4.cell? ⟨w.heap.size + 1, 1, none⟩ = some (.bool (s.set 0)) := HN4.out.g.s.cell 1 (by omega)
  go_upto_region 9 with (go_at_call 27; (with_reducible refine (HU.out _).mono ?_); rintro e w' ⟨rfl, rfl⟩)
  have HF := Lib.hid (show ∀ W : World, Calls Try.prog 33 #[.agg (stL (.slice KA s.calls.length kc) s.mark false).toArray, .int .i64 2] W fun e w' => e = .returned (.agg (stL (.slice KA s.calls.length kc) (s.mark.fall 2) true).toArray) ∧ Below W.heap.size W w' from fun W => faultsr_ok W (.slice KA s.calls.length kc) rfl s.mark false 2)
  refine wp_region_list ?_
  refine wpList_load_mid rfl 83 (.tmp 7) rfl (w.heap.size + 1) 0 rfl (stL (.slice KA s.calls.length kc) s.mark false) _ HN4.out.g.s.range Try.underlying83 rfl (by rw [stL_length]; exact info_state) ?_
  go_wp2_with (first | (go_at_call 33; (with_reducible refine (HF.out _).mono ?_); rintro e w9 ⟨rfl, hb9⟩; have HB9 := Lib.hid hb9; clear hb9; have HG9 := Lib.hid (HN4.out.g.more HB9.out); obtain ⟨HT9, W10, HW10, HR10, HK10, HB10⟩ := HG9.out.done (stL (.slice KA s.calls.length kc) (s.mark.fall 2) true) (stL_length _ _ _)) | (refine wpList_store_mid rfl 83 (.tmp 8) (.tmp 99) rfl (w.heap.size + 2) 0 (stL (.slice KA s.calls.length kc) (s.mark.fall 2) true).toArray rfl rfl (by rw [stA_size]; exact HT9.out) (by rw [stA_size]; exact info_state) (stL_one _ rfl _ _) ?_; rw [← HW10.out]))
  exact bodyPost_ret (v := .agg (stL (.slice KA s.calls.length kc) (s.mark.fall 2) true).toArray) (results_cell1_range Try.results26 _ _ (w.heap.size + 2) 0 _ _ rfl HR10.out Try.underlying83 rfl (by rw [stL_length]; exact info_state)) rfl ⟨KA, kc, rfl, (HH.out.sl.move (Mv.of_below HB10.out okc)).mono (fun _ _ h => .inl h), HB10.out⟩

set_option maxRecDepth 100000 in
set_option maxHeartbeats 8000000 in
theorem stepr_u6 {w : World} {okc : Nat → Prop} {KA : Option Addr} {kc : Nat} {s : Vm} {IA : Option Addr} {ic : Nat} {pr : List Ins8} {CA : Option Addr} {cc : Nat} {cx : List UInt8} {A : Option Addr} {ca : Nat} {ans : List Nat} (ctx : Int) (H : StepIn w okc KA kc s IA ic pr CA cc cx A ca ans) (i : Ins8) (hi : pr[s.at_]? = some i) (hm : i.May) (hop : i.op = 17) (hss : s.set i.src = false) :
    Calls Try.prog 26 #[.agg #[.int .i64 ctx, .slice IA pr.length ic], .slice CA cx.length cc, .slice A ans.length ca, .agg (stL (.slice KA s.calls.length kc) s false).toArray] w (StepPost w okc (s.mark.fall 2) true) := by
  obtain ⟨L, hL⟩ : ∃ L, L = (stL (.slice KA s.calls.length kc) s false).toArray := ⟨_, rfl⟩
  obtain ⟨W1, hW1⟩ : ∃ W1, W1 = ((w.alloc (.cells #[.int .i64 ctx, .slice IA pr.length ic] 24)).alloc (.cells L 83)).alloc (.cells Try.zeroCells83 83) := ⟨_, rfl⟩
  have G1 : S3 w (.int .i64 ctx) (.slice IA pr.length ic) (stF (.slice KA s.calls.length kc) s false) W1 := by rw [hW1, hL]; exact S3.start w _ _ _ _ size_state
  have hz1 : W1.heap.size = w.heap.size + 3 := by rw [hW1]; simp
  have HZ1 := Lib.hid hz1; clear hz1
  have c0 : W1.cell? ⟨w.heap.size + 1, 0, none⟩ = some (.int .i64 (s.at_ : Int)) := G1.s.cell 0 (by omega)
  have c23 := G1.s.cell 23 (by omega)
  have f23 := G1.s.frozen 23
  have c1 := G1.p1
  have G2 := (G1.put 23 (.int .i64 (s.at_ : Int))).congr (stF_mark (.slice KA s.calls.length kc) s false)
  have HG2 := Lib.hid G2; clear G2
  have HG1 := Lib.hid G1; clear G1
  rw [← hL]
  clear hL
  have HW1 := Lib.hid hW1; clear hW1
  obtain ⟨hat, _⟩ := List.getElem?_eq_some_iff.1 hi
  have hat' : (s.at_ : Int) < pr.length := by omega
  obtain ⟨a, rfl, _, hab, hcl⟩ := H.ins.at_ (j := s.at_ * 5) (by have := Nat.mul_lt_mul_of_pos_right hat (show 0 < 5 by omega); exact this)
  have hld : ∀ j v, (insCells i)[j]? = some v → (W1.setCell ⟨w.heap.size + 1, 23, none⟩ (.int .i64 (s.at_ : Int))).cell? ((a.add (s.at_ * 5)).add j) = some v := fun j v hv => by
    have hj : j < 5 := by
      rcases Nat.lt_or_ge j 5 with h | h
      · exact h
      · rw [List.getElem?_eq_none (by simpa [insCells] using h)] at hv; cases hv
    rw [add_add]
    have := hcl (s.at_ * 5 + j) v (by rw [ins_cells pr s.at_ j i hi hj]; exact hv)
    exact (World.cell?_of_block (HG2.out.b.block _ (by rw [add_block]; exact hab))).trans this
  have hld : ∀ j v, [.int .i64 17, .int .i64 (i.dst : Int), .int .i64 (i.src : Int), .int .i64 i.off, .int .u32 (i.imm : Int)][j]? = some v → (W1.setCell ⟨w.heap.size + 1, 23, none⟩ (.int .i64 (s.at_ : Int))).cell? ((a.add (s.at_ * 5)).add j) = some v := fun j v hv => hld j v (by simp only [insCells, hop]; exact hv)
  have hu : ∀ W : World, Calls Try.prog 27 #[.int .i64 17] W fun e w' => e = .returned (.tuple #[.bool true, .bool true, .bool true, .bool false, .bool true]) ∧ W = w' := fun W => by
    have := uses_in W i.op hm.op1 hm.op2
    rw [hop] at this
    exact this
  have hdst := hm.dst
  have hsrc := hm.src
  have hdst' : (i.dst : Int) < 10 := by omega
  have hsrc' : (i.src : Int) < 10 := by omega
  have ho1 := hm.off1
  have ho2 := hm.off2
  have him := hm.imm
  have hrd := H.ok.reg i.dst
  have hrs := H.ok.reg i.src
  have HOK := Lib.hid H.ok
  have HH := Lib.hid H
  have hN4 := HG2.out.ins (by rw [← HZ1.out]; simp [World.setCell]) i
  rw [hop] at hN4
  have HN4 := Lib.hid hN4; clear hN4
  have HLD := Lib.hid hld; clear hld
  have HCL := Lib.hid hcl; clear hcl
  have HU := Lib.hid hu; clear hu
  have HOP := Lib.hid hop; clear hop
  have HM := Lib.hid hm; clear hm
  have HI := Lib.hid hi; clear hi
  clear H
  go_enter Try.func26, Try.ntmps26
  go_upto_region 1 with fail
  rw [← HW1.out]
  go_upto_region 5 with (refine wpList_value (.agg #[.int .i64 17, .int .i64 (i.dst : Int), .int .i64 (i.src : Int), .int .i64 i.off, .int .u32 (i.imm : Int)]) rfl (exec_load_at 50 (.tmp 38) rfl (a.add (s.at_ * 5)) rfl ([.int .i64 17, .int .i64 (i.dst : Int), .int .i64 (i.src : Int), .int .i64 i.off, .int .u32 (i.imm : Int)]) _ HLD.out Try.underlying50 rfl size_ins) ?_)
  clear c0 c23 f23 c1
  generalize hW4 : (W1.setCell ⟨w.heap.size + 1, 23, none⟩ (.int .i64 (s.at_ : Int))).alloc (.cells #[.int .i64 17, .int .i64 (i.dst : Int), .int .i64 (i.src : Int), .int .i64 i.off, .int .u32 (i.imm : Int)] 50) = W4 at HN4
  rw [HZ1.out]
  have i0 : W4.cell? ⟨w.heap.size + 3, 0, none⟩ = some (.int .i64 17) := (by have := HN4.out.n.cells.1; rw [HOP.out] at this; exact this)
  have i1 := HN4.out.n.cells.2.1
  have i2 := HN4.out.n.cells.2.2.1
  have i3 := HN4.out.n.cells.2.2.2.1
  have i4 := HN4.out.n.cells.2.2.2.2
  have s0 : W4.cell? ⟨w.heap.size + 1, 0, none⟩ = some (.int .i64 (s.at_ : Int)) := HN4.out.g.s.cell 0 (by omega)
  have sd : W4.cell? ⟨w.heap.size + 1, 1 + i.dst, none⟩ = some (.bool (s.set i.dst)) := by rw [HN4.out.g.s.cell (1 + i.dst) (by omega), stF_set _ _ _ _ hdst]; rfl
  have ss : W4.cell? ⟨w.heap.size + 1, 1 + i.src, none⟩ = some (.bool (s.set i.src)) := by rw [HN4.out.g.s.cell (1 + i.src) (by omega), stF_set _ _ _ _ hsrc]; rfl
  have sz : W4.cell? ⟨w.heap.size + 1, 1, none⟩ = some (.bool (s.set 0)) := HN4.out.g.s.cell 1 (by omega)
  go_upto_region 9 with (go_at_call 27; (with_reducible refine (HU.out _).mono ?_); rintro e w' ⟨rfl, rfl⟩)
  have HF := Lib.hid (show ∀ W : World, Calls Try.prog 33 #[.agg (stL (.slice KA s.calls.length kc) s.mark false).toArray, .int .i64 2] W fun e w' => e = .returned (.agg (stL (.slice KA s.calls.length kc) (s.mark.fall 2) true).toArray) ∧ Below W.heap.size W w' from fun W => faultsr_ok W (.slice KA s.calls.length kc) rfl s.mark false 2)
  refine wp_region_list ?_
  refine wpList_load_mid rfl 83 (.tmp 7) rfl (w.heap.size + 1) 0 rfl (stL (.slice KA s.calls.length kc) s.mark false) _ HN4.out.g.s.range Try.underlying83 rfl (by rw [stL_length]; exact info_state) ?_
  go_wp2_with (first | (go_at_call 33; (with_reducible refine (HF.out _).mono ?_); rintro e w9 ⟨rfl, hb9⟩; have HB9 := Lib.hid hb9; clear hb9; have HG9 := Lib.hid (HN4.out.g.more HB9.out); obtain ⟨HT9, W10, HW10, HR10, HK10, HB10⟩ := HG9.out.done (stL (.slice KA s.calls.length kc) (s.mark.fall 2) true) (stL_length _ _ _)) | (refine wpList_store_mid rfl 83 (.tmp 8) (.tmp 99) rfl (w.heap.size + 2) 0 (stL (.slice KA s.calls.length kc) (s.mark.fall 2) true).toArray rfl rfl (by rw [stA_size]; exact HT9.out) (by rw [stA_size]; exact info_state) (stL_one _ rfl _ _) ?_; rw [← HW10.out]))
  exact bodyPost_ret (v := .agg (stL (.slice KA s.calls.length kc) (s.mark.fall 2) true).toArray) (results_cell1_range Try.results26 _ _ (w.heap.size + 2) 0 _ _ rfl HR10.out Try.underlying83 rfl (by rw [stL_length]; exact info_state)) rfl ⟨KA, kc, rfl, (HH.out.sl.move (Mv.of_below HB10.out okc)).mono (fun _ _ h => .inl h), HB10.out⟩

set_option maxRecDepth 100000 in
set_option maxHeartbeats 8000000 in
theorem stepr_u7 {w : World} {okc : Nat → Prop} {KA : Option Addr} {kc : Nat} {s : Vm} {IA : Option Addr} {ic : Nat} {pr : List Ins8} {CA : Option Addr} {cc : Nat} {cx : List UInt8} {A : Option Addr} {ca : Nat} {ans : List Nat} (ctx : Int) (H : StepIn w okc KA kc s IA ic pr CA cc cx A ca ans) (i : Ins8) (hi : pr[s.at_]? = some i) (hm : i.May) (hop : i.op = 18) (hsd : s.set i.dst = false) :
    Calls Try.prog 26 #[.agg #[.int .i64 ctx, .slice IA pr.length ic], .slice CA cx.length cc, .slice A ans.length ca, .agg (stL (.slice KA s.calls.length kc) s false).toArray] w (StepPost w okc (s.mark.fall 2) true) := by
  obtain ⟨L, hL⟩ : ∃ L, L = (stL (.slice KA s.calls.length kc) s false).toArray := ⟨_, rfl⟩
  obtain ⟨W1, hW1⟩ : ∃ W1, W1 = ((w.alloc (.cells #[.int .i64 ctx, .slice IA pr.length ic] 24)).alloc (.cells L 83)).alloc (.cells Try.zeroCells83 83) := ⟨_, rfl⟩
  have G1 : S3 w (.int .i64 ctx) (.slice IA pr.length ic) (stF (.slice KA s.calls.length kc) s false) W1 := by rw [hW1, hL]; exact S3.start w _ _ _ _ size_state
  have hz1 : W1.heap.size = w.heap.size + 3 := by rw [hW1]; simp
  have HZ1 := Lib.hid hz1; clear hz1
  have c0 : W1.cell? ⟨w.heap.size + 1, 0, none⟩ = some (.int .i64 (s.at_ : Int)) := G1.s.cell 0 (by omega)
  have c23 := G1.s.cell 23 (by omega)
  have f23 := G1.s.frozen 23
  have c1 := G1.p1
  have G2 := (G1.put 23 (.int .i64 (s.at_ : Int))).congr (stF_mark (.slice KA s.calls.length kc) s false)
  have HG2 := Lib.hid G2; clear G2
  have HG1 := Lib.hid G1; clear G1
  rw [← hL]
  clear hL
  have HW1 := Lib.hid hW1; clear hW1
  obtain ⟨hat, _⟩ := List.getElem?_eq_some_iff.1 hi
  have hat' : (s.at_ : Int) < pr.length := by omega
  obtain ⟨a, rfl, _, hab, hcl⟩ := H.ins.at_ (j := s.at_ * 5) (by have := Nat.mul_lt_mul_of_pos_right hat (show 0 < 5 by omega); exact this)
  have hld : ∀ j v, (insCells i)[j]? = some v → (W1.setCell ⟨w.heap.size + 1, 23, none⟩ (.int .i64 (s.at_ : Int))).cell? ((a.add (s.at_ * 5)).add j) = some v := fun j v hv => by
    have hj : j < 5 := by
      rcases Nat.lt_or_ge j 5 with h | h
      · exact h
      · rw [List.getElem?_eq_none (by simpa [insCells] using h)] at hv; cases hv
    rw [add_add]
    have := hcl (s.at_ * 5 + j) v (by rw [ins_cells pr s.at_ j i hi hj]; exact hv)
    exact (World.cell?_of_block (HG2.out.b.block _ (by rw [add_block]; exact hab))).trans this
  have hld : ∀ j v, [.int .i64 18, .int .i64 (i.dst : Int), .int .i64 (i.src : Int), .int .i64 i.off, .int .u32 (i.imm : Int)][j]? = some v → (W1.setCell ⟨w.heap.size + 1, 23, none⟩ (.int .i64 (s.at_ : Int))).cell? ((a.add (s.at_ * 5)).add j) = some v := fun j v hv => hld j v (by simp only [insCells, hop]; exact hv)
  have hu : ∀ W : World, Calls Try.prog 27 #[.int .i64 18] W fun e w' => e = .returned (.tuple #[.bool true, .bool true, .bool true, .bool false, .bool true]) ∧ W = w' := fun W => by
    have := uses_in W i.op hm.op1 hm.op2
    rw [hop] at this
    exact this
  have hdst := hm.dst
  have hsrc := hm.src
  have hdst' : (i.dst : Int) < 10 := by omega
  have hsrc' : (i.src : Int) < 10 := by omega
  have ho1 := hm.off1
  have ho2 := hm.off2
  have him := hm.imm
  have hrd := H.ok.reg i.dst
  have hrs := H.ok.reg i.src
  have HOK := Lib.hid H.ok
  have HH := Lib.hid H
  have hN4 := HG2.out.ins (by rw [← HZ1.out]; simp [World.setCell]) i
  rw [hop] at hN4
  have HN4 := Lib.hid hN4; clear hN4
  have HLD := Lib.hid hld; clear hld
  have HCL := Lib.hid hcl; clear hcl
  have HU := Lib.hid hu; clear hu
  have HOP := Lib.hid hop; clear hop
  have HM := Lib.hid hm; clear hm
  have HI := Lib.hid hi; clear hi
  clear H
  go_enter Try.func26, Try.ntmps26
  go_upto_region 1 with fail
  rw [← HW1.out]
  go_upto_region 5 with (refine wpList_value (.agg #[.int .i64 18, .int .i64 (i.dst : Int), .int .i64 (i.src : Int), .int .i64 i.off, .int .u32 (i.imm : Int)]) rfl (exec_load_at 50 (.tmp 38) rfl (a.add (s.at_ * 5)) rfl ([.int .i64 18, .int .i64 (i.dst : Int), .int .i64 (i.src : Int), .int .i64 i.off, .int .u32 (i.imm : Int)]) _ HLD.out Try.underlying50 rfl size_ins) ?_)
  clear c0 c23 f23 c1
  generalize hW4 : (W1.setCell ⟨w.heap.size + 1, 23, none⟩ (.int .i64 (s.at_ : Int))).alloc (.cells #[.int .i64 18, .int .i64 (i.dst : Int), .int .i64 (i.src : Int), .int .i64 i.off, .int .u32 (i.imm : Int)] 50) = W4 at HN4
  rw [HZ1.out]
  have i0 : W4.cell? ⟨w.heap.size + 3, 0, none⟩ = some (.int .i64 18) := (by have := HN4.out.n.cells.1; rw [HOP.out] at this; exact this)
  have i1 := HN4.out.n.cells.2.1
  have i2 := HN4.out.n.cells.2.2.1
  have i3 := HN4.out.n.cells.2.2.2.1
  have i4 := HN4.out.n.cells.2.2.2.2
  have s0 : W4.cell? ⟨w.heap.size + 1, 0, none⟩ = some (.int .i64 (s.at_ : Int)) := HN4.out.g.s.cell 0 (by omega)
  have sd : W4.cell? ⟨w.heap.size + 1, 1 + i.dst, none⟩ = some (.bool (s.set i.dst)) := by rw [HN4.out.g.s.cell (1 + i.dst) (by omega), stF_set _ _ _ _ hdst]; rfl
  have ss : W4.cell? ⟨w.heap.size + 1, 1 + i.src, none⟩ = some (.bool (s.set i.src)) := by rw [HN4.out.g.s.cell (1 + i.src) (by omega), stF_set _ _ _ _ hsrc]; rfl
  have sz : W4.cell? ⟨w.heap.size + 1, 1, none⟩ = some (.bool (s.set 0)) := HN4.out.g.s.cell 1 (by omega)
  go_upto_region 9 with (go_at_call 27; (with_reducible refine (HU.out _).mono ?_); rintro e w' ⟨rfl, rfl⟩)
  have HF := Lib.hid (show ∀ W : World, Calls Try.prog 33 #[.agg (stL (.slice KA s.calls.length kc) s.mark false).toArray, .int .i64 2] W fun e w' => e = .returned (.agg (stL (.slice KA s.calls.length kc) (s.mark.fall 2) true).toArray) ∧ Below W.heap.size W w' from fun W => faultsr_ok W (.slice KA s.calls.length kc) rfl s.mark false 2)
  refine wp_region_list ?_
  refine wpList_load_mid rfl 83 (.tmp 7) rfl (w.heap.size + 1) 0 rfl (stL (.slice KA s.calls.length kc) s.mark false) _ HN4.out.g.s.range Try.underlying83 rfl (by rw [stL_length]; exact info_state) ?_
  go_wp2_with (first | (go_at_call 33; (with_reducible refine (HF.out _).mono ?_); rintro e w9 ⟨rfl, hb9⟩; have HB9 := Lib.hid hb9; clear hb9; have HG9 := Lib.hid (HN4.out.g.more HB9.out); obtain ⟨HT9, W10, HW10, HR10, HK10, HB10⟩ := HG9.out.done (stL (.slice KA s.calls.length kc) (s.mark.fall 2) true) (stL_length _ _ _)) | (refine wpList_store_mid rfl 83 (.tmp 8) (.tmp 99) rfl (w.heap.size + 2) 0 (stL (.slice KA s.calls.length kc) (s.mark.fall 2) true).toArray rfl rfl (by rw [stA_size]; exact HT9.out) (by rw [stA_size]; exact info_state) (stL_one _ rfl _ _) ?_; rw [← HW10.out]))
  exact bodyPost_ret (v := .agg (stL (.slice KA s.calls.length kc) (s.mark.fall 2) true).toArray) (results_cell1_range Try.results26 _ _ (w.heap.size + 2) 0 _ _ rfl HR10.out Try.underlying83 rfl (by rw [stL_length]; exact info_state)) rfl ⟨KA, kc, rfl, (HH.out.sl.move (Mv.of_below HB10.out okc)).mono (fun _ _ h => .inl h), HB10.out⟩

set_option maxRecDepth 100000 in
set_option maxHeartbeats 8000000 in
theorem stepr_u8 {w : World} {okc : Nat → Prop} {KA : Option Addr} {kc : Nat} {s : Vm} {IA : Option Addr} {ic : Nat} {pr : List Ins8} {CA : Option Addr} {cc : Nat} {cx : List UInt8} {A : Option Addr} {ca : Nat} {ans : List Nat} (ctx : Int) (H : StepIn w okc KA kc s IA ic pr CA cc cx A ca ans) (i : Ins8) (hi : pr[s.at_]? = some i) (hm : i.May) (hop : i.op = 18) (hsd : s.set i.dst = true) (hss : s.set i.src = false) :
    Calls Try.prog 26 #[.agg #[.int .i64 ctx, .slice IA pr.length ic], .slice CA cx.length cc, .slice A ans.length ca, .agg (stL (.slice KA s.calls.length kc) s false).toArray] w (StepPost w okc (s.mark.fall 2) true) := by
  obtain ⟨L, hL⟩ : ∃ L, L = (stL (.slice KA s.calls.length kc) s false).toArray := ⟨_, rfl⟩
  obtain ⟨W1, hW1⟩ : ∃ W1, W1 = ((w.alloc (.cells #[.int .i64 ctx, .slice IA pr.length ic] 24)).alloc (.cells L 83)).alloc (.cells Try.zeroCells83 83) := ⟨_, rfl⟩
  have G1 : S3 w (.int .i64 ctx) (.slice IA pr.length ic) (stF (.slice KA s.calls.length kc) s false) W1 := by rw [hW1, hL]; exact S3.start w _ _ _ _ size_state
  have hz1 : W1.heap.size = w.heap.size + 3 := by rw [hW1]; simp
  have HZ1 := Lib.hid hz1; clear hz1
  have c0 : W1.cell? ⟨w.heap.size + 1, 0, none⟩ = some (.int .i64 (s.at_ : Int)) := G1.s.cell 0 (by omega)
  have c23 := G1.s.cell 23 (by omega)
  have f23 := G1.s.frozen 23
  have c1 := G1.p1
  have G2 := (G1.put 23 (.int .i64 (s.at_ : Int))).congr (stF_mark (.slice KA s.calls.length kc) s false)
  have HG2 := Lib.hid G2; clear G2
  have HG1 := Lib.hid G1; clear G1
  rw [← hL]
  clear hL
  have HW1 := Lib.hid hW1; clear hW1
  obtain ⟨hat, _⟩ := List.getElem?_eq_some_iff.1 hi
  have hat' : (s.at_ : Int) < pr.length := by omega
  obtain ⟨a, rfl, _, hab, hcl⟩ := H.ins.at_ (j := s.at_ * 5) (by have := Nat.mul_lt_mul_of_pos_right hat (show 0 < 5 by omega); exact this)
  have hld : ∀ j v, (insCells i)[j]? = some v → (W1.setCell ⟨w.heap.size + 1, 23, none⟩ (.int .i64 (s.at_ : Int))).cell? ((a.add (s.at_ * 5)).add j) = some v := fun j v hv => by
    have hj : j < 5 := by
      rcases Nat.lt_or_ge j 5 with h | h
      · exact h
      · rw [List.getElem?_eq_none (by simpa [insCells] using h)] at hv; cases hv
    rw [add_add]
    have := hcl (s.at_ * 5 + j) v (by rw [ins_cells pr s.at_ j i hi hj]; exact hv)
    exact (World.cell?_of_block (HG2.out.b.block _ (by rw [add_block]; exact hab))).trans this
  have hld : ∀ j v, [.int .i64 18, .int .i64 (i.dst : Int), .int .i64 (i.src : Int), .int .i64 i.off, .int .u32 (i.imm : Int)][j]? = some v → (W1.setCell ⟨w.heap.size + 1, 23, none⟩ (.int .i64 (s.at_ : Int))).cell? ((a.add (s.at_ * 5)).add j) = some v := fun j v hv => hld j v (by simp only [insCells, hop]; exact hv)
  have hu : ∀ W : World, Calls Try.prog 27 #[.int .i64 18] W fun e w' => e = .returned (.tuple #[.bool true, .bool true, .bool true, .bool false, .bool true]) ∧ W = w' := fun W => by
    have := uses_in W i.op hm.op1 hm.op2
    rw [hop] at this
    exact this
  have hdst := hm.dst
  have hsrc := hm.src
  have hdst' : (i.dst : Int) < 10 := by omega
  have hsrc' : (i.src : Int) < 10 := by omega
  have ho1 := hm.off1
  have ho2 := hm.off2
  have him := hm.imm
  have hrd := H.ok.reg i.dst
  have hrs := H.ok.reg i.src
  have HOK := Lib.hid H.ok
  have HH := Lib.hid H
  have hN4 := HG2.out.ins (by rw [← HZ1.out]; simp [World.setCell]) i
  rw [hop] at hN4
  have HN4 := Lib.hid hN4; clear hN4
  have HLD := Lib.hid hld; clear hld
  have HCL := Lib.hid hcl; clear hcl
  have HU := Lib.hid hu; clear hu
  have HOP := Lib.hid hop; clear hop
  have HM := Lib.hid hm; clear hm
  have HI := Lib.hid hi; clear hi
  clear H
  go_enter Try.func26, Try.ntmps26
  go_upto_region 1 with fail
  rw [← HW1.out]
  go_upto_region 5 with (refine wpList_value (.agg #[.int .i64 18, .int .i64 (i.dst : Int), .int .i64 (i.src : Int), .int .i64 i.off, .int .u32 (i.imm : Int)]) rfl (exec_load_at 50 (.tmp 38) rfl (a.add (s.at_ * 5)) rfl ([.int .i64 18, .int .i64 (i.dst : Int), .int .i64 (i.src : Int), .int .i64 i.off, .int .u32 (i.imm : Int)]) _ HLD.out Try.underlying50 rfl size_ins) ?_)
  clear c0 c23 f23 c1
  generalize hW4 : (W1.setCell ⟨w.heap.size + 1, 23, none⟩ (.int .i64 (s.at_ : Int))).alloc (.cells #[.int .i64 18, .int .i64 (i.dst : Int), .int .i64 (i.src : Int), .int .i64 i.off, .int .u32 (i.imm : Int)] 50) = W4 at HN4
  rw [HZ1.out]
  have i0 : W4.cell? ⟨w.heap.size + 3, 0, none⟩ = some (.int .i64 18) := (by have := HN4.out.n.cells.1; rw [HOP.out] at this; exact this)
  have i1 := HN4.out.n.cells.2.1
  have i2 := HN4.out.n.cells.2.2.1
  have i3 := HN4.out.n.cells.2.2.2.1
  have i4 := HN4.out.n.cells.2.2.2.2
  have s0 : W4.cell? ⟨w.heap.size + 1, 0, none⟩ = some (.int .i64 (s.at_ : Int)) := HN4.out.g.s.cell 0 (by omega)
  have sd : W4.cell? ⟨w.heap.size + 1, 1 + i.dst, none⟩ = some (.bool (s.set i.dst)) := by rw [HN4.out.g.s.cell (1 + i.dst) (by omega), stF_set _ _ _ _ hdst]; rfl
  have ss : W4.cell? ⟨w.heap.size + 1, 1 + i.src, none⟩ = some (.bool (s.set i.src)) := by rw [HN4.out.g.s.cell (1 + i.src) (by omega), stF_set _ _ _ _ hsrc]; rfl
  have sz : W4.cell? ⟨w.heap.size + 1, 1, none⟩ = some (.bool (s.set 0)) := HN4.out.g.s.cell 1 (by omega)
  go_upto_region 9 with (go_at_call 27; (with_reducible refine (HU.out _).mono ?_); rintro e w' ⟨rfl, rfl⟩)
  have HF := Lib.hid (show ∀ W : World, Calls Try.prog 33 #[.agg (stL (.slice KA s.calls.length kc) s.mark false).toArray, .int .i64 2] W fun e w' => e = .returned (.agg (stL (.slice KA s.calls.length kc) (s.mark.fall 2) true).toArray) ∧ Below W.heap.size W w' from fun W => faultsr_ok W (.slice KA s.calls.length kc) rfl s.mark false 2)
  refine wp_region_list ?_
  refine wpList_load_mid rfl 83 (.tmp 7) rfl (w.heap.size + 1) 0 rfl (stL (.slice KA s.calls.length kc) s.mark false) _ HN4.out.g.s.range Try.underlying83 rfl (by rw [stL_length]; exact info_state) ?_
  go_wp2_with (first | (go_at_call 33; (with_reducible refine (HF.out _).mono ?_); rintro e w9 ⟨rfl, hb9⟩; have HB9 := Lib.hid hb9; clear hb9; have HG9 := Lib.hid (HN4.out.g.more HB9.out); obtain ⟨HT9, W10, HW10, HR10, HK10, HB10⟩ := HG9.out.done (stL (.slice KA s.calls.length kc) (s.mark.fall 2) true) (stL_length _ _ _)) | (refine wpList_store_mid rfl 83 (.tmp 8) (.tmp 99) rfl (w.heap.size + 2) 0 (stL (.slice KA s.calls.length kc) (s.mark.fall 2) true).toArray rfl rfl (by rw [stA_size]; exact HT9.out) (by rw [stA_size]; exact info_state) (stL_one _ rfl _ _) ?_; rw [← HW10.out]))
  exact bodyPost_ret (v := .agg (stL (.slice KA s.calls.length kc) (s.mark.fall 2) true).toArray) (results_cell1_range Try.results26 _ _ (w.heap.size + 2) 0 _ _ rfl HR10.out Try.underlying83 rfl (by rw [stL_length]; exact info_state)) rfl ⟨KA, kc, rfl, (HH.out.sl.move (Mv.of_below HB10.out okc)).mono (fun _ _ h => .inl h), HB10.out⟩

set_option maxRecDepth 100000 in
set_option maxHeartbeats 8000000 in
theorem stepr_u9 {w : World} {okc : Nat → Prop} {KA : Option Addr} {kc : Nat} {s : Vm} {IA : Option Addr} {ic : Nat} {pr : List Ins8} {CA : Option Addr} {cc : Nat} {cx : List UInt8} {A : Option Addr} {ca : Nat} {ans : List Nat} (ctx : Int) (H : StepIn w okc KA kc s IA ic pr CA cc cx A ca ans) (i : Ins8) (hi : pr[s.at_]? = some i) (hm : i.May) (hop : i.op = 20) (hsd : s.set i.dst = false) :
    Calls Try.prog 26 #[.agg #[.int .i64 ctx, .slice IA pr.length ic], .slice CA cx.length cc, .slice A ans.length ca, .agg (stL (.slice KA s.calls.length kc) s false).toArray] w (StepPost w okc (s.mark.fall 2) true) := by
  obtain ⟨L, hL⟩ : ∃ L, L = (stL (.slice KA s.calls.length kc) s false).toArray := ⟨_, rfl⟩
  obtain ⟨W1, hW1⟩ : ∃ W1, W1 = ((w.alloc (.cells #[.int .i64 ctx, .slice IA pr.length ic] 24)).alloc (.cells L 83)).alloc (.cells Try.zeroCells83 83) := ⟨_, rfl⟩
  have G1 : S3 w (.int .i64 ctx) (.slice IA pr.length ic) (stF (.slice KA s.calls.length kc) s false) W1 := by rw [hW1, hL]; exact S3.start w _ _ _ _ size_state
  have hz1 : W1.heap.size = w.heap.size + 3 := by rw [hW1]; simp
  have HZ1 := Lib.hid hz1; clear hz1
  have c0 : W1.cell? ⟨w.heap.size + 1, 0, none⟩ = some (.int .i64 (s.at_ : Int)) := G1.s.cell 0 (by omega)
  have c23 := G1.s.cell 23 (by omega)
  have f23 := G1.s.frozen 23
  have c1 := G1.p1
  have G2 := (G1.put 23 (.int .i64 (s.at_ : Int))).congr (stF_mark (.slice KA s.calls.length kc) s false)
  have HG2 := Lib.hid G2; clear G2
  have HG1 := Lib.hid G1; clear G1
  rw [← hL]
  clear hL
  have HW1 := Lib.hid hW1; clear hW1
  obtain ⟨hat, _⟩ := List.getElem?_eq_some_iff.1 hi
  have hat' : (s.at_ : Int) < pr.length := by omega
  obtain ⟨a, rfl, _, hab, hcl⟩ := H.ins.at_ (j := s.at_ * 5) (by have := Nat.mul_lt_mul_of_pos_right hat (show 0 < 5 by omega); exact this)
  have hld : ∀ j v, (insCells i)[j]? = some v → (W1.setCell ⟨w.heap.size + 1, 23, none⟩ (.int .i64 (s.at_ : Int))).cell? ((a.add (s.at_ * 5)).add j) = some v := fun j v hv => by
    have hj : j < 5 := by
      rcases Nat.lt_or_ge j 5 with h | h
      · exact h
      · rw [List.getElem?_eq_none (by simpa [insCells] using h)] at hv; cases hv
    rw [add_add]
    have := hcl (s.at_ * 5 + j) v (by rw [ins_cells pr s.at_ j i hi hj]; exact hv)
    exact (World.cell?_of_block (HG2.out.b.block _ (by rw [add_block]; exact hab))).trans this
  have hld : ∀ j v, [.int .i64 20, .int .i64 (i.dst : Int), .int .i64 (i.src : Int), .int .i64 i.off, .int .u32 (i.imm : Int)][j]? = some v → (W1.setCell ⟨w.heap.size + 1, 23, none⟩ (.int .i64 (s.at_ : Int))).cell? ((a.add (s.at_ * 5)).add j) = some v := fun j v hv => hld j v (by simp only [insCells, hop]; exact hv)
  have hu : ∀ W : World, Calls Try.prog 27 #[.int .i64 20] W fun e w' => e = .returned (.tuple #[.bool true, .bool false, .bool true, .bool true, .bool true]) ∧ W = w' := fun W => by
    have := uses_in W i.op hm.op1 hm.op2
    rw [hop] at this
    exact this
  have hdst := hm.dst
  have hsrc := hm.src
  have hdst' : (i.dst : Int) < 10 := by omega
  have hsrc' : (i.src : Int) < 10 := by omega
  have ho1 := hm.off1
  have ho2 := hm.off2
  have him := hm.imm
  have hrd := H.ok.reg i.dst
  have hrs := H.ok.reg i.src
  have HOK := Lib.hid H.ok
  have HH := Lib.hid H
  have hN4 := HG2.out.ins (by rw [← HZ1.out]; simp [World.setCell]) i
  rw [hop] at hN4
  have HN4 := Lib.hid hN4; clear hN4
  have HLD := Lib.hid hld; clear hld
  have HCL := Lib.hid hcl; clear hcl
  have HU := Lib.hid hu; clear hu
  have HOP := Lib.hid hop; clear hop
  have HM := Lib.hid hm; clear hm
  have HI := Lib.hid hi; clear hi
  clear H
  go_enter Try.func26, Try.ntmps26
  go_upto_region 1 with fail
  rw [← HW1.out]
  go_upto_region 5 with (refine wpList_value (.agg #[.int .i64 20, .int .i64 (i.dst : Int), .int .i64 (i.src : Int), .int .i64 i.off, .int .u32 (i.imm : Int)]) rfl (exec_load_at 50 (.tmp 38) rfl (a.add (s.at_ * 5)) rfl ([.int .i64 20, .int .i64 (i.dst : Int), .int .i64 (i.src : Int), .int .i64 i.off, .int .u32 (i.imm : Int)]) _ HLD.out Try.underlying50 rfl size_ins) ?_)
  clear c0 c23 f23 c1
  generalize hW4 : (W1.setCell ⟨w.heap.size + 1, 23, none⟩ (.int .i64 (s.at_ : Int))).alloc (.cells #[.int .i64 20, .int .i64 (i.dst : Int), .int .i64 (i.src : Int), .int .i64 i.off, .int .u32 (i.imm : Int)] 50) = W4 at HN4
  rw [HZ1.out]
  have i0 : W4.cell? ⟨w.heap.size + 3, 0, none⟩ = some (.int .i64 20) := (by have := HN4.out.n.cells.1; rw [HOP.out] at this; exact this)
  have i1 := HN4.out.n.cells.2.1
  have i2 := HN4.out.n.cells.2.2.1
  have i3 := HN4.out.n.cells.2.2.2.1
  have i4 := HN4.out.n.cells.2.2.2.2
  have s0 : W4.cell? ⟨w.heap.size + 1, 0, none⟩ = some (.int .i64 (s.at_ : Int)) := HN4.out.g.s.cell 0 (by omega)
  have sd : W4.cell? ⟨w.heap.size + 1, 1 + i.dst, none⟩ = some (.bool (s.set i.dst)) := by rw [HN4.out.g.s.cell (1 + i.dst) (by omega), stF_set _ _ _ _ hdst]; rfl
  have ss : W4.cell? ⟨w.heap.size + 1, 1 + i.src, none⟩ = some (.bool (s.set i.src)) := by rw [HN4.out.g.s.cell (1 + i.src) (by omega), stF_set _ _ _ _ hsrc]; rfl
  have sz : W4.cell? ⟨w.heap.size + 1, 1, none⟩ = some (.bool (s.set 0)) := HN4.out.g.s.cell 1 (by omega)
  go_upto_region 9 with (go_at_call 27; (with_reducible refine (HU.out _).mono ?_); rintro e w' ⟨rfl, rfl⟩)
  have HF := Lib.hid (show ∀ W : World, Calls Try.prog 33 #[.agg (stL (.slice KA s.calls.length kc) s.mark false).toArray, .int .i64 2] W fun e w' => e = .returned (.agg (stL (.slice KA s.calls.length kc) (s.mark.fall 2) true).toArray) ∧ Below W.heap.size W w' from fun W => faultsr_ok W (.slice KA s.calls.length kc) rfl s.mark false 2)
  refine wp_region_list ?_
  refine wpList_load_mid rfl 83 (.tmp 7) rfl (w.heap.size + 1) 0 rfl (stL (.slice KA s.calls.length kc) s.mark false) _ HN4.out.g.s.range Try.underlying83 rfl (by rw [stL_length]; exact info_state) ?_
  go_wp2_with (first | (go_at_call 33; (with_reducible refine (HF.out _).mono ?_); rintro e w9 ⟨rfl, hb9⟩; have HB9 := Lib.hid hb9; clear hb9; have HG9 := Lib.hid (HN4.out.g.more HB9.out); obtain ⟨HT9, W10, HW10, HR10, HK10, HB10⟩ := HG9.out.done (stL (.slice KA s.calls.length kc) (s.mark.fall 2) true) (stL_length _ _ _)) | (refine wpList_store_mid rfl 83 (.tmp 8) (.tmp 99) rfl (w.heap.size + 2) 0 (stL (.slice KA s.calls.length kc) (s.mark.fall 2) true).toArray rfl rfl (by rw [stA_size]; exact HT9.out) (by rw [stA_size]; exact info_state) (stL_one _ rfl _ _) ?_; rw [← HW10.out]))
  exact bodyPost_ret (v := .agg (stL (.slice KA s.calls.length kc) (s.mark.fall 2) true).toArray) (results_cell1_range Try.results26 _ _ (w.heap.size + 2) 0 _ _ rfl HR10.out Try.underlying83 rfl (by rw [stL_length]; exact info_state)) rfl ⟨KA, kc, rfl, (HH.out.sl.move (Mv.of_below HB10.out okc)).mono (fun _ _ h => .inl h), HB10.out⟩

set_option maxRecDepth 100000 in
set_option maxHeartbeats 8000000 in
theorem stepr_u10 {w : World} {okc : Nat → Prop} {KA : Option Addr} {kc : Nat} {s : Vm} {IA : Option Addr} {ic : Nat} {pr : List Ins8} {CA : Option Addr} {cc : Nat} {cx : List UInt8} {A : Option Addr} {ca : Nat} {ans : List Nat} (ctx : Int) (H : StepIn w okc KA kc s IA ic pr CA cc cx A ca ans) (i : Ins8) (hi : pr[s.at_]? = some i) (hm : i.May) (hop : i.op = 21) (hsd : s.set i.dst = false) :
    Calls Try.prog 26 #[.agg #[.int .i64 ctx, .slice IA pr.length ic], .slice CA cx.length cc, .slice A ans.length ca, .agg (stL (.slice KA s.calls.length kc) s false).toArray] w (StepPost w okc (s.mark.fall 2) true) := by
  obtain ⟨L, hL⟩ : ∃ L, L = (stL (.slice KA s.calls.length kc) s false).toArray := ⟨_, rfl⟩
  obtain ⟨W1, hW1⟩ : ∃ W1, W1 = ((w.alloc (.cells #[.int .i64 ctx, .slice IA pr.length ic] 24)).alloc (.cells L 83)).alloc (.cells Try.zeroCells83 83) := ⟨_, rfl⟩
  have G1 : S3 w (.int .i64 ctx) (.slice IA pr.length ic) (stF (.slice KA s.calls.length kc) s false) W1 := by rw [hW1, hL]; exact S3.start w _ _ _ _ size_state
  have hz1 : W1.heap.size = w.heap.size + 3 := by rw [hW1]; simp
  have HZ1 := Lib.hid hz1; clear hz1
  have c0 : W1.cell? ⟨w.heap.size + 1, 0, none⟩ = some (.int .i64 (s.at_ : Int)) := G1.s.cell 0 (by omega)
  have c23 := G1.s.cell 23 (by omega)
  have f23 := G1.s.frozen 23
  have c1 := G1.p1
  have G2 := (G1.put 23 (.int .i64 (s.at_ : Int))).congr (stF_mark (.slice KA s.calls.length kc) s false)
  have HG2 := Lib.hid G2; clear G2
  have HG1 := Lib.hid G1; clear G1
  rw [← hL]
  clear hL
  have HW1 := Lib.hid hW1; clear hW1
  obtain ⟨hat, _⟩ := List.getElem?_eq_some_iff.1 hi
  have hat' : (s.at_ : Int) < pr.length := by omega
  obtain ⟨a, rfl, _, hab, hcl⟩ := H.ins.at_ (j := s.at_ * 5) (by have := Nat.mul_lt_mul_of_pos_right hat (show 0 < 5 by omega); exact this)
  have hld : ∀ j v, (insCells i)[j]? = some v → (W1.setCell ⟨w.heap.size + 1, 23, none⟩ (.int .i64 (s.at_ : Int))).cell? ((a.add (s.at_ * 5)).add j) = some v := fun j v hv => by
    have hj : j < 5 := by
      rcases Nat.lt_or_ge j 5 with h | h
      · exact h
      · rw [List.getElem?_eq_none (by simpa [insCells] using h)] at hv; cases hv
    rw [add_add]
    have := hcl (s.at_ * 5 + j) v (by rw [ins_cells pr s.at_ j i hi hj]; exact hv)
    exact (World.cell?_of_block (HG2.out.b.block _ (by rw [add_block]; exact hab))).trans this
  have hld : ∀ j v, [.int .i64 21, .int .i64 (i.dst : Int), .int .i64 (i.src : Int), .int .i64 i.off, .int .u32 (i.imm : Int)][j]? = some v → (W1.setCell ⟨w.heap.size + 1, 23, none⟩ (.int .i64 (s.at_ : Int))).cell? ((a.add (s.at_ * 5)).add j) = some v := fun j v hv => hld j v (by simp only [insCells, hop]; exact hv)
  have hu : ∀ W : World, Calls Try.prog 27 #[.int .i64 21] W fun e w' => e = .returned (.tuple #[.bool true, .bool false, .bool true, .bool true, .bool true]) ∧ W = w' := fun W => by
    have := uses_in W i.op hm.op1 hm.op2
    rw [hop] at this
    exact this
  have hdst := hm.dst
  have hsrc := hm.src
  have hdst' : (i.dst : Int) < 10 := by omega
  have hsrc' : (i.src : Int) < 10 := by omega
  have ho1 := hm.off1
  have ho2 := hm.off2
  have him := hm.imm
  have hrd := H.ok.reg i.dst
  have hrs := H.ok.reg i.src
  have HOK := Lib.hid H.ok
  have HH := Lib.hid H
  have hN4 := HG2.out.ins (by rw [← HZ1.out]; simp [World.setCell]) i
  rw [hop] at hN4
  have HN4 := Lib.hid hN4; clear hN4
  have HLD := Lib.hid hld; clear hld
  have HCL := Lib.hid hcl; clear hcl
  have HU := Lib.hid hu; clear hu
  have HOP := Lib.hid hop; clear hop
  have HM := Lib.hid hm; clear hm
  have HI := Lib.hid hi; clear hi
  clear H
  go_enter Try.func26, Try.ntmps26
  go_upto_region 1 with fail
  rw [← HW1.out]
  go_upto_region 5 with (refine wpList_value (.agg #[.int .i64 21, .int .i64 (i.dst : Int), .int .i64 (i.src : Int), .int .i64 i.off, .int .u32 (i.imm : Int)]) rfl (exec_load_at 50 (.tmp 38) rfl (a.add (s.at_ * 5)) rfl ([.int .i64 21, .int .i64 (i.dst : Int), .int .i64 (i.src : Int), .int .i64 i.off, .int .u32 (i.imm : Int)]) _ HLD.out Try.underlying50 rfl size_ins) ?_)
  clear c0 c23 f23 c1
  generalize hW4 : (W1.setCell ⟨w.heap.size + 1, 23, none⟩ (.int .i64 (s.at_ : Int))).alloc (.cells #[.int .i64 21, .int .i64 (i.dst : Int), .int .i64 (i.src : Int), .int .i64 i.off, .int .u32 (i.imm : Int)] 50) = W4 at HN4
  rw [HZ1.out]
  have i0 : W4.cell? ⟨w.heap.size + 3, 0, none⟩ = some (.int .i64 21) := (by have := HN4.out.n.cells.1; rw [HOP.out] at this; exact this)
  have i1 := HN4.out.n.cells.2.1
  have i2 := HN4.out.n.cells.2.2.1
  have i3 := HN4.out.n.cells.2.2.2.1
  have i4 := HN4.out.n.cells.2.2.2.2
  have s0 : W4.cell? ⟨w.heap.size + 1, 0, none⟩ = some (.int .i64 (s.at_ : Int)) := HN4.out.g.s.cell 0 (by omega)
  have sd : W4.cell? ⟨w.heap.size + 1, 1 + i.dst, none⟩ = some (.bool (s.set i.dst)) := by rw [HN4.out.g.s.cell (1 + i.dst) (by omega), stF_set _ _ _ _ hdst]; rfl
  have ss : W4.cell? ⟨w.heap.size + 1, 1 + i.src, none⟩ = some (.bool (s.set i.src)) := by rw [HN4.out.g.s.cell (1 + i.src) (by omega), stF_set _ _ _ _ hsrc]; rfl
  have sz : W4.cell? ⟨w.heap.size + 1, 1, none⟩ = some (.bool (s.set 0)) := HN4.out.g.s.cell 1 (by omega)
  go_upto_region 9 with (go_at_call 27; (with_reducible refine (HU.out _).mono ?_); rintro e w' ⟨rfl, rfl⟩)
  have HF := Lib.hid (show ∀ W : World, Calls Try.prog 33 #[.agg (stL (.slice KA s.calls.length kc) s.mark false).toArray, .int .i64 2] W fun e w' => e = .returned (.agg (stL (.slice KA s.calls.length kc) (s.mark.fall 2) true).toArray) ∧ Below W.heap.size W w' from fun W => faultsr_ok W (.slice KA s.calls.length kc) rfl s.mark false 2)
  refine wp_region_list ?_
  refine wpList_load_mid rfl 83 (.tmp 7) rfl (w.heap.size + 1) 0 rfl (stL (.slice KA s.calls.length kc) s.mark false) _ HN4.out.g.s.range Try.underlying83 rfl (by rw [stL_length]; exact info_state) ?_
  go_wp2_with (first | (go_at_call 33; (with_reducible refine (HF.out _).mono ?_); rintro e w9 ⟨rfl, hb9⟩; have HB9 := Lib.hid hb9; clear hb9; have HG9 := Lib.hid (HN4.out.g.more HB9.out); obtain ⟨HT9, W10, HW10, HR10, HK10, HB10⟩ := HG9.out.done (stL (.slice KA s.calls.length kc) (s.mark.fall 2) true) (stL_length _ _ _)) | (refine wpList_store_mid rfl 83 (.tmp 8) (.tmp 99) rfl (w.heap.size + 2) 0 (stL (.slice KA s.calls.length kc) (s.mark.fall 2) true).toArray rfl rfl (by rw [stA_size]; exact HT9.out) (by rw [stA_size]; exact info_state) (stL_one _ rfl _ _) ?_; rw [← HW10.out]))
  exact bodyPost_ret (v := .agg (stL (.slice KA s.calls.length kc) (s.mark.fall 2) true).toArray) (results_cell1_range Try.results26 _ _ (w.heap.size + 2) 0 _ _ rfl HR10.out Try.underlying83 rfl (by rw [stL_length]; exact info_state)) rfl ⟨KA, kc, rfl, (HH.out.sl.move (Mv.of_below HB10.out okc)).mono (fun _ _ h => .inl h), HB10.out⟩

set_option maxRecDepth 100000 in
set_option maxHeartbeats 8000000 in
theorem stepr_u11 {w : World} {okc : Nat → Prop} {KA : Option Addr} {kc : Nat} {s : Vm} {IA : Option Addr} {ic : Nat} {pr : List Ins8} {CA : Option Addr} {cc : Nat} {cx : List UInt8} {A : Option Addr} {ca : Nat} {ans : List Nat} (ctx : Int) (H : StepIn w okc KA kc s IA ic pr CA cc cx A ca ans) (i : Ins8) (hi : pr[s.at_]? = some i) (hm : i.May) (hop : i.op = 22) (hsd : s.set i.dst = false) :
    Calls Try.prog 26 #[.agg #[.int .i64 ctx, .slice IA pr.length ic], .slice CA cx.length cc, .slice A ans.length ca, .agg (stL (.slice KA s.calls.length kc) s false).toArray] w (StepPost w okc (s.mark.fall 2) true) := by
  obtain ⟨L, hL⟩ : ∃ L, L = (stL (.slice KA s.calls.length kc) s false).toArray := ⟨_, rfl⟩
  obtain ⟨W1, hW1⟩ : ∃ W1, W1 = ((w.alloc (.cells #[.int .i64 ctx, .slice IA pr.length ic] 24)).alloc (.cells L 83)).alloc (.cells Try.zeroCells83 83) := ⟨_, rfl⟩
  have G1 : S3 w (.int .i64 ctx) (.slice IA pr.length ic) (stF (.slice KA s.calls.length kc) s false) W1 := by rw [hW1, hL]; exact S3.start w _ _ _ _ size_state
  have hz1 : W1.heap.size = w.heap.size + 3 := by rw [hW1]; simp
  have HZ1 := Lib.hid hz1; clear hz1
  have c0 : W1.cell? ⟨w.heap.size + 1, 0, none⟩ = some (.int .i64 (s.at_ : Int)) := G1.s.cell 0 (by omega)
  have c23 := G1.s.cell 23 (by omega)
  have f23 := G1.s.frozen 23
  have c1 := G1.p1
  have G2 := (G1.put 23 (.int .i64 (s.at_ : Int))).congr (stF_mark (.slice KA s.calls.length kc) s false)
  have HG2 := Lib.hid G2; clear G2
  have HG1 := Lib.hid G1; clear G1
  rw [← hL]
  clear hL
  have HW1 := Lib.hid hW1; clear hW1
  obtain ⟨hat, _⟩ := List.getElem?_eq_some_iff.1 hi
  have hat' : (s.at_ : Int) < pr.length := by omega
  obtain ⟨a, rfl, _, hab, hcl⟩ := H.ins.at_ (j := s.at_ * 5) (by have := Nat.mul_lt_mul_of_pos_right hat (show 0 < 5 by omega); exact this)
  have hld : ∀ j v, (insCells i)[j]? = some v → (W1.setCell ⟨w.heap.size + 1, 23, none⟩ (.int .i64 (s.at_ : Int))).cell? ((a.add (s.at_ * 5)).add j) = some v := fun j v hv => by
    have hj : j < 5 := by
      rcases Nat.lt_or_ge j 5 with h | h
      · exact h
      · rw [List.getElem?_eq_none (by simpa [insCells] using h)] at hv; cases hv
    rw [add_add]
    have := hcl (s.at_ * 5 + j) v (by rw [ins_cells pr s.at_ j i hi hj]; exact hv)
    exact (World.cell?_of_block (HG2.out.b.block _ (by rw [add_block]; exact hab))).trans this
  have hld : ∀ j v, [.int .i64 22, .int .i64 (i.dst : Int), .int .i64 (i.src : Int), .int .i64 i.off, .int .u32 (i.imm : Int)][j]? = some v → (W1.setCell ⟨w.heap.size + 1, 23, none⟩ (.int .i64 (s.at_ : Int))).cell? ((a.add (s.at_ * 5)).add j) = some v := fun j v hv => hld j v (by simp only [insCells, hop]; exact hv)
  have hu : ∀ W : World, Calls Try.prog 27 #[.int .i64 22] W fun e w' => e = .returned (.tuple #[.bool true, .bool true, .bool true, .bool false, .bool true]) ∧ W = w' := fun W => by
    have := uses_in W i.op hm.op1 hm.op2
    rw [hop] at this
    exact this
  have hdst := hm.dst
  have hsrc := hm.src
  have hdst' : (i.dst : Int) < 10 := by omega
  have hsrc' : (i.src : Int) < 10 := by omega
  have ho1 := hm.off1
  have ho2 := hm.off2
  have him := hm.imm
  have hrd := H.ok.reg i.dst
  have hrs := H.ok.reg i.src
  have HOK := Lib.hid H.ok
  have HH := Lib.hid H
  have hN4 := HG2.out.ins (by rw [← HZ1.out]; simp [World.setCell]) i
  rw [hop] at hN4
  have HN4 := Lib.hid hN4; clear hN4
  have HLD := Lib.hid hld; clear hld
  have HCL := Lib.hid hcl; clear hcl
  have HU := Lib.hid hu; clear hu
  have HOP := Lib.hid hop; clear hop
  have HM := Lib.hid hm; clear hm
  have HI := Lib.hid hi; clear hi
  clear H
  go_enter Try.func26, Try.ntmps26
  go_upto_region 1 with fail
  rw [← HW1.out]
  go_upto_region 5 with (refine wpList_value (.agg #[.int .i64 22, .int .i64 (i.dst : Int), .int .i64 (i.src : Int), .int .i64 i.off, .int .u32 (i.imm : Int)]) rfl (exec_load_at 50 (.tmp 38) rfl (a.add (s.at_ * 5)) rfl ([.int .i64 22, .int .i64 (i.dst : Int), .int .i64 (i.src : Int), .int .i64 i.off, .int .u32 (i.imm : Int)]) _ HLD.out Try.underlying50 rfl size_ins) ?_)
  clear c0 c23 f23 c1
  generalize hW4 : (W1.setCell ⟨w.heap.size + 1, 23, none⟩ (.int .i64 (s.at_ : Int))).alloc (.cells #[.int .i64 22, .int .i64 (i.dst : Int), .int .i64 (i.src : Int), .int .i64 i.off, .int .u32 (i.imm : Int)] 50) = W4 at HN4
  rw [HZ1.out]
  have i0 : W4.cell? ⟨w.heap.size + 3, 0, none⟩ = some (.int .i64 22) := (by have := HN4.out.n.cells.1; rw [HOP.out] at this; exact this)
  have i1 := HN4.out.n.cells.2.1
  have i2 := HN4.out.n.cells.2.2.1
  have i3 := HN4.out.n.cells.2.2.2.1
  have i4 := HN4.out.n.cells.2.2.2.2
  have s0 : W4.cell? ⟨w.heap.size + 1, 0, none⟩ = some (.int .i64 (s.at_ : Int)) := HN4.out.g.s.cell 0 (by omega)
  have sd : W4.cell? ⟨w.heap.size + 1, 1 + i.dst, none⟩ = some (.bool (s.set i.dst)) := by rw [HN4.out.g.s.cell (1 + i.dst) (by omega), stF_set _ _ _ _ hdst]; rfl
  have ss : W4.cell? ⟨w.heap.size + 1, 1 + i.src, none⟩ = some (.bool (s.set i.src)) := by rw [HN4.out.g.s.cell (1 + i.src) (by omega), stF_set _ _ _ _ hsrc]; rfl
  have sz : W4.cell? ⟨w.heap.size + 1, 1, none⟩ = some (.bool (s.set 0)) := HN4.out.g.s.cell 1 (by omega)
  go_upto_region 9 with (go_at_call 27; (with_reducible refine (HU.out _).mono ?_); rintro e w' ⟨rfl, rfl⟩)
  have HF := Lib.hid (show ∀ W : World, Calls Try.prog 33 #[.agg (stL (.slice KA s.calls.length kc) s.mark false).toArray, .int .i64 2] W fun e w' => e = .returned (.agg (stL (.slice KA s.calls.length kc) (s.mark.fall 2) true).toArray) ∧ Below W.heap.size W w' from fun W => faultsr_ok W (.slice KA s.calls.length kc) rfl s.mark false 2)
  refine wp_region_list ?_
  refine wpList_load_mid rfl 83 (.tmp 7) rfl (w.heap.size + 1) 0 rfl (stL (.slice KA s.calls.length kc) s.mark false) _ HN4.out.g.s.range Try.underlying83 rfl (by rw [stL_length]; exact info_state) ?_
  go_wp2_with (first | (go_at_call 33; (with_reducible refine (HF.out _).mono ?_); rintro e w9 ⟨rfl, hb9⟩; have HB9 := Lib.hid hb9; clear hb9; have HG9 := Lib.hid (HN4.out.g.more HB9.out); obtain ⟨HT9, W10, HW10, HR10, HK10, HB10⟩ := HG9.out.done (stL (.slice KA s.calls.length kc) (s.mark.fall 2) true) (stL_length _ _ _)) | (refine wpList_store_mid rfl 83 (.tmp 8) (.tmp 99) rfl (w.heap.size + 2) 0 (stL (.slice KA s.calls.length kc) (s.mark.fall 2) true).toArray rfl rfl (by rw [stA_size]; exact HT9.out) (by rw [stA_size]; exact info_state) (stL_one _ rfl _ _) ?_; rw [← HW10.out]))
  exact bodyPost_ret (v := .agg (stL (.slice KA s.calls.length kc) (s.mark.fall 2) true).toArray) (results_cell1_range Try.results26 _ _ (w.heap.size + 2) 0 _ _ rfl HR10.out Try.underlying83 rfl (by rw [stL_length]; exact info_state)) rfl ⟨KA, kc, rfl, (HH.out.sl.move (Mv.of_below HB10.out okc)).mono (fun _ _ h => .inl h), HB10.out⟩

set_option maxRecDepth 100000 in
set_option maxHeartbeats 8000000 in
theorem stepr_u12 {w : World} {okc : Nat → Prop} {KA : Option Addr} {kc : Nat} {s : Vm} {IA : Option Addr} {ic : Nat} {pr : List Ins8} {CA : Option Addr} {cc : Nat} {cx : List UInt8} {A : Option Addr} {ca : Nat} {ans : List Nat} (ctx : Int) (H : StepIn w okc KA kc s IA ic pr CA cc cx A ca ans) (i : Ins8) (hi : pr[s.at_]? = some i) (hm : i.May) (hop : i.op = 22) (hsd : s.set i.dst = true) (hss : s.set i.src = false) :
    Calls Try.prog 26 #[.agg #[.int .i64 ctx, .slice IA pr.length ic], .slice CA cx.length cc, .slice A ans.length ca, .agg (stL (.slice KA s.calls.length kc) s false).toArray] w (StepPost w okc (s.mark.fall 2) true) := by
  obtain ⟨L, hL⟩ : ∃ L, L = (stL (.slice KA s.calls.length kc) s false).toArray := ⟨_, rfl⟩
  obtain ⟨W1, hW1⟩ : ∃ W1, W1 = ((w.alloc (.cells #[.int .i64 ctx, .slice IA pr.length ic] 24)).alloc (.cells L 83)).alloc (.cells Try.zeroCells83 83) := ⟨_, rfl⟩
  have G1 : S3 w (.int .i64 ctx) (.slice IA pr.length ic) (stF (.slice KA s.calls.length kc) s false) W1 := by rw [hW1, hL]; exact S3.start w _ _ _ _ size_state
  have hz1 : W1.heap.size = w.heap.size + 3 := by rw [hW1]; simp
  have HZ1 := Lib.hid hz1; clear hz1
  have c0 : W1.cell? ⟨w.heap.size + 1, 0, none⟩ = some (.int .i64 (s.at_ : Int)) := G1.s.cell 0 (by omega)
  have c23 := G1.s.cell 23 (by omega)
  have f23 := G1.s.frozen 23
  have c1 := G1.p1
  have G2 := (G1.put 23 (.int .i64 (s.at_ : Int))).congr (stF_mark (.slice KA s.calls.length kc) s false)
  have HG2 := Lib.hid G2; clear G2
  have HG1 := Lib.hid G1; clear G1
  rw [← hL]
  clear hL
  have HW1 := Lib.hid hW1; clear hW1
  obtain ⟨hat, _⟩ := List.getElem?_eq_some_iff.1 hi
  have hat' : (s.at_ : Int) < pr.length := by omega
  obtain ⟨a, rfl, _, hab, hcl⟩ := H.ins.at_ (j := s.at_ * 5) (by have := Nat.mul_lt_mul_of_pos_right hat (show 0 < 5 by omega); exact this)
  have hld : ∀ j v, (insCells i)[j]? = some v → (W1.setCell ⟨w.heap.size + 1, 23, none⟩ (.int .i64 (s.at_ : Int))).cell? ((a.add (s.at_ * 5)).add j) = some v := fun j v hv => by
    have hj : j < 5 := by
      rcases Nat.lt_or_ge j 5 with h | h
      · exact h
      · rw [List.getElem?_eq_none (by simpa [insCells] using h)] at hv; cases hv
    rw [add_add]
    have := hcl (s.at_ * 5 + j) v (by rw [ins_cells pr s.at_ j i hi hj]; exact hv)
    exact (World.cell?_of_block (HG2.out.b.block _ (by rw [add_block]; exact hab))).trans this
  have hld : ∀ j v, [.int .i64 22, .int .i64 (i.dst : Int), .int .i64 (i.src : Int), .int .i64 i.off, .int .u32 (i.imm : Int)][j]? = some v → (W1.setCell ⟨w.heap.size + 1, 23, none⟩ (.int .i64 (s.at_ : Int))).cell? ((a.add (s.at_ * 5)).add j) = some v := fun j v hv => hld j v (by simp only [insCells, hop]; exact hv)
  have hu : ∀ W : World, Calls Try.prog 27 #[.int .i64 22] W fun e w' => e = .returned (.tuple #[.bool true, .bool true, .bool true, .bool false, .bool true]) ∧ W = w' := fun W => by
    have := uses_in W i.op hm.op1 hm.op2
    rw [hop] at this
    exact this
  have hdst := hm.dst
  have hsrc := hm.src
  have hdst' : (i.dst : Int) < 10 := by omega
  have hsrc' : (i.src : Int) < 10 := by omega
  have ho1 := hm.off1
  have ho2 := hm.off2
  have him := hm.imm
  have hrd := H.ok.reg i.dst
  have hrs := H.ok.reg i.src
  have HOK := Lib.hid H.ok
  have HH := Lib.hid H
  have hN4 := HG2.out.ins (by rw [← HZ1.out]; simp [World.setCell]) i
  rw [hop] at hN4
  have HN4 := Lib.hid hN4; clear hN4
  have HLD := Lib.hid hld; clear hld
  have HCL := Lib.hid hcl; clear hcl
  have HU := Lib.hid hu; clear hu
  have HOP := Lib.hid hop; clear hop
  have HM := Lib.hid hm; clear hm
  have HI := Lib.hid hi; clear hi
  clear H
  go_enter Try.func26, Try.ntmps26
  go_upto_region 1 with fail
  rw [← HW1.out]
  go_upto_region 5 with (refine wpList_value (.agg #[.int .i64 22, .int .i64 (i.dst : Int), .int .i64 (i.src : Int), .int .i64 i.off, .int .u32 (i.imm : Int)]) rfl (exec_load_at 50 (.tmp 38) rfl (a.add (s.at_ * 5)) rfl ([.int .i64 22, .int .i64 (i.dst : Int), .int .i64 (i.src : Int), .int .i64 i.off, .int .u32 (i.imm : Int)]) _ HLD.out Try.underlying50 rfl size_ins) ?_)
  clear c0 c23 f23 c1
  generalize hW4 : (W1.setCell ⟨w.heap.size + 1, 23, none⟩ (.int .i64 (s.at_ : Int))).alloc (.cells #[.int .i64 22, .int .i64 (i.dst : Int), .int .i64 (i.src : Int), .int .i64 i.off, .int .u32 (i.imm : Int)] 50) = W4 at HN4
  rw [HZ1.out]
  have i0 : W4.cell? ⟨w.heap.size + 3, 0, none⟩ = some (.int .i64 22) := (by have := HN4.out.n.cells.1; rw [HOP.out] at this; exact this)
  have i1 := HN4.out.n.cells.2.1
  have i2 := HN4.out.n.cells.2.2.1
  have i3 := HN4.out.n.cells.2.2.2.1
  have i4 := HN4.out.n.cells.2.2.2.2
  have s0 : W4.cell? ⟨w.heap.size + 1, 0, none⟩ = some (.int .i64 (s.at_ : Int)) := HN4.out.g.s.cell 0 (by omega)
  have sd : W4.cell? ⟨w.heap.size + 1, 1 + i.dst, none⟩ = some (.bool (s.set i.dst)) := by rw [HN4.out.g.s.cell (1 + i.dst) (by omega), stF_set _ _ _ _ hdst]; rfl
  have ss : W4.cell? ⟨w.heap.size + 1, 1 + i.src, none⟩ = some (.bool (s.set i.src)) := by rw [HN4.out.g.s.cell (1 + i.src) (by omega), stF_set _ _ _ _ hsrc]; rfl
  have sz : W4.cell? ⟨w.heap.size + 1, 1, none⟩ = some (.bool (s.set 0)) := HN4.out.g.s.cell 1 (by omega)
  go_upto_region 9 with (go_at_call 27; (with_reducible refine (HU.out _).mono ?_); rintro e w' ⟨rfl, rfl⟩)
  have HF := Lib.hid (show ∀ W : World, Calls Try.prog 33 #[.agg (stL (.slice KA s.calls.length kc) s.mark false).toArray, .int .i64 2] W fun e w' => e = .returned (.agg (stL (.slice KA s.calls.length kc) (s.mark.fall 2) true).toArray) ∧ Below W.heap.size W w' from fun W => faultsr_ok W (.slice KA s.calls.length kc) rfl s.mark false 2)
  refine wp_region_list ?_
  refine wpList_load_mid rfl 83 (.tmp 7) rfl (w.heap.size + 1) 0 rfl (stL (.slice KA s.calls.length kc) s.mark false) _ HN4.out.g.s.range Try.underlying83 rfl (by rw [stL_length]; exact info_state) ?_
  go_wp2_with (first | (go_at_call 33; (with_reducible refine (HF.out _).mono ?_); rintro e w9 ⟨rfl, hb9⟩; have HB9 := Lib.hid hb9; clear hb9; have HG9 := Lib.hid (HN4.out.g.more HB9.out); obtain ⟨HT9, W10, HW10, HR10, HK10, HB10⟩ := HG9.out.done (stL (.slice KA s.calls.length kc) (s.mark.fall 2) true) (stL_length _ _ _)) | (refine wpList_store_mid rfl 83 (.tmp 8) (.tmp 99) rfl (w.heap.size + 2) 0 (stL (.slice KA s.calls.length kc) (s.mark.fall 2) true).toArray rfl rfl (by rw [stA_size]; exact HT9.out) (by rw [stA_size]; exact info_state) (stL_one _ rfl _ _) ?_; rw [← HW10.out]))
  exact bodyPost_ret (v := .agg (stL (.slice KA s.calls.length kc) (s.mark.fall 2) true).toArray) (results_cell1_range Try.results26 _ _ (w.heap.size + 2) 0 _ _ rfl HR10.out Try.underlying83 rfl (by rw [stL_length]; exact info_state)) rfl ⟨KA, kc, rfl, (HH.out.sl.move (Mv.of_below HB10.out okc)).mono (fun _ _ h => .inl h), HB10.out⟩

set_option maxRecDepth 100000 in
set_option maxHeartbeats 8000000 in
theorem stepr_u13 {w : World} {okc : Nat → Prop} {KA : Option Addr} {kc : Nat} {s : Vm} {IA : Option Addr} {ic : Nat} {pr : List Ins8} {CA : Option Addr} {cc : Nat} {cx : List UInt8} {A : Option Addr} {ca : Nat} {ans : List Nat} (ctx : Int) (H : StepIn w okc KA kc s IA ic pr CA cc cx A ca ans) (i : Ins8) (hi : pr[s.at_]? = some i) (hm : i.May) (hop : i.op = 24) (hs0 : s.set 0 = false) :
    Calls Try.prog 26 #[.agg #[.int .i64 ctx, .slice IA pr.length ic], .slice CA cx.length cc, .slice A ans.length ca, .agg (stL (.slice KA s.calls.length kc) s false).toArray] w (StepPost w okc (s.mark.fall 2) true) := by
  obtain ⟨L, hL⟩ : ∃ L, L = (stL (.slice KA s.calls.length kc) s false).toArray := ⟨_, rfl⟩
  obtain ⟨W1, hW1⟩ : ∃ W1, W1 = ((w.alloc (.cells #[.int .i64 ctx, .slice IA pr.length ic] 24)).alloc (.cells L 83)).alloc (.cells Try.zeroCells83 83) := ⟨_, rfl⟩
  have G1 : S3 w (.int .i64 ctx) (.slice IA pr.length ic) (stF (.slice KA s.calls.length kc) s false) W1 := by rw [hW1, hL]; exact S3.start w _ _ _ _ size_state
  have hz1 : W1.heap.size = w.heap.size + 3 := by rw [hW1]; simp
  have HZ1 := Lib.hid hz1; clear hz1
  have c0 : W1.cell? ⟨w.heap.size + 1, 0, none⟩ = some (.int .i64 (s.at_ : Int)) := G1.s.cell 0 (by omega)
  have c23 := G1.s.cell 23 (by omega)
  have f23 := G1.s.frozen 23
  have c1 := G1.p1
  have G2 := (G1.put 23 (.int .i64 (s.at_ : Int))).congr (stF_mark (.slice KA s.calls.length kc) s false)
  have HG2 := Lib.hid G2; clear G2
  have HG1 := Lib.hid G1; clear G1
  rw [← hL]
  clear hL
  have HW1 := Lib.hid hW1; clear hW1
  obtain ⟨hat, _⟩ := List.getElem?_eq_some_iff.1 hi
  have hat' : (s.at_ : Int) < pr.length := by omega
  obtain ⟨a, rfl, _, hab, hcl⟩ := H.ins.at_ (j := s.at_ * 5) (by have := Nat.mul_lt_mul_of_pos_right hat (show 0 < 5 by omega); exact this)
  have hld : ∀ j v, (insCells i)[j]? = some v → (W1.setCell ⟨w.heap.size + 1, 23, none⟩ (.int .i64 (s.at_ : Int))).cell? ((a.add (s.at_ * 5)).add j) = some v := fun j v hv => by
    have hj : j < 5 := by
      rcases Nat.lt_or_ge j 5 with h | h
      · exact h
      · rw [List.getElem?_eq_none (by simpa [insCells] using h)] at hv; cases hv
    rw [add_add]
    have := hcl (s.at_ * 5 + j) v (by rw [ins_cells pr s.at_ j i hi hj]; exact hv)
    exact (World.cell?_of_block (HG2.out.b.block _ (by rw [add_block]; exact hab))).trans this
  have hld : ∀ j v, [.int .i64 24, .int .i64 (i.dst : Int), .int .i64 (i.src : Int), .int .i64 i.off, .int .u32 (i.imm : Int)][j]? = some v → (W1.setCell ⟨w.heap.size + 1, 23, none⟩ (.int .i64 (s.at_ : Int))).cell? ((a.add (s.at_ * 5)).add j) = some v := fun j v hv => hld j v (by simp only [insCells, hop]; exact hv)
  have hu : ∀ W : World, Calls Try.prog 27 #[.int .i64 24] W fun e w' => e = .returned (.tuple #[.bool false, .bool false, .bool false, .bool false, .bool true]) ∧ W = w' := fun W => by
    have := uses_in W i.op hm.op1 hm.op2
    rw [hop] at this
    exact this
  have hdst := hm.dst
  have hsrc := hm.src
  have hdst' : (i.dst : Int) < 10 := by omega
  have hsrc' : (i.src : Int) < 10 := by omega
  have ho1 := hm.off1
  have ho2 := hm.off2
  have him := hm.imm
  have hrd := H.ok.reg i.dst
  have hrs := H.ok.reg i.src
  have HOK := Lib.hid H.ok
  have HH := Lib.hid H
  have hN4 := HG2.out.ins (by rw [← HZ1.out]; simp [World.setCell]) i
  rw [hop] at hN4
  have HN4 := Lib.hid hN4; clear hN4
  have HLD := Lib.hid hld; clear hld
  have HCL := Lib.hid hcl; clear hcl
  have HU := Lib.hid hu; clear hu
  have HOP := Lib.hid hop; clear hop
  have HM := Lib.hid hm; clear hm
  have HI := Lib.hid hi; clear hi
  clear H
  go_enter Try.func26, Try.ntmps26
  go_upto_region 1 with fail
  rw [← HW1.out]
  go_upto_region 5 with (refine wpList_value (.agg #[.int .i64 24, .int .i64 (i.dst : Int), .int .i64 (i.src : Int), .int .i64 i.off, .int .u32 (i.imm : Int)]) rfl (exec_load_at 50 (.tmp 38) rfl (a.add (s.at_ * 5)) rfl ([.int .i64 24, .int .i64 (i.dst : Int), .int .i64 (i.src : Int), .int .i64 i.off, .int .u32 (i.imm : Int)]) _ HLD.out Try.underlying50 rfl size_ins) ?_)
  clear c0 c23 f23 c1
  generalize hW4 : (W1.setCell ⟨w.heap.size + 1, 23, none⟩ (.int .i64 (s.at_ : Int))).alloc (.cells #[.int .i64 24, .int .i64 (i.dst : Int), .int .i64 (i.src : Int), .int .i64 i.off, .int .u32 (i.imm : Int)] 50) = W4 at HN4
  rw [HZ1.out]
  have i0 : W4.cell? ⟨w.heap.size + 3, 0, none⟩ = some (.int .i64 24) := (by have := HN4.out.n.cells.1; rw [HOP.out] at this; exact this)
  have i1 := HN4.out.n.cells.2.1
  have i2 := HN4.out.n.cells.2.2.1
  have i3 := HN4.out.n.cells.2.2.2.1
  have i4 := HN4.out.n.cells.2.2.2.2
  have s0 : W4.cell? ⟨w.heap.size + 1, 0, none⟩ = some (.int .i64 (s.at_ : Int)) := HN4.out.g.s.cell 0 (by omega)
  have sd : W4.cell? ⟨w.heap.size + 1, 1 + i.dst, none⟩ = some (.bool (s.set i.dst)) := by rw [HN4.out.g.s.cell (1 + i.dst) (by omega), stF_set _ _ _ _ hdst]; rfl
  have ss : W4.cell? ⟨w.heap.size + 1, 1 + i.src, none⟩ = some (.bool (s.set i.src)) := by rw [HN4.out.g.s.cell (1 + i.src) (by omega), stF_set _ _ _ _ hsrc]; rfl
  have sz : W4.cell? ⟨w.heap.size + 1, 1, none⟩ = some (.bool (s.set 0)) := HN4.out.g.s.cell 1 (by omega)
  go_upto_region 9 with (go_at_call 27; (with_reducible refine (HU.out _).mono ?_); rintro e w' ⟨rfl, rfl⟩)
  have HF := Lib.hid (show ∀ W : World, Calls Try.prog 33 #[.agg (stL (.slice KA s.calls.length kc) s.mark false).toArray, .int .i64 2] W fun e w' => e = .returned (.agg (stL (.slice KA s.calls.length kc) (s.mark.fall 2) true).toArray) ∧ Below W.heap.size W w' from fun W => faultsr_ok W (.slice KA s.calls.length kc) rfl s.mark false 2)
  refine wp_region_list ?_
  refine wpList_load_mid rfl 83 (.tmp 7) rfl (w.heap.size + 1) 0 rfl (stL (.slice KA s.calls.length kc) s.mark false) _ HN4.out.g.s.range Try.underlying83 rfl (by rw [stL_length]; exact info_state) ?_
  go_wp2_with (first | (go_at_call 33; (with_reducible refine (HF.out _).mono ?_); rintro e w9 ⟨rfl, hb9⟩; have HB9 := Lib.hid hb9; clear hb9; have HG9 := Lib.hid (HN4.out.g.more HB9.out); obtain ⟨HT9, W10, HW10, HR10, HK10, HB10⟩ := HG9.out.done (stL (.slice KA s.calls.length kc) (s.mark.fall 2) true) (stL_length _ _ _)) | (refine wpList_store_mid rfl 83 (.tmp 8) (.tmp 99) rfl (w.heap.size + 2) 0 (stL (.slice KA s.calls.length kc) (s.mark.fall 2) true).toArray rfl rfl (by rw [stA_size]; exact HT9.out) (by rw [stA_size]; exact info_state) (stL_one _ rfl _ _) ?_; rw [← HW10.out]))
  exact bodyPost_ret (v := .agg (stL (.slice KA s.calls.length kc) (s.mark.fall 2) true).toArray) (results_cell1_range Try.results26 _ _ (w.heap.size + 2) 0 _ _ rfl HR10.out Try.underlying83 rfl (by rw [stL_length]; exact info_state)) rfl ⟨KA, kc, rfl, (HH.out.sl.move (Mv.of_below HB10.out okc)).mono (fun _ _ h => .inl h), HB10.out⟩

set_option maxRecDepth 100000 in
set_option maxHeartbeats 8000000 in
theorem stepr_d14 {w : World} {okc : Nat → Prop} {KA : Option Addr} {kc : Nat} {s : Vm} {IA : Option Addr} {ic : Nat} {pr : List Ins8} {CA : Option Addr} {cc : Nat} {cx : List UInt8} {A : Option Addr} {ca : Nat} {ans : List Nat} (ctx : Int) (H : StepIn w okc KA kc s IA ic pr CA cc cx A ca ans) (i : Ins8) (hi : pr[s.at_]? = some i) (hm : i.May) (hop : i.op = 14) (hsd : s.set i.dst = true) (hss : s.set i.src = true) (h0 : s.reg i.src = 0) :
    Calls Try.prog 26 #[.agg #[.int .i64 ctx, .slice IA pr.length ic], .slice CA cx.length cc, .slice A ans.length ca, .agg (stL (.slice KA s.calls.length kc) s false).toArray] w (StepPost w okc (s.mark.fall 3) true) := by
  obtain ⟨L, hL⟩ : ∃ L, L = (stL (.slice KA s.calls.length kc) s false).toArray := ⟨_, rfl⟩
  obtain ⟨W1, hW1⟩ : ∃ W1, W1 = ((w.alloc (.cells #[.int .i64 ctx, .slice IA pr.length ic] 24)).alloc (.cells L 83)).alloc (.cells Try.zeroCells83 83) := ⟨_, rfl⟩
  have G1 : S3 w (.int .i64 ctx) (.slice IA pr.length ic) (stF (.slice KA s.calls.length kc) s false) W1 := by rw [hW1, hL]; exact S3.start w _ _ _ _ size_state
  have hz1 : W1.heap.size = w.heap.size + 3 := by rw [hW1]; simp
  have HZ1 := Lib.hid hz1; clear hz1
  have c0 : W1.cell? ⟨w.heap.size + 1, 0, none⟩ = some (.int .i64 (s.at_ : Int)) := G1.s.cell 0 (by omega)
  have c23 := G1.s.cell 23 (by omega)
  have f23 := G1.s.frozen 23
  have c1 := G1.p1
  have G2 := (G1.put 23 (.int .i64 (s.at_ : Int))).congr (stF_mark (.slice KA s.calls.length kc) s false)
  have HG2 := Lib.hid G2; clear G2
  have HG1 := Lib.hid G1; clear G1
  rw [← hL]
  clear hL
  have HW1 := Lib.hid hW1; clear hW1
  obtain ⟨hat, _⟩ := List.getElem?_eq_some_iff.1 hi
  have hat' : (s.at_ : Int) < pr.length := by omega
  obtain ⟨a, rfl, _, hab, hcl⟩ := H.ins.at_ (j := s.at_ * 5) (by have := Nat.mul_lt_mul_of_pos_right hat (show 0 < 5 by omega); exact this)
  have hld : ∀ j v, (insCells i)[j]? = some v → (W1.setCell ⟨w.heap.size + 1, 23, none⟩ (.int .i64 (s.at_ : Int))).cell? ((a.add (s.at_ * 5)).add j) = some v := fun j v hv => by
    have hj : j < 5 := by
      rcases Nat.lt_or_ge j 5 with h | h
      · exact h
      · rw [List.getElem?_eq_none (by simpa [insCells] using h)] at hv; cases hv
    rw [add_add]
    have := hcl (s.at_ * 5 + j) v (by rw [ins_cells pr s.at_ j i hi hj]; exact hv)
    exact (World.cell?_of_block (HG2.out.b.block _ (by rw [add_block]; exact hab))).trans this
  have hld : ∀ j v, [.int .i64 14, .int .i64 (i.dst : Int), .int .i64 (i.src : Int), .int .i64 i.off, .int .u32 (i.imm : Int)][j]? = some v → (W1.setCell ⟨w.heap.size + 1, 23, none⟩ (.int .i64 (s.at_ : Int))).cell? ((a.add (s.at_ * 5)).add j) = some v := fun j v hv => hld j v (by simp only [insCells, hop]; exact hv)
  have hu : ∀ W : World, Calls Try.prog 27 #[.int .i64 14] W fun e w' => e = .returned (.tuple #[.bool true, .bool true, .bool false, .bool false, .bool true]) ∧ W = w' := fun W => by
    have := uses_in W i.op hm.op1 hm.op2
    rw [hop] at this
    exact this
  have hdst := hm.dst
  have hsrc := hm.src
  have hdst' : (i.dst : Int) < 10 := by omega
  have hsrc' : (i.src : Int) < 10 := by omega
  have ho1 := hm.off1
  have ho2 := hm.off2
  have him := hm.imm
  have hrd := H.ok.reg i.dst
  have hrs := H.ok.reg i.src
  have HOK := Lib.hid H.ok
  have HH := Lib.hid H
  have hN4 := HG2.out.ins (by rw [← HZ1.out]; simp [World.setCell]) i
  rw [hop] at hN4
  have HN4 := Lib.hid hN4; clear hN4
  have HLD := Lib.hid hld; clear hld
  have HCL := Lib.hid hcl; clear hcl
  have HU := Lib.hid hu; clear hu
  have HOP := Lib.hid hop; clear hop
  have HM := Lib.hid hm; clear hm
  have HI := Lib.hid hi; clear hi
  have hz0 : ((s.reg i.src : Int) == 0) = true := by simp; omega
  have hz1 : (s.reg i.src : Int) = 0 := by omega
  clear h0
  clear H
  go_enter Try.func26, Try.ntmps26
  go_upto_region 1 with fail
  rw [← HW1.out]
  go_upto_region 5 with (refine wpList_value (.agg #[.int .i64 14, .int .i64 (i.dst : Int), .int .i64 (i.src : Int), .int .i64 i.off, .int .u32 (i.imm : Int)]) rfl (exec_load_at 50 (.tmp 38) rfl (a.add (s.at_ * 5)) rfl ([.int .i64 14, .int .i64 (i.dst : Int), .int .i64 (i.src : Int), .int .i64 i.off, .int .u32 (i.imm : Int)]) _ HLD.out Try.underlying50 rfl size_ins) ?_)
  clear c0 c23 f23 c1
  generalize hW4 : (W1.setCell ⟨w.heap.size + 1, 23, none⟩ (.int .i64 (s.at_ : Int))).alloc (.cells #[.int .i64 14, .int .i64 (i.dst : Int), .int .i64 (i.src : Int), .int .i64 i.off, .int .u32 (i.imm : Int)] 50) = W4 at HN4
  rw [HZ1.out]
  have i0 : W4.cell? ⟨w.heap.size + 3, 0, none⟩ = some (.int .i64 14) := (by have := HN4.out.n.cells.1; rw [HOP.out] at this; exact this)
  have i1 := HN4.out.n.cells.2.1
  have i2 := HN4.out.n.cells.2.2.1
  have i3 := HN4.out.n.cells.2.2.2.1
  have i4 := HN4.out.n.cells.2.2.2.2
  have s0 : W4.cell? ⟨w.heap.size + 1, 0, none⟩ = some (.int .i64 (s.at_ : Int)) := HN4.out.g.s.cell 0 (by omega)
  have sd : W4.cell? ⟨w.heap.size + 1, 1 + i.dst, none⟩ = some (.bool (s.set i.dst)) := by rw [HN4.out.g.s.cell (1 + i.dst) (by omega), stF_set _ _ _ _ hdst]; rfl
  have ss : W4.cell? ⟨w.heap.size + 1, 1 + i.src, none⟩ = some (.bool (s.set i.src)) := by rw [HN4.out.g.s.cell (1 + i.src) (by omega), stF_set _ _ _ _ hsrc]; rfl
  have sz : W4.cell? ⟨w.heap.size + 1, 1, none⟩ = some (.bool (s.set 0)) := HN4.out.g.s.cell 1 (by omega)
  go_upto_region 10 with (go_at_call 27; (with_reducible refine (HU.out _).mono ?_); rintro e w' ⟨rfl, rfl⟩)
  clear i0 i1 i2 i3 i4 s0 sd ss sz
  refine wp_region_noPanic ?_
  refine plan (.rd 0 (.rd 1 (.rd 2 (.rd 3 (.rd 4 (.rd 5 (.rd 6 (.rd 7 (.rd 8 (.rd 9 (.rd 10 (.rd 11 .done)))))))))))) [0, 1, 2, 3, 4, 5, 6, 7, 8, 9, 10, 11] (fun W => S4 w (.int .i64 ctx) (.slice (some a) pr.length ic) (stF (.slice KA s.calls.length kc) s.mark false) i W) (by kernel_rfl) (by kernel_rfl) (fun _ _ _ _ _ h => h) HN4.out.drewp ?_
  repeat (refine pl_pure rfl (fun K hK => ?_); go_simp; refine hK _ ?_; clear hK K)
  refine pl_rd (.int .i64 (i.dst : Int)) rfl rfl (fun W hS => ?_) (fun K hK => ?_)
  · have f0 := hS.n.cells.2.1
    simp [go_sem, f0]
  go_simp
  refine hK _ ?_
  clear hK K
  repeat (refine pl_pure rfl (fun K hK => ?_); go_simp; refine hK _ ?_; clear hK K)
  refine pl_rd (.int .i64 (s.reg i.dst : Int)) rfl rfl (fun W hS => ?_) (fun K hK => ?_)
  · have f0 : W.cell? ⟨w.heap.size + 1, 11 + i.dst, none⟩ = some (.int .i64 (s.reg i.dst : Int)) := by rw [hS.g.s.cell (11 + i.dst) (by omega), stF_reg _ _ _ _ hdst]; rfl
    simp [go_sem, f0]
  go_simp
  refine hK _ ?_
  clear hK K
  repeat (refine pl_pure rfl (fun K hK => ?_); go_simp; refine hK _ ?_; clear hK K)
  refine pl_rd (.int .i64 (i.src : Int)) rfl rfl (fun W hS => ?_) (fun K hK => ?_)
  · have f0 := hS.n.cells.2.2.1
    simp [go_sem, f0]
  go_simp
  refine hK _ ?_
  clear hK K
  repeat (refine pl_pure rfl (fun K hK => ?_); go_simp; refine hK _ ?_; clear hK K)
  refine pl_rd (.int .i64 (s.reg i.src : Int)) rfl rfl (fun W hS => ?_) (fun K hK => ?_)
  · have f0 : W.cell? ⟨w.heap.size + 1, 11 + i.src, none⟩ = some (.int .i64 (s.reg i.src : Int)) := by rw [hS.g.s.cell (11 + i.src) (by omega), stF_reg _ _ _ _ hsrc]; rfl
    simp [go_sem, f0]
  go_simp
  refine hK _ ?_
  clear hK K
  repeat (refine pl_pure rfl (fun K hK => ?_); go_simp; refine hK _ ?_; clear hK K)
  refine pl_done ?_
  refine NoPanic.normal ?_
  have HN5 := Lib.hid HN4.out.drewp
  generalize hW5 : W4.drew = W5 at HN5 ⊢
  clear hW5
  have i0 : W5.cell? ⟨w.heap.size + 3, 0, none⟩ = some (.int .i64 14) := (by have := HN5.out.n.cells.1; rw [HOP.out] at this; exact this)
  have i1 := HN5.out.n.cells.2.1
  have i2 := HN5.out.n.cells.2.2.1
  have i3 := HN5.out.n.cells.2.2.2.1
  have i4 := HN5.out.n.cells.2.2.2.2
  have s0 : W5.cell? ⟨w.heap.size + 1, 0, none⟩ = some (.int .i64 (s.at_ : Int)) := HN5.out.g.s.cell 0 (by omega)
  go_upto_region 14 with fail
  clear i0 i1 i2 i3 i4 s0
  have HF := Lib.hid (show ∀ W : World, Calls Try.prog 33 #[.agg (stL (.slice KA s.calls.length kc) s.mark false).toArray, .int .i64 3] W fun e w' => e = .returned (.agg (stL (.slice KA s.calls.length kc) (s.mark.fall 3) true).toArray) ∧ Below W.heap.size W w' from fun W => faultsr_ok W (.slice KA s.calls.length kc) rfl s.mark false 3)
  refine wp_region_list ?_
  refine wpList_load_mid rfl 83 (.tmp 7) rfl (w.heap.size + 1) 0 rfl (stL (.slice KA s.calls.length kc) s.mark false) _ HN5.out.g.s.range Try.underlying83 rfl (by rw [stL_length]; exact info_state) ?_
  go_wp2_with (first | (go_at_call 33; (with_reducible refine (HF.out _).mono ?_); rintro e w9 ⟨rfl, hb9⟩; have HB9 := Lib.hid hb9; clear hb9; have HG9 := Lib.hid (HN5.out.g.more HB9.out); obtain ⟨HT9, W10, HW10, HR10, HK10, HB10⟩ := HG9.out.done (stL (.slice KA s.calls.length kc) (s.mark.fall 3) true) (stL_length _ _ _)) | (refine wpList_store_mid rfl 83 (.tmp 8) (.tmp 125) rfl (w.heap.size + 2) 0 (stL (.slice KA s.calls.length kc) (s.mark.fall 3) true).toArray rfl rfl (by rw [stA_size]; exact HT9.out) (by rw [stA_size]; exact info_state) (stL_one _ rfl _ _) ?_; rw [← HW10.out]))
  exact bodyPost_ret (v := .agg (stL (.slice KA s.calls.length kc) (s.mark.fall 3) true).toArray) (results_cell1_range Try.results26 _ _ (w.heap.size + 2) 0 _ _ rfl HR10.out Try.underlying83 rfl (by rw [stL_length]; exact info_state)) rfl ⟨KA, kc, rfl, (HH.out.sl.move (Mv.of_below HB10.out okc)).mono (fun _ _ h => .inl h), HB10.out⟩

set_option maxRecDepth 100000 in
set_option maxHeartbeats 8000000 in
theorem stepr_d15 {w : World} {okc : Nat → Prop} {KA : Option Addr} {kc : Nat} {s : Vm} {IA : Option Addr} {ic : Nat} {pr : List Ins8} {CA : Option Addr} {cc : Nat} {cx : List UInt8} {A : Option Addr} {ca : Nat} {ans : List Nat} (ctx : Int) (H : StepIn w okc KA kc s IA ic pr CA cc cx A ca ans) (i : Ins8) (hi : pr[s.at_]? = some i) (hm : i.May) (hop : i.op = 15) (hsd : s.set i.dst = true) (hss : s.set i.src = true) (h0 : s.reg i.src = 0) :
    Calls Try.prog 26 #[.agg #[.int .i64 ctx, .slice IA pr.length ic], .slice CA cx.length cc, .slice A ans.length ca, .agg (stL (.slice KA s.calls.length kc) s false).toArray] w (StepPost w okc (s.mark.fall 3) true) := by
  obtain ⟨L, hL⟩ : ∃ L, L = (stL (.slice KA s.calls.length kc) s false).toArray := ⟨_, rfl⟩
  obtain ⟨W1, hW1⟩ : ∃ W1, W1 = ((w.alloc (.cells #[.int .i64 ctx, .slice IA pr.length ic] 24)).alloc (.cells L 83)).alloc (.cells Try.zeroCells83 83) := ⟨_, rfl⟩
  have G1 : S3 w (.int .i64 ctx) (.slice IA pr.length ic) (stF (.slice KA s.calls.length kc) s false) W1 := by rw [hW1, hL]; exact S3.start w _ _ _ _ size_state
  have hz1 : W1.heap.size = w.heap.size + 3 := by rw [hW1]; simp
  have HZ1 := Lib.hid hz1; clear hz1
  have c0 : W1.cell? ⟨w.heap.size + 1, 0, none⟩ = some (.int .i64 (s.at_ : Int)) := G1.s.cell 0 (by omega)
  have c23 := G1.s.cell 23 (by omega)
  have f23 := G1.s.frozen 23
  have c1 := G1.p1
  have G2 := (G1.put 23 (.int .i64 (s.at_ : Int))).congr (stF_mark (.slice KA s.calls.length kc) s false)
  have HG2 := Lib.hid G2; clear G2
  have HG1 := Lib.hid G1; clear G1
  rw [← hL]
  clear hL
  have HW1 := Lib.hid hW1; clear hW1
  obtain ⟨hat, _⟩ := List.getElem?_eq_some_iff.1 hi
  have hat' : (s.at_ : Int) < pr.length := by omega
  obtain ⟨a, rfl, _, hab, hcl⟩ := H.ins.at_ (j := s.at_ * 5) (by have := Nat.mul_lt_mul_of_pos_right hat (show 0 < 5 by omega); exact this)
  have hld : ∀ j v, (insCells i)[j]? = some v → (W1.setCell ⟨w.heap.size + 1, 23, none⟩ (.int .i64 (s.at_ : Int))).cell? ((a.add (s.at_ * 5)).add j) = some v := fun j v hv => by
    have hj : j < 5 := by
      rcases Nat.lt_or_ge j 5 with h | h
      · exact h
      · rw [List.getElem?_eq_none (by simpa [insCells] using h)] at hv; cases hv
    rw [add_add]
    have := hcl (s.at_ * 5 + j) v (by rw [ins_cells pr s.at_ j i hi hj]; exact hv)
    exact (World.cell?_of_block (HG2.out.b.block _ (by rw [add_block]; exact hab))).trans this
  have hld : ∀ j v, [.int .i64 15, .int .i64 (i.dst : Int), .int .i64 (i.src : Int), .int .i64 i.off, .int .u32 (i.imm : Int)][j]? = some v → (W1.setCell ⟨w.heap.size + 1, 23, none⟩ (.int .i64 (s.at_ : Int))).cell? ((a.add (s.at_ * 5)).add j) = some v := fun j v hv => hld j v (by simp only [insCells, hop]; exact hv)
  have hu : ∀ W : World, Calls Try.prog 27 #[.int .i64 15] W fun e w' => e = .returned (.tuple #[.bool true, .bool true, .bool false, .bool false, .bool true]) ∧ W = w' := fun W => by
    have := uses_in W i.op hm.op1 hm.op2
    rw [hop] at this
    exact this
  have hdst := hm.dst
  have hsrc := hm.src
  have hdst' : (i.dst : Int) < 10 := by omega
  have hsrc' : (i.src : Int) < 10 := by omega
  have ho1 := hm.off1
  have ho2 := hm.off2
  have him := hm.imm
  have hrd := H.ok.reg i.dst
  have hrs := H.ok.reg i.src
  have HOK := Lib.hid H.ok
  have HH := Lib.hid H
  have hN4 := HG2.out.ins (by rw [← HZ1.out]; simp [World.setCell]) i
  rw [hop] at hN4
  have HN4 := Lib.hid hN4; clear hN4
  have HLD := Lib.hid hld; clear hld
  have HCL := Lib.hid hcl; clear hcl
  have HU := Lib.hid hu; clear hu
  have HOP := Lib.hid hop; clear hop
  have HM := Lib.hid hm; clear hm
  have HI := Lib.hid hi; clear hi
  have hz0 : ((s.reg i.src : Int) == 0) = true := by simp; omega
  have hz1 : (s.reg i.src : Int) = 0 := by omega
  clear h0
  clear H
  go_enter Try.func26, Try.ntmps26
  go_upto_region 1 with fail
  rw [← HW1.out]
  go_upto_region 5 with (refine wpList_value (.agg #[.int .i64 15, .int .i64 (i.dst : Int), .int .i64 (i.src : Int), .int .i64 i.off, .int .u32 (i.imm : Int)]) rfl (exec_load_at 50 (.tmp 38) rfl (a.add (s.at_ * 5)) rfl ([.int .i64 15, .int .i64 (i.dst : Int), .int .i64 (i.src : Int), .int .i64 i.off, .int .u32 (i.imm : Int)]) _ HLD.out Try.underlying50 rfl size_ins) ?_)
  clear c0 c23 f23 c1
  generalize hW4 : (W1.setCell ⟨w.heap.size + 1, 23, none⟩ (.int .i64 (s.at_ : Int))).alloc (.cells #[.int .i64 15, .int .i64 (i.dst : Int), .int .i64 (i.src : Int), .int .i64 i.off, .int .u32 (i.imm : Int)] 50) = W4 at HN4
  rw [HZ1.out]
  have i0 : W4.cell? ⟨w.heap.size + 3, 0, none⟩ = some (.int .i64 15) := (by have := HN4.out.n.cells.1; rw [HOP.out] at this; exact this)
  have i1 := HN4.out.n.cells.2.1
  have i2 := HN4.out.n.cells.2.2.1
  have i3 := HN4.out.n.cells.2.2.2.1
  have i4 := HN4.out.n.cells.2.2.2.2
  have s0 : W4.cell? ⟨w.heap.size + 1, 0, none⟩ = some (.int .i64 (s.at_ : Int)) := HN4.out.g.s.cell 0 (by omega)
  have sd : W4.cell? ⟨w.heap.size + 1, 1 + i.dst, none⟩ = some (.bool (s.set i.dst)) := by rw [HN4.out.g.s.cell (1 + i.dst) (by omega), stF_set _ _ _ _ hdst]; rfl
  have ss : W4.cell? ⟨w.heap.size + 1, 1 + i.src, none⟩ = some (.bool (s.set i.src)) := by rw [HN4.out.g.s.cell (1 + i.src) (by omega), stF_set _ _ _ _ hsrc]; rfl
  have sz : W4.cell? ⟨w.heap.size + 1, 1, none⟩ = some (.bool (s.set 0)) := HN4.out.g.s.cell 1 (by omega)
  go_upto_region 10 with (go_at_call 27; (with_reducible refine (HU.out _).mono ?_); rintro e w' ⟨rfl, rfl⟩)
  clear i0 i1 i2 i3 i4 s0 sd ss sz
  refine wp_region_noPanic ?_
  refine plan (.rd 0 (.rd 1 (.rd 2 (.rd 3 (.rd 4 (.rd 5 (.rd 6 (.rd 7 (.rd 8 (.rd 9 (.rd 10 (.rd 11 .done)))))))))))) [0, 1, 2, 3, 4, 5, 6, 7, 8, 9, 10, 11] (fun W => S4 w (.int .i64 ctx) (.slice (some a) pr.length ic) (stF (.slice KA s.calls.length kc) s.mark false) i W) (by kernel_rfl) (by kernel_rfl) (fun _ _ _ _ _ h => h) HN4.out.drewp ?_
  repeat (refine pl_pure rfl (fun K hK => ?_); go_simp; refine hK _ ?_; clear hK K)
  refine pl_rd (.int .i64 (i.dst : Int)) rfl rfl (fun W hS => ?_) (fun K hK => ?_)
  · have f0 := hS.n.cells.2.1
    simp [go_sem, f0]
  go_simp
  refine hK _ ?_
  clear hK K
  repeat (refine pl_pure rfl (fun K hK => ?_); go_simp; refine hK _ ?_; clear hK K)
  refine pl_rd (.int .i64 (s.reg i.dst : Int)) rfl rfl (fun W hS => ?_) (fun K hK => ?_)
  · have f0 : W.cell? ⟨w.heap.size + 1, 11 + i.dst, none⟩ = some (.int .i64 (s.reg i.dst : Int)) := by rw [hS.g.s.cell (11 + i.dst) (by omega), stF_reg _ _ _ _ hdst]; rfl
    simp [go_sem, f0]
  go_simp
  refine hK _ ?_
  clear hK K
  repeat (refine pl_pure rfl (fun K hK => ?_); go_simp; refine hK _ ?_; clear hK K)
  refine pl_rd (.int .i64 (i.src : Int)) rfl rfl (fun W hS => ?_) (fun K hK => ?_)
  · have f0 := hS.n.cells.2.2.1
    simp [go_sem, f0]
  go_simp
  refine hK _ ?_
  clear hK K
  repeat (refine pl_pure rfl (fun K hK => ?_); go_simp; refine hK _ ?_; clear hK K)
  refine pl_rd (.int .i64 (s.reg i.src : Int)) rfl rfl (fun W hS => ?_) (fun K hK => ?_)
  · have f0 : W.cell? ⟨w.heap.size + 1, 11 + i.src, none⟩ = some (.int .i64 (s.reg i.src : Int)) := by rw [hS.g.s.cell (11 + i.src) (by omega), stF_reg _ _ _ _ hsrc]; rfl
    simp [go_sem, f0]
  go_simp
  refine hK _ ?_
  clear hK K
  repeat (refine pl_pure rfl (fun K hK => ?_); go_simp; refine hK _ ?_; clear hK K)
  refine pl_done ?_
  refine NoPanic.normal ?_
  have HN5 := Lib.hid HN4.out.drewp
  generalize hW5 : W4.drew = W5 at HN5 ⊢
  clear hW5
  have i0 : W5.cell? ⟨w.heap.size + 3, 0, none⟩ = some (.int .i64 15) := (by have := HN5.out.n.cells.1; rw [HOP.out] at this; exact this)
  have i1 := HN5.out.n.cells.2.1
  have i2 := HN5.out.n.cells.2.2.1
  have i3 := HN5.out.n.cells.2.2.2.1
  have i4 := HN5.out.n.cells.2.2.2.2
  have s0 : W5.cell? ⟨w.heap.size + 1, 0, none⟩ = some (.int .i64 (s.at_ : Int)) := HN5.out.g.s.cell 0 (by omega)
  go_upto_region 14 with fail
  clear i0 i1 i2 i3 i4 s0
  have HF := Lib.hid (show ∀ W : World, Calls Try.prog 33 #[.agg (stL (.slice KA s.calls.length kc) s.mark false).toArray, .int .i64 3] W fun e w' => e = .returned (.agg (stL (.slice KA s.calls.length kc) (s.mark.fall 3) true).toArray) ∧ Below W.heap.size W w' from fun W => faultsr_ok W (.slice KA s.calls.length kc) rfl s.mark false 3)
  refine wp_region_list ?_
  refine wpList_load_mid rfl 83 (.tmp 7) rfl (w.heap.size + 1) 0 rfl (stL (.slice KA s.calls.length kc) s.mark false) _ HN5.out.g.s.range Try.underlying83 rfl (by rw [stL_length]; exact info_state) ?_
  go_wp2_with (first | (go_at_call 33; (with_reducible refine (HF.out _).mono ?_); rintro e w9 ⟨rfl, hb9⟩; have HB9 := Lib.hid hb9; clear hb9; have HG9 := Lib.hid (HN5.out.g.more HB9.out); obtain ⟨HT9, W10, HW10, HR10, HK10, HB10⟩ := HG9.out.done (stL (.slice KA s.calls.length kc) (s.mark.fall 3) true) (stL_length _ _ _)) | (refine wpList_store_mid rfl 83 (.tmp 8) (.tmp 125) rfl (w.heap.size + 2) 0 (stL (.slice KA s.calls.length kc) (s.mark.fall 3) true).toArray rfl rfl (by rw [stA_size]; exact HT9.out) (by rw [stA_size]; exact info_state) (stL_one _ rfl _ _) ?_; rw [← HW10.out]))
  exact bodyPost_ret (v := .agg (stL (.slice KA s.calls.length kc) (s.mark.fall 3) true).toArray) (results_cell1_range Try.results26 _ _ (w.heap.size + 2) 0 _ _ rfl HR10.out Try.underlying83 rfl (by rw [stL_length]; exact info_state)) rfl ⟨KA, kc, rfl, (HH.out.sl.move (Mv.of_below HB10.out okc)).mono (fun _ _ h => .inl h), HB10.out⟩

end Go.Proofs.Ytpnkbpjhbmacaaa
