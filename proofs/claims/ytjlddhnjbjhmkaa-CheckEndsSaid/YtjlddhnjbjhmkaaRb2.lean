/- Layer 6, the document's answer: equal. -/
import Derived.Test.YtjlddhnjbjhmkaaRf8
import Derived.Test.YtjlddhnjbjhmkaaRb1
import Derived.BigQuiet
import Derived.IntWalk
set_option linter.unusedVariables false
set_option linter.unusedSimpArgs false
namespace Go.Proofs.Ytjlddhnjbjhmkaa
open Go.RowKit

theorem wpList_als {ops : Array Oper} {rest : List Oper} {ty : TypeId} {pos : String} {after : Array Edge} {a : Act} {w : World} {Q : Exit → Act → World → Prop} (d : Tmp) (b : Nat) (hb : b = w.heap.size)
    (hk : wpList Try.prog ops Q rest (a.put (some d) (.pointer (some ⟨b, 0, none⟩))) (w.alloc (.cells #[.int .i64 0, .int .i64 0] 83))) : wpList Try.prog ops Q (Oper.mk (some d) (.alloc 83) ty pos after none :: rest) a w := by
  subst hb
  exact wpList_value _ rfl (by kernel_rfl) hk

theorem exec_sub1 {o : Oper} {ac : Act} {W : World} (x : Operand) {p : Nat} (ho : o.op = .binOp .sub 2 x (.const (.int .i64 1)) 2) (hx : ac.eval x = .int .i64 (p : Int)) (h1 : 1 ≤ p) (h2 : p ≤ 4294967296) : (execOp ac.eval o).run Try.prog W = .ok (.value (.int .i64 ((p - 1 : Nat) : Int))) W := by
  have e : ((p - 1 : Nat) : Int) = (p : Int) - 1 := by omega
  have e2 : (1 : Int) ≤ (p : Int) := by omega
  have e3 : (p : Int) ≤ 4294967296 := by omega
  rw [e]
  have hc : ac.eval (.const (.int .i64 1)) = .int .i64 1 := rfl
  unfold execOp
  simp only [ho, hx, hc]
  have e4 : IntKind.i64.wrap ((p : Int) - 1) = (p : Int) - 1 := IntWalk.i64_in _ (by omega)
  simp [go_sem, e4]
theorem exec_add1 {o : Oper} {ac : Act} {W : World} (x : Operand) {p : Nat} (ho : o.op = .binOp .add 2 x (.const (.int .i64 1)) 2) (hx : ac.eval x = .int .i64 (p : Int)) (h2 : p ≤ 4294967296) : (execOp ac.eval o).run Try.prog W = .ok (.value (.int .i64 ((p + 1 : Nat) : Int))) W := by
  have e : ((p + 1 : Nat) : Int) = (p : Int) + 1 := by omega
  have e3 : (p : Int) ≤ 4294967296 := by omega
  rw [e]
  have hc : ac.eval (.const (.int .i64 1)) = .int .i64 1 := rfl
  unfold execOp
  simp only [ho, hx, hc]
  have e4 : IntKind.i64.wrap ((p : Int) + 1) = (p : Int) + 1 := IntWalk.i64_in _ (by omega)
  simp [go_sem, e4]
theorem exec_min2 {d : Option Tmp} {pos : String} {after : Array Edge} {gd : Option (Nat × Bool)} {ac : Act} {W : World} (x y : Tmp) {p q : Nat} (hx : ac.eval (.tmp x) = .int .i64 (p : Int)) (hy : ac.eval (.tmp y) = .int .i64 (q : Int)) : (execOp ac.eval (Oper.mk d (.call { callee := .builtin .min, args := #[.tmp x, .tmp y], argTypes := #[2, 2] }) 2 pos after gd)).run Try.prog W = .ok (.value (.int .i64 ((min p q : Nat) : Int))) W := by
  rw [show ((min p q : Nat) : Int) = min (p : Int) (q : Int) from by omega]
  have hx' : ac.tmps[x]?.getD undef = .int .i64 (p : Int) := by simpa [Act.eval] using hx
  have hy' : ac.tmps[y]?.getD undef = .int .i64 (q : Int) := by simpa [Act.eval] using hy
  unfold execOp
  simp [go_sem, hx', hy']
theorem exec_max2 {d : Option Tmp} {pos : String} {after : Array Edge} {gd : Option (Nat × Bool)} {ac : Act} {W : World} (x y : Tmp) {p q : Nat} (hx : ac.eval (.tmp x) = .int .i64 (p : Int)) (hy : ac.eval (.tmp y) = .int .i64 (q : Int)) : (execOp ac.eval (Oper.mk d (.call { callee := .builtin .max, args := #[.tmp x, .tmp y], argTypes := #[2, 2] }) 2 pos after gd)).run Try.prog W = .ok (.value (.int .i64 ((max p q : Nat) : Int))) W := by
  rw [show ((max p q : Nat) : Int) = max (p : Int) (q : Int) from by omega]
  have hx' : ac.tmps[x]?.getD undef = .int .i64 (p : Int) := by simpa [Act.eval] using hx
  have hy' : ac.tmps[y]?.getD undef = .int .i64 (q : Int) := by simpa [Act.eval] using hy
  unfold execOp
  simp [go_sem, hx', hy']
theorem bsp (a b : Int) (W : World) : (Instr.build 83 #[(0, .int .i64 a), (1, .int .i64 b)]).run Try.prog W = .ok (.agg #[.int .i64 a, .int .i64 b]) W := by kernel_rfl
theorem exec_build2 {o : Oper} {ac : Act} {w : World} (ty : TypeId) (c d : Nat) (x0 x1 : Operand) (ho : o.op = .build ty #[(c, x0), (d, x1)]) (v0 v1 : Value) (h0 : ac.eval x0 = v0) (h1 : ac.eval x1 = v1) (v : Value)
    (h : (Instr.build ty #[(c, v0), (d, v1)]).run Try.prog w = .ok v w) : (execOp ac.eval o).run Try.prog w = .ok (.value v) w := by
  unfold execOp
  simp only [ho, List.map_toArray, List.map_cons, List.map_nil, h0, h1, Sem.run_bind, h]
  rfl

set_option maxRecDepth 100000 in
set_option maxHeartbeats 2000000 in
theorem rj_eq1 (w : World) (i : Ins8) (k : Kn) (dl dg sl sg : Nat) (hop : i.op = 20) (hdst : i.dst < 10) (hsrc : i.src < 10) (h1 : dl ≤ dg) (h2 : dg ≤ 4294967295) (h3 : sl ≤ sg) (h4 : sg ≤ 4294967295) (HY : Hid (sl < dl ∧ dl < dg)) (nx jx : Kn) (HNX : Hid (nx = k.put i.dst ⟨dl, dg⟩)) (HJX : Hid (jx = kn0)) : Calls Try.prog 36 #[.agg #[.int .i64 (i.op : Int), .int .i64 (i.dst : Int), .int .i64 (i.src : Int), .int .i64 i.off, .int .u32 (i.imm : Int)], .agg (knL k).toArray, .agg #[.int .i64 (dl : Int), .int .i64 (dg : Int)], .agg #[.int .i64 (sl : Int), .int .i64 (sg : Int)]] w fun e w' => e = .returned (.agg (wayL nx jx 0).toArray) ∧ Below w.heap.size w w' := by
  obtain ⟨L, hL⟩ : ∃ L, L = (knL k).toArray := ⟨_, rfl⟩
  obtain ⟨W1, HW1, HJ1, HZ1⟩ := jw_world w i k dl dg sl sg L hL
  rw [← hL]
  clear hL
  have HWI := Lib.hid (fun W l g hl hg => refwith_ok W k i.dst l g hdst hl hg)
  have HA := Lib.hid h1; have HB := Lib.hid h3; have HDN := Lib.hid hdst
  have p2 : (dg : Int) ≤ 4294967295 := by omega
  have p4 : (sg : Int) ≤ 4294967295 := by omega
  have HN2 := Lib.hid h2; have HN4 := Lib.hid h4
  clear h1 h2 h3 h4 hdst
  go_enter Try.func36, Try.ntmps36
  go_upto_region 0 with fail
  refine wp_region_list ?_
  refine wpList_box 4 0 45 #[.int .i64 (i.op : Int), .int .i64 (i.dst : Int), .int .i64 (i.src : Int), .int .i64 i.off, .int .u32 (i.imm : Int)] w.heap.size rfl (by kernel_rfl) ?_
  refine wpList_box 5 1 42 L (w.heap.size + 1) (by simp) (by kernel_rfl) ?_
  refine wpList_box 6 2 83 #[.int .i64 (dl : Int), .int .i64 (dg : Int)] (w.heap.size + 2) (by simp) (by kernel_rfl) ?_
  refine wpList_box 7 3 83 #[.int .i64 (sl : Int), .int .i64 (sg : Int)] (w.heap.size + 3) (by simp) (by kernel_rfl) ?_
  refine wpList_alw2 8 (w.heap.size + 4) (by simp) ?_
  rw [← HW1.out]
  clear HW1
  go_upto_region 1 with fail
  refine wp_region_list ?_
  refine wpList_val0 (.agg (wayL kn0 kn0 0).toArray) rfl (exec_build0 64 rfl _ (bw_0 _)) ?_
  obtain ⟨wb, hwb⟩ : ∃ wb, wb = W1.heap.size := ⟨_, rfl⟩
  refine wpList_alw2 9 wb hwb ?_
  have hB : WyB (W1.alloc (.cells (wayL kn0 kn0 0).toArray 64)) wb kn0 kn0 0 := by rw [hwb]; exact wayB W1 kn0 kn0 0
  have hj : Jw w i k dl dg sl sg (W1.alloc (.cells (wayL kn0 kn0 0).toArray 64)) := HJ1.out.more ((Below.refl _ _).alloc (Nat.le_refl _) _)
  have hwz : w.heap.size + 5 = wb := by rw [hwb]; exact HZ1.out.symm
  obtain ⟨Wx, hWx⟩ : ∃ Wx, Wx = W1.alloc (.cells (wayL kn0 kn0 0).toArray 64) := ⟨_, rfl⟩
  rw [← hWx] at hB hj ⊢
  clear hWx hwb
  refine wpList_stw 9 12 wb kn0 kn0 0 (by kernel_rfl) (by kernel_rfl) hB ?_
  have hB2 := WyB.fill hB kn0 kn0 0
  have hj2 := hj.set wb (by omega) 0 (wayL kn0 kn0 0)
  obtain ⟨W2, hW2⟩ : ∃ W2, W2 = Wx.setCells wb 0 (wayL kn0 kn0 0) := ⟨_, rfl⟩
  rw [← hW2] at hB2 hj2 ⊢
  have HJ2 := Lib.hid hj2; have HB2 := Lib.hid hB2; have HWZ := Lib.hid hwz
  clear hW2 hB hj hB2 hj2 hwz HJ1 HZ1
  have i0 : W2.cell? ⟨w.heap.size, 0, none⟩ = some (.int .i64 20) := by have := HJ2.out.ii.cell 0 (by omega); rw [show ([.int .i64 (i.op : Int), .int .i64 (i.dst : Int), .int .i64 (i.src : Int), .int .i64 i.off, .int .u32 (i.imm : Int)].getD 0 undef : Value) = .int .i64 (i.op : Int) from rfl, hop] at this; exact this
  have HOP := Lib.hid hop; clear hop
  have hy := HY.out
  have hz := HA.out
  have hf0 : ¬ (dl : Int) ≤ (sl : Int) := by omega
  have hf1 : ¬ (dl : Int) = (dg : Int) := by omega
  have hf2 : ¬ (dl : Int) = (sl : Int) := by omega
  have hf3 : ¬ (sl : Int) = (dl : Int) := by omega
  have hf4 : ¬ (sl : Int) = (dg : Int) := by omega
  clear hy hz
  have d0 : W2.cell? ⟨w.heap.size + 2, 0, none⟩ = some (.int .i64 (dl : Int)) := HJ2.out.dd.cell 0 (by omega)
  have d1 : W2.cell? ⟨w.heap.size + 2, 1, none⟩ = some (.int .i64 (dg : Int)) := HJ2.out.dd.cell 1 (by omega)
  have s0 : W2.cell? ⟨w.heap.size + 3, 0, none⟩ = some (.int .i64 (sl : Int)) := HJ2.out.ss.cell 0 (by omega)
  have s1 : W2.cell? ⟨w.heap.size + 3, 1, none⟩ = some (.int .i64 (sg : Int)) := HJ2.out.ss.cell 1 (by omega)
  go_upto_region 7 with fail
  refine wp_region_list ?_
  refine wpList_lds 47 6 (w.heap.size + 2) (dl : Int) (dg : Int) (by kernel_rfl) (by kernel_rfl) HJ2.out.dd ?_
  obtain ⟨xb, hxb⟩ : ∃ xb, xb = W2.heap.size := ⟨_, rfl⟩
  refine wpList_als 11 xb hxb ?_
  have hX : Blk (W2.alloc (.cells #[.int .i64 0, .int .i64 0] 83)) xb 83 2 (fun j => [.int .i64 0, .int .i64 0].getD j undef) := by rw [hxb]; exact Blk.litL W2 83 [.int .i64 0, .int .i64 0]
  have hba : Below W2.heap.size W2 (W2.alloc (.cells #[.int .i64 0, .int .i64 0] 83)) := (Below.refl _ _).alloc (Nat.le_refl _) _
  have hBx := HB2.out.below hba
  have hjx := HJ2.out.more hba
  have hlt : wb < xb := by rw [hxb]; exact HB2.out.lt
  obtain ⟨Wx, hWx⟩ : ∃ Wx, Wx = W2.alloc (.cells #[.int .i64 0, .int .i64 0] 83) := ⟨_, rfl⟩
  rw [← hWx] at hX hBx hjx ⊢
  clear hWx hba hxb
  refine wpList_store_mid rfl 83 (.tmp 11) (.tmp 47) (by kernel_rfl) xb 0 #[.int .i64 (dl : Int), .int .i64 (dg : Int)] (by kernel_rfl) (by kernel_rfl) (there_blk hX) size_sp83 (by simp [Value.oneCell']) ?_
  have hk : Kp (fun x => x = xb) Wx (Wx.setCells xb 0 [.int .i64 (dl : Int), .int .i64 (dg : Int)]) := Kp.setCells (M := fun x => x = xb) (.inl rfl) _ _ _ (Kp.refl _ _)
  have hX2 : Blk (Wx.setCells xb 0 [.int .i64 (dl : Int), .int .i64 (dg : Int)]) xb 83 2 (fun j => [.int .i64 (dl : Int), .int .i64 (dg : Int)].getD j undef) := (Blk.setCells [.int .i64 (dl : Int), .int .i64 (dg : Int)] 0 Wx _ hX).congr (fun j hj => by rw [if_pos ⟨Nat.zero_le _, by simpa using hj⟩, Nat.sub_zero])
  have hB2 := hBx.keep hk (by omega)
  have hj2 := hjx.set xb (by have := HWZ.out; omega) 0 [.int .i64 (dl : Int), .int .i64 (dg : Int)]
  obtain ⟨W3, hW2⟩ : ∃ W2, W2 = Wx.setCells xb 0 [.int .i64 (dl : Int), .int .i64 (dg : Int)] := ⟨_, rfl⟩
  show wpList _ _ _ _ _ (Wx.setCells xb 0 [.int .i64 (dl : Int), .int .i64 (dg : Int)])
  rw [← hW2] at hX2 hB2 hj2 ⊢
  have HJ3 := Lib.hid hj2; have HB3 := Lib.hid hB2; have HX3 := Lib.hid hX2; have HXL := Lib.hid hlt
  clear hW2 hX hBx hjx hk hX2 hB2 hj2 hlt
  clear i0 d0 d1 s0 s1
  have d0 : W3.cell? ⟨w.heap.size + 2, 0, none⟩ = some (.int .i64 (dl : Int)) := HJ3.out.dd.cell 0 (by omega)
  have d1 : W3.cell? ⟨w.heap.size + 2, 1, none⟩ = some (.int .i64 (dg : Int)) := HJ3.out.dd.cell 1 (by omega)
  have s0 : W3.cell? ⟨w.heap.size + 3, 0, none⟩ = some (.int .i64 (sl : Int)) := HJ3.out.ss.cell 0 (by omega)
  have s1 : W3.cell? ⟨w.heap.size + 3, 1, none⟩ = some (.int .i64 (sg : Int)) := HJ3.out.ss.cell 1 (by omega)
  go_upto_region 12 with fail
  refine wp_region_list ?_
  refine wpList_ldk 66 5 (w.heap.size + 1) 0 k (by kernel_rfl) (by kernel_rfl) HJ3.out.kk.range ?_
  refine wpList_val0 (.pointer (some ⟨w.heap.size, 1, none⟩)) rfl (by kernel_rfl) ?_
  refine wpList_val0 (.int .i64 (i.dst : Int)) rfl (exec_ldint (.tmp 67) rfl (by kernel_rfl) (HJ3.out.ii.cell 1 (by omega))) ?_
  refine wpList_lds 69 11 xb (dl : Int) (dg : Int) (by kernel_rfl) (by kernel_rfl) HX3.out ?_

  refine wpList_callg (f := 34) (args := #[.agg (knL (k)).toArray, .int .i64 (i.dst : Int), .agg #[.int .i64 (dl : Int), .int .i64 (dg : Int)]]) (v := .agg (knL ((k).put i.dst ⟨dl, dg⟩)).toArray) (R := Below W3.heap.size W3) (by kernel_rfl) (by kernel_rfl) (HWI.out W3 dl dg (by have := HN2.out; have := HA.out; omega) (HN2.out)) (fun Wc hbc => ?_)
  have hBc := HB3.out.below hbc
  have hjc := HJ3.out.more hbc
  clear hbc

  refine wpList_val0 (.pointer (some ⟨wb, 0, none⟩)) rfl (by kernel_rfl) ?_
  refine wpList_stk 71 70 wb 0 (k.put i.dst ⟨dl, dg⟩) (by kernel_rfl) (by kernel_rfl) (there_mid hBc 0 31 (by omega)) ?_
  have hB3 := hBc.setn (k.put i.dst ⟨dl, dg⟩)
  have hj3 := hjc.set wb (by have := HWZ.out; omega) 0 (knL (k.put i.dst ⟨dl, dg⟩))
  obtain ⟨W4, hW3⟩ : ∃ W3, W3 = Wc.setCells wb 0 (knL (k.put i.dst ⟨dl, dg⟩)) := ⟨_, rfl⟩
  show wpList _ _ _ _ _ (Wc.setCells wb 0 (knL (k.put i.dst ⟨dl, dg⟩)))
  rw [← hW3] at hB3 hj3 ⊢
  have HJ4 := Lib.hid hj3; have HB4 := Lib.hid hB3
  clear hW3 hB3 hj3 hBc hjc
  have HBF : Hid (WyB W4 wb nx jx 0) := Lib.hid (by rw [HNX.out, HJX.out]; exact HB4.out)
  clear HNX HJX HB4
  go_upto_region 13 with fail
  refine wp_region_list ?_
  refine wpList_ldw 72 9 wb nx jx 0 (by kernel_rfl) (by kernel_rfl) HBF.out ?_
  refine wpList_stw 8 72 (w.heap.size + 4) nx jx 0 (by kernel_rfl) (by kernel_rfl) HJ4.out.rr ?_
  obtain ⟨W9, HW9, HR9, HE9, HK9⟩ := fin_store HJ4.out.b HJ4.out.rr (by omega) (wayL nx jx 0) (wayL_length _ _ _)
  rw [← HW9.out]
  go_wp2
  refine bodyPost_ret (v := .agg (wayL nx jx 0).toArray) (results_cell1_range Try.results36 _ _ (w.heap.size + 4) 0 (wayL nx jx 0) _ (by kernel_rfl) HR9.out Try.underlying64 rfl (by rw [wayL_length]; exact info_way)) ?_ ⟨rfl, HE9.out⟩
  rfl

set_option maxRecDepth 100000 in
set_option maxHeartbeats 2000000 in
theorem rj_eq2 (w : World) (i : Ins8) (k : Kn) (dl dg sl sg : Nat) (hop : i.op = 20) (hdst : i.dst < 10) (hsrc : i.src < 10) (h1 : dl ≤ dg) (h2 : dg ≤ 4294967295) (h3 : sl ≤ sg) (h4 : sg ≤ 4294967295) (HY : Hid (dg < sl ∧ dl < dg)) (nx jx : Kn) (HNX : Hid (nx = k.put i.dst ⟨dl, dg⟩)) (HJX : Hid (jx = kn0)) : Calls Try.prog 36 #[.agg #[.int .i64 (i.op : Int), .int .i64 (i.dst : Int), .int .i64 (i.src : Int), .int .i64 i.off, .int .u32 (i.imm : Int)], .agg (knL k).toArray, .agg #[.int .i64 (dl : Int), .int .i64 (dg : Int)], .agg #[.int .i64 (sl : Int), .int .i64 (sg : Int)]] w fun e w' => e = .returned (.agg (wayL nx jx 0).toArray) ∧ Below w.heap.size w w' := by
  obtain ⟨L, hL⟩ : ∃ L, L = (knL k).toArray := ⟨_, rfl⟩
  obtain ⟨W1, HW1, HJ1, HZ1⟩ := jw_world w i k dl dg sl sg L hL
  rw [← hL]
  clear hL
  have HWI := Lib.hid (fun W l g hl hg => refwith_ok W k i.dst l g hdst hl hg)
  have HA := Lib.hid h1; have HB := Lib.hid h3; have HDN := Lib.hid hdst
  have p2 : (dg : Int) ≤ 4294967295 := by omega
  have p4 : (sg : Int) ≤ 4294967295 := by omega
  have HN2 := Lib.hid h2; have HN4 := Lib.hid h4
  clear h1 h2 h3 h4 hdst
  go_enter Try.func36, Try.ntmps36
  go_upto_region 0 with fail
  refine wp_region_list ?_
  refine wpList_box 4 0 45 #[.int .i64 (i.op : Int), .int .i64 (i.dst : Int), .int .i64 (i.src : Int), .int .i64 i.off, .int .u32 (i.imm : Int)] w.heap.size rfl (by kernel_rfl) ?_
  refine wpList_box 5 1 42 L (w.heap.size + 1) (by simp) (by kernel_rfl) ?_
  refine wpList_box 6 2 83 #[.int .i64 (dl : Int), .int .i64 (dg : Int)] (w.heap.size + 2) (by simp) (by kernel_rfl) ?_
  refine wpList_box 7 3 83 #[.int .i64 (sl : Int), .int .i64 (sg : Int)] (w.heap.size + 3) (by simp) (by kernel_rfl) ?_
  refine wpList_alw2 8 (w.heap.size + 4) (by simp) ?_
  rw [← HW1.out]
  clear HW1
  go_upto_region 1 with fail
  refine wp_region_list ?_
  refine wpList_val0 (.agg (wayL kn0 kn0 0).toArray) rfl (exec_build0 64 rfl _ (bw_0 _)) ?_
  obtain ⟨wb, hwb⟩ : ∃ wb, wb = W1.heap.size := ⟨_, rfl⟩
  refine wpList_alw2 9 wb hwb ?_
  have hB : WyB (W1.alloc (.cells (wayL kn0 kn0 0).toArray 64)) wb kn0 kn0 0 := by rw [hwb]; exact wayB W1 kn0 kn0 0
  have hj : Jw w i k dl dg sl sg (W1.alloc (.cells (wayL kn0 kn0 0).toArray 64)) := HJ1.out.more ((Below.refl _ _).alloc (Nat.le_refl _) _)
  have hwz : w.heap.size + 5 = wb := by rw [hwb]; exact HZ1.out.symm
  obtain ⟨Wx, hWx⟩ : ∃ Wx, Wx = W1.alloc (.cells (wayL kn0 kn0 0).toArray 64) := ⟨_, rfl⟩
  rw [← hWx] at hB hj ⊢
  clear hWx hwb
  refine wpList_stw 9 12 wb kn0 kn0 0 (by kernel_rfl) (by kernel_rfl) hB ?_
  have hB2 := WyB.fill hB kn0 kn0 0
  have hj2 := hj.set wb (by omega) 0 (wayL kn0 kn0 0)
  obtain ⟨W2, hW2⟩ : ∃ W2, W2 = Wx.setCells wb 0 (wayL kn0 kn0 0) := ⟨_, rfl⟩
  rw [← hW2] at hB2 hj2 ⊢
  have HJ2 := Lib.hid hj2; have HB2 := Lib.hid hB2; have HWZ := Lib.hid hwz
  clear hW2 hB hj hB2 hj2 hwz HJ1 HZ1
  have i0 : W2.cell? ⟨w.heap.size, 0, none⟩ = some (.int .i64 20) := by have := HJ2.out.ii.cell 0 (by omega); rw [show ([.int .i64 (i.op : Int), .int .i64 (i.dst : Int), .int .i64 (i.src : Int), .int .i64 i.off, .int .u32 (i.imm : Int)].getD 0 undef : Value) = .int .i64 (i.op : Int) from rfl, hop] at this; exact this
  have HOP := Lib.hid hop; clear hop
  have hy := HY.out
  have hz := HA.out
  have hf0 : (dl : Int) ≤ (sl : Int) := by omega
  have hf1 : ¬ (dl : Int) = (dg : Int) := by omega
  have hf2 : ¬ (sl : Int) ≤ (dg : Int) := by omega
  have hf3 : ¬ (dl : Int) = (sl : Int) := by omega
  have hf4 : ¬ (sl : Int) = (dl : Int) := by omega
  have hf5 : ¬ (sl : Int) = (dg : Int) := by omega
  clear hy hz
  have d0 : W2.cell? ⟨w.heap.size + 2, 0, none⟩ = some (.int .i64 (dl : Int)) := HJ2.out.dd.cell 0 (by omega)
  have d1 : W2.cell? ⟨w.heap.size + 2, 1, none⟩ = some (.int .i64 (dg : Int)) := HJ2.out.dd.cell 1 (by omega)
  have s0 : W2.cell? ⟨w.heap.size + 3, 0, none⟩ = some (.int .i64 (sl : Int)) := HJ2.out.ss.cell 0 (by omega)
  have s1 : W2.cell? ⟨w.heap.size + 3, 1, none⟩ = some (.int .i64 (sg : Int)) := HJ2.out.ss.cell 1 (by omega)
  go_upto_region 7 with fail
  refine wp_region_list ?_
  refine wpList_lds 47 6 (w.heap.size + 2) (dl : Int) (dg : Int) (by kernel_rfl) (by kernel_rfl) HJ2.out.dd ?_
  obtain ⟨xb, hxb⟩ : ∃ xb, xb = W2.heap.size := ⟨_, rfl⟩
  refine wpList_als 11 xb hxb ?_
  have hX : Blk (W2.alloc (.cells #[.int .i64 0, .int .i64 0] 83)) xb 83 2 (fun j => [.int .i64 0, .int .i64 0].getD j undef) := by rw [hxb]; exact Blk.litL W2 83 [.int .i64 0, .int .i64 0]
  have hba : Below W2.heap.size W2 (W2.alloc (.cells #[.int .i64 0, .int .i64 0] 83)) := (Below.refl _ _).alloc (Nat.le_refl _) _
  have hBx := HB2.out.below hba
  have hjx := HJ2.out.more hba
  have hlt : wb < xb := by rw [hxb]; exact HB2.out.lt
  obtain ⟨Wx, hWx⟩ : ∃ Wx, Wx = W2.alloc (.cells #[.int .i64 0, .int .i64 0] 83) := ⟨_, rfl⟩
  rw [← hWx] at hX hBx hjx ⊢
  clear hWx hba hxb
  refine wpList_store_mid rfl 83 (.tmp 11) (.tmp 47) (by kernel_rfl) xb 0 #[.int .i64 (dl : Int), .int .i64 (dg : Int)] (by kernel_rfl) (by kernel_rfl) (there_blk hX) size_sp83 (by simp [Value.oneCell']) ?_
  have hk : Kp (fun x => x = xb) Wx (Wx.setCells xb 0 [.int .i64 (dl : Int), .int .i64 (dg : Int)]) := Kp.setCells (M := fun x => x = xb) (.inl rfl) _ _ _ (Kp.refl _ _)
  have hX2 : Blk (Wx.setCells xb 0 [.int .i64 (dl : Int), .int .i64 (dg : Int)]) xb 83 2 (fun j => [.int .i64 (dl : Int), .int .i64 (dg : Int)].getD j undef) := (Blk.setCells [.int .i64 (dl : Int), .int .i64 (dg : Int)] 0 Wx _ hX).congr (fun j hj => by rw [if_pos ⟨Nat.zero_le _, by simpa using hj⟩, Nat.sub_zero])
  have hB2 := hBx.keep hk (by omega)
  have hj2 := hjx.set xb (by have := HWZ.out; omega) 0 [.int .i64 (dl : Int), .int .i64 (dg : Int)]
  obtain ⟨W3, hW2⟩ : ∃ W2, W2 = Wx.setCells xb 0 [.int .i64 (dl : Int), .int .i64 (dg : Int)] := ⟨_, rfl⟩
  show wpList _ _ _ _ _ (Wx.setCells xb 0 [.int .i64 (dl : Int), .int .i64 (dg : Int)])
  rw [← hW2] at hX2 hB2 hj2 ⊢
  have HJ3 := Lib.hid hj2; have HB3 := Lib.hid hB2; have HX3 := Lib.hid hX2; have HXL := Lib.hid hlt
  clear hW2 hX hBx hjx hk hX2 hB2 hj2 hlt
  clear i0 d0 d1 s0 s1
  have d0 : W3.cell? ⟨w.heap.size + 2, 0, none⟩ = some (.int .i64 (dl : Int)) := HJ3.out.dd.cell 0 (by omega)
  have d1 : W3.cell? ⟨w.heap.size + 2, 1, none⟩ = some (.int .i64 (dg : Int)) := HJ3.out.dd.cell 1 (by omega)
  have s0 : W3.cell? ⟨w.heap.size + 3, 0, none⟩ = some (.int .i64 (sl : Int)) := HJ3.out.ss.cell 0 (by omega)
  have s1 : W3.cell? ⟨w.heap.size + 3, 1, none⟩ = some (.int .i64 (sg : Int)) := HJ3.out.ss.cell 1 (by omega)
  go_upto_region 12 with fail
  refine wp_region_list ?_
  refine wpList_ldk 66 5 (w.heap.size + 1) 0 k (by kernel_rfl) (by kernel_rfl) HJ3.out.kk.range ?_
  refine wpList_val0 (.pointer (some ⟨w.heap.size, 1, none⟩)) rfl (by kernel_rfl) ?_
  refine wpList_val0 (.int .i64 (i.dst : Int)) rfl (exec_ldint (.tmp 67) rfl (by kernel_rfl) (HJ3.out.ii.cell 1 (by omega))) ?_
  refine wpList_lds 69 11 xb (dl : Int) (dg : Int) (by kernel_rfl) (by kernel_rfl) HX3.out ?_

  refine wpList_callg (f := 34) (args := #[.agg (knL (k)).toArray, .int .i64 (i.dst : Int), .agg #[.int .i64 (dl : Int), .int .i64 (dg : Int)]]) (v := .agg (knL ((k).put i.dst ⟨dl, dg⟩)).toArray) (R := Below W3.heap.size W3) (by kernel_rfl) (by kernel_rfl) (HWI.out W3 dl dg (by have := HN2.out; have := HA.out; omega) (HN2.out)) (fun Wc hbc => ?_)
  have hBc := HB3.out.below hbc
  have hjc := HJ3.out.more hbc
  clear hbc

  refine wpList_val0 (.pointer (some ⟨wb, 0, none⟩)) rfl (by kernel_rfl) ?_
  refine wpList_stk 71 70 wb 0 (k.put i.dst ⟨dl, dg⟩) (by kernel_rfl) (by kernel_rfl) (there_mid hBc 0 31 (by omega)) ?_
  have hB3 := hBc.setn (k.put i.dst ⟨dl, dg⟩)
  have hj3 := hjc.set wb (by have := HWZ.out; omega) 0 (knL (k.put i.dst ⟨dl, dg⟩))
  obtain ⟨W4, hW3⟩ : ∃ W3, W3 = Wc.setCells wb 0 (knL (k.put i.dst ⟨dl, dg⟩)) := ⟨_, rfl⟩
  show wpList _ _ _ _ _ (Wc.setCells wb 0 (knL (k.put i.dst ⟨dl, dg⟩)))
  rw [← hW3] at hB3 hj3 ⊢
  have HJ4 := Lib.hid hj3; have HB4 := Lib.hid hB3
  clear hW3 hB3 hj3 hBc hjc
  have HBF : Hid (WyB W4 wb nx jx 0) := Lib.hid (by rw [HNX.out, HJX.out]; exact HB4.out)
  clear HNX HJX HB4
  go_upto_region 13 with fail
  refine wp_region_list ?_
  refine wpList_ldw 72 9 wb nx jx 0 (by kernel_rfl) (by kernel_rfl) HBF.out ?_
  refine wpList_stw 8 72 (w.heap.size + 4) nx jx 0 (by kernel_rfl) (by kernel_rfl) HJ4.out.rr ?_
  obtain ⟨W9, HW9, HR9, HE9, HK9⟩ := fin_store HJ4.out.b HJ4.out.rr (by omega) (wayL nx jx 0) (wayL_length _ _ _)
  rw [← HW9.out]
  go_wp2
  refine bodyPost_ret (v := .agg (wayL nx jx 0).toArray) (results_cell1_range Try.results36 _ _ (w.heap.size + 4) 0 (wayL nx jx 0) _ (by kernel_rfl) HR9.out Try.underlying64 rfl (by rw [wayL_length]; exact info_way)) ?_ ⟨rfl, HE9.out⟩
  rfl

set_option maxRecDepth 100000 in
set_option maxHeartbeats 2000000 in
theorem rj_eq7 (w : World) (i : Ins8) (k : Kn) (dl sl sg : Nat) (hop : i.op = 20) (hdst : i.dst < 10) (hsrc : i.src < 10) (h1 : dl ≤ dl) (h2 : dl ≤ 4294967295) (h3 : sl ≤ sg) (h4 : sg ≤ 4294967295) (HY : Hid (sl < dl)) (nx jx : Kn) (HNX : Hid (nx = k.put i.dst ⟨dl, dl⟩)) (HJX : Hid (jx = kn0)) : Calls Try.prog 36 #[.agg #[.int .i64 (i.op : Int), .int .i64 (i.dst : Int), .int .i64 (i.src : Int), .int .i64 i.off, .int .u32 (i.imm : Int)], .agg (knL k).toArray, .agg #[.int .i64 (dl : Int), .int .i64 (dl : Int)], .agg #[.int .i64 (sl : Int), .int .i64 (sg : Int)]] w fun e w' => e = .returned (.agg (wayL nx jx 0).toArray) ∧ Below w.heap.size w w' := by
  obtain ⟨L, hL⟩ : ∃ L, L = (knL k).toArray := ⟨_, rfl⟩
  obtain ⟨W1, HW1, HJ1, HZ1⟩ := jw_world w i k dl dl sl sg L hL
  rw [← hL]
  clear hL
  have HWI := Lib.hid (fun W l g hl hg => refwith_ok W k i.dst l g hdst hl hg)
  have HA := Lib.hid h1; have HB := Lib.hid h3; have HDN := Lib.hid hdst
  have p2 : (dl : Int) ≤ 4294967295 := by omega
  have p4 : (sg : Int) ≤ 4294967295 := by omega
  have HN2 := Lib.hid h2; have HN4 := Lib.hid h4
  clear h1 h2 h3 h4 hdst
  go_enter Try.func36, Try.ntmps36
  go_upto_region 0 with fail
  refine wp_region_list ?_
  refine wpList_box 4 0 45 #[.int .i64 (i.op : Int), .int .i64 (i.dst : Int), .int .i64 (i.src : Int), .int .i64 i.off, .int .u32 (i.imm : Int)] w.heap.size rfl (by kernel_rfl) ?_
  refine wpList_box 5 1 42 L (w.heap.size + 1) (by simp) (by kernel_rfl) ?_
  refine wpList_box 6 2 83 #[.int .i64 (dl : Int), .int .i64 (dl : Int)] (w.heap.size + 2) (by simp) (by kernel_rfl) ?_
  refine wpList_box 7 3 83 #[.int .i64 (sl : Int), .int .i64 (sg : Int)] (w.heap.size + 3) (by simp) (by kernel_rfl) ?_
  refine wpList_alw2 8 (w.heap.size + 4) (by simp) ?_
  rw [← HW1.out]
  clear HW1
  go_upto_region 1 with fail
  refine wp_region_list ?_
  refine wpList_val0 (.agg (wayL kn0 kn0 0).toArray) rfl (exec_build0 64 rfl _ (bw_0 _)) ?_
  obtain ⟨wb, hwb⟩ : ∃ wb, wb = W1.heap.size := ⟨_, rfl⟩
  refine wpList_alw2 9 wb hwb ?_
  have hB : WyB (W1.alloc (.cells (wayL kn0 kn0 0).toArray 64)) wb kn0 kn0 0 := by rw [hwb]; exact wayB W1 kn0 kn0 0
  have hj : Jw w i k dl dl sl sg (W1.alloc (.cells (wayL kn0 kn0 0).toArray 64)) := HJ1.out.more ((Below.refl _ _).alloc (Nat.le_refl _) _)
  have hwz : w.heap.size + 5 = wb := by rw [hwb]; exact HZ1.out.symm
  obtain ⟨Wx, hWx⟩ : ∃ Wx, Wx = W1.alloc (.cells (wayL kn0 kn0 0).toArray 64) := ⟨_, rfl⟩
  rw [← hWx] at hB hj ⊢
  clear hWx hwb
  refine wpList_stw 9 12 wb kn0 kn0 0 (by kernel_rfl) (by kernel_rfl) hB ?_
  have hB2 := WyB.fill hB kn0 kn0 0
  have hj2 := hj.set wb (by omega) 0 (wayL kn0 kn0 0)
  obtain ⟨W2, hW2⟩ : ∃ W2, W2 = Wx.setCells wb 0 (wayL kn0 kn0 0) := ⟨_, rfl⟩
  rw [← hW2] at hB2 hj2 ⊢
  have HJ2 := Lib.hid hj2; have HB2 := Lib.hid hB2; have HWZ := Lib.hid hwz
  clear hW2 hB hj hB2 hj2 hwz HJ1 HZ1
  have i0 : W2.cell? ⟨w.heap.size, 0, none⟩ = some (.int .i64 20) := by have := HJ2.out.ii.cell 0 (by omega); rw [show ([.int .i64 (i.op : Int), .int .i64 (i.dst : Int), .int .i64 (i.src : Int), .int .i64 i.off, .int .u32 (i.imm : Int)].getD 0 undef : Value) = .int .i64 (i.op : Int) from rfl, hop] at this; exact this
  have HOP := Lib.hid hop; clear hop
  have hy := HY.out
  have hz := HA.out
  have hf0 : ¬ (dl : Int) ≤ (sl : Int) := by omega
  have hf1 : ¬ (dl : Int) = (sl : Int) := by omega
  have hf2 : ¬ (sl : Int) = (dl : Int) := by omega
  clear hy hz
  have d0 : W2.cell? ⟨w.heap.size + 2, 0, none⟩ = some (.int .i64 (dl : Int)) := HJ2.out.dd.cell 0 (by omega)
  have d1 : W2.cell? ⟨w.heap.size + 2, 1, none⟩ = some (.int .i64 (dl : Int)) := HJ2.out.dd.cell 1 (by omega)
  have s0 : W2.cell? ⟨w.heap.size + 3, 0, none⟩ = some (.int .i64 (sl : Int)) := HJ2.out.ss.cell 0 (by omega)
  have s1 : W2.cell? ⟨w.heap.size + 3, 1, none⟩ = some (.int .i64 (sg : Int)) := HJ2.out.ss.cell 1 (by omega)
  go_upto_region 7 with fail
  refine wp_region_list ?_
  refine wpList_lds 47 6 (w.heap.size + 2) (dl : Int) (dl : Int) (by kernel_rfl) (by kernel_rfl) HJ2.out.dd ?_
  obtain ⟨xb, hxb⟩ : ∃ xb, xb = W2.heap.size := ⟨_, rfl⟩
  refine wpList_als 11 xb hxb ?_
  have hX : Blk (W2.alloc (.cells #[.int .i64 0, .int .i64 0] 83)) xb 83 2 (fun j => [.int .i64 0, .int .i64 0].getD j undef) := by rw [hxb]; exact Blk.litL W2 83 [.int .i64 0, .int .i64 0]
  have hba : Below W2.heap.size W2 (W2.alloc (.cells #[.int .i64 0, .int .i64 0] 83)) := (Below.refl _ _).alloc (Nat.le_refl _) _
  have hBx := HB2.out.below hba
  have hjx := HJ2.out.more hba
  have hlt : wb < xb := by rw [hxb]; exact HB2.out.lt
  obtain ⟨Wx, hWx⟩ : ∃ Wx, Wx = W2.alloc (.cells #[.int .i64 0, .int .i64 0] 83) := ⟨_, rfl⟩
  rw [← hWx] at hX hBx hjx ⊢
  clear hWx hba hxb
  refine wpList_store_mid rfl 83 (.tmp 11) (.tmp 47) (by kernel_rfl) xb 0 #[.int .i64 (dl : Int), .int .i64 (dl : Int)] (by kernel_rfl) (by kernel_rfl) (there_blk hX) size_sp83 (by simp [Value.oneCell']) ?_
  have hk : Kp (fun x => x = xb) Wx (Wx.setCells xb 0 [.int .i64 (dl : Int), .int .i64 (dl : Int)]) := Kp.setCells (M := fun x => x = xb) (.inl rfl) _ _ _ (Kp.refl _ _)
  have hX2 : Blk (Wx.setCells xb 0 [.int .i64 (dl : Int), .int .i64 (dl : Int)]) xb 83 2 (fun j => [.int .i64 (dl : Int), .int .i64 (dl : Int)].getD j undef) := (Blk.setCells [.int .i64 (dl : Int), .int .i64 (dl : Int)] 0 Wx _ hX).congr (fun j hj => by rw [if_pos ⟨Nat.zero_le _, by simpa using hj⟩, Nat.sub_zero])
  have hB2 := hBx.keep hk (by omega)
  have hj2 := hjx.set xb (by have := HWZ.out; omega) 0 [.int .i64 (dl : Int), .int .i64 (dl : Int)]
  obtain ⟨W3, hW2⟩ : ∃ W2, W2 = Wx.setCells xb 0 [.int .i64 (dl : Int), .int .i64 (dl : Int)] := ⟨_, rfl⟩
  show wpList _ _ _ _ _ (Wx.setCells xb 0 [.int .i64 (dl : Int), .int .i64 (dl : Int)])
  rw [← hW2] at hX2 hB2 hj2 ⊢
  have HJ3 := Lib.hid hj2; have HB3 := Lib.hid hB2; have HX3 := Lib.hid hX2; have HXL := Lib.hid hlt
  clear hW2 hX hBx hjx hk hX2 hB2 hj2 hlt
  clear i0 d0 d1 s0 s1
  have d0 : W3.cell? ⟨w.heap.size + 2, 0, none⟩ = some (.int .i64 (dl : Int)) := HJ3.out.dd.cell 0 (by omega)
  have d1 : W3.cell? ⟨w.heap.size + 2, 1, none⟩ = some (.int .i64 (dl : Int)) := HJ3.out.dd.cell 1 (by omega)
  have s0 : W3.cell? ⟨w.heap.size + 3, 0, none⟩ = some (.int .i64 (sl : Int)) := HJ3.out.ss.cell 0 (by omega)
  have s1 : W3.cell? ⟨w.heap.size + 3, 1, none⟩ = some (.int .i64 (sg : Int)) := HJ3.out.ss.cell 1 (by omega)
  go_upto_region 12 with fail
  refine wp_region_list ?_
  refine wpList_ldk 66 5 (w.heap.size + 1) 0 k (by kernel_rfl) (by kernel_rfl) HJ3.out.kk.range ?_
  refine wpList_val0 (.pointer (some ⟨w.heap.size, 1, none⟩)) rfl (by kernel_rfl) ?_
  refine wpList_val0 (.int .i64 (i.dst : Int)) rfl (exec_ldint (.tmp 67) rfl (by kernel_rfl) (HJ3.out.ii.cell 1 (by omega))) ?_
  refine wpList_lds 69 11 xb (dl : Int) (dl : Int) (by kernel_rfl) (by kernel_rfl) HX3.out ?_

  refine wpList_callg (f := 34) (args := #[.agg (knL (k)).toArray, .int .i64 (i.dst : Int), .agg #[.int .i64 (dl : Int), .int .i64 (dl : Int)]]) (v := .agg (knL ((k).put i.dst ⟨dl, dl⟩)).toArray) (R := Below W3.heap.size W3) (by kernel_rfl) (by kernel_rfl) (HWI.out W3 dl dl (by have := HN2.out; have := HA.out; omega) (HN2.out)) (fun Wc hbc => ?_)
  have hBc := HB3.out.below hbc
  have hjc := HJ3.out.more hbc
  clear hbc

  refine wpList_val0 (.pointer (some ⟨wb, 0, none⟩)) rfl (by kernel_rfl) ?_
  refine wpList_stk 71 70 wb 0 (k.put i.dst ⟨dl, dl⟩) (by kernel_rfl) (by kernel_rfl) (there_mid hBc 0 31 (by omega)) ?_
  have hB3 := hBc.setn (k.put i.dst ⟨dl, dl⟩)
  have hj3 := hjc.set wb (by have := HWZ.out; omega) 0 (knL (k.put i.dst ⟨dl, dl⟩))
  obtain ⟨W4, hW3⟩ : ∃ W3, W3 = Wc.setCells wb 0 (knL (k.put i.dst ⟨dl, dl⟩)) := ⟨_, rfl⟩
  show wpList _ _ _ _ _ (Wc.setCells wb 0 (knL (k.put i.dst ⟨dl, dl⟩)))
  rw [← hW3] at hB3 hj3 ⊢
  have HJ4 := Lib.hid hj3; have HB4 := Lib.hid hB3
  clear hW3 hB3 hj3 hBc hjc
  have HBF : Hid (WyB W4 wb nx jx 0) := Lib.hid (by rw [HNX.out, HJX.out]; exact HB4.out)
  clear HNX HJX HB4
  go_upto_region 13 with fail
  refine wp_region_list ?_
  refine wpList_ldw 72 9 wb nx jx 0 (by kernel_rfl) (by kernel_rfl) HBF.out ?_
  refine wpList_stw 8 72 (w.heap.size + 4) nx jx 0 (by kernel_rfl) (by kernel_rfl) HJ4.out.rr ?_
  obtain ⟨W9, HW9, HR9, HE9, HK9⟩ := fin_store HJ4.out.b HJ4.out.rr (by omega) (wayL nx jx 0) (wayL_length _ _ _)
  rw [← HW9.out]
  go_wp2
  refine bodyPost_ret (v := .agg (wayL nx jx 0).toArray) (results_cell1_range Try.results36 _ _ (w.heap.size + 4) 0 (wayL nx jx 0) _ (by kernel_rfl) HR9.out Try.underlying64 rfl (by rw [wayL_length]; exact info_way)) ?_ ⟨rfl, HE9.out⟩
  rfl

set_option maxRecDepth 100000 in
set_option maxHeartbeats 2000000 in
theorem rj_eq8 (w : World) (i : Ins8) (k : Kn) (dl sl sg : Nat) (hop : i.op = 20) (hdst : i.dst < 10) (hsrc : i.src < 10) (h1 : dl ≤ dl) (h2 : dl ≤ 4294967295) (h3 : sl ≤ sg) (h4 : sg ≤ 4294967295) (HY : Hid (dl < sl)) (nx jx : Kn) (HNX : Hid (nx = k.put i.dst ⟨dl, dl⟩)) (HJX : Hid (jx = kn0)) : Calls Try.prog 36 #[.agg #[.int .i64 (i.op : Int), .int .i64 (i.dst : Int), .int .i64 (i.src : Int), .int .i64 i.off, .int .u32 (i.imm : Int)], .agg (knL k).toArray, .agg #[.int .i64 (dl : Int), .int .i64 (dl : Int)], .agg #[.int .i64 (sl : Int), .int .i64 (sg : Int)]] w fun e w' => e = .returned (.agg (wayL nx jx 0).toArray) ∧ Below w.heap.size w w' := by
  obtain ⟨L, hL⟩ : ∃ L, L = (knL k).toArray := ⟨_, rfl⟩
  obtain ⟨W1, HW1, HJ1, HZ1⟩ := jw_world w i k dl dl sl sg L hL
  rw [← hL]
  clear hL
  have HWI := Lib.hid (fun W l g hl hg => refwith_ok W k i.dst l g hdst hl hg)
  have HA := Lib.hid h1; have HB := Lib.hid h3; have HDN := Lib.hid hdst
  have p2 : (dl : Int) ≤ 4294967295 := by omega
  have p4 : (sg : Int) ≤ 4294967295 := by omega
  have HN2 := Lib.hid h2; have HN4 := Lib.hid h4
  clear h1 h2 h3 h4 hdst
  go_enter Try.func36, Try.ntmps36
  go_upto_region 0 with fail
  refine wp_region_list ?_
  refine wpList_box 4 0 45 #[.int .i64 (i.op : Int), .int .i64 (i.dst : Int), .int .i64 (i.src : Int), .int .i64 i.off, .int .u32 (i.imm : Int)] w.heap.size rfl (by kernel_rfl) ?_
  refine wpList_box 5 1 42 L (w.heap.size + 1) (by simp) (by kernel_rfl) ?_
  refine wpList_box 6 2 83 #[.int .i64 (dl : Int), .int .i64 (dl : Int)] (w.heap.size + 2) (by simp) (by kernel_rfl) ?_
  refine wpList_box 7 3 83 #[.int .i64 (sl : Int), .int .i64 (sg : Int)] (w.heap.size + 3) (by simp) (by kernel_rfl) ?_
  refine wpList_alw2 8 (w.heap.size + 4) (by simp) ?_
  rw [← HW1.out]
  clear HW1
  go_upto_region 1 with fail
  refine wp_region_list ?_
  refine wpList_val0 (.agg (wayL kn0 kn0 0).toArray) rfl (exec_build0 64 rfl _ (bw_0 _)) ?_
  obtain ⟨wb, hwb⟩ : ∃ wb, wb = W1.heap.size := ⟨_, rfl⟩
  refine wpList_alw2 9 wb hwb ?_
  have hB : WyB (W1.alloc (.cells (wayL kn0 kn0 0).toArray 64)) wb kn0 kn0 0 := by rw [hwb]; exact wayB W1 kn0 kn0 0
  have hj : Jw w i k dl dl sl sg (W1.alloc (.cells (wayL kn0 kn0 0).toArray 64)) := HJ1.out.more ((Below.refl _ _).alloc (Nat.le_refl _) _)
  have hwz : w.heap.size + 5 = wb := by rw [hwb]; exact HZ1.out.symm
  obtain ⟨Wx, hWx⟩ : ∃ Wx, Wx = W1.alloc (.cells (wayL kn0 kn0 0).toArray 64) := ⟨_, rfl⟩
  rw [← hWx] at hB hj ⊢
  clear hWx hwb
  refine wpList_stw 9 12 wb kn0 kn0 0 (by kernel_rfl) (by kernel_rfl) hB ?_
  have hB2 := WyB.fill hB kn0 kn0 0
  have hj2 := hj.set wb (by omega) 0 (wayL kn0 kn0 0)
  obtain ⟨W2, hW2⟩ : ∃ W2, W2 = Wx.setCells wb 0 (wayL kn0 kn0 0) := ⟨_, rfl⟩
  rw [← hW2] at hB2 hj2 ⊢
  have HJ2 := Lib.hid hj2; have HB2 := Lib.hid hB2; have HWZ := Lib.hid hwz
  clear hW2 hB hj hB2 hj2 hwz HJ1 HZ1
  have i0 : W2.cell? ⟨w.heap.size, 0, none⟩ = some (.int .i64 20) := by have := HJ2.out.ii.cell 0 (by omega); rw [show ([.int .i64 (i.op : Int), .int .i64 (i.dst : Int), .int .i64 (i.src : Int), .int .i64 i.off, .int .u32 (i.imm : Int)].getD 0 undef : Value) = .int .i64 (i.op : Int) from rfl, hop] at this; exact this
  have HOP := Lib.hid hop; clear hop
  have hy := HY.out
  have hz := HA.out
  have hf0 : (dl : Int) ≤ (sl : Int) := by omega
  have hf1 : ¬ (sl : Int) ≤ (dl : Int) := by omega
  have hf2 : ¬ (dl : Int) = (sl : Int) := by omega
  have hf3 : ¬ (sl : Int) = (dl : Int) := by omega
  clear hy hz
  have d0 : W2.cell? ⟨w.heap.size + 2, 0, none⟩ = some (.int .i64 (dl : Int)) := HJ2.out.dd.cell 0 (by omega)
  have d1 : W2.cell? ⟨w.heap.size + 2, 1, none⟩ = some (.int .i64 (dl : Int)) := HJ2.out.dd.cell 1 (by omega)
  have s0 : W2.cell? ⟨w.heap.size + 3, 0, none⟩ = some (.int .i64 (sl : Int)) := HJ2.out.ss.cell 0 (by omega)
  have s1 : W2.cell? ⟨w.heap.size + 3, 1, none⟩ = some (.int .i64 (sg : Int)) := HJ2.out.ss.cell 1 (by omega)
  go_upto_region 7 with fail
  refine wp_region_list ?_
  refine wpList_lds 47 6 (w.heap.size + 2) (dl : Int) (dl : Int) (by kernel_rfl) (by kernel_rfl) HJ2.out.dd ?_
  obtain ⟨xb, hxb⟩ : ∃ xb, xb = W2.heap.size := ⟨_, rfl⟩
  refine wpList_als 11 xb hxb ?_
  have hX : Blk (W2.alloc (.cells #[.int .i64 0, .int .i64 0] 83)) xb 83 2 (fun j => [.int .i64 0, .int .i64 0].getD j undef) := by rw [hxb]; exact Blk.litL W2 83 [.int .i64 0, .int .i64 0]
  have hba : Below W2.heap.size W2 (W2.alloc (.cells #[.int .i64 0, .int .i64 0] 83)) := (Below.refl _ _).alloc (Nat.le_refl _) _
  have hBx := HB2.out.below hba
  have hjx := HJ2.out.more hba
  have hlt : wb < xb := by rw [hxb]; exact HB2.out.lt
  obtain ⟨Wx, hWx⟩ : ∃ Wx, Wx = W2.alloc (.cells #[.int .i64 0, .int .i64 0] 83) := ⟨_, rfl⟩
  rw [← hWx] at hX hBx hjx ⊢
  clear hWx hba hxb
  refine wpList_store_mid rfl 83 (.tmp 11) (.tmp 47) (by kernel_rfl) xb 0 #[.int .i64 (dl : Int), .int .i64 (dl : Int)] (by kernel_rfl) (by kernel_rfl) (there_blk hX) size_sp83 (by simp [Value.oneCell']) ?_
  have hk : Kp (fun x => x = xb) Wx (Wx.setCells xb 0 [.int .i64 (dl : Int), .int .i64 (dl : Int)]) := Kp.setCells (M := fun x => x = xb) (.inl rfl) _ _ _ (Kp.refl _ _)
  have hX2 : Blk (Wx.setCells xb 0 [.int .i64 (dl : Int), .int .i64 (dl : Int)]) xb 83 2 (fun j => [.int .i64 (dl : Int), .int .i64 (dl : Int)].getD j undef) := (Blk.setCells [.int .i64 (dl : Int), .int .i64 (dl : Int)] 0 Wx _ hX).congr (fun j hj => by rw [if_pos ⟨Nat.zero_le _, by simpa using hj⟩, Nat.sub_zero])
  have hB2 := hBx.keep hk (by omega)
  have hj2 := hjx.set xb (by have := HWZ.out; omega) 0 [.int .i64 (dl : Int), .int .i64 (dl : Int)]
  obtain ⟨W3, hW2⟩ : ∃ W2, W2 = Wx.setCells xb 0 [.int .i64 (dl : Int), .int .i64 (dl : Int)] := ⟨_, rfl⟩
  show wpList _ _ _ _ _ (Wx.setCells xb 0 [.int .i64 (dl : Int), .int .i64 (dl : Int)])
  rw [← hW2] at hX2 hB2 hj2 ⊢
  have HJ3 := Lib.hid hj2; have HB3 := Lib.hid hB2; have HX3 := Lib.hid hX2; have HXL := Lib.hid hlt
  clear hW2 hX hBx hjx hk hX2 hB2 hj2 hlt
  clear i0 d0 d1 s0 s1
  have d0 : W3.cell? ⟨w.heap.size + 2, 0, none⟩ = some (.int .i64 (dl : Int)) := HJ3.out.dd.cell 0 (by omega)
  have d1 : W3.cell? ⟨w.heap.size + 2, 1, none⟩ = some (.int .i64 (dl : Int)) := HJ3.out.dd.cell 1 (by omega)
  have s0 : W3.cell? ⟨w.heap.size + 3, 0, none⟩ = some (.int .i64 (sl : Int)) := HJ3.out.ss.cell 0 (by omega)
  have s1 : W3.cell? ⟨w.heap.size + 3, 1, none⟩ = some (.int .i64 (sg : Int)) := HJ3.out.ss.cell 1 (by omega)
  go_upto_region 12 with fail
  refine wp_region_list ?_
  refine wpList_ldk 66 5 (w.heap.size + 1) 0 k (by kernel_rfl) (by kernel_rfl) HJ3.out.kk.range ?_
  refine wpList_val0 (.pointer (some ⟨w.heap.size, 1, none⟩)) rfl (by kernel_rfl) ?_
  refine wpList_val0 (.int .i64 (i.dst : Int)) rfl (exec_ldint (.tmp 67) rfl (by kernel_rfl) (HJ3.out.ii.cell 1 (by omega))) ?_
  refine wpList_lds 69 11 xb (dl : Int) (dl : Int) (by kernel_rfl) (by kernel_rfl) HX3.out ?_

  refine wpList_callg (f := 34) (args := #[.agg (knL (k)).toArray, .int .i64 (i.dst : Int), .agg #[.int .i64 (dl : Int), .int .i64 (dl : Int)]]) (v := .agg (knL ((k).put i.dst ⟨dl, dl⟩)).toArray) (R := Below W3.heap.size W3) (by kernel_rfl) (by kernel_rfl) (HWI.out W3 dl dl (by have := HN2.out; have := HA.out; omega) (HN2.out)) (fun Wc hbc => ?_)
  have hBc := HB3.out.below hbc
  have hjc := HJ3.out.more hbc
  clear hbc

  refine wpList_val0 (.pointer (some ⟨wb, 0, none⟩)) rfl (by kernel_rfl) ?_
  refine wpList_stk 71 70 wb 0 (k.put i.dst ⟨dl, dl⟩) (by kernel_rfl) (by kernel_rfl) (there_mid hBc 0 31 (by omega)) ?_
  have hB3 := hBc.setn (k.put i.dst ⟨dl, dl⟩)
  have hj3 := hjc.set wb (by have := HWZ.out; omega) 0 (knL (k.put i.dst ⟨dl, dl⟩))
  obtain ⟨W4, hW3⟩ : ∃ W3, W3 = Wc.setCells wb 0 (knL (k.put i.dst ⟨dl, dl⟩)) := ⟨_, rfl⟩
  show wpList _ _ _ _ _ (Wc.setCells wb 0 (knL (k.put i.dst ⟨dl, dl⟩)))
  rw [← hW3] at hB3 hj3 ⊢
  have HJ4 := Lib.hid hj3; have HB4 := Lib.hid hB3
  clear hW3 hB3 hj3 hBc hjc
  have HBF : Hid (WyB W4 wb nx jx 0) := Lib.hid (by rw [HNX.out, HJX.out]; exact HB4.out)
  clear HNX HJX HB4
  go_upto_region 13 with fail
  refine wp_region_list ?_
  refine wpList_ldw 72 9 wb nx jx 0 (by kernel_rfl) (by kernel_rfl) HBF.out ?_
  refine wpList_stw 8 72 (w.heap.size + 4) nx jx 0 (by kernel_rfl) (by kernel_rfl) HJ4.out.rr ?_
  obtain ⟨W9, HW9, HR9, HE9, HK9⟩ := fin_store HJ4.out.b HJ4.out.rr (by omega) (wayL nx jx 0) (wayL_length _ _ _)
  rw [← HW9.out]
  go_wp2
  refine bodyPost_ret (v := .agg (wayL nx jx 0).toArray) (results_cell1_range Try.results36 _ _ (w.heap.size + 4) 0 (wayL nx jx 0) _ (by kernel_rfl) HR9.out Try.underlying64 rfl (by rw [wayL_length]; exact info_way)) ?_ ⟨rfl, HE9.out⟩
  rfl

set_option maxRecDepth 100000 in
set_option maxHeartbeats 2000000 in
theorem rj_eq3 (w : World) (i : Ins8) (k : Kn) (dl dg sl sg : Nat) (hop : i.op = 20) (hdst : i.dst < 10) (hsrc : i.src < 10) (h1 : dl ≤ dg) (h2 : dg ≤ 4294967295) (h3 : sl ≤ sg) (h4 : sg ≤ 4294967295) (HY : Hid (dl = sl ∧ dg = sl)) (nx jx : Kn) (HNX : Hid (nx = kn0)) (HJX : Hid (jx = k.put i.dst ⟨sl, sg⟩)) : Calls Try.prog 36 #[.agg #[.int .i64 (i.op : Int), .int .i64 (i.dst : Int), .int .i64 (i.src : Int), .int .i64 i.off, .int .u32 (i.imm : Int)], .agg (knL k).toArray, .agg #[.int .i64 (dl : Int), .int .i64 (dg : Int)], .agg #[.int .i64 (sl : Int), .int .i64 (sg : Int)]] w fun e w' => e = .returned (.agg (wayL nx jx 0).toArray) ∧ Below w.heap.size w w' := by
  obtain ⟨L, hL⟩ : ∃ L, L = (knL k).toArray := ⟨_, rfl⟩
  obtain ⟨W1, HW1, HJ1, HZ1⟩ := jw_world w i k dl dg sl sg L hL
  rw [← hL]
  clear hL
  have HWI := Lib.hid (fun W l g hl hg => refwith_ok W k i.dst l g hdst hl hg)
  have HA := Lib.hid h1; have HB := Lib.hid h3; have HDN := Lib.hid hdst
  have p2 : (dg : Int) ≤ 4294967295 := by omega
  have p4 : (sg : Int) ≤ 4294967295 := by omega
  have HN2 := Lib.hid h2; have HN4 := Lib.hid h4
  clear h1 h2 h3 h4 hdst
  go_enter Try.func36, Try.ntmps36
  go_upto_region 0 with fail
  refine wp_region_list ?_
  refine wpList_box 4 0 45 #[.int .i64 (i.op : Int), .int .i64 (i.dst : Int), .int .i64 (i.src : Int), .int .i64 i.off, .int .u32 (i.imm : Int)] w.heap.size rfl (by kernel_rfl) ?_
  refine wpList_box 5 1 42 L (w.heap.size + 1) (by simp) (by kernel_rfl) ?_
  refine wpList_box 6 2 83 #[.int .i64 (dl : Int), .int .i64 (dg : Int)] (w.heap.size + 2) (by simp) (by kernel_rfl) ?_
  refine wpList_box 7 3 83 #[.int .i64 (sl : Int), .int .i64 (sg : Int)] (w.heap.size + 3) (by simp) (by kernel_rfl) ?_
  refine wpList_alw2 8 (w.heap.size + 4) (by simp) ?_
  rw [← HW1.out]
  clear HW1
  go_upto_region 1 with fail
  refine wp_region_list ?_
  refine wpList_val0 (.agg (wayL kn0 kn0 0).toArray) rfl (exec_build0 64 rfl _ (bw_0 _)) ?_
  obtain ⟨wb, hwb⟩ : ∃ wb, wb = W1.heap.size := ⟨_, rfl⟩
  refine wpList_alw2 9 wb hwb ?_
  have hB : WyB (W1.alloc (.cells (wayL kn0 kn0 0).toArray 64)) wb kn0 kn0 0 := by rw [hwb]; exact wayB W1 kn0 kn0 0
  have hj : Jw w i k dl dg sl sg (W1.alloc (.cells (wayL kn0 kn0 0).toArray 64)) := HJ1.out.more ((Below.refl _ _).alloc (Nat.le_refl _) _)
  have hwz : w.heap.size + 5 = wb := by rw [hwb]; exact HZ1.out.symm
  obtain ⟨Wx, hWx⟩ : ∃ Wx, Wx = W1.alloc (.cells (wayL kn0 kn0 0).toArray 64) := ⟨_, rfl⟩
  rw [← hWx] at hB hj ⊢
  clear hWx hwb
  refine wpList_stw 9 12 wb kn0 kn0 0 (by kernel_rfl) (by kernel_rfl) hB ?_
  have hB2 := WyB.fill hB kn0 kn0 0
  have hj2 := hj.set wb (by omega) 0 (wayL kn0 kn0 0)
  obtain ⟨W2, hW2⟩ : ∃ W2, W2 = Wx.setCells wb 0 (wayL kn0 kn0 0) := ⟨_, rfl⟩
  rw [← hW2] at hB2 hj2 ⊢
  have HJ2 := Lib.hid hj2; have HB2 := Lib.hid hB2; have HWZ := Lib.hid hwz
  clear hW2 hB hj hB2 hj2 hwz HJ1 HZ1
  have i0 : W2.cell? ⟨w.heap.size, 0, none⟩ = some (.int .i64 20) := by have := HJ2.out.ii.cell 0 (by omega); rw [show ([.int .i64 (i.op : Int), .int .i64 (i.dst : Int), .int .i64 (i.src : Int), .int .i64 i.off, .int .u32 (i.imm : Int)].getD 0 undef : Value) = .int .i64 (i.op : Int) from rfl, hop] at this; exact this
  have HOP := Lib.hid hop; clear hop
  have hy := HY.out
  have hz := HA.out
  have hf0 : (dl : Int) ≤ (sl : Int) := by omega
  have hf1 : (sl : Int) ≤ (dg : Int) := by omega
  clear hy hz
  have d0 : W2.cell? ⟨w.heap.size + 2, 0, none⟩ = some (.int .i64 (dl : Int)) := HJ2.out.dd.cell 0 (by omega)
  have d1 : W2.cell? ⟨w.heap.size + 2, 1, none⟩ = some (.int .i64 (dg : Int)) := HJ2.out.dd.cell 1 (by omega)
  have s0 : W2.cell? ⟨w.heap.size + 3, 0, none⟩ = some (.int .i64 (sl : Int)) := HJ2.out.ss.cell 0 (by omega)
  have s1 : W2.cell? ⟨w.heap.size + 3, 1, none⟩ = some (.int .i64 (sg : Int)) := HJ2.out.ss.cell 1 (by omega)
  go_upto_region 5 with fail
  refine wp_region_list ?_
  refine wpList_ldk 29 5 (w.heap.size + 1) 0 k (by kernel_rfl) (by kernel_rfl) HJ2.out.kk.range ?_
  refine wpList_val0 (.pointer (some ⟨w.heap.size, 1, none⟩)) rfl (by kernel_rfl) ?_
  refine wpList_val0 (.int .i64 (i.dst : Int)) rfl (exec_ldint (.tmp 30) rfl (by kernel_rfl) (HJ2.out.ii.cell 1 (by omega))) ?_
  refine wpList_lds 32 7 (w.heap.size + 3) (sl : Int) (sg : Int) (by kernel_rfl) (by kernel_rfl) HJ2.out.ss ?_

  refine wpList_callg (f := 34) (args := #[.agg (knL (k)).toArray, .int .i64 (i.dst : Int), .agg #[.int .i64 (sl : Int), .int .i64 (sg : Int)]]) (v := .agg (knL ((k).put i.dst ⟨sl, sg⟩)).toArray) (R := Below W2.heap.size W2) (by kernel_rfl) (by kernel_rfl) (HWI.out W2 sl sg (by have := HB.out; have := HN4.out; omega) (HN4.out)) (fun Wc hbc => ?_)
  have hBc := HB2.out.below hbc
  have hjc := HJ2.out.more hbc
  clear hbc

  refine wpList_val0 (.pointer (some ⟨wb, 31, none⟩)) rfl (by kernel_rfl) ?_
  refine wpList_stk 34 33 wb 31 (k.put i.dst ⟨sl, sg⟩) (by kernel_rfl) (by kernel_rfl) (there_mid hBc 31 31 (by omega)) ?_
  have hB3 := hBc.setj (k.put i.dst ⟨sl, sg⟩)
  have hj3 := hjc.set wb (by have := HWZ.out; omega) 31 (knL (k.put i.dst ⟨sl, sg⟩))
  obtain ⟨W3, hW3⟩ : ∃ W3, W3 = Wc.setCells wb 31 (knL (k.put i.dst ⟨sl, sg⟩)) := ⟨_, rfl⟩
  show wpList _ _ _ _ _ (Wc.setCells wb 31 (knL (k.put i.dst ⟨sl, sg⟩)))
  rw [← hW3] at hB3 hj3 ⊢
  have HJ3 := Lib.hid hj3; have HB3 := Lib.hid hB3
  clear hW3 hB3 hj3 hBc hjc
  have hy := HY.out
  have hz := HA.out
  have hf2 : (dl : Int) = (dg : Int) := by omega
  have hf3 : (dl : Int) = (sl : Int) := by omega
  clear hy hz
  clear i0 d0 d1 s0 s1
  have d0 : W3.cell? ⟨w.heap.size + 2, 0, none⟩ = some (.int .i64 (dl : Int)) := HJ3.out.dd.cell 0 (by omega)
  have d1 : W3.cell? ⟨w.heap.size + 2, 1, none⟩ = some (.int .i64 (dg : Int)) := HJ3.out.dd.cell 1 (by omega)
  have s0 : W3.cell? ⟨w.heap.size + 3, 0, none⟩ = some (.int .i64 (sl : Int)) := HJ3.out.ss.cell 0 (by omega)
  have s1 : W3.cell? ⟨w.heap.size + 3, 1, none⟩ = some (.int .i64 (sg : Int)) := HJ3.out.ss.cell 1 (by omega)
  have HBF : Hid (WyB W3 wb nx jx 0) := Lib.hid (by rw [HNX.out, HJX.out]; exact HB3.out)
  clear HNX HJX HB3
  go_upto_region 13 with fail
  refine wp_region_list ?_
  refine wpList_ldw 72 9 wb nx jx 0 (by kernel_rfl) (by kernel_rfl) HBF.out ?_
  refine wpList_stw 8 72 (w.heap.size + 4) nx jx 0 (by kernel_rfl) (by kernel_rfl) HJ3.out.rr ?_
  obtain ⟨W9, HW9, HR9, HE9, HK9⟩ := fin_store HJ3.out.b HJ3.out.rr (by omega) (wayL nx jx 0) (wayL_length _ _ _)
  rw [← HW9.out]
  go_wp2
  refine bodyPost_ret (v := .agg (wayL nx jx 0).toArray) (results_cell1_range Try.results36 _ _ (w.heap.size + 4) 0 (wayL nx jx 0) _ (by kernel_rfl) HR9.out Try.underlying64 rfl (by rw [wayL_length]; exact info_way)) ?_ ⟨rfl, HE9.out⟩
  rfl

set_option maxRecDepth 100000 in
set_option maxHeartbeats 2000000 in
theorem rj_eq4 (w : World) (i : Ins8) (k : Kn) (dl dg sl sg : Nat) (hop : i.op = 20) (hdst : i.dst < 10) (hsrc : i.src < 10) (h1 : dl ≤ dg) (h2 : dg ≤ 4294967295) (h3 : sl ≤ sg) (h4 : sg ≤ 4294967295) (HY : Hid (dl = sl ∧ dl < dg)) (nx jx : Kn) (HNX : Hid (nx = k.put i.dst ⟨dl + 1, dg⟩)) (HJX : Hid (jx = k.put i.dst ⟨sl, sg⟩)) : Calls Try.prog 36 #[.agg #[.int .i64 (i.op : Int), .int .i64 (i.dst : Int), .int .i64 (i.src : Int), .int .i64 i.off, .int .u32 (i.imm : Int)], .agg (knL k).toArray, .agg #[.int .i64 (dl : Int), .int .i64 (dg : Int)], .agg #[.int .i64 (sl : Int), .int .i64 (sg : Int)]] w fun e w' => e = .returned (.agg (wayL nx jx 0).toArray) ∧ Below w.heap.size w w' := by
  obtain ⟨L, hL⟩ : ∃ L, L = (knL k).toArray := ⟨_, rfl⟩
  obtain ⟨W1, HW1, HJ1, HZ1⟩ := jw_world w i k dl dg sl sg L hL
  rw [← hL]
  clear hL
  have HWI := Lib.hid (fun W l g hl hg => refwith_ok W k i.dst l g hdst hl hg)
  have HA := Lib.hid h1; have HB := Lib.hid h3; have HDN := Lib.hid hdst
  have p2 : (dg : Int) ≤ 4294967295 := by omega
  have p4 : (sg : Int) ≤ 4294967295 := by omega
  have HN2 := Lib.hid h2; have HN4 := Lib.hid h4
  clear h1 h2 h3 h4 hdst
  go_enter Try.func36, Try.ntmps36
  go_upto_region 0 with fail
  refine wp_region_list ?_
  refine wpList_box 4 0 45 #[.int .i64 (i.op : Int), .int .i64 (i.dst : Int), .int .i64 (i.src : Int), .int .i64 i.off, .int .u32 (i.imm : Int)] w.heap.size rfl (by kernel_rfl) ?_
  refine wpList_box 5 1 42 L (w.heap.size + 1) (by simp) (by kernel_rfl) ?_
  refine wpList_box 6 2 83 #[.int .i64 (dl : Int), .int .i64 (dg : Int)] (w.heap.size + 2) (by simp) (by kernel_rfl) ?_
  refine wpList_box 7 3 83 #[.int .i64 (sl : Int), .int .i64 (sg : Int)] (w.heap.size + 3) (by simp) (by kernel_rfl) ?_
  refine wpList_alw2 8 (w.heap.size + 4) (by simp) ?_
  rw [← HW1.out]
  clear HW1
  go_upto_region 1 with fail
  refine wp_region_list ?_
  refine wpList_val0 (.agg (wayL kn0 kn0 0).toArray) rfl (exec_build0 64 rfl _ (bw_0 _)) ?_
  obtain ⟨wb, hwb⟩ : ∃ wb, wb = W1.heap.size := ⟨_, rfl⟩
  refine wpList_alw2 9 wb hwb ?_
  have hB : WyB (W1.alloc (.cells (wayL kn0 kn0 0).toArray 64)) wb kn0 kn0 0 := by rw [hwb]; exact wayB W1 kn0 kn0 0
  have hj : Jw w i k dl dg sl sg (W1.alloc (.cells (wayL kn0 kn0 0).toArray 64)) := HJ1.out.more ((Below.refl _ _).alloc (Nat.le_refl _) _)
  have hwz : w.heap.size + 5 = wb := by rw [hwb]; exact HZ1.out.symm
  obtain ⟨Wx, hWx⟩ : ∃ Wx, Wx = W1.alloc (.cells (wayL kn0 kn0 0).toArray 64) := ⟨_, rfl⟩
  rw [← hWx] at hB hj ⊢
  clear hWx hwb
  refine wpList_stw 9 12 wb kn0 kn0 0 (by kernel_rfl) (by kernel_rfl) hB ?_
  have hB2 := WyB.fill hB kn0 kn0 0
  have hj2 := hj.set wb (by omega) 0 (wayL kn0 kn0 0)
  obtain ⟨W2, hW2⟩ : ∃ W2, W2 = Wx.setCells wb 0 (wayL kn0 kn0 0) := ⟨_, rfl⟩
  rw [← hW2] at hB2 hj2 ⊢
  have HJ2 := Lib.hid hj2; have HB2 := Lib.hid hB2; have HWZ := Lib.hid hwz
  clear hW2 hB hj hB2 hj2 hwz HJ1 HZ1
  have i0 : W2.cell? ⟨w.heap.size, 0, none⟩ = some (.int .i64 20) := by have := HJ2.out.ii.cell 0 (by omega); rw [show ([.int .i64 (i.op : Int), .int .i64 (i.dst : Int), .int .i64 (i.src : Int), .int .i64 i.off, .int .u32 (i.imm : Int)].getD 0 undef : Value) = .int .i64 (i.op : Int) from rfl, hop] at this; exact this
  have HOP := Lib.hid hop; clear hop
  have hy := HY.out
  have hz := HA.out
  have hf0 : (dl : Int) ≤ (sl : Int) := by omega
  have hf1 : (sl : Int) ≤ (dg : Int) := by omega
  clear hy hz
  have d0 : W2.cell? ⟨w.heap.size + 2, 0, none⟩ = some (.int .i64 (dl : Int)) := HJ2.out.dd.cell 0 (by omega)
  have d1 : W2.cell? ⟨w.heap.size + 2, 1, none⟩ = some (.int .i64 (dg : Int)) := HJ2.out.dd.cell 1 (by omega)
  have s0 : W2.cell? ⟨w.heap.size + 3, 0, none⟩ = some (.int .i64 (sl : Int)) := HJ2.out.ss.cell 0 (by omega)
  have s1 : W2.cell? ⟨w.heap.size + 3, 1, none⟩ = some (.int .i64 (sg : Int)) := HJ2.out.ss.cell 1 (by omega)
  go_upto_region 5 with fail
  refine wp_region_list ?_
  refine wpList_ldk 29 5 (w.heap.size + 1) 0 k (by kernel_rfl) (by kernel_rfl) HJ2.out.kk.range ?_
  refine wpList_val0 (.pointer (some ⟨w.heap.size, 1, none⟩)) rfl (by kernel_rfl) ?_
  refine wpList_val0 (.int .i64 (i.dst : Int)) rfl (exec_ldint (.tmp 30) rfl (by kernel_rfl) (HJ2.out.ii.cell 1 (by omega))) ?_
  refine wpList_lds 32 7 (w.heap.size + 3) (sl : Int) (sg : Int) (by kernel_rfl) (by kernel_rfl) HJ2.out.ss ?_

  refine wpList_callg (f := 34) (args := #[.agg (knL (k)).toArray, .int .i64 (i.dst : Int), .agg #[.int .i64 (sl : Int), .int .i64 (sg : Int)]]) (v := .agg (knL ((k).put i.dst ⟨sl, sg⟩)).toArray) (R := Below W2.heap.size W2) (by kernel_rfl) (by kernel_rfl) (HWI.out W2 sl sg (by have := HB.out; have := HN4.out; omega) (HN4.out)) (fun Wc hbc => ?_)
  have hBc := HB2.out.below hbc
  have hjc := HJ2.out.more hbc
  clear hbc

  refine wpList_val0 (.pointer (some ⟨wb, 31, none⟩)) rfl (by kernel_rfl) ?_
  refine wpList_stk 34 33 wb 31 (k.put i.dst ⟨sl, sg⟩) (by kernel_rfl) (by kernel_rfl) (there_mid hBc 31 31 (by omega)) ?_
  have hB3 := hBc.setj (k.put i.dst ⟨sl, sg⟩)
  have hj3 := hjc.set wb (by have := HWZ.out; omega) 31 (knL (k.put i.dst ⟨sl, sg⟩))
  obtain ⟨W3, hW3⟩ : ∃ W3, W3 = Wc.setCells wb 31 (knL (k.put i.dst ⟨sl, sg⟩)) := ⟨_, rfl⟩
  show wpList _ _ _ _ _ (Wc.setCells wb 31 (knL (k.put i.dst ⟨sl, sg⟩)))
  rw [← hW3] at hB3 hj3 ⊢
  have HJ3 := Lib.hid hj3; have HB3 := Lib.hid hB3
  clear hW3 hB3 hj3 hBc hjc
  have hy := HY.out
  have hz := HA.out
  have hf2 : ¬ (dl : Int) = (dg : Int) := by omega
  have hf3 : (sl : Int) = (dl : Int) := by omega
  clear hy hz
  clear i0 d0 d1 s0 s1
  have d0 : W3.cell? ⟨w.heap.size + 2, 0, none⟩ = some (.int .i64 (dl : Int)) := HJ3.out.dd.cell 0 (by omega)
  have d1 : W3.cell? ⟨w.heap.size + 2, 1, none⟩ = some (.int .i64 (dg : Int)) := HJ3.out.dd.cell 1 (by omega)
  have s0 : W3.cell? ⟨w.heap.size + 3, 0, none⟩ = some (.int .i64 (sl : Int)) := HJ3.out.ss.cell 0 (by omega)
  have s1 : W3.cell? ⟨w.heap.size + 3, 1, none⟩ = some (.int .i64 (sg : Int)) := HJ3.out.ss.cell 1 (by omega)
  go_upto_region 7 with fail
  refine wp_region_list ?_
  refine wpList_lds 47 6 (w.heap.size + 2) (dl : Int) (dg : Int) (by kernel_rfl) (by kernel_rfl) HJ3.out.dd ?_
  obtain ⟨xb, hxb⟩ : ∃ xb, xb = W3.heap.size := ⟨_, rfl⟩
  refine wpList_als 11 xb hxb ?_
  have hX : Blk (W3.alloc (.cells #[.int .i64 0, .int .i64 0] 83)) xb 83 2 (fun j => [.int .i64 0, .int .i64 0].getD j undef) := by rw [hxb]; exact Blk.litL W3 83 [.int .i64 0, .int .i64 0]
  have hba : Below W3.heap.size W3 (W3.alloc (.cells #[.int .i64 0, .int .i64 0] 83)) := (Below.refl _ _).alloc (Nat.le_refl _) _
  have hBx := HB3.out.below hba
  have hjx := HJ3.out.more hba
  have hlt : wb < xb := by rw [hxb]; exact HB3.out.lt
  obtain ⟨Wx, hWx⟩ : ∃ Wx, Wx = W3.alloc (.cells #[.int .i64 0, .int .i64 0] 83) := ⟨_, rfl⟩
  rw [← hWx] at hX hBx hjx ⊢
  clear hWx hba hxb
  refine wpList_store_mid rfl 83 (.tmp 11) (.tmp 47) (by kernel_rfl) xb 0 #[.int .i64 (dl : Int), .int .i64 (dg : Int)] (by kernel_rfl) (by kernel_rfl) (there_blk hX) size_sp83 (by simp [Value.oneCell']) ?_
  have hk : Kp (fun x => x = xb) Wx (Wx.setCells xb 0 [.int .i64 (dl : Int), .int .i64 (dg : Int)]) := Kp.setCells (M := fun x => x = xb) (.inl rfl) _ _ _ (Kp.refl _ _)
  have hX2 : Blk (Wx.setCells xb 0 [.int .i64 (dl : Int), .int .i64 (dg : Int)]) xb 83 2 (fun j => [.int .i64 (dl : Int), .int .i64 (dg : Int)].getD j undef) := (Blk.setCells [.int .i64 (dl : Int), .int .i64 (dg : Int)] 0 Wx _ hX).congr (fun j hj => by rw [if_pos ⟨Nat.zero_le _, by simpa using hj⟩, Nat.sub_zero])
  have hB2 := hBx.keep hk (by omega)
  have hj2 := hjx.set xb (by have := HWZ.out; omega) 0 [.int .i64 (dl : Int), .int .i64 (dg : Int)]
  obtain ⟨W4, hW2⟩ : ∃ W2, W2 = Wx.setCells xb 0 [.int .i64 (dl : Int), .int .i64 (dg : Int)] := ⟨_, rfl⟩
  show wpList _ _ _ _ _ (Wx.setCells xb 0 [.int .i64 (dl : Int), .int .i64 (dg : Int)])
  rw [← hW2] at hX2 hB2 hj2 ⊢
  have HJ4 := Lib.hid hj2; have HB4 := Lib.hid hB2; have HX4 := Lib.hid hX2; have HXL := Lib.hid hlt
  clear hW2 hX hBx hjx hk hX2 hB2 hj2 hlt
  clear d0 d1 s0 s1
  have d0 : W4.cell? ⟨w.heap.size + 2, 0, none⟩ = some (.int .i64 (dl : Int)) := HJ4.out.dd.cell 0 (by omega)
  have d1 : W4.cell? ⟨w.heap.size + 2, 1, none⟩ = some (.int .i64 (dg : Int)) := HJ4.out.dd.cell 1 (by omega)
  have s0 : W4.cell? ⟨w.heap.size + 3, 0, none⟩ = some (.int .i64 (sl : Int)) := HJ4.out.ss.cell 0 (by omega)
  have s1 : W4.cell? ⟨w.heap.size + 3, 1, none⟩ = some (.int .i64 (sg : Int)) := HJ4.out.ss.cell 1 (by omega)
  have x0 : W4.cell? ⟨xb, 0, none⟩ = some (.int .i64 (dl : Int)) := HX4.out.cell 0 (by omega)
  have xf : W4.frozen? ⟨xb, 0, none⟩ = false := HX4.out.frozen 0
  go_upto_region 12 with fail
  have hk : Kp (fun x => x = xb) W4 (W4.setCell ⟨xb, 0, none⟩ (.int .i64 ((dl : Int) + 1))) := Kp.setCell (M := fun x => x = xb) (Kp.refl _ _) (.inl rfl) _
  have hX2 : Blk (W4.setCell ⟨xb, 0, none⟩ (.int .i64 ((dl : Int) + 1))) xb 83 2 (fun j => [.int .i64 ((dl + 1 : Nat) : Int), .int .i64 (dg : Int)].getD j undef) := (HX4.out.set 0 (.int .i64 ((dl : Int) + 1))).congr (fun j hj => by
    match j, hj with
    | 0, _ => first | rfl | (show Value.int IntKind.i64 _ = Value.int IntKind.i64 _; congr 1; omega)
    | 1, _ => first | rfl | (show Value.int IntKind.i64 _ = Value.int IntKind.i64 _; congr 1; omega))
  have hB2 := HB4.out.keep hk (by have := HXL.out; omega)
  have hj2 := HJ4.out.set1 xb (by have := HWZ.out; have := HXL.out; omega) 0 (.int .i64 ((dl : Int) + 1))
  obtain ⟨W5, hW2⟩ : ∃ W2, W2 = W4.setCell ⟨xb, 0, none⟩ (.int .i64 ((dl : Int) + 1)) := ⟨_, rfl⟩
  show Code.wp _ _ _ _ (W4.setCell ⟨xb, 0, none⟩ (.int .i64 ((dl : Int) + 1)))
  rw [← hW2] at hX2 hB2 hj2 ⊢
  have HJ5 := Lib.hid hj2; have HB5 := Lib.hid hB2; have HX5 := Lib.hid hX2
  clear hW2 hk hX2 hB2 hj2 x0 xf
  refine wp_region_list ?_
  refine wpList_ldk 66 5 (w.heap.size + 1) 0 k (by kernel_rfl) (by kernel_rfl) HJ5.out.kk.range ?_
  refine wpList_val0 (.pointer (some ⟨w.heap.size, 1, none⟩)) rfl (by kernel_rfl) ?_
  refine wpList_val0 (.int .i64 (i.dst : Int)) rfl (exec_ldint (.tmp 67) rfl (by kernel_rfl) (HJ5.out.ii.cell 1 (by omega))) ?_
  refine wpList_lds 69 11 xb ((dl + 1 : Nat) : Int) (dg : Int) (by kernel_rfl) (by kernel_rfl) HX5.out ?_

  refine wpList_callg (f := 34) (args := #[.agg (knL (k)).toArray, .int .i64 (i.dst : Int), .agg #[.int .i64 ((dl + 1 : Nat) : Int), .int .i64 (dg : Int)]]) (v := .agg (knL ((k).put i.dst ⟨(dl + 1 : Nat), dg⟩)).toArray) (R := Below W5.heap.size W5) (by kernel_rfl) (by kernel_rfl) (HWI.out W5 (dl + 1 : Nat) dg (by have := HN2.out; omega) (HN2.out)) (fun Wc hbc => ?_)
  have hBc := HB5.out.below hbc
  have hjc := HJ5.out.more hbc
  clear hbc

  refine wpList_val0 (.pointer (some ⟨wb, 0, none⟩)) rfl (by kernel_rfl) ?_
  refine wpList_stk 71 70 wb 0 (k.put i.dst ⟨(dl + 1 : Nat), dg⟩) (by kernel_rfl) (by kernel_rfl) (there_mid hBc 0 31 (by omega)) ?_
  have hB3 := hBc.setn (k.put i.dst ⟨(dl + 1 : Nat), dg⟩)
  have hj3 := hjc.set wb (by have := HWZ.out; omega) 0 (knL (k.put i.dst ⟨(dl + 1 : Nat), dg⟩))
  obtain ⟨W6, hW3⟩ : ∃ W3, W3 = Wc.setCells wb 0 (knL (k.put i.dst ⟨(dl + 1 : Nat), dg⟩)) := ⟨_, rfl⟩
  show wpList _ _ _ _ _ (Wc.setCells wb 0 (knL (k.put i.dst ⟨(dl + 1 : Nat), dg⟩)))
  rw [← hW3] at hB3 hj3 ⊢
  have HJ6 := Lib.hid hj3; have HB6 := Lib.hid hB3
  clear hW3 hB3 hj3 hBc hjc
  have HBF : Hid (WyB W6 wb nx jx 0) := Lib.hid (by rw [HNX.out, HJX.out]; exact HB6.out)
  clear HNX HJX HB6
  go_upto_region 13 with fail
  refine wp_region_list ?_
  refine wpList_ldw 72 9 wb nx jx 0 (by kernel_rfl) (by kernel_rfl) HBF.out ?_
  refine wpList_stw 8 72 (w.heap.size + 4) nx jx 0 (by kernel_rfl) (by kernel_rfl) HJ6.out.rr ?_
  obtain ⟨W9, HW9, HR9, HE9, HK9⟩ := fin_store HJ6.out.b HJ6.out.rr (by omega) (wayL nx jx 0) (wayL_length _ _ _)
  rw [← HW9.out]
  go_wp2
  refine bodyPost_ret (v := .agg (wayL nx jx 0).toArray) (results_cell1_range Try.results36 _ _ (w.heap.size + 4) 0 (wayL nx jx 0) _ (by kernel_rfl) HR9.out Try.underlying64 rfl (by rw [wayL_length]; exact info_way)) ?_ ⟨rfl, HE9.out⟩
  rfl

set_option maxRecDepth 100000 in
set_option maxHeartbeats 2000000 in
theorem rj_eq5 (w : World) (i : Ins8) (k : Kn) (dl dg sl sg : Nat) (hop : i.op = 20) (hdst : i.dst < 10) (hsrc : i.src < 10) (h1 : dl ≤ dg) (h2 : dg ≤ 4294967295) (h3 : sl ≤ sg) (h4 : sg ≤ 4294967295) (HY : Hid (dg = sl ∧ dl < dg)) (nx jx : Kn) (HNX : Hid (nx = k.put i.dst ⟨dl, dg - 1⟩)) (HJX : Hid (jx = k.put i.dst ⟨sl, sg⟩)) : Calls Try.prog 36 #[.agg #[.int .i64 (i.op : Int), .int .i64 (i.dst : Int), .int .i64 (i.src : Int), .int .i64 i.off, .int .u32 (i.imm : Int)], .agg (knL k).toArray, .agg #[.int .i64 (dl : Int), .int .i64 (dg : Int)], .agg #[.int .i64 (sl : Int), .int .i64 (sg : Int)]] w fun e w' => e = .returned (.agg (wayL nx jx 0).toArray) ∧ Below w.heap.size w w' := by
  obtain ⟨L, hL⟩ : ∃ L, L = (knL k).toArray := ⟨_, rfl⟩
  obtain ⟨W1, HW1, HJ1, HZ1⟩ := jw_world w i k dl dg sl sg L hL
  rw [← hL]
  clear hL
  have HWI := Lib.hid (fun W l g hl hg => refwith_ok W k i.dst l g hdst hl hg)
  have HA := Lib.hid h1; have HB := Lib.hid h3; have HDN := Lib.hid hdst
  have p2 : (dg : Int) ≤ 4294967295 := by omega
  have p4 : (sg : Int) ≤ 4294967295 := by omega
  have HN2 := Lib.hid h2; have HN4 := Lib.hid h4
  clear h1 h2 h3 h4 hdst
  go_enter Try.func36, Try.ntmps36
  go_upto_region 0 with fail
  refine wp_region_list ?_
  refine wpList_box 4 0 45 #[.int .i64 (i.op : Int), .int .i64 (i.dst : Int), .int .i64 (i.src : Int), .int .i64 i.off, .int .u32 (i.imm : Int)] w.heap.size rfl (by kernel_rfl) ?_
  refine wpList_box 5 1 42 L (w.heap.size + 1) (by simp) (by kernel_rfl) ?_
  refine wpList_box 6 2 83 #[.int .i64 (dl : Int), .int .i64 (dg : Int)] (w.heap.size + 2) (by simp) (by kernel_rfl) ?_
  refine wpList_box 7 3 83 #[.int .i64 (sl : Int), .int .i64 (sg : Int)] (w.heap.size + 3) (by simp) (by kernel_rfl) ?_
  refine wpList_alw2 8 (w.heap.size + 4) (by simp) ?_
  rw [← HW1.out]
  clear HW1
  go_upto_region 1 with fail
  refine wp_region_list ?_
  refine wpList_val0 (.agg (wayL kn0 kn0 0).toArray) rfl (exec_build0 64 rfl _ (bw_0 _)) ?_
  obtain ⟨wb, hwb⟩ : ∃ wb, wb = W1.heap.size := ⟨_, rfl⟩
  refine wpList_alw2 9 wb hwb ?_
  have hB : WyB (W1.alloc (.cells (wayL kn0 kn0 0).toArray 64)) wb kn0 kn0 0 := by rw [hwb]; exact wayB W1 kn0 kn0 0
  have hj : Jw w i k dl dg sl sg (W1.alloc (.cells (wayL kn0 kn0 0).toArray 64)) := HJ1.out.more ((Below.refl _ _).alloc (Nat.le_refl _) _)
  have hwz : w.heap.size + 5 = wb := by rw [hwb]; exact HZ1.out.symm
  obtain ⟨Wx, hWx⟩ : ∃ Wx, Wx = W1.alloc (.cells (wayL kn0 kn0 0).toArray 64) := ⟨_, rfl⟩
  rw [← hWx] at hB hj ⊢
  clear hWx hwb
  refine wpList_stw 9 12 wb kn0 kn0 0 (by kernel_rfl) (by kernel_rfl) hB ?_
  have hB2 := WyB.fill hB kn0 kn0 0
  have hj2 := hj.set wb (by omega) 0 (wayL kn0 kn0 0)
  obtain ⟨W2, hW2⟩ : ∃ W2, W2 = Wx.setCells wb 0 (wayL kn0 kn0 0) := ⟨_, rfl⟩
  rw [← hW2] at hB2 hj2 ⊢
  have HJ2 := Lib.hid hj2; have HB2 := Lib.hid hB2; have HWZ := Lib.hid hwz
  clear hW2 hB hj hB2 hj2 hwz HJ1 HZ1
  have i0 : W2.cell? ⟨w.heap.size, 0, none⟩ = some (.int .i64 20) := by have := HJ2.out.ii.cell 0 (by omega); rw [show ([.int .i64 (i.op : Int), .int .i64 (i.dst : Int), .int .i64 (i.src : Int), .int .i64 i.off, .int .u32 (i.imm : Int)].getD 0 undef : Value) = .int .i64 (i.op : Int) from rfl, hop] at this; exact this
  have HOP := Lib.hid hop; clear hop
  have hy := HY.out
  have hz := HA.out
  have hf0 : (dl : Int) ≤ (sl : Int) := by omega
  have hf1 : (sl : Int) ≤ (dg : Int) := by omega
  clear hy hz
  have d0 : W2.cell? ⟨w.heap.size + 2, 0, none⟩ = some (.int .i64 (dl : Int)) := HJ2.out.dd.cell 0 (by omega)
  have d1 : W2.cell? ⟨w.heap.size + 2, 1, none⟩ = some (.int .i64 (dg : Int)) := HJ2.out.dd.cell 1 (by omega)
  have s0 : W2.cell? ⟨w.heap.size + 3, 0, none⟩ = some (.int .i64 (sl : Int)) := HJ2.out.ss.cell 0 (by omega)
  have s1 : W2.cell? ⟨w.heap.size + 3, 1, none⟩ = some (.int .i64 (sg : Int)) := HJ2.out.ss.cell 1 (by omega)
  go_upto_region 5 with fail
  refine wp_region_list ?_
  refine wpList_ldk 29 5 (w.heap.size + 1) 0 k (by kernel_rfl) (by kernel_rfl) HJ2.out.kk.range ?_
  refine wpList_val0 (.pointer (some ⟨w.heap.size, 1, none⟩)) rfl (by kernel_rfl) ?_
  refine wpList_val0 (.int .i64 (i.dst : Int)) rfl (exec_ldint (.tmp 30) rfl (by kernel_rfl) (HJ2.out.ii.cell 1 (by omega))) ?_
  refine wpList_lds 32 7 (w.heap.size + 3) (sl : Int) (sg : Int) (by kernel_rfl) (by kernel_rfl) HJ2.out.ss ?_

  refine wpList_callg (f := 34) (args := #[.agg (knL (k)).toArray, .int .i64 (i.dst : Int), .agg #[.int .i64 (sl : Int), .int .i64 (sg : Int)]]) (v := .agg (knL ((k).put i.dst ⟨sl, sg⟩)).toArray) (R := Below W2.heap.size W2) (by kernel_rfl) (by kernel_rfl) (HWI.out W2 sl sg (by have := HB.out; have := HN4.out; omega) (HN4.out)) (fun Wc hbc => ?_)
  have hBc := HB2.out.below hbc
  have hjc := HJ2.out.more hbc
  clear hbc

  refine wpList_val0 (.pointer (some ⟨wb, 31, none⟩)) rfl (by kernel_rfl) ?_
  refine wpList_stk 34 33 wb 31 (k.put i.dst ⟨sl, sg⟩) (by kernel_rfl) (by kernel_rfl) (there_mid hBc 31 31 (by omega)) ?_
  have hB3 := hBc.setj (k.put i.dst ⟨sl, sg⟩)
  have hj3 := hjc.set wb (by have := HWZ.out; omega) 31 (knL (k.put i.dst ⟨sl, sg⟩))
  obtain ⟨W3, hW3⟩ : ∃ W3, W3 = Wc.setCells wb 31 (knL (k.put i.dst ⟨sl, sg⟩)) := ⟨_, rfl⟩
  show wpList _ _ _ _ _ (Wc.setCells wb 31 (knL (k.put i.dst ⟨sl, sg⟩)))
  rw [← hW3] at hB3 hj3 ⊢
  have HJ3 := Lib.hid hj3; have HB3 := Lib.hid hB3
  clear hW3 hB3 hj3 hBc hjc
  have hy := HY.out
  have hz := HA.out
  have hf2 : ¬ (dl : Int) = (dg : Int) := by omega
  have hf3 : ¬ (sl : Int) = (dl : Int) := by omega
  have hf4 : (sl : Int) = (dg : Int) := by omega
  clear hy hz
  clear i0 d0 d1 s0 s1
  have d0 : W3.cell? ⟨w.heap.size + 2, 0, none⟩ = some (.int .i64 (dl : Int)) := HJ3.out.dd.cell 0 (by omega)
  have d1 : W3.cell? ⟨w.heap.size + 2, 1, none⟩ = some (.int .i64 (dg : Int)) := HJ3.out.dd.cell 1 (by omega)
  have s0 : W3.cell? ⟨w.heap.size + 3, 0, none⟩ = some (.int .i64 (sl : Int)) := HJ3.out.ss.cell 0 (by omega)
  have s1 : W3.cell? ⟨w.heap.size + 3, 1, none⟩ = some (.int .i64 (sg : Int)) := HJ3.out.ss.cell 1 (by omega)
  go_upto_region 7 with fail
  refine wp_region_list ?_
  refine wpList_lds 47 6 (w.heap.size + 2) (dl : Int) (dg : Int) (by kernel_rfl) (by kernel_rfl) HJ3.out.dd ?_
  obtain ⟨xb, hxb⟩ : ∃ xb, xb = W3.heap.size := ⟨_, rfl⟩
  refine wpList_als 11 xb hxb ?_
  have hX : Blk (W3.alloc (.cells #[.int .i64 0, .int .i64 0] 83)) xb 83 2 (fun j => [.int .i64 0, .int .i64 0].getD j undef) := by rw [hxb]; exact Blk.litL W3 83 [.int .i64 0, .int .i64 0]
  have hba : Below W3.heap.size W3 (W3.alloc (.cells #[.int .i64 0, .int .i64 0] 83)) := (Below.refl _ _).alloc (Nat.le_refl _) _
  have hBx := HB3.out.below hba
  have hjx := HJ3.out.more hba
  have hlt : wb < xb := by rw [hxb]; exact HB3.out.lt
  obtain ⟨Wx, hWx⟩ : ∃ Wx, Wx = W3.alloc (.cells #[.int .i64 0, .int .i64 0] 83) := ⟨_, rfl⟩
  rw [← hWx] at hX hBx hjx ⊢
  clear hWx hba hxb
  refine wpList_store_mid rfl 83 (.tmp 11) (.tmp 47) (by kernel_rfl) xb 0 #[.int .i64 (dl : Int), .int .i64 (dg : Int)] (by kernel_rfl) (by kernel_rfl) (there_blk hX) size_sp83 (by simp [Value.oneCell']) ?_
  have hk : Kp (fun x => x = xb) Wx (Wx.setCells xb 0 [.int .i64 (dl : Int), .int .i64 (dg : Int)]) := Kp.setCells (M := fun x => x = xb) (.inl rfl) _ _ _ (Kp.refl _ _)
  have hX2 : Blk (Wx.setCells xb 0 [.int .i64 (dl : Int), .int .i64 (dg : Int)]) xb 83 2 (fun j => [.int .i64 (dl : Int), .int .i64 (dg : Int)].getD j undef) := (Blk.setCells [.int .i64 (dl : Int), .int .i64 (dg : Int)] 0 Wx _ hX).congr (fun j hj => by rw [if_pos ⟨Nat.zero_le _, by simpa using hj⟩, Nat.sub_zero])
  have hB2 := hBx.keep hk (by omega)
  have hj2 := hjx.set xb (by have := HWZ.out; omega) 0 [.int .i64 (dl : Int), .int .i64 (dg : Int)]
  obtain ⟨W4, hW2⟩ : ∃ W2, W2 = Wx.setCells xb 0 [.int .i64 (dl : Int), .int .i64 (dg : Int)] := ⟨_, rfl⟩
  show wpList _ _ _ _ _ (Wx.setCells xb 0 [.int .i64 (dl : Int), .int .i64 (dg : Int)])
  rw [← hW2] at hX2 hB2 hj2 ⊢
  have HJ4 := Lib.hid hj2; have HB4 := Lib.hid hB2; have HX4 := Lib.hid hX2; have HXL := Lib.hid hlt
  clear hW2 hX hBx hjx hk hX2 hB2 hj2 hlt
  clear d0 d1 s0 s1
  have d0 : W4.cell? ⟨w.heap.size + 2, 0, none⟩ = some (.int .i64 (dl : Int)) := HJ4.out.dd.cell 0 (by omega)
  have d1 : W4.cell? ⟨w.heap.size + 2, 1, none⟩ = some (.int .i64 (dg : Int)) := HJ4.out.dd.cell 1 (by omega)
  have s0 : W4.cell? ⟨w.heap.size + 3, 0, none⟩ = some (.int .i64 (sl : Int)) := HJ4.out.ss.cell 0 (by omega)
  have s1 : W4.cell? ⟨w.heap.size + 3, 1, none⟩ = some (.int .i64 (sg : Int)) := HJ4.out.ss.cell 1 (by omega)
  have x0 : W4.cell? ⟨xb, 1, none⟩ = some (.int .i64 (dg : Int)) := HX4.out.cell 1 (by omega)
  have xf : W4.frozen? ⟨xb, 1, none⟩ = false := HX4.out.frozen 1
  go_upto_region 12 with fail
  have hk : Kp (fun x => x = xb) W4 (W4.setCell ⟨xb, 1, none⟩ (.int .i64 ((dg : Int) - 1))) := Kp.setCell (M := fun x => x = xb) (Kp.refl _ _) (.inl rfl) _
  have hX2 : Blk (W4.setCell ⟨xb, 1, none⟩ (.int .i64 ((dg : Int) - 1))) xb 83 2 (fun j => [.int .i64 (dl : Int), .int .i64 ((dg - 1 : Nat) : Int)].getD j undef) := (HX4.out.set 1 (.int .i64 ((dg : Int) - 1))).congr (fun j hj => by
    match j, hj with
    | 0, _ => first | rfl | (show Value.int IntKind.i64 _ = Value.int IntKind.i64 _; congr 1; omega)
    | 1, _ => first | rfl | (show Value.int IntKind.i64 _ = Value.int IntKind.i64 _; congr 1; omega))
  have hB2 := HB4.out.keep hk (by have := HXL.out; omega)
  have hj2 := HJ4.out.set1 xb (by have := HWZ.out; have := HXL.out; omega) 1 (.int .i64 ((dg : Int) - 1))
  obtain ⟨W5, hW2⟩ : ∃ W2, W2 = W4.setCell ⟨xb, 1, none⟩ (.int .i64 ((dg : Int) - 1)) := ⟨_, rfl⟩
  show Code.wp _ _ _ _ (W4.setCell ⟨xb, 1, none⟩ (.int .i64 ((dg : Int) - 1)))
  rw [← hW2] at hX2 hB2 hj2 ⊢
  have HJ5 := Lib.hid hj2; have HB5 := Lib.hid hB2; have HX5 := Lib.hid hX2
  clear hW2 hk hX2 hB2 hj2 x0 xf
  refine wp_region_list ?_
  refine wpList_ldk 66 5 (w.heap.size + 1) 0 k (by kernel_rfl) (by kernel_rfl) HJ5.out.kk.range ?_
  refine wpList_val0 (.pointer (some ⟨w.heap.size, 1, none⟩)) rfl (by kernel_rfl) ?_
  refine wpList_val0 (.int .i64 (i.dst : Int)) rfl (exec_ldint (.tmp 67) rfl (by kernel_rfl) (HJ5.out.ii.cell 1 (by omega))) ?_
  refine wpList_lds 69 11 xb (dl : Int) ((dg - 1 : Nat) : Int) (by kernel_rfl) (by kernel_rfl) HX5.out ?_

  refine wpList_callg (f := 34) (args := #[.agg (knL (k)).toArray, .int .i64 (i.dst : Int), .agg #[.int .i64 (dl : Int), .int .i64 ((dg - 1 : Nat) : Int)]]) (v := .agg (knL ((k).put i.dst ⟨dl, (dg - 1 : Nat)⟩)).toArray) (R := Below W5.heap.size W5) (by kernel_rfl) (by kernel_rfl) (HWI.out W5 dl (dg - 1 : Nat) (by have := HN2.out; have := HA.out; omega) (by have := HN2.out; omega)) (fun Wc hbc => ?_)
  have hBc := HB5.out.below hbc
  have hjc := HJ5.out.more hbc
  clear hbc

  refine wpList_val0 (.pointer (some ⟨wb, 0, none⟩)) rfl (by kernel_rfl) ?_
  refine wpList_stk 71 70 wb 0 (k.put i.dst ⟨dl, (dg - 1 : Nat)⟩) (by kernel_rfl) (by kernel_rfl) (there_mid hBc 0 31 (by omega)) ?_
  have hB3 := hBc.setn (k.put i.dst ⟨dl, (dg - 1 : Nat)⟩)
  have hj3 := hjc.set wb (by have := HWZ.out; omega) 0 (knL (k.put i.dst ⟨dl, (dg - 1 : Nat)⟩))
  obtain ⟨W6, hW3⟩ : ∃ W3, W3 = Wc.setCells wb 0 (knL (k.put i.dst ⟨dl, (dg - 1 : Nat)⟩)) := ⟨_, rfl⟩
  show wpList _ _ _ _ _ (Wc.setCells wb 0 (knL (k.put i.dst ⟨dl, (dg - 1 : Nat)⟩)))
  rw [← hW3] at hB3 hj3 ⊢
  have HJ6 := Lib.hid hj3; have HB6 := Lib.hid hB3
  clear hW3 hB3 hj3 hBc hjc
  have HBF : Hid (WyB W6 wb nx jx 0) := Lib.hid (by rw [HNX.out, HJX.out]; exact HB6.out)
  clear HNX HJX HB6
  go_upto_region 13 with fail
  refine wp_region_list ?_
  refine wpList_ldw 72 9 wb nx jx 0 (by kernel_rfl) (by kernel_rfl) HBF.out ?_
  refine wpList_stw 8 72 (w.heap.size + 4) nx jx 0 (by kernel_rfl) (by kernel_rfl) HJ6.out.rr ?_
  obtain ⟨W9, HW9, HR9, HE9, HK9⟩ := fin_store HJ6.out.b HJ6.out.rr (by omega) (wayL nx jx 0) (wayL_length _ _ _)
  rw [← HW9.out]
  go_wp2
  refine bodyPost_ret (v := .agg (wayL nx jx 0).toArray) (results_cell1_range Try.results36 _ _ (w.heap.size + 4) 0 (wayL nx jx 0) _ (by kernel_rfl) HR9.out Try.underlying64 rfl (by rw [wayL_length]; exact info_way)) ?_ ⟨rfl, HE9.out⟩
  rfl

set_option maxRecDepth 100000 in
set_option maxHeartbeats 2000000 in
theorem rj_eq6 (w : World) (i : Ins8) (k : Kn) (dl dg sl sg : Nat) (hop : i.op = 20) (hdst : i.dst < 10) (hsrc : i.src < 10) (h1 : dl ≤ dg) (h2 : dg ≤ 4294967295) (h3 : sl ≤ sg) (h4 : sg ≤ 4294967295) (HY : Hid (dl < sl ∧ sl < dg)) (nx jx : Kn) (HNX : Hid (nx = k.put i.dst ⟨dl, dg⟩)) (HJX : Hid (jx = k.put i.dst ⟨sl, sg⟩)) : Calls Try.prog 36 #[.agg #[.int .i64 (i.op : Int), .int .i64 (i.dst : Int), .int .i64 (i.src : Int), .int .i64 i.off, .int .u32 (i.imm : Int)], .agg (knL k).toArray, .agg #[.int .i64 (dl : Int), .int .i64 (dg : Int)], .agg #[.int .i64 (sl : Int), .int .i64 (sg : Int)]] w fun e w' => e = .returned (.agg (wayL nx jx 0).toArray) ∧ Below w.heap.size w w' := by
  obtain ⟨L, hL⟩ : ∃ L, L = (knL k).toArray := ⟨_, rfl⟩
  obtain ⟨W1, HW1, HJ1, HZ1⟩ := jw_world w i k dl dg sl sg L hL
  rw [← hL]
  clear hL
  have HWI := Lib.hid (fun W l g hl hg => refwith_ok W k i.dst l g hdst hl hg)
  have HA := Lib.hid h1; have HB := Lib.hid h3; have HDN := Lib.hid hdst
  have p2 : (dg : Int) ≤ 4294967295 := by omega
  have p4 : (sg : Int) ≤ 4294967295 := by omega
  have HN2 := Lib.hid h2; have HN4 := Lib.hid h4
  clear h1 h2 h3 h4 hdst
  go_enter Try.func36, Try.ntmps36
  go_upto_region 0 with fail
  refine wp_region_list ?_
  refine wpList_box 4 0 45 #[.int .i64 (i.op : Int), .int .i64 (i.dst : Int), .int .i64 (i.src : Int), .int .i64 i.off, .int .u32 (i.imm : Int)] w.heap.size rfl (by kernel_rfl) ?_
  refine wpList_box 5 1 42 L (w.heap.size + 1) (by simp) (by kernel_rfl) ?_
  refine wpList_box 6 2 83 #[.int .i64 (dl : Int), .int .i64 (dg : Int)] (w.heap.size + 2) (by simp) (by kernel_rfl) ?_
  refine wpList_box 7 3 83 #[.int .i64 (sl : Int), .int .i64 (sg : Int)] (w.heap.size + 3) (by simp) (by kernel_rfl) ?_
  refine wpList_alw2 8 (w.heap.size + 4) (by simp) ?_
  rw [← HW1.out]
  clear HW1
  go_upto_region 1 with fail
  refine wp_region_list ?_
  refine wpList_val0 (.agg (wayL kn0 kn0 0).toArray) rfl (exec_build0 64 rfl _ (bw_0 _)) ?_
  obtain ⟨wb, hwb⟩ : ∃ wb, wb = W1.heap.size := ⟨_, rfl⟩
  refine wpList_alw2 9 wb hwb ?_
  have hB : WyB (W1.alloc (.cells (wayL kn0 kn0 0).toArray 64)) wb kn0 kn0 0 := by rw [hwb]; exact wayB W1 kn0 kn0 0
  have hj : Jw w i k dl dg sl sg (W1.alloc (.cells (wayL kn0 kn0 0).toArray 64)) := HJ1.out.more ((Below.refl _ _).alloc (Nat.le_refl _) _)
  have hwz : w.heap.size + 5 = wb := by rw [hwb]; exact HZ1.out.symm
  obtain ⟨Wx, hWx⟩ : ∃ Wx, Wx = W1.alloc (.cells (wayL kn0 kn0 0).toArray 64) := ⟨_, rfl⟩
  rw [← hWx] at hB hj ⊢
  clear hWx hwb
  refine wpList_stw 9 12 wb kn0 kn0 0 (by kernel_rfl) (by kernel_rfl) hB ?_
  have hB2 := WyB.fill hB kn0 kn0 0
  have hj2 := hj.set wb (by omega) 0 (wayL kn0 kn0 0)
  obtain ⟨W2, hW2⟩ : ∃ W2, W2 = Wx.setCells wb 0 (wayL kn0 kn0 0) := ⟨_, rfl⟩
  rw [← hW2] at hB2 hj2 ⊢
  have HJ2 := Lib.hid hj2; have HB2 := Lib.hid hB2; have HWZ := Lib.hid hwz
  clear hW2 hB hj hB2 hj2 hwz HJ1 HZ1
  have i0 : W2.cell? ⟨w.heap.size, 0, none⟩ = some (.int .i64 20) := by have := HJ2.out.ii.cell 0 (by omega); rw [show ([.int .i64 (i.op : Int), .int .i64 (i.dst : Int), .int .i64 (i.src : Int), .int .i64 i.off, .int .u32 (i.imm : Int)].getD 0 undef : Value) = .int .i64 (i.op : Int) from rfl, hop] at this; exact this
  have HOP := Lib.hid hop; clear hop
  have hy := HY.out
  have hz := HA.out
  have hf0 : (dl : Int) ≤ (sl : Int) := by omega
  have hf1 : (sl : Int) ≤ (dg : Int) := by omega
  clear hy hz
  have d0 : W2.cell? ⟨w.heap.size + 2, 0, none⟩ = some (.int .i64 (dl : Int)) := HJ2.out.dd.cell 0 (by omega)
  have d1 : W2.cell? ⟨w.heap.size + 2, 1, none⟩ = some (.int .i64 (dg : Int)) := HJ2.out.dd.cell 1 (by omega)
  have s0 : W2.cell? ⟨w.heap.size + 3, 0, none⟩ = some (.int .i64 (sl : Int)) := HJ2.out.ss.cell 0 (by omega)
  have s1 : W2.cell? ⟨w.heap.size + 3, 1, none⟩ = some (.int .i64 (sg : Int)) := HJ2.out.ss.cell 1 (by omega)
  go_upto_region 5 with fail
  refine wp_region_list ?_
  refine wpList_ldk 29 5 (w.heap.size + 1) 0 k (by kernel_rfl) (by kernel_rfl) HJ2.out.kk.range ?_
  refine wpList_val0 (.pointer (some ⟨w.heap.size, 1, none⟩)) rfl (by kernel_rfl) ?_
  refine wpList_val0 (.int .i64 (i.dst : Int)) rfl (exec_ldint (.tmp 30) rfl (by kernel_rfl) (HJ2.out.ii.cell 1 (by omega))) ?_
  refine wpList_lds 32 7 (w.heap.size + 3) (sl : Int) (sg : Int) (by kernel_rfl) (by kernel_rfl) HJ2.out.ss ?_

  refine wpList_callg (f := 34) (args := #[.agg (knL (k)).toArray, .int .i64 (i.dst : Int), .agg #[.int .i64 (sl : Int), .int .i64 (sg : Int)]]) (v := .agg (knL ((k).put i.dst ⟨sl, sg⟩)).toArray) (R := Below W2.heap.size W2) (by kernel_rfl) (by kernel_rfl) (HWI.out W2 sl sg (by have := HB.out; have := HN4.out; omega) (HN4.out)) (fun Wc hbc => ?_)
  have hBc := HB2.out.below hbc
  have hjc := HJ2.out.more hbc
  clear hbc

  refine wpList_val0 (.pointer (some ⟨wb, 31, none⟩)) rfl (by kernel_rfl) ?_
  refine wpList_stk 34 33 wb 31 (k.put i.dst ⟨sl, sg⟩) (by kernel_rfl) (by kernel_rfl) (there_mid hBc 31 31 (by omega)) ?_
  have hB3 := hBc.setj (k.put i.dst ⟨sl, sg⟩)
  have hj3 := hjc.set wb (by have := HWZ.out; omega) 31 (knL (k.put i.dst ⟨sl, sg⟩))
  obtain ⟨W3, hW3⟩ : ∃ W3, W3 = Wc.setCells wb 31 (knL (k.put i.dst ⟨sl, sg⟩)) := ⟨_, rfl⟩
  show wpList _ _ _ _ _ (Wc.setCells wb 31 (knL (k.put i.dst ⟨sl, sg⟩)))
  rw [← hW3] at hB3 hj3 ⊢
  have HJ3 := Lib.hid hj3; have HB3 := Lib.hid hB3
  clear hW3 hB3 hj3 hBc hjc
  have hy := HY.out
  have hz := HA.out
  have hf2 : ¬ (dl : Int) = (dg : Int) := by omega
  have hf3 : ¬ (sl : Int) = (dl : Int) := by omega
  have hf4 : ¬ (sl : Int) = (dg : Int) := by omega
  clear hy hz
  clear i0 d0 d1 s0 s1
  have d0 : W3.cell? ⟨w.heap.size + 2, 0, none⟩ = some (.int .i64 (dl : Int)) := HJ3.out.dd.cell 0 (by omega)
  have d1 : W3.cell? ⟨w.heap.size + 2, 1, none⟩ = some (.int .i64 (dg : Int)) := HJ3.out.dd.cell 1 (by omega)
  have s0 : W3.cell? ⟨w.heap.size + 3, 0, none⟩ = some (.int .i64 (sl : Int)) := HJ3.out.ss.cell 0 (by omega)
  have s1 : W3.cell? ⟨w.heap.size + 3, 1, none⟩ = some (.int .i64 (sg : Int)) := HJ3.out.ss.cell 1 (by omega)
  go_upto_region 7 with fail
  refine wp_region_list ?_
  refine wpList_lds 47 6 (w.heap.size + 2) (dl : Int) (dg : Int) (by kernel_rfl) (by kernel_rfl) HJ3.out.dd ?_
  obtain ⟨xb, hxb⟩ : ∃ xb, xb = W3.heap.size := ⟨_, rfl⟩
  refine wpList_als 11 xb hxb ?_
  have hX : Blk (W3.alloc (.cells #[.int .i64 0, .int .i64 0] 83)) xb 83 2 (fun j => [.int .i64 0, .int .i64 0].getD j undef) := by rw [hxb]; exact Blk.litL W3 83 [.int .i64 0, .int .i64 0]
  have hba : Below W3.heap.size W3 (W3.alloc (.cells #[.int .i64 0, .int .i64 0] 83)) := (Below.refl _ _).alloc (Nat.le_refl _) _
  have hBx := HB3.out.below hba
  have hjx := HJ3.out.more hba
  have hlt : wb < xb := by rw [hxb]; exact HB3.out.lt
  obtain ⟨Wx, hWx⟩ : ∃ Wx, Wx = W3.alloc (.cells #[.int .i64 0, .int .i64 0] 83) := ⟨_, rfl⟩
  rw [← hWx] at hX hBx hjx ⊢
  clear hWx hba hxb
  refine wpList_store_mid rfl 83 (.tmp 11) (.tmp 47) (by kernel_rfl) xb 0 #[.int .i64 (dl : Int), .int .i64 (dg : Int)] (by kernel_rfl) (by kernel_rfl) (there_blk hX) size_sp83 (by simp [Value.oneCell']) ?_
  have hk : Kp (fun x => x = xb) Wx (Wx.setCells xb 0 [.int .i64 (dl : Int), .int .i64 (dg : Int)]) := Kp.setCells (M := fun x => x = xb) (.inl rfl) _ _ _ (Kp.refl _ _)
  have hX2 : Blk (Wx.setCells xb 0 [.int .i64 (dl : Int), .int .i64 (dg : Int)]) xb 83 2 (fun j => [.int .i64 (dl : Int), .int .i64 (dg : Int)].getD j undef) := (Blk.setCells [.int .i64 (dl : Int), .int .i64 (dg : Int)] 0 Wx _ hX).congr (fun j hj => by rw [if_pos ⟨Nat.zero_le _, by simpa using hj⟩, Nat.sub_zero])
  have hB2 := hBx.keep hk (by omega)
  have hj2 := hjx.set xb (by have := HWZ.out; omega) 0 [.int .i64 (dl : Int), .int .i64 (dg : Int)]
  obtain ⟨W4, hW2⟩ : ∃ W2, W2 = Wx.setCells xb 0 [.int .i64 (dl : Int), .int .i64 (dg : Int)] := ⟨_, rfl⟩
  show wpList _ _ _ _ _ (Wx.setCells xb 0 [.int .i64 (dl : Int), .int .i64 (dg : Int)])
  rw [← hW2] at hX2 hB2 hj2 ⊢
  have HJ4 := Lib.hid hj2; have HB4 := Lib.hid hB2; have HX4 := Lib.hid hX2; have HXL := Lib.hid hlt
  clear hW2 hX hBx hjx hk hX2 hB2 hj2 hlt
  clear d0 d1 s0 s1
  have d0 : W4.cell? ⟨w.heap.size + 2, 0, none⟩ = some (.int .i64 (dl : Int)) := HJ4.out.dd.cell 0 (by omega)
  have d1 : W4.cell? ⟨w.heap.size + 2, 1, none⟩ = some (.int .i64 (dg : Int)) := HJ4.out.dd.cell 1 (by omega)
  have s0 : W4.cell? ⟨w.heap.size + 3, 0, none⟩ = some (.int .i64 (sl : Int)) := HJ4.out.ss.cell 0 (by omega)
  have s1 : W4.cell? ⟨w.heap.size + 3, 1, none⟩ = some (.int .i64 (sg : Int)) := HJ4.out.ss.cell 1 (by omega)
  go_upto_region 12 with fail
  refine wp_region_list ?_
  refine wpList_ldk 66 5 (w.heap.size + 1) 0 k (by kernel_rfl) (by kernel_rfl) HJ4.out.kk.range ?_
  refine wpList_val0 (.pointer (some ⟨w.heap.size, 1, none⟩)) rfl (by kernel_rfl) ?_
  refine wpList_val0 (.int .i64 (i.dst : Int)) rfl (exec_ldint (.tmp 67) rfl (by kernel_rfl) (HJ4.out.ii.cell 1 (by omega))) ?_
  refine wpList_lds 69 11 xb (dl : Int) (dg : Int) (by kernel_rfl) (by kernel_rfl) HX4.out ?_

  refine wpList_callg (f := 34) (args := #[.agg (knL (k)).toArray, .int .i64 (i.dst : Int), .agg #[.int .i64 (dl : Int), .int .i64 (dg : Int)]]) (v := .agg (knL ((k).put i.dst ⟨dl, dg⟩)).toArray) (R := Below W4.heap.size W4) (by kernel_rfl) (by kernel_rfl) (HWI.out W4 dl dg (by have := HN2.out; have := HA.out; omega) (HN2.out)) (fun Wc hbc => ?_)
  have hBc := HB4.out.below hbc
  have hjc := HJ4.out.more hbc
  clear hbc

  refine wpList_val0 (.pointer (some ⟨wb, 0, none⟩)) rfl (by kernel_rfl) ?_
  refine wpList_stk 71 70 wb 0 (k.put i.dst ⟨dl, dg⟩) (by kernel_rfl) (by kernel_rfl) (there_mid hBc 0 31 (by omega)) ?_
  have hB3 := hBc.setn (k.put i.dst ⟨dl, dg⟩)
  have hj3 := hjc.set wb (by have := HWZ.out; omega) 0 (knL (k.put i.dst ⟨dl, dg⟩))
  obtain ⟨W5, hW3⟩ : ∃ W3, W3 = Wc.setCells wb 0 (knL (k.put i.dst ⟨dl, dg⟩)) := ⟨_, rfl⟩
  show wpList _ _ _ _ _ (Wc.setCells wb 0 (knL (k.put i.dst ⟨dl, dg⟩)))
  rw [← hW3] at hB3 hj3 ⊢
  have HJ5 := Lib.hid hj3; have HB5 := Lib.hid hB3
  clear hW3 hB3 hj3 hBc hjc
  have HBF : Hid (WyB W5 wb nx jx 0) := Lib.hid (by rw [HNX.out, HJX.out]; exact HB5.out)
  clear HNX HJX HB5
  go_upto_region 13 with fail
  refine wp_region_list ?_
  refine wpList_ldw 72 9 wb nx jx 0 (by kernel_rfl) (by kernel_rfl) HBF.out ?_
  refine wpList_stw 8 72 (w.heap.size + 4) nx jx 0 (by kernel_rfl) (by kernel_rfl) HJ5.out.rr ?_
  obtain ⟨W9, HW9, HR9, HE9, HK9⟩ := fin_store HJ5.out.b HJ5.out.rr (by omega) (wayL nx jx 0) (wayL_length _ _ _)
  rw [← HW9.out]
  go_wp2
  refine bodyPost_ret (v := .agg (wayL nx jx 0).toArray) (results_cell1_range Try.results36 _ _ (w.heap.size + 4) 0 (wayL nx jx 0) _ (by kernel_rfl) HR9.out Try.underlying64 rfl (by rw [wayL_length]; exact info_way)) ?_ ⟨rfl, HE9.out⟩
  rfl

theorem rj_eq (w : World) (i : Ins8) (k : Kn) (d : Sp) (hop : i.op = 20) (hdst : i.dst < 10) (hsrc : i.src < 10) (hd : d.ok) (hm : i.imm ≤ 4294967295) (he : d = (k.r i.dst).sp) : Calls Try.prog 36 #[.agg #[.int .i64 (i.op : Int), .int .i64 (i.dst : Int), .int .i64 (i.src : Int), .int .i64 i.off, .int .u32 (i.imm : Int)], .agg (knL k).toArray, .agg #[.int .i64 (d.l : Int), .int .i64 (d.g : Int)], .agg #[.int .i64 (i.imm : Int), .int .i64 (i.imm : Int)]] w fun e w' => e = .returned (.agg (wayL (jeqN i k) (jeqJ i k) 0).toArray) ∧ Below w.heap.size w w' := by
  obtain ⟨dl, dg⟩ := d
  obtain ⟨h1, h2⟩ := hd
  have h1 : dl ≤ dg := h1
  have h2 : dg ≤ 4294967295 := h2
  have el : (k.r i.dst).l = dl := congrArg Sp.l he.symm
  have eg : (k.r i.dst).g = dg := congrArg Sp.g he.symm
  have es : (k.r i.dst).sp = ⟨dl, dg⟩ := he.symm
  have eN : jeqN i k = if dl = i.imm ∧ dg = i.imm then kn0 else k.put i.dst (if i.imm = dl then ⟨dl + 1, dg⟩ else if i.imm = dg then ⟨dl, dg - 1⟩ else ⟨dl, dg⟩) := by
    unfold jeqN; rw [el, eg, es]
  have eJ : jeqJ i k = if dl ≤ i.imm ∧ i.imm ≤ dg then k.put i.dst ⟨i.imm, i.imm⟩ else kn0 := by
    unfold jeqJ; rw [el, eg]
  rw [eN, eJ]
  rcases Nat.lt_or_ge i.imm dl with q | q
  · rw [if_neg (by omega), if_neg (by omega), if_neg (by omega), if_neg (by omega)]
    rcases Nat.lt_or_ge dl dg with p | p
    · exact rj_eq1 w i k dl dg i.imm i.imm hop hdst hsrc h1 h2 (Nat.le_refl _) hm (Lib.hid ⟨q, p⟩) _ _ (Lib.hid rfl) (Lib.hid rfl)
    · obtain rfl : dl = dg := by omega
      exact rj_eq7 w i k dl i.imm i.imm hop hdst hsrc h1 h2 (Nat.le_refl _) hm (Lib.hid q) _ _ (Lib.hid rfl) (Lib.hid rfl)
  · rcases Nat.lt_or_ge dg i.imm with q2 | q2
    · rw [if_neg (by omega), if_neg (by omega), if_neg (by omega), if_neg (by omega)]
      rcases Nat.lt_or_ge dl dg with p | p
      · exact rj_eq2 w i k dl dg i.imm i.imm hop hdst hsrc h1 h2 (Nat.le_refl _) hm (Lib.hid ⟨q2, p⟩) _ _ (Lib.hid rfl) (Lib.hid rfl)
      · obtain rfl : dl = dg := by omega
        exact rj_eq8 w i k dl i.imm i.imm hop hdst hsrc h1 h2 (Nat.le_refl _) hm (Lib.hid q2) _ _ (Lib.hid rfl) (Lib.hid rfl)
    · rw [if_pos (show dl ≤ i.imm ∧ i.imm ≤ dg from ⟨q, q2⟩)]
      by_cases c1 : dl = i.imm
      · by_cases c2 : dg = i.imm
        · rw [if_pos ⟨c1, c2⟩]
          exact rj_eq3 w i k dl dg i.imm i.imm hop hdst hsrc h1 h2 (Nat.le_refl _) hm (Lib.hid ⟨c1, c2⟩) _ _ (Lib.hid rfl) (Lib.hid rfl)
        · rw [if_neg (by omega), if_pos c1.symm]
          exact rj_eq4 w i k dl dg i.imm i.imm hop hdst hsrc h1 h2 (Nat.le_refl _) hm (Lib.hid ⟨c1, by omega⟩) _ _ (Lib.hid rfl) (Lib.hid rfl)
      · rw [if_neg (by omega), if_neg (by omega)]
        by_cases c2 : i.imm = dg
        · rw [if_pos c2]
          exact rj_eq5 w i k dl dg i.imm i.imm hop hdst hsrc h1 h2 (Nat.le_refl _) hm (Lib.hid ⟨c2.symm, by omega⟩) _ _ (Lib.hid rfl) (Lib.hid rfl)
        · rw [if_neg c2]
          exact rj_eq6 w i k dl dg i.imm i.imm hop hdst hsrc h1 h2 (Nat.le_refl _) hm (Lib.hid ⟨by omega, by omega⟩) _ _ (Lib.hid rfl) (Lib.hid rfl)
end Go.Proofs.Ytjlddhnjbjhmkaa
