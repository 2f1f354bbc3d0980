/- The VM: an instruction (XVm5g). -/
import Derived.Test.YtpnkbpjhbmacaaaVm5
set_option linter.unusedVariables false
set_option linter.unusedSimpArgs false
namespace Go.Proofs.Ytpnkbpjhbmacaaa
open Go.RowKit

theorem SW.below {x g : Nat} {f : Fx} {i : Ins8} {scr : Nat → Nat} {okc : Nat → Prop} {CA : Option Addr} {cc : Nat} {ctx : List UInt8} {W W1 : World} (h : SW x g f i scr okc CA cc ctx W) (hb : Below W.heap.size W W1) : SW x g f i scr okc CA cc ctx W1 := by
  obtain ⟨⟨K, s, hv, hs⟩, hi, hc⟩ := h
  exact ⟨⟨K, s, hv.below hb, hs⟩, hi.keep (Kp.of_below hb No) (fun h => h), Sl.move hc (Mv.of_below hb _)⟩
def sumRes (s : Vm) (i : Ins8) : Res :=
  if 3 ≤ i.op ∧ s.set i.dst = false then .stop 2 else
    if i.useImm = false ∧ s.set i.src = false then .stop 2 else
      if (i.op = 14 ∨ i.op = 15) ∧ (if i.useImm then i.imm else s.reg i.src) = 0 then .stop 3 else .go (s.put i.dst (op2 i.op (if i.op ≤ 2 then 0 else s.reg i.dst) (if i.useImm then i.imm else s.reg i.src))) 0 false
theorem enter_fn2 (op : Nat) (h1 : 1 ≤ op) (h2 : op ≤ 15) (args : Array Value) (w : World) : (callFunc (fn2 op) args).run Try.prog w = .ok (.enter (fn2 op) args) w := by
  have hc : op = 1 ∨ op = 2 ∨ op = 3 ∨ op = 4 ∨ op = 5 ∨ op = 6 ∨ op = 7 ∨ op = 8 ∨ op = 9 ∨ op = 10 ∨ op = 11 ∨ op = 12 ∨ op = 13 ∨ op = 14 ∨ op = 15 := by omega
  rcases hc with rfl | rfl | rfl | rfl | rfl | rfl | rfl | rfl | rfl | rfl | rfl | rfl | rfl | rfl | rfl
  · rw [show fn2 1 = 71 from by simp [fn2]]; go_simp
  · rw [show fn2 2 = 71 from by simp [fn2]]; go_simp
  · rw [show fn2 3 = 72 from by simp [fn2]]; go_simp
  · rw [show fn2 4 = 72 from by simp [fn2]]; go_simp
  · rw [show fn2 5 = 75 from by simp [fn2]]; go_simp
  · rw [show fn2 6 = 73 from by simp [fn2]]; go_simp
  · rw [show fn2 7 = 73 from by simp [fn2]]; go_simp
  · rw [show fn2 8 = 74 from by simp [fn2]]; go_simp
  · rw [show fn2 9 = 74 from by simp [fn2]]; go_simp
  · rw [show fn2 10 = 76 from by simp [fn2]]; go_simp
  · rw [show fn2 11 = 77 from by simp [fn2]]; go_simp
  · rw [show fn2 12 = 78 from by simp [fn2]]; go_simp
  · rw [show fn2 13 = 79 from by simp [fn2]]; go_simp
  · rw [show fn2 14 = 80 from by simp [fn2]]; go_simp
  · rw [show fn2 15 = 81 from by simp [fn2]]; go_simp

set_option maxRecDepth 100000 in
set_option maxHeartbeats 4000000 in
theorem does_sum {w : World} {okc : Nat → Prop} {x : Nat} {f : Fx} {K : Value} {s : Vm} (h : VmS w x f K s) (hok : VmOk s) (i : Ins8) (hm : i.May) (hop : i.op ≤ 15) (CA : Option Addr) (cc : Nat) (ctx : List UInt8) (hC : f.C = .slice CA ctx.length cc) (hcx : By w okc CA ctx.length cc ctx) (hcl : ctx.length ≤ 65536) (hoc : ∀ k, okc k → k ≠ x) :
    Calls Try.prog 44 #[.pointer (some ⟨x, 0, none⟩), .agg #[.int .i64 (i.op : Int), .int .i64 (i.dst : Int), .int .i64 (i.src : Int), .int .i64 i.off, .int .u32 (i.imm : Int)]] w (DoesPost w x f K s (sumRes s i)) := by
  have hmf : ∀ (fn : Fn) (first cap : Array Value) (w : World), (Instr.makeFunc fn first cap).run Try.prog w = .ok (.func fn first cap) w := fun _ _ _ _ => rfl
  obtain ⟨W1, hW1⟩ : ∃ W1, W1 = w.alloc (.cells #[.int .i64 (i.op : Int), .int .i64 (i.dst : Int), .int .i64 (i.src : Int), .int .i64 i.off, .int .u32 (i.imm : Int)] 50) := ⟨_, rfl⟩
  have hb1 : Below w.heap.size w W1 := by rw [hW1]; exact (Below.refl _ _).alloc (Nat.le_refl _) _
  have I1 : InsB W1 w.heap.size i := by
    rw [hW1]; exact InsB.new w i
  have hz1 : W1.heap.size ≤ w.heap.size + 1 ∧ w.heap.size + 1 ≤ W1.heap.size := by rw [hW1]; simp
  have HW1 := Lib.hid hW1; clear hW1
  have hxl := h.b.lt
  have V1 := h.below hb1
  have hxg : x ≠ w.heap.size := by omega
  have hdr : Below W1.heap.size W1 W1.drew := (Below.refl _ _).drew
  have S1 : SW x w.heap.size f i s.scr okc CA cc ctx W1.drew := ⟨⟨K, s, (V1.below hdr).b, rfl⟩, I1, Sl.move (Sl.move hcx (Mv.of_below hb1 _)) (Mv.of_below hdr _)⟩
  have hsrc := hm.src
  have hdst := hm.dst
  have ho1 := hm.off1
  have ho2 := hm.off2
  have p1 := hm.op1
  have n16 : ((i.op : Int) == 16) = false := by simp; omega
  have n17 : ((i.op : Int) == 17) = false := by simp; omega
  have n18 : ((i.op : Int) == 18) = false := by simp; omega
  have n19 : ((i.op : Int) == 19) = false := by simp; omega
  have n20 : ((i.op : Int) == 20) = false := by simp; omega
  have n21 : ((i.op : Int) == 21) = false := by simp; omega
  have n22 : ((i.op : Int) == 22) = false := by simp; omega
  have n23 : ((i.op : Int) == 23) = false := by simp; omega
  have n24 : ((i.op : Int) == 24) = false := by simp; omega
  have hdl := hok.reg i.dst
  have hsl := hok.reg i.src
  have him := hm.imm
  have hix := index_tab i.op p1 hop
  obtain ⟨i0, i1, i2, i3, i4⟩ := I1.cells
  unfold sumRes
  by_cases h2 : i.op ≤ 2
  · rw [if_neg (by omega)]
    have q1 : ((i.op : Int) != 1 && (i.op : Int) != 2) = false := by simp; omega
    have hc2 : i.op = 1 ∨ i.op = 2 := by omega
    simp only [h2, if_true]
    rcases hc2 with hc | hc
    · have a1 : ((i.op : Int) != 1) = false := by simp; omega
      have HC := Lib.hid hc; clear hc
      by_cases hu : i.useImm = true
      · simp only [hu, if_true, Bool.true_eq_false, false_and, if_false]
        by_cases hz : (i.op = 14 ∨ i.op = 15) ∧ i.imm = 0
        · exact absurd hz.1 (fun e => by rcases e with e | e <;> simp [Ins8.useImm, e] at hu)
        · have hnz : i.op = 14 ∨ i.op = 15 → i.imm ≠ 0 := fun e e2 => hz ⟨e, e2⟩
          rw [if_neg hz]
          clear hz
          go_enter Try.func44, Try.ntmps44
          go_upto_region 6 with fail
          rw [← HW1.out]
          refine wp_region_noPanic ?_
          refine plan (.rd 0 (.rd 1 (.rd 2 (.rd 4 (.rd 5 (.rd 7 (.rd 8 (.rd 9 (.eff 3 (.rd 6 (.eff 10 (.eff 11 (.eff 12 .done))))))))))))) [0, 1, 2, 3, 4, 5, 6, 7, 8, 9, 10, 11, 12] (SW x w.heap.size f i s.scr okc CA cc ctx) (by kernel_rfl) (by kernel_rfl) (fun _ _ _ _ _ h => h) S1 ?_
          repeat (refine pl_pure rfl (fun K hK => ?_); go_simp; refine hK _ ?_; clear hK K)
          refine pl_rd (.int .i64 (i.dst : Int)) rfl rfl (fun W hS => ?_) (fun K hK => ?_)
          · have f0 := hS.ins.cells.2.1
            simp [go_sem, f0]
          go_simp
          refine hK _ ?_
          clear hK K
          repeat (refine pl_pure rfl (fun K hK => ?_); go_simp; refine hK _ ?_; clear hK K)
          refine pl_rd (.int .i64 (i.op : Int)) rfl rfl (fun W hS => ?_) (fun K hK => ?_)
          · have f0 := hS.ins.cells.1
            simp [go_sem, f0]
          go_simp
          refine hK _ ?_
          clear hK K
          repeat (refine pl_pure rfl (fun K hK => ?_); go_simp; refine hK _ ?_; clear hK K)
          refine pl_rd (.agg #[.int .i64 (i.op : Int), .int .i64 (i.dst : Int), .int .i64 (i.src : Int), .int .i64 i.off, .int .u32 (i.imm : Int)]) rfl rfl (fun W hS => ?_) (fun K hK => ?_)
          · obtain ⟨f0, f1, f2, f3, f4⟩ := hS.ins.cells
            simp [go_sem, f0, f1, f2, f3, f4]
          go_simp
          refine hK _ ?_
          clear hK K
          repeat (refine pl_pure rfl (fun K hK => ?_); go_simp; refine hK _ ?_; clear hK K)
          refine pl_eff rfl rfl (fun K hK => ?_)
          go_simp
          refine (two_tab _).mono ?_
          rintro e w2 ⟨rfl, hb2⟩
          have S2 := S1.below hb2
          have V2 := (V1.below hdr).below hb2
          have hz2 : W1.heap.size ≤ w2.heap.size := hb2.size
          refine hK _ _ (fun _ => S2) ?_
          clear hK K
          repeat (refine pl_pure rfl (fun K hK => ?_); go_simp; refine hK _ ?_; clear hK K)
          have SR := src_imm w2 x i hu
          refine pl_eff rfl rfl (fun K hK => ?_)
          go_simp
          (with_reducible refine SR.mono ?_)
          rintro e w3 ⟨rfl, hb3⟩
          have S3 := S2.below hb3
          have V3 := V2.below hb3
          refine hK _ _ (fun _ => S3) ?_
          clear hK K
          have FN := fn2_ok w3 i.op (0) (i.imm) p1 hop (by omega) (by omega) hnz
          rw [show ((0 : Nat) : Int) = 0 from rfl] at FN
          refine pl_eff rfl rfl (fun K hK => ?_)
          go_simp
          rw [enter_fn2 i.op p1 hop, Oper.upon_enter]
          (with_reducible refine FN.mono ?_)
          rintro e w' ⟨rfl, rfl⟩
          refine hK _ _ (fun _ => S3) ?_
          clear hK K
          have PU := put_ok V3.b i.dst (op2 i.op (0) (i.imm)) hdst
          refine pl_eff rfl rfl (fun K hK => ?_)
          go_simp
          (with_reducible refine PU.mono ?_)
          rintro e w6 ⟨rfl, V6, hk6⟩
          refine hK _ _ (fun _ => S3.keep hk6 hxg hoc V6 rfl) ?_
          clear hK K
          refine pl_done ?_
          refine NoPanic.normal ?_
          go_wp2
          go_ret2
          have hbA : Below w.heap.size w w3 := hb1.drew.trans ((hb2.trans (hb3.mono hb2.size)).mono (by have : w.heap.size ≤ W1.heap.size := hb1.size; exact this))
          exact ⟨rfl, K, (VmS.put V3 V6 hk6), ((Kp.of_below hbA (VmM x K)).trans (hk6.mono (fun _ _ e => .inl e)) (fun _ _ e => e)), fun k hk => .inl hk⟩
      · have hu : i.useImm = false := by simpa using hu
        by_cases hs : s.set i.src = true
        · simp only [hu, hs, Bool.true_eq_false, Bool.false_eq_true, and_false, if_false]
          by_cases hz : (i.op = 14 ∨ i.op = 15) ∧ s.reg i.src = 0
          · rw [if_pos hz]
            obtain ⟨hdv, hv0⟩ := hz
            have HV := Lib.hid hv0; clear hv0
            exact absurd hdv (by have := HC.out; omega)
          · have hnz : i.op = 14 ∨ i.op = 15 → s.reg i.src ≠ 0 := fun e e2 => hz ⟨e, e2⟩
            rw [if_neg hz]
            clear hz
            go_enter Try.func44, Try.ntmps44
            go_upto_region 6 with fail
            rw [← HW1.out]
            refine wp_region_noPanic ?_
            refine plan (.rd 0 (.rd 1 (.rd 2 (.rd 4 (.rd 5 (.rd 7 (.rd 8 (.rd 9 (.eff 3 (.rd 6 (.eff 10 (.eff 11 (.eff 12 .done))))))))))))) [0, 1, 2, 3, 4, 5, 6, 7, 8, 9, 10, 11, 12] (SW x w.heap.size f i s.scr okc CA cc ctx) (by kernel_rfl) (by kernel_rfl) (fun _ _ _ _ _ h => h) S1 ?_
            repeat (refine pl_pure rfl (fun K hK => ?_); go_simp; refine hK _ ?_; clear hK K)
            refine pl_rd (.int .i64 (i.dst : Int)) rfl rfl (fun W hS => ?_) (fun K hK => ?_)
            · have f0 := hS.ins.cells.2.1
              simp [go_sem, f0]
            go_simp
            refine hK _ ?_
            clear hK K
            repeat (refine pl_pure rfl (fun K hK => ?_); go_simp; refine hK _ ?_; clear hK K)
            refine pl_rd (.int .i64 (i.op : Int)) rfl rfl (fun W hS => ?_) (fun K hK => ?_)
            · have f0 := hS.ins.cells.1
              simp [go_sem, f0]
            go_simp
            refine hK _ ?_
            clear hK K
            repeat (refine pl_pure rfl (fun K hK => ?_); go_simp; refine hK _ ?_; clear hK K)
            refine pl_rd (.agg #[.int .i64 (i.op : Int), .int .i64 (i.dst : Int), .int .i64 (i.src : Int), .int .i64 i.off, .int .u32 (i.imm : Int)]) rfl rfl (fun W hS => ?_) (fun K hK => ?_)
            · obtain ⟨f0, f1, f2, f3, f4⟩ := hS.ins.cells
              simp [go_sem, f0, f1, f2, f3, f4]
            go_simp
            refine hK _ ?_
            clear hK K
            repeat (refine pl_pure rfl (fun K hK => ?_); go_simp; refine hK _ ?_; clear hK K)
            refine pl_eff rfl rfl (fun K hK => ?_)
            go_simp
            refine (two_tab _).mono ?_
            rintro e w2 ⟨rfl, hb2⟩
            have S2 := S1.below hb2
            have V2 := (V1.below hdr).below hb2
            have hz2 : W1.heap.size ≤ w2.heap.size := hb2.size
            refine hK _ _ (fun _ => S2) ?_
            clear hK K
            repeat (refine pl_pure rfl (fun K hK => ?_); go_simp; refine hK _ ?_; clear hK K)
            have SR := src_reg V2.b i hm hu hs
            refine pl_eff rfl rfl (fun K hK => ?_)
            go_simp
            (with_reducible refine SR.mono ?_)
            rintro e w3 ⟨rfl, hb3⟩
            have S3 := S2.below hb3
            have V3 := V2.below hb3
            refine hK _ _ (fun _ => S3) ?_
            clear hK K
            have FN := fn2_ok w3 i.op (0) (s.reg i.src) p1 hop (by omega) (by omega) hnz
            rw [show ((0 : Nat) : Int) = 0 from rfl] at FN
            refine pl_eff rfl rfl (fun K hK => ?_)
            go_simp
            rw [enter_fn2 i.op p1 hop, Oper.upon_enter]
            (with_reducible refine FN.mono ?_)
            rintro e w' ⟨rfl, rfl⟩
            refine hK _ _ (fun _ => S3) ?_
            clear hK K
            have PU := put_ok V3.b i.dst (op2 i.op (0) (s.reg i.src)) hdst
            refine pl_eff rfl rfl (fun K hK => ?_)
            go_simp
            (with_reducible refine PU.mono ?_)
            rintro e w6 ⟨rfl, V6, hk6⟩
            refine hK _ _ (fun _ => S3.keep hk6 hxg hoc V6 rfl) ?_
            clear hK K
            refine pl_done ?_
            refine NoPanic.normal ?_
            go_wp2
            go_ret2
            have hbA : Below w.heap.size w w3 := hb1.drew.trans ((hb2.trans (hb3.mono hb2.size)).mono (by have : w.heap.size ≤ W1.heap.size := hb1.size; exact this))
            exact ⟨rfl, K, (VmS.put V3 V6 hk6), ((Kp.of_below hbA (VmM x K)).trans (hk6.mono (fun _ _ e => .inl e)) (fun _ _ e => e)), fun k hk => .inl hk⟩
        · have hs : s.set i.src = false := by simpa using hs
          rw [if_pos ⟨hu, hs⟩]
          go_enter Try.func44, Try.ntmps44
          go_upto_region 6 with fail
          rw [← HW1.out]
          refine plan (.rd 0 (.rd 1 (.rd 2 (.rd 4 (.rd 5 (.rd 7 (.rd 8 (.rd 9 (.eff 3 (.rd 6 (.eff 10 (.eff 11 (.eff 12 .done))))))))))))) [0, 1, 2, 3, 4, 5, 6, 7, 8, 9, 10, 11, 12] (SW x w.heap.size f i s.scr okc CA cc ctx) (by kernel_rfl) (by kernel_rfl) (fun c a d v w h => by cases d <;> exact h) S1 ?_
          repeat (refine pl_pure rfl (fun K hK => ?_); go_simp; refine hK _ ?_; clear hK K)
          refine pl_rd (.int .i64 (i.dst : Int)) rfl rfl (fun W hS => ?_) (fun K hK => ?_)
          · have f0 := hS.ins.cells.2.1
            simp [go_sem, f0]
          go_simp
          refine hK _ ?_
          clear hK K
          repeat (refine pl_pure rfl (fun K hK => ?_); go_simp; refine hK _ ?_; clear hK K)
          refine pl_rd (.int .i64 (i.op : Int)) rfl rfl (fun W hS => ?_) (fun K hK => ?_)
          · have f0 := hS.ins.cells.1
            simp [go_sem, f0]
          go_simp
          refine hK _ ?_
          clear hK K
          repeat (refine pl_pure rfl (fun K hK => ?_); go_simp; refine hK _ ?_; clear hK K)
          refine pl_rd (.agg #[.int .i64 (i.op : Int), .int .i64 (i.dst : Int), .int .i64 (i.src : Int), .int .i64 i.off, .int .u32 (i.imm : Int)]) rfl rfl (fun W hS => ?_) (fun K hK => ?_)
          · obtain ⟨f0, f1, f2, f3, f4⟩ := hS.ins.cells
            simp [go_sem, f0, f1, f2, f3, f4]
          go_simp
          refine hK _ ?_
          clear hK K
          repeat (refine pl_pure rfl (fun K hK => ?_); go_simp; refine hK _ ?_; clear hK K)
          refine pl_eff rfl rfl (fun K hK => ?_)
          go_simp
          refine (two_tab _).mono ?_
          rintro e w2 ⟨rfl, hb2⟩
          have S2 := S1.below hb2
          have V2 := (V1.below hdr).below hb2
          have hz2 : W1.heap.size ≤ w2.heap.size := hb2.size
          refine hK _ _ (fun _ => S2) ?_
          clear hK K
          repeat (refine pl_pure rfl (fun K hK => ?_); go_simp; refine hK _ ?_; clear hK K)
          have SR := src_not V2.b i hm hu hs
          refine pl_eff rfl rfl (fun K hK => ?_)
          go_simp
          (with_reducible refine SR.mono ?_)
          rintro e w3 ⟨rfl, hb3⟩
          exact ⟨rfl, rfl, hb1.drew.trans ((hb2.trans (hb3.mono hb2.size)).mono (by have : w.heap.size ≤ W1.heap.size := hb1.size; exact this))⟩
    · have a2 : ((i.op : Int) != 2) = false := by simp; omega
      have b1 : ((i.op : Int) != 1) = true := by simp; omega
      have HC := Lib.hid hc; clear hc
      by_cases hu : i.useImm = true
      · simp only [hu, if_true, Bool.true_eq_false, false_and, if_false]
        by_cases hz : (i.op = 14 ∨ i.op = 15) ∧ i.imm = 0
        · exact absurd hz.1 (fun e => by rcases e with e | e <;> simp [Ins8.useImm, e] at hu)
        · have hnz : i.op = 14 ∨ i.op = 15 → i.imm ≠ 0 := fun e e2 => hz ⟨e, e2⟩
          rw [if_neg hz]
          clear hz
          go_enter Try.func44, Try.ntmps44
          go_upto_region 6 with fail
          rw [← HW1.out]
          refine wp_region_noPanic ?_
          refine plan (.rd 0 (.rd 1 (.rd 2 (.rd 4 (.rd 5 (.rd 7 (.rd 8 (.rd 9 (.eff 3 (.rd 6 (.eff 10 (.eff 11 (.eff 12 .done))))))))))))) [0, 1, 2, 3, 4, 5, 6, 7, 8, 9, 10, 11, 12] (SW x w.heap.size f i s.scr okc CA cc ctx) (by kernel_rfl) (by kernel_rfl) (fun _ _ _ _ _ h => h) S1 ?_
          repeat (refine pl_pure rfl (fun K hK => ?_); go_simp; refine hK _ ?_; clear hK K)
          refine pl_rd (.int .i64 (i.dst : Int)) rfl rfl (fun W hS => ?_) (fun K hK => ?_)
          · have f0 := hS.ins.cells.2.1
            simp [go_sem, f0]
          go_simp
          refine hK _ ?_
          clear hK K
          repeat (refine pl_pure rfl (fun K hK => ?_); go_simp; refine hK _ ?_; clear hK K)
          refine pl_rd (.int .i64 (i.op : Int)) rfl rfl (fun W hS => ?_) (fun K hK => ?_)
          · have f0 := hS.ins.cells.1
            simp [go_sem, f0]
          go_simp
          refine hK _ ?_
          clear hK K
          repeat (refine pl_pure rfl (fun K hK => ?_); go_simp; refine hK _ ?_; clear hK K)
          refine pl_rd (.agg #[.int .i64 (i.op : Int), .int .i64 (i.dst : Int), .int .i64 (i.src : Int), .int .i64 i.off, .int .u32 (i.imm : Int)]) rfl rfl (fun W hS => ?_) (fun K hK => ?_)
          · obtain ⟨f0, f1, f2, f3, f4⟩ := hS.ins.cells
            simp [go_sem, f0, f1, f2, f3, f4]
          go_simp
          refine hK _ ?_
          clear hK K
          repeat (refine pl_pure rfl (fun K hK => ?_); go_simp; refine hK _ ?_; clear hK K)
          refine pl_eff rfl rfl (fun K hK => ?_)
          go_simp
          refine (two_tab _).mono ?_
          rintro e w2 ⟨rfl, hb2⟩
          have S2 := S1.below hb2
          have V2 := (V1.below hdr).below hb2
          have hz2 : W1.heap.size ≤ w2.heap.size := hb2.size
          refine hK _ _ (fun _ => S2) ?_
          clear hK K
          repeat (refine pl_pure rfl (fun K hK => ?_); go_simp; refine hK _ ?_; clear hK K)
          have SR := src_imm w2 x i hu
          refine pl_eff rfl rfl (fun K hK => ?_)
          go_simp
          (with_reducible refine SR.mono ?_)
          rintro e w3 ⟨rfl, hb3⟩
          have S3 := S2.below hb3
          have V3 := V2.below hb3
          refine hK _ _ (fun _ => S3) ?_
          clear hK K
          have FN := fn2_ok w3 i.op (0) (i.imm) p1 hop (by omega) (by omega) hnz
          rw [show ((0 : Nat) : Int) = 0 from rfl] at FN
          refine pl_eff rfl rfl (fun K hK => ?_)
          go_simp
          rw [enter_fn2 i.op p1 hop, Oper.upon_enter]
          (with_reducible refine FN.mono ?_)
          rintro e w' ⟨rfl, rfl⟩
          refine hK _ _ (fun _ => S3) ?_
          clear hK K
          have PU := put_ok V3.b i.dst (op2 i.op (0) (i.imm)) hdst
          refine pl_eff rfl rfl (fun K hK => ?_)
          go_simp
          (with_reducible refine PU.mono ?_)
          rintro e w6 ⟨rfl, V6, hk6⟩
          refine hK _ _ (fun _ => S3.keep hk6 hxg hoc V6 rfl) ?_
          clear hK K
          refine pl_done ?_
          refine NoPanic.normal ?_
          go_wp2
          go_ret2
          have hbA : Below w.heap.size w w3 := hb1.drew.trans ((hb2.trans (hb3.mono hb2.size)).mono (by have : w.heap.size ≤ W1.heap.size := hb1.size; exact this))
          exact ⟨rfl, K, (VmS.put V3 V6 hk6), ((Kp.of_below hbA (VmM x K)).trans (hk6.mono (fun _ _ e => .inl e)) (fun _ _ e => e)), fun k hk => .inl hk⟩
      · have hu : i.useImm = false := by simpa using hu
        by_cases hs : s.set i.src = true
        · simp only [hu, hs, Bool.true_eq_false, Bool.false_eq_true, and_false, if_false]
          by_cases hz : (i.op = 14 ∨ i.op = 15) ∧ s.reg i.src = 0
          · rw [if_pos hz]
            obtain ⟨hdv, hv0⟩ := hz
            have HV := Lib.hid hv0; clear hv0
            exact absurd hdv (by have := HC.out; omega)
          · have hnz : i.op = 14 ∨ i.op = 15 → s.reg i.src ≠ 0 := fun e e2 => hz ⟨e, e2⟩
            rw [if_neg hz]
            clear hz
            go_enter Try.func44, Try.ntmps44
            go_upto_region 6 with fail
            rw [← HW1.out]
            refine wp_region_noPanic ?_
            refine plan (.rd 0 (.rd 1 (.rd 2 (.rd 4 (.rd 5 (.rd 7 (.rd 8 (.rd 9 (.eff 3 (.rd 6 (.eff 10 (.eff 11 (.eff 12 .done))))))))))))) [0, 1, 2, 3, 4, 5, 6, 7, 8, 9, 10, 11, 12] (SW x w.heap.size f i s.scr okc CA cc ctx) (by kernel_rfl) (by kernel_rfl) (fun _ _ _ _ _ h => h) S1 ?_
            repeat (refine pl_pure rfl (fun K hK => ?_); go_simp; refine hK _ ?_; clear hK K)
            refine pl_rd (.int .i64 (i.dst : Int)) rfl rfl (fun W hS => ?_) (fun K hK => ?_)
            · have f0 := hS.ins.cells.2.1
              simp [go_sem, f0]
            go_simp
            refine hK _ ?_
            clear hK K
            repeat (refine pl_pure rfl (fun K hK => ?_); go_simp; refine hK _ ?_; clear hK K)
            refine pl_rd (.int .i64 (i.op : Int)) rfl rfl (fun W hS => ?_) (fun K hK => ?_)
            · have f0 := hS.ins.cells.1
              simp [go_sem, f0]
            go_simp
            refine hK _ ?_
            clear hK K
            repeat (refine pl_pure rfl (fun K hK => ?_); go_simp; refine hK _ ?_; clear hK K)
            refine pl_rd (.agg #[.int .i64 (i.op : Int), .int .i64 (i.dst : Int), .int .i64 (i.src : Int), .int .i64 i.off, .int .u32 (i.imm : Int)]) rfl rfl (fun W hS => ?_) (fun K hK => ?_)
            · obtain ⟨f0, f1, f2, f3, f4⟩ := hS.ins.cells
              simp [go_sem, f0, f1, f2, f3, f4]
            go_simp
            refine hK _ ?_
            clear hK K
            repeat (refine pl_pure rfl (fun K hK => ?_); go_simp; refine hK _ ?_; clear hK K)
            refine pl_eff rfl rfl (fun K hK => ?_)
            go_simp
            refine (two_tab _).mono ?_
            rintro e w2 ⟨rfl, hb2⟩
            have S2 := S1.below hb2
            have V2 := (V1.below hdr).below hb2
            have hz2 : W1.heap.size ≤ w2.heap.size := hb2.size
            refine hK _ _ (fun _ => S2) ?_
            clear hK K
            repeat (refine pl_pure rfl (fun K hK => ?_); go_simp; refine hK _ ?_; clear hK K)
            have SR := src_reg V2.b i hm hu hs
            refine pl_eff rfl rfl (fun K hK => ?_)
            go_simp
            (with_reducible refine SR.mono ?_)
            rintro e w3 ⟨rfl, hb3⟩
            have S3 := S2.below hb3
            have V3 := V2.below hb3
            refine hK _ _ (fun _ => S3) ?_
            clear hK K
            have FN := fn2_ok w3 i.op (0) (s.reg i.src) p1 hop (by omega) (by omega) hnz
            rw [show ((0 : Nat) : Int) = 0 from rfl] at FN
            refine pl_eff rfl rfl (fun K hK => ?_)
            go_simp
            rw [enter_fn2 i.op p1 hop, Oper.upon_enter]
            (with_reducible refine FN.mono ?_)
            rintro e w' ⟨rfl, rfl⟩
            refine hK _ _ (fun _ => S3) ?_
            clear hK K
            have PU := put_ok V3.b i.dst (op2 i.op (0) (s.reg i.src)) hdst
            refine pl_eff rfl rfl (fun K hK => ?_)
            go_simp
            (with_reducible refine PU.mono ?_)
            rintro e w6 ⟨rfl, V6, hk6⟩
            refine hK _ _ (fun _ => S3.keep hk6 hxg hoc V6 rfl) ?_
            clear hK K
            refine pl_done ?_
            refine NoPanic.normal ?_
            go_wp2
            go_ret2
            have hbA : Below w.heap.size w w3 := hb1.drew.trans ((hb2.trans (hb3.mono hb2.size)).mono (by have : w.heap.size ≤ W1.heap.size := hb1.size; exact this))
            exact ⟨rfl, K, (VmS.put V3 V6 hk6), ((Kp.of_below hbA (VmM x K)).trans (hk6.mono (fun _ _ e => .inl e)) (fun _ _ e => e)), fun k hk => .inl hk⟩
        · have hs : s.set i.src = false := by simpa using hs
          rw [if_pos ⟨hu, hs⟩]
          go_enter Try.func44, Try.ntmps44
          go_upto_region 6 with fail
          rw [← HW1.out]
          refine plan (.rd 0 (.rd 1 (.rd 2 (.rd 4 (.rd 5 (.rd 7 (.rd 8 (.rd 9 (.eff 3 (.rd 6 (.eff 10 (.eff 11 (.eff 12 .done))))))))))))) [0, 1, 2, 3, 4, 5, 6, 7, 8, 9, 10, 11, 12] (SW x w.heap.size f i s.scr okc CA cc ctx) (by kernel_rfl) (by kernel_rfl) (fun c a d v w h => by cases d <;> exact h) S1 ?_
          repeat (refine pl_pure rfl (fun K hK => ?_); go_simp; refine hK _ ?_; clear hK K)
          refine pl_rd (.int .i64 (i.dst : Int)) rfl rfl (fun W hS => ?_) (fun K hK => ?_)
          · have f0 := hS.ins.cells.2.1
            simp [go_sem, f0]
          go_simp
          refine hK _ ?_
          clear hK K
          repeat (refine pl_pure rfl (fun K hK => ?_); go_simp; refine hK _ ?_; clear hK K)
          refine pl_rd (.int .i64 (i.op : Int)) rfl rfl (fun W hS => ?_) (fun K hK => ?_)
          · have f0 := hS.ins.cells.1
            simp [go_sem, f0]
          go_simp
          refine hK _ ?_
          clear hK K
          repeat (refine pl_pure rfl (fun K hK => ?_); go_simp; refine hK _ ?_; clear hK K)
          refine pl_rd (.agg #[.int .i64 (i.op : Int), .int .i64 (i.dst : Int), .int .i64 (i.src : Int), .int .i64 i.off, .int .u32 (i.imm : Int)]) rfl rfl (fun W hS => ?_) (fun K hK => ?_)
          · obtain ⟨f0, f1, f2, f3, f4⟩ := hS.ins.cells
            simp [go_sem, f0, f1, f2, f3, f4]
          go_simp
          refine hK _ ?_
          clear hK K
          repeat (refine pl_pure rfl (fun K hK => ?_); go_simp; refine hK _ ?_; clear hK K)
          refine pl_eff rfl rfl (fun K hK => ?_)
          go_simp
          refine (two_tab _).mono ?_
          rintro e w2 ⟨rfl, hb2⟩
          have S2 := S1.below hb2
          have V2 := (V1.below hdr).below hb2
          have hz2 : W1.heap.size ≤ w2.heap.size := hb2.size
          refine hK _ _ (fun _ => S2) ?_
          clear hK K
          repeat (refine pl_pure rfl (fun K hK => ?_); go_simp; refine hK _ ?_; clear hK K)
          have SR := src_not V2.b i hm hu hs
          refine pl_eff rfl rfl (fun K hK => ?_)
          go_simp
          (with_reducible refine SR.mono ?_)
          rintro e w3 ⟨rfl, hb3⟩
          exact ⟨rfl, rfl, hb1.drew.trans ((hb2.trans (hb3.mono hb2.size)).mono (by have : w.heap.size ≤ W1.heap.size := hb1.size; exact this))⟩
  · have a1 : ((i.op : Int) != 1) = true := by simp; omega
    have a2 : ((i.op : Int) != 2) = true := by simp; omega
    simp only [h2, if_false]
    by_cases hd : s.set i.dst = true
    · rw [if_neg (by simp [hd])]
      have G := get_ok V1.b i.dst hdst hd
      by_cases hu : i.useImm = true
      · simp only [hu, if_true, Bool.true_eq_false, false_and, if_false]
        by_cases hz : (i.op = 14 ∨ i.op = 15) ∧ i.imm = 0
        · exact absurd hz.1 (fun e => by rcases e with e | e <;> simp [Ins8.useImm, e] at hu)
        · have hnz : i.op = 14 ∨ i.op = 15 → i.imm ≠ 0 := fun e e2 => hz ⟨e, e2⟩
          rw [if_neg hz]
          clear hz
          go_enter Try.func44, Try.ntmps44
          go_wp2_with fail
          rw [← HW1.out]
          (with_reducible refine G.mono ?_)
          rintro e w' ⟨rfl, rfl⟩
          go_upto_region 6 with fail
          refine wp_region_noPanic ?_
          refine plan (.rd 0 (.rd 1 (.rd 2 (.rd 4 (.rd 5 (.rd 7 (.rd 8 (.rd 9 (.eff 3 (.rd 6 (.eff 10 (.eff 11 (.eff 12 .done))))))))))))) [0, 1, 2, 3, 4, 5, 6, 7, 8, 9, 10, 11, 12] (SW x w.heap.size f i s.scr okc CA cc ctx) (by kernel_rfl) (by kernel_rfl) (fun _ _ _ _ _ h => h) S1 ?_
          repeat (refine pl_pure rfl (fun K hK => ?_); go_simp; refine hK _ ?_; clear hK K)
          refine pl_rd (.int .i64 (i.dst : Int)) rfl rfl (fun W hS => ?_) (fun K hK => ?_)
          · have f0 := hS.ins.cells.2.1
            simp [go_sem, f0]
          go_simp
          refine hK _ ?_
          clear hK K
          repeat (refine pl_pure rfl (fun K hK => ?_); go_simp; refine hK _ ?_; clear hK K)
          refine pl_rd (.int .i64 (i.op : Int)) rfl rfl (fun W hS => ?_) (fun K hK => ?_)
          · have f0 := hS.ins.cells.1
            simp [go_sem, f0]
          go_simp
          refine hK _ ?_
          clear hK K
          repeat (refine pl_pure rfl (fun K hK => ?_); go_simp; refine hK _ ?_; clear hK K)
          refine pl_rd (.agg #[.int .i64 (i.op : Int), .int .i64 (i.dst : Int), .int .i64 (i.src : Int), .int .i64 i.off, .int .u32 (i.imm : Int)]) rfl rfl (fun W hS => ?_) (fun K hK => ?_)
          · obtain ⟨f0, f1, f2, f3, f4⟩ := hS.ins.cells
            simp [go_sem, f0, f1, f2, f3, f4]
          go_simp
          refine hK _ ?_
          clear hK K
          repeat (refine pl_pure rfl (fun K hK => ?_); go_simp; refine hK _ ?_; clear hK K)
          refine pl_eff rfl rfl (fun K hK => ?_)
          go_simp
          refine (two_tab _).mono ?_
          rintro e w2 ⟨rfl, hb2⟩
          have S2 := S1.below hb2
          have V2 := (V1.below hdr).below hb2
          have hz2 : W1.heap.size ≤ w2.heap.size := hb2.size
          refine hK _ _ (fun _ => S2) ?_
          clear hK K
          repeat (refine pl_pure rfl (fun K hK => ?_); go_simp; refine hK _ ?_; clear hK K)
          have SR := src_imm w2 x i hu
          refine pl_eff rfl rfl (fun K hK => ?_)
          go_simp
          (with_reducible refine SR.mono ?_)
          rintro e w3 ⟨rfl, hb3⟩
          have S3 := S2.below hb3
          have V3 := V2.below hb3
          refine hK _ _ (fun _ => S3) ?_
          clear hK K
          have FN := fn2_ok w3 i.op (s.reg i.dst) (i.imm) p1 hop (hdl) (by omega) hnz
          refine pl_eff rfl rfl (fun K hK => ?_)
          go_simp
          rw [enter_fn2 i.op p1 hop, Oper.upon_enter]
          (with_reducible refine FN.mono ?_)
          rintro e w' ⟨rfl, rfl⟩
          refine hK _ _ (fun _ => S3) ?_
          clear hK K
          have PU := put_ok V3.b i.dst (op2 i.op (s.reg i.dst) (i.imm)) hdst
          refine pl_eff rfl rfl (fun K hK => ?_)
          go_simp
          (with_reducible refine PU.mono ?_)
          rintro e w6 ⟨rfl, V6, hk6⟩
          refine hK _ _ (fun _ => S3.keep hk6 hxg hoc V6 rfl) ?_
          clear hK K
          refine pl_done ?_
          refine NoPanic.normal ?_
          go_wp2
          go_ret2
          have hbA : Below w.heap.size w w3 := hb1.drew.trans ((hb2.trans (hb3.mono hb2.size)).mono (by have : w.heap.size ≤ W1.heap.size := hb1.size; exact this))
          exact ⟨rfl, K, (VmS.put V3 V6 hk6), ((Kp.of_below hbA (VmM x K)).trans (hk6.mono (fun _ _ e => .inl e)) (fun _ _ e => e)), fun k hk => .inl hk⟩
      · have hu : i.useImm = false := by simpa using hu
        by_cases hs : s.set i.src = true
        · simp only [hu, hs, Bool.true_eq_false, Bool.false_eq_true, and_false, if_false]
          by_cases hz : (i.op = 14 ∨ i.op = 15) ∧ s.reg i.src = 0
          · rw [if_pos hz]
            obtain ⟨hdv, hv0⟩ := hz
            have HV := Lib.hid hv0; clear hv0
            go_enter Try.func44, Try.ntmps44
            go_wp2_with fail
            rw [← HW1.out]
            (with_reducible refine G.mono ?_)
            rintro e w' ⟨rfl, rfl⟩
            go_upto_region 6 with fail
            refine plan (.rd 0 (.rd 1 (.rd 2 (.rd 4 (.rd 5 (.rd 7 (.rd 8 (.rd 9 (.eff 3 (.rd 6 (.eff 10 (.eff 11 (.eff 12 .done))))))))))))) [0, 1, 2, 3, 4, 5, 6, 7, 8, 9, 10, 11, 12] (SW x w.heap.size f i s.scr okc CA cc ctx) (by kernel_rfl) (by kernel_rfl) (fun c a d v w h => by cases d <;> exact h) S1 ?_
            repeat (refine pl_pure rfl (fun K hK => ?_); go_simp; refine hK _ ?_; clear hK K)
            refine pl_rd (.int .i64 (i.dst : Int)) rfl rfl (fun W hS => ?_) (fun K hK => ?_)
            · have f0 := hS.ins.cells.2.1
              simp [go_sem, f0]
            go_simp
            refine hK _ ?_
            clear hK K
            repeat (refine pl_pure rfl (fun K hK => ?_); go_simp; refine hK _ ?_; clear hK K)
            refine pl_rd (.int .i64 (i.op : Int)) rfl rfl (fun W hS => ?_) (fun K hK => ?_)
            · have f0 := hS.ins.cells.1
              simp [go_sem, f0]
            go_simp
            refine hK _ ?_
            clear hK K
            repeat (refine pl_pure rfl (fun K hK => ?_); go_simp; refine hK _ ?_; clear hK K)
            refine pl_rd (.agg #[.int .i64 (i.op : Int), .int .i64 (i.dst : Int), .int .i64 (i.src : Int), .int .i64 i.off, .int .u32 (i.imm : Int)]) rfl rfl (fun W hS => ?_) (fun K hK => ?_)
            · obtain ⟨f0, f1, f2, f3, f4⟩ := hS.ins.cells
              simp [go_sem, f0, f1, f2, f3, f4]
            go_simp
            refine hK _ ?_
            clear hK K
            repeat (refine pl_pure rfl (fun K hK => ?_); go_simp; refine hK _ ?_; clear hK K)
            refine pl_eff rfl rfl (fun K hK => ?_)
            go_simp
            refine (two_tab _).mono ?_
            rintro e w2 ⟨rfl, hb2⟩
            have S2 := S1.below hb2
            have V2 := (V1.below hdr).below hb2
            have hz2 : W1.heap.size ≤ w2.heap.size := hb2.size
            refine hK _ _ (fun _ => S2) ?_
            clear hK K
            repeat (refine pl_pure rfl (fun K hK => ?_); go_simp; refine hK _ ?_; clear hK K)
            have SR := src_reg V2.b i hm hu hs
            rw [HV.out, show ((0 : Nat) : Int) = 0 from rfl] at SR
            refine pl_eff rfl rfl (fun K hK => ?_)
            go_simp
            (with_reducible refine SR.mono ?_)
            rintro e w3 ⟨rfl, hb3⟩
            have S3 := S2.below hb3
            have V3 := V2.below hb3
            refine hK _ _ (fun _ => S3) ?_
            clear hK K
            have FN := fn2_zero w3 i.op (s.reg i.dst) hdv
            refine pl_eff rfl rfl (fun K hK => ?_)
            go_simp
            rw [enter_fn2 i.op p1 hop, Oper.upon_enter]
            (with_reducible refine FN.mono ?_)
            rintro e w' ⟨rfl, rfl⟩
            exact ⟨rfl, rfl, hb1.drew.trans ((hb2.trans (hb3.mono hb2.size)).mono (by have : w.heap.size ≤ W1.heap.size := hb1.size; exact this))⟩
          · have hnz : i.op = 14 ∨ i.op = 15 → s.reg i.src ≠ 0 := fun e e2 => hz ⟨e, e2⟩
            rw [if_neg hz]
            clear hz
            go_enter Try.func44, Try.ntmps44
            go_wp2_with fail
            rw [← HW1.out]
            (with_reducible refine G.mono ?_)
            rintro e w' ⟨rfl, rfl⟩
            go_upto_region 6 with fail
            refine wp_region_noPanic ?_
            refine plan (.rd 0 (.rd 1 (.rd 2 (.rd 4 (.rd 5 (.rd 7 (.rd 8 (.rd 9 (.eff 3 (.rd 6 (.eff 10 (.eff 11 (.eff 12 .done))))))))))))) [0, 1, 2, 3, 4, 5, 6, 7, 8, 9, 10, 11, 12] (SW x w.heap.size f i s.scr okc CA cc ctx) (by kernel_rfl) (by kernel_rfl) (fun _ _ _ _ _ h => h) S1 ?_
            repeat (refine pl_pure rfl (fun K hK => ?_); go_simp; refine hK _ ?_; clear hK K)
            refine pl_rd (.int .i64 (i.dst : Int)) rfl rfl (fun W hS => ?_) (fun K hK => ?_)
            · have f0 := hS.ins.cells.2.1
              simp [go_sem, f0]
            go_simp
            refine hK _ ?_
            clear hK K
            repeat (refine pl_pure rfl (fun K hK => ?_); go_simp; refine hK _ ?_; clear hK K)
            refine pl_rd (.int .i64 (i.op : Int)) rfl rfl (fun W hS => ?_) (fun K hK => ?_)
            · have f0 := hS.ins.cells.1
              simp [go_sem, f0]
            go_simp
            refine hK _ ?_
            clear hK K
            repeat (refine pl_pure rfl (fun K hK => ?_); go_simp; refine hK _ ?_; clear hK K)
            refine pl_rd (.agg #[.int .i64 (i.op : Int), .int .i64 (i.dst : Int), .int .i64 (i.src : Int), .int .i64 i.off, .int .u32 (i.imm : Int)]) rfl rfl (fun W hS => ?_) (fun K hK => ?_)
            · obtain ⟨f0, f1, f2, f3, f4⟩ := hS.ins.cells
              simp [go_sem, f0, f1, f2, f3, f4]
            go_simp
            refine hK _ ?_
            clear hK K
            repeat (refine pl_pure rfl (fun K hK => ?_); go_simp; refine hK _ ?_; clear hK K)
            refine pl_eff rfl rfl (fun K hK => ?_)
            go_simp
            refine (two_tab _).mono ?_
            rintro e w2 ⟨rfl, hb2⟩
            have S2 := S1.below hb2
            have V2 := (V1.below hdr).below hb2
            have hz2 : W1.heap.size ≤ w2.heap.size := hb2.size
            refine hK _ _ (fun _ => S2) ?_
            clear hK K
            repeat (refine pl_pure rfl (fun K hK => ?_); go_simp; refine hK _ ?_; clear hK K)
            have SR := src_reg V2.b i hm hu hs
            refine pl_eff rfl rfl (fun K hK => ?_)
            go_simp
            (with_reducible refine SR.mono ?_)
            rintro e w3 ⟨rfl, hb3⟩
            have S3 := S2.below hb3
            have V3 := V2.below hb3
            refine hK _ _ (fun _ => S3) ?_
            clear hK K
            have FN := fn2_ok w3 i.op (s.reg i.dst) (s.reg i.src) p1 hop (hdl) (by omega) hnz
            refine pl_eff rfl rfl (fun K hK => ?_)
            go_simp
            rw [enter_fn2 i.op p1 hop, Oper.upon_enter]
            (with_reducible refine FN.mono ?_)
            rintro e w' ⟨rfl, rfl⟩
            refine hK _ _ (fun _ => S3) ?_
            clear hK K
            have PU := put_ok V3.b i.dst (op2 i.op (s.reg i.dst) (s.reg i.src)) hdst
            refine pl_eff rfl rfl (fun K hK => ?_)
            go_simp
            (with_reducible refine PU.mono ?_)
            rintro e w6 ⟨rfl, V6, hk6⟩
            refine hK _ _ (fun _ => S3.keep hk6 hxg hoc V6 rfl) ?_
            clear hK K
            refine pl_done ?_
            refine NoPanic.normal ?_
            go_wp2
            go_ret2
            have hbA : Below w.heap.size w w3 := hb1.drew.trans ((hb2.trans (hb3.mono hb2.size)).mono (by have : w.heap.size ≤ W1.heap.size := hb1.size; exact this))
            exact ⟨rfl, K, (VmS.put V3 V6 hk6), ((Kp.of_below hbA (VmM x K)).trans (hk6.mono (fun _ _ e => .inl e)) (fun _ _ e => e)), fun k hk => .inl hk⟩
        · have hs : s.set i.src = false := by simpa using hs
          rw [if_pos ⟨hu, hs⟩]
          go_enter Try.func44, Try.ntmps44
          go_wp2_with fail
          rw [← HW1.out]
          (with_reducible refine G.mono ?_)
          rintro e w' ⟨rfl, rfl⟩
          go_upto_region 6 with fail
          refine plan (.rd 0 (.rd 1 (.rd 2 (.rd 4 (.rd 5 (.rd 7 (.rd 8 (.rd 9 (.eff 3 (.rd 6 (.eff 10 (.eff 11 (.eff 12 .done))))))))))))) [0, 1, 2, 3, 4, 5, 6, 7, 8, 9, 10, 11, 12] (SW x w.heap.size f i s.scr okc CA cc ctx) (by kernel_rfl) (by kernel_rfl) (fun c a d v w h => by cases d <;> exact h) S1 ?_
          repeat (refine pl_pure rfl (fun K hK => ?_); go_simp; refine hK _ ?_; clear hK K)
          refine pl_rd (.int .i64 (i.dst : Int)) rfl rfl (fun W hS => ?_) (fun K hK => ?_)
          · have f0 := hS.ins.cells.2.1
            simp [go_sem, f0]
          go_simp
          refine hK _ ?_
          clear hK K
          repeat (refine pl_pure rfl (fun K hK => ?_); go_simp; refine hK _ ?_; clear hK K)
          refine pl_rd (.int .i64 (i.op : Int)) rfl rfl (fun W hS => ?_) (fun K hK => ?_)
          · have f0 := hS.ins.cells.1
            simp [go_sem, f0]
          go_simp
          refine hK _ ?_
          clear hK K
          repeat (refine pl_pure rfl (fun K hK => ?_); go_simp; refine hK _ ?_; clear hK K)
          refine pl_rd (.agg #[.int .i64 (i.op : Int), .int .i64 (i.dst : Int), .int .i64 (i.src : Int), .int .i64 i.off, .int .u32 (i.imm : Int)]) rfl rfl (fun W hS => ?_) (fun K hK => ?_)
          · obtain ⟨f0, f1, f2, f3, f4⟩ := hS.ins.cells
            simp [go_sem, f0, f1, f2, f3, f4]
          go_simp
          refine hK _ ?_
          clear hK K
          repeat (refine pl_pure rfl (fun K hK => ?_); go_simp; refine hK _ ?_; clear hK K)
          refine pl_eff rfl rfl (fun K hK => ?_)
          go_simp
          refine (two_tab _).mono ?_
          rintro e w2 ⟨rfl, hb2⟩
          have S2 := S1.below hb2
          have V2 := (V1.below hdr).below hb2
          have hz2 : W1.heap.size ≤ w2.heap.size := hb2.size
          refine hK _ _ (fun _ => S2) ?_
          clear hK K
          repeat (refine pl_pure rfl (fun K hK => ?_); go_simp; refine hK _ ?_; clear hK K)
          have SR := src_not V2.b i hm hu hs
          refine pl_eff rfl rfl (fun K hK => ?_)
          go_simp
          (with_reducible refine SR.mono ?_)
          rintro e w3 ⟨rfl, hb3⟩
          exact ⟨rfl, rfl, hb1.drew.trans ((hb2.trans (hb3.mono hb2.size)).mono (by have : w.heap.size ≤ W1.heap.size := hb1.size; exact this))⟩
    · have hd : s.set i.dst = false := by simpa using hd
      rw [if_pos ⟨by omega, hd⟩]
      have G := get_not V1.b i.dst hdst hd
      go_enter Try.func44, Try.ntmps44
      go_wp2_with fail
      rw [← HW1.out]
      (with_reducible refine G.mono ?_)
      rintro e w' ⟨rfl, rfl⟩
      exact ⟨rfl, rfl, hb1⟩
end Go.Proofs.Ytpnkbpjhbmacaaa
