/- The VM: an instruction (XVm5b). -/
import Derived.Test.YtpnkbpjhbmacaaaVm5
set_option linter.unusedVariables false
set_option linter.unusedSimpArgs false
namespace Go.Proofs.Ytpnkbpjhbmacaaa
open Go.RowKit

set_option maxRecDepth 100000 in
set_option maxHeartbeats 4000000 in
theorem does_lds {w : World} {okc : Nat → Prop} {x : Nat} {f : Fx} {K : Value} {s : Vm} (h : VmS w x f K s) (hok : VmOk s) (i : Ins8) (hm : i.May) (hop : i.op = 17) (CA : Option Addr) (cc : Nat) (ctx : List UInt8) (hC : f.C = .slice CA ctx.length cc) (hcx : By w okc CA ctx.length cc ctx) (hcl : ctx.length ≤ 65536) (hoc : ∀ k, okc k → k ≠ x) :
    Calls Try.prog 44 #[.pointer (some ⟨x, 0, none⟩), .agg #[.int .i64 17, .int .i64 (i.dst : Int), .int .i64 (i.src : Int), .int .i64 i.off, .int .u32 (i.imm : Int)]] w (DoesPost w x f K s (ldsRes s i)) := by
  have hmf : ∀ (fn : Fn) (first cap : Array Value) (w : World), (Instr.makeFunc fn first cap).run Try.prog w = .ok (.func fn first cap) w := fun _ _ _ _ => rfl
  obtain ⟨W1, hW1⟩ : ∃ W1, W1 = w.alloc (.cells #[.int .i64 17, .int .i64 (i.dst : Int), .int .i64 (i.src : Int), .int .i64 i.off, .int .u32 (i.imm : Int)] 50) := ⟨_, rfl⟩
  have hb1 : Below w.heap.size w W1 := by rw [hW1]; exact (Below.refl _ _).alloc (Nat.le_refl _) _
  have I1 : InsB W1 w.heap.size i := by
    have e := InsB.new w i
    unfold InsB at e ⊢
    rw [hop] at e ⊢
    rw [hW1]; exact e
  have hz1 : W1.heap.size ≤ w.heap.size + 1 ∧ w.heap.size + 1 ≤ W1.heap.size := by rw [hW1]; simp
  have HW1 := Lib.hid hW1; clear hW1
  have hxl := h.b.lt
  have V1 := h.below hb1
  have hxg : x ≠ w.heap.size := by omega
  have hdr : Below W1.heap.size W1 W1.drew := (Below.refl _ _).drew
  have S1 : SW x w.heap.size f i s.scr okc CA cc ctx W1.drew := ⟨⟨K, s, (V1.below hdr).b, rfl⟩, I1, Sl.move (Sl.move hcx (Mv.of_below hb1 _)) (Mv.of_below hdr _)⟩
  have hsrc := hm.src
  have hdst := hm.dst
  have ho1 := hm.off1
  have ho2 := hm.off2
  have HOP := Lib.hid hop; clear hop
  unfold ldsRes
  have hreg := hok.reg i.src
  by_cases hs : s.set i.src = true
  · rw [if_pos hs]
    have G := get_ok (V1.below hdr).b i.src hsrc hs
    by_cases hp : 0 ≤ (s.reg i.src : Int) + i.off ∧ (s.reg i.src : Int) + i.off < 64
    · rw [if_pos hp]
      have PL := place64_ok W1.drew (s.reg i.src) i.off hreg ⟨ho1, ho2⟩ hp
      obtain ⟨pl, hpl⟩ : ∃ pl : Nat, (s.reg i.src : Int) + i.off = pl := ⟨((s.reg i.src : Int) + i.off).toNat, by omega⟩
      rw [hpl] at PL hp ⊢
      rw [Int.toNat_natCast]
      have hpn : pl < 64 := by omega
      have hpi : (pl : Int) < 64 := by omega
      have hce3 := (V1.below hdr).b.scrc pl hpn
      have hv := hok.scr pl
      have hwv := Lib.hid (show IntKind.u32.wrap ((s.scr pl : Nat) : Int) = (s.scr pl : Int) from by rw [wrapU32]; omega)
      have HPL := Lib.hid hpl; clear hpl
      have PU := put_ok (V1.below hdr).b i.dst (s.scr pl) hdst
      go_enter Try.func44, Try.ntmps44
      go_upto_region 10 with fail
      rw [← HW1.out]
      refine wp_region_noPanic ?_
      refine plan (.rd 0 (.rd 1 (.rd 2 (.rd 3 (.rd 4 (.rd 5 (.rd 6 (.rd 8 (.rd 9 (.rd 11 (.rd 12 (.rd 13 (.eff 7 (.eff 10 (.eff 14 (.eff 15 (.eff 16 (.eff 17 .done)))))))))))))))))) [0, 1, 2, 3, 4, 5, 6, 7, 8, 9, 10, 11, 12, 13, 14, 15, 16, 17] (SW x w.heap.size f i s.scr okc CA cc ctx) (by kernel_rfl) (by kernel_rfl) (fun _ _ _ _ _ h => h) S1 ?_
      repeat (refine pl_pure rfl (fun K hK => ?_); go_simp; refine hK _ ?_; clear hK K)
      refine pl_rd (.int .i64 (i.dst : Int)) rfl rfl (fun W hS => ?_) (fun K hK => ?_)
      · have f0 := hS.ins.cells.2.1
        simp [go_sem, f0]
      go_simp
      refine hK _ ?_
      clear hK K
      repeat (refine pl_pure rfl (fun K hK => ?_); go_simp; refine hK _ ?_; clear hK K)
      refine pl_rd (.int .i64 (i.src : Int)) rfl rfl (fun W hS => ?_) (fun K hK => ?_)
      · have f0 := hS.ins.cells.2.2.1
        simp [go_sem, f0]
      go_simp
      refine hK _ ?_
      clear hK K
      repeat (refine pl_pure rfl (fun K hK => ?_); go_simp; refine hK _ ?_; clear hK K)
      refine pl_rd (.int .i64 i.off) rfl rfl (fun W hS => ?_) (fun K hK => ?_)
      · have f0 := hS.ins.cells.2.2.2.1
        simp [go_sem, f0]
      go_simp
      refine hK _ ?_
      clear hK K
      repeat (refine pl_pure rfl (fun K hK => ?_); go_simp; refine hK _ ?_; clear hK K)
      refine pl_eff rfl rfl (fun K hK => ?_)
      go_simp
      (with_reducible refine G.mono ?_)
      rintro e w' ⟨rfl, rfl⟩
      refine hK _ _ (fun _ => S1) ?_
      clear hK K
      refine pl_eff rfl rfl (fun K hK => ?_)
      go_simp
      (with_reducible refine PL.mono ?_)
      rintro e w' ⟨rfl, rfl⟩
      refine hK _ _ (fun _ => S1) ?_
      clear hK K
      iterate 3 (refine pl_eff rfl rfl (fun K hK => ?_); go_simp; refine hK _ _ (fun _ => S1) ?_; clear hK K)
      refine pl_eff rfl rfl (fun K hK => ?_)
      go_simp
      rw [hwv.out]
      (with_reducible refine PU.mono ?_)
      rintro e w6 ⟨rfl, V6, hk6⟩
      refine hK _ _ (fun _ => S1.keep hk6 hxg hoc V6 rfl) ?_
      clear hK K
      refine pl_done ?_
      refine NoPanic.normal ?_
      go_wp2
      go_ret2
      exact ⟨rfl, K, (VmS.put (V1.below hdr) V6 hk6), ((Kp.of_below hb1.drew (VmM x K)).trans (hk6.mono (fun _ _ e => .inl e)) (fun _ _ e => e)), fun k hk => .inl hk⟩
    · rw [if_neg hp]
      have PL := place64_not W1.drew (s.reg i.src) i.off hreg ⟨ho1, ho2⟩ hp
      clear hp
      go_enter Try.func44, Try.ntmps44
      go_upto_region 10 with fail
      rw [← HW1.out]
      refine plan (.rd 0 (.rd 1 (.rd 2 (.rd 3 (.rd 4 (.rd 5 (.rd 6 (.rd 8 (.rd 9 (.rd 11 (.rd 12 (.rd 13 (.eff 7 (.eff 10 (.eff 14 (.eff 15 (.eff 16 (.eff 17 .done)))))))))))))))))) [0, 1, 2, 3, 4, 5, 6, 7, 8, 9, 10, 11, 12, 13, 14, 15, 16, 17] (SW x w.heap.size f i s.scr okc CA cc ctx) (by kernel_rfl) (by kernel_rfl) (fun c a d v w h => by cases d <;> exact h) S1 ?_
      repeat (refine pl_pure rfl (fun K hK => ?_); go_simp; refine hK _ ?_; clear hK K)
      refine pl_rd (.int .i64 (i.dst : Int)) rfl rfl (fun W hS => ?_) (fun K hK => ?_)
      · have f0 := hS.ins.cells.2.1
        simp [go_sem, f0]
      go_simp
      refine hK _ ?_
      clear hK K
      repeat (refine pl_pure rfl (fun K hK => ?_); go_simp; refine hK _ ?_; clear hK K)
      refine pl_rd (.int .i64 (i.src : Int)) rfl rfl (fun W hS => ?_) (fun K hK => ?_)
      · have f0 := hS.ins.cells.2.2.1
        simp [go_sem, f0]
      go_simp
      refine hK _ ?_
      clear hK K
      repeat (refine pl_pure rfl (fun K hK => ?_); go_simp; refine hK _ ?_; clear hK K)
      refine pl_rd (.int .i64 i.off) rfl rfl (fun W hS => ?_) (fun K hK => ?_)
      · have f0 := hS.ins.cells.2.2.2.1
        simp [go_sem, f0]
      go_simp
      refine hK _ ?_
      clear hK K
      repeat (refine pl_pure rfl (fun K hK => ?_); go_simp; refine hK _ ?_; clear hK K)
      refine pl_eff rfl rfl (fun K hK => ?_)
      go_simp
      (with_reducible refine G.mono ?_)
      rintro e w' ⟨rfl, rfl⟩
      refine hK _ _ (fun _ => S1) ?_
      clear hK K
      refine pl_eff rfl rfl (fun K hK => ?_)
      go_simp
      (with_reducible refine PL.mono ?_)
      rintro e w' ⟨rfl, rfl⟩
      exact ⟨rfl, rfl, hb1.drew⟩
  · rw [if_neg hs]
    have G := get_not (V1.below hdr).b i.src hsrc (by simpa using hs)
    clear hs
    go_enter Try.func44, Try.ntmps44
    go_upto_region 10 with fail
    rw [← HW1.out]
    refine plan (.rd 0 (.rd 1 (.rd 2 (.rd 3 (.rd 4 (.rd 5 (.rd 6 (.rd 8 (.rd 9 (.rd 11 (.rd 12 (.rd 13 (.eff 7 (.eff 10 (.eff 14 (.eff 15 (.eff 16 (.eff 17 .done)))))))))))))))))) [0, 1, 2, 3, 4, 5, 6, 7, 8, 9, 10, 11, 12, 13, 14, 15, 16, 17] (SW x w.heap.size f i s.scr okc CA cc ctx) (by kernel_rfl) (by kernel_rfl) (fun c a d v w h => by cases d <;> exact h) S1 ?_
    repeat (refine pl_pure rfl (fun K hK => ?_); go_simp; refine hK _ ?_; clear hK K)
    refine pl_rd (.int .i64 (i.dst : Int)) rfl rfl (fun W hS => ?_) (fun K hK => ?_)
    · have f0 := hS.ins.cells.2.1
      simp [go_sem, f0]
    go_simp
    refine hK _ ?_
    clear hK K
    repeat (refine pl_pure rfl (fun K hK => ?_); go_simp; refine hK _ ?_; clear hK K)
    refine pl_rd (.int .i64 (i.src : Int)) rfl rfl (fun W hS => ?_) (fun K hK => ?_)
    · have f0 := hS.ins.cells.2.2.1
      simp [go_sem, f0]
    go_simp
    refine hK _ ?_
    clear hK K
    repeat (refine pl_pure rfl (fun K hK => ?_); go_simp; refine hK _ ?_; clear hK K)
    refine pl_rd (.int .i64 i.off) rfl rfl (fun W hS => ?_) (fun K hK => ?_)
    · have f0 := hS.ins.cells.2.2.2.1
      simp [go_sem, f0]
    go_simp
    refine hK _ ?_
    clear hK K
    repeat (refine pl_pure rfl (fun K hK => ?_); go_simp; refine hK _ ?_; clear hK K)
    refine pl_eff rfl rfl (fun K hK => ?_)
    go_simp
    (with_reducible refine G.mono ?_)
    rintro e w' ⟨rfl, rfl⟩
    exact ⟨rfl, rfl, hb1.drew⟩
end Go.Proofs.Ytpnkbpjhbmacaaa
