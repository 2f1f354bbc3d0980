/- The VM: an instruction (XVm5d). -/
import Derived.Test.YtpnkbpjhbmacaaaVm5
set_option linter.unusedVariables false
set_option linter.unusedSimpArgs false
namespace Go.Proofs.Ytpnkbpjhbmacaaa
open Go.RowKit

theorem jump_yes (w : World) (g : Nat) (i : Ins8) (I : InsB w g i) : Calls Try.prog 56 #[.bool true, .pointer (some ⟨g, 0, none⟩)] w fun e w' => e = .returned (.tuple #[.int .i64 i.off, .bool false]) ∧ w = w' := by
  have f0 := I.cells.2.2.2.1
  go_enter Try.func56, Try.ntmps56
  go_wp2
  go_ret2
  exact ⟨rfl, rfl⟩
theorem jump_no (w : World) (g : Nat) : Calls Try.prog 56 #[.bool false, .pointer (some ⟨g, 0, none⟩)] w fun e w' => e = .returned (.tuple #[.int .i64 0, .bool false]) ∧ w = w' := by
  go_enter Try.func56, Try.ntmps56
  go_wp2
  go_ret2
  exact ⟨rfl, rfl⟩
def jeqRes (s : Vm) (i : Ins8) : Res := if s.set i.dst then (if s.reg i.dst = i.imm then .go s i.off false else .go s 0 false) else .stop 2
def jltRes (s : Vm) (i : Ins8) : Res := if s.set i.dst then (if i.useImm then (if s.reg i.dst < i.imm then .go s i.off false else .go s 0 false) else (if s.set i.src then (if s.reg i.dst < s.reg i.src then .go s i.off false else .go s 0 false) else .stop 2)) else .stop 2
def Vm.tell (s : Vm) (v : Nat) : Vm := { s with val := v }
def exitRes (s : Vm) : Res := if s.set 0 then .go (s.tell (s.reg 0)) 0 true else .stop 2
theorem vm_tell (f : Fx) (K : Value) (s : Vm) (v : Nat) : ∀ j, j < 95 → (if j = 28 then Value.int .u32 (v : Int) else vmF f K s j) = vmF f K (s.tell v) j := by
  intro j hj
  by_cases h : j = 28
  · subst h; rw [if_pos rfl]; rfl
  · rw [if_neg h]
    simp only [vmF, Vm.tell, if_neg h]

set_option maxRecDepth 100000 in
set_option maxHeartbeats 4000000 in
theorem does_ja {w : World} {okc : Nat → Prop} {x : Nat} {f : Fx} {K : Value} {s : Vm} (h : VmS w x f K s) (hok : VmOk s) (i : Ins8) (hm : i.May) (hop : i.op = 19) (CA : Option Addr) (cc : Nat) (ctx : List UInt8) (hC : f.C = .slice CA ctx.length cc) (hcx : By w okc CA ctx.length cc ctx) (hcl : ctx.length ≤ 65536) (hoc : ∀ k, okc k → k ≠ x) :
    Calls Try.prog 44 #[.pointer (some ⟨x, 0, none⟩), .agg #[.int .i64 19, .int .i64 (i.dst : Int), .int .i64 (i.src : Int), .int .i64 i.off, .int .u32 (i.imm : Int)]] w (DoesPost w x f K s (.go s i.off false)) := by
  have hmf : ∀ (fn : Fn) (first cap : Array Value) (w : World), (Instr.makeFunc fn first cap).run Try.prog w = .ok (.func fn first cap) w := fun _ _ _ _ => rfl
  obtain ⟨W1, hW1⟩ : ∃ W1, W1 = w.alloc (.cells #[.int .i64 19, .int .i64 (i.dst : Int), .int .i64 (i.src : Int), .int .i64 i.off, .int .u32 (i.imm : Int)] 50) := ⟨_, rfl⟩
  have hb1 : Below w.heap.size w W1 := by rw [hW1]; exact (Below.refl _ _).alloc (Nat.le_refl _) _
  have I1 : InsB W1 w.heap.size i := by
    have e := InsB.new w i
    unfold InsB at e ⊢
    rw [hop] at e ⊢
    rw [hW1]; exact e
  have hz1 : W1.heap.size ≤ w.heap.size + 1 ∧ w.heap.size + 1 ≤ W1.heap.size := by rw [hW1]; simp
  have HW1 := Lib.hid hW1; clear hW1
  have hxl := h.b.lt
  have V1 := h.below hb1
  have hxg : x ≠ w.heap.size := by omega
  have hdr : Below W1.heap.size W1 W1.drew := (Below.refl _ _).drew
  have S1 : SW x w.heap.size f i s.scr okc CA cc ctx W1.drew := ⟨⟨K, s, (V1.below hdr).b, rfl⟩, I1, Sl.move (Sl.move hcx (Mv.of_below hb1 _)) (Mv.of_below hdr _)⟩
  have hsrc := hm.src
  have hdst := hm.dst
  have ho1 := hm.off1
  have ho2 := hm.off2
  have HOP := Lib.hid hop; clear hop
  have I1d : InsB W1 w.heap.size i := I1
  have J := jump_yes W1 w.heap.size i I1
  go_enter Try.func44, Try.ntmps44
  go_upto_region 15 with fail
  rw [← HW1.out]
  go_wp2_with (go_at_call 56; (with_reducible refine J.mono ?_); rintro e w' ⟨rfl, rfl⟩)
  go_ret2
  exact ⟨rfl, K, V1, Kp.of_below hb1 _, fun k hk => .inl hk⟩

set_option maxRecDepth 100000 in
set_option maxHeartbeats 4000000 in
theorem does_jeqi {w : World} {okc : Nat → Prop} {x : Nat} {f : Fx} {K : Value} {s : Vm} (h : VmS w x f K s) (hok : VmOk s) (i : Ins8) (hm : i.May) (hop : i.op = 20) (CA : Option Addr) (cc : Nat) (ctx : List UInt8) (hC : f.C = .slice CA ctx.length cc) (hcx : By w okc CA ctx.length cc ctx) (hcl : ctx.length ≤ 65536) (hoc : ∀ k, okc k → k ≠ x) :
    Calls Try.prog 44 #[.pointer (some ⟨x, 0, none⟩), .agg #[.int .i64 20, .int .i64 (i.dst : Int), .int .i64 (i.src : Int), .int .i64 i.off, .int .u32 (i.imm : Int)]] w (DoesPost w x f K s (jeqRes s i)) := by
  have hmf : ∀ (fn : Fn) (first cap : Array Value) (w : World), (Instr.makeFunc fn first cap).run Try.prog w = .ok (.func fn first cap) w := fun _ _ _ _ => rfl
  obtain ⟨W1, hW1⟩ : ∃ W1, W1 = w.alloc (.cells #[.int .i64 20, .int .i64 (i.dst : Int), .int .i64 (i.src : Int), .int .i64 i.off, .int .u32 (i.imm : Int)] 50) := ⟨_, rfl⟩
  have hb1 : Below w.heap.size w W1 := by rw [hW1]; exact (Below.refl _ _).alloc (Nat.le_refl _) _
  have I1 : InsB W1 w.heap.size i := by
    have e := InsB.new w i
    unfold InsB at e ⊢
    rw [hop] at e ⊢
    rw [hW1]; exact e
  have hz1 : W1.heap.size ≤ w.heap.size + 1 ∧ w.heap.size + 1 ≤ W1.heap.size := by rw [hW1]; simp
  have HW1 := Lib.hid hW1; clear hW1
  have hxl := h.b.lt
  have V1 := h.below hb1
  have hxg : x ≠ w.heap.size := by omega
  have hdr : Below W1.heap.size W1 W1.drew := (Below.refl _ _).drew
  have S1 : SW x w.heap.size f i s.scr okc CA cc ctx W1.drew := ⟨⟨K, s, (V1.below hdr).b, rfl⟩, I1, Sl.move (Sl.move hcx (Mv.of_below hb1 _)) (Mv.of_below hdr _)⟩
  have hsrc := hm.src
  have hdst := hm.dst
  have ho1 := hm.off1
  have ho2 := hm.off2
  have HOP := Lib.hid hop; clear hop
  unfold jeqRes
  by_cases hd : s.set i.dst = true
  · rw [if_pos hd]
    have G := get_ok (V1.below hdr).b i.dst hdst hd
    by_cases he : s.reg i.dst = i.imm
    · rw [if_pos he]
      have hq : (((s.reg i.dst : Nat) : Int) == ((i.imm : Nat) : Int)) = true := by simp [he]
      have HE := Lib.hid he; clear he
      have J := jump_yes W1.drew w.heap.size i I1
      go_enter Try.func44, Try.ntmps44
      go_upto_region 17 with fail
      rw [← HW1.out]
      refine wp_region_noPanic ?_
      refine plan (.rd 0 (.rd 1 (.rd 2 (.rd 3 (.rd 5 (.rd 6 (.eff 4 (.rd 7 (.eff 8 (.rd 9 (.rd 10 (.eff 11 (.eff 12 .done))))))))))))) [0, 1, 2, 3, 4, 5, 6, 7, 8, 9, 10, 11, 12] (SW x w.heap.size f i s.scr okc CA cc ctx) (by kernel_rfl) (by kernel_rfl) (fun _ _ _ _ _ h => h) S1 ?_
      repeat (refine pl_pure rfl (fun K hK => ?_); go_simp; refine hK _ ?_; clear hK K)
      refine pl_rd (.int .i64 (i.dst : Int)) rfl rfl (fun W hS => ?_) (fun K hK => ?_)
      · have f0 := hS.ins.cells.2.1
        simp [go_sem, f0]
      go_simp
      refine hK _ ?_
      clear hK K
      repeat (refine pl_pure rfl (fun K hK => ?_); go_simp; refine hK _ ?_; clear hK K)
      refine pl_rd (.int .u32 (i.imm : Int)) rfl rfl (fun W hS => ?_) (fun K hK => ?_)
      · have f0 := hS.ins.cells.2.2.2.2
        simp [go_sem, f0]
      go_simp
      refine hK _ ?_
      clear hK K
      repeat (refine pl_pure rfl (fun K hK => ?_); go_simp; refine hK _ ?_; clear hK K)
      refine pl_eff rfl rfl (fun K hK => ?_)
      go_simp
      (with_reducible refine G.mono ?_)
      rintro e w' ⟨rfl, rfl⟩
      refine hK _ _ (fun _ => S1) ?_
      clear hK K
      repeat (refine pl_pure rfl (fun K hK => ?_); go_simp; refine hK _ ?_; clear hK K)
      refine pl_eff rfl rfl (fun K hK => ?_)
      go_simp
      (with_reducible refine J.mono ?_)
      rintro e w' ⟨rfl, rfl⟩
      refine hK _ _ (fun _ => S1) ?_
      clear hK K
      repeat (refine pl_pure rfl (fun K hK => ?_); go_simp; refine hK _ ?_; clear hK K)
      iterate 2 (refine pl_eff rfl rfl (fun K hK => ?_); go_simp; refine hK _ _ (fun _ => S1) ?_; clear hK K)
      refine pl_done ?_
      refine NoPanic.normal ?_
      go_wp2
      go_ret2
      exact ⟨rfl, K, (V1.below hdr), Kp.of_below hb1.drew _, fun k hk => .inl hk⟩
    · rw [if_neg he]
      have hq : (((s.reg i.dst : Nat) : Int) == ((i.imm : Nat) : Int)) = false := by simp; omega
      have hq2 : ¬ (((s.reg i.dst : Nat) : Int) = ((i.imm : Nat) : Int)) := by omega
      have HE := Lib.hid he; clear he
      have J := jump_no W1.drew w.heap.size
      go_enter Try.func44, Try.ntmps44
      go_upto_region 17 with fail
      rw [← HW1.out]
      refine wp_region_noPanic ?_
      refine plan (.rd 0 (.rd 1 (.rd 2 (.rd 3 (.rd 5 (.rd 6 (.eff 4 (.rd 7 (.eff 8 (.rd 9 (.rd 10 (.eff 11 (.eff 12 .done))))))))))))) [0, 1, 2, 3, 4, 5, 6, 7, 8, 9, 10, 11, 12] (SW x w.heap.size f i s.scr okc CA cc ctx) (by kernel_rfl) (by kernel_rfl) (fun _ _ _ _ _ h => h) S1 ?_
      repeat (refine pl_pure rfl (fun K hK => ?_); go_simp; refine hK _ ?_; clear hK K)
      refine pl_rd (.int .i64 (i.dst : Int)) rfl rfl (fun W hS => ?_) (fun K hK => ?_)
      · have f0 := hS.ins.cells.2.1
        simp [go_sem, f0]
      go_simp
      refine hK _ ?_
      clear hK K
      repeat (refine pl_pure rfl (fun K hK => ?_); go_simp; refine hK _ ?_; clear hK K)
      refine pl_rd (.int .u32 (i.imm : Int)) rfl rfl (fun W hS => ?_) (fun K hK => ?_)
      · have f0 := hS.ins.cells.2.2.2.2
        simp [go_sem, f0]
      go_simp
      refine hK _ ?_
      clear hK K
      repeat (refine pl_pure rfl (fun K hK => ?_); go_simp; refine hK _ ?_; clear hK K)
      refine pl_eff rfl rfl (fun K hK => ?_)
      go_simp
      (with_reducible refine G.mono ?_)
      rintro e w' ⟨rfl, rfl⟩
      refine hK _ _ (fun _ => S1) ?_
      clear hK K
      repeat (refine pl_pure rfl (fun K hK => ?_); go_simp; refine hK _ ?_; clear hK K)
      refine pl_eff rfl rfl (fun K hK => ?_)
      go_simp
      (with_reducible refine J.mono ?_)
      rintro e w' ⟨rfl, rfl⟩
      refine hK _ _ (fun _ => S1) ?_
      clear hK K
      repeat (refine pl_pure rfl (fun K hK => ?_); go_simp; refine hK _ ?_; clear hK K)
      iterate 2 (refine pl_eff rfl rfl (fun K hK => ?_); go_simp; refine hK _ _ (fun _ => S1) ?_; clear hK K)
      refine pl_done ?_
      refine NoPanic.normal ?_
      go_wp2
      go_ret2
      exact ⟨rfl, K, (V1.below hdr), Kp.of_below hb1.drew _, fun k hk => .inl hk⟩
  · rw [if_neg hd]
    have G := get_not (V1.below hdr).b i.dst hdst (by simpa using hd)
    clear hd
    go_enter Try.func44, Try.ntmps44
    go_upto_region 17 with fail
    rw [← HW1.out]
    refine plan (.rd 0 (.rd 1 (.rd 2 (.rd 3 (.rd 5 (.rd 6 (.eff 4 (.rd 7 (.eff 8 (.rd 9 (.rd 10 (.eff 11 (.eff 12 .done))))))))))))) [0, 1, 2, 3, 4, 5, 6, 7, 8, 9, 10, 11, 12] (SW x w.heap.size f i s.scr okc CA cc ctx) (by kernel_rfl) (by kernel_rfl) (fun c a d v w h => by cases d <;> exact h) S1 ?_
    repeat (refine pl_pure rfl (fun K hK => ?_); go_simp; refine hK _ ?_; clear hK K)
    refine pl_rd (.int .i64 (i.dst : Int)) rfl rfl (fun W hS => ?_) (fun K hK => ?_)
    · have f0 := hS.ins.cells.2.1
      simp [go_sem, f0]
    go_simp
    refine hK _ ?_
    clear hK K
    repeat (refine pl_pure rfl (fun K hK => ?_); go_simp; refine hK _ ?_; clear hK K)
    refine pl_rd (.int .u32 (i.imm : Int)) rfl rfl (fun W hS => ?_) (fun K hK => ?_)
    · have f0 := hS.ins.cells.2.2.2.2
      simp [go_sem, f0]
    go_simp
    refine hK _ ?_
    clear hK K
    repeat (refine pl_pure rfl (fun K hK => ?_); go_simp; refine hK _ ?_; clear hK K)
    refine pl_eff rfl rfl (fun K hK => ?_)
    go_simp
    (with_reducible refine G.mono ?_)
    rintro e w' ⟨rfl, rfl⟩
    exact ⟨rfl, rfl, hb1.drew⟩
end Go.Proofs.Ytpnkbpjhbmacaaa
