/- The VM: an instruction (XVm5f). -/
import Derived.Test.YtpnkbpjhbmacaaaVm5d
set_option linter.unusedVariables false
set_option linter.unusedSimpArgs false
namespace Go.Proofs.Ytpnkbpjhbmacaaa
open Go.RowKit

set_option maxRecDepth 100000 in
set_option maxHeartbeats 4000000 in
theorem does_call {w : World} {okc : Nat → Prop} {x : Nat} {f : Fx} {K : Value} {s : Vm} (h : VmS w x f K s) (hok : VmOk s) (i : Ins8) (hm : i.May) (hop : i.op = 23) (CA : Option Addr) (cc : Nat) (ctx : List UInt8) (hC : f.C = .slice CA ctx.length cc) (hcx : By w okc CA ctx.length cc ctx) (hcl : ctx.length ≤ 65536) (hoc : ∀ k, okc k → k ≠ x) {oka : Nat → Prop} (A : Option Addr) (ca : Nat) (ans : List Nat) (hA : f.A = .slice A ans.length ca) (hans : Wd w oka A ans.length ca ans) (hoa : ∀ k, oka k → ¬ VmM x K k) (hcl2 : s.calls.length ≤ 1000) (hal : ans.length ≤ 1048576) (hav : ∀ v, v ∈ ans → v < 4294967296) :
    Calls Try.prog 44 #[.pointer (some ⟨x, 0, none⟩), .agg #[.int .i64 23, .int .i64 (i.dst : Int), .int .i64 (i.src : Int), .int .i64 i.off, .int .u32 (i.imm : Int)]] w (DoesPost w x f K s (.go (s.call i.imm ans) 0 false)) := by
  have hmf : ∀ (fn : Fn) (first cap : Array Value) (w : World), (Instr.makeFunc fn first cap).run Try.prog w = .ok (.func fn first cap) w := fun _ _ _ _ => rfl
  obtain ⟨W1, hW1⟩ : ∃ W1, W1 = w.alloc (.cells #[.int .i64 23, .int .i64 (i.dst : Int), .int .i64 (i.src : Int), .int .i64 i.off, .int .u32 (i.imm : Int)] 50) := ⟨_, rfl⟩
  have hb1 : Below w.heap.size w W1 := by rw [hW1]; exact (Below.refl _ _).alloc (Nat.le_refl _) _
  have I1 : InsB W1 w.heap.size i := by
    have e := InsB.new w i
    unfold InsB at e ⊢
    rw [hop] at e ⊢
    rw [hW1]; exact e
  have hz1 : W1.heap.size ≤ w.heap.size + 1 ∧ w.heap.size + 1 ≤ W1.heap.size := by rw [hW1]; simp
  have HW1 := Lib.hid hW1; clear hW1
  have hxl := h.b.lt
  have V1 := h.below hb1
  have hxg : x ≠ w.heap.size := by omega
  have hdr : Below W1.heap.size W1 W1.drew := (Below.refl _ _).drew
  have S1 : SW x w.heap.size f i s.scr okc CA cc ctx W1.drew := ⟨⟨K, s, (V1.below hdr).b, rfl⟩, I1, Sl.move (Sl.move hcx (Mv.of_below hb1 _)) (Mv.of_below hdr _)⟩
  have hsrc := hm.src
  have hdst := hm.dst
  have ho1 := hm.off1
  have ho2 := hm.off2
  have HOP := Lib.hid hop; clear hop
  have C := call_ok V1 i hm A ca ans hA (Sl.move hans (Mv.of_below hb1 _)) hoa hcl2 hal hav
  rw [HOP.out, show (((23 : Nat)) : Int) = 23 from rfl] at C
  obtain ⟨i0, i1, i2, i3, i4⟩ := I1.cells
  rw [HOP.out, show (((23 : Nat)) : Int) = 23 from rfl] at i0
  go_enter Try.func44, Try.ntmps44
  go_upto_region 23 with fail
  rw [← HW1.out]
  go_wp2_with fail
  (with_reducible refine C.mono ?_)
  rintro e w2 ⟨rfl, K', V2, hk2, hK2⟩
  go_wp2
  go_ret2
  exact ⟨rfl, K', V2, (Kp.of_below hb1 (VmM x K)).trans hk2 (fun _ _ e => e), fun k hk => (hK2 k hk).imp id (fun e => by omega)⟩

set_option maxRecDepth 100000 in
set_option maxHeartbeats 4000000 in
theorem does_exit {w : World} {okc : Nat → Prop} {x : Nat} {f : Fx} {K : Value} {s : Vm} (h : VmS w x f K s) (hok : VmOk s) (i : Ins8) (hm : i.May) (hop : i.op = 24) (CA : Option Addr) (cc : Nat) (ctx : List UInt8) (hC : f.C = .slice CA ctx.length cc) (hcx : By w okc CA ctx.length cc ctx) (hcl : ctx.length ≤ 65536) (hoc : ∀ k, okc k → k ≠ x) :
    Calls Try.prog 44 #[.pointer (some ⟨x, 0, none⟩), .agg #[.int .i64 24, .int .i64 (i.dst : Int), .int .i64 (i.src : Int), .int .i64 i.off, .int .u32 (i.imm : Int)]] w (DoesPost w x f K s (exitRes s)) := by
  have hmf : ∀ (fn : Fn) (first cap : Array Value) (w : World), (Instr.makeFunc fn first cap).run Try.prog w = .ok (.func fn first cap) w := fun _ _ _ _ => rfl
  obtain ⟨W1, hW1⟩ : ∃ W1, W1 = w.alloc (.cells #[.int .i64 24, .int .i64 (i.dst : Int), .int .i64 (i.src : Int), .int .i64 i.off, .int .u32 (i.imm : Int)] 50) := ⟨_, rfl⟩
  have hb1 : Below w.heap.size w W1 := by rw [hW1]; exact (Below.refl _ _).alloc (Nat.le_refl _) _
  have I1 : InsB W1 w.heap.size i := by
    have e := InsB.new w i
    unfold InsB at e ⊢
    rw [hop] at e ⊢
    rw [hW1]; exact e
  have hz1 : W1.heap.size ≤ w.heap.size + 1 ∧ w.heap.size + 1 ≤ W1.heap.size := by rw [hW1]; simp
  have HW1 := Lib.hid hW1; clear hW1
  have hxl := h.b.lt
  have V1 := h.below hb1
  have hxg : x ≠ w.heap.size := by omega
  have hdr : Below W1.heap.size W1 W1.drew := (Below.refl _ _).drew
  have S1 : SW x w.heap.size f i s.scr okc CA cc ctx W1.drew := ⟨⟨K, s, (V1.below hdr).b, rfl⟩, I1, Sl.move (Sl.move hcx (Mv.of_below hb1 _)) (Mv.of_below hdr _)⟩
  have hsrc := hm.src
  have hdst := hm.dst
  have ho1 := hm.off1
  have ho2 := hm.off2
  have HOP := Lib.hid hop; clear hop
  unfold exitRes
  by_cases hd : s.set 0 = true
  · rw [if_pos hd]
    have G : Calls Try.prog 59 #[.pointer (some ⟨x, 0, none⟩), .int .i64 0] W1 _ := get_ok V1.b 0 (by omega) hd
    have c28 := Blk.cell V1.b 28 (by omega)
    have f28 := Blk.frozen V1.b 28
    go_enter Try.func44, Try.ntmps44
    go_upto_region 25 with fail
    rw [← HW1.out]
    go_wp2_with fail
    (with_reducible refine G.mono ?_)
    rintro e w' ⟨rfl, rfl⟩
    go_wp2
    go_ret2
    have hkF : Kp (fun b => b = x) W1 (W1.setCell ⟨x, 28, none⟩ (.int .u32 (s.reg 0 : Int))) := (Kp.refl (fun b => b = x) W1).setCell (p := ⟨x, 28, none⟩) (.inl rfl) _
    exact ⟨rfl, K, ⟨Blk.congr (Blk.set V1.b 28 (.int .u32 (s.reg 0 : Int))) (vm_tell f K s (s.reg 0)), own_move V1.row (fun k hk hlt => hkF.block k hlt (fun e => h.xk (by rw [hk, e]))), h.xk⟩, (Kp.of_below hb1 (VmM x K)).trans (hkF.mono (fun _ _ e => .inl e)) (fun _ _ e => e), fun k hk => .inl hk⟩
  · rw [if_neg hd]
    have G : Calls Try.prog 59 #[.pointer (some ⟨x, 0, none⟩), .int .i64 0] W1 _ := get_not V1.b 0 (by omega) (by simpa using hd)
    clear hd
    go_enter Try.func44, Try.ntmps44
    go_upto_region 25 with fail
    rw [← HW1.out]
    go_wp2_with fail
    (with_reducible refine G.mono ?_)
    rintro e w' ⟨rfl, rfl⟩
    exact ⟨rfl, rfl, hb1⟩
end Go.Proofs.Ytpnkbpjhbmacaaa
