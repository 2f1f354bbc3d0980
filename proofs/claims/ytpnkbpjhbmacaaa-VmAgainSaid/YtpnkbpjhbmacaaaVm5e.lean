/- The VM: an instruction (XVm5e). -/
import Derived.Test.YtpnkbpjhbmacaaaVm5d
set_option linter.unusedVariables false
set_option linter.unusedSimpArgs false
namespace Go.Proofs.Ytpnkbpjhbmacaaa
open Go.RowKit

set_option maxRecDepth 100000 in
set_option maxHeartbeats 4000000 in
theorem does_jlti {w : World} {okc : Nat → Prop} {x : Nat} {f : Fx} {K : Value} {s : Vm} (h : VmS w x f K s) (hok : VmOk s) (i : Ins8) (hm : i.May) (hop : i.op = 21) (CA : Option Addr) (cc : Nat) (ctx : List UInt8) (hC : f.C = .slice CA ctx.length cc) (hcx : By w okc CA ctx.length cc ctx) (hcl : ctx.length ≤ 65536) (hoc : ∀ k, okc k → k ≠ x) :
    Calls Try.prog 44 #[.pointer (some ⟨x, 0, none⟩), .agg #[.int .i64 21, .int .i64 (i.dst : Int), .int .i64 (i.src : Int), .int .i64 i.off, .int .u32 (i.imm : Int)]] w (DoesPost w x f K s (jltRes s i)) := by
  have hmf : ∀ (fn : Fn) (first cap : Array Value) (w : World), (Instr.makeFunc fn first cap).run Try.prog w = .ok (.func fn first cap) w := fun _ _ _ _ => rfl
  obtain ⟨W1, hW1⟩ : ∃ W1, W1 = w.alloc (.cells #[.int .i64 21, .int .i64 (i.dst : Int), .int .i64 (i.src : Int), .int .i64 i.off, .int .u32 (i.imm : Int)] 50) := ⟨_, rfl⟩
  have hb1 : Below w.heap.size w W1 := by rw [hW1]; exact (Below.refl _ _).alloc (Nat.le_refl _) _
  have I1 : InsB W1 w.heap.size i := by
    have e := InsB.new w i
    unfold InsB at e ⊢
    rw [hop] at e ⊢
    rw [hW1]; exact e
  have hz1 : W1.heap.size ≤ w.heap.size + 1 ∧ w.heap.size + 1 ≤ W1.heap.size := by rw [hW1]; simp
  have HW1 := Lib.hid hW1; clear hW1
  have hxl := h.b.lt
  have V1 := h.below hb1
  have hxg : x ≠ w.heap.size := by omega
  have hdr : Below W1.heap.size W1 W1.drew := (Below.refl _ _).drew
  have S1 : SW x w.heap.size f i s.scr okc CA cc ctx W1.drew := ⟨⟨K, s, (V1.below hdr).b, rfl⟩, I1, Sl.move (Sl.move hcx (Mv.of_below hb1 _)) (Mv.of_below hdr _)⟩
  have hsrc := hm.src
  have hdst := hm.dst
  have ho1 := hm.off1
  have ho2 := hm.off2
  have HOP := Lib.hid hop; clear hop
  unfold jltRes
  have hu : i.useImm = true := by simp [Ins8.useImm, HOP.out]
  by_cases hd : s.set i.dst = true
  · rw [if_pos hd, if_pos hu]
    have G := get_ok V1.b i.dst hdst hd
    have SR := src_imm W1 x i hu
    rw [HOP.out, show (((21 : Nat)) : Int) = 21 from rfl] at SR
    by_cases he : s.reg i.dst < i.imm
    · rw [if_pos he]
      have hq : ((s.reg i.dst : Nat) : Int) < ((i.imm : Nat) : Int) := by omega
      have hq3 : decide (s.reg i.dst < i.imm) = true := by simp; omega
      have hq4 : decide (((s.reg i.dst : Nat) : Int) < ((i.imm : Nat) : Int)) = true := by simp; omega
      have HE := Lib.hid he; clear he
      obtain ⟨i0, i1, i2, i3, i4⟩ := I1.cells
      rw [HOP.out, show (((21 : Nat)) : Int) = 21 from rfl] at i0
      go_enter Try.func44, Try.ntmps44
      go_upto_region 20 with fail
      rw [← HW1.out]
      go_wp2_with fail
      (with_reducible refine G.mono ?_)
      rintro e w' ⟨rfl, rfl⟩
      go_wp2_with fail
      (with_reducible refine SR.mono ?_)
      rintro e w2 ⟨rfl, hb2⟩
      have I2 : InsB w2 w.heap.size i := I1.keep (Kp.of_below hb2 No) (fun h => h)
      have J := jump_yes w2 w.heap.size i I2
      clear i0 i1 i2 i3 i4
      go_wp2_with (go_at_call 56; (with_reducible refine J.mono ?_); rintro e w' ⟨rfl, rfl⟩)
      go_ret2
      exact ⟨rfl, K, V1.below hb2, Kp.of_below (hb1.trans (hb2.mono hb1.size)) _, fun k hk => .inl hk⟩
    · rw [if_neg he]
      have hq : ¬ ((s.reg i.dst : Nat) : Int) < ((i.imm : Nat) : Int) := by omega
      have hq3 : decide (s.reg i.dst < i.imm) = false := by simp; omega
      have hq4 : decide (((s.reg i.dst : Nat) : Int) < ((i.imm : Nat) : Int)) = false := by simp; omega
      have HE := Lib.hid he; clear he
      obtain ⟨i0, i1, i2, i3, i4⟩ := I1.cells
      rw [HOP.out, show (((21 : Nat)) : Int) = 21 from rfl] at i0
      go_enter Try.func44, Try.ntmps44
      go_upto_region 20 with fail
      rw [← HW1.out]
      go_wp2_with fail
      (with_reducible refine G.mono ?_)
      rintro e w' ⟨rfl, rfl⟩
      go_wp2_with fail
      (with_reducible refine SR.mono ?_)
      rintro e w2 ⟨rfl, hb2⟩
      have I2 : InsB w2 w.heap.size i := I1.keep (Kp.of_below hb2 No) (fun h => h)
      have J := jump_no w2 w.heap.size
      clear i0 i1 i2 i3 i4
      go_wp2_with (go_at_call 56; (with_reducible refine J.mono ?_); rintro e w' ⟨rfl, rfl⟩)
      go_ret2
      exact ⟨rfl, K, V1.below hb2, Kp.of_below (hb1.trans (hb2.mono hb1.size)) _, fun k hk => .inl hk⟩
  · rw [if_neg hd]
    have G := get_not V1.b i.dst hdst (by simpa using hd)
    clear hd
    obtain ⟨i0, i1, i2, i3, i4⟩ := I1.cells
    rw [HOP.out, show (((21 : Nat)) : Int) = 21 from rfl] at i0
    go_enter Try.func44, Try.ntmps44
    go_upto_region 20 with fail
    rw [← HW1.out]
    go_wp2_with fail
    (with_reducible refine G.mono ?_)
    rintro e w' ⟨rfl, rfl⟩
    exact ⟨rfl, rfl, hb1⟩

set_option maxRecDepth 100000 in
set_option maxHeartbeats 4000000 in
theorem does_jlt {w : World} {okc : Nat → Prop} {x : Nat} {f : Fx} {K : Value} {s : Vm} (h : VmS w x f K s) (hok : VmOk s) (i : Ins8) (hm : i.May) (hop : i.op = 22) (CA : Option Addr) (cc : Nat) (ctx : List UInt8) (hC : f.C = .slice CA ctx.length cc) (hcx : By w okc CA ctx.length cc ctx) (hcl : ctx.length ≤ 65536) (hoc : ∀ k, okc k → k ≠ x) :
    Calls Try.prog 44 #[.pointer (some ⟨x, 0, none⟩), .agg #[.int .i64 22, .int .i64 (i.dst : Int), .int .i64 (i.src : Int), .int .i64 i.off, .int .u32 (i.imm : Int)]] w (DoesPost w x f K s (jltRes s i)) := by
  have hmf : ∀ (fn : Fn) (first cap : Array Value) (w : World), (Instr.makeFunc fn first cap).run Try.prog w = .ok (.func fn first cap) w := fun _ _ _ _ => rfl
  obtain ⟨W1, hW1⟩ : ∃ W1, W1 = w.alloc (.cells #[.int .i64 22, .int .i64 (i.dst : Int), .int .i64 (i.src : Int), .int .i64 i.off, .int .u32 (i.imm : Int)] 50) := ⟨_, rfl⟩
  have hb1 : Below w.heap.size w W1 := by rw [hW1]; exact (Below.refl _ _).alloc (Nat.le_refl _) _
  have I1 : InsB W1 w.heap.size i := by
    have e := InsB.new w i
    unfold InsB at e ⊢
    rw [hop] at e ⊢
    rw [hW1]; exact e
  have hz1 : W1.heap.size ≤ w.heap.size + 1 ∧ w.heap.size + 1 ≤ W1.heap.size := by rw [hW1]; simp
  have HW1 := Lib.hid hW1; clear hW1
  have hxl := h.b.lt
  have V1 := h.below hb1
  have hxg : x ≠ w.heap.size := by omega
  have hdr : Below W1.heap.size W1 W1.drew := (Below.refl _ _).drew
  have S1 : SW x w.heap.size f i s.scr okc CA cc ctx W1.drew := ⟨⟨K, s, (V1.below hdr).b, rfl⟩, I1, Sl.move (Sl.move hcx (Mv.of_below hb1 _)) (Mv.of_below hdr _)⟩
  have hsrc := hm.src
  have hdst := hm.dst
  have ho1 := hm.off1
  have ho2 := hm.off2
  have HOP := Lib.hid hop; clear hop
  unfold jltRes
  have hu : i.useImm = false := by simp [Ins8.useImm, HOP.out]
  by_cases hd : s.set i.dst = true
  · rw [if_pos hd, if_neg (by rw [hu]; simp)]
    have G := get_ok V1.b i.dst hdst hd
    by_cases hs : s.set i.src = true
    · rw [if_pos hs]
      have SR := src_reg V1.b i hm hu hs
      rw [HOP.out, show (((22 : Nat)) : Int) = 22 from rfl] at SR
      by_cases he : s.reg i.dst < s.reg i.src
      · rw [if_pos he]
        have hq : ((s.reg i.dst : Nat) : Int) < ((s.reg i.src : Nat) : Int) := by omega
        have hq3 : decide (s.reg i.dst < s.reg i.src) = true := by simp; omega
        have hq4 : decide (((s.reg i.dst : Nat) : Int) < ((s.reg i.src : Nat) : Int)) = true := by simp; omega
        have HE := Lib.hid he; clear he
        obtain ⟨i0, i1, i2, i3, i4⟩ := I1.cells
        rw [HOP.out, show (((22 : Nat)) : Int) = 22 from rfl] at i0
        go_enter Try.func44, Try.ntmps44
        go_upto_region 20 with fail
        rw [← HW1.out]
        go_wp2_with fail
        (with_reducible refine G.mono ?_)
        rintro e w' ⟨rfl, rfl⟩
        go_wp2_with fail
        (with_reducible refine SR.mono ?_)
        rintro e w2 ⟨rfl, hb2⟩
        have I2 : InsB w2 w.heap.size i := I1.keep (Kp.of_below hb2 No) (fun h => h)
        have J := jump_yes w2 w.heap.size i I2
        clear i0 i1 i2 i3 i4
        go_wp2_with (go_at_call 56; (with_reducible refine J.mono ?_); rintro e w' ⟨rfl, rfl⟩)
        go_ret2
        exact ⟨rfl, K, V1.below hb2, Kp.of_below (hb1.trans (hb2.mono hb1.size)) _, fun k hk => .inl hk⟩
      · rw [if_neg he]
        have hq : ¬ ((s.reg i.dst : Nat) : Int) < ((s.reg i.src : Nat) : Int) := by omega
        have hq3 : decide (s.reg i.dst < s.reg i.src) = false := by simp; omega
        have hq4 : decide (((s.reg i.dst : Nat) : Int) < ((s.reg i.src : Nat) : Int)) = false := by simp; omega
        have HE := Lib.hid he; clear he
        obtain ⟨i0, i1, i2, i3, i4⟩ := I1.cells
        rw [HOP.out, show (((22 : Nat)) : Int) = 22 from rfl] at i0
        go_enter Try.func44, Try.ntmps44
        go_upto_region 20 with fail
        rw [← HW1.out]
        go_wp2_with fail
        (with_reducible refine G.mono ?_)
        rintro e w' ⟨rfl, rfl⟩
        go_wp2_with fail
        (with_reducible refine SR.mono ?_)
        rintro e w2 ⟨rfl, hb2⟩
        have I2 : InsB w2 w.heap.size i := I1.keep (Kp.of_below hb2 No) (fun h => h)
        have J := jump_no w2 w.heap.size
        clear i0 i1 i2 i3 i4
        go_wp2_with (go_at_call 56; (with_reducible refine J.mono ?_); rintro e w' ⟨rfl, rfl⟩)
        go_ret2
        exact ⟨rfl, K, V1.below hb2, Kp.of_below (hb1.trans (hb2.mono hb1.size)) _, fun k hk => .inl hk⟩
    · rw [if_neg hs]
      have SR := src_not V1.b i hm hu (by simpa using hs)
      rw [HOP.out, show (((22 : Nat)) : Int) = 22 from rfl] at SR
      clear hs
      obtain ⟨i0, i1, i2, i3, i4⟩ := I1.cells
      rw [HOP.out, show (((22 : Nat)) : Int) = 22 from rfl] at i0
      go_enter Try.func44, Try.ntmps44
      go_upto_region 20 with fail
      rw [← HW1.out]
      go_wp2_with fail
      (with_reducible refine G.mono ?_)
      rintro e w' ⟨rfl, rfl⟩
      go_wp2_with fail
      (with_reducible refine SR.mono ?_)
      rintro e w2 ⟨rfl, hb2⟩
      exact ⟨rfl, rfl, hb1.trans (hb2.mono hb1.size)⟩
  · rw [if_neg hd]
    have G := get_not V1.b i.dst hdst (by simpa using hd)
    clear hd
    obtain ⟨i0, i1, i2, i3, i4⟩ := I1.cells
    rw [HOP.out, show (((22 : Nat)) : Int) = 22 from rfl] at i0
    go_enter Try.func44, Try.ntmps44
    go_upto_region 20 with fail
    rw [← HW1.out]
    go_wp2_with fail
    (with_reducible refine G.mono ?_)
    rintro e w' ⟨rfl, rfl⟩
    exact ⟨rfl, rfl, hb1⟩
end Go.Proofs.Ytpnkbpjhbmacaaa
