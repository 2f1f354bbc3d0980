/- VmTwo, for every input: it returns true, and each argument reads afterwards as it read before. No condition. -/
import Derived.Test.YtpnkbpjhbmacaaaRow07
import Derived.Test.YtpnkbpjhbmacaaaVl4
set_option linter.unusedVariables false
set_option linter.unusedSimpArgs false
namespace Go.Proofs.Ytpnkbpjhbmacaaa
section
open Go.RowKit
set_option maxRecDepth 100000 in
set_option maxHeartbeats 2000000 in
theorem vmtwo_ok (w : World) (a b : Nat) (op : Int) (ha : a < 4294967296) (hb : b < 4294967296) :
    Calls Try.prog 5 #[.int .u32 (a : Int), .int .u32 (b : Int), .int .i64 op] w fun e w' => e = .returned (.bool true) ∧ Below w.heap.size w w' := by
  have HKN := Lib.hid known_ok
  by_cases h1 : op < 1
  · go_enter Try.func5, Try.ntmps5
    go_wp2_with (go_at_call 12; (with_reducible refine (HKN.out _).mono ?_); rintro e W10 ⟨rfl, hb10⟩; have HB10 := Lib.hid hb10; clear hb10)
    go_ret
    exact ⟨rfl, HB10.out⟩
  by_cases h2 : 15 < op
  · go_enter Try.func5, Try.ntmps5
    go_wp2_with (go_at_call 12; (with_reducible refine (HKN.out _).mono ?_); rintro e W10 ⟨rfl, hb10⟩; have HB10 := Lib.hid hb10; clear hb10)
    go_ret
    exact ⟨rfl, HB10.out⟩
  obtain ⟨mb, hmb⟩ : ∃ mb, mb = mayB ⟨op, 0, 1, 0, 0⟩ := ⟨_, rfl⟩
  have hmay : ∀ W : World, Calls Try.prog 19 #[.agg #[.int .i64 op, .int .i64 0, .int .i64 1, .int .i64 0, .int .u32 0]] W fun e w' => e = .returned (.bool mb) ∧ Below W.heap.size W w' := fun W => by rw [hmb]; exact mayr_lit W op 0 1 0 0 (by omega)
  clear hmb
  have HMY := Lib.hid hmay; clear hmay
  cases mb with
  | true =>
    go_enter Try.func5, Try.ntmps5
    go_upto_region 8 with (go_at_call 19; (with_reducible refine (HMY.out _).mono ?_); rintro e W1 ⟨rfl, hb1⟩; have hB := (Blk.lit w 50 #[.int .i64 op, .int .i64 0, .int .i64 1, .int .i64 0, .int .u32 0]).below hb1; have hz1 : w.heap.size < W1.heap.size := (by have := hb1.size; simp at this; omega); have HB1 := Lib.hid hb1; clear hb1; have k0 := hB.cell 0 (by simp); have k1 := hB.cell 1 (by simp); have k2 := hB.cell 2 (by simp); have k3 := hB.cell 3 (by simp); have k4 := hB.cell 4 (by simp); have l0 := hB.frozen 0; have l1 := hB.frozen 1; have l2 := hB.frozen 2; have l3 := hB.frozen 3; have l4 := hB.frozen 4; simp at k0 k1 k2 k3 k4; have HB := Lib.hid hB; clear hB)
    have HR := Lib.hid (PB.litruns (w := w) (W := W1) (z := W1.heap.size) rfl (((Below.refl _ _).alloc (Nat.le_refl _) _).trans (HB1.out.mono (by simp))) 0 [⟨1, 0, 0, 0, a⟩, ⟨1, 1, 0, 0, b⟩, ⟨op, 0, 1, 0, 0⟩, ⟨24, 0, 0, 0, 0⟩] #[.int .i64 1, .int .i64 0, .int .i64 0, .int .i64 0, .int .u32 (a : Int), .int .i64 1, .int .i64 1, .int .i64 0, .int .i64 0, .int .u32 (b : Int), .int .i64 op, .int .i64 0, .int .i64 1, .int .i64 0, .int .u32 0, .int .i64 24, .int .i64 0, .int .i64 0, .int .i64 0, .int .u32 0] 4 rfl rfl (by simp) (by intro i hi; simp only [List.mem_cons, List.not_mem_nil, or_false] at hi; rcases hi with rfl | rfl | rfl | rfl <;> (first | exact ha | exact hb | exact hm3 | simp)))
    go_wp2_with (go_at_call 4; (with_reducible refine HR.out.mono ?_); rintro e W9 ⟨rfl, hb9⟩; have HB9 := Lib.hid hb9; clear hb9)
    go_ret
    exact ⟨rfl, HB9.out⟩
  | false =>
    by_cases h12 : op = 12 ∨ op = 13
    · obtain ⟨m, hm⟩ : ∃ m, m = b % 32 := ⟨_, rfl⟩
      have hm2 : (b : Int) % 32 = (m : Int) := by omega
      have hm3 : m < 4294967296 := by omega
      clear hm
      rcases h12 with rfl | rfl
      · skip
        go_enter Try.func5, Try.ntmps5
        go_upto_region 8 with (go_at_call 19; (with_reducible refine (HMY.out _).mono ?_); rintro e W1 ⟨rfl, hb1⟩; have hB := (Blk.lit w 50 #[.int .i64 12, .int .i64 0, .int .i64 1, .int .i64 0, .int .u32 0]).below hb1; have hz1 : w.heap.size < W1.heap.size := (by have := hb1.size; simp at this; omega); have HB1 := Lib.hid hb1; clear hb1; have k0 := hB.cell 0 (by simp); have k1 := hB.cell 1 (by simp); have k2 := hB.cell 2 (by simp); have k3 := hB.cell 3 (by simp); have k4 := hB.cell 4 (by simp); have l0 := hB.frozen 0; have l1 := hB.frozen 1; have l2 := hB.frozen 2; have l3 := hB.frozen 3; have l4 := hB.frozen 4; simp at k0 k1 k2 k3 k4; have HB := Lib.hid hB; clear hB)
        have hB3 : Below w.heap.size w ((((((W1.setCell ⟨w.heap.size, 0, none⟩ (.int .i64 12)).setCell ⟨w.heap.size, 1, none⟩ (.int .i64 0)).setCell ⟨w.heap.size, 2, none⟩ (.int .i64 0)).setCell ⟨w.heap.size, 3, none⟩ (.int .i64 0)).setCell ⟨w.heap.size, 4, none⟩ (.int .u32 (b : Int))).setCell ⟨w.heap.size, 4, none⟩ (.int .u32 (m : Int))) := (Below.setCell (p := ⟨w.heap.size, 4, none⟩) (Below.setCell (p := ⟨w.heap.size, 4, none⟩) (Below.setCell (p := ⟨w.heap.size, 3, none⟩) (Below.setCell (p := ⟨w.heap.size, 2, none⟩) (Below.setCell (p := ⟨w.heap.size, 1, none⟩) (Below.setCell (p := ⟨w.heap.size, 0, none⟩) (((Below.refl _ _).alloc (Nat.le_refl _) _).trans (HB1.out.mono (by simp))) (Nat.le_refl _) _) (Nat.le_refl _) _) (Nat.le_refl _) _) (Nat.le_refl _) _) (Nat.le_refl _) _) (Nat.le_refl _) _)
        have hz3 : ((((((W1.setCell ⟨w.heap.size, 0, none⟩ (.int .i64 12)).setCell ⟨w.heap.size, 1, none⟩ (.int .i64 0)).setCell ⟨w.heap.size, 2, none⟩ (.int .i64 0)).setCell ⟨w.heap.size, 3, none⟩ (.int .i64 0)).setCell ⟨w.heap.size, 4, none⟩ (.int .u32 (b : Int))).setCell ⟨w.heap.size, 4, none⟩ (.int .u32 (m : Int))).heap.size = W1.heap.size := by simp [World.setCell]
        have q0 := (Blk.set (Blk.set (Blk.set (Blk.set (Blk.set (Blk.set HB.out 0 (.int .i64 12)) 1 (.int .i64 0)) 2 (.int .i64 0)) 3 (.int .i64 0)) 4 (.int .u32 (b : Int))) 4 (.int .u32 (m : Int))).cell 0 (by simp)
        have q1 := (Blk.set (Blk.set (Blk.set (Blk.set (Blk.set (Blk.set HB.out 0 (.int .i64 12)) 1 (.int .i64 0)) 2 (.int .i64 0)) 3 (.int .i64 0)) 4 (.int .u32 (b : Int))) 4 (.int .u32 (m : Int))).cell 1 (by simp)
        have q2 := (Blk.set (Blk.set (Blk.set (Blk.set (Blk.set (Blk.set HB.out 0 (.int .i64 12)) 1 (.int .i64 0)) 2 (.int .i64 0)) 3 (.int .i64 0)) 4 (.int .u32 (b : Int))) 4 (.int .u32 (m : Int))).cell 2 (by simp)
        have q3 := (Blk.set (Blk.set (Blk.set (Blk.set (Blk.set (Blk.set HB.out 0 (.int .i64 12)) 1 (.int .i64 0)) 2 (.int .i64 0)) 3 (.int .i64 0)) 4 (.int .u32 (b : Int))) 4 (.int .u32 (m : Int))).cell 3 (by simp)
        have q4 := (Blk.set (Blk.set (Blk.set (Blk.set (Blk.set (Blk.set HB.out 0 (.int .i64 12)) 1 (.int .i64 0)) 2 (.int .i64 0)) 3 (.int .i64 0)) 4 (.int .u32 (b : Int))) 4 (.int .u32 (m : Int))).cell 4 (by simp)
        simp at q0 q1 q2 q3 q4
        generalize hW3 : ((((((W1.setCell ⟨w.heap.size, 0, none⟩ (.int .i64 12)).setCell ⟨w.heap.size, 1, none⟩ (.int .i64 0)).setCell ⟨w.heap.size, 2, none⟩ (.int .i64 0)).setCell ⟨w.heap.size, 3, none⟩ (.int .i64 0)).setCell ⟨w.heap.size, 4, none⟩ (.int .u32 (b : Int))).setCell ⟨w.heap.size, 4, none⟩ (.int .u32 (m : Int))) = W3 at hB3 hz3 q0 q1 q2 q3 q4 ⊢
        clear hW3 k0 k1 k2 k3 k4 l0 l1 l2 l3 l4
        have HB3 := Lib.hid hB3; clear hB3
        have HZ3 := Lib.hid hz3; clear hz3 hz1
        have hz1 : w.heap.size < W3.heap.size := by rw [HZ3.out]; have := HB1.out.size; simp at this; omega
        have HR := Lib.hid (PB.litruns (w := w) (W := W3) (z := W3.heap.size) rfl HB3.out 0 [⟨1, 0, 0, 0, a⟩, ⟨1, 1, 0, 0, b⟩, ⟨12, 0, 0, 0, m⟩, ⟨24, 0, 0, 0, 0⟩] #[.int .i64 1, .int .i64 0, .int .i64 0, .int .i64 0, .int .u32 (a : Int), .int .i64 1, .int .i64 1, .int .i64 0, .int .i64 0, .int .u32 (b : Int), .int .i64 12, .int .i64 0, .int .i64 0, .int .i64 0, .int .u32 (m : Int), .int .i64 24, .int .i64 0, .int .i64 0, .int .i64 0, .int .u32 0] 4 rfl rfl (by simp) (by intro i hi; simp only [List.mem_cons, List.not_mem_nil, or_false] at hi; rcases hi with rfl | rfl | rfl | rfl <;> (first | exact ha | exact hb | exact hm3 | simp)))
        go_wp2_with (go_at_call 4; (with_reducible refine HR.out.mono ?_); rintro e W9 ⟨rfl, hb9⟩; have HB9 := Lib.hid hb9; clear hb9)
        go_ret
        exact ⟨rfl, HB9.out⟩
      · skip
        go_enter Try.func5, Try.ntmps5
        go_upto_region 8 with (go_at_call 19; (with_reducible refine (HMY.out _).mono ?_); rintro e W1 ⟨rfl, hb1⟩; have hB := (Blk.lit w 50 #[.int .i64 13, .int .i64 0, .int .i64 1, .int .i64 0, .int .u32 0]).below hb1; have hz1 : w.heap.size < W1.heap.size := (by have := hb1.size; simp at this; omega); have HB1 := Lib.hid hb1; clear hb1; have k0 := hB.cell 0 (by simp); have k1 := hB.cell 1 (by simp); have k2 := hB.cell 2 (by simp); have k3 := hB.cell 3 (by simp); have k4 := hB.cell 4 (by simp); have l0 := hB.frozen 0; have l1 := hB.frozen 1; have l2 := hB.frozen 2; have l3 := hB.frozen 3; have l4 := hB.frozen 4; simp at k0 k1 k2 k3 k4; have HB := Lib.hid hB; clear hB)
        have hB3 : Below w.heap.size w ((((((W1.setCell ⟨w.heap.size, 0, none⟩ (.int .i64 13)).setCell ⟨w.heap.size, 1, none⟩ (.int .i64 0)).setCell ⟨w.heap.size, 2, none⟩ (.int .i64 0)).setCell ⟨w.heap.size, 3, none⟩ (.int .i64 0)).setCell ⟨w.heap.size, 4, none⟩ (.int .u32 (b : Int))).setCell ⟨w.heap.size, 4, none⟩ (.int .u32 (m : Int))) := (Below.setCell (p := ⟨w.heap.size, 4, none⟩) (Below.setCell (p := ⟨w.heap.size, 4, none⟩) (Below.setCell (p := ⟨w.heap.size, 3, none⟩) (Below.setCell (p := ⟨w.heap.size, 2, none⟩) (Below.setCell (p := ⟨w.heap.size, 1, none⟩) (Below.setCell (p := ⟨w.heap.size, 0, none⟩) (((Below.refl _ _).alloc (Nat.le_refl _) _).trans (HB1.out.mono (by simp))) (Nat.le_refl _) _) (Nat.le_refl _) _) (Nat.le_refl _) _) (Nat.le_refl _) _) (Nat.le_refl _) _) (Nat.le_refl _) _)
        have hz3 : ((((((W1.setCell ⟨w.heap.size, 0, none⟩ (.int .i64 13)).setCell ⟨w.heap.size, 1, none⟩ (.int .i64 0)).setCell ⟨w.heap.size, 2, none⟩ (.int .i64 0)).setCell ⟨w.heap.size, 3, none⟩ (.int .i64 0)).setCell ⟨w.heap.size, 4, none⟩ (.int .u32 (b : Int))).setCell ⟨w.heap.size, 4, none⟩ (.int .u32 (m : Int))).heap.size = W1.heap.size := by simp [World.setCell]
        have q0 := (Blk.set (Blk.set (Blk.set (Blk.set (Blk.set (Blk.set HB.out 0 (.int .i64 13)) 1 (.int .i64 0)) 2 (.int .i64 0)) 3 (.int .i64 0)) 4 (.int .u32 (b : Int))) 4 (.int .u32 (m : Int))).cell 0 (by simp)
        have q1 := (Blk.set (Blk.set (Blk.set (Blk.set (Blk.set (Blk.set HB.out 0 (.int .i64 13)) 1 (.int .i64 0)) 2 (.int .i64 0)) 3 (.int .i64 0)) 4 (.int .u32 (b : Int))) 4 (.int .u32 (m : Int))).cell 1 (by simp)
        have q2 := (Blk.set (Blk.set (Blk.set (Blk.set (Blk.set (Blk.set HB.out 0 (.int .i64 13)) 1 (.int .i64 0)) 2 (.int .i64 0)) 3 (.int .i64 0)) 4 (.int .u32 (b : Int))) 4 (.int .u32 (m : Int))).cell 2 (by simp)
        have q3 := (Blk.set (Blk.set (Blk.set (Blk.set (Blk.set (Blk.set HB.out 0 (.int .i64 13)) 1 (.int .i64 0)) 2 (.int .i64 0)) 3 (.int .i64 0)) 4 (.int .u32 (b : Int))) 4 (.int .u32 (m : Int))).cell 3 (by simp)
        have q4 := (Blk.set (Blk.set (Blk.set (Blk.set (Blk.set (Blk.set HB.out 0 (.int .i64 13)) 1 (.int .i64 0)) 2 (.int .i64 0)) 3 (.int .i64 0)) 4 (.int .u32 (b : Int))) 4 (.int .u32 (m : Int))).cell 4 (by simp)
        simp at q0 q1 q2 q3 q4
        generalize hW3 : ((((((W1.setCell ⟨w.heap.size, 0, none⟩ (.int .i64 13)).setCell ⟨w.heap.size, 1, none⟩ (.int .i64 0)).setCell ⟨w.heap.size, 2, none⟩ (.int .i64 0)).setCell ⟨w.heap.size, 3, none⟩ (.int .i64 0)).setCell ⟨w.heap.size, 4, none⟩ (.int .u32 (b : Int))).setCell ⟨w.heap.size, 4, none⟩ (.int .u32 (m : Int))) = W3 at hB3 hz3 q0 q1 q2 q3 q4 ⊢
        clear hW3 k0 k1 k2 k3 k4 l0 l1 l2 l3 l4
        have HB3 := Lib.hid hB3; clear hB3
        have HZ3 := Lib.hid hz3; clear hz3 hz1
        have hz1 : w.heap.size < W3.heap.size := by rw [HZ3.out]; have := HB1.out.size; simp at this; omega
        have HR := Lib.hid (PB.litruns (w := w) (W := W3) (z := W3.heap.size) rfl HB3.out 0 [⟨1, 0, 0, 0, a⟩, ⟨1, 1, 0, 0, b⟩, ⟨13, 0, 0, 0, m⟩, ⟨24, 0, 0, 0, 0⟩] #[.int .i64 1, .int .i64 0, .int .i64 0, .int .i64 0, .int .u32 (a : Int), .int .i64 1, .int .i64 1, .int .i64 0, .int .i64 0, .int .u32 (b : Int), .int .i64 13, .int .i64 0, .int .i64 0, .int .i64 0, .int .u32 (m : Int), .int .i64 24, .int .i64 0, .int .i64 0, .int .i64 0, .int .u32 0] 4 rfl rfl (by simp) (by intro i hi; simp only [List.mem_cons, List.not_mem_nil, or_false] at hi; rcases hi with rfl | rfl | rfl | rfl <;> (first | exact ha | exact hb | exact hm3 | simp)))
        go_wp2_with (go_at_call 4; (with_reducible refine HR.out.mono ?_); rintro e W9 ⟨rfl, hb9⟩; have HB9 := Lib.hid hb9; clear hb9)
        go_ret
        exact ⟨rfl, HB9.out⟩
    · have e12 : (op == 12) = false := by simp; omega
      have e13 : (op == 13) = false := by simp; omega
      have H12 := Lib.hid h12; clear h12
      go_enter Try.func5, Try.ntmps5
      go_upto_region 8 with (go_at_call 19; (with_reducible refine (HMY.out _).mono ?_); rintro e W1 ⟨rfl, hb1⟩; have hB := (Blk.lit w 50 #[.int .i64 op, .int .i64 0, .int .i64 1, .int .i64 0, .int .u32 0]).below hb1; have hz1 : w.heap.size < W1.heap.size := (by have := hb1.size; simp at this; omega); have HB1 := Lib.hid hb1; clear hb1; have k0 := hB.cell 0 (by simp); have k1 := hB.cell 1 (by simp); have k2 := hB.cell 2 (by simp); have k3 := hB.cell 3 (by simp); have k4 := hB.cell 4 (by simp); have l0 := hB.frozen 0; have l1 := hB.frozen 1; have l2 := hB.frozen 2; have l3 := hB.frozen 3; have l4 := hB.frozen 4; simp at k0 k1 k2 k3 k4; have HB := Lib.hid hB; clear hB)
      have hB3 : Below w.heap.size w (((((W1.setCell ⟨w.heap.size, 0, none⟩ (.int .i64 op)).setCell ⟨w.heap.size, 1, none⟩ (.int .i64 0)).setCell ⟨w.heap.size, 2, none⟩ (.int .i64 0)).setCell ⟨w.heap.size, 3, none⟩ (.int .i64 0)).setCell ⟨w.heap.size, 4, none⟩ (.int .u32 (b : Int))) := (Below.setCell (p := ⟨w.heap.size, 4, none⟩) (Below.setCell (p := ⟨w.heap.size, 3, none⟩) (Below.setCell (p := ⟨w.heap.size, 2, none⟩) (Below.setCell (p := ⟨w.heap.size, 1, none⟩) (Below.setCell (p := ⟨w.heap.size, 0, none⟩) (((Below.refl _ _).alloc (Nat.le_refl _) _).trans (HB1.out.mono (by simp))) (Nat.le_refl _) _) (Nat.le_refl _) _) (Nat.le_refl _) _) (Nat.le_refl _) _) (Nat.le_refl _) _)
      have hz3 : (((((W1.setCell ⟨w.heap.size, 0, none⟩ (.int .i64 op)).setCell ⟨w.heap.size, 1, none⟩ (.int .i64 0)).setCell ⟨w.heap.size, 2, none⟩ (.int .i64 0)).setCell ⟨w.heap.size, 3, none⟩ (.int .i64 0)).setCell ⟨w.heap.size, 4, none⟩ (.int .u32 (b : Int))).heap.size = W1.heap.size := by simp [World.setCell]
      have q0 := (Blk.set (Blk.set (Blk.set (Blk.set (Blk.set HB.out 0 (.int .i64 op)) 1 (.int .i64 0)) 2 (.int .i64 0)) 3 (.int .i64 0)) 4 (.int .u32 (b : Int))).cell 0 (by simp)
      have q1 := (Blk.set (Blk.set (Blk.set (Blk.set (Blk.set HB.out 0 (.int .i64 op)) 1 (.int .i64 0)) 2 (.int .i64 0)) 3 (.int .i64 0)) 4 (.int .u32 (b : Int))).cell 1 (by simp)
      have q2 := (Blk.set (Blk.set (Blk.set (Blk.set (Blk.set HB.out 0 (.int .i64 op)) 1 (.int .i64 0)) 2 (.int .i64 0)) 3 (.int .i64 0)) 4 (.int .u32 (b : Int))).cell 2 (by simp)
      have q3 := (Blk.set (Blk.set (Blk.set (Blk.set (Blk.set HB.out 0 (.int .i64 op)) 1 (.int .i64 0)) 2 (.int .i64 0)) 3 (.int .i64 0)) 4 (.int .u32 (b : Int))).cell 3 (by simp)
      have q4 := (Blk.set (Blk.set (Blk.set (Blk.set (Blk.set HB.out 0 (.int .i64 op)) 1 (.int .i64 0)) 2 (.int .i64 0)) 3 (.int .i64 0)) 4 (.int .u32 (b : Int))).cell 4 (by simp)
      simp at q0 q1 q2 q3 q4
      generalize hW3 : (((((W1.setCell ⟨w.heap.size, 0, none⟩ (.int .i64 op)).setCell ⟨w.heap.size, 1, none⟩ (.int .i64 0)).setCell ⟨w.heap.size, 2, none⟩ (.int .i64 0)).setCell ⟨w.heap.size, 3, none⟩ (.int .i64 0)).setCell ⟨w.heap.size, 4, none⟩ (.int .u32 (b : Int))) = W3 at hB3 hz3 q0 q1 q2 q3 q4 ⊢
      clear hW3 k0 k1 k2 k3 k4 l0 l1 l2 l3 l4
      have HB3 := Lib.hid hB3; clear hB3
      have HZ3 := Lib.hid hz3; clear hz3 hz1
      have hz1 : w.heap.size < W3.heap.size := by rw [HZ3.out]; have := HB1.out.size; simp at this; omega
      have HR := Lib.hid (PB.litruns (w := w) (W := W3) (z := W3.heap.size) rfl HB3.out 0 [⟨1, 0, 0, 0, a⟩, ⟨1, 1, 0, 0, b⟩, ⟨op, 0, 0, 0, b⟩, ⟨24, 0, 0, 0, 0⟩] #[.int .i64 1, .int .i64 0, .int .i64 0, .int .i64 0, .int .u32 (a : Int), .int .i64 1, .int .i64 1, .int .i64 0, .int .i64 0, .int .u32 (b : Int), .int .i64 op, .int .i64 0, .int .i64 0, .int .i64 0, .int .u32 (b : Int), .int .i64 24, .int .i64 0, .int .i64 0, .int .i64 0, .int .u32 0] 4 rfl rfl (by simp) (by intro i hi; simp only [List.mem_cons, List.not_mem_nil, or_false] at hi; rcases hi with rfl | rfl | rfl | rfl <;> (first | exact ha | exact hb | exact hm3 | simp)))
      go_wp2_with (go_at_call 4; (with_reducible refine HR.out.mono ?_); rintro e W9 ⟨rfl, hb9⟩; have HB9 := Lib.hid hb9; clear hb9)
      go_ret
      exact ⟨rfl, HB9.out⟩
end
open Go.ChangeShapes Go.WideShapes Go.ChangeAt Go.RowKit Go.Deep
set_option maxRecDepth 100000

set_option maxRecDepth 100000 in
theorem vmTwo_lifted (os : Os) (started : os.Started) (H : Type) (enc : TypeId × Value → H) :
    ReturnsInHanded {} Try.checked os 5 .any (Rows.vmTwoSpec.pre6 enc Try.prog Try.f5 Rows.vmTwoRow.domain false) (Rows.vmTwoSpec.post enc Try.prog Try.f5 false true false false) := by
  refine returnsInHanded_of_change (C := Try.checked) own08 started (by kernel_rfl) Try.func5
    (ChangeSpec.witness6 (enc := enc) (C := Try.checked) false ⟨#[], #[.int .u32 0, .int .u32 0, .int .i64 0], []⟩ 8 (by kernel_rfl) (by kernel_rfl) (by kernel_rfl) (by kernel_rfl)) ?_
  intro W base args ds gs before hval0 hW hcnd _
  have hval : ∀ (j : Nat) t v, Try.f5.params[j]? = some t → args[j]? = some v → Value.okWide Try.prog W .any base t v := hval0
  have hW' := hW
  obtain ⟨p, q, hA0, hV, rfl, hfz, hnd⟩ := hW
  have hA : DataW.TrodAll enc Try.prog W 0 (fun _ => true) true Try.f5.params.toList args.toList ds p := hA0
  rw [Try.params5] at hA hval
  obtain ⟨v0, vs0, d0, ds0, p0, q0, hargs, rfl, rfl, h0, r0⟩ := trodAll_cons hA
  obtain ⟨v1, vs1, d1, ds1, p1, q1, rfl, rfl, rfl, h1, r1⟩ := trodAll_cons r0
  obtain ⟨v2, vs2, d2, ds2, p2, q2, rfl, rfl, rfl, h2, r2⟩ := trodAll_cons r1
  obtain ⟨rfl, rfl, rfl⟩ := trodAll_nil r2
  obtain rfl : args = #[v0, v1, v2] := by cases args; simp_all
  obtain ⟨rfl, rfl⟩ := trodVars_none hV
  have k0h := h0
  have lt0 : ∀ x ∈ p0, x.block < W.heap.size := by obtain ⟨m, hm⟩ := k0h; exact DataW.trod_lt m _ _ _ hm
  have k1h := h1
  have lt1 : ∀ x ∈ p1, x.block < W.heap.size := by obtain ⟨m, hm⟩ := k1h; exact DataW.trod_lt m _ _ _ hm
  have k2h := h2
  have lt2 : ∀ x ∈ p2, x.block < W.heap.size := by obtain ⟨m, hm⟩ := k2h; exact DataW.trod_lt m _ _ _ hm
  obtain ⟨z0, rfl, rfl, rfl, w0⟩ := open_int Try.underlying30 (hval 0 _ v0 rfl rfl) h0
  have w0 := wf_u32 w0
  obtain ⟨a0, rfl⟩ := Int.eq_ofNat_of_zero_le w0.1
  obtain ⟨z1, rfl, rfl, rfl, w1⟩ := open_int Try.underlying30 (hval 1 _ v1 rfl rfl) h1
  have w1 := wf_u32 w1
  obtain ⟨a1, rfl⟩ := Int.eq_ofNat_of_zero_le w1.1
  obtain ⟨a2, rfl, rfl, rfl, w2⟩ := open_int Try.underlying3 (hval 2 _ v2 rfl rfl) h2
  clear hA0 hval0
  refine (vmtwo_ok W a0 a1 a2 (by omega) (by omega)).mono fun e W' ⟨he, bel⟩ => ?_
  subst he
  exact ⟨_, rfl, _, _, _, [], _, [], hW', trodAll_mk1 (shut_bool Try.underlying4 _), (trodAll_cons_mk (Below.trod laidOut08 (by kernel_rfl) (of_decide_eq_true (by kernel_rfl)) k0h bel lt0) (trodAll_cons_mk (Below.trod laidOut08 (by kernel_rfl) (of_decide_eq_true (by kernel_rfl)) k1h bel lt1) (trodAll_cons_mk (Below.trod laidOut08 (by kernel_rfl) (of_decide_eq_true (by kernel_rfl)) k2h bel lt2) trodAll_mk0))), rfl, bel.frame _, fun h => by cases h⟩

theorem vmTwo_over : Rows.vmTwoRow.holds Try.pinned (OpenSpec.ofChange Rows.vmTwoSpec) :=
  OpenClaim.holds_of_wide 5 Try.f5 rfl rfl rfl rfl rfl rfl rfl ⟨rfl, rfl, rfl, rfl, rfl⟩ rfl rfl rfl rfl rfl (by kernel_rfl) Try.func5 (by kernel_rfl)
    (of_decide_eq_true (by kernel_rfl)) (by unfold Func.isWrapper; first | (rw [if_pos (by decide +kernel)]; kernel_rfl) | (rw [if_neg (by decide +kernel)]; exact ⟨rfl, rfl⟩))
    (fun os started H enc _ => vmTwo_lifted os started H enc)

theorem vmTwo_holds : Rows.VmTwoSaid := vmTwo_over
end Go.Proofs.Ytpnkbpjhbmacaaa
