/- Layer 6: where an extension ends. -/
import Derived.Test.YtjlddhnjbjhmkaaLe0
import Derived.BigQuiet
set_option linter.unusedVariables false
set_option linter.unusedSimpArgs false
namespace Go.Proofs.Ytjlddhnjbjhmkaa
open Go.RowKit

set_option maxRecDepth 100000 in
set_option maxHeartbeats 4000000 in
theorem checkends_ok (w : World) (i : InsZ) (hi : i.imm < 4294967296) (off op : Int) (ho : -9223372036854775808 ≤ op ∧ op ≤ 9223372036854775807) : Calls Try.prog 9 #[.agg #[.int .i64 i.op, .int .i64 i.dst, .int .i64 i.src, .int .i64 i.off, .int .u32 (i.imm : Int)], .int .i64 off, .int .i64 op] w fun e w' => e = .returned (.bool true) ∧ Below w.heap.size w w' := by
  have HIM := Lib.hid hi; clear hi
  have ho1 := ho.1
  have ho2 := ho.2
  go_enter Try.func9, Try.ntmps9
  go_upto_region 1 with fail
  obtain ⟨W1, hW1⟩ : ∃ W1, W1 = w.alloc (.cells #[.int .i64 i.op, .int .i64 i.dst, .int .i64 i.src, .int .i64 i.off, .int .u32 (i.imm : Int)] 45) := ⟨_, rfl⟩
  have hb1 : Below w.heap.size w W1 := by rw [hW1]; exact (Below.refl _ _).alloc (Nat.le_refl _) _
  have hi1 : Blk W1 w.heap.size 45 5 (fun j => [.int .i64 i.op, .int .i64 i.dst, .int .i64 i.src, .int .i64 i.off, .int .u32 (i.imm : Int)].getD j undef) := by rw [hW1]; exact Blk.litL w 45 [.int .i64 i.op, .int .i64 i.dst, .int .i64 i.src, .int .i64 i.off, .int .u32 (i.imm : Int)]
  rw [← hW1]
  have HB1 := Lib.hid hb1; have HI1 := Lib.hid hi1
  clear hW1 hb1 hi1
  go_upto_region 2 with fail
  have HP2 := Lib.hid (pb_new W1 W1 (Below.refl _ _) 16)
  obtain ⟨g, hg⟩ : ∃ g, g = W1.heap.size := ⟨_, rfl⟩
  obtain ⟨W2, hW2⟩ : ∃ W2, W2 = W1.alloc (.cells #[.int .i64 16, .slice none 0 0] 24) := ⟨_, rfl⟩
  rw [← hW2] at HP2 ⊢
  rw [show PB W1 W1.heap.size 16 (.slice none 0 0) [] W2 = PB W1 g 16 (.slice none 0 0) [] W2 from by rw [hg]] at HP2
  rw [← hg]
  clear hW2 hg
  go_wp2
  go_loopw [8] (fun x wr => ∃ (n : Nat) (A : Option Addr) (c : Nat), n ≤ 10 ∧ x = .int .i64 (n : Int) ∧ PB W1 g 16 (.slice A n c) (movL n) wr) (fun x _ => 10 - (intOf x).toNat)
  case atStart => exact ⟨0, none, 0, by omega, rfl, HP2.out⟩
  case round =>
    obtain ⟨n, VA, vc, hn, rfl, hp⟩ := hrel
    have HP := Lib.hid hp; clear hp
    by_cases hlt : n < 10
    · have hlt' : (n : Int) < 10 := by omega
      have c1 := HP.out.c1
      have HPY := Lib.hid (HP.out.below ((Below.refl _ _).alloc (Nat.le_refl _) (.cells #[.int .i64 1, .int .i64 (n : Int), .int .i64 0, .int .i64 0, .int .u32 3] 45)))
      have HROW := Lib.hid HPY.out.row
      rw [movL_len] at HROW
      have HLN : Hid ((movL n).length = n) := Lib.hid (movL_len n)
      have HSY := Lib.hid (ins_lit wr ([⟨1, (n : Int), 0, 0, 3⟩] : List InsZ) #[.int .i64 1, .int .i64 (n : Int), .int .i64 0, .int .i64 0, .int .u32 3] 1 rfl rfl (by omega))
      have hys : ∀ j, j ∈ ([⟨1, (n : Int), 0, 0, 3⟩] : List InsZ) → j.imm < 4294967296 := by intro j hj; simp only [List.mem_cons, List.not_mem_nil, or_false] at hj; subst hj; show (3 : Nat) < 4294967296; omega
      go_wp2_with (refine wpList_append_sl _ rfl (.tmp 16) (.tmp 19) 22 rfl W1.heap.size 45 _ 5 40 Try.underlying22 info_ins rfl (by omega) (by omega) (.slice VA n vc) n ((movL n).flatMap insZC) rfl HROW.out (some ⟨wr.heap.size, 0, none⟩) 1 1 (([⟨1, (n : Int), 0, 0, 3⟩] : List InsZ).flatMap insZC) rfl HSY.out (insZ_one _) (by omega) (by have := HPY.out.b.size; exact this) ?_; intro v6 w6 hown6 hg6 hat6; obtain ⟨VB, vb, rfl⟩ := own_shape hown6; obtain ⟨gc, gf⟩ := HPY.out.grown hg6; have HP6 := Lib.hid (HPY.out.more [⟨1, (n : Int), 0, 0, 3⟩] rfl rfl hys (by rw [HLN.out]; exact hown6) hg6 hat6); clear hown6 hg6 hat6)
      go_roundw
      case rel => exact ⟨n + 1, VB, vb, by omega, by go_num, by rw [← movL_succ]; exact HP6.out⟩
      case measure => simp [intOf]; omega
    · obtain rfl : n = 10 := by omega
      have ht := tmod4 op
      rcases ht with e1 | e1 | e1 | e1 | e1 | e1 | e1
      · skip
        have c1 := HP.out.c1
        go_upto_region 9 with fail
        clear c1
        obtain ⟨Wo, hWo⟩ : ∃ Wo, Wo = wr.alloc (.cells #[.int .i64 19, .int .i64 20, .int .i64 21, .int .i64 22] 43) := ⟨_, rfl⟩
        have hbo : Below wr.heap.size wr Wo := by rw [hWo]; exact (Below.refl _ _).alloc (Nat.le_refl _) _
        have hzo : Wo.heap.size = wr.heap.size + 1 := by rw [hWo]; simp
        rw [← hWo]
        obtain ⟨Wj, hWj⟩ : ∃ Wj, Wj = Wo.alloc (.cells #[.int .i64 20, .int .i64 0, .int .i64 0, .int .i64 off, .int .u32 0] 45) := ⟨_, rfl⟩
        have hbj : Below Wo.heap.size Wo Wj := by rw [hWj]; exact (Below.refl _ _).alloc (Nat.le_refl _) _
        have hjb0 : Blk Wj (wr.heap.size + 1) 45 5 (fun j => [.int .i64 20, .int .i64 0, .int .i64 0, .int .i64 off, .int .u32 0].getD j undef) := by rw [hWj, ← hzo]; exact Blk.litL Wo 45 [.int .i64 20, .int .i64 0, .int .i64 0, .int .i64 off, .int .u32 0]
        rw [← hWj]
        obtain ⟨jb, hjb⟩ : ∃ jb, jb = wr.heap.size + 1 := ⟨_, rfl⟩
        rw [← hjb] at hjb0 ⊢
        have HJ := Lib.hid hjb0
        have HPJ := Lib.hid ((HP.out.below hbo).below hbj)
        clear hWo hbo hzo hWj hbj hjb0 hjb
        have q0 : Wj.cell? ⟨jb, 0, none⟩ = some (.int .i64 20) := HJ.out.cell 0 (by omega)
        have q1 : Wj.cell? ⟨jb, 1, none⟩ = some (.int .i64 0) := HJ.out.cell 1 (by omega)
        have q2 : Wj.cell? ⟨jb, 2, none⟩ = some (.int .i64 0) := HJ.out.cell 2 (by omega)
        have q3 : Wj.cell? ⟨jb, 3, none⟩ = some (.int .i64 off) := HJ.out.cell 3 (by omega)
        have q4 : Wj.cell? ⟨jb, 4, none⟩ = some (.int .u32 0) := HJ.out.cell 4 (by omega)
        have HIJ := Lib.hid (HI1.out.below HPJ.out.b)
        have i0 : Wj.cell? ⟨w.heap.size, 0, none⟩ = some (.int .i64 i.op) := HIJ.out.cell 0 (by omega)
        have i1 : Wj.cell? ⟨w.heap.size, 1, none⟩ = some (.int .i64 i.dst) := HIJ.out.cell 1 (by omega)
        have i2 : Wj.cell? ⟨w.heap.size, 2, none⟩ = some (.int .i64 i.src) := HIJ.out.cell 2 (by omega)
        have i3 : Wj.cell? ⟨w.heap.size, 3, none⟩ = some (.int .i64 i.off) := HIJ.out.cell 3 (by omega)
        have i4 : Wj.cell? ⟨w.heap.size, 4, none⟩ = some (.int .u32 (i.imm : Int)) := HIJ.out.cell 4 (by omega)
        have c1 := HPJ.out.c1
        have HPY := Lib.hid (HPJ.out.below ((Below.refl _ _).alloc (Nat.le_refl _) (.cells #[.int .i64 20, .int .i64 0, .int .i64 0, .int .i64 off, .int .u32 0, .int .i64 3, .int .i64 0, .int .i64 0, .int .i64 0, .int .u32 1, .int .i64 i.op, .int .i64 i.dst, .int .i64 i.src, .int .i64 i.off, .int .u32 (i.imm : Int)] 45)))
        have HROW := Lib.hid HPY.out.row
        rw [movL_len] at HROW
        have HLN : Hid ((movL 10).length = 10) := Lib.hid (movL_len 10)
        have HSY := Lib.hid (ins_lit Wj ([⟨20, 0, 0, off, 0⟩, ⟨3, 0, 0, 0, 1⟩, i] : List InsZ) #[.int .i64 20, .int .i64 0, .int .i64 0, .int .i64 off, .int .u32 0, .int .i64 3, .int .i64 0, .int .i64 0, .int .i64 0, .int .u32 1, .int .i64 i.op, .int .i64 i.dst, .int .i64 i.src, .int .i64 i.off, .int .u32 (i.imm : Int)] 3 rfl rfl (by omega))
        have hys : ∀ j, j ∈ ([⟨20, 0, 0, off, 0⟩, ⟨3, 0, 0, 0, 1⟩, i] : List InsZ) → j.imm < 4294967296 := by intro j hj; simp only [List.mem_cons, List.not_mem_nil, or_false] at hj; rcases hj with rfl | rfl | rfl <;> first | exact HIM.out | (show (0 : Nat) < 4294967296; omega) | (show (1 : Nat) < 4294967296; omega)
        go_upto_region 10 with (refine wpList_append_sl _ rfl (.tmp 36) (.tmp 40) 22 rfl W1.heap.size 45 _ 5 40 Try.underlying22 info_ins rfl (by omega) (by omega) (.slice VA 10 vc) 10 ((movL 10).flatMap insZC) rfl HROW.out (some ⟨Wj.heap.size, 0, none⟩) 3 3 (([⟨20, 0, 0, off, 0⟩, ⟨3, 0, 0, 0, 1⟩, i] : List InsZ).flatMap insZC) rfl HSY.out (insZ_one _) (by omega) (by have := HPY.out.b.size; exact this) ?_; intro v6 w6 hown6 hg6 hat6; obtain ⟨VB, vb, rfl⟩ := own_shape hown6; obtain ⟨gc, gf⟩ := HPY.out.grown hg6; have HP6 := Lib.hid (HPY.out.more [⟨20, 0, 0, off, 0⟩, ⟨3, 0, 0, 0, 1⟩, i] rfl rfl hys (by rw [HLN.out]; exact hown6) hg6 hat6); clear hown6 hg6 hat6)
        clear q0 q1 q2 q3 q4 i0 i1 i2 i3 i4 c1 gc gf
        obtain ⟨w7, hw7⟩ : ∃ w7, w7 = w6.setCell ⟨g, 1, none⟩ (.slice VB 13 vb) := ⟨_, rfl⟩
        have HP7 : Hid (PB W1 g 16 (.slice VB 13 vb) (movL 10 ++ [⟨20, 0, 0, off, 0⟩, ⟨3, 0, 0, 0, 1⟩, i]) w7) := by rw [hw7]; exact HP6
        show Code.wp _ _ _ _ (w6.setCell ⟨g, 1, none⟩ (.slice VB 13 vb))
        rw [← hw7]
        clear hw7 HP6
        have d0 := HP7.out.c0
        have d1 := HP7.out.c1
        have HKL := Lib.hid (HP7.out.known (by rw [List.length_append, movL_len]; rfl))
        go_wp2_with (go_at_call 3; (with_reducible refine (HKL.out).mono ?_); rintro e W9 ⟨rfl, hb9⟩; have HB9 := Lib.hid hb9; clear hb9)
        go_ret
        exact ⟨rfl, HB1.out.trans (HB9.out.mono HB1.out.size)⟩
      · skip
        have c1 := HP.out.c1
        go_upto_region 9 with fail
        clear c1
        obtain ⟨Wo, hWo⟩ : ∃ Wo, Wo = wr.alloc (.cells #[.int .i64 19, .int .i64 20, .int .i64 21, .int .i64 22] 43) := ⟨_, rfl⟩
        have hbo : Below wr.heap.size wr Wo := by rw [hWo]; exact (Below.refl _ _).alloc (Nat.le_refl _) _
        have hzo : Wo.heap.size = wr.heap.size + 1 := by rw [hWo]; simp
        rw [← hWo]
        obtain ⟨Wj, hWj⟩ : ∃ Wj, Wj = Wo.alloc (.cells #[.int .i64 21, .int .i64 0, .int .i64 0, .int .i64 off, .int .u32 0] 45) := ⟨_, rfl⟩
        have hbj : Below Wo.heap.size Wo Wj := by rw [hWj]; exact (Below.refl _ _).alloc (Nat.le_refl _) _
        have hjb0 : Blk Wj (wr.heap.size + 1) 45 5 (fun j => [.int .i64 21, .int .i64 0, .int .i64 0, .int .i64 off, .int .u32 0].getD j undef) := by rw [hWj, ← hzo]; exact Blk.litL Wo 45 [.int .i64 21, .int .i64 0, .int .i64 0, .int .i64 off, .int .u32 0]
        rw [← hWj]
        obtain ⟨jb, hjb⟩ : ∃ jb, jb = wr.heap.size + 1 := ⟨_, rfl⟩
        rw [← hjb] at hjb0 ⊢
        have HJ := Lib.hid hjb0
        have HPJ := Lib.hid ((HP.out.below hbo).below hbj)
        clear hWo hbo hzo hWj hbj hjb0 hjb
        have q0 : Wj.cell? ⟨jb, 0, none⟩ = some (.int .i64 21) := HJ.out.cell 0 (by omega)
        have q1 : Wj.cell? ⟨jb, 1, none⟩ = some (.int .i64 0) := HJ.out.cell 1 (by omega)
        have q2 : Wj.cell? ⟨jb, 2, none⟩ = some (.int .i64 0) := HJ.out.cell 2 (by omega)
        have q3 : Wj.cell? ⟨jb, 3, none⟩ = some (.int .i64 off) := HJ.out.cell 3 (by omega)
        have q4 : Wj.cell? ⟨jb, 4, none⟩ = some (.int .u32 0) := HJ.out.cell 4 (by omega)
        have HIJ := Lib.hid (HI1.out.below HPJ.out.b)
        have i0 : Wj.cell? ⟨w.heap.size, 0, none⟩ = some (.int .i64 i.op) := HIJ.out.cell 0 (by omega)
        have i1 : Wj.cell? ⟨w.heap.size, 1, none⟩ = some (.int .i64 i.dst) := HIJ.out.cell 1 (by omega)
        have i2 : Wj.cell? ⟨w.heap.size, 2, none⟩ = some (.int .i64 i.src) := HIJ.out.cell 2 (by omega)
        have i3 : Wj.cell? ⟨w.heap.size, 3, none⟩ = some (.int .i64 i.off) := HIJ.out.cell 3 (by omega)
        have i4 : Wj.cell? ⟨w.heap.size, 4, none⟩ = some (.int .u32 (i.imm : Int)) := HIJ.out.cell 4 (by omega)
        have c1 := HPJ.out.c1
        have HPY := Lib.hid (HPJ.out.below ((Below.refl _ _).alloc (Nat.le_refl _) (.cells #[.int .i64 21, .int .i64 0, .int .i64 0, .int .i64 off, .int .u32 0, .int .i64 3, .int .i64 0, .int .i64 0, .int .i64 0, .int .u32 1, .int .i64 i.op, .int .i64 i.dst, .int .i64 i.src, .int .i64 i.off, .int .u32 (i.imm : Int)] 45)))
        have HROW := Lib.hid HPY.out.row
        rw [movL_len] at HROW
        have HLN : Hid ((movL 10).length = 10) := Lib.hid (movL_len 10)
        have HSY := Lib.hid (ins_lit Wj ([⟨21, 0, 0, off, 0⟩, ⟨3, 0, 0, 0, 1⟩, i] : List InsZ) #[.int .i64 21, .int .i64 0, .int .i64 0, .int .i64 off, .int .u32 0, .int .i64 3, .int .i64 0, .int .i64 0, .int .i64 0, .int .u32 1, .int .i64 i.op, .int .i64 i.dst, .int .i64 i.src, .int .i64 i.off, .int .u32 (i.imm : Int)] 3 rfl rfl (by omega))
        have hys : ∀ j, j ∈ ([⟨21, 0, 0, off, 0⟩, ⟨3, 0, 0, 0, 1⟩, i] : List InsZ) → j.imm < 4294967296 := by intro j hj; simp only [List.mem_cons, List.not_mem_nil, or_false] at hj; rcases hj with rfl | rfl | rfl <;> first | exact HIM.out | (show (0 : Nat) < 4294967296; omega) | (show (1 : Nat) < 4294967296; omega)
        go_upto_region 10 with (refine wpList_append_sl _ rfl (.tmp 36) (.tmp 40) 22 rfl W1.heap.size 45 _ 5 40 Try.underlying22 info_ins rfl (by omega) (by omega) (.slice VA 10 vc) 10 ((movL 10).flatMap insZC) rfl HROW.out (some ⟨Wj.heap.size, 0, none⟩) 3 3 (([⟨21, 0, 0, off, 0⟩, ⟨3, 0, 0, 0, 1⟩, i] : List InsZ).flatMap insZC) rfl HSY.out (insZ_one _) (by omega) (by have := HPY.out.b.size; exact this) ?_; intro v6 w6 hown6 hg6 hat6; obtain ⟨VB, vb, rfl⟩ := own_shape hown6; obtain ⟨gc, gf⟩ := HPY.out.grown hg6; have HP6 := Lib.hid (HPY.out.more [⟨21, 0, 0, off, 0⟩, ⟨3, 0, 0, 0, 1⟩, i] rfl rfl hys (by rw [HLN.out]; exact hown6) hg6 hat6); clear hown6 hg6 hat6)
        clear q0 q1 q2 q3 q4 i0 i1 i2 i3 i4 c1 gc gf
        obtain ⟨w7, hw7⟩ : ∃ w7, w7 = w6.setCell ⟨g, 1, none⟩ (.slice VB 13 vb) := ⟨_, rfl⟩
        have HP7 : Hid (PB W1 g 16 (.slice VB 13 vb) (movL 10 ++ [⟨21, 0, 0, off, 0⟩, ⟨3, 0, 0, 0, 1⟩, i]) w7) := by rw [hw7]; exact HP6
        show Code.wp _ _ _ _ (w6.setCell ⟨g, 1, none⟩ (.slice VB 13 vb))
        rw [← hw7]
        clear hw7 HP6
        have d0 := HP7.out.c0
        have d1 := HP7.out.c1
        have HKL := Lib.hid (HP7.out.known (by rw [List.length_append, movL_len]; rfl))
        go_wp2_with (go_at_call 3; (with_reducible refine (HKL.out).mono ?_); rintro e W9 ⟨rfl, hb9⟩; have HB9 := Lib.hid hb9; clear hb9)
        go_ret
        exact ⟨rfl, HB1.out.trans (HB9.out.mono HB1.out.size)⟩
      · skip
        have c1 := HP.out.c1
        go_upto_region 9 with fail
        clear c1
        obtain ⟨Wo, hWo⟩ : ∃ Wo, Wo = wr.alloc (.cells #[.int .i64 19, .int .i64 20, .int .i64 21, .int .i64 22] 43) := ⟨_, rfl⟩
        have hbo : Below wr.heap.size wr Wo := by rw [hWo]; exact (Below.refl _ _).alloc (Nat.le_refl _) _
        have hzo : Wo.heap.size = wr.heap.size + 1 := by rw [hWo]; simp
        rw [← hWo]
        obtain ⟨Wj, hWj⟩ : ∃ Wj, Wj = Wo.alloc (.cells #[.int .i64 22, .int .i64 0, .int .i64 1, .int .i64 off, .int .u32 0] 45) := ⟨_, rfl⟩
        have hbj : Below Wo.heap.size Wo Wj := by rw [hWj]; exact (Below.refl _ _).alloc (Nat.le_refl _) _
        have hjb0 : Blk Wj (wr.heap.size + 1) 45 5 (fun j => [.int .i64 22, .int .i64 0, .int .i64 1, .int .i64 off, .int .u32 0].getD j undef) := by rw [hWj, ← hzo]; exact Blk.litL Wo 45 [.int .i64 22, .int .i64 0, .int .i64 1, .int .i64 off, .int .u32 0]
        rw [← hWj]
        obtain ⟨jb, hjb⟩ : ∃ jb, jb = wr.heap.size + 1 := ⟨_, rfl⟩
        rw [← hjb] at hjb0 ⊢
        have HJ := Lib.hid hjb0
        have HPJ := Lib.hid ((HP.out.below hbo).below hbj)
        clear hWo hbo hzo hWj hbj hjb0 hjb
        have q0 : Wj.cell? ⟨jb, 0, none⟩ = some (.int .i64 22) := HJ.out.cell 0 (by omega)
        have q1 : Wj.cell? ⟨jb, 1, none⟩ = some (.int .i64 0) := HJ.out.cell 1 (by omega)
        have q2 : Wj.cell? ⟨jb, 2, none⟩ = some (.int .i64 1) := HJ.out.cell 2 (by omega)
        have q3 : Wj.cell? ⟨jb, 3, none⟩ = some (.int .i64 off) := HJ.out.cell 3 (by omega)
        have q4 : Wj.cell? ⟨jb, 4, none⟩ = some (.int .u32 0) := HJ.out.cell 4 (by omega)
        have HIJ := Lib.hid (HI1.out.below HPJ.out.b)
        have i0 : Wj.cell? ⟨w.heap.size, 0, none⟩ = some (.int .i64 i.op) := HIJ.out.cell 0 (by omega)
        have i1 : Wj.cell? ⟨w.heap.size, 1, none⟩ = some (.int .i64 i.dst) := HIJ.out.cell 1 (by omega)
        have i2 : Wj.cell? ⟨w.heap.size, 2, none⟩ = some (.int .i64 i.src) := HIJ.out.cell 2 (by omega)
        have i3 : Wj.cell? ⟨w.heap.size, 3, none⟩ = some (.int .i64 i.off) := HIJ.out.cell 3 (by omega)
        have i4 : Wj.cell? ⟨w.heap.size, 4, none⟩ = some (.int .u32 (i.imm : Int)) := HIJ.out.cell 4 (by omega)
        have c1 := HPJ.out.c1
        have HPY := Lib.hid (HPJ.out.below ((Below.refl _ _).alloc (Nat.le_refl _) (.cells #[.int .i64 22, .int .i64 0, .int .i64 1, .int .i64 off, .int .u32 0, .int .i64 3, .int .i64 0, .int .i64 0, .int .i64 0, .int .u32 1, .int .i64 i.op, .int .i64 i.dst, .int .i64 i.src, .int .i64 i.off, .int .u32 (i.imm : Int)] 45)))
        have HROW := Lib.hid HPY.out.row
        rw [movL_len] at HROW
        have HLN : Hid ((movL 10).length = 10) := Lib.hid (movL_len 10)
        have HSY := Lib.hid (ins_lit Wj ([⟨22, 0, 1, off, 0⟩, ⟨3, 0, 0, 0, 1⟩, i] : List InsZ) #[.int .i64 22, .int .i64 0, .int .i64 1, .int .i64 off, .int .u32 0, .int .i64 3, .int .i64 0, .int .i64 0, .int .i64 0, .int .u32 1, .int .i64 i.op, .int .i64 i.dst, .int .i64 i.src, .int .i64 i.off, .int .u32 (i.imm : Int)] 3 rfl rfl (by omega))
        have hys : ∀ j, j ∈ ([⟨22, 0, 1, off, 0⟩, ⟨3, 0, 0, 0, 1⟩, i] : List InsZ) → j.imm < 4294967296 := by intro j hj; simp only [List.mem_cons, List.not_mem_nil, or_false] at hj; rcases hj with rfl | rfl | rfl <;> first | exact HIM.out | (show (0 : Nat) < 4294967296; omega) | (show (1 : Nat) < 4294967296; omega)
        go_upto_region 10 with (refine wpList_append_sl _ rfl (.tmp 36) (.tmp 40) 22 rfl W1.heap.size 45 _ 5 40 Try.underlying22 info_ins rfl (by omega) (by omega) (.slice VA 10 vc) 10 ((movL 10).flatMap insZC) rfl HROW.out (some ⟨Wj.heap.size, 0, none⟩) 3 3 (([⟨22, 0, 1, off, 0⟩, ⟨3, 0, 0, 0, 1⟩, i] : List InsZ).flatMap insZC) rfl HSY.out (insZ_one _) (by omega) (by have := HPY.out.b.size; exact this) ?_; intro v6 w6 hown6 hg6 hat6; obtain ⟨VB, vb, rfl⟩ := own_shape hown6; obtain ⟨gc, gf⟩ := HPY.out.grown hg6; have HP6 := Lib.hid (HPY.out.more [⟨22, 0, 1, off, 0⟩, ⟨3, 0, 0, 0, 1⟩, i] rfl rfl hys (by rw [HLN.out]; exact hown6) hg6 hat6); clear hown6 hg6 hat6)
        clear q0 q1 q2 q3 q4 i0 i1 i2 i3 i4 c1 gc gf
        obtain ⟨w7, hw7⟩ : ∃ w7, w7 = w6.setCell ⟨g, 1, none⟩ (.slice VB 13 vb) := ⟨_, rfl⟩
        have HP7 : Hid (PB W1 g 16 (.slice VB 13 vb) (movL 10 ++ [⟨22, 0, 1, off, 0⟩, ⟨3, 0, 0, 0, 1⟩, i]) w7) := by rw [hw7]; exact HP6
        show Code.wp _ _ _ _ (w6.setCell ⟨g, 1, none⟩ (.slice VB 13 vb))
        rw [← hw7]
        clear hw7 HP6
        have d0 := HP7.out.c0
        have d1 := HP7.out.c1
        have HKL := Lib.hid (HP7.out.known (by rw [List.length_append, movL_len]; rfl))
        go_wp2_with (go_at_call 3; (with_reducible refine (HKL.out).mono ?_); rintro e W9 ⟨rfl, hb9⟩; have HB9 := Lib.hid hb9; clear hb9)
        go_ret
        exact ⟨rfl, HB1.out.trans (HB9.out.mono HB1.out.size)⟩
      · skip
        have c1 := HP.out.c1
        go_upto_region 9 with fail
        clear c1
        obtain ⟨Wo, hWo⟩ : ∃ Wo, Wo = wr.alloc (.cells #[.int .i64 19, .int .i64 20, .int .i64 21, .int .i64 22] 43) := ⟨_, rfl⟩
        have hbo : Below wr.heap.size wr Wo := by rw [hWo]; exact (Below.refl _ _).alloc (Nat.le_refl _) _
        have hzo : Wo.heap.size = wr.heap.size + 1 := by rw [hWo]; simp
        rw [← hWo]
        obtain ⟨Wj, hWj⟩ : ∃ Wj, Wj = Wo.alloc (.cells #[.int .i64 19, .int .i64 0, .int .i64 0, .int .i64 off, .int .u32 0] 45) := ⟨_, rfl⟩
        have hbj : Below Wo.heap.size Wo Wj := by rw [hWj]; exact (Below.refl _ _).alloc (Nat.le_refl _) _
        have hjb0 : Blk Wj (wr.heap.size + 1) 45 5 (fun j => [.int .i64 19, .int .i64 0, .int .i64 0, .int .i64 off, .int .u32 0].getD j undef) := by rw [hWj, ← hzo]; exact Blk.litL Wo 45 [.int .i64 19, .int .i64 0, .int .i64 0, .int .i64 off, .int .u32 0]
        rw [← hWj]
        obtain ⟨jb, hjb⟩ : ∃ jb, jb = wr.heap.size + 1 := ⟨_, rfl⟩
        rw [← hjb] at hjb0 ⊢
        have HJ := Lib.hid hjb0
        have HPJ := Lib.hid ((HP.out.below hbo).below hbj)
        clear hWo hbo hzo hWj hbj hjb0 hjb
        have q0 : Wj.cell? ⟨jb, 0, none⟩ = some (.int .i64 19) := HJ.out.cell 0 (by omega)
        have q1 : Wj.cell? ⟨jb, 1, none⟩ = some (.int .i64 0) := HJ.out.cell 1 (by omega)
        have q2 : Wj.cell? ⟨jb, 2, none⟩ = some (.int .i64 0) := HJ.out.cell 2 (by omega)
        have q3 : Wj.cell? ⟨jb, 3, none⟩ = some (.int .i64 off) := HJ.out.cell 3 (by omega)
        have q4 : Wj.cell? ⟨jb, 4, none⟩ = some (.int .u32 0) := HJ.out.cell 4 (by omega)
        have HIJ := Lib.hid (HI1.out.below HPJ.out.b)
        have i0 : Wj.cell? ⟨w.heap.size, 0, none⟩ = some (.int .i64 i.op) := HIJ.out.cell 0 (by omega)
        have i1 : Wj.cell? ⟨w.heap.size, 1, none⟩ = some (.int .i64 i.dst) := HIJ.out.cell 1 (by omega)
        have i2 : Wj.cell? ⟨w.heap.size, 2, none⟩ = some (.int .i64 i.src) := HIJ.out.cell 2 (by omega)
        have i3 : Wj.cell? ⟨w.heap.size, 3, none⟩ = some (.int .i64 i.off) := HIJ.out.cell 3 (by omega)
        have i4 : Wj.cell? ⟨w.heap.size, 4, none⟩ = some (.int .u32 (i.imm : Int)) := HIJ.out.cell 4 (by omega)
        have c1 := HPJ.out.c1
        have HPY := Lib.hid (HPJ.out.below ((Below.refl _ _).alloc (Nat.le_refl _) (.cells #[.int .i64 19, .int .i64 0, .int .i64 0, .int .i64 off, .int .u32 0, .int .i64 3, .int .i64 0, .int .i64 0, .int .i64 0, .int .u32 1, .int .i64 i.op, .int .i64 i.dst, .int .i64 i.src, .int .i64 i.off, .int .u32 (i.imm : Int)] 45)))
        have HROW := Lib.hid HPY.out.row
        rw [movL_len] at HROW
        have HLN : Hid ((movL 10).length = 10) := Lib.hid (movL_len 10)
        have HSY := Lib.hid (ins_lit Wj ([⟨19, 0, 0, off, 0⟩, ⟨3, 0, 0, 0, 1⟩, i] : List InsZ) #[.int .i64 19, .int .i64 0, .int .i64 0, .int .i64 off, .int .u32 0, .int .i64 3, .int .i64 0, .int .i64 0, .int .i64 0, .int .u32 1, .int .i64 i.op, .int .i64 i.dst, .int .i64 i.src, .int .i64 i.off, .int .u32 (i.imm : Int)] 3 rfl rfl (by omega))
        have hys : ∀ j, j ∈ ([⟨19, 0, 0, off, 0⟩, ⟨3, 0, 0, 0, 1⟩, i] : List InsZ) → j.imm < 4294967296 := by intro j hj; simp only [List.mem_cons, List.not_mem_nil, or_false] at hj; rcases hj with rfl | rfl | rfl <;> first | exact HIM.out | (show (0 : Nat) < 4294967296; omega) | (show (1 : Nat) < 4294967296; omega)
        go_upto_region 10 with (refine wpList_append_sl _ rfl (.tmp 36) (.tmp 40) 22 rfl W1.heap.size 45 _ 5 40 Try.underlying22 info_ins rfl (by omega) (by omega) (.slice VA 10 vc) 10 ((movL 10).flatMap insZC) rfl HROW.out (some ⟨Wj.heap.size, 0, none⟩) 3 3 (([⟨19, 0, 0, off, 0⟩, ⟨3, 0, 0, 0, 1⟩, i] : List InsZ).flatMap insZC) rfl HSY.out (insZ_one _) (by omega) (by have := HPY.out.b.size; exact this) ?_; intro v6 w6 hown6 hg6 hat6; obtain ⟨VB, vb, rfl⟩ := own_shape hown6; obtain ⟨gc, gf⟩ := HPY.out.grown hg6; have HP6 := Lib.hid (HPY.out.more [⟨19, 0, 0, off, 0⟩, ⟨3, 0, 0, 0, 1⟩, i] rfl rfl hys (by rw [HLN.out]; exact hown6) hg6 hat6); clear hown6 hg6 hat6)
        clear q0 q1 q2 q3 q4 i0 i1 i2 i3 i4 c1 gc gf
        obtain ⟨w7, hw7⟩ : ∃ w7, w7 = w6.setCell ⟨g, 1, none⟩ (.slice VB 13 vb) := ⟨_, rfl⟩
        have HP7 : Hid (PB W1 g 16 (.slice VB 13 vb) (movL 10 ++ [⟨19, 0, 0, off, 0⟩, ⟨3, 0, 0, 0, 1⟩, i]) w7) := by rw [hw7]; exact HP6
        show Code.wp _ _ _ _ (w6.setCell ⟨g, 1, none⟩ (.slice VB 13 vb))
        rw [← hw7]
        clear hw7 HP6
        have d0 := HP7.out.c0
        have d1 := HP7.out.c1
        have HKL := Lib.hid (HP7.out.known (by rw [List.length_append, movL_len]; rfl))
        go_wp2_with (go_at_call 3; (with_reducible refine (HKL.out).mono ?_); rintro e W9 ⟨rfl, hb9⟩; have HB9 := Lib.hid hb9; clear hb9)
        go_ret
        exact ⟨rfl, HB1.out.trans (HB9.out.mono HB1.out.size)⟩
      · skip
        have c1 := HP.out.c1
        go_upto_region 9 with fail
        clear c1
        obtain ⟨Wo, hWo⟩ : ∃ Wo, Wo = wr.alloc (.cells #[.int .i64 19, .int .i64 20, .int .i64 21, .int .i64 22] 43) := ⟨_, rfl⟩
        have hbo : Below wr.heap.size wr Wo := by rw [hWo]; exact (Below.refl _ _).alloc (Nat.le_refl _) _
        have hzo : Wo.heap.size = wr.heap.size + 1 := by rw [hWo]; simp
        rw [← hWo]
        obtain ⟨Wj, hWj⟩ : ∃ Wj, Wj = Wo.alloc (.cells #[.int .i64 20, .int .i64 0, .int .i64 0, .int .i64 off, .int .u32 0] 45) := ⟨_, rfl⟩
        have hbj : Below Wo.heap.size Wo Wj := by rw [hWj]; exact (Below.refl _ _).alloc (Nat.le_refl _) _
        have hjb0 : Blk Wj (wr.heap.size + 1) 45 5 (fun j => [.int .i64 20, .int .i64 0, .int .i64 0, .int .i64 off, .int .u32 0].getD j undef) := by rw [hWj, ← hzo]; exact Blk.litL Wo 45 [.int .i64 20, .int .i64 0, .int .i64 0, .int .i64 off, .int .u32 0]
        rw [← hWj]
        obtain ⟨jb, hjb⟩ : ∃ jb, jb = wr.heap.size + 1 := ⟨_, rfl⟩
        rw [← hjb] at hjb0 ⊢
        have HJ := Lib.hid hjb0
        have HPJ := Lib.hid ((HP.out.below hbo).below hbj)
        clear hWo hbo hzo hWj hbj hjb0 hjb
        have q0 : Wj.cell? ⟨jb, 0, none⟩ = some (.int .i64 20) := HJ.out.cell 0 (by omega)
        have q1 : Wj.cell? ⟨jb, 1, none⟩ = some (.int .i64 0) := HJ.out.cell 1 (by omega)
        have q2 : Wj.cell? ⟨jb, 2, none⟩ = some (.int .i64 0) := HJ.out.cell 2 (by omega)
        have q3 : Wj.cell? ⟨jb, 3, none⟩ = some (.int .i64 off) := HJ.out.cell 3 (by omega)
        have q4 : Wj.cell? ⟨jb, 4, none⟩ = some (.int .u32 0) := HJ.out.cell 4 (by omega)
        have HIJ := Lib.hid (HI1.out.below HPJ.out.b)
        have i0 : Wj.cell? ⟨w.heap.size, 0, none⟩ = some (.int .i64 i.op) := HIJ.out.cell 0 (by omega)
        have i1 : Wj.cell? ⟨w.heap.size, 1, none⟩ = some (.int .i64 i.dst) := HIJ.out.cell 1 (by omega)
        have i2 : Wj.cell? ⟨w.heap.size, 2, none⟩ = some (.int .i64 i.src) := HIJ.out.cell 2 (by omega)
        have i3 : Wj.cell? ⟨w.heap.size, 3, none⟩ = some (.int .i64 i.off) := HIJ.out.cell 3 (by omega)
        have i4 : Wj.cell? ⟨w.heap.size, 4, none⟩ = some (.int .u32 (i.imm : Int)) := HIJ.out.cell 4 (by omega)
        have c1 := HPJ.out.c1
        have HPY := Lib.hid (HPJ.out.below ((Below.refl _ _).alloc (Nat.le_refl _) (.cells #[.int .i64 20, .int .i64 0, .int .i64 0, .int .i64 off, .int .u32 0, .int .i64 3, .int .i64 0, .int .i64 0, .int .i64 0, .int .u32 1, .int .i64 i.op, .int .i64 i.dst, .int .i64 i.src, .int .i64 i.off, .int .u32 (i.imm : Int)] 45)))
        have HROW := Lib.hid HPY.out.row
        rw [movL_len] at HROW
        have HLN : Hid ((movL 10).length = 10) := Lib.hid (movL_len 10)
        have HSY := Lib.hid (ins_lit Wj ([⟨20, 0, 0, off, 0⟩, ⟨3, 0, 0, 0, 1⟩, i] : List InsZ) #[.int .i64 20, .int .i64 0, .int .i64 0, .int .i64 off, .int .u32 0, .int .i64 3, .int .i64 0, .int .i64 0, .int .i64 0, .int .u32 1, .int .i64 i.op, .int .i64 i.dst, .int .i64 i.src, .int .i64 i.off, .int .u32 (i.imm : Int)] 3 rfl rfl (by omega))
        have hys : ∀ j, j ∈ ([⟨20, 0, 0, off, 0⟩, ⟨3, 0, 0, 0, 1⟩, i] : List InsZ) → j.imm < 4294967296 := by intro j hj; simp only [List.mem_cons, List.not_mem_nil, or_false] at hj; rcases hj with rfl | rfl | rfl <;> first | exact HIM.out | (show (0 : Nat) < 4294967296; omega) | (show (1 : Nat) < 4294967296; omega)
        go_upto_region 10 with (refine wpList_append_sl _ rfl (.tmp 36) (.tmp 40) 22 rfl W1.heap.size 45 _ 5 40 Try.underlying22 info_ins rfl (by omega) (by omega) (.slice VA 10 vc) 10 ((movL 10).flatMap insZC) rfl HROW.out (some ⟨Wj.heap.size, 0, none⟩) 3 3 (([⟨20, 0, 0, off, 0⟩, ⟨3, 0, 0, 0, 1⟩, i] : List InsZ).flatMap insZC) rfl HSY.out (insZ_one _) (by omega) (by have := HPY.out.b.size; exact this) ?_; intro v6 w6 hown6 hg6 hat6; obtain ⟨VB, vb, rfl⟩ := own_shape hown6; obtain ⟨gc, gf⟩ := HPY.out.grown hg6; have HP6 := Lib.hid (HPY.out.more [⟨20, 0, 0, off, 0⟩, ⟨3, 0, 0, 0, 1⟩, i] rfl rfl hys (by rw [HLN.out]; exact hown6) hg6 hat6); clear hown6 hg6 hat6)
        clear q0 q1 q2 q3 q4 i0 i1 i2 i3 i4 c1 gc gf
        obtain ⟨w7, hw7⟩ : ∃ w7, w7 = w6.setCell ⟨g, 1, none⟩ (.slice VB 13 vb) := ⟨_, rfl⟩
        have HP7 : Hid (PB W1 g 16 (.slice VB 13 vb) (movL 10 ++ [⟨20, 0, 0, off, 0⟩, ⟨3, 0, 0, 0, 1⟩, i]) w7) := by rw [hw7]; exact HP6
        show Code.wp _ _ _ _ (w6.setCell ⟨g, 1, none⟩ (.slice VB 13 vb))
        rw [← hw7]
        clear hw7 HP6
        have d0 := HP7.out.c0
        have d1 := HP7.out.c1
        have HKL := Lib.hid (HP7.out.known (by rw [List.length_append, movL_len]; rfl))
        go_wp2_with (go_at_call 3; (with_reducible refine (HKL.out).mono ?_); rintro e W9 ⟨rfl, hb9⟩; have HB9 := Lib.hid hb9; clear hb9)
        go_ret
        exact ⟨rfl, HB1.out.trans (HB9.out.mono HB1.out.size)⟩
      · skip
        have c1 := HP.out.c1
        go_upto_region 9 with fail
        clear c1
        obtain ⟨Wo, hWo⟩ : ∃ Wo, Wo = wr.alloc (.cells #[.int .i64 19, .int .i64 20, .int .i64 21, .int .i64 22] 43) := ⟨_, rfl⟩
        have hbo : Below wr.heap.size wr Wo := by rw [hWo]; exact (Below.refl _ _).alloc (Nat.le_refl _) _
        have hzo : Wo.heap.size = wr.heap.size + 1 := by rw [hWo]; simp
        rw [← hWo]
        obtain ⟨Wj, hWj⟩ : ∃ Wj, Wj = Wo.alloc (.cells #[.int .i64 21, .int .i64 0, .int .i64 0, .int .i64 off, .int .u32 0] 45) := ⟨_, rfl⟩
        have hbj : Below Wo.heap.size Wo Wj := by rw [hWj]; exact (Below.refl _ _).alloc (Nat.le_refl _) _
        have hjb0 : Blk Wj (wr.heap.size + 1) 45 5 (fun j => [.int .i64 21, .int .i64 0, .int .i64 0, .int .i64 off, .int .u32 0].getD j undef) := by rw [hWj, ← hzo]; exact Blk.litL Wo 45 [.int .i64 21, .int .i64 0, .int .i64 0, .int .i64 off, .int .u32 0]
        rw [← hWj]
        obtain ⟨jb, hjb⟩ : ∃ jb, jb = wr.heap.size + 1 := ⟨_, rfl⟩
        rw [← hjb] at hjb0 ⊢
        have HJ := Lib.hid hjb0
        have HPJ := Lib.hid ((HP.out.below hbo).below hbj)
        clear hWo hbo hzo hWj hbj hjb0 hjb
        have q0 : Wj.cell? ⟨jb, 0, none⟩ = some (.int .i64 21) := HJ.out.cell 0 (by omega)
        have q1 : Wj.cell? ⟨jb, 1, none⟩ = some (.int .i64 0) := HJ.out.cell 1 (by omega)
        have q2 : Wj.cell? ⟨jb, 2, none⟩ = some (.int .i64 0) := HJ.out.cell 2 (by omega)
        have q3 : Wj.cell? ⟨jb, 3, none⟩ = some (.int .i64 off) := HJ.out.cell 3 (by omega)
        have q4 : Wj.cell? ⟨jb, 4, none⟩ = some (.int .u32 0) := HJ.out.cell 4 (by omega)
        have HIJ := Lib.hid (HI1.out.below HPJ.out.b)
        have i0 : Wj.cell? ⟨w.heap.size, 0, none⟩ = some (.int .i64 i.op) := HIJ.out.cell 0 (by omega)
        have i1 : Wj.cell? ⟨w.heap.size, 1, none⟩ = some (.int .i64 i.dst) := HIJ.out.cell 1 (by omega)
        have i2 : Wj.cell? ⟨w.heap.size, 2, none⟩ = some (.int .i64 i.src) := HIJ.out.cell 2 (by omega)
        have i3 : Wj.cell? ⟨w.heap.size, 3, none⟩ = some (.int .i64 i.off) := HIJ.out.cell 3 (by omega)
        have i4 : Wj.cell? ⟨w.heap.size, 4, none⟩ = some (.int .u32 (i.imm : Int)) := HIJ.out.cell 4 (by omega)
        have c1 := HPJ.out.c1
        have HPY := Lib.hid (HPJ.out.below ((Below.refl _ _).alloc (Nat.le_refl _) (.cells #[.int .i64 21, .int .i64 0, .int .i64 0, .int .i64 off, .int .u32 0, .int .i64 3, .int .i64 0, .int .i64 0, .int .i64 0, .int .u32 1, .int .i64 i.op, .int .i64 i.dst, .int .i64 i.src, .int .i64 i.off, .int .u32 (i.imm : Int)] 45)))
        have HROW := Lib.hid HPY.out.row
        rw [movL_len] at HROW
        have HLN : Hid ((movL 10).length = 10) := Lib.hid (movL_len 10)
        have HSY := Lib.hid (ins_lit Wj ([⟨21, 0, 0, off, 0⟩, ⟨3, 0, 0, 0, 1⟩, i] : List InsZ) #[.int .i64 21, .int .i64 0, .int .i64 0, .int .i64 off, .int .u32 0, .int .i64 3, .int .i64 0, .int .i64 0, .int .i64 0, .int .u32 1, .int .i64 i.op, .int .i64 i.dst, .int .i64 i.src, .int .i64 i.off, .int .u32 (i.imm : Int)] 3 rfl rfl (by omega))
        have hys : ∀ j, j ∈ ([⟨21, 0, 0, off, 0⟩, ⟨3, 0, 0, 0, 1⟩, i] : List InsZ) → j.imm < 4294967296 := by intro j hj; simp only [List.mem_cons, List.not_mem_nil, or_false] at hj; rcases hj with rfl | rfl | rfl <;> first | exact HIM.out | (show (0 : Nat) < 4294967296; omega) | (show (1 : Nat) < 4294967296; omega)
        go_upto_region 10 with (refine wpList_append_sl _ rfl (.tmp 36) (.tmp 40) 22 rfl W1.heap.size 45 _ 5 40 Try.underlying22 info_ins rfl (by omega) (by omega) (.slice VA 10 vc) 10 ((movL 10).flatMap insZC) rfl HROW.out (some ⟨Wj.heap.size, 0, none⟩) 3 3 (([⟨21, 0, 0, off, 0⟩, ⟨3, 0, 0, 0, 1⟩, i] : List InsZ).flatMap insZC) rfl HSY.out (insZ_one _) (by omega) (by have := HPY.out.b.size; exact this) ?_; intro v6 w6 hown6 hg6 hat6; obtain ⟨VB, vb, rfl⟩ := own_shape hown6; obtain ⟨gc, gf⟩ := HPY.out.grown hg6; have HP6 := Lib.hid (HPY.out.more [⟨21, 0, 0, off, 0⟩, ⟨3, 0, 0, 0, 1⟩, i] rfl rfl hys (by rw [HLN.out]; exact hown6) hg6 hat6); clear hown6 hg6 hat6)
        clear q0 q1 q2 q3 q4 i0 i1 i2 i3 i4 c1 gc gf
        obtain ⟨w7, hw7⟩ : ∃ w7, w7 = w6.setCell ⟨g, 1, none⟩ (.slice VB 13 vb) := ⟨_, rfl⟩
        have HP7 : Hid (PB W1 g 16 (.slice VB 13 vb) (movL 10 ++ [⟨21, 0, 0, off, 0⟩, ⟨3, 0, 0, 0, 1⟩, i]) w7) := by rw [hw7]; exact HP6
        show Code.wp _ _ _ _ (w6.setCell ⟨g, 1, none⟩ (.slice VB 13 vb))
        rw [← hw7]
        clear hw7 HP6
        have d0 := HP7.out.c0
        have d1 := HP7.out.c1
        have HKL := Lib.hid (HP7.out.known (by rw [List.length_append, movL_len]; rfl))
        go_wp2_with (go_at_call 3; (with_reducible refine (HKL.out).mono ?_); rintro e W9 ⟨rfl, hb9⟩; have HB9 := Lib.hid hb9; clear hb9)
        go_ret
        exact ⟨rfl, HB1.out.trans (HB9.out.mono HB1.out.size)⟩
      · skip
        have c1 := HP.out.c1
        go_upto_region 9 with fail
        clear c1
        obtain ⟨Wo, hWo⟩ : ∃ Wo, Wo = wr.alloc (.cells #[.int .i64 19, .int .i64 20, .int .i64 21, .int .i64 22] 43) := ⟨_, rfl⟩
        have hbo : Below wr.heap.size wr Wo := by rw [hWo]; exact (Below.refl _ _).alloc (Nat.le_refl _) _
        have hzo : Wo.heap.size = wr.heap.size + 1 := by rw [hWo]; simp
        rw [← hWo]
        obtain ⟨Wj, hWj⟩ : ∃ Wj, Wj = Wo.alloc (.cells #[.int .i64 22, .int .i64 0, .int .i64 1, .int .i64 off, .int .u32 0] 45) := ⟨_, rfl⟩
        have hbj : Below Wo.heap.size Wo Wj := by rw [hWj]; exact (Below.refl _ _).alloc (Nat.le_refl _) _
        have hjb0 : Blk Wj (wr.heap.size + 1) 45 5 (fun j => [.int .i64 22, .int .i64 0, .int .i64 1, .int .i64 off, .int .u32 0].getD j undef) := by rw [hWj, ← hzo]; exact Blk.litL Wo 45 [.int .i64 22, .int .i64 0, .int .i64 1, .int .i64 off, .int .u32 0]
        rw [← hWj]
        obtain ⟨jb, hjb⟩ : ∃ jb, jb = wr.heap.size + 1 := ⟨_, rfl⟩
        rw [← hjb] at hjb0 ⊢
        have HJ := Lib.hid hjb0
        have HPJ := Lib.hid ((HP.out.below hbo).below hbj)
        clear hWo hbo hzo hWj hbj hjb0 hjb
        have q0 : Wj.cell? ⟨jb, 0, none⟩ = some (.int .i64 22) := HJ.out.cell 0 (by omega)
        have q1 : Wj.cell? ⟨jb, 1, none⟩ = some (.int .i64 0) := HJ.out.cell 1 (by omega)
        have q2 : Wj.cell? ⟨jb, 2, none⟩ = some (.int .i64 1) := HJ.out.cell 2 (by omega)
        have q3 : Wj.cell? ⟨jb, 3, none⟩ = some (.int .i64 off) := HJ.out.cell 3 (by omega)
        have q4 : Wj.cell? ⟨jb, 4, none⟩ = some (.int .u32 0) := HJ.out.cell 4 (by omega)
        have HIJ := Lib.hid (HI1.out.below HPJ.out.b)
        have i0 : Wj.cell? ⟨w.heap.size, 0, none⟩ = some (.int .i64 i.op) := HIJ.out.cell 0 (by omega)
        have i1 : Wj.cell? ⟨w.heap.size, 1, none⟩ = some (.int .i64 i.dst) := HIJ.out.cell 1 (by omega)
        have i2 : Wj.cell? ⟨w.heap.size, 2, none⟩ = some (.int .i64 i.src) := HIJ.out.cell 2 (by omega)
        have i3 : Wj.cell? ⟨w.heap.size, 3, none⟩ = some (.int .i64 i.off) := HIJ.out.cell 3 (by omega)
        have i4 : Wj.cell? ⟨w.heap.size, 4, none⟩ = some (.int .u32 (i.imm : Int)) := HIJ.out.cell 4 (by omega)
        have c1 := HPJ.out.c1
        have HPY := Lib.hid (HPJ.out.below ((Below.refl _ _).alloc (Nat.le_refl _) (.cells #[.int .i64 22, .int .i64 0, .int .i64 1, .int .i64 off, .int .u32 0, .int .i64 3, .int .i64 0, .int .i64 0, .int .i64 0, .int .u32 1, .int .i64 i.op, .int .i64 i.dst, .int .i64 i.src, .int .i64 i.off, .int .u32 (i.imm : Int)] 45)))
        have HROW := Lib.hid HPY.out.row
        rw [movL_len] at HROW
        have HLN : Hid ((movL 10).length = 10) := Lib.hid (movL_len 10)
        have HSY := Lib.hid (ins_lit Wj ([⟨22, 0, 1, off, 0⟩, ⟨3, 0, 0, 0, 1⟩, i] : List InsZ) #[.int .i64 22, .int .i64 0, .int .i64 1, .int .i64 off, .int .u32 0, .int .i64 3, .int .i64 0, .int .i64 0, .int .i64 0, .int .u32 1, .int .i64 i.op, .int .i64 i.dst, .int .i64 i.src, .int .i64 i.off, .int .u32 (i.imm : Int)] 3 rfl rfl (by omega))
        have hys : ∀ j, j ∈ ([⟨22, 0, 1, off, 0⟩, ⟨3, 0, 0, 0, 1⟩, i] : List InsZ) → j.imm < 4294967296 := by intro j hj; simp only [List.mem_cons, List.not_mem_nil, or_false] at hj; rcases hj with rfl | rfl | rfl <;> first | exact HIM.out | (show (0 : Nat) < 4294967296; omega) | (show (1 : Nat) < 4294967296; omega)
        go_upto_region 10 with (refine wpList_append_sl _ rfl (.tmp 36) (.tmp 40) 22 rfl W1.heap.size 45 _ 5 40 Try.underlying22 info_ins rfl (by omega) (by omega) (.slice VA 10 vc) 10 ((movL 10).flatMap insZC) rfl HROW.out (some ⟨Wj.heap.size, 0, none⟩) 3 3 (([⟨22, 0, 1, off, 0⟩, ⟨3, 0, 0, 0, 1⟩, i] : List InsZ).flatMap insZC) rfl HSY.out (insZ_one _) (by omega) (by have := HPY.out.b.size; exact this) ?_; intro v6 w6 hown6 hg6 hat6; obtain ⟨VB, vb, rfl⟩ := own_shape hown6; obtain ⟨gc, gf⟩ := HPY.out.grown hg6; have HP6 := Lib.hid (HPY.out.more [⟨22, 0, 1, off, 0⟩, ⟨3, 0, 0, 0, 1⟩, i] rfl rfl hys (by rw [HLN.out]; exact hown6) hg6 hat6); clear hown6 hg6 hat6)
        clear q0 q1 q2 q3 q4 i0 i1 i2 i3 i4 c1 gc gf
        obtain ⟨w7, hw7⟩ : ∃ w7, w7 = w6.setCell ⟨g, 1, none⟩ (.slice VB 13 vb) := ⟨_, rfl⟩
        have HP7 : Hid (PB W1 g 16 (.slice VB 13 vb) (movL 10 ++ [⟨22, 0, 1, off, 0⟩, ⟨3, 0, 0, 0, 1⟩, i]) w7) := by rw [hw7]; exact HP6
        show Code.wp _ _ _ _ (w6.setCell ⟨g, 1, none⟩ (.slice VB 13 vb))
        rw [← hw7]
        clear hw7 HP6
        have d0 := HP7.out.c0
        have d1 := HP7.out.c1
        have HKL := Lib.hid (HP7.out.known (by rw [List.length_append, movL_len]; rfl))
        go_wp2_with (go_at_call 3; (with_reducible refine (HKL.out).mono ?_); rintro e W9 ⟨rfl, hb9⟩; have HB9 := Lib.hid hb9; clear hb9)
        go_ret
        exact ⟨rfl, HB1.out.trans (HB9.out.mono HB1.out.size)⟩
end Go.Proofs.Ytjlddhnjbjhmkaa
