/- Layer 6, the document's answer: what is known by two ways. -/
import Derived.Test.YtjlddhnjbjhmkaaRb5
import Derived.BigQuiet
import Derived.IntWalk
set_option linter.unusedVariables false
set_option linter.unusedSimpArgs false
namespace Go.Proofs.Ytjlddhnjbjhmkaa
open Go.RowKit

def jn0 (a b : Kn) (m : Nat) : Kn := ⟨true, fun n => if n < m then jnR (a.r n) (b.r n) else rg0⟩
theorem jn0_succ (a b : Kn) (m : Nat) : (⟨(jn0 a b m).come, upd (jn0 a b m).r m (jnR (a.r m) (b.r m))⟩ : Kn) = jn0 a b (m + 1) := by
  unfold jn0
  congr 1
  funext j
  unfold upd
  by_cases e : j = m
  · subst e; rw [if_pos rfl, if_pos (by omega)]
  · rw [if_neg e]
    show (if j < m then jnR (a.r j) (b.r j) else rg0) = _
    by_cases e2 : j < m
    · rw [if_pos e2, if_pos (by omega)]
    · rw [if_neg e2, if_neg (by omega)]
theorem jn0_same (a b : Kn) (m : Nat) (h : ¬ ((a.r m).s && (b.r m).s) = true) : jn0 a b m = jn0 a b (m + 1) := by
  rw [← jn0_succ]
  have e : jnR (a.r m) (b.r m) = rg0 := by unfold jnR; exact if_neg h
  rw [e]
  unfold jn0 upd
  congr 1
  funext j
  by_cases e2 : j = m
  · subst e2; rw [if_pos rfl, if_neg (by omega)]
  · rw [if_neg e2]
theorem jn0_zero (a b : Kn) : jn0 a b 0 = ⟨true, fun _ => rg0⟩ := by
  unfold jn0
  congr 1
theorem jn0_ten (a b : Kn) (h1 : a.come = true) (h2 : b.come = true) : knL (jn0 a b 10) = knL (joinK a b) := by
  unfold knL
  apply rowF_ext
  intro j hj
  have e : ∀ n, n < 10 → (jn0 a b 10).r n = (joinK a b).r n := fun n hn => by
    unfold jn0 joinK
    rw [h1, h2]
    simp only [Bool.true_eq_false, if_false]
    rw [if_pos hn]; rfl
  have ec : (jn0 a b 10).come = (joinK a b).come := by unfold jn0 joinK; rw [h1, h2]; rfl
  unfold knF
  rw [ec, e ((j - 1) / 3) (by omega)]
structure Rj (w : World) (a b : Kn) (W : World) : Prop where
  bw : Below w.heap.size w W
  aa : Blk W w.heap.size 42 31 (knF a)
  bb : Blk W (w.heap.size + 1) 42 31 (knF b)
  rr : Blk W (w.heap.size + 2) 42 31 (knF kn0)
theorem Rj.more {w : World} {a b : Kn} {W W1 : World} (h : Rj w a b W) (hb : Below W.heap.size W W1) : Rj w a b W1 := ⟨h.bw.trans (hb.mono h.bw.size), h.aa.below hb, h.bb.below hb, h.rr.below hb⟩
theorem Rj.set {w : World} {a b : Kn} {W : World} (h : Rj w a b W) (g : Nat) (hg : w.heap.size + 3 ≤ g) (o : Nat) (vs : List Value) : Rj w a b (W.setCells g o vs) := by
  have hk : Kp (fun x => x = g) W (W.setCells g o vs) := Kp.setCells (M := fun x => x = g) (.inl rfl) _ _ _ (Kp.refl _ _)
  exact ⟨(Kp.setCells (w := w) (b := g) (.inr (by omega)) _ _ _ (Kp.of_below h.bw No)).below, h.aa.keep hk (by omega), h.bb.keep hk (by omega), h.rr.keep hk (by omega)⟩
theorem rj_world (w : World) (a b : Kn) (L M : Array Value) (hL : L = (knL a).toArray) (hM : M = (knL b).toArray) : ∃ W1, Hid (W1 = (((w.alloc (.cells L 42)).alloc (.cells M 42)).alloc (.cells (knL kn0).toArray 42))) ∧ Hid (Rj w a b W1) ∧ Hid (W1.heap.size = w.heap.size + 3) := by
  obtain ⟨Wa, hWa⟩ : ∃ Wa, Wa = w.alloc (.cells L 42) := ⟨_, rfl⟩
  have h1 : Blk Wa w.heap.size 42 31 (knF a) := by rw [hWa, hL]; exact Blk.boxed w 42 31 (knF a)
  have ba : Below w.heap.size w Wa := by rw [hWa]; exact (Below.refl _ _).alloc (Nat.le_refl _) _
  have za : Wa.heap.size = w.heap.size + 1 := by rw [hWa]; simp
  rw [← hWa]
  obtain ⟨Wb, hWb⟩ : ∃ Wb, Wb = Wa.alloc (.cells M 42) := ⟨_, rfl⟩
  have h2 : Blk Wb (w.heap.size + 1) 42 31 (knF b) := by rw [hWb, hM, ← za]; exact Blk.boxed Wa 42 31 (knF b)
  have bb : Below Wa.heap.size Wa Wb := by rw [hWb]; exact (Below.refl _ _).alloc (Nat.le_refl _) _
  have zb : Wb.heap.size = w.heap.size + 2 := by rw [hWb]; simp [za]
  rw [← hWb]
  have h3 : Blk (Wb.alloc (.cells (knL kn0).toArray 42)) (w.heap.size + 2) 42 31 (knF kn0) := by rw [← zb]; exact Blk.boxed Wb 42 31 (knF kn0)
  have be : Below Wb.heap.size Wb (Wb.alloc (.cells (knL kn0).toArray 42)) := (Below.refl _ _).alloc (Nat.le_refl _) _
  have b1 := ba.trans (bb.mono ba.size)
  have b4 := b1.trans (be.mono b1.size)
  exact ⟨_, Lib.hid rfl, Lib.hid ⟨b4, (h1.below bb).below be, h2.below be, h3⟩, Lib.hid (by simp [zb])⟩
theorem wpList_alk {ops : Array Oper} {rest : List Oper} {ty : TypeId} {pos : String} {after : Array Edge} {a : Act} {w : World} {Q : Exit → Act → World → Prop} (d : Tmp) (b : Nat) (hb : b = w.heap.size)
    (hk : wpList Try.prog ops Q rest (a.put (some d) (.pointer (some ⟨b, 0, none⟩))) (w.alloc (.cells (knL kn0).toArray 42))) : wpList Try.prog ops Q (Oper.mk (some d) (.alloc 42) ty pos after none :: rest) a w := by
  subst hb
  exact wpList_value _ rfl (by kernel_rfl) hk
theorem bk_come (W : World) : (Instr.build 42 #[(0, .bool true)]).run Try.prog W = .ok (.agg (knL ⟨true, fun _ => rg0⟩).toArray) W := by kernel_rfl
theorem exec_min32 {d : Option Tmp} {pos : String} {after : Array Edge} {gd : Option (Nat × Bool)} {ac : Act} {W : World} (x y : Tmp) {p q : Nat} (hx : ac.eval (.tmp x) = .int .u32 (p : Int)) (hy : ac.eval (.tmp y) = .int .u32 (q : Int)) : (execOp ac.eval (Oper.mk d (.call { callee := .builtin .min, args := #[.tmp x, .tmp y], argTypes := #[35, 35] }) 35 pos after gd)).run Try.prog W = .ok (.value (.int .u32 ((min p q : Nat) : Int))) W := by
  rw [show ((min p q : Nat) : Int) = min (p : Int) (q : Int) from by omega]
  have hx' : ac.tmps[x]?.getD undef = .int .u32 (p : Int) := by simpa [Act.eval] using hx
  have hy' : ac.tmps[y]?.getD undef = .int .u32 (q : Int) := by simpa [Act.eval] using hy
  unfold execOp
  simp [go_sem, hx', hy']
theorem exec_max32 {d : Option Tmp} {pos : String} {after : Array Edge} {gd : Option (Nat × Bool)} {ac : Act} {W : World} (x y : Tmp) {p q : Nat} (hx : ac.eval (.tmp x) = .int .u32 (p : Int)) (hy : ac.eval (.tmp y) = .int .u32 (q : Int)) : (execOp ac.eval (Oper.mk d (.call { callee := .builtin .max, args := #[.tmp x, .tmp y], argTypes := #[35, 35] }) 35 pos after gd)).run Try.prog W = .ok (.value (.int .u32 ((max p q : Nat) : Int))) W := by
  rw [show ((max p q : Nat) : Int) = max (p : Int) (q : Int) from by omega]
  have hx' : ac.tmps[x]?.getD undef = .int .u32 (p : Int) := by simpa [Act.eval] using hx
  have hy' : ac.tmps[y]?.getD undef = .int .u32 (q : Int) := by simpa [Act.eval] using hy
  unfold execOp
  simp [go_sem, hx', hy']
theorem brg (a b : Int) (W : World) : (Instr.build 37 #[(0, .bool true), (1, .int .u32 a), (2, .int .u32 b)]).run Try.prog W = .ok (.agg #[.bool true, .int .u32 a, .int .u32 b]) W := by kernel_rfl

set_option maxRecDepth 100000 in
set_option maxHeartbeats 2000000 in
theorem refjoin_ok (w : World) (a b : Kn) : Calls Try.prog 27 #[.agg (knL a).toArray, .agg (knL b).toArray] w fun e w' => e = .returned (.agg (knL (joinK a b)).toArray) ∧ Below w.heap.size w w' := by
  obtain ⟨L, hL⟩ : ∃ L, L = (knL a).toArray := ⟨_, rfl⟩
  obtain ⟨M, hM⟩ : ∃ M, M = (knL b).toArray := ⟨_, rfl⟩
  obtain ⟨W1, HW1, HR1, HZ1⟩ := rj_world w a b L M hL hM
  rw [← hL, ← hM]
  clear hL hM
  go_enter Try.func27, Try.ntmps27
  go_upto_region 0 with fail
  refine wp_region_list ?_
  refine wpList_box 2 0 42 L w.heap.size rfl (by kernel_rfl) ?_
  refine wpList_box 3 1 42 M (w.heap.size + 1) (by simp) (by kernel_rfl) ?_
  refine wpList_alk 4 (w.heap.size + 2) (by simp) ?_
  rw [← HW1.out]
  clear HW1
  have c0 : W1.cell? ⟨w.heap.size, 0, none⟩ = some (.bool a.come) := HR1.out.aa.cell 0 (by omega)
  have c1 : W1.cell? ⟨w.heap.size + 1, 0, none⟩ = some (.bool b.come) := HR1.out.bb.cell 0 (by omega)
  cases hca : a.come
  · rw [hca] at c0
    have HCA := Lib.hid hca; clear hca
    go_upto_region 2 with fail
    refine wp_region_list ?_
    refine wpList_ldk 12 3 (w.heap.size + 1) 0 b (by kernel_rfl) (by kernel_rfl) HR1.out.bb.range ?_
    obtain ⟨W9, HW9, HR9, HE9, HK9⟩ := fin_store HR1.out.bw HR1.out.rr (by omega) (knL b) (knL_length _)
    refine wpList_store_mid rfl 42 (.tmp 4) (.tmp 12) (by kernel_rfl) (w.heap.size + 2) 0 (knL b).toArray (by kernel_rfl) (by kernel_rfl) (by rw [knA_size]; exact there_blk HR1.out.rr) (by rw [knA_size]; exact info_kn) (knL_one _) ?_
    rw [← HW9.out]
    go_wp2
    refine bodyPost_ret (v := .agg (knL b).toArray) (results_cell1_range Try.results27 _ _ (w.heap.size + 2) 0 (knL b) _ (by kernel_rfl) HR9.out Try.underlying42 rfl (by rw [knL_length]; exact info_kn)) ?_ ⟨(congrArg (fun b => Ending.returned (.agg (knL b).toArray)) (show joinK a b = b from by unfold joinK; rw [HCA.out]; rfl)).symm, HE9.out⟩
    rfl
  · rw [hca] at c0
    cases hcb : b.come
    · rw [hcb] at c1
      have HCA := Lib.hid hca; have HCB := Lib.hid hcb; clear hca hcb
      go_upto_region 4 with fail
      refine wp_region_list ?_
      refine wpList_ldk 16 2 w.heap.size 0 a (by kernel_rfl) (by kernel_rfl) HR1.out.aa.range ?_
      obtain ⟨W9, HW9, HR9, HE9, HK9⟩ := fin_store HR1.out.bw HR1.out.rr (by omega) (knL a) (knL_length _)
      refine wpList_store_mid rfl 42 (.tmp 4) (.tmp 16) (by kernel_rfl) (w.heap.size + 2) 0 (knL a).toArray (by kernel_rfl) (by kernel_rfl) (by rw [knA_size]; exact there_blk HR1.out.rr) (by rw [knA_size]; exact info_kn) (knL_one _) ?_
      rw [← HW9.out]
      go_wp2
      refine bodyPost_ret (v := .agg (knL a).toArray) (results_cell1_range Try.results27 _ _ (w.heap.size + 2) 0 (knL a) _ (by kernel_rfl) HR9.out Try.underlying42 rfl (by rw [knL_length]; exact info_kn)) ?_ ⟨(congrArg (fun b => Ending.returned (.agg (knL b).toArray)) (show joinK a b = a from by unfold joinK; rw [HCA.out, HCB.out]; rfl)).symm, HE9.out⟩
      rfl
    · rw [hcb] at c1
      have HCA := Lib.hid hca; have HCB := Lib.hid hcb; clear hca hcb
      go_upto_region 5 with fail
      refine wp_region_list ?_
      refine wpList_val0 (.agg (knL ⟨true, fun _ => rg0⟩).toArray) rfl (exec_build1 42 0 (.const (.bool true)) rfl (.bool true) rfl _ (bk_come _)) ?_
      obtain ⟨ob, hob⟩ : ∃ ob, ob = W1.heap.size := ⟨_, rfl⟩
      refine wpList_alk 5 ob hob ?_
      have hO : Blk (W1.alloc (.cells (knL kn0).toArray 42)) ob 42 31 (knF kn0) := by rw [hob]; exact Blk.boxed W1 42 31 (knF kn0)
      have hra := HR1.out.more ((Below.refl W1.heap.size W1).alloc (Nat.le_refl _) (.cells (knL kn0).toArray 42))
      have hoz : w.heap.size + 3 ≤ ob := by rw [hob, HZ1.out]; exact Nat.le_refl _
      obtain ⟨Wx, hWx⟩ : ∃ Wx, Wx = W1.alloc (.cells (knL kn0).toArray 42) := ⟨_, rfl⟩
      rw [← hWx] at hO hra ⊢
      clear hWx hob
      refine wpList_store_mid rfl 42 (.tmp 5) (.tmp 17) (by kernel_rfl) ob 0 (knL ⟨true, fun _ => rg0⟩).toArray (by kernel_rfl) (by kernel_rfl) (by rw [knA_size]; exact there_blk hO) (by rw [knA_size]; exact info_kn) (knL_one _) ?_
      have hO2 := hO.fill (knF (jn0 a b 0))
      have hr2 := hra.set ob hoz 0 (knL (jn0 a b 0))
      obtain ⟨W2, hW2⟩ : ∃ W2, W2 = Wx.setCells ob 0 (knL (jn0 a b 0)) := ⟨_, rfl⟩
      show wpList _ _ _ _ _ (Wx.setCells ob 0 (knL ⟨true, fun _ => rg0⟩))
      rw [← jn0_zero a b, ← hW2]
      have hO2 : Blk W2 ob 42 31 (knF (jn0 a b 0)) := by rw [hW2]; exact hO2
      rw [← hW2] at hr2
      have HO2 := Lib.hid hO2; have HR2 := Lib.hid hr2; have HOZ := Lib.hid hoz
      clear hW2 hO hra hO2 hr2 hoz c0 c1 HR1 HZ1
      go_wp2
      go_loopw [6] (fun i wr => ∃ n : Nat, n ≤ 10 ∧ i = .int .i64 (n : Int) ∧ Rj w a b wr ∧ Blk wr ob 42 31 (knF (jn0 a b n))) (fun i _ => 10 - (intOf i).toNat)
      case atStart => exact ⟨0, by omega, rfl, HR2.out, HO2.out⟩
      case round =>
        obtain ⟨n, hn, rfl, hr, ho⟩ := hrel
        have HR := Lib.hid hr; have HO := Lib.hid ho; clear hr ho
        by_cases hlt : n < 10
        · have hlt' : (n : Int) < 10 := by omega
          have HLT := Lib.hid hlt; clear hlt
          go_upto_region 9 with fail
          obtain ⟨We, hWe⟩ : ∃ We, We = wr.drew := ⟨_, rfl⟩
          have hbe : Below wr.heap.size wr We := by rw [hWe]; exact (Below.refl _ _).drew
          refine wp_region_noPanic ?_
          refine planM (.rd 0 (.rd 1 (.rd 2 (.rd 3 (.rd 4 (.rd 5 (.rd 6 (.rd 7 (.many [(8, some 7), (9, some 8)] (.eff 10 (.eff 11 .done))))))))))) [0, 1, 2, 3, 4, 5, 6, 7, 8, 9, 10] (fun W => Below wr.heap.size wr W) (by kernel_rfl) (by kernel_rfl) (fun _ _ _ _ _ h => h) (by rw [← hWe]; exact hbe) ?_
          rw [← hWe]
          clear hWe
          have HBe := Lib.hid hbe; clear hbe
          refine pm_rdv 22 (.int .i64 (n : Int)) rfl rfl rfl (fun W hS => by kernel_rfl) ?_
          refine pm_rdv 23 (.pointer (some ⟨w.heap.size, 1, none⟩)) rfl rfl rfl (fun W hS => by kernel_rfl) ?_
          refine pm_rdv 24 (.pointer (some ⟨w.heap.size, 1 + n * 3, none⟩)) rfl rfl rfl (fun W hS => exec_idxr (.tmp 23) (.tmp 22) rfl (by kernel_rfl) (by kernel_rfl) HLT.out) ?_
          refine pm_rdv 25 (.agg #[.bool (a.r n).s, .int .u32 ((a.r n).l : Int), .int .u32 ((a.r n).g : Int)]) rfl rfl rfl (fun W hS => exec_load_mid 37 (.tmp 24) rfl w.heap.size (1 + n * 3) (by kernel_rfl) [.bool (a.r n).s, .int .u32 ((a.r n).l : Int), .int .u32 ((a.r n).g : Int)] _ (kn_rg (HR.out.aa.below hS) n HLT.out) Try.underlying37 rfl (by kernel_rfl)) ?_
          refine pm_rdv 26 (.int .i64 (n : Int)) rfl rfl rfl (fun W hS => by kernel_rfl) ?_
          refine pm_rdv 27 (.pointer (some ⟨w.heap.size + 1, 1, none⟩)) rfl rfl rfl (fun W hS => by kernel_rfl) ?_
          refine pm_rdv 28 (.pointer (some ⟨w.heap.size + 1, 1 + n * 3, none⟩)) rfl rfl rfl (fun W hS => exec_idxr (.tmp 27) (.tmp 26) rfl (by kernel_rfl) (by kernel_rfl) HLT.out) ?_
          refine pm_rdv 29 (.agg #[.bool (b.r n).s, .int .u32 ((b.r n).l : Int), .int .u32 ((b.r n).g : Int)]) rfl rfl rfl (fun W hS => exec_load_mid 37 (.tmp 28) rfl (w.heap.size + 1) (1 + n * 3) (by kernel_rfl) [.bool (b.r n).s, .int .u32 ((b.r n).l : Int), .int .u32 ((b.r n).g : Int)] _ (kn_rg (HR.out.bb.below hS) n HLT.out) Try.underlying37 rfl (by kernel_rfl)) ?_
          refine pm_manyJ (fun lq vq W => AlJ wr.heap.size 8 9 37 3 (fun j => [.bool false, .int .u32 0, .int .u32 0].getD j undef) lq vq W) (AlJ.zero _ _ _ _ _ _ _) ?_ ?_
          · intro q hq lq vq w1 hS hb hl hn hJ
            simp only [List.mem_cons, List.not_mem_nil, or_false] at hq
            rcases hq with rfl | rfl
            · refine pm_one rfl rfl (fun K' hK => ?_)
              refine wp_value (w' := w1.alloc (.cells #[.bool false, .int .u32 0, .int .u32 0] 37)) (.pointer (some ⟨w1.heap.size, 0, none⟩)) (by kernel_rfl) ?_
              have hb3 : Below w1.heap.size w1 (w1.alloc (.cells #[.bool false, .int .u32 0, .int .u32 0] 37)) := (Below.refl _ _).alloc (Nat.le_refl _) _
              exact hK _ _ ⟨_, rfl, Below.trans hS (hb3.mono hS.size), hb3, hJ.up1 (by omega) hS.size [.bool false, .int .u32 0, .int .u32 0] rfl rfl⟩
            · refine pm_one rfl rfl (fun K' hK => ?_)
              refine wp_value (w' := w1.alloc (.cells #[.bool false, .int .u32 0, .int .u32 0] 37)) (.pointer (some ⟨w1.heap.size, 0, none⟩)) (by kernel_rfl) ?_
              have hb3 : Below w1.heap.size w1 (w1.alloc (.cells #[.bool false, .int .u32 0, .int .u32 0] 37)) := (Below.refl _ _).alloc (Nat.le_refl _) _
              exact hK _ _ ⟨_, rfl, Below.trans hS (hb3.mono hS.size), hb3, hJ.up2 (by omega) hS.size [.bool false, .int .u32 0, .int .u32 0] rfl rfl⟩
          intro lq vq W8 hS hb hl hJ
          obtain ⟨b16, v16, hz16, hB16⟩ := hJ.a (hl (8, some 7) (by simp))
          obtain ⟨b17, v17, hz17, hB17⟩ := hJ.b (hl (9, some 8) (by simp))
          have hne := hJ.e (hl (8, some 7) (by simp)) (hl (9, some 8) (by simp))
          have hne2 : b16 ≠ b17 := fun e => hne (by rw [v16, v17, e])
          simp only [putM, if_true, v16, v17]
          clear hJ v16 v17 hl hne
          have hkA : Kp (fun k => k = b16) W8 (W8.setCells b16 0 [.bool (a.r n).s, .int .u32 ((a.r n).l : Int), .int .u32 ((a.r n).g : Int)]) := Kp.setCells (M := fun k => k = b16) (.inl rfl) _ _ _ (Kp.refl _ _)
          have hsA : Below wr.heap.size wr (W8.setCells b16 0 [.bool (a.r n).s, .int .u32 ((a.r n).l : Int), .int .u32 ((a.r n).g : Int)]) := (Kp.setCells (w := wr) (b := b16) (.inr hz16) _ _ _ (Kp.of_below hS No)).below
          refine pm_store rfl rfl rfl 37 (.tmp 7) (.tmp 25) rfl b16 0 #[.bool (a.r n).s, .int .u32 ((a.r n).l : Int), .int .u32 ((a.r n).g : Int)] (by kernel_rfl) (by kernel_rfl) (there_mid hB16 0 3 (by omega)) (by kernel_rfl) (by simp [Value.oneCell']) (fun _ => hsA) ?_
          refine pm_store rfl rfl rfl 37 (.tmp 8) (.tmp 29) rfl b17 0 #[.bool (b.r n).s, .int .u32 ((b.r n).l : Int), .int .u32 ((b.r n).g : Int)] (by kernel_rfl) (by kernel_rfl) (there_mid (hB17.keep hkA (fun e => hne2 e.symm)) 0 3 (by omega)) (by kernel_rfl) (by simp [Value.oneCell']) (fun h => by cases h) ?_
          refine pm_done ?_
          refine NoPanic.normal ?_
          have hc16 := (hB16.fill (fun j => [.bool (a.r n).s, .int .u32 ((a.r n).l : Int), .int .u32 ((a.r n).g : Int)].getD j undef))
          have hkB : Kp (fun k => k = b17) (W8.setCells b16 0 [.bool (a.r n).s, .int .u32 ((a.r n).l : Int), .int .u32 ((a.r n).g : Int)]) ((W8.setCells b16 0 [.bool (a.r n).s, .int .u32 ((a.r n).l : Int), .int .u32 ((a.r n).g : Int)]).setCells b17 0 [.bool (b.r n).s, .int .u32 ((b.r n).l : Int), .int .u32 ((b.r n).g : Int)]) := Kp.setCells (M := fun k => k = b17) (.inl rfl) _ _ _ (Kp.refl _ _)
          have hc17 := ((hB17.keep hkA (fun e => hne2 e.symm)).fill (fun j => [.bool (b.r n).s, .int .u32 ((b.r n).l : Int), .int .u32 ((b.r n).g : Int)].getD j undef))
          obtain ⟨Wz, hWz⟩ : ∃ Wz, Wz = (W8.setCells b16 0 [.bool (a.r n).s, .int .u32 ((a.r n).l : Int), .int .u32 ((a.r n).g : Int)]).setCells b17 0 [.bool (b.r n).s, .int .u32 ((b.r n).l : Int), .int .u32 ((b.r n).g : Int)] := ⟨_, rfl⟩
          have h16 : Blk Wz b16 37 3 (fun j => [.bool (a.r n).s, .int .u32 ((a.r n).l : Int), .int .u32 ((a.r n).g : Int)].getD j undef) := by rw [hWz]; exact Blk.keep (M := fun k => k = b17) hc16 hkB hne2
          have h17 : Blk Wz b17 37 3 (fun j => [.bool (b.r n).s, .int .u32 ((b.r n).l : Int), .int .u32 ((b.r n).g : Int)].getD j undef) := by rw [hWz]; exact hc17
          have hbz : Below wr.heap.size wr Wz := by rw [hWz]; exact (Kp.setCells (w := wr) (b := b17) (.inr hz17) _ _ _ (Kp.of_below hsA No)).below
          have HRZ := Lib.hid (HR.out.more hbz); have HOO := Lib.hid (HO.out.below hbz)
          show Exit.then _ _ _ _ ((W8.setCells b16 0 [.bool (a.r n).s, .int .u32 ((a.r n).l : Int), .int .u32 ((a.r n).g : Int)]).setCells b17 0 [.bool (b.r n).s, .int .u32 ((b.r n).l : Int), .int .u32 ((b.r n).g : Int)])
          rw [← hWz]
          clear hWz hc16 hc17 hkA hkB hsA hbz hB16 hB17
          have x0 : Wz.cell? ⟨b16, 0, none⟩ = some (.bool (a.r n).s) := h16.cell 0 (by omega)
          have x1 : Wz.cell? ⟨b16, 1, none⟩ = some (.int .u32 ((a.r n).l : Int)) := h16.cell 1 (by omega)
          have x2 : Wz.cell? ⟨b16, 2, none⟩ = some (.int .u32 ((a.r n).g : Int)) := h16.cell 2 (by omega)
          have y0 : Wz.cell? ⟨b17, 0, none⟩ = some (.bool (b.r n).s) := h17.cell 0 (by omega)
          have y1 : Wz.cell? ⟨b17, 1, none⟩ = some (.int .u32 ((b.r n).l : Int)) := h17.cell 1 (by omega)
          have y2 : Wz.cell? ⟨b17, 2, none⟩ = some (.int .u32 ((b.r n).g : Int)) := h17.cell 2 (by omega)
          clear h16 h17
          by_cases hss : ((a.r n).s && (b.r n).s) = true
          · have hs1 : (a.r n).s = true := by simp at hss; exact hss.1
            have hs2 : (b.r n).s = true := by simp at hss; exact hss.2
            rw [hs1] at x0
            rw [hs2] at y0
            have hR : jnR (a.r n) (b.r n) = ⟨true, min (a.r n).l (b.r n).l, max (a.r n).g (b.r n).g⟩ := by unfold jnR; exact if_pos hss
            have HRR := Lib.hid hR
            obtain ⟨xl, hxl⟩ : ∃ x, x = (a.r n).l := ⟨_, rfl⟩
            obtain ⟨xg, hxg⟩ : ∃ x, x = (a.r n).g := ⟨_, rfl⟩
            obtain ⟨yl, hyl⟩ : ∃ x, x = (b.r n).l := ⟨_, rfl⟩
            obtain ⟨yg, hyg⟩ : ∃ x, x = (b.r n).g := ⟨_, rfl⟩
            rw [← hxl] at x1
            rw [← hxg] at x2
            rw [← hyl] at y1
            rw [← hyg] at y2
            rw [← hxl, ← hxg, ← hyl, ← hyg] at HRR
            clear hss hs1 hs2 hR hxl hxg hyl hyg
            have HX1 := Lib.hid x1; have HX2 := Lib.hid x2; have HY1 := Lib.hid y1; have HY2 := Lib.hid y2
            clear x1 x2 y1 y2
            go_upto_region 11 with fail
            refine wp_region_list ?_
            refine wpList_val0 (.int .i64 (n : Int)) rfl (by kernel_rfl) ?_
            refine wpList_val0 (.pointer (some ⟨b16, 1, none⟩)) rfl (by kernel_rfl) ?_
            refine wpList_val0 (.int .u32 (xl : Int)) rfl (exec_ldu32 (.tmp 37) rfl (by kernel_rfl) HX1.out) ?_
            refine wpList_val0 (.pointer (some ⟨b17, 1, none⟩)) rfl (by kernel_rfl) ?_
            refine wpList_val0 (.int .u32 (yl : Int)) rfl (exec_ldu32 (.tmp 39) rfl (by kernel_rfl) HY1.out) ?_
            refine wpList_val0 (.int .u32 ((min xl yl : Nat) : Int)) rfl (exec_min32 38 40 (by kernel_rfl) (by kernel_rfl)) ?_
            refine wpList_val0 (.pointer (some ⟨b16, 2, none⟩)) rfl (by kernel_rfl) ?_
            refine wpList_val0 (.int .u32 (xg : Int)) rfl (exec_ldu32 (.tmp 42) rfl (by kernel_rfl) HX2.out) ?_
            refine wpList_val0 (.pointer (some ⟨b17, 2, none⟩)) rfl (by kernel_rfl) ?_
            refine wpList_val0 (.int .u32 (yg : Int)) rfl (exec_ldu32 (.tmp 44) rfl (by kernel_rfl) HY2.out) ?_
            refine wpList_val0 (.int .u32 ((max xg yg : Nat) : Int)) rfl (exec_max32 43 45 (by kernel_rfl) (by kernel_rfl)) ?_
            obtain ⟨ml, hml⟩ : ∃ m, m = min xl yl := ⟨_, rfl⟩
            obtain ⟨mg, hmg⟩ : ∃ m, m = max xg yg := ⟨_, rfl⟩
            rw [← hml, ← hmg] at HRR ⊢
            clear hml hmg
            refine wpList_val0 (.agg #[.bool true, .int .u32 (ml : Int), .int .u32 (mg : Int)]) rfl (exec_build3 37 (.const (.bool true)) (.tmp 41) (.tmp 46) rfl (.bool true) (.int .u32 (ml : Int)) (.int .u32 (mg : Int)) rfl (by kernel_rfl) (by kernel_rfl) _ (brg _ _ _)) ?_
            refine wpList_val0 (.pointer (some ⟨ob, 1, none⟩)) rfl (by kernel_rfl) ?_
            refine wpList_val0 (.pointer (some ⟨ob, 1 + n * 3, none⟩)) rfl (exec_idxr (.tmp 48) (.tmp 36) rfl (by kernel_rfl) (by kernel_rfl) HLT.out) ?_
            refine wpList_store_mid rfl 37 (.tmp 49) (.tmp 47) (by kernel_rfl) ob (1 + n * 3) #[.bool true, .int .u32 (ml : Int), .int .u32 (mg : Int)] (by kernel_rfl) (by kernel_rfl) (there_mid HOO.out (1 + n * 3) 3 (by have := HLT.out; omega)) (by kernel_rfl) (by simp [Value.oneCell']) ?_
            have ho3 := HOO.out.setr n ⟨true, ml, mg⟩
            rw [← HRR.out, jn0_succ] at ho3
            have hr3 := HRZ.out.set ob HOZ.out (1 + n * 3) [.bool true, .int .u32 (ml : Int), .int .u32 (mg : Int)]
            obtain ⟨Wf, hWf⟩ : ∃ Wf, Wf = Wz.setCells ob (1 + n * 3) [.bool true, .int .u32 (ml : Int), .int .u32 (mg : Int)] := ⟨_, rfl⟩
            show wpList _ _ _ _ _ (Wz.setCells ob (1 + n * 3) [.bool true, .int .u32 (ml : Int), .int .u32 (mg : Int)])
            have ho4 : Blk Wf ob 42 31 (knF (jn0 a b (n + 1))) := by rw [hWf]; first | exact ho3 | (rw [HRR.out] at ho3; exact ho3)
            rw [← hWf] at hr3 ⊢
            have HO4 := Lib.hid ho4; have HR4 := Lib.hid hr3
            clear hWf ho3 hr3 ho4 x0 y0
            have hlt2 : (n : Int) < 10 := by have := HLT.out; omega
            go_wp2
            go_roundw
            case rel => exact ⟨n + 1, by have := HLT.out; omega, by go_num, HR4.out, HO4.out⟩
            case measure => have := HLT.out; simp [intOf]; omega
          · have ho4 := HOO.out
            rw [jn0_same a b n hss] at ho4
            have HO4 := Lib.hid ho4
            clear x1 x2 y1 y2
            obtain ⟨xs, hxs⟩ : ∃ x, x = (a.r n).s := ⟨_, rfl⟩
            obtain ⟨ys, hys⟩ : ∃ x, x = (b.r n).s := ⟨_, rfl⟩
            rw [← hxs, ← hys] at hss
            rw [← hxs] at x0
            rw [← hys] at y0
            clear hxs hys ho4
            have hlt2 : (n : Int) < 10 := by have := HLT.out; omega
            cases xs
            · clear hss
              go_wp2
              go_roundw
              case rel => exact ⟨n + 1, by have := HLT.out; omega, by go_num, HRZ.out, HO4.out⟩
              case measure => have := HLT.out; simp [intOf]; omega
            · cases ys
              · clear hss
                go_wp2
                go_roundw
                case rel => exact ⟨n + 1, by have := HLT.out; omega, by go_num, HRZ.out, HO4.out⟩
                case measure => have := HLT.out; simp [intOf]; omega
              · exact absurd rfl hss
        · obtain rfl : n = 10 := by omega
          go_upto_region 12 with fail
          refine wp_region_list ?_
          refine wpList_ldk 50 5 ob 0 (jn0 a b 10) (by kernel_rfl) (by kernel_rfl) HO.out.range ?_
          obtain ⟨W9, HW9, HR9, HE9, HK9⟩ := fin_store HR.out.bw HR.out.rr (by omega) (knL (jn0 a b 10)) (knL_length _)
          refine wpList_store_mid rfl 42 (.tmp 4) (.tmp 50) (by kernel_rfl) (w.heap.size + 2) 0 (knL (jn0 a b 10)).toArray (by kernel_rfl) (by kernel_rfl) (by rw [knA_size]; exact there_blk HR.out.rr) (by rw [knA_size]; exact info_kn) (knL_one _) ?_
          rw [← HW9.out]
          go_wp2
          refine bodyPost_ret (v := .agg (knL (jn0 a b 10)).toArray) (results_cell1_range Try.results27 _ _ (w.heap.size + 2) 0 (knL (jn0 a b 10)) _ (by kernel_rfl) HR9.out Try.underlying42 rfl (by rw [knL_length]; exact info_kn)) ?_ ⟨(congrArg (fun l => Ending.returned (.agg (List.toArray l))) (jn0_ten a b HCA.out HCB.out)), HE9.out⟩
          rfl
end Go.Proofs.Ytjlddhnjbjhmkaa
