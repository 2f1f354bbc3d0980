/- Layer 6: what each Op makes of two ranges. -/
import Derived.Test.YtjlddhnjbjhmkaaLs1
import Derived.Test.YtjlddhnjbjhmkaaRm4
import Derived.BigQuiet
set_option linter.unusedVariables false
set_option linter.unusedSimpArgs false
namespace Go.Proofs.Ytjlddhnjbjhmkaa
open Go.RowKit

theorem rg_nes (a b : Nat) (W : World) : (binOp .neq 37 (.agg #[.bool true, .int .u32 (a : Int), .int .u32 (b : Int)]) (.agg #[.bool true, .int .u32 (a : Int), .int .u32 (b : Int)])).run Try.prog W = .ok (.bool false) W := by simp [go_sem]
theorem rg3 {W : World} {b o : Nat} {u v z : Value} (h0 : W.cell? ⟨b, o, none⟩ = some u) (h1 : W.cell? ⟨b, o + 1, none⟩ = some v) (h2 : W.cell? ⟨b, o + 2, none⟩ = some z) : W.rangeAt b o [u, v, z] := fun j x hx => by
  match j with
  | 0 => simp at hx; subst hx; exact h0
  | 1 => simp at hx; subst hx; exact h1
  | 2 => simp at hx; subst hx; exact h2
  | j + 3 => simp at hx
theorem exec_loadb {o : Oper} {ac : Act} {W : World} (x : Operand) {p : Addr} {v : Bool} (ho : o.op = .load 4 x) (hx : ac.eval x = .pointer (some p)) (hc : W.cell? p = some (.bool v)) : (execOp ac.eval o).run Try.prog W = .ok (.value (.bool v)) W := by
  unfold execOp
  simp only [ho, hx]
  simp [go_sem, hc]
theorem exec_loadu {o : Oper} {ac : Act} {W : World} (x : Operand) {p : Addr} {v : Int} (ho : o.op = .load 35 x) (hx : ac.eval x = .pointer (some p)) (hc : W.cell? p = some (.int .u32 v)) : (execOp ac.eval o).run Try.prog W = .ok (.value (.int .u32 v)) W := by
  unfold execOp
  simp only [ho, hx]
  simp [go_sem, hc]
theorem exec_conv {o : Oper} {ac : Act} {W : World} (x : Operand) {n : Int} (ho : o.op = .convert 35 2 x) (hx : ac.eval x = .int .u32 n) (h0 : 0 ≤ n) (h1 : n ≤ 4294967295) : (execOp ac.eval o).run Try.prog W = .ok (.value (.int .i64 n)) W := by
  have e : IntKind.i64.wrap n = n := by rw [IntKind.wrap_i64] <;> omega
  unfold execOp
  simp only [ho, hx]
  simp [go_sem, e]
theorem exec_lss2 {o : Oper} {ac : Act} {W : World} (x y : Operand) {p q : Int} (ho : o.op = .binOp .lss 2 x y 2) (hx : ac.eval x = .int .i64 p) (hy : ac.eval y = .int .i64 q) (h : ¬ p < q) : (execOp ac.eval o).run Try.prog W = .ok (.value (.bool false)) W := by
  have h2 : q ≤ p := by omega
  unfold execOp
  simp only [ho, hx, hy]
  simp [go_sem, h2]
theorem exec_gtr2 {o : Oper} {ac : Act} {W : World} (x y : Operand) {p q : Int} (ho : o.op = .binOp .gtr 2 x y 2) (hx : ac.eval x = .int .i64 p) (hy : ac.eval y = .int .i64 q) (h : ¬ q < p) : (execOp ac.eval o).run Try.prog W = .ok (.value (.bool false)) W := by
  have h2 : p ≤ q := by omega
  unfold execOp
  simp only [ho, hx, hy]
  simp [go_sem, h2]
theorem exec_nes {o : Oper} {ac : Act} {W : World} (x y : Operand) {a b : Nat} (ho : o.op = .binOp .neq 37 x y 37) (hx : ac.eval x = .agg #[.bool true, .int .u32 (a : Int), .int .u32 (b : Int)]) (hy : ac.eval y = .agg #[.bool true, .int .u32 (a : Int), .int .u32 (b : Int)]) : (execOp ac.eval o).run Try.prog W = .ok (.value (.bool false)) W := by
  unfold execOp
  simp only [ho, hx, hy]
  simp [go_sem]
theorem wpList_nes {ops : Array Oper} {rest : List Oper} {ty : TypeId} {pos : String} {after : Array Edge} {a : Act} {w : World} {Q : Exit → Act → World → Prop} (s t : Nat)
    (hg : Region.wanted (Oper.mk (some 125) (.binOp .neq 37 (.tmp 123) (.tmp 124) 37) ty pos after (some (32, false))) (yielded ops a.tmps) = true)
    (hx : a.eval (.tmp 123) = .agg #[.bool true, .int .u32 (s : Int), .int .u32 (t : Int)]) (hy : a.eval (.tmp 124) = .agg #[.bool true, .int .u32 (s : Int), .int .u32 (t : Int)])
    (hk : wpList Try.prog ops Q rest (a.put (some 125) (.bool false)) w) : wpList Try.prog ops Q (Oper.mk (some 125) (.binOp .neq 37 (.tmp 123) (.tmp 124) 37) ty pos after (some (32, false)) :: rest) a w :=
  wpList_valueg (w' := w) (.bool false) hg (exec_nes (.tmp 123) (.tmp 124) rfl hx hy) hk
theorem bh10 {W W1 : World} (hb : Below W.heap.size W W1) {a0 a1 a2 a3 a4 a5 a6 c0 c1 c2 : Addr} {v0 v1 v2 v3 v4 v5 v6 u0 u1 u2 : Value}
    (h : W.cell? a0 = some v0 ∧ W.cell? a1 = some v1 ∧ W.cell? a2 = some v2 ∧ W.cell? a3 = some v3 ∧ W.cell? a4 = some v4 ∧ W.cell? a5 = some v5 ∧ W.cell? a6 = some v6 ∧ W.cell? c0 = some u0 ∧ W.cell? c1 = some u1 ∧ W.cell? c2 = some u2) :
    W1.cell? a0 = some v0 ∧ W1.cell? a1 = some v1 ∧ W1.cell? a2 = some v2 ∧ W1.cell? a3 = some v3 ∧ W1.cell? a4 = some v4 ∧ W1.cell? a5 = some v5 ∧ W1.cell? a6 = some v6 ∧ W1.cell? c0 = some u0 ∧ W1.cell? c1 = some u1 ∧ W1.cell? c2 = some u2 := by
  obtain ⟨h0, h1, h2, h3, h4, h5, h6, k0, k1, k2⟩ := h
  have F : ∀ {p : Addr} {v : Value}, W.cell? p = some v → W1.cell? p = some v := fun h => (Kp.of_below hb No).cell h (fun e => e)
  exact ⟨F h0, F h1, F h2, F h3, F h4, F h5, F h6, F k0, F k1, F k2⟩

set_option maxRecDepth 100000 in
set_option maxHeartbeats 3000000 in
theorem sums_in (w : World) (dl dg sl sg A B : Nat) (hdg : dg < 4294967296) (hd : dl ≤ dg) (hsg : sg < 4294967296) (hs : sl ≤ sg) (hA : A < 4294967296) (hB : B < 4294967296) :
    Calls Try.prog 4 #[.agg #[.bool true, .int .u32 (dl : Int), .int .u32 (dg : Int)], .agg #[.bool true, .int .u32 (sl : Int), .int .u32 (sg : Int)], .agg #[.int .u32 (A : Int), .int .u32 (B : Int)]] w fun e w' => e = .returned (.bool true) ∧ Below w.heap.size w w' := by
  have HKN := Lib.hid lawknown_ok
  obtain ⟨a, ha⟩ : ∃ a, a = wordN ⟨true, dl, dg⟩ A := ⟨_, rfl⟩
  obtain ⟨b, hb⟩ : ∃ b, b = wordN ⟨true, sl, sg⟩ B := ⟨_, rfl⟩
  have had : dl ≤ a ∧ a ≤ dg := by rw [ha]; exact word_in ⟨true, dl, dg⟩ A hd
  have hbs : sl ≤ b ∧ b ≤ sg := by rw [hb]; exact word_in ⟨true, sl, sg⟩ B hs
  have HWA : Hid (∀ W : World, Calls Try.prog 16 #[.agg #[.bool true, .int .u32 (dl : Int), .int .u32 (dg : Int)], .int .u32 (A : Int)] W fun e w' => e = .returned (.int .u32 (a : Int)) ∧ Below W.heap.size W w') := Lib.hid (fun W => by rw [ha]; exact word_ok W ⟨true, dl, dg⟩ A hdg hd hA)
  have HWB : Hid (∀ W : World, Calls Try.prog 16 #[.agg #[.bool true, .int .u32 (sl : Int), .int .u32 (sg : Int)], .int .u32 (B : Int)] W fun e w' => e = .returned (.int .u32 (b : Int)) ∧ Below W.heap.size W w') := Lib.hid (fun W => by rw [hb]; exact word_ok W ⟨true, sl, sg⟩ B hsg hs hB)
  have HRT0 := Lib.hid (two_right 3 4 dl dg sl sg hd hdg hs hsg)
  have HAD := Lib.hid had; have HBS := Lib.hid hbs
  clear ha hb had hbs
  have hn0 : ¬ (dg : Int) < (dl : Int) := by omega
  have hn1 : ¬ (sg : Int) < (sl : Int) := by omega
  go_enter Try.func4, Try.ntmps4
  go_upto_region 3 with fail
  have hD : Blk (w.alloc (.cells #[.bool true, .int .u32 (dl : Int), .int .u32 (dg : Int)] 37)) w.heap.size 37 3 (fun j => [.bool true, .int .u32 (dl : Int), .int .u32 (dg : Int)].getD j undef) := Blk.litL w 37 [.bool true, .int .u32 (dl : Int), .int .u32 (dg : Int)]
  obtain ⟨Wa, hWa⟩ : ∃ Wa, Wa = w.alloc (.cells #[.bool true, .int .u32 (dl : Int), .int .u32 (dg : Int)] 37) := ⟨_, rfl⟩
  have ba : Below w.heap.size w Wa := by rw [hWa]; exact (Below.refl _ _).alloc (Nat.le_refl _) _
  have za : Wa.heap.size = w.heap.size + 1 := by rw [hWa]; simp
  rw [← hWa] at hD ⊢
  have hS : Blk (Wa.alloc (.cells #[.bool true, .int .u32 (sl : Int), .int .u32 (sg : Int)] 37)) Wa.heap.size 37 3 (fun j => [.bool true, .int .u32 (sl : Int), .int .u32 (sg : Int)].getD j undef) := Blk.litL Wa 37 [.bool true, .int .u32 (sl : Int), .int .u32 (sg : Int)]
  obtain ⟨Wb, hWb⟩ : ∃ Wb, Wb = Wa.alloc (.cells #[.bool true, .int .u32 (sl : Int), .int .u32 (sg : Int)] 37) := ⟨_, rfl⟩
  have bb : Below Wa.heap.size Wa Wb := by rw [hWb]; exact (Below.refl _ _).alloc (Nat.le_refl _) _
  have zb : Wb.heap.size = w.heap.size + 1 + 1 := by rw [hWb]; simp [za]
  rw [← hWb] at hS ⊢
  have hX : Blk (Wb.alloc (.cells #[.int .u32 (A : Int), .int .u32 (B : Int)] 38)) Wb.heap.size 38 2 (fun j => [.int .u32 (A : Int), .int .u32 (B : Int)].getD j undef) := Blk.litL Wb 38 [.int .u32 (A : Int), .int .u32 (B : Int)]
  obtain ⟨W0, hW0⟩ : ∃ W0, W0 = Wb.alloc (.cells #[.int .u32 (A : Int), .int .u32 (B : Int)] 38) := ⟨_, rfl⟩
  have b0 : Below Wb.heap.size Wb W0 := by rw [hW0]; exact (Below.refl _ _).alloc (Nat.le_refl _) _
  rw [← hW0] at hX ⊢
  rw [za] at hS
  rw [zb] at hX
  have HD0 := Lib.hid ((hD.below bb).below b0)
  have HS0 := Lib.hid (hS.below b0)
  have HX0 := Lib.hid hX
  have HB0 := Lib.hid ((ba.trans (bb.mono ba.size)).trans (b0.mono (ba.trans (bb.mono ba.size)).size))
  clear hWa hWb hW0 ba za bb zb b0 hD hS hX
  have d0 : W0.cell? ⟨w.heap.size, 0, none⟩ = some (.bool true) := HD0.out.cell 0 (by simp)
  have d1 : W0.cell? ⟨w.heap.size, 1, none⟩ = some (.int .u32 (dl : Int)) := HD0.out.cell 1 (by simp)
  have d2 : W0.cell? ⟨w.heap.size, 2, none⟩ = some (.int .u32 (dg : Int)) := HD0.out.cell 2 (by simp)
  have x0 : W0.cell? ⟨w.heap.size + 1 + 1, 0, none⟩ = some (.int .u32 (A : Int)) := HX0.out.cell 0 (by simp)
  go_upto_region 4 with (go_at_call 16; (with_reducible refine (HWA.out _).mono ?_); rintro e' W1 ⟨rfl, hb1⟩; have HB1 := Lib.hid hb1; clear hb1)
  clear d0 d1 d2 x0
  have HS1 := Lib.hid (HS0.out.below HB1.out)
  have HX1 := Lib.hid (HX0.out.below HB1.out)
  have d0 : W1.cell? ⟨w.heap.size + 1, 0, none⟩ = some (.bool true) := HS1.out.cell 0 (by simp)
  have d1 : W1.cell? ⟨w.heap.size + 1, 1, none⟩ = some (.int .u32 (sl : Int)) := HS1.out.cell 1 (by simp)
  have d2 : W1.cell? ⟨w.heap.size + 1, 2, none⟩ = some (.int .u32 (sg : Int)) := HS1.out.cell 2 (by simp)
  have x0 : W1.cell? ⟨w.heap.size + 1 + 1, 1, none⟩ = some (.int .u32 (B : Int)) := HX1.out.cell 1 (by simp)
  go_upto_region 5 with (go_at_call 16; (with_reducible refine (HWB.out _).mono ?_); rintro e' W2 ⟨rfl, hb2⟩; have HB2 := Lib.hid hb2; clear hb2)
  clear d0 d1 d2 x0
  obtain ⟨Wk, hWk⟩ : ∃ Wk, Wk = W2 := ⟨_, rfl⟩
  rw [← hWk] at HB2 ⊢
  clear hWk
  have HBk := Lib.hid ((HB0.out.trans (HB1.out.mono HB0.out.size)).trans (HB2.out.mono (HB0.out.trans (HB1.out.mono HB0.out.size)).size))
  have HDk := Lib.hid ((HD0.out.below HB1.out).below HB2.out)
  have HSk := Lib.hid (HS1.out.below HB2.out)
  have HXk := Lib.hid (HX1.out.below HB2.out)
  refine wp_region_list ?_
  refine wpList_val0 (.agg (knL ⟨true, fun _ => rg0⟩).toArray) rfl (by kernel_rfl) ?_
  obtain ⟨kb, hkb⟩ : ∃ kb, kb = Wk.heap.size := ⟨_, rfl⟩
  refine wpList_value (w' := Wk.alloc (.cells #[.bool false, .bool false, .int .u32 0, .int .u32 0, .bool false, .int .u32 0, .int .u32 0, .bool false, .int .u32 0, .int .u32 0, .bool false, .int .u32 0, .int .u32 0, .bool false, .int .u32 0, .int .u32 0, .bool false, .int .u32 0, .int .u32 0, .bool false, .int .u32 0, .int .u32 0, .bool false, .int .u32 0, .int .u32 0, .bool false, .int .u32 0, .int .u32 0, .bool false, .int .u32 0, .int .u32 0] 42)) (.pointer (some ⟨kb, 0, none⟩)) rfl (by rw [hkb]; kernel_rfl) ?_
  have hk2 : Blk (Wk.alloc (.cells #[.bool false, .bool false, .int .u32 0, .int .u32 0, .bool false, .int .u32 0, .int .u32 0, .bool false, .int .u32 0, .int .u32 0, .bool false, .int .u32 0, .int .u32 0, .bool false, .int .u32 0, .int .u32 0, .bool false, .int .u32 0, .int .u32 0, .bool false, .int .u32 0, .int .u32 0, .bool false, .int .u32 0, .int .u32 0, .bool false, .int .u32 0, .int .u32 0, .bool false, .int .u32 0, .int .u32 0] 42)) kb 42 31 (knF kn0) := by rw [hkb]; exact zkB Wk _ rfl
  have hb2 : Below Wk.heap.size Wk (Wk.alloc (.cells #[.bool false, .bool false, .int .u32 0, .int .u32 0, .bool false, .int .u32 0, .int .u32 0, .bool false, .int .u32 0, .int .u32 0, .bool false, .int .u32 0, .int .u32 0, .bool false, .int .u32 0, .int .u32 0, .bool false, .int .u32 0, .int .u32 0, .bool false, .int .u32 0, .int .u32 0, .bool false, .int .u32 0, .int .u32 0, .bool false, .int .u32 0, .int .u32 0, .bool false, .int .u32 0, .int .u32 0] 42)) := (Below.refl _ _).alloc (Nat.le_refl _) _
  obtain ⟨W2, hW2⟩ : ∃ W2, W2 = Wk.alloc (.cells #[.bool false, .bool false, .int .u32 0, .int .u32 0, .bool false, .int .u32 0, .int .u32 0, .bool false, .int .u32 0, .int .u32 0, .bool false, .int .u32 0, .int .u32 0, .bool false, .int .u32 0, .int .u32 0, .bool false, .int .u32 0, .int .u32 0, .bool false, .int .u32 0, .int .u32 0, .bool false, .int .u32 0, .int .u32 0, .bool false, .int .u32 0, .int .u32 0, .bool false, .int .u32 0, .int .u32 0] 42) := ⟨_, rfl⟩
  rw [← hW2] at hk2 hb2 ⊢
  clear hW2
  refine wpList_store_mid rfl 42 (.tmp 9) (.tmp 47) (by kernel_rfl) kb 0 (knL ⟨true, fun _ => rg0⟩).toArray (by kernel_rfl) (by kernel_rfl) (by rw [knA_size]; exact there_blk hk2) (by rw [knA_size]; exact info_kn) (knL_one _) ?_
  have hk3 : Blk (W2.setCells kb 0 (knL ⟨true, fun _ => rg0⟩).toArray.toList) kb 42 31 (knF ⟨true, fun _ => rg0⟩) := by rw [knL_tl]; exact hk2.fill _
  have hkq : Kp (fun b => b = kb) W2 (W2.setCells kb 0 (knL ⟨true, fun _ => rg0⟩).toArray.toList) := Kp.setCells (M := fun b => b = kb) (.inl rfl) _ _ _ (Kp.refl _ _)
  obtain ⟨W3, hW3⟩ : ∃ W3, W3 = W2.setCells kb 0 (knL ⟨true, fun _ => rg0⟩).toArray.toList := ⟨_, rfl⟩
  have hb3 : Below Wk.heap.size Wk W3 := by rw [hW3]; exact (Kp.setCells (w := Wk) (b := kb) (.inr (by omega)) _ _ _ (Kp.of_below hb2 No)).below
  rw [← hW3] at hk3 hkq ⊢
  have HB3a := Lib.hid hb3
  have HK3 := Lib.hid hk3
  have HKW : Hid (kb = Wk.heap.size) := Lib.hid hkb
  clear hW3 hkq hb3 hk3 hk2 hb2 hkb
  have hxk : w.heap.size + 1 + 1 < kb := by have := Blk.lt HXk.out; have := HKW.out; omega
  have HD3 := Lib.hid (HDk.out.below HB3a.out)
  have HS3 := Lib.hid (HSk.out.below HB3a.out)
  have HX3 := Lib.hid (HXk.out.below HB3a.out)
  have HB3 := Lib.hid (HBk.out.trans (HB3a.out.mono HBk.out.size))
  go_upto_region 6 with fail
  obtain ⟨We, hWe⟩ : ∃ We, We = W3.drew := ⟨_, rfl⟩
  have hbe : Below W3.heap.size W3 We := by rw [hWe]; exact (Below.refl _ _).drew
  have hke : Kp (fun b => b = kb) W3 We := by rw [hWe]; exact (Kp.refl _ _).drew
  refine planM (.rd 0 (.rd 1 (.rd 2 (.rd 3 (.rd 5 (.eff 4 (.rd 6 (.eff 7 .done)))))))) [0, 1, 2, 3, 4, 5, 6, 7] (fun W => Kp (fun b => b = kb) W3 W) (by kernel_rfl) (by kernel_rfl) (fun c a d v w h => by cases d <;> exact h) (by rw [← hWe]; exact hke) ?_
  rw [← hWe]
  clear hWe
  refine pm_rdv 48 (.agg #[.bool true, .int .u32 (dl : Int), .int .u32 (dg : Int)]) rfl rfl rfl (fun W hS => exec_load_mid 37 (.tmp 3) rfl w.heap.size 0 (by kernel_rfl) [.bool true, .int .u32 (dl : Int), .int .u32 (dg : Int)] _ (rg_kept (blk_rg HD3.out) hS (by show ¬ _ = kb; omega)) Try.underlying37 rfl (by kernel_rfl)) ?_
  refine pm_rdv 49 (.agg #[.bool true, .int .u32 (sl : Int), .int .u32 (sg : Int)]) rfl rfl rfl (fun W hS => exec_load_mid 37 (.tmp 4) rfl (w.heap.size + 1) 0 (by kernel_rfl) [.bool true, .int .u32 (sl : Int), .int .u32 (sg : Int)] _ (rg_kept (blk_rg HS3.out) hS (by show ¬ _ = kb; omega)) Try.underlying37 rfl (by kernel_rfl)) ?_
  refine pm_rdv 50 (.pointer (some ⟨kb, 1, none⟩)) rfl rfl rfl (fun W hS => by kernel_rfl) ?_
  refine pm_rdv 51 (.pointer (some ⟨kb, 1 + 3 * 3, none⟩)) rfl rfl rfl (fun W hS => by kernel_rfl) ?_
  refine pm_rdv 52 (.pointer (some ⟨kb, 1, none⟩)) rfl rfl rfl (fun W hS => by kernel_rfl) ?_
  have HKe := Lib.hid (HK3.out.below hbe)
  refine pm_store rfl rfl rfl 37 (.tmp 51) (.tmp 48) rfl kb (1 + 3 * 3) #[.bool true, .int .u32 (dl : Int), .int .u32 (dg : Int)] (by kernel_rfl) (by kernel_rfl) (there_mid HKe.out (1 + 3 * 3) 3 (by omega)) (by kernel_rfl) (by simp [Value.oneCell']) (fun _ => Kp.setCells (M := fun b => b = kb) (.inl rfl) _ _ _ hke) ?_
  refine pm_rdv 53 (.pointer (some ⟨kb, 1 + 4 * 3, none⟩)) rfl rfl rfl (fun W hS => by kernel_rfl) ?_
  refine pm_store rfl rfl rfl 37 (.tmp 53) (.tmp 49) rfl kb (1 + 4 * 3) #[.bool true, .int .u32 (sl : Int), .int .u32 (sg : Int)] (by kernel_rfl) (by kernel_rfl) (there_mid (HKe.out.setr 3 ⟨true, dl, dg⟩) (1 + 4 * 3) 3 (by omega)) (by kernel_rfl) (by simp [Value.oneCell']) (fun _ => Kp.setCells (M := fun b => b = kb) (.inl rfl) _ _ _ (Kp.setCells (M := fun b => b = kb) (.inl rfl) _ _ _ hke)) ?_
  have hk4 := (HKe.out.setr 3 ⟨true, dl, dg⟩).setr 4 ⟨true, sl, sg⟩
  obtain ⟨W4, hW4⟩ : ∃ W4, W4 = (We.setCells kb (1 + 3 * 3) [.bool true, .int .u32 (dl : Int), .int .u32 (dg : Int)]).setCells kb (1 + 4 * 3) [.bool true, .int .u32 (sl : Int), .int .u32 (sg : Int)] := ⟨_, rfl⟩
  have hkp : Kp (fun b => b = kb) W3 W4 := by rw [hW4]; exact Kp.setCells (M := fun b => b = kb) (.inl rfl) _ _ _ (Kp.setCells (M := fun b => b = kb) (.inl rfl) _ _ _ hke)
  have hk4' : Blk W4 kb 42 31 (knF ⟨true, upd (upd (fun _ => rg0) 3 ⟨true, dl, dg⟩) 4 ⟨true, sl, sg⟩⟩) := by rw [hW4]; exact hk4
  show wpPlanM _ _ _ _ _ _ _ _ ((We.setCells kb (1 + 3 * 3) [.bool true, .int .u32 (dl : Int), .int .u32 (dg : Int)]).setCells kb (1 + 4 * 3) [.bool true, .int .u32 (sl : Int), .int .u32 (sg : Int)])
  rw [← hW4]
  clear hW4 hk4
  refine pm_done ?_
  obtain ⟨kk, hkk⟩ : ∃ kk : Kn, kk = ⟨true, upd (upd (fun _ => rg0) 3 ⟨true, dl, dg⟩) 4 ⟨true, sl, sg⟩⟩ := ⟨_, rfl⟩
  rw [← hkk] at hk4'
  have HRT : Hid kk.right := Lib.hid (by rw [hkk]; exact HRT0.out)
  have HKK := Lib.hid hkk
  have HK4 := Lib.hid hk4'
  clear hk4' hkk hke hbe

  have HD4 := Lib.hid (HD3.out.keep hkp (by show ¬ _ = kb; omega))
  have HS4 := Lib.hid (HS3.out.keep hkp (by show ¬ _ = kb; omega))
  have HB4 : Hid (Below w.heap.size w W4) := Lib.hid (Kp.below_of HB3.out hkp (by omega))
  clear hkp
  go_wp2
  go_loopw [10] (fun iv wr => ∃ n : Nat, 2 ≤ n ∧ n ≤ 16 ∧ iv = .int .i64 (n : Int) ∧ Below W4.heap.size W4 wr) (fun iv _ => 16 - (intOf iv).toNat)
  case atStart => exact ⟨2, by omega, by omega, rfl, Below.refl _ _⟩
  case round =>
    obtain ⟨n, hn2, hn, rfl, hbr⟩ := hrel
    have HBR := Lib.hid hbr; clear hbr
    by_cases hlt : n ≤ 15
    · have hlt' : (n : Int) ≤ 15 := by omega
      have hmy : ∀ W : World, Calls Try.prog 17 #[.agg #[.int .i64 (n : Int), .int .i64 3, .int .i64 4, .int .i64 0, .int .u32 0]] W fun e w' => e = .returned (.bool (sumsB n)) ∧ Below W.heap.size W w' := fun W => by
        have := mayr_any W ⟨(n : Int), 3, 4, 0, 0⟩ (by show (0 : Nat) < _; omega)
        rw [sums_may n hn2 hlt] at this
        exact this
      have hzk : kb < wr.heap.size := Blk.lt (HK4.out.below HBR.out)
      have hzw : w.heap.size < wr.heap.size := Blk.lt (HD4.out.below HBR.out)
      have hzs : w.heap.size + 1 < wr.heap.size := Blk.lt (HS4.out.below HBR.out)
      go_upto_region 11 with fail
      obtain ⟨W5, hW5⟩ : ∃ W5, W5 = wr.alloc (.cells #[.int .i64 (n : Int), .int .i64 3, .int .i64 4, .int .i64 0, .int .u32 0] 45) := ⟨_, rfl⟩
      have hi5 : Blk W5 wr.heap.size 45 5 (fun j => [.int .i64 (n : Int), .int .i64 3, .int .i64 4, .int .i64 0, .int .u32 0].getD j undef) := by rw [hW5]; exact Blk.litL wr 45 [.int .i64 (n : Int), .int .i64 3, .int .i64 4, .int .i64 0, .int .u32 0]
      have hb5 : Below wr.heap.size wr W5 := by rw [hW5]; exact (Below.refl _ _).alloc (Nat.le_refl _) _
      rw [← hW5]
      have HB5 := Lib.hid (HBR.out.trans (hb5.mono HBR.out.size))
      have HI5 := Lib.hid hi5
      obtain ⟨ib, hib⟩ : ∃ ib, ib = wr.heap.size := ⟨_, rfl⟩
      have hikb : kb < ib := by omega
      rw [← hib] at HI5 ⊢
      clear hW5 hi5 hb5 hib
      have i0 : W5.cell? ⟨ib, 0, none⟩ = some (.int .i64 (n : Int)) := HI5.out.cell 0 (by simp)
      have i1 : W5.cell? ⟨ib, 1, none⟩ = some (.int .i64 3) := HI5.out.cell 1 (by simp)
      have i2 : W5.cell? ⟨ib, 2, none⟩ = some (.int .i64 4) := HI5.out.cell 2 (by simp)
      have i3 : W5.cell? ⟨ib, 3, none⟩ = some (.int .i64 0) := HI5.out.cell 3 (by simp)
      have i4 : W5.cell? ⟨ib, 4, none⟩ = some (.int .u32 0) := HI5.out.cell 4 (by simp)
      rcases hsb : sumsB n with _ | _
      · rw [hsb] at hmy
        have HMY := Lib.hid hmy; clear hmy
        go_wp2_with (go_at_call 17; (with_reducible refine (HMY.out _).mono ?_); rintro e' W6 ⟨rfl, hb6⟩; have HB6 := Lib.hid hb6; clear hb6)
        go_roundw
        case rel => exact ⟨n + 1, by omega, by omega, by go_num, HB5.out.trans (HB6.out.mono HB5.out.size)⟩
        case measure => simp [intOf]; omega
      · rw [hsb] at hmy
        have HMY := Lib.hid hmy; clear hmy
        have hmb : mayB (Ins8.z ⟨n, 3, 4, 0, 0⟩) = true := (sums_may n hn2 hlt).trans hsb
        obtain ⟨nx, jx, ev, hbv, hbb⟩ := bh_cases 0 ⟨n, 3, 4, 0, 0⟩ kk
        have HPL := Lib.hid (sums_b dl dg sl sg a b n hd hdg hs hsg HAD.out HBS.out hsb (by have := hbb; rw [HKK.out] at this; exact this))
        have hbk : ∀ W, Calls Try.prog 18 #[.agg #[.int .i64 (n : Int), .int .i64 3, .int .i64 4, .int .i64 0, .int .u32 0], .int .i64 0, .agg (knL kk).toArray] W fun e w' => e = .returned (.tuple #[.agg (knL nx).toArray, .agg (knL jx).toArray, .int .i64 (ev : Int)]) ∧ Below W.heap.size W w' := fun W => by
          have := behind_ok W ⟨n, 3, 4, 0, 0⟩ 0 kk hmb HRT.out (by omega)
          rw [hbv] at this
          exact this
        have HBK := Lib.hid hbk
        clear hbk hbb hbv hmb
        have HSB := Lib.hid hsb; clear hsb
        go_upto_region 12 with (go_at_call 17; (with_reducible refine (HMY.out _).mono ?_); rintro e' W6 ⟨rfl, hb6⟩; have HB6 := Lib.hid hb6; clear hb6)
        clear i0 i1 i2 i3 i4
        have HB6w := Lib.hid (HB5.out.trans (HB6.out.mono HB5.out.size))
        have HI6 := Lib.hid (HI5.out.below HB6.out)
        have HK6 := Lib.hid (HK4.out.below HB6w.out)
        refine wp_region_list ?_
        refine wpList_load_mid rfl 45 (.tmp 11) (by kernel_rfl) ib 0 (by kernel_rfl) [.int .i64 (n : Int), .int .i64 3, .int .i64 4, .int .i64 0, .int .u32 0] _ (by have := HI6.out.range; exact this) Try.underlying45 rfl size_ins ?_
        refine wpList_load_mid rfl 42 (.tmp 9) (by kernel_rfl) kb 0 (by kernel_rfl) (knL kk) _ HK6.out.range Try.underlying42 rfl (by rw [knL_length]; exact info_kn) ?_
        refine wpList_plain rfl (fun K hK => wp_calls_ret (v := .tuple #[.agg (knL nx).toArray, .agg (knL jx).toArray, .int .i64 (ev : Int)]) (R := Below W6.heap.size W6) (by kernel_rfl) (HBK.out _) (fun W7 hb7 => hK _ _ ?_))
        have HB7 := Lib.hid hb7; clear hb7 hK K
        refine wpList_val0 (.tuple #[.agg (knL nx).toArray, .agg (knL jx).toArray, .int .i64 (ev : Int)]) rfl (by kernel_rfl) ?_
        refine wpList_val0 (.agg (knL nx).toArray) rfl (by kernel_rfl) ?_
        refine wpList_val0 (.agg (knL jx).toArray) rfl (by kernel_rfl) ?_
        refine wpList_val0 (.int .i64 (ev : Int)) rfl (by kernel_rfl) ?_
        obtain ⟨b12, hb12⟩ : ∃ b, b = W7.heap.size := ⟨_, rfl⟩
        refine wpList_value (w' := W7.alloc (.cells #[.bool false, .bool false, .int .u32 0, .int .u32 0, .bool false, .int .u32 0, .int .u32 0, .bool false, .int .u32 0, .int .u32 0, .bool false, .int .u32 0, .int .u32 0, .bool false, .int .u32 0, .int .u32 0, .bool false, .int .u32 0, .int .u32 0, .bool false, .int .u32 0, .int .u32 0, .bool false, .int .u32 0, .int .u32 0, .bool false, .int .u32 0, .int .u32 0, .bool false, .int .u32 0, .int .u32 0] 42)) (.pointer (some ⟨b12, 0, none⟩)) rfl (by rw [hb12]; kernel_rfl) ?_
        have hn8 : Blk (W7.alloc (.cells #[.bool false, .bool false, .int .u32 0, .int .u32 0, .bool false, .int .u32 0, .int .u32 0, .bool false, .int .u32 0, .int .u32 0, .bool false, .int .u32 0, .int .u32 0, .bool false, .int .u32 0, .int .u32 0, .bool false, .int .u32 0, .int .u32 0, .bool false, .int .u32 0, .int .u32 0, .bool false, .int .u32 0, .int .u32 0, .bool false, .int .u32 0, .int .u32 0, .bool false, .int .u32 0, .int .u32 0] 42)) b12 42 31 (knF kn0) := by rw [hb12]; exact zkB W7 _ rfl
        have hb8 : Below W7.heap.size W7 (W7.alloc (.cells #[.bool false, .bool false, .int .u32 0, .int .u32 0, .bool false, .int .u32 0, .int .u32 0, .bool false, .int .u32 0, .int .u32 0, .bool false, .int .u32 0, .int .u32 0, .bool false, .int .u32 0, .int .u32 0, .bool false, .int .u32 0, .int .u32 0, .bool false, .int .u32 0, .int .u32 0, .bool false, .int .u32 0, .int .u32 0, .bool false, .int .u32 0, .int .u32 0, .bool false, .int .u32 0, .int .u32 0] 42)) := (Below.refl _ _).alloc (Nat.le_refl _) _
        obtain ⟨W8, hW8⟩ : ∃ W8, W8 = W7.alloc (.cells #[.bool false, .bool false, .int .u32 0, .int .u32 0, .bool false, .int .u32 0, .int .u32 0, .bool false, .int .u32 0, .int .u32 0, .bool false, .int .u32 0, .int .u32 0, .bool false, .int .u32 0, .int .u32 0, .bool false, .int .u32 0, .int .u32 0, .bool false, .int .u32 0, .int .u32 0, .bool false, .int .u32 0, .int .u32 0, .bool false, .int .u32 0, .int .u32 0, .bool false, .int .u32 0, .int .u32 0] 42) := ⟨_, rfl⟩
        have hz8 : W8.heap.size = b12 + 1 := by rw [hW8, hb12]; simp
        rw [← hW8] at hn8 hb8 ⊢
        refine wpList_value (w' := W8.alloc (.cells #[.bool false, .bool false, .int .u32 0, .int .u32 0, .bool false, .int .u32 0, .int .u32 0, .bool false, .int .u32 0, .int .u32 0, .bool false, .int .u32 0, .int .u32 0, .bool false, .int .u32 0, .int .u32 0, .bool false, .int .u32 0, .int .u32 0, .bool false, .int .u32 0, .int .u32 0, .bool false, .int .u32 0, .int .u32 0, .bool false, .int .u32 0, .int .u32 0, .bool false, .int .u32 0, .int .u32 0] 42)) (.pointer (some ⟨b12 + 1, 0, none⟩)) rfl (by rw [← hz8]; kernel_rfl) ?_
        have hj9 : Blk (W8.alloc (.cells #[.bool false, .bool false, .int .u32 0, .int .u32 0, .bool false, .int .u32 0, .int .u32 0, .bool false, .int .u32 0, .int .u32 0, .bool false, .int .u32 0, .int .u32 0, .bool false, .int .u32 0, .int .u32 0, .bool false, .int .u32 0, .int .u32 0, .bool false, .int .u32 0, .int .u32 0, .bool false, .int .u32 0, .int .u32 0, .bool false, .int .u32 0, .int .u32 0, .bool false, .int .u32 0, .int .u32 0] 42)) (b12 + 1) 42 31 (knF kn0) := by rw [← hz8]; exact zkB W8 _ rfl
        have hb9 : Below W8.heap.size W8 (W8.alloc (.cells #[.bool false, .bool false, .int .u32 0, .int .u32 0, .bool false, .int .u32 0, .int .u32 0, .bool false, .int .u32 0, .int .u32 0, .bool false, .int .u32 0, .int .u32 0, .bool false, .int .u32 0, .int .u32 0, .bool false, .int .u32 0, .int .u32 0, .bool false, .int .u32 0, .int .u32 0, .bool false, .int .u32 0, .int .u32 0, .bool false, .int .u32 0, .int .u32 0, .bool false, .int .u32 0, .int .u32 0] 42)) := (Below.refl _ _).alloc (Nat.le_refl _) _
        obtain ⟨W9, hW9⟩ : ∃ W9, W9 = W8.alloc (.cells #[.bool false, .bool false, .int .u32 0, .int .u32 0, .bool false, .int .u32 0, .int .u32 0, .bool false, .int .u32 0, .int .u32 0, .bool false, .int .u32 0, .int .u32 0, .bool false, .int .u32 0, .int .u32 0, .bool false, .int .u32 0, .int .u32 0, .bool false, .int .u32 0, .int .u32 0, .bool false, .int .u32 0, .int .u32 0, .bool false, .int .u32 0, .int .u32 0, .bool false, .int .u32 0, .int .u32 0] 42) := ⟨_, rfl⟩
        rw [← hW9] at hj9 hb9 ⊢
        have hn9 := hn8.below hb9
        refine wpList_store_mid rfl 42 (.tmp 12) (.tmp 67) (by kernel_rfl) b12 0 (knL nx).toArray (by kernel_rfl) (by kernel_rfl) (by rw [knA_size]; exact there_blk hn9) (by rw [knA_size]; exact info_kn) (knL_one _) ?_
        rw [knL_tl]
        have hk1 : Kp (fun b => b = b12) W9 (W9.setCells b12 0 (rowF 31 (knF nx))) := Kp.setCells (M := fun b => b = b12) (.inl rfl) _ _ _ (Kp.refl _ _)
        refine wpList_store_mid rfl 42 (.tmp 13) (.tmp 68) (by kernel_rfl) (b12 + 1) 0 (knL jx).toArray (by kernel_rfl) (by kernel_rfl) (by rw [knA_size]; exact there_blk (hj9.keep hk1 (by omega))) (by rw [knA_size]; exact info_kn) (knL_one _) ?_
        rw [knL_tl]
        have hk2 : Kp (fun b => b = b12 + 1) (W9.setCells b12 0 (rowF 31 (knF nx))) ((W9.setCells b12 0 (rowF 31 (knF nx))).setCells (b12 + 1) 0 (rowF 31 (knF jx))) := Kp.setCells (M := fun b => b = b12 + 1) (.inl rfl) _ _ _ (Kp.refl _ _)
        obtain ⟨Wz, hWz⟩ : ∃ Wz, Wz = (W9.setCells b12 0 (rowF 31 (knF nx))).setCells (b12 + 1) 0 (rowF 31 (knF jx)) := ⟨_, rfl⟩
        have hnz : Blk Wz b12 42 31 (knF nx) := by rw [hWz]; exact (hn9.fill (knF nx)).keep hk2 (by omega)
        have h7z : Below W7.heap.size W7 Wz := by rw [hWz]; exact (Kp.setCells (w := W7) (b := b12 + 1) (.inr (by omega)) _ _ _ (Kp.setCells (w := W7) (b := b12) (.inr (by omega)) _ _ _ (Kp.of_below (hb8.trans (hb9.mono hb8.size)) No))).below
        rw [← hWz]
        have HB7w := Lib.hid (HB6w.out.trans (HB7.out.mono HB6w.out.size))
        have HBz := Lib.hid (HB7w.out.trans (h7z.mono HB7w.out.size))
        have HNz := Lib.hid hnz
        clear hWz hk1 hk2 hnz h7z hn9 hn8 hj9 hb8 hb9 hW9 hW8 hz8 hb12
        have HSz := Lib.hid (HS4.out.below HBz.out)
        have s0 : Wz.cell? ⟨w.heap.size + 1, 0, none⟩ = some (.bool true) := HSz.out.cell 0 (by simp)
        have s1 : Wz.cell? ⟨w.heap.size + 1, 1, none⟩ = some (.int .u32 (sl : Int)) := HSz.out.cell 1 (by simp)
        have s2 : Wz.cell? ⟨w.heap.size + 1, 2, none⟩ = some (.int .u32 (sg : Int)) := HSz.out.cell 2 (by simp)
        have ha32 : a < 4294967296 := by have := HAD.out.2; omega
        have hb32 : b < 4294967296 := by have := HBS.out.2; omega
        by_cases hdz : (n = 14 ∨ n = 15) ∧ sl = 0
        · have he : ev = 162 := HPL.out.1 hdz
          subst he
          have hsz : ((sl : Int) == 0) = true := by rw [hdz.2]; rfl
          by_cases hd1 : n = 14
          · have q14 : ((n : Int) == 14) = true := by rw [hd1]; rfl
            clear hdz hd1
            go_wp2
            go_roundw
            case rel => exact ⟨n + 1, by omega, by omega, by go_num, HBz.out⟩
            case measure => simp [intOf]; omega
          · have hd2 : n = 15 := by have := hdz.1; omega
            have q14 : ((n : Int) == 14) = false := by rw [hd2]; rfl
            have q15 : ((n : Int) == 15) = true := by rw [hd2]; rfl
            clear hdz hd1 hd2
            go_wp2
            go_roundw
            case rel => exact ⟨n + 1, by omega, by omega, by go_num, HBz.out⟩
            case measure => simp [intOf]; omega
        · obtain ⟨he, hc, hs3, ⟨hlo, hhi⟩, h4, hg32⟩ := HPL.out.2 hdz
          subst he
          have hop : n = 2 ∨ n = 4 ∨ n = 5 ∨ n = 7 ∨ n = 9 ∨ n = 10 ∨ n = 11 ∨ n = 14 ∨ n = 15 := by
            have := HSB.out
            simp only [sumsB, Bool.or_eq_true, beq_iff_eq] at this
            omega
          obtain ⟨vv, hvv⟩ : ∃ vv, vv = op2 n a b := ⟨_, rfl⟩
          have hv32 : vv < 4294967296 := by rw [hvv]; exact op2_lt n a b (by omega) (by omega)
          have hmd : ∀ W : World, Calls Try.prog 19 #[.int .i64 (n : Int), .int .u32 (a : Int), .int .u32 (b : Int)] W fun e w' => e = .returned (.int .u32 (vv : Int)) ∧ Below W.heap.size W w' := fun W => by
            rw [hvv]
            exact lawmade_ok W n a b (by omega) (by omega) hop (fun h => by
              have : sl ≠ 0 := fun q => hdz ⟨h, q⟩
              have := HBS.out.1
              omega)
          rw [← hvv] at hlo hhi
          have HMD := Lib.hid hmd
          clear hmd hvv
          have hvi : (vv : Int) < 4294967296 := by omega
          have t0 : Wz.cell? ⟨b12, 0, none⟩ = some (.bool true) := by have := HNz.out.cell 0 (by omega); rw [show knF nx 0 = .bool nx.come from rfl, hc] at this; exact this
          have t1 : Wz.cell? ⟨b12, 10, none⟩ = some (.bool true) := by have := HNz.out.cell 10 (by omega); rw [show knF nx 10 = .bool (nx.r 3).s from rfl, hs3] at this; exact this
          have t2 : Wz.cell? ⟨b12, 11, none⟩ = some (.int .u32 ((nx.r 3).l : Int)) := HNz.out.cell 11 (by omega)
          have t3 : Wz.cell? ⟨b12, 12, none⟩ = some (.int .u32 ((nx.r 3).g : Int)) := HNz.out.cell 12 (by omega)
          have t4 : Wz.cell? ⟨b12, 13, none⟩ = some (.bool true) := by have := HNz.out.cell 13 (by omega); rw [show knF nx 13 = .bool (nx.r 4).s from rfl, h4] at this; exact this
          have t5 : Wz.cell? ⟨b12, 14, none⟩ = some (.int .u32 (sl : Int)) := by have := HNz.out.cell 14 (by omega); rw [show knF nx 14 = .int .u32 ((nx.r 4).l : Int) from rfl, h4] at this; exact this
          have t6 : Wz.cell? ⟨b12, 15, none⟩ = some (.int .u32 (sg : Int)) := by have := HNz.out.cell 15 (by omega); rw [show knF nx 15 = .int .u32 ((nx.r 4).g : Int) from rfl, h4] at this; exact this
          have HT := Lib.hid (And.intro t0 (And.intro t1 (And.intro t2 (And.intro t3 (And.intro t4 (And.intro t5 (And.intro t6 (And.intro s0 (And.intro s1 s2)))))))))
          have HDZ := Lib.hid hdz
          clear t0 t1 t2 t3 t4 t5 t6 s0 s2 hdz
          obtain ⟨ll, hll⟩ : ∃ ll, ll = (nx.r 3).l := ⟨_, rfl⟩
          obtain ⟨gg, hgg⟩ : ∃ gg, gg = (nx.r 3).g := ⟨_, rfl⟩
          rw [← hll, ← hgg] at HT
          rw [← hll] at hlo
          rw [← hgg] at hhi hg32
          have lb : (ll : Int) ≤ 4294967295 := by omega
          have gb : (gg : Int) ≤ 4294967295 := by omega
          clear hll hgg
          have e1 : (vv < ll) = False := eq_false (by omega)
          have e2 : (gg < vv) = False := eq_false (by omega)
          clear hlo hhi hg32
          by_cases hd14 : n = 14 ∨ n = 15
          · have hs0 : sl ≠ 0 := fun q => HDZ.out ⟨hd14, q⟩
            have hsz : ((sl : Int) == 0) = false := by simpa using hs0
            by_cases hd1 : n = 14
            · have q14 : ((n : Int) == 14) = true := by rw [hd1]; rfl
              clear hd14 hd1 hop
              go_upto_region 16 with fail
              clear s1
              go_upto_region 17 with (go_at_call 19; (with_reducible refine (HMD.out _).mono ?_); rintro e' W10 ⟨rfl, hb10⟩; have HB10 := Lib.hid hb10; clear hb10)
              have HBy := Lib.hid (HBz.out.trans (HB10.out.mono HBz.out.size))
              have F : ∀ {p : Addr} {v : Value}, Wz.cell? p = some v → W10.cell? p = some v := fun h => (Kp.of_below HB10.out No).cell h (fun e => e)
              have t0 := F HT.out.1
              have t1 := F HT.out.2.1
              have t2 := F HT.out.2.2.1
              have t3 := F HT.out.2.2.2.1
              have t4 := F HT.out.2.2.2.2.1
              have t5 := F HT.out.2.2.2.2.2.1
              have t6 := F HT.out.2.2.2.2.2.2.1
              have s0 := F HT.out.2.2.2.2.2.2.2.1
              have s1 := F HT.out.2.2.2.2.2.2.2.2.1
              have s2 := F HT.out.2.2.2.2.2.2.2.2.2
              clear F
              go_wp2
              go_roundw
              case rel => exact ⟨n + 1, by omega, by omega, by go_num, HBy.out⟩
              case measure => simp [intOf] <;> omega
            · have q14 : ((n : Int) == 14) = false := by simp; omega
              have q15 : ((n : Int) == 15) = true := by simp; omega
              clear hd14 hd1 hop
              go_upto_region 16 with fail
              clear s1
              go_upto_region 17 with (go_at_call 19; (with_reducible refine (HMD.out _).mono ?_); rintro e' W10 ⟨rfl, hb10⟩; have HB10 := Lib.hid hb10; clear hb10)
              have HBy := Lib.hid (HBz.out.trans (HB10.out.mono HBz.out.size))
              have F : ∀ {p : Addr} {v : Value}, Wz.cell? p = some v → W10.cell? p = some v := fun h => (Kp.of_below HB10.out No).cell h (fun e => e)
              have t0 := F HT.out.1
              have t1 := F HT.out.2.1
              have t2 := F HT.out.2.2.1
              have t3 := F HT.out.2.2.2.1
              have t4 := F HT.out.2.2.2.2.1
              have t5 := F HT.out.2.2.2.2.2.1
              have t6 := F HT.out.2.2.2.2.2.2.1
              have s0 := F HT.out.2.2.2.2.2.2.2.1
              have s1 := F HT.out.2.2.2.2.2.2.2.2.1
              have s2 := F HT.out.2.2.2.2.2.2.2.2.2
              clear F
              go_wp2
              go_roundw
              case rel => exact ⟨n + 1, by omega, by omega, by go_num, HBy.out⟩
              case measure => simp [intOf] <;> omega
          · have q14 : ((n : Int) == 14) = false := by simp; omega
            have q15 : ((n : Int) == 15) = false := by simp; omega
            go_upto_region 16 with fail
            clear s1
            go_upto_region 17 with (go_at_call 19; (with_reducible refine (HMD.out _).mono ?_); rintro e' W10 ⟨rfl, hb10⟩; have HB10 := Lib.hid hb10; clear hb10)
            have HBy := Lib.hid (HBz.out.trans (HB10.out.mono HBz.out.size))
            have F : ∀ {p : Addr} {v : Value}, Wz.cell? p = some v → W10.cell? p = some v := fun h => (Kp.of_below HB10.out No).cell h (fun e => e)
            have t0 := F HT.out.1
            have t1 := F HT.out.2.1
            have t2 := F HT.out.2.2.1
            have t3 := F HT.out.2.2.2.1
            have t4 := F HT.out.2.2.2.2.1
            have t5 := F HT.out.2.2.2.2.2.1
            have t6 := F HT.out.2.2.2.2.2.2.1
            have s0 := F HT.out.2.2.2.2.2.2.2.1
            have s1 := F HT.out.2.2.2.2.2.2.2.2.1
            have s2 := F HT.out.2.2.2.2.2.2.2.2.2
            clear F
            go_wp2
            go_roundw
            case rel => exact ⟨n + 1, by omega, by omega, by go_num, HBy.out⟩
            case measure => simp [intOf] <;> omega
    · have hgt : ¬ (n : Int) ≤ 15 := by omega
      clear hlt
      go_wp2_with (go_at_call 11; (with_reducible refine (HKN.out _).mono ?_); rintro e' W9 ⟨rfl, hb9⟩; have HB9 := Lib.hid hb9; clear hb9)
      go_ret
      exact ⟨rfl, (HB4.out.trans (HBR.out.mono HB4.out.size)).trans (HB9.out.mono (HB4.out.trans (HBR.out.mono HB4.out.size)).size)⟩

theorem checksums_ok (w : World) (d s : Rg) (A B : Nat) (h1 : d.g < 4294967296) (h2 : s.g < 4294967296) (hA : A < 4294967296) (hB : B < 4294967296) :
    Calls Try.prog 4 #[.agg #[.bool d.s, .int .u32 (d.l : Int), .int .u32 (d.g : Int)], .agg #[.bool s.s, .int .u32 (s.l : Int), .int .u32 (s.g : Int)], .agg #[.int .u32 (A : Int), .int .u32 (B : Int)]] w fun e w' => e = .returned (.bool true) ∧ Below w.heap.size w w' := by
  by_cases h : d.s = false ∨ s.s = false ∨ d.g < d.l ∨ s.g < s.l
  · exact sums_out w d s A B h
  · obtain ⟨ds, dl, dg⟩ := d
    obtain ⟨ss, sl, sg⟩ := s
    cases ds
    · exact absurd (.inl rfl) h
    cases ss
    · exact absurd (.inr (.inl rfl)) h
    have hq : ¬ (dg < dl ∨ sg < sl) := fun q => h (.inr (.inr q))
    exact sums_in w dl dg sl sg A B h1 (by omega) h2 (by omega) hA hB
end Go.Proofs.Ytjlddhnjbjhmkaa
