/- Layer 6, the document's answer: CheckUnset. -/
import Derived.Test.YtjlddhnjbjhmkaaRb7
import Derived.Test.YtjlddhnjbjhmkaaRj1
import Derived.BigQuiet
import Derived.IntWalk
set_option linter.unusedVariables false
set_option linter.unusedSimpArgs false
namespace Go.Proofs.Ytjlddhnjbjhmkaa
open Go.RowKit

def oneK (m : Nat) : Kn := ⟨true, fun j => if j < m then ⟨true, 1, 1⟩ else rg0⟩
theorem oneK_succ (m : Nat) : (⟨(oneK m).come, upd (oneK m).r m ⟨true, 1, 1⟩⟩ : Kn) = oneK (m + 1) := by
  unfold oneK
  congr 1
  funext j
  unfold upd
  by_cases e : j = m
  · subst e; rw [if_pos rfl, if_pos (by omega)]
  · rw [if_neg e]
    show (if j < m then (⟨true, 1, 1⟩ : Rg) else rg0) = _
    by_cases e2 : j < m
    · rw [if_pos e2, if_pos (by omega)]
    · rw [if_neg e2, if_neg (by omega)]
theorem oneK_zero : oneK 0 = ⟨true, fun _ => rg0⟩ := by
  unfold oneK
  congr 1
theorem oneK_right (m : Nat) : (oneK m).right := fun n => by
  show (if n < m then (⟨true, 1, 1⟩ : Rg) else rg0).ok
  split
  · exact ⟨Nat.le_refl _, by show (1 : Nat) ≤ 4294967295; omega, fun h => by cases h⟩
  · exact kn0_right 0
def noK (k : Kn) (n : Nat) : Kn := ⟨k.come, upd k.r n rg0⟩
theorem noK_right {k : Kn} (h : k.right) (n : Nat) : (noK k n).right := fun m => by
  show (upd k.r n rg0 m).ok
  unfold upd
  split
  · exact kn0_right 0
  · exact h m
structure Un (w : World) (kb : Nat) (i : Ins8) (k : Kn) (W : World) : Prop where
  b : Below w.heap.size w W
  ii : Blk W w.heap.size 45 5 (fun j => [.int .i64 (i.op : Int), .int .i64 (i.dst : Int), .int .i64 (i.src : Int), .int .i64 i.off, .int .u32 (i.imm : Int)].getD j undef)
  kk : Blk W kb 42 31 (knF k)
  lo : w.heap.size < kb
theorem Un.more {w : World} {kb : Nat} {i : Ins8} {k : Kn} {W W1 : World} (h : Un w kb i k W) (hb : Below W.heap.size W W1) : Un w kb i k W1 :=
  ⟨h.b.trans (hb.mono h.b.size), h.ii.below hb, h.kk.below hb, h.lo⟩
theorem Un.set {w : World} {kb : Nat} {i : Ins8} {k : Kn} {W : World} (h : Un w kb i k W) (g : Nat) (hg : kb < g) (o : Nat) (vs : List Value) : Un w kb i k (W.setCells g o vs) := by
  have hk : Kp (fun b => b = g) W (W.setCells g o vs) := Kp.setCells (M := fun b => b = g) (.inl rfl) _ _ _ (Kp.refl _ _)
  have hl := h.lo
  exact ⟨(Kp.setCells (w := w) (b := g) (.inr (by omega)) _ _ _ (Kp.of_below h.b No)).below, h.ii.keep hk (by omega), h.kk.keep hk (by omega), hl⟩
theorem Un.next {w : World} {kb : Nat} {i : Ins8} {m : Nat} {W : World} (h : Un w kb i (oneK m) W) : Un w kb i (oneK (m + 1)) (W.setCells kb (1 + m * 3) [.bool true, .int .u32 1, .int .u32 1]) := by
  have hk : Kp (fun b => b = kb) W (W.setCells kb (1 + m * 3) [.bool true, .int .u32 1, .int .u32 1]) := Kp.setCells (M := fun b => b = kb) (.inl rfl) _ _ _ (Kp.refl _ _)
  have hl := h.lo
  refine ⟨(Kp.setCells (w := w) (b := kb) (.inr (by omega)) _ _ _ (Kp.of_below h.b No)).below, h.ii.keep hk (by omega), ?_, hl⟩
  rw [← oneK_succ]
  exact h.kk.setr m ⟨true, 1, 1⟩
theorem exec_nesame {o : Oper} {ac : Act} {W : World} (x y : Operand) {v : Int} (ho : o.op = .binOp .neq 3 x y 3) (hx : ac.eval x = .int .i64 v) (hy : ac.eval y = .int .i64 v) : (execOp ac.eval o).run Try.prog W = .ok (.value (.bool false)) W := by
  unfold execOp
  simp only [ho, hx, hy]
  simp [go_sem]
theorem exec_fieldw {o : Oper} {ac : Act} {W : World} (x : Operand) {LW : Array Value} {n j : Kn} {e : Int} (ho : o.op = .field 64 x 2) (hx : ac.eval x = .agg LW) (hL : LW = (wayL n j e).toArray) : (execOp ac.eval o).run Try.prog W = .ok (.value (.int .i64 e)) W := by
  subst hL
  unfold execOp
  simp only [ho, hx]
  kernel_rfl
set_option maxRecDepth 100000 in
set_option maxHeartbeats 1000000 in
theorem unset_out (w : World) (i : InsZ) (hi : i.imm < 4294967296) (hm : mayB i = false) : Calls Try.prog 8 #[.agg #[.int .i64 i.op, .int .i64 i.dst, .int .i64 i.src, .int .i64 i.off, .int .u32 (i.imm : Int)]] w fun e w' => e = .returned (.bool true) ∧ Below w.heap.size w w' := by
  have HKN := Lib.hid lawknown_ok
  have HMY : Hid (∀ W : World, Calls Try.prog 17 #[.agg #[.int .i64 i.op, .int .i64 i.dst, .int .i64 i.src, .int .i64 i.off, .int .u32 (i.imm : Int)]] W fun e w' => e = .returned (.bool false) ∧ Below W.heap.size W w') := Lib.hid (fun W => by rw [← hm]; exact mayr_any W i hi)
  go_enter Try.func8, Try.ntmps8
  go_wp2_with (first | (go_at_call 17; (with_reducible refine (HMY.out _).mono ?_); rintro e W2 ⟨rfl, hb2⟩; have HB2 := Lib.hid hb2; clear hb2) | (go_at_call 11; (with_reducible refine (HKN.out _).mono ?_); rintro e W6 ⟨rfl, hb6⟩; have HB6 := Lib.hid hb6; clear hb6))
  go_ret
  have b1 : Below w.heap.size w (w.alloc (.cells #[.int .i64 i.op, .int .i64 i.dst, .int .i64 i.src, .int .i64 i.off, .int .u32 (i.imm : Int)] 45)) := (Below.refl _ _).alloc (Nat.le_refl _) _
  have b2 := b1.trans (HB2.out.mono b1.size)
  exact ⟨rfl, b2.trans (HB6.out.mono b2.size)⟩

set_option maxRecDepth 100000 in
set_option maxHeartbeats 4000000 in
theorem unset_in (w : World) (i : Ins8) (hm : mayB i.z = true) : Calls Try.prog 8 #[.agg #[.int .i64 (i.op : Int), .int .i64 (i.dst : Int), .int .i64 (i.src : Int), .int .i64 i.off, .int .u32 (i.imm : Int)]] w fun e w' => e = .returned (.bool true) ∧ Below w.heap.size w w' := by
  have HKN := Lib.hid lawknown_ok
  have hmm := (may_of hm).1
  have HMY : Hid (∀ W : World, Calls Try.prog 17 #[.agg #[.int .i64 (i.op : Int), .int .i64 (i.dst : Int), .int .i64 (i.src : Int), .int .i64 i.off, .int .u32 (i.imm : Int)]] W fun e w' => e = .returned (.bool true) ∧ Below W.heap.size W w') := Lib.hid (fun W => by rw [← hm]; exact mayr_any W i.z hmm.imm)
  have HMM := Lib.hid hm
  clear hmm hm
  go_enter Try.func8, Try.ntmps8
  go_upto_region 1 with fail
  obtain ⟨W1, hW1⟩ : ∃ W1, W1 = w.alloc (.cells #[.int .i64 (i.op : Int), .int .i64 (i.dst : Int), .int .i64 (i.src : Int), .int .i64 i.off, .int .u32 (i.imm : Int)] 45) := ⟨_, rfl⟩
  have hb1 : Below w.heap.size w W1 := by rw [hW1]; exact (Below.refl _ _).alloc (Nat.le_refl _) _
  have hi1 : Blk W1 w.heap.size 45 5 (fun j => [.int .i64 (i.op : Int), .int .i64 (i.dst : Int), .int .i64 (i.src : Int), .int .i64 i.off, .int .u32 (i.imm : Int)].getD j undef) := by rw [hW1]; exact Blk.litL w 45 [.int .i64 (i.op : Int), .int .i64 (i.dst : Int), .int .i64 (i.src : Int), .int .i64 i.off, .int .u32 (i.imm : Int)]
  rw [← hW1]
  have HB1 := Lib.hid hb1; have HI1 := Lib.hid hi1
  clear hW1 hb1 hi1
  refine wp_region_list ?_
  refine wpList_valueg (w' := W1) (.agg #[.int .i64 (i.op : Int), .int .i64 (i.dst : Int), .int .i64 (i.src : Int), .int .i64 i.off, .int .u32 (i.imm : Int)]) (by kernel_rfl) (exec_load_mid 45 (.tmp 1) rfl w.heap.size 0 (by kernel_rfl) [.int .i64 (i.op : Int), .int .i64 (i.dst : Int), .int .i64 (i.src : Int), .int .i64 i.off, .int .u32 (i.imm : Int)] _ (by have := HI1.out.range; exact this) Try.underlying45 rfl size_ins) ?_
  refine wpList_callg (f := 17) (args := #[.agg #[.int .i64 (i.op : Int), .int .i64 (i.dst : Int), .int .i64 (i.src : Int), .int .i64 i.off, .int .u32 (i.imm : Int)]]) (v := .bool true) (R := Below W1.heap.size W1) (by kernel_rfl) (by kernel_rfl) (HMY.out W1) (fun W2 hb2 => ?_)
  have HB2 := Lib.hid (HB1.out.trans (hb2.mono HB1.out.size)); have HI2 := Lib.hid (HI1.out.below hb2)
  clear hb2
  go_upto_region 3 with fail
  refine wp_region_list ?_
  obtain ⟨k0, hk0⟩ : ∃ k0 : Kn, k0 = ⟨true, fun _ => rg0⟩ := ⟨_, rfl⟩
  have HK0 := Lib.hid (show k0 = oneK 0 from by rw [hk0, oneK_zero])
  refine wpList_val0 (.agg (knL k0).toArray) rfl (exec_build1 42 0 (.const (.bool true)) rfl (.bool true) rfl _ (by rw [hk0]; exact bk_come _)) ?_
  clear hk0
  obtain ⟨kb, hkb⟩ : ∃ kb, kb = W2.heap.size := ⟨_, rfl⟩
  refine wpList_alk 3 kb hkb ?_
  have hO : Blk (W2.alloc (.cells (knL kn0).toArray 42)) kb 42 31 (knF kn0) := by rw [hkb]; exact Blk.boxed W2 42 31 (knF kn0)
  have hba : Below W2.heap.size W2 (W2.alloc (.cells (knL kn0).toArray 42)) := (Below.refl _ _).alloc (Nat.le_refl _) _
  have hlo : w.heap.size < kb := by rw [hkb]; exact Blk.lt HI2.out
  have hbx := HB2.out.trans (hba.mono HB2.out.size)
  have hix := HI2.out.below hba
  obtain ⟨Wx, hWx⟩ : ∃ Wx, Wx = W2.alloc (.cells (knL kn0).toArray 42) := ⟨_, rfl⟩
  rw [← hWx] at hO hbx hix ⊢
  clear hWx hkb hba
  refine wpList_store_mid rfl 42 (.tmp 3) (.tmp 14) (by kernel_rfl) kb 0 (knL k0).toArray (by kernel_rfl) (by kernel_rfl) (by rw [knA_size]; exact there_blk hO) (by rw [knA_size]; exact info_kn) (knL_one _) ?_
  have hk : Kp (fun b => b = kb) Wx (Wx.setCells kb 0 (knL k0)) := Kp.setCells (M := fun b => b = kb) (.inl rfl) _ _ _ (Kp.refl _ _)
  have hu3 : Un w kb i (oneK 0) (Wx.setCells kb 0 (knL k0)) := ⟨(Kp.setCells (w := w) (b := kb) (.inr (by omega)) _ _ _ (Kp.of_below hbx No)).below, hix.keep hk (by omega), by rw [← HK0.out]; exact hO.fill (knF k0), hlo⟩
  obtain ⟨W3, hW3⟩ : ∃ W3, W3 = Wx.setCells kb 0 (knL k0) := ⟨_, rfl⟩
  show wpList _ _ _ _ _ (Wx.setCells kb 0 (knL k0))
  rw [← hW3]
  rw [← hW3] at hu3
  have HU3 := Lib.hid hu3
  clear hW3 hO hbx hix hk hu3 hlo HB1 HI1 HB2 HI2
  go_wp2
  go_loopw [4] (fun x wr => ∃ n : Nat, n ≤ 10 ∧ x = .int .i64 (n : Int) ∧ Un w kb i (oneK n) wr) (fun x _ => 10 - (intOf x).toNat)
  case atStart => exact ⟨0, by omega, rfl, HU3.out⟩
  case round =>
    obtain ⟨n, hn, rfl, hu⟩ := hrel
    by_cases hlt : n < 10
    · have hlt' : (n : Int) < 10 := by omega
      have HN := Lib.hid hu.next
      have HU := Lib.hid hu; clear hu
      go_upto_region 7 with fail
      refine wp_region_list ?_
      refine wpList_val0 (.int .i64 (n : Int)) rfl (by kernel_rfl) ?_
      refine wpList_val0 (.agg #[.bool true, .int .u32 1, .int .u32 1]) rfl (by kernel_rfl) ?_
      refine wpList_val0 (.pointer (some ⟨kb, 1, none⟩)) rfl (by kernel_rfl) ?_
      refine wpList_val0 (.pointer (some ⟨kb, 1 + n * 3, none⟩)) rfl (exec_idxr (.tmp 21) (.tmp 19) rfl (by kernel_rfl) (by kernel_rfl) hlt) ?_
      refine wpList_store_mid rfl 37 (.tmp 22) (.tmp 20) (by kernel_rfl) kb (1 + n * 3) #[.bool true, .int .u32 1, .int .u32 1] (by kernel_rfl) (by kernel_rfl) (there_mid HU.out.kk (1 + n * 3) 3 (by omega)) (by kernel_rfl) (by simp [Value.oneCell']) ?_
      go_wp2
      go_roundw
      case rel => exact ⟨n + 1, by omega, by go_num, HN.out⟩
      case measure => simp [intOf]; omega
    · obtain rfl : n = 10 := by omega
      obtain ⟨kt, hkt⟩ : ∃ kt, kt = oneK 10 := ⟨_, rfl⟩
      rw [← hkt] at hu
      have HKT : Hid kt.right := Lib.hid (by rw [hkt]; exact oneK_right 10)
      have HU4 := Lib.hid hu; clear hu HU3 hkt
      go_wp2
      go_loopw [5] (fun x wr => ∃ n : Nat, n ≤ 10 ∧ x = .int .i64 (n : Int) ∧ Un w kb i kt wr) (fun x _ => 10 - (intOf x).toNat)
      case atStart => exact ⟨0, by omega, rfl, HU4.out⟩
      case round =>
        obtain ⟨n, hn, rfl, hu⟩ := hrel
        have HU := Lib.hid hu; clear hu
        by_cases hlt : n < 10
        · have hlt' : (n : Int) < 10 := by omega
          have HLT := Lib.hid hlt; clear hlt
          go_upto_region 11 with fail
          refine wp_region_list ?_
          refine wpList_ldk 27 3 kb 0 kt (by kernel_rfl) (by kernel_rfl) HU.out.kk.range ?_
          obtain ⟨xb, hxb⟩ : ∃ xb, xb = wr.heap.size := ⟨_, rfl⟩
          refine wpList_alk 6 xb hxb ?_
          have hX : Blk (wr.alloc (.cells (knL kn0).toArray 42)) xb 42 31 (knF kn0) := by rw [hxb]; exact Blk.boxed wr 42 31 (knF kn0)
          have hux := HU.out.more ((Below.refl wr.heap.size wr).alloc (Nat.le_refl _) (.cells (knL kn0).toArray 42))
          have hkx : kb < xb := by rw [hxb]; exact Blk.lt HU.out.kk
          obtain ⟨Wx, hWx⟩ : ∃ Wx, Wx = wr.alloc (.cells (knL kn0).toArray 42) := ⟨_, rfl⟩
          rw [← hWx] at hX hux ⊢
          clear hWx hxb
          refine wpList_stk 6 27 xb 0 kt (by kernel_rfl) (by kernel_rfl) (there_mid hX 0 31 (by omega)) ?_
          have hX2 := hX.fill (knF kt)
          have hu2 := hux.set xb hkx 0 (knL kt)
          obtain ⟨Wy, hWy⟩ : ∃ Wy, Wy = Wx.setCells xb 0 (knL kt) := ⟨_, rfl⟩
          have hX2 : Blk Wy xb 42 31 (knF kt) := by rw [hWy]; exact hX2
          rw [← hWy] at hu2 ⊢
          have HX2 := Lib.hid hX2; have HU2 := Lib.hid hu2; have HKX := Lib.hid hkx
          clear hWy hX hux hX2 hu2 hkx
          go_upto_region 12 with fail
          refine wp_region_list ?_
          refine wpList_plain rfl (fun K hK => ?_)
          go_simp
          refine hK _ _ ?_
          clear hK K
          refine wpList_val0 (.agg #[.bool false, .int .u32 0, .int .u32 0]) rfl (by kernel_rfl) ?_
          refine wpList_val0 (.pointer (some ⟨xb, 1, none⟩)) rfl (by kernel_rfl) ?_
          refine wpList_val0 (.pointer (some ⟨xb, 1 + n * 3, none⟩)) rfl (exec_idxr (.tmp 30) (.tmp 28) rfl (by kernel_rfl) (by kernel_rfl) HLT.out) ?_
          refine wpList_store_mid rfl 37 (.tmp 31) (.tmp 29) (by kernel_rfl) xb (1 + n * 3) #[.bool false, .int .u32 0, .int .u32 0] (by kernel_rfl) (by kernel_rfl) (there_mid HX2.out (1 + n * 3) 3 (by have := HLT.out; omega)) (by kernel_rfl) (by simp [Value.oneCell']) ?_
          have hX3 : Blk (Wy.setCells xb (1 + n * 3) [.bool false, .int .u32 0, .int .u32 0]) xb 42 31 (knF (noK kt n)) := HX2.out.setr n rg0
          have hu3 := HU2.out.set xb HKX.out (1 + n * 3) [.bool false, .int .u32 0, .int .u32 0]
          obtain ⟨Wz, hWz⟩ : ∃ Wz, Wz = Wy.setCells xb (1 + n * 3) [.bool false, .int .u32 0, .int .u32 0] := ⟨_, rfl⟩
          show wpList _ _ _ _ _ (Wy.setCells xb (1 + n * 3) [.bool false, .int .u32 0, .int .u32 0])
          rw [← hWz] at hX3 hu3 ⊢
          have HX3 := Lib.hid hX3; have HU5 := Lib.hid hu3
          clear hWz hX3 hu3 HX2 HU2
          obtain ⟨xk, hxk⟩ : ∃ xk, xk = noK kt n := ⟨_, rfl⟩
          have hxr : xk.right := by rw [hxk]; exact noK_right HKT.out n
          rw [← hxk] at HX3
          clear hxk
          obtain ⟨nx, jx, ev, hbv, hbb⟩ := bh_cases 256 i xk
          have hbk : ∀ W : World, Calls Try.prog 18 #[.agg #[.int .i64 (i.op : Int), .int .i64 (i.dst : Int), .int .i64 (i.src : Int), .int .i64 i.off, .int .u32 (i.imm : Int)], .int .i64 256, .agg (knL xk).toArray] W fun e w' => e = .returned (.tuple #[.agg (knL nx).toArray, .agg (knL jx).toArray, .int .i64 (ev : Int)]) ∧ Below W.heap.size W w' := fun W => by rw [← hbv]; exact behind_ok W i 256 xk HMM.out hxr (by omega)
          obtain ⟨n2, j2, hwv⟩ : ∃ n2 j2, wayBV (behindB 256 i xk) = .agg (wayL n2 j2 (ev : Int)).toArray := by
            rcases hbb with ⟨h0, h1⟩ | ⟨_, h1⟩
            · exact ⟨nx, jx, by rw [h1, h0]; rfl⟩
            · exact ⟨kn0, kn0, by rw [h1]; rfl⟩
          have hrk : ∀ W : World, Calls Try.prog 22 #[.agg #[.int .i64 (i.op : Int), .int .i64 (i.dst : Int), .int .i64 (i.src : Int), .int .i64 i.off, .int .u32 (i.imm : Int)], .int .i64 256, .agg (knL xk).toArray] W fun e w' => e = .returned (.agg (wayL n2 j2 (ev : Int)).toArray) ∧ Below W.heap.size W w' := fun W => by rw [← hwv]; exact refbehind_ok W i 256 xk HMM.out hxr (by omega)
          obtain ⟨LW, hLW⟩ : ∃ LW : Array Value, LW = (wayL n2 j2 (ev : Int)).toArray := ⟨_, rfl⟩
          rw [← hLW] at hrk
          have HBK := Lib.hid hbk; have HRK := Lib.hid hrk; have HLW := Lib.hid hLW
          clear hbk hrk hwv hbb hbv hxr hLW
          go_upto_region 13 with fail
          refine wp_region_list ?_
          refine wpList_valueg (w' := _) (.agg #[.int .i64 (i.op : Int), .int .i64 (i.dst : Int), .int .i64 (i.src : Int), .int .i64 i.off, .int .u32 (i.imm : Int)]) (by kernel_rfl) (exec_load_mid 45 (.tmp 1) rfl w.heap.size 0 (by kernel_rfl) [.int .i64 (i.op : Int), .int .i64 (i.dst : Int), .int .i64 (i.src : Int), .int .i64 i.off, .int .u32 (i.imm : Int)] _ (by have := HU5.out.ii.range; exact this) Try.underlying45 rfl size_ins) ?_
          refine wpList_ldk 34 6 xb 0 xk (by kernel_rfl) (by kernel_rfl) HX3.out.range ?_
          refine wpList_callg (f := 18) (args := #[.agg #[.int .i64 (i.op : Int), .int .i64 (i.dst : Int), .int .i64 (i.src : Int), .int .i64 i.off, .int .u32 (i.imm : Int)], .int .i64 256, .agg (knL xk).toArray]) (v := .tuple #[.agg (knL nx).toArray, .agg (knL jx).toArray, .int .i64 (ev : Int)]) (R := Below Wz.heap.size Wz) (by kernel_rfl) (by kernel_rfl) (HBK.out Wz) (fun Wq hbq => ?_)
          have HUq := Lib.hid (HU5.out.more hbq); have HXq := Lib.hid (HX3.out.below hbq); clear hbq
          refine wpList_plain rfl (fun K hK => ?_)
          go_simp
          refine hK _ _ ?_
          clear hK K
          refine wpList_val0 (.agg (knL nx).toArray) rfl (by kernel_rfl) ?_
          refine wpList_val0 (.agg (knL jx).toArray) rfl (by kernel_rfl) ?_
          refine wpList_val0 (.int .i64 (ev : Int)) rfl (by kernel_rfl) ?_
          obtain ⟨b7, hb7⟩ : ∃ b, b = Wq.heap.size := ⟨_, rfl⟩
          refine wpList_alk 7 b7 hb7 ?_
          have h7 : Blk (Wq.alloc (.cells (knL kn0).toArray 42)) b7 42 31 (knF kn0) := by rw [hb7]; exact Blk.boxed Wq 42 31 (knF kn0)
          have ba7 : Below Wq.heap.size Wq (Wq.alloc (.cells (knL kn0).toArray 42)) := (Below.refl _ _).alloc (Nat.le_refl _) _
          have u7 := HUq.out.more ba7
          have x7 := HXq.out.below ba7
          have l7 : kb < b7 := by rw [hb7]; exact Blk.lt HUq.out.kk
          have m7 : xb < b7 := by rw [hb7]; exact Blk.lt HXq.out
          obtain ⟨W7, hW7⟩ : ∃ W7, W7 = Wq.alloc (.cells (knL kn0).toArray 42) := ⟨_, rfl⟩
          rw [← hW7] at h7 u7 x7 ⊢
          clear hW7 ba7 hb7
          obtain ⟨b8, hb8⟩ : ∃ b, b = W7.heap.size := ⟨_, rfl⟩
          refine wpList_alk 8 b8 hb8 ?_
          have h8 : Blk (W7.alloc (.cells (knL kn0).toArray 42)) b8 42 31 (knF kn0) := by rw [hb8]; exact Blk.boxed W7 42 31 (knF kn0)
          have ba8 : Below W7.heap.size W7 (W7.alloc (.cells (knL kn0).toArray 42)) := (Below.refl _ _).alloc (Nat.le_refl _) _
          have u8 := u7.more ba8
          have x8 := x7.below ba8
          have h78 := h7.below ba8
          have l8 : b7 < b8 := by rw [hb8]; exact Blk.lt h7
          obtain ⟨W8, hW8⟩ : ∃ W8, W8 = W7.alloc (.cells (knL kn0).toArray 42) := ⟨_, rfl⟩
          rw [← hW8] at h8 u8 x8 h78 ⊢
          clear hW8 ba8 hb8 h7 u7 x7
          refine wpList_stk 7 36 b7 0 nx (by kernel_rfl) (by kernel_rfl) (there_mid h78 0 31 (by omega)) ?_
          have hk7 : Kp (fun b => b = b7) W8 (W8.setCells b7 0 (knL nx)) := Kp.setCells (M := fun b => b = b7) (.inl rfl) _ _ _ (Kp.refl _ _)
          have u9 := u8.set b7 l7 0 (knL nx)
          have x9 := x8.keep hk7 (by omega)
          have h89 := h8.keep hk7 (by omega)
          obtain ⟨W9, hW9⟩ : ∃ W9, W9 = W8.setCells b7 0 (knL nx) := ⟨_, rfl⟩
          rw [← hW9] at u9 x9 h89 ⊢
          clear hW9 hk7 u8 x8 h78 h8
          refine wpList_stk 8 37 b8 0 jx (by kernel_rfl) (by kernel_rfl) (there_mid h89 0 31 (by omega)) ?_
          have hk8 : Kp (fun b => b = b8) W9 (W9.setCells b8 0 (knL jx)) := Kp.setCells (M := fun b => b = b8) (.inl rfl) _ _ _ (Kp.refl _ _)
          have ua := u9.set b8 (by omega) 0 (knL jx)
          have xa := x9.keep hk8 (by omega)
          obtain ⟨Wa, hWa⟩ : ∃ Wa, Wa = W9.setCells b8 0 (knL jx) := ⟨_, rfl⟩
          rw [← hWa] at ua xa ⊢
          have HUA := Lib.hid ua; have HXA := Lib.hid xa
          clear hWa hk8 u9 x9 h89 ua xa l7 m7 l8 HUq HXq HU5 HX3
          refine wpList_val0 (.int .i64 (ev : Int)) rfl (by kernel_rfl) ?_
          go_upto_region 14 with fail
          refine wp_region_list ?_
          refine wpList_plain rfl (fun K hK => ?_)
          go_simp
          refine hK _ _ ?_
          clear hK K
          refine wpList_valueg (w' := _) (.agg #[.int .i64 (i.op : Int), .int .i64 (i.dst : Int), .int .i64 (i.src : Int), .int .i64 i.off, .int .u32 (i.imm : Int)]) (by kernel_rfl) (exec_load_mid 45 (.tmp 1) rfl w.heap.size 0 (by kernel_rfl) [.int .i64 (i.op : Int), .int .i64 (i.dst : Int), .int .i64 (i.src : Int), .int .i64 i.off, .int .u32 (i.imm : Int)] _ (by have := HUA.out.ii.range; exact this) Try.underlying45 rfl size_ins) ?_
          refine wpList_ldk 41 6 xb 0 xk (by kernel_rfl) (by kernel_rfl) HXA.out.range ?_
          refine wpList_callg (f := 22) (args := #[.agg #[.int .i64 (i.op : Int), .int .i64 (i.dst : Int), .int .i64 (i.src : Int), .int .i64 i.off, .int .u32 (i.imm : Int)], .int .i64 256, .agg (knL xk).toArray]) (v := .agg LW) (R := Below Wa.heap.size Wa) (by kernel_rfl) (by kernel_rfl) (HRK.out Wa) (fun Wf hbf => ?_)
          have HUF := Lib.hid (HUA.out.more hbf); clear hbf
          refine wpList_val0 (.int .i64 (ev : Int)) rfl (exec_fieldw (.tmp 42) rfl (by kernel_rfl) HLW.out) ?_
          refine wpList_val0 (.bool false) rfl (exec_nesame (.tmp 39) (.tmp 43) (v := (ev : Int)) rfl (by kernel_rfl) (by kernel_rfl)) ?_
          have hlt2 : (n : Int) < 10 := by have := HLT.out; omega
          go_wp2
          go_roundw
          case rel =>
            refine ⟨_, _, _, _, _, _, _, _, _, _, _, _, _, _, _, _, _, _, _, _, _, _, _, _, _, _, _, _, And.intro ?_ rfl⟩
            exact ⟨n + 1, by have := HLT.out; omega, by go_num, HUF.out⟩
          case measure => have := HLT.out; simp [intOf]; omega
        · obtain rfl : n = 10 := by omega
          go_wp2_with (go_at_call 11; (with_reducible refine (HKN.out _).mono ?_); rintro e W6 ⟨rfl, hb6⟩; have HB6 := Lib.hid hb6; clear hb6)
          go_ret
          exact ⟨rfl, HU.out.b.trans (HB6.out.mono HU.out.b.size)⟩

theorem checkunset_ok (w : World) (i : InsZ) (hi : i.imm < 4294967296) : Calls Try.prog 8 #[insZV i] w fun e w' => e = .returned (.bool true) ∧ Below w.heap.size w w' := by
  cases hm : mayB i
  · exact unset_out w i hi hm
  · have e := ofZ_z hm
    have := unset_in w (ofZ i) (by rw [e]; exact hm)
    have e2 : insZV (ofZ i).z = insZV i := by rw [e]
    rw [← e2]
    exact this
end Go.Proofs.Ytjlddhnjbjhmkaa
