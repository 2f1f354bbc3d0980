/- Layer 6: what is known of fewer ways. -/
import Derived.Test.YtjlddhnjbjhmkaaLn3
import Derived.BigQuiet
set_option linter.unusedVariables false
set_option linter.unusedSimpArgs false
namespace Go.Proofs.Ytjlddhnjbjhmkaa
open Go.RowKit

structure Wn (w : World) (kb : Nat) (i : Ins8) (k : Kn) (up dn : Nat → Nat) (m : Nat) (W : World) : Prop where
  b : Below w.heap.size w W
  kk : Blk W kb 42 31 (knF (cutK k up dn m))
  ii : Blk W w.heap.size 45 5 (fun j => [.int .i64 (i.op : Int), .int .i64 (i.dst : Int), .int .i64 (i.src : Int), .int .i64 i.off, .int .u32 (i.imm : Int)].getD j undef)
  ll : Blk W (w.heap.size + 1) 59 51 (lsF k up dn)
  lo : w.heap.size + 1 < kb
theorem Wn.more {w : World} {kb : Nat} {i : Ins8} {k : Kn} {up dn : Nat → Nat} {m : Nat} {W W1 : World} (h : Wn w kb i k up dn m W) (hb : Below W.heap.size W W1) : Wn w kb i k up dn m W1 :=
  ⟨h.b.trans (hb.mono h.b.size), h.kk.below hb, h.ii.below hb, h.ll.below hb, h.lo⟩
theorem Wn.put {w : World} {kb : Nat} {i : Ins8} {k : Kn} {up dn : Nat → Nat} {m : Nat} {W : World} (h : Wn w kb i k up dn m W) (r : Rg) (hr : r = cutR (k.r m) (up m) (dn m)) : Wn w kb i k up dn (m + 1) (W.setCells kb (1 + m * 3) [.bool r.s, .int .u32 (r.l : Int), .int .u32 (r.g : Int)]) := by
  have hk : Kp (fun b => b = kb) W (W.setCells kb (1 + m * 3) [.bool r.s, .int .u32 (r.l : Int), .int .u32 (r.g : Int)]) := Kp.setCells (M := fun b => b = kb) (.inl rfl) _ _ _ (Kp.refl _ _)
  have hl := h.lo
  refine ⟨(Kp.setCells (w := w) (b := kb) (.inr (by omega)) _ _ _ (Kp.of_below h.b No)).below, ?_, h.ii.keep hk (by omega), h.ll.keep hk (by omega), hl⟩
  rw [← cutK_succ, ← hr]
  exact h.kk.setr m r
theorem Wn.same {w : World} {kb : Nat} {i : Ins8} {k : Kn} {up dn : Nat → Nat} {m : Nat} {W : World} (h : Wn w kb i k up dn m W) (hs : (k.r m).s = false) : Wn w kb i k up dn (m + 1) W :=
  ⟨h.b, by rw [← cutK_same k up dn m hs]; exact h.kk, h.ii, h.ll, h.lo⟩
theorem wpList_callg {ops : Array Oper} {rest : List Oper} {o : Oper} {a : Act} {w : World} {Q : Exit → Act → World → Prop} {f : FuncId} {args : Array Value} {v : Value} {R : World → Prop} (hg : Region.wanted o (yielded ops a.tmps) = true)
    (h : (execOp a.eval o).run Try.prog w = .ok (.enter f args) w) (hc : Calls Try.prog f args w fun e w' => e = .returned v ∧ R w') (hk : ∀ w', R w' → wpList Try.prog ops Q rest (a.put o.dst v) w') : wpList Try.prog ops Q (o :: rest) a w :=
  wpList_wanted hg fun K hK => wp_calls_ret h hc fun w' hr => hK _ _ (hk w' hr)
theorem exec_idxr {o : Oper} {ac : Act} {W : World} (x y : Operand) (ho : o.op = .indexAddr 40 x y) {g m : Nat} (hx : ac.eval x = .pointer (some ⟨g, 1, none⟩)) (hy : ac.eval y = .int .i64 (m : Int)) (hm : m < 10) : (execOp ac.eval o).run Try.prog W = .ok (.value (.pointer (some ⟨g, 1 + m * 3, none⟩))) W := by
  have h1 : (m : Int) < 10 := by omega
  unfold execOp
  simp only [ho, hx, hy]
  simp [go_sem, h1]

set_option maxRecDepth 100000 in
set_option maxHeartbeats 2500000 in
theorem within_in (w : World) (i : Ins8) (ctx : Nat) (k : Kn) (up dn : Nat → Nat) (hi : i.imm < 4294967296) (hcx : ctx ≤ 256) (hup : ∀ n, up n < 4294967296) (hdn : ∀ n, dn n < 4294967296) (hmy0 : mayB i.z = true) (hrk : k.right) (hrb0 : rightB k = true) (hkc : k.come = true) :
    Calls Try.prog 7 #[.agg #[.int .i64 (i.op : Int), .int .i64 (i.dst : Int), .int .i64 (i.src : Int), .int .i64 i.off, .int .u32 (i.imm : Int)], .int .i64 (ctx : Int), .agg (rowF 51 (lsF k up dn)).toArray] w fun e w' => e = .returned (.bool true) ∧ Below w.heap.size w w' := by
  have HKN := Lib.hid lawknown_ok
  obtain ⟨mb, hmb⟩ : ∃ mb, mb = mayB i.z := ⟨_, rfl⟩
  have hmy : ∀ W : World, Calls Try.prog 17 #[.agg #[.int .i64 (i.op : Int), .int .i64 (i.dst : Int), .int .i64 (i.src : Int), .int .i64 i.off, .int .u32 (i.imm : Int)]] W fun e w' => e = .returned (.bool mb) ∧ Below W.heap.size W w' := fun W => by rw [hmb]; exact mayr_any W i.z hi
  obtain ⟨rb, hrb⟩ : ∃ rb, rb = rightB k := ⟨_, rfl⟩
  have hrt : ∀ W : World, Calls Try.prog 20 #[.agg (knL k).toArray] W fun e w' => e = .returned (.bool rb) ∧ Below W.heap.size W w' := fun W => by rw [hrb]; exact refright_ok W k
  obtain ⟨L, hL⟩ : ∃ L, L = (rowF 51 (lsF k up dn)).toArray := ⟨_, rfl⟩
  obtain ⟨W1, HW1, HB1, HI1, HL1⟩ := within_world w i.z k up dn L hL
  rw [← hL]
  clear hL
  have HMY := Lib.hid hmy; have HRB := Lib.hid hrt; have HMB := Lib.hid hmb; have HRBE := Lib.hid hrb
  clear hmy hrt hmb hrb
  have i0 : W1.cell? ⟨w.heap.size, 0, none⟩ = some (.int .i64 (i.op : Int)) := HI1.out.cell 0 (by simp)
  have i1 : W1.cell? ⟨w.heap.size, 1, none⟩ = some (.int .i64 (i.dst : Int)) := HI1.out.cell 1 (by simp)
  have i2 : W1.cell? ⟨w.heap.size, 2, none⟩ = some (.int .i64 (i.src : Int)) := HI1.out.cell 2 (by simp)
  have i3 : W1.cell? ⟨w.heap.size, 3, none⟩ = some (.int .i64 i.off) := HI1.out.cell 3 (by simp)
  have i4 : W1.cell? ⟨w.heap.size, 4, none⟩ = some (.int .u32 (i.imm : Int)) := HI1.out.cell 4 (by simp)
  go_enter Try.func7, Try.ntmps7
  go_upto_region 1 with fail
  have hw1 : W1 = (w.alloc (.cells #[.int .i64 (i.op : Int), .int .i64 (i.dst : Int), .int .i64 (i.src : Int), .int .i64 i.off, .int .u32 (i.imm : Int)] 45)).alloc (.cells L 59) := HW1.out
  rw [← hw1]
  clear HW1 hw1
  have HUP := Lib.hid hup; have HDN := Lib.hid hdn; clear hup hdn
  have HMM := Lib.hid hmy0; have HKR := Lib.hid hrk
  have hmt : mb = true := by rw [HMB.out]; exact hmy0
  have hrt2 : rb = true := by rw [HRBE.out]; exact hrb0
  subst hmt
  subst hrt2
  clear hmy0 hrk hrb0
  have d1 : decide ((ctx : Int) < 0) = false := decide_eq_false (by omega)
  have d2 : decide ((256 : Int) < (ctx : Int)) = false := decide_eq_false (by omega)
  go_upto_region 3 with (first | (go_at_call 17; (with_reducible refine (HMY.out _).mono ?_); rintro e' W2 ⟨rfl, hb2⟩; have HB2 := Lib.hid (HB1.out.trans (hb2.mono HB1.out.size)); have HL2 := Lib.hid (HL1.out.below hb2); have HI2 := Lib.hid (HI1.out.below hb2); clear hb2) | (refine wpList_ldk 31 30 (w.heap.size + 1) 0 k (by kernel_rfl) (by kernel_rfl) (ls_known HL2.out) ?_) | (go_at_call 20; (with_reducible refine (HRB.out _).mono ?_); rintro e' W3 ⟨rfl, hb3⟩; have HB3 := Lib.hid (HB2.out.trans (hb3.mono HB2.out.size)); have HL3 := Lib.hid (HL2.out.below hb3); have HI3 := Lib.hid (HI2.out.below hb3); have k0 := ls_come HL3.out; clear hb3; rw [hkc] at k0))
  clear i0 i1 i2 i3 i4 k0 d1 d2
  refine wp_region_list ?_
  refine wpList_val0 (.pointer (some ⟨w.heap.size + 1, 0, none⟩)) rfl (by kernel_rfl) ?_
  refine wpList_ldk 43 42 (w.heap.size + 1) 0 k (by kernel_rfl) (by kernel_rfl) (ls_known HL3.out) ?_
  obtain ⟨kb, hkb⟩ : ∃ kb, kb = W3.heap.size := ⟨_, rfl⟩
  refine wpList_value (w' := W3.alloc (.cells #[.bool false, .bool false, .int .u32 0, .int .u32 0, .bool false, .int .u32 0, .int .u32 0, .bool false, .int .u32 0, .int .u32 0, .bool false, .int .u32 0, .int .u32 0, .bool false, .int .u32 0, .int .u32 0, .bool false, .int .u32 0, .int .u32 0, .bool false, .int .u32 0, .int .u32 0, .bool false, .int .u32 0, .int .u32 0, .bool false, .int .u32 0, .int .u32 0, .bool false, .int .u32 0, .int .u32 0] 42)) (.pointer (some ⟨kb, 0, none⟩)) rfl (by rw [hkb]; kernel_rfl) ?_
  have hk2 : Blk (W3.alloc (.cells #[.bool false, .bool false, .int .u32 0, .int .u32 0, .bool false, .int .u32 0, .int .u32 0, .bool false, .int .u32 0, .int .u32 0, .bool false, .int .u32 0, .int .u32 0, .bool false, .int .u32 0, .int .u32 0, .bool false, .int .u32 0, .int .u32 0, .bool false, .int .u32 0, .int .u32 0, .bool false, .int .u32 0, .int .u32 0, .bool false, .int .u32 0, .int .u32 0, .bool false, .int .u32 0, .int .u32 0] 42)) kb 42 31 (knF kn0) := by rw [hkb]; exact zkB W3 _ rfl
  have hb2 : Below W3.heap.size W3 (W3.alloc (.cells #[.bool false, .bool false, .int .u32 0, .int .u32 0, .bool false, .int .u32 0, .int .u32 0, .bool false, .int .u32 0, .int .u32 0, .bool false, .int .u32 0, .int .u32 0, .bool false, .int .u32 0, .int .u32 0, .bool false, .int .u32 0, .int .u32 0, .bool false, .int .u32 0, .int .u32 0, .bool false, .int .u32 0, .int .u32 0, .bool false, .int .u32 0, .int .u32 0, .bool false, .int .u32 0, .int .u32 0] 42)) := (Below.refl _ _).alloc (Nat.le_refl _) _
  obtain ⟨Wa, hWa⟩ : ∃ Wa, Wa = W3.alloc (.cells #[.bool false, .bool false, .int .u32 0, .int .u32 0, .bool false, .int .u32 0, .int .u32 0, .bool false, .int .u32 0, .int .u32 0, .bool false, .int .u32 0, .int .u32 0, .bool false, .int .u32 0, .int .u32 0, .bool false, .int .u32 0, .int .u32 0, .bool false, .int .u32 0, .int .u32 0, .bool false, .int .u32 0, .int .u32 0, .bool false, .int .u32 0, .int .u32 0, .bool false, .int .u32 0, .int .u32 0] 42) := ⟨_, rfl⟩
  rw [← hWa] at hk2 hb2 ⊢
  clear hWa
  refine wpList_store_mid rfl 42 (.tmp 7) (.tmp 43) (by kernel_rfl) kb 0 (knL k).toArray (by kernel_rfl) (by kernel_rfl) (by rw [knA_size]; exact there_blk hk2) (by rw [knA_size]; exact info_kn) (knL_one _) ?_
  rw [knL_tl]
  have hkq : Kp (fun b => b = kb) Wa (Wa.setCells kb 0 (rowF 31 (knF k))) := Kp.setCells (M := fun b => b = kb) (.inl rfl) _ _ _ (Kp.refl _ _)
  have hlo : w.heap.size + 1 < kb := by rw [hkb]; exact Blk.lt HL3.out
  have hw0 : Wn w kb i k up dn 0 (Wa.setCells kb 0 (rowF 31 (knF k))) := ⟨(Kp.setCells (w := w) (b := kb) (.inr (by omega)) _ _ _ (Kp.of_below (HB3.out.trans (hb2.mono HB3.out.size)) No)).below, by rw [cutK_zero]; exact hk2.fill _, (Blk.below HI3.out hb2).keep hkq (by omega), (HL3.out.below hb2).keep hkq (by omega), hlo⟩
  obtain ⟨Wb, hWb⟩ : ∃ Wb, Wb = Wa.setCells kb 0 (rowF 31 (knF k)) := ⟨_, rfl⟩
  rw [← hWb] at hw0 ⊢
  have HW0 := Lib.hid hw0
  clear hWb hw0 hkq hk2 hb2 hkb hlo
  go_wp2
  go_loopw [8] (fun iv wr => ∃ n : Nat, n ≤ 10 ∧ iv = .int .i64 (n : Int) ∧ Wn w kb i k up dn n wr) (fun iv _ => 10 - (intOf iv).toNat)
  case atStart => exact ⟨0, by omega, rfl, HW0.out⟩
  case round =>
    obtain ⟨n, hn, rfl, hc⟩ := hrel
    by_cases hlt : n < 10
    · have hlt' : (n : Int) < 10 := by omega
      have hzk : kb < wr.heap.size := Blk.lt hc.kk
      have hzl : w.heap.size + 1 < wr.heap.size := Blk.lt hc.ll
      have e0 := hc.kk.cell (1 + n * 3) (by omega)
      have e1 := hc.kk.cell (1 + n * 3 + 1) (by omega)
      have e2 := hc.kk.cell (1 + n * 3 + 2) (by omega)
      rw [knF_s, cutK_at] at e0
      rw [knF_l, cutK_at] at e1
      rw [knF_g, cutK_at] at e2
      have hrg : (k.r n).g ≤ 4294967295 := (HKR.out n).2.1
      have hrl : (k.r n).l ≤ (k.r n).g := (HKR.out n).1
      obtain ⟨r, hr⟩ : ∃ r, r = k.r n := ⟨_, rfl⟩
      rw [← hr] at e0 e1 e2 hrg hrl
      have HR := Lib.hid hr; clear hr
      have HC := Lib.hid hc; clear hc
      obtain ⟨s, l, g⟩ := r
      have hrg : g ≤ 4294967295 := hrg
      have hrl : l ≤ g := hrl
      go_upto_region 8 with fail
      clear e0 e1 e2
      have hb9' : Blk (wr.alloc (.cells #[.bool s, .int .u32 (l : Int), .int .u32 (g : Int)] 37)) wr.heap.size 37 3 (fun j => [.bool s, .int .u32 (l : Int), .int .u32 (g : Int)].getD j undef) := Blk.litL wr 37 [.bool s, .int .u32 (l : Int), .int .u32 (g : Int)]
      have ha9 : Below wr.heap.size wr (wr.alloc (.cells #[.bool s, .int .u32 (l : Int), .int .u32 (g : Int)] 37)) := (Below.refl _ _).alloc (Nat.le_refl _) _
      obtain ⟨W5, hW5⟩ : ∃ W5, W5 = wr.alloc (.cells #[.bool s, .int .u32 (l : Int), .int .u32 (g : Int)] 37) := ⟨_, rfl⟩
      obtain ⟨b9, hb9⟩ : ∃ b, b = wr.heap.size := ⟨_, rfl⟩
      rw [← hb9] at hb9' ⊢
      rw [← hW5] at hb9' ha9 ⊢
      have HC5 := Lib.hid (HC.out.more ha9)
      have HB9r := Lib.hid hb9'
      clear hW5 hb9' ha9 hb9
      have q0 : W5.cell? ⟨b9, 0, none⟩ = some (.bool s) := HB9r.out.cell 0 (by simp)
      have q1 : W5.cell? ⟨b9, 1, none⟩ = some (.int .u32 (l : Int)) := HB9r.out.cell 1 (by simp)
      have q2 : W5.cell? ⟨b9, 2, none⟩ = some (.int .u32 (g : Int)) := HB9r.out.cell 2 (by simp)
      cases s
      · go_wp2
        go_roundw
        case rel => exact ⟨n + 1, by omega, by go_num, HC5.out.same (by rw [← HR.out])⟩
        case measure => simp [intOf]; omega
      · have q3 := ls_up HC5.out.ll n hlt
        obtain ⟨uu, huu⟩ : ∃ u, u = up n := ⟨_, rfl⟩
        rw [← huu] at q3
        have HUU := Lib.hid huu; clear huu
        obtain ⟨m1, hm1⟩ : ∃ m, m = min g (l + uu) := ⟨_, rfl⟩
        have hm1i : min (g : Int) ((l : Int) + (uu : Int)) = (m1 : Int) := by rw [hm1]; omega
        have hm1b : m1 ≤ 4294967295 := by omega
        have HM1 := Lib.hid hm1; clear hm1
        go_upto_region 9 with fail
        go_cut [10] from 54 to 67 (fun sv wx => sv = .int .u32 (m1 : Int) ∧ Below W5.heap.size W5 wx)
        case first =>
          have hm1c : (m1 : Int) ≤ 4294967295 := by omega
          have huc : (uu : Int) ≤ 4294967295 := by have := HUP.out n; rw [← HUU.out] at this; omega
          go_quiet (fail)
          all_goals (go_wp2_with fail; go_meet; exact ⟨congrArg (Value.int .u32) (by omega), ⟨rfl, rfl, rfl, Nat.le_refl _, fun _ _ => rfl⟩⟩)
        case rest =>
          obtain ⟨rfl, hwx⟩ := hcut
          clear q0 q1 q2 q3 hm1i
          have HC6 := Lib.hid (HC5.out.more hwx)
          have HB6r := Lib.hid (HB9r.out.below hwx)
          obtain ⟨W6, hW6⟩ : ∃ W6, W6 = wc := ⟨_, rfl⟩
          rw [← hW6] at HC6 HB6r ⊢
          clear hW6 hwx
          have q2 : W6.cell? ⟨b9, 2, none⟩ = some (.int .u32 (g : Int)) := HB6r.out.cell 2 (by simp)
          have q3 := ls_dn HC6.out.ll n hlt
          obtain ⟨dd, hdd⟩ : ∃ u, u = dn n := ⟨_, rfl⟩
          rw [← hdd] at q3
          have HDD := Lib.hid hdd; clear hdd
          obtain ⟨m2, hm2⟩ : ∃ m, m = max m1 (g - dd) := ⟨_, rfl⟩
          have hm2i : max (m1 : Int) ((g : Int) - (dd : Int)) = (m2 : Int) := by rw [hm2]; omega
          have hm2b : m2 ≤ 4294967295 := by have := HM1.out; omega
          have HM2 := Lib.hid hm2; clear hm2
          go_upto_region 10 with fail
          go_cut [11] from 68 to 80 (fun sv wx => sv = .int .u32 (m2 : Int) ∧ Below W6.heap.size W6 wx)
          case first =>
            have hm1c : (m1 : Int) ≤ 4294967295 := by omega
            have hm2c : (m2 : Int) ≤ 4294967295 := by omega
            have hdc : (dd : Int) ≤ 4294967295 := by have := HDN.out n; rw [← HDD.out] at this; omega
            go_quiet (fail)
            all_goals (go_wp2_with fail; go_meet; exact ⟨congrArg (Value.int .u32) (by omega), ⟨rfl, rfl, rfl, Nat.le_refl _, fun _ _ => rfl⟩⟩)
          case rest =>
            obtain ⟨rfl, hwy⟩ := hcut
            clear q2 q3 hm2i
            have HC7 := Lib.hid (HC6.out.more hwy)
            clear hwy
            have HCUT : Hid ((⟨true, m1, m2⟩ : Rg) = cutR (k.r n) (up n) (dn n)) := Lib.hid (by rw [← HR.out, ← HUU.out, ← HDD.out, HM2.out, HM1.out]; rfl)
            go_upto_region 11 with fail
            refine wp_region_list ?_
            refine wpList_val0 (.int .i64 (n : Int)) rfl (by kernel_rfl) ?_
            refine wpList_val0 (.int .u32 (m1 : Int)) rfl (by kernel_rfl) ?_
            refine wpList_val0 (.int .u32 (m2 : Int)) rfl (by kernel_rfl) ?_
            refine wpList_val0 (.agg #[.bool true, .int .u32 (m1 : Int), .int .u32 (m2 : Int)]) rfl (by kernel_rfl) ?_
            refine wpList_val0 (.pointer (some ⟨kb, 1, none⟩)) rfl (by kernel_rfl) ?_
            refine wpList_val0 (.pointer (some ⟨kb, 1 + n * 3, none⟩)) rfl (exec_idxr (.tmp 85) (.tmp 81) rfl (by kernel_rfl) (by kernel_rfl) hlt) ?_
            refine wpList_store_mid rfl 37 (.tmp 86) (.tmp 84) (by kernel_rfl) kb (1 + n * 3) #[.bool true, .int .u32 (m1 : Int), .int .u32 (m2 : Int)] (by kernel_rfl) (by kernel_rfl) (there_mid HC7.out.kk (1 + n * 3) 3 (by omega)) (by kernel_rfl) (by simp [Value.oneCell']) ?_
            have hc8 := HC7.out.put ⟨true, m1, m2⟩ HCUT.out
            have HC8 := Lib.hid hc8; clear hc8
            go_wp2
            go_roundw
            case rel => exact ⟨n + 1, by omega, by go_num, HC8.out⟩
            case measure => simp [intOf]; omega
    · obtain rfl : n = 10 := by omega
      have HC := Lib.hid hc; clear hc
      obtain ⟨a0, c0, ev, hbv, hbb⟩ := bh_cases ctx i k
      obtain ⟨a1, c1, fv, hfv, hff⟩ := bh_cases ctx i (cutK k up dn 10)
      have hbk : ∀ W, Calls Try.prog 18 #[.agg #[.int .i64 (i.op : Int), .int .i64 (i.dst : Int), .int .i64 (i.src : Int), .int .i64 i.off, .int .u32 (i.imm : Int)], .int .i64 (ctx : Int), .agg (knL k).toArray] W fun e w' => e = .returned (.tuple #[.agg (knL a0).toArray, .agg (knL c0).toArray, .int .i64 (ev : Int)]) ∧ Below W.heap.size W w' := fun W => by
        have := behind_ok W i ctx k HMM.out HKR.out hcx
        rw [hbv] at this
        exact this
      obtain ⟨kc, hkcut⟩ : ∃ q : Kn, q = cutK k up dn 10 := ⟨_, rfl⟩
      have hfk : ∀ W, Calls Try.prog 18 #[.agg #[.int .i64 (i.op : Int), .int .i64 (i.dst : Int), .int .i64 (i.src : Int), .int .i64 i.off, .int .u32 (i.imm : Int)], .int .i64 (ctx : Int), .agg (knL kc).toArray] W fun e w' => e = .returned (.tuple #[.agg (knL a1).toArray, .agg (knL c1).toArray, .int .i64 (fv : Int)]) ∧ Below W.heap.size W w' := fun W => by
        have := behind_ok W i ctx (cutK k up dn 10) HMM.out (cutK_right k up dn HKR.out) hcx
        rw [hfv, ← hkcut] at this
        exact this
      have hcle := cut_le ctx i k up dn (may_of HMM.out).1 HKR.out hkc
      have HLEE : Hid ((ev = 0 → fv = 0 ∧ a1.le a0 ∧ c1.le c0)) := Lib.hid (fun h0 => by
        rcases hbb with ⟨_, hb⟩ | ⟨hne, _⟩
        · rw [hb] at hcle
          rcases hff with ⟨h1, hf⟩ | ⟨_, hf⟩
          · rw [hf] at hcle
            exact ⟨h1, hcle⟩
          · rw [hf] at hcle
            exact absurd hcle (fun h => h)
        · exact absurd h0 hne)
      have HBK := Lib.hid hbk; have HFK := Lib.hid hfk
      have HKC : Hid (Blk wr kb 42 31 (knF kc)) := Lib.hid (by rw [hkcut]; exact HC.out.kk)
      clear hbk hfk hbv hfv hbb hff hcle hkcut
      go_upto_region 12 with fail

      refine wp_region_list ?_
      refine wpList_load_mid rfl 45 (.tmp 3) (by kernel_rfl) w.heap.size 0 (by kernel_rfl) [.int .i64 (i.op : Int), .int .i64 (i.dst : Int), .int .i64 (i.src : Int), .int .i64 i.off, .int .u32 (i.imm : Int)] _ (by have := HC.out.ii.range; exact this) Try.underlying45 rfl size_ins ?_
      refine wpList_val0 (.int .i64 (ctx : Int)) rfl (by kernel_rfl) ?_
      refine wpList_val0 (.pointer (some ⟨w.heap.size + 1, 0, none⟩)) rfl (by kernel_rfl) ?_
      refine wpList_ldk 91 90 (w.heap.size + 1) 0 k (by kernel_rfl) (by kernel_rfl) (ls_known HC.out.ll) ?_
      refine wpList_plain rfl (fun K hK => wp_calls_ret (v := .tuple #[.agg (knL a0).toArray, .agg (knL c0).toArray, .int .i64 (ev : Int)]) (R := Below wr.heap.size wr) (by kernel_rfl) (HBK.out _) (fun Wq hbq => hK _ _ ?_))
      have HQC := Lib.hid hbq; clear hbq hK K
      refine wpList_val0 (.tuple #[.agg (knL a0).toArray, .agg (knL c0).toArray, .int .i64 (ev : Int)]) rfl (by kernel_rfl) ?_
      refine wpList_val0 (.agg (knL a0).toArray) rfl (by kernel_rfl) ?_
      refine wpList_val0 (.agg (knL c0).toArray) rfl (by kernel_rfl) ?_
      refine wpList_val0 (.int .i64 (ev : Int)) rfl (by kernel_rfl) ?_
      obtain ⟨bC, hb12⟩ : ∃ b, b = Wq.heap.size := ⟨_, rfl⟩
      refine wpList_value (w' := Wq.alloc (.cells #[.bool false, .bool false, .int .u32 0, .int .u32 0, .bool false, .int .u32 0, .int .u32 0, .bool false, .int .u32 0, .int .u32 0, .bool false, .int .u32 0, .int .u32 0, .bool false, .int .u32 0, .int .u32 0, .bool false, .int .u32 0, .int .u32 0, .bool false, .int .u32 0, .int .u32 0, .bool false, .int .u32 0, .int .u32 0, .bool false, .int .u32 0, .int .u32 0, .bool false, .int .u32 0, .int .u32 0] 42)) (.pointer (some ⟨bC, 0, none⟩)) rfl (by rw [hb12]; kernel_rfl) ?_
      have hn8 : Blk (Wq.alloc (.cells #[.bool false, .bool false, .int .u32 0, .int .u32 0, .bool false, .int .u32 0, .int .u32 0, .bool false, .int .u32 0, .int .u32 0, .bool false, .int .u32 0, .int .u32 0, .bool false, .int .u32 0, .int .u32 0, .bool false, .int .u32 0, .int .u32 0, .bool false, .int .u32 0, .int .u32 0, .bool false, .int .u32 0, .int .u32 0, .bool false, .int .u32 0, .int .u32 0, .bool false, .int .u32 0, .int .u32 0] 42)) bC 42 31 (knF kn0) := by rw [hb12]; exact zkB Wq _ rfl
      have hb8 : Below Wq.heap.size Wq (Wq.alloc (.cells #[.bool false, .bool false, .int .u32 0, .int .u32 0, .bool false, .int .u32 0, .int .u32 0, .bool false, .int .u32 0, .int .u32 0, .bool false, .int .u32 0, .int .u32 0, .bool false, .int .u32 0, .int .u32 0, .bool false, .int .u32 0, .int .u32 0, .bool false, .int .u32 0, .int .u32 0, .bool false, .int .u32 0, .int .u32 0, .bool false, .int .u32 0, .int .u32 0, .bool false, .int .u32 0, .int .u32 0] 42)) := (Below.refl _ _).alloc (Nat.le_refl _) _
      obtain ⟨W8, hW8⟩ : ∃ W8, W8 = Wq.alloc (.cells #[.bool false, .bool false, .int .u32 0, .int .u32 0, .bool false, .int .u32 0, .int .u32 0, .bool false, .int .u32 0, .int .u32 0, .bool false, .int .u32 0, .int .u32 0, .bool false, .int .u32 0, .int .u32 0, .bool false, .int .u32 0, .int .u32 0, .bool false, .int .u32 0, .int .u32 0, .bool false, .int .u32 0, .int .u32 0, .bool false, .int .u32 0, .int .u32 0, .bool false, .int .u32 0, .int .u32 0] 42) := ⟨_, rfl⟩
      have hz8 : W8.heap.size = bC + 1 := by rw [hW8, hb12]; simp
      rw [← hW8] at hn8 hb8 ⊢
      refine wpList_value (w' := W8.alloc (.cells #[.bool false, .bool false, .int .u32 0, .int .u32 0, .bool false, .int .u32 0, .int .u32 0, .bool false, .int .u32 0, .int .u32 0, .bool false, .int .u32 0, .int .u32 0, .bool false, .int .u32 0, .int .u32 0, .bool false, .int .u32 0, .int .u32 0, .bool false, .int .u32 0, .int .u32 0, .bool false, .int .u32 0, .int .u32 0, .bool false, .int .u32 0, .int .u32 0, .bool false, .int .u32 0, .int .u32 0] 42)) (.pointer (some ⟨bC + 1, 0, none⟩)) rfl (by rw [← hz8]; kernel_rfl) ?_
      have hj9 : Blk (W8.alloc (.cells #[.bool false, .bool false, .int .u32 0, .int .u32 0, .bool false, .int .u32 0, .int .u32 0, .bool false, .int .u32 0, .int .u32 0, .bool false, .int .u32 0, .int .u32 0, .bool false, .int .u32 0, .int .u32 0, .bool false, .int .u32 0, .int .u32 0, .bool false, .int .u32 0, .int .u32 0, .bool false, .int .u32 0, .int .u32 0, .bool false, .int .u32 0, .int .u32 0, .bool false, .int .u32 0, .int .u32 0] 42)) (bC + 1) 42 31 (knF kn0) := by rw [← hz8]; exact zkB W8 _ rfl
      have hb9 : Below W8.heap.size W8 (W8.alloc (.cells #[.bool false, .bool false, .int .u32 0, .int .u32 0, .bool false, .int .u32 0, .int .u32 0, .bool false, .int .u32 0, .int .u32 0, .bool false, .int .u32 0, .int .u32 0, .bool false, .int .u32 0, .int .u32 0, .bool false, .int .u32 0, .int .u32 0, .bool false, .int .u32 0, .int .u32 0, .bool false, .int .u32 0, .int .u32 0, .bool false, .int .u32 0, .int .u32 0, .bool false, .int .u32 0, .int .u32 0] 42)) := (Below.refl _ _).alloc (Nat.le_refl _) _
      obtain ⟨W9, hW9⟩ : ∃ W9, W9 = W8.alloc (.cells #[.bool false, .bool false, .int .u32 0, .int .u32 0, .bool false, .int .u32 0, .int .u32 0, .bool false, .int .u32 0, .int .u32 0, .bool false, .int .u32 0, .int .u32 0, .bool false, .int .u32 0, .int .u32 0, .bool false, .int .u32 0, .int .u32 0, .bool false, .int .u32 0, .int .u32 0, .bool false, .int .u32 0, .int .u32 0, .bool false, .int .u32 0, .int .u32 0, .bool false, .int .u32 0, .int .u32 0] 42) := ⟨_, rfl⟩
      rw [← hW9] at hj9 hb9 ⊢
      have hn9 := hn8.below hb9
      refine wpList_store_mid rfl 42 (.tmp 12) (.tmp 93) (by kernel_rfl) bC 0 (knL a0).toArray (by kernel_rfl) (by kernel_rfl) (by rw [knA_size]; exact there_blk hn9) (by rw [knA_size]; exact info_kn) (knL_one _) ?_
      rw [knL_tl]
      have hk1 : Kp (fun b => b = bC) W9 (W9.setCells bC 0 (rowF 31 (knF a0))) := Kp.setCells (M := fun b => b = bC) (.inl rfl) _ _ _ (Kp.refl _ _)
      refine wpList_store_mid rfl 42 (.tmp 13) (.tmp 94) (by kernel_rfl) (bC + 1) 0 (knL c0).toArray (by kernel_rfl) (by kernel_rfl) (by rw [knA_size]; exact there_blk (hj9.keep hk1 (by omega))) (by rw [knA_size]; exact info_kn) (knL_one _) ?_
      rw [knL_tl]
      have hk2 : Kp (fun b => b = bC + 1) (W9.setCells bC 0 (rowF 31 (knF a0))) ((W9.setCells bC 0 (rowF 31 (knF a0))).setCells (bC + 1) 0 (rowF 31 (knF c0))) := Kp.setCells (M := fun b => b = bC + 1) (.inl rfl) _ _ _ (Kp.refl _ _)
      obtain ⟨WC, hWz⟩ : ∃ Wz, Wz = (W9.setCells bC 0 (rowF 31 (knF a0))).setCells (bC + 1) 0 (rowF 31 (knF c0)) := ⟨_, rfl⟩
      have hnz : Blk WC bC 42 31 (knF a0) := by rw [hWz]; exact (hn9.fill (knF a0)).keep hk2 (by omega)
      have hjz : Blk WC (bC + 1) 42 31 (knF c0) := by rw [hWz]; exact (hj9.keep hk1 (by omega)).fill (knF c0)
      have h7z : Below Wq.heap.size Wq WC := by rw [hWz]; exact (Kp.setCells (w := Wq) (b := bC + 1) (.inr (by omega)) _ _ _ (Kp.setCells (w := Wq) (b := bC) (.inr (by omega)) _ _ _ (Kp.of_below (hb8.trans (hb9.mono hb8.size)) No))).below
      rw [← hWz]
      have HXC := Lib.hid (HQC.out.trans (h7z.mono HQC.out.size))
      have HNC := Lib.hid hnz
      have HJC := Lib.hid hjz
      clear hWz hk1 hk2 hnz hjz h7z hn9 hn8 hj9 hb8 hb9 hW9 hW8 hz8 hb12

      have HD := Lib.hid (HC.out.more HXC.out)
      have HKD := Lib.hid (HKC.out.below HXC.out)
      go_upto_region 13 with fail

      refine wp_region_list ?_
      refine wpList_load_mid rfl 45 (.tmp 3) (by kernel_rfl) w.heap.size 0 (by kernel_rfl) [.int .i64 (i.op : Int), .int .i64 (i.dst : Int), .int .i64 (i.src : Int), .int .i64 i.off, .int .u32 (i.imm : Int)] _ (by have := HD.out.ii.range; exact this) Try.underlying45 rfl size_ins ?_
      refine wpList_val0 (.int .i64 (ctx : Int)) rfl (by kernel_rfl) ?_
      refine wpList_ldk 99 7 kb 0 kc (by kernel_rfl) (by kernel_rfl) HKD.out.range ?_
      refine wpList_plain rfl (fun K hK => wp_calls_ret (v := .tuple #[.agg (knL a1).toArray, .agg (knL c1).toArray, .int .i64 (fv : Int)]) (R := Below WC.heap.size WC) (by kernel_rfl) (HFK.out _) (fun Wq hbq => hK _ _ ?_))
      have HQD := Lib.hid hbq; clear hbq hK K
      refine wpList_val0 (.tuple #[.agg (knL a1).toArray, .agg (knL c1).toArray, .int .i64 (fv : Int)]) rfl (by kernel_rfl) ?_
      refine wpList_val0 (.agg (knL a1).toArray) rfl (by kernel_rfl) ?_
      refine wpList_val0 (.agg (knL c1).toArray) rfl (by kernel_rfl) ?_
      refine wpList_val0 (.int .i64 (fv : Int)) rfl (by kernel_rfl) ?_
      obtain ⟨bD, hb12⟩ : ∃ b, b = Wq.heap.size := ⟨_, rfl⟩
      refine wpList_value (w' := Wq.alloc (.cells #[.bool false, .bool false, .int .u32 0, .int .u32 0, .bool false, .int .u32 0, .int .u32 0, .bool false, .int .u32 0, .int .u32 0, .bool false, .int .u32 0, .int .u32 0, .bool false, .int .u32 0, .int .u32 0, .bool false, .int .u32 0, .int .u32 0, .bool false, .int .u32 0, .int .u32 0, .bool false, .int .u32 0, .int .u32 0, .bool false, .int .u32 0, .int .u32 0, .bool false, .int .u32 0, .int .u32 0] 42)) (.pointer (some ⟨bD, 0, none⟩)) rfl (by rw [hb12]; kernel_rfl) ?_
      have hn8 : Blk (Wq.alloc (.cells #[.bool false, .bool false, .int .u32 0, .int .u32 0, .bool false, .int .u32 0, .int .u32 0, .bool false, .int .u32 0, .int .u32 0, .bool false, .int .u32 0, .int .u32 0, .bool false, .int .u32 0, .int .u32 0, .bool false, .int .u32 0, .int .u32 0, .bool false, .int .u32 0, .int .u32 0, .bool false, .int .u32 0, .int .u32 0, .bool false, .int .u32 0, .int .u32 0, .bool false, .int .u32 0, .int .u32 0] 42)) bD 42 31 (knF kn0) := by rw [hb12]; exact zkB Wq _ rfl
      have hb8 : Below Wq.heap.size Wq (Wq.alloc (.cells #[.bool false, .bool false, .int .u32 0, .int .u32 0, .bool false, .int .u32 0, .int .u32 0, .bool false, .int .u32 0, .int .u32 0, .bool false, .int .u32 0, .int .u32 0, .bool false, .int .u32 0, .int .u32 0, .bool false, .int .u32 0, .int .u32 0, .bool false, .int .u32 0, .int .u32 0, .bool false, .int .u32 0, .int .u32 0, .bool false, .int .u32 0, .int .u32 0, .bool false, .int .u32 0, .int .u32 0] 42)) := (Below.refl _ _).alloc (Nat.le_refl _) _
      obtain ⟨W8, hW8⟩ : ∃ W8, W8 = Wq.alloc (.cells #[.bool false, .bool false, .int .u32 0, .int .u32 0, .bool false, .int .u32 0, .int .u32 0, .bool false, .int .u32 0, .int .u32 0, .bool false, .int .u32 0, .int .u32 0, .bool false, .int .u32 0, .int .u32 0, .bool false, .int .u32 0, .int .u32 0, .bool false, .int .u32 0, .int .u32 0, .bool false, .int .u32 0, .int .u32 0, .bool false, .int .u32 0, .int .u32 0, .bool false, .int .u32 0, .int .u32 0] 42) := ⟨_, rfl⟩
      have hz8 : W8.heap.size = bD + 1 := by rw [hW8, hb12]; simp
      rw [← hW8] at hn8 hb8 ⊢
      refine wpList_value (w' := W8.alloc (.cells #[.bool false, .bool false, .int .u32 0, .int .u32 0, .bool false, .int .u32 0, .int .u32 0, .bool false, .int .u32 0, .int .u32 0, .bool false, .int .u32 0, .int .u32 0, .bool false, .int .u32 0, .int .u32 0, .bool false, .int .u32 0, .int .u32 0, .bool false, .int .u32 0, .int .u32 0, .bool false, .int .u32 0, .int .u32 0, .bool false, .int .u32 0, .int .u32 0, .bool false, .int .u32 0, .int .u32 0] 42)) (.pointer (some ⟨bD + 1, 0, none⟩)) rfl (by rw [← hz8]; kernel_rfl) ?_
      have hj9 : Blk (W8.alloc (.cells #[.bool false, .bool false, .int .u32 0, .int .u32 0, .bool false, .int .u32 0, .int .u32 0, .bool false, .int .u32 0, .int .u32 0, .bool false, .int .u32 0, .int .u32 0, .bool false, .int .u32 0, .int .u32 0, .bool false, .int .u32 0, .int .u32 0, .bool false, .int .u32 0, .int .u32 0, .bool false, .int .u32 0, .int .u32 0, .bool false, .int .u32 0, .int .u32 0, .bool false, .int .u32 0, .int .u32 0] 42)) (bD + 1) 42 31 (knF kn0) := by rw [← hz8]; exact zkB W8 _ rfl
      have hb9 : Below W8.heap.size W8 (W8.alloc (.cells #[.bool false, .bool false, .int .u32 0, .int .u32 0, .bool false, .int .u32 0, .int .u32 0, .bool false, .int .u32 0, .int .u32 0, .bool false, .int .u32 0, .int .u32 0, .bool false, .int .u32 0, .int .u32 0, .bool false, .int .u32 0, .int .u32 0, .bool false, .int .u32 0, .int .u32 0, .bool false, .int .u32 0, .int .u32 0, .bool false, .int .u32 0, .int .u32 0, .bool false, .int .u32 0, .int .u32 0] 42)) := (Below.refl _ _).alloc (Nat.le_refl _) _
      obtain ⟨W9, hW9⟩ : ∃ W9, W9 = W8.alloc (.cells #[.bool false, .bool false, .int .u32 0, .int .u32 0, .bool false, .int .u32 0, .int .u32 0, .bool false, .int .u32 0, .int .u32 0, .bool false, .int .u32 0, .int .u32 0, .bool false, .int .u32 0, .int .u32 0, .bool false, .int .u32 0, .int .u32 0, .bool false, .int .u32 0, .int .u32 0, .bool false, .int .u32 0, .int .u32 0, .bool false, .int .u32 0, .int .u32 0, .bool false, .int .u32 0, .int .u32 0] 42) := ⟨_, rfl⟩
      rw [← hW9] at hj9 hb9 ⊢
      have hn9 := hn8.below hb9
      refine wpList_store_mid rfl 42 (.tmp 15) (.tmp 101) (by kernel_rfl) bD 0 (knL a1).toArray (by kernel_rfl) (by kernel_rfl) (by rw [knA_size]; exact there_blk hn9) (by rw [knA_size]; exact info_kn) (knL_one _) ?_
      rw [knL_tl]
      have hk1 : Kp (fun b => b = bD) W9 (W9.setCells bD 0 (rowF 31 (knF a1))) := Kp.setCells (M := fun b => b = bD) (.inl rfl) _ _ _ (Kp.refl _ _)
      refine wpList_store_mid rfl 42 (.tmp 16) (.tmp 102) (by kernel_rfl) (bD + 1) 0 (knL c1).toArray (by kernel_rfl) (by kernel_rfl) (by rw [knA_size]; exact there_blk (hj9.keep hk1 (by omega))) (by rw [knA_size]; exact info_kn) (knL_one _) ?_
      rw [knL_tl]
      have hk2 : Kp (fun b => b = bD + 1) (W9.setCells bD 0 (rowF 31 (knF a1))) ((W9.setCells bD 0 (rowF 31 (knF a1))).setCells (bD + 1) 0 (rowF 31 (knF c1))) := Kp.setCells (M := fun b => b = bD + 1) (.inl rfl) _ _ _ (Kp.refl _ _)
      obtain ⟨WD, hWz⟩ : ∃ Wz, Wz = (W9.setCells bD 0 (rowF 31 (knF a1))).setCells (bD + 1) 0 (rowF 31 (knF c1)) := ⟨_, rfl⟩
      have hnz : Blk WD bD 42 31 (knF a1) := by rw [hWz]; exact (hn9.fill (knF a1)).keep hk2 (by omega)
      have hjz : Blk WD (bD + 1) 42 31 (knF c1) := by rw [hWz]; exact (hj9.keep hk1 (by omega)).fill (knF c1)
      have h7z : Below Wq.heap.size Wq WD := by rw [hWz]; exact (Kp.setCells (w := Wq) (b := bD + 1) (.inr (by omega)) _ _ _ (Kp.setCells (w := Wq) (b := bD) (.inr (by omega)) _ _ _ (Kp.of_below (hb8.trans (hb9.mono hb8.size)) No))).below
      rw [← hWz]
      have HXD := Lib.hid (HQD.out.trans (h7z.mono HQD.out.size))
      have HND := Lib.hid hnz
      have HJD := Lib.hid hjz
      clear hWz hk1 hk2 hnz hjz h7z hn9 hn8 hj9 hb8 hb9 hW9 hW8 hz8 hb12

      have HEw := Lib.hid (HD.out.b.trans (HXD.out.mono HD.out.b.size))
      have HNCe := Lib.hid (HNC.out.below HXD.out)
      have HJCe := Lib.hid (HJC.out.below HXD.out)
      by_cases hev : ev = 0
      · obtain ⟨hf0, hl1, hl2⟩ := HLEE.out hev
        subst hev
        subst hf0
        have HW1c := Lib.hid (fun W => lawwithin_ok W a1 a0 hl1)
        have HW2c := Lib.hid (fun W => lawwithin_ok W c1 c0 hl2)
        clear hl1 hl2
        go_wp2_with (first | (refine wpList_ldk 110 15 bD 0 a1 (by kernel_rfl) (by kernel_rfl) HND.out.range ?_) | (refine wpList_ldk 111 12 bC 0 a0 (by kernel_rfl) (by kernel_rfl) HNCe.out.range ?_) | (refine wpList_ldk 115 16 (bD + 1) 0 c1 (by kernel_rfl) (by kernel_rfl) (HJD.out.below HBr.out).range ?_) | (refine wpList_ldk 116 13 (bC + 1) 0 c0 (by kernel_rfl) (by kernel_rfl) (HJCe.out.below HBr.out).range ?_) | (go_at_call 21; first | ((with_reducible refine (HW1c.out _).mono ?_); rintro e' Wr ⟨rfl, hbr⟩; have HBr := Lib.hid hbr; clear hbr) | ((with_reducible refine (HW2c.out _).mono ?_); rintro e' Ws ⟨rfl, hbs⟩; have HBs := Lib.hid hbs; clear hbs)) | (go_at_call 11; (with_reducible refine (HKN.out _).mono ?_); rintro e' Wt ⟨rfl, hbt⟩; have HBt := Lib.hid hbt; clear hbt))
        go_ret
        have hb1 := HEw.out.trans (HBr.out.mono HEw.out.size)
        have hb2 := hb1.trans (HBs.out.mono hb1.size)
        exact ⟨rfl, hb2.trans (HBt.out.mono hb2.size)⟩
      · have hevi : ((ev : Int) == 0) = false := by simpa using hev
        go_wp2_with (go_at_call 11; (with_reducible refine (HKN.out _).mono ?_); rintro e' W9 ⟨rfl, hb9⟩; have HB9 := Lib.hid hb9; clear hb9)
        go_ret
        exact ⟨rfl, HEw.out.trans (HB9.out.mono HEw.out.size)⟩
end Go.Proofs.Ytjlddhnjbjhmkaa
