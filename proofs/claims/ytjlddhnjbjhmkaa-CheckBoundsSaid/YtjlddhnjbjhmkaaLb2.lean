/- Layer 6: bytes of memory at their bounds. -/
import Derived.Test.YtjlddhnjbjhmkaaLb1
import Derived.BigQuiet
set_option linter.unusedVariables false
set_option linter.unusedSimpArgs false
namespace Go.Proofs.Ytjlddhnjbjhmkaa
open Go.RowKit

set_option maxRecDepth 100000 in
set_option maxHeartbeats 3000000 in
theorem bounds_in (w : World) (l g : Nat) (off : Int) (cx : Nat) (hg : g < 4294967296) (hlg : l ≤ g) (ho1 : -32768 ≤ off) (ho2 : off ≤ 32767) (hcx : cx ≤ 256) :
    Calls Try.prog 6 #[.agg #[.bool true, .int .u32 (l : Int), .int .u32 (g : Int)], .int .i64 off, .int .i64 (cx : Int)] w fun e w' => e = .returned (.bool true) ∧ Below w.heap.size w w' := by
  have HKN := Lib.hid lawknown_ok
  have HMY := Lib.hid (bounds_may off ho1 ho2)
  have HRT0 := Lib.hid (bounds_k l g hg hlg)
  have hn0 : ¬ (g : Int) < (l : Int) := by omega
  have hn1 : ¬ off < -32768 := by omega
  have hn2 : ¬ (32767 : Int) < off := by omega
  have hn3 : ¬ (cx : Int) < 0 := by omega
  have hn4 : ¬ (256 : Int) < (cx : Int) := by omega
  go_enter Try.func6, Try.ntmps6
  go_upto_region 3 with fail
  have hB0 : Blk (w.alloc (.cells #[.bool true, .int .u32 (l : Int), .int .u32 (g : Int)] 37)) w.heap.size 37 3 (fun j => [.bool true, .int .u32 (l : Int), .int .u32 (g : Int)].getD j undef) := Blk.litL w 37 [.bool true, .int .u32 (l : Int), .int .u32 (g : Int)]
  obtain ⟨Wa, hWa⟩ : ∃ Wa, Wa = w.alloc (.cells #[.bool true, .int .u32 (l : Int), .int .u32 (g : Int)] 37) := ⟨_, rfl⟩
  have hba : Below w.heap.size w Wa := by rw [hWa]; exact (Below.refl _ _).alloc (Nat.le_refl _) _
  have hza : Wa.heap.size = w.heap.size + 1 := by rw [hWa]; simp
  rw [← hWa] at hB0 ⊢
  clear hWa
  have HBA := Lib.hid hba; have HB0 := Lib.hid hB0; clear hba hB0
  refine wp_region_list ?_
  refine wpList_val0 (.agg (knL ⟨true, fun _ => rg0⟩).toArray) rfl (by kernel_rfl) ?_
  obtain ⟨kb, hkb⟩ : ∃ kb, kb = Wa.heap.size := ⟨_, rfl⟩
  refine wpList_value (w' := Wa.alloc (.cells #[.bool false, .bool false, .int .u32 0, .int .u32 0, .bool false, .int .u32 0, .int .u32 0, .bool false, .int .u32 0, .int .u32 0, .bool false, .int .u32 0, .int .u32 0, .bool false, .int .u32 0, .int .u32 0, .bool false, .int .u32 0, .int .u32 0, .bool false, .int .u32 0, .int .u32 0, .bool false, .int .u32 0, .int .u32 0, .bool false, .int .u32 0, .int .u32 0, .bool false, .int .u32 0, .int .u32 0] 42)) (.pointer (some ⟨kb, 0, none⟩)) rfl (by rw [hkb]; kernel_rfl) ?_
  have hk2 : Blk (Wa.alloc (.cells #[.bool false, .bool false, .int .u32 0, .int .u32 0, .bool false, .int .u32 0, .int .u32 0, .bool false, .int .u32 0, .int .u32 0, .bool false, .int .u32 0, .int .u32 0, .bool false, .int .u32 0, .int .u32 0, .bool false, .int .u32 0, .int .u32 0, .bool false, .int .u32 0, .int .u32 0, .bool false, .int .u32 0, .int .u32 0, .bool false, .int .u32 0, .int .u32 0, .bool false, .int .u32 0, .int .u32 0] 42)) kb 42 31 (knF kn0) := by rw [hkb]; exact zkB Wa _ rfl
  have hb2 : Below Wa.heap.size Wa (Wa.alloc (.cells #[.bool false, .bool false, .int .u32 0, .int .u32 0, .bool false, .int .u32 0, .int .u32 0, .bool false, .int .u32 0, .int .u32 0, .bool false, .int .u32 0, .int .u32 0, .bool false, .int .u32 0, .int .u32 0, .bool false, .int .u32 0, .int .u32 0, .bool false, .int .u32 0, .int .u32 0, .bool false, .int .u32 0, .int .u32 0, .bool false, .int .u32 0, .int .u32 0, .bool false, .int .u32 0, .int .u32 0] 42)) := (Below.refl _ _).alloc (Nat.le_refl _) _
  obtain ⟨W2, hW2⟩ : ∃ W2, W2 = Wa.alloc (.cells #[.bool false, .bool false, .int .u32 0, .int .u32 0, .bool false, .int .u32 0, .int .u32 0, .bool false, .int .u32 0, .int .u32 0, .bool false, .int .u32 0, .int .u32 0, .bool false, .int .u32 0, .int .u32 0, .bool false, .int .u32 0, .int .u32 0, .bool false, .int .u32 0, .int .u32 0, .bool false, .int .u32 0, .int .u32 0, .bool false, .int .u32 0, .int .u32 0, .bool false, .int .u32 0, .int .u32 0] 42) := ⟨_, rfl⟩
  rw [← hW2] at hk2 hb2 ⊢
  clear hW2
  refine wpList_store_mid rfl 42 (.tmp 7) (.tmp 42) (by kernel_rfl) kb 0 (knL ⟨true, fun _ => rg0⟩).toArray (by kernel_rfl) (by kernel_rfl) (by rw [knA_size]; exact there_blk hk2) (by rw [knA_size]; exact info_kn) (knL_one _) ?_
  have hk3 : Blk (W2.setCells kb 0 (knL ⟨true, fun _ => rg0⟩).toArray.toList) kb 42 31 (knF ⟨true, fun _ => rg0⟩) := by rw [knL_tl]; exact hk2.fill _
  have hkq : Kp (fun b => b = kb) W2 (W2.setCells kb 0 (knL ⟨true, fun _ => rg0⟩).toArray.toList) := Kp.setCells (M := fun b => b = kb) (.inl rfl) _ _ _ (Kp.refl _ _)
  have hb3 : Below w.heap.size w (W2.setCells kb 0 (knL ⟨true, fun _ => rg0⟩).toArray.toList) := (Kp.setCells (w := w) (b := kb) (.inr (by have := HBA.out.size; omega)) _ _ _ (Kp.of_below (HBA.out.trans (hb2.mono HBA.out.size)) No)).below
  obtain ⟨W3, hW3⟩ : ∃ W3, W3 = W2.setCells kb 0 (knL ⟨true, fun _ => rg0⟩).toArray.toList := ⟨_, rfl⟩
  rw [← hW3] at hk3 hkq hb3 ⊢
  have HR3 := Lib.hid ((HB0.out.below hb2).keep hkq (by omega))
  have HK3 := Lib.hid hk3
  have HB3 := Lib.hid hb3
  have hkw : w.heap.size < kb := by omega
  clear hW3 hkq hb3 hk3 hk2 hb2 hkb hza HB0 HBA
  go_upto_region 4 with fail
  refine wp_region_list ?_
  refine wpList_load_mid rfl 37 (.tmp 3) (by kernel_rfl) w.heap.size 0 (by kernel_rfl) [.bool true, .int .u32 (l : Int), .int .u32 (g : Int)] _ (blk_rg HR3.out) Try.underlying37 rfl (by kernel_rfl) ?_
  refine wpList_val0 (.agg #[.bool true, .int .u32 0, .int .u32 0]) rfl (by kernel_rfl) ?_
  refine wpList_val0 (.pointer (some ⟨kb, 1, none⟩)) rfl (by kernel_rfl) ?_
  refine wpList_val0 (.pointer (some ⟨kb, 1 + 2 * 3, none⟩)) rfl (by kernel_rfl) ?_
  refine wpList_store_mid rfl 37 (.tmp 46) (.tmp 43) (by kernel_rfl) kb (1 + 2 * 3) #[.bool true, .int .u32 (l : Int), .int .u32 (g : Int)] (by kernel_rfl) (by kernel_rfl) (there_mid HK3.out (1 + 2 * 3) 3 (by omega)) (by kernel_rfl) (by simp [Value.oneCell']) ?_
  refine wpList_val0 (.pointer (some ⟨kb, 1, none⟩)) rfl (by kernel_rfl) ?_
  refine wpList_val0 (.pointer (some ⟨kb, 1 + 5 * 3, none⟩)) rfl (by kernel_rfl) ?_
  refine wpList_store_mid rfl 37 (.tmp 48) (.tmp 44) (by kernel_rfl) kb (1 + 5 * 3) #[.bool true, .int .u32 0, .int .u32 0] (by kernel_rfl) (by kernel_rfl) (there_mid (HK3.out.setr 2 ⟨true, l, g⟩) (1 + 5 * 3) 3 (by omega)) (by kernel_rfl) (by simp [Value.oneCell']) ?_
  have hk4 := (HK3.out.setr 2 ⟨true, l, g⟩).setr 5 ⟨true, 0, 0⟩
  have hkp : Kp (fun b => b = kb) W3 ((W3.setCells kb (1 + 2 * 3) [.bool true, .int .u32 (l : Int), .int .u32 (g : Int)]).setCells kb (1 + 5 * 3) [.bool true, .int .u32 0, .int .u32 0]) := Kp.setCells (M := fun b => b = kb) (.inl rfl) _ _ _ (Kp.setCells (M := fun b => b = kb) (.inl rfl) _ _ _ (Kp.refl _ _))
  obtain ⟨W4, hW4⟩ : ∃ W4, W4 = (W3.setCells kb (1 + 2 * 3) [.bool true, .int .u32 (l : Int), .int .u32 (g : Int)]).setCells kb (1 + 5 * 3) [.bool true, .int .u32 0, .int .u32 0] := ⟨_, rfl⟩
  have hk4' : Blk W4 kb 42 31 (knF ⟨true, upd (upd (fun _ => rg0) 2 ⟨true, l, g⟩) 5 ⟨true, 0, 0⟩⟩) := by rw [hW4]; exact hk4
  rw [← hW4] at hkp
  obtain ⟨kk, hkk⟩ : ∃ kk : Kn, kk = ⟨true, upd (upd (fun _ => rg0) 2 ⟨true, l, g⟩) 5 ⟨true, 0, 0⟩⟩ := ⟨_, rfl⟩
  rw [← hkk] at hk4'
  have HRT : Hid kk.right := Lib.hid (by rw [hkk]; exact HRT0.out)
  have HKK := Lib.hid hkk
  have HK4 := Lib.hid hk4'
  have HR4 := Lib.hid (HR3.out.keep hkp (by omega))
  have HB4 : Hid (Below w.heap.size w W4) := Lib.hid (by rw [hW4]; exact (Kp.setCells (w := w) (b := kb) (.inr (by omega)) _ _ _ (Kp.setCells (w := w) (b := kb) (.inr (by omega)) _ _ _ (Kp.of_below HB3.out No))).below)
  show wpList _ _ _ _ _ ((W3.setCells kb (1 + 2 * 3) [.bool true, .int .u32 (l : Int), .int .u32 (g : Int)]).setCells kb (1 + 5 * 3) [.bool true, .int .u32 0, .int .u32 0])
  rw [← hW4]
  clear hW4 hkp hk4 hk4' hkk
  go_upto_region 7 with fail
  have hi5 : Blk (W4.alloc (.cells #[.int .i64 16, .int .i64 0, .int .i64 2, .int .i64 off, .int .u32 0, .int .i64 17, .int .i64 0, .int .i64 2, .int .i64 off, .int .u32 0, .int .i64 18, .int .i64 2, .int .i64 5, .int .i64 off, .int .u32 0] 45)) W4.heap.size 45 15 (fun j => [.int .i64 16, .int .i64 0, .int .i64 2, .int .i64 off, .int .u32 0, .int .i64 17, .int .i64 0, .int .i64 2, .int .i64 off, .int .u32 0, .int .i64 18, .int .i64 2, .int .i64 5, .int .i64 off, .int .u32 0].getD j undef) := Blk.litL W4 45 [.int .i64 16, .int .i64 0, .int .i64 2, .int .i64 off, .int .u32 0, .int .i64 17, .int .i64 0, .int .i64 2, .int .i64 off, .int .u32 0, .int .i64 18, .int .i64 2, .int .i64 5, .int .i64 off, .int .u32 0]
  obtain ⟨W5, hW5⟩ : ∃ W5, W5 = W4.alloc (.cells #[.int .i64 16, .int .i64 0, .int .i64 2, .int .i64 off, .int .u32 0, .int .i64 17, .int .i64 0, .int .i64 2, .int .i64 off, .int .u32 0, .int .i64 18, .int .i64 2, .int .i64 5, .int .i64 off, .int .u32 0] 45) := ⟨_, rfl⟩
  have hb5 : Below W4.heap.size W4 W5 := by rw [hW5]; exact (Below.refl _ _).alloc (Nat.le_refl _) _
  have hz5 : W5.heap.size = W4.heap.size + 1 := by rw [hW5]; simp
  rw [← hW5] at hi5 ⊢
  have hs6 : Blk (W5.alloc (.cells #[.int .i64 (cx : Int), .int .i64 64, .int .i64 64] 2)) W5.heap.size 2 3 (fun j => [.int .i64 (cx : Int), .int .i64 64, .int .i64 64].getD j undef) := Blk.litL W5 2 [.int .i64 (cx : Int), .int .i64 64, .int .i64 64]
  obtain ⟨Wp, hWp⟩ : ∃ Wp, Wp = W5.alloc (.cells #[.int .i64 (cx : Int), .int .i64 64, .int .i64 64] 2) := ⟨_, rfl⟩
  have hb6 : Below W5.heap.size W5 Wp := by rw [hWp]; exact (Below.refl _ _).alloc (Nat.le_refl _) _
  rw [← hWp, hz5] at hs6
  rw [← hWp]
  have HIp := Lib.hid (hi5.below hb6)
  have HSp := Lib.hid hs6
  have HRp := Lib.hid ((HR4.out.below hb5).below hb6)
  have HKp := Lib.hid ((HK4.out.below hb5).below hb6)
  have HBp := Lib.hid ((HB4.out.trans (hb5.mono HB4.out.size)).trans (hb6.mono (HB4.out.trans (hb5.mono HB4.out.size)).size))
  obtain ⟨ib, hib⟩ : ∃ ib, ib = W4.heap.size := ⟨_, rfl⟩
  rw [← hib] at HIp HSp ⊢
  clear hW5 hWp hi5 hs6 hb5 hb6 hz5 hib
  go_wp2
  go_loopw [10] (fun iv wr => ∃ n : Nat, n ≤ 3 ∧ iv = .int .i64 (n : Int) ∧ Below Wp.heap.size Wp wr) (fun iv _ => 3 - (intOf iv).toNat)
  case atStart => exact ⟨0, by omega, rfl, Below.refl _ _⟩
  case round =>
    obtain ⟨n, hn, rfl, hbr⟩ := hrel
    have HBR := Lib.hid hbr; clear hbr
    have hn4 : n = 0 ∨ n = 1 ∨ n = 2 ∨ n = 3 := by omega
    rcases hn4 with rfl | rfl | rfl | rfl
    · obtain ⟨nx, jx, ev, hbv, hbb⟩ := bh_cases cx ⟨16, 0, 2, off, 0⟩ kk
      have HEV := Lib.hid (bounds_ev cx 0 l g off 16 cx 0 2 (by simp) (by have := hbb; rw [HKK.out] at this; exact this))
      have hbk : ∀ W, Calls Try.prog 18 #[.agg #[.int .i64 16, .int .i64 0, .int .i64 2, .int .i64 off, .int .u32 0], .int .i64 (cx : Int), .agg (knL kk).toArray] W fun e w' => e = .returned (.tuple #[.agg (knL nx).toArray, .agg (knL jx).toArray, .int .i64 (ev : Int)]) ∧ Below W.heap.size W w' := fun W => by
        have := behind_ok W ⟨16, 0, 2, off, 0⟩ cx kk HMY.out.1 HRT.out hcx
        rw [hbv] at this
        exact this
      have HBK := Lib.hid hbk
      clear hbk hbb hbv
      go_upto_region 10 with fail

      obtain ⟨Wd, hWd⟩ : ∃ Wd, Wd = wr.drew := ⟨_, rfl⟩
      have hbd : Below wr.heap.size wr Wd := by rw [hWd]; exact (Below.refl _ _).drew
      have hzd : Wd.heap.size = wr.heap.size := by rw [hWd]; rfl
      refine wp_region_noPanic ?_
      refine planM (.rd 0 (.rd 1 (.rd 2 (.rd 3 (.rd 4 (.rd 5 (.many [(6, some 71), (7, some 64), (8, some 72), (9, some 73), (10, some 74), (11, some 11), (12, some 12), (13, none), (14, none)] (.rd 15 .done)))))))) [0, 1, 2, 3, 4, 5, 6, 7, 8, 9, 10, 11, 12, 13, 14] (fun W => Below wr.heap.size wr W) (by kernel_rfl) (by kernel_rfl) (fun _ _ _ _ _ h => h) (by rw [← hWd]; exact hbd) ?_
      rw [← hWd]
      clear hWd
      have HBD := Lib.hid hbd; have HZD := Lib.hid hzd; clear hbd hzd
      refine pm_pure rfl (fun K hK => ?_); go_simp; refine hK _ ?_; clear hK K
      refine pm_pure rfl (fun K hK => ?_); go_simp; refine hK _ ?_; clear hK K
      refine pm_pure rfl (fun K hK => ?_); go_simp; refine hK _ ?_; clear hK K
      refine pm_rdv 68 (.agg #[.int .i64 16, .int .i64 0, .int .i64 2, .int .i64 off, .int .u32 0]) rfl rfl rfl (fun W hS => exec_load_mid 45 (.tmp 67) rfl ib 0 (by kernel_rfl) [.int .i64 16, .int .i64 0, .int .i64 2, .int .i64 off, .int .u32 0] _ (by have := ((HIp.out.below (HBR.out.trans (hS.mono HBR.out.size))).rangeAt 0 5 (by omega)); exact this) Try.underlying45 rfl size_ins) ?_
      refine pm_pure rfl (fun K hK => ?_); go_simp; refine hK _ ?_; clear hK K
      refine pm_rdv 70 (.agg (knL kk).toArray) rfl rfl rfl (fun W hS => exec_load_mid 42 (.tmp 7) rfl kb 0 (by kernel_rfl) (knL kk) _ (by have := ((HKp.out.below (HBR.out.trans (hS.mono HBR.out.size)))).range; exact this) Try.underlying42 rfl (by rw [knL_length]; exact info_kn)) ?_
      refine pm_manyW (fun l v W => KJ 1 wr.heap.size (.tuple #[.agg (knL nx).toArray, .agg (knL jx).toArray, .int .i64 (ev : Int)]) (.agg (knL nx).toArray) (.agg (knL jx).toArray) (.int .i64 (ev : Int)) nx jx l v W) (KJ.zero _ _ _ _ _ _ _ _ _) ?_ ?_
      · intro q hq l v w1 hS hb hl hn hJ
        have E : ∀ (t : Nat) (a : Act), (∀ k, k ∈ [(6, some 71), (7, some 64), (8, some 72), (9, some 73), (10, some 74), (11, some 11), (12, some 12), (13, none), (14, none)] → k.2 ≠ some t) → (putM v l [(6, some 71), (7, some 64), (8, some 72), (9, some 73), (10, some 74), (11, some 11), (12, some 12), (13, none), (14, none)] a).tmps[t]?.getD undef = a.tmps[t]?.getD undef := fun t a h => by simpa [Array.getD_eq_getD_getElem?] using putM_eval_other (v := v) (l := l) t [(6, some 71), (7, some 64), (8, some 72), (9, some 73), (10, some 74), (11, some 11), (12, some 12), (13, none), (14, none)] a h
        have F : ∀ (k t : Nat) (a : Act), (k, some t) ∈ [(6, some 71), (7, some 64), (8, some 72), (9, some 73), (10, some 74), (11, some 11), (12, some 12), (13, none), (14, none)] → l k = true → t < a.tmps.size → (putM v l [(6, some 71), (7, some 64), (8, some 72), (9, some 73), (10, some 74), (11, some 11), (12, some 12), (13, none), (14, none)] a).tmps[t]?.getD undef = v k := fun k t a h1 h2 h3 => by simpa [Array.getD_eq_getD_getElem?] using putM_eval_at (v := v) (l := l) t [(6, some 71), (7, some 64), (8, some 72), (9, some 73), (10, some 74), (11, some 11), (12, some 12), (13, none), (14, none)] a k (by kernel_rfl) h1 h2 h3
        simp only [List.mem_cons, List.not_mem_nil, or_false] at hq
        rcases hq with rfl | rfl | rfl | rfl | rfl | rfl | rfl | rfl | rfl
        · refine pm_one rfl rfl (fun K' hK => ?_)
          refine wp_calls_ret (f := 18) (args := #[.agg #[.int .i64 16, .int .i64 0, .int .i64 2, .int .i64 off, .int .u32 0], .int .i64 (cx : Int), .agg (knL kk).toArray]) ?_ (HBK.out w1) (fun w3 hb3 => ?_)
          · simp [execOp, go_sem]
            exact ⟨(E 68 _ (by simp)).trans rfl, (E 69 _ (by simp)).trans rfl, (E 70 _ (by simp)).trans rfl⟩
          exact hK _ _ ⟨_, rfl, Below.trans hS (hb3.mono hS.size), Below.trans hb (hb3.mono hb.size), hJ.up hb3 6 (by omega) _ (.inl ⟨rfl, rfl⟩)⟩
        · have l7 : l 6 = true := hn (6, some 71) (by simp) (by kernel_rfl)
          refine pm_one rfl rfl (fun K' hK => ?_)
          refine wp_value (w' := w1) _ (exec_mv 71 rfl _ ((F 6 71 _ (by simp) l7 (by simp [Act.put])).trans (hJ.a7 6 rfl l7))) ?_
          exact hK _ _ ⟨_, rfl, hS, hb, hJ.up (Below.refl _ _) 7 (by omega) _ (.inr (.inl ⟨rfl, rfl⟩))⟩
        · have l8 : l 7 = true := hn (7, some 64) (by simp) (by kernel_rfl)
          refine pm_one rfl rfl (fun K' hK => ?_)
          refine wp_value (w' := w1) (.agg (knL nx).toArray) (exec_extract 64 0 rfl _ _ ((F 7 64 _ (by simp) l8 (by simp [Act.put])).trans (hJ.a8 7 rfl l8)) rfl) ?_
          exact hK _ _ ⟨_, rfl, hS, hb, hJ.up (Below.refl _ _) 8 (by omega) _ (.inr (.inr (.inl ⟨rfl, rfl⟩)))⟩
        · have l8 : l 7 = true := hn (7, some 64) (by simp) (by kernel_rfl)
          refine pm_one rfl rfl (fun K' hK => ?_)
          refine wp_value (w' := w1) (.agg (knL jx).toArray) (exec_extract 64 1 rfl _ _ ((F 7 64 _ (by simp) l8 (by simp [Act.put])).trans (hJ.a8 7 rfl l8)) rfl) ?_
          exact hK _ _ ⟨_, rfl, hS, hb, hJ.up (Below.refl _ _) 9 (by omega) _ (.inr (.inr (.inr (.inl ⟨rfl, rfl⟩))))⟩
        · have l8 : l 7 = true := hn (7, some 64) (by simp) (by kernel_rfl)
          refine pm_one rfl rfl (fun K' hK => ?_)
          refine wp_value (w' := w1) (.int .i64 (ev : Int)) (exec_extract 64 2 rfl _ _ ((F 7 64 _ (by simp) l8 (by simp [Act.put])).trans (hJ.a8 7 rfl l8)) rfl) ?_
          exact hK _ _ ⟨_, rfl, hS, hb, hJ.up (Below.refl _ _) 10 (by omega) _ (.inr (.inr (.inr (.inr ⟨rfl, rfl⟩))))⟩
        · refine pm_one rfl rfl (fun K' hK => ?_)
          refine wp_value (w' := w1.alloc (.cells #[.bool false, .bool false, .int .u32 0, .int .u32 0, .bool false, .int .u32 0, .int .u32 0, .bool false, .int .u32 0, .int .u32 0, .bool false, .int .u32 0, .int .u32 0, .bool false, .int .u32 0, .int .u32 0, .bool false, .int .u32 0, .int .u32 0, .bool false, .int .u32 0, .int .u32 0, .bool false, .int .u32 0, .int .u32 0, .bool false, .int .u32 0, .int .u32 0, .bool false, .int .u32 0, .int .u32 0] 42)) (.pointer (some ⟨w1.heap.size, 0, none⟩)) (by kernel_rfl) ?_
          have hb3 : Below w1.heap.size w1 (w1.alloc (.cells #[.bool false, .bool false, .int .u32 0, .int .u32 0, .bool false, .int .u32 0, .int .u32 0, .bool false, .int .u32 0, .int .u32 0, .bool false, .int .u32 0, .int .u32 0, .bool false, .int .u32 0, .int .u32 0, .bool false, .int .u32 0, .int .u32 0, .bool false, .int .u32 0, .int .u32 0, .bool false, .int .u32 0, .int .u32 0, .bool false, .int .u32 0, .int .u32 0, .bool false, .int .u32 0, .int .u32 0] 42)) := (Below.refl _ _).alloc (Nat.le_refl _) _
          exact hK _ _ ⟨_, rfl, Below.trans hS (hb3.mono hS.size), Below.trans hb (hb3.mono hb.size), hJ.al12 11 (by omega) rfl hl hS.size _ rfl⟩
        · refine pm_one rfl rfl (fun K' hK => ?_)
          refine wp_value (w' := w1.alloc (.cells #[.bool false, .bool false, .int .u32 0, .int .u32 0, .bool false, .int .u32 0, .int .u32 0, .bool false, .int .u32 0, .int .u32 0, .bool false, .int .u32 0, .int .u32 0, .bool false, .int .u32 0, .int .u32 0, .bool false, .int .u32 0, .int .u32 0, .bool false, .int .u32 0, .int .u32 0, .bool false, .int .u32 0, .int .u32 0, .bool false, .int .u32 0, .int .u32 0, .bool false, .int .u32 0, .int .u32 0] 42)) (.pointer (some ⟨w1.heap.size, 0, none⟩)) (by kernel_rfl) ?_
          have hb3 : Below w1.heap.size w1 (w1.alloc (.cells #[.bool false, .bool false, .int .u32 0, .int .u32 0, .bool false, .int .u32 0, .int .u32 0, .bool false, .int .u32 0, .int .u32 0, .bool false, .int .u32 0, .int .u32 0, .bool false, .int .u32 0, .int .u32 0, .bool false, .int .u32 0, .int .u32 0, .bool false, .int .u32 0, .int .u32 0, .bool false, .int .u32 0, .int .u32 0, .bool false, .int .u32 0, .int .u32 0, .bool false, .int .u32 0, .int .u32 0] 42)) := (Below.refl _ _).alloc (Nat.le_refl _) _
          exact hK _ _ ⟨_, rfl, Below.trans hS (hb3.mono hS.size), Below.trans hb (hb3.mono hb.size), hJ.al13 12 (by omega) rfl hl hS.size _ rfl⟩
        · have l9 : l 8 = true := hn (8, some 72) (by simp) (by kernel_rfl)
          have l12 : l 11 = true := hn (11, some 11) (by simp) (by kernel_rfl)
          obtain ⟨b, hv, hzb, hB⟩ := hJ.a12 11 rfl l12
          refine pm_one rfl rfl (fun K' hK => ?_)
          refine wp_store_mid 42 (.tmp 11) (.tmp 72) rfl b 0 (knL nx).toArray (ev_tmp ((F 11 11 _ (by simp) l12 (by simp [Act.put])).trans hv)) (ev_tmp ((F 8 72 _ (by simp) l9 (by simp [Act.put])).trans (hJ.a9 8 rfl l9))) (by rw [knA_size]; exact there_blk hB) (by rw [knA_size]; exact info_kn) (knL_one _) ?_
          rw [knL_tl]
          exact hK _ _ ⟨undef, rfl, (Kp.setCells (w := wr) (b := b) (.inr hzb) _ _ _ (Kp.of_below hS No)).below, (Kp.setCells (w := Wd) (b := b) (.inr (by rw [HZD.out]; exact hzb)) _ _ _ (Kp.of_below hb No)).below, hJ.st14 13 (by omega) rfl l12 hv _⟩
        · have l9 : l 9 = true := hn (9, some 73) (by simp) (by kernel_rfl)
          have l12 : l 12 = true := hn (12, some 12) (by simp) (by kernel_rfl)
          obtain ⟨b, hv, hzb, hB⟩ := hJ.a13 12 rfl l12
          refine pm_one rfl rfl (fun K' hK => ?_)
          refine wp_store_mid 42 (.tmp 12) (.tmp 73) rfl b 0 (knL jx).toArray (ev_tmp ((F 12 12 _ (by simp) l12 (by simp [Act.put])).trans hv)) (ev_tmp ((F 9 73 _ (by simp) l9 (by simp [Act.put])).trans (hJ.a10 9 rfl l9))) (by rw [knA_size]; exact there_blk hB) (by rw [knA_size]; exact info_kn) (knL_one _) ?_
          rw [knL_tl]
          exact hK _ _ ⟨undef, rfl, (Kp.setCells (w := wr) (b := b) (.inr hzb) _ _ _ (Kp.of_below hS No)).below, (Kp.setCells (w := Wd) (b := b) (.inr (by rw [HZD.out]; exact hzb)) _ _ _ (Kp.of_below hb No)).below, hJ.st15 14 (by omega) rfl l12 hv _⟩
      · intro lq vq W7 hS hb hl hJ
        have l7 := hl (6, some 71) (by simp)
        have l14 := hl (13, none) (by simp)
        have l15 := hl (14, none) (by simp)
        obtain ⟨b7, v12, hz7, hB7⟩ := hJ.a12 11 rfl (hl (11, some 11) (by simp))
        obtain ⟨b8, v13, hz8, hB8⟩ := hJ.a13 12 rfl (hl (12, some 12) (by simp))
        rw [if_pos l14] at hB7
        rw [if_pos l15] at hB8
        have v7 := hJ.a7 6 rfl l7
        have v8 := hJ.a8 7 rfl (hl (7, some 64) (by simp))
        have v9 := hJ.a9 8 rfl (hl (8, some 72) (by simp))
        have v10 := hJ.a10 9 rfl (hl (9, some 73) (by simp))
        have v11 := hJ.a11 10 rfl (hl (10, some 74) (by simp))
        have hne := hJ.e 11 rfl (hl (11, some 11) (by simp)) (hl (12, some 12) (by simp))
        have hne7 : b7 ≠ b8 := fun e => hne (by rw [v12, v13, e])
        simp only [putM, if_true, v7, v8, v9, v10, v11, v12, v13]
        clear hJ v7 v8 v9 v10 v11 v12 v13 hl l7 l14 l15 hne
        have HS7 := Lib.hid hS
        have HN7 := Lib.hid hB7
        have HJ8 := Lib.hid hB8
        clear hS hb hB7 hB8
        repeat (refine pm_pure rfl (fun K hK => ?_); go_simp; refine hK _ ?_; clear hK K)
        refine pm_done ?_
        refine NoPanic.normal ?_
        have HB7 := Lib.hid (HBR.out.trans (HS7.out.mono HBR.out.size))
        have c1 : W7.cell? ⟨w.heap.size, 1, none⟩ = some (.int .u32 (l : Int)) := (HRp.out.below HB7.out).cell 1 (by simp)
        have c2 : W7.cell? ⟨w.heap.size, 2, none⟩ = some (.int .u32 (g : Int)) := (HRp.out.below HB7.out).cell 2 (by simp)
        have c3 : W7.cell? ⟨ib + 1, 0, none⟩ = some (.int .i64 (cx : Int)) := (HSp.out.below HB7.out).cell 0 (by simp)
        have HFB : Hid (fitsB l g off cx = (decide (0 ≤ (l : Int) + off) && decide ((g : Int) + off < (cx : Int)))) := Lib.hid rfl
        go_upto_region 11 with fail
        go_cut [14] from 75 to 92 (fun s wx => s = .bool (fitsB l g off cx) ∧ Below W7.heap.size W7 wx)
        case first =>
          by_cases h1 : 0 ≤ (l : Int) + off
          · by_cases h2 : (g : Int) + off < (cx : Int)
            · have d1 : decide (0 ≤ (l : Int) + off) = true := decide_eq_true h1
              have d2 : decide ((g : Int) + off < (cx : Int)) = true := decide_eq_true h2
              go_quiet (fail)
              all_goals (go_wp2_with fail; go_meet; exact ⟨by rw [HFB.out, d1, d2]; rfl, ⟨rfl, rfl, rfl, Nat.le_refl _, fun _ _ => rfl⟩⟩)
            · have d1 : decide (0 ≤ (l : Int) + off) = true := decide_eq_true h1
              have d2 : decide ((g : Int) + off < (cx : Int)) = false := decide_eq_false h2
              go_quiet (fail)
              all_goals (go_wp2_with fail; go_meet; exact ⟨by rw [HFB.out, d1, d2]; rfl, ⟨rfl, rfl, rfl, Nat.le_refl _, fun _ _ => rfl⟩⟩)
          · have d1 : decide (0 ≤ (l : Int) + off) = false := decide_eq_false h1
            go_quiet (fail)
            all_goals (go_wp2_with fail; go_meet; exact ⟨by rw [HFB.out, d1]; rfl, ⟨rfl, rfl, rfl, Nat.le_refl _, fun _ _ => rfl⟩⟩)
        case rest =>
          obtain ⟨rfl, hwx⟩ := hcut
          have HBX := Lib.hid (HB7.out.trans (hwx.mono HB7.out.size))
          clear c1 c2 c3 hwx
          rcases hf : fitsB l g off cx with _ | _
          · have he : ev = 163 := by rw [HEV.out, hf]; rfl
            subst he
            go_wp2
            go_roundw
            case rel => exact ⟨1, by omega, by go_num, HBX.out⟩
            case measure => simp [intOf]
          · have he : ev = 0 := by rw [HEV.out, hf]; rfl
            subst he
            go_wp2
            go_roundw
            case rel => exact ⟨1, by omega, by go_num, HBX.out⟩
            case measure => simp [intOf]
    · obtain ⟨nx, jx, ev, hbv, hbb⟩ := bh_cases cx ⟨17, 0, 2, off, 0⟩ kk
      have HEV := Lib.hid (bounds_ev cx 1 l g off 17 64 0 2 (by simp) (by have := hbb; rw [HKK.out] at this; exact this))
      have hbk : ∀ W, Calls Try.prog 18 #[.agg #[.int .i64 17, .int .i64 0, .int .i64 2, .int .i64 off, .int .u32 0], .int .i64 (cx : Int), .agg (knL kk).toArray] W fun e w' => e = .returned (.tuple #[.agg (knL nx).toArray, .agg (knL jx).toArray, .int .i64 (ev : Int)]) ∧ Below W.heap.size W w' := fun W => by
        have := behind_ok W ⟨17, 0, 2, off, 0⟩ cx kk HMY.out.2.1 HRT.out hcx
        rw [hbv] at this
        exact this
      have HBK := Lib.hid hbk
      clear hbk hbb hbv
      go_upto_region 10 with fail

      obtain ⟨Wd, hWd⟩ : ∃ Wd, Wd = wr.drew := ⟨_, rfl⟩
      have hbd : Below wr.heap.size wr Wd := by rw [hWd]; exact (Below.refl _ _).drew
      have hzd : Wd.heap.size = wr.heap.size := by rw [hWd]; rfl
      refine wp_region_noPanic ?_
      refine planM (.rd 0 (.rd 1 (.rd 2 (.rd 3 (.rd 4 (.rd 5 (.many [(6, some 71), (7, some 64), (8, some 72), (9, some 73), (10, some 74), (11, some 11), (12, some 12), (13, none), (14, none)] (.rd 15 .done)))))))) [0, 1, 2, 3, 4, 5, 6, 7, 8, 9, 10, 11, 12, 13, 14] (fun W => Below wr.heap.size wr W) (by kernel_rfl) (by kernel_rfl) (fun _ _ _ _ _ h => h) (by rw [← hWd]; exact hbd) ?_
      rw [← hWd]
      clear hWd
      have HBD := Lib.hid hbd; have HZD := Lib.hid hzd; clear hbd hzd
      refine pm_pure rfl (fun K hK => ?_); go_simp; refine hK _ ?_; clear hK K
      refine pm_pure rfl (fun K hK => ?_); go_simp; refine hK _ ?_; clear hK K
      refine pm_pure rfl (fun K hK => ?_); go_simp; refine hK _ ?_; clear hK K
      refine pm_rdv 68 (.agg #[.int .i64 17, .int .i64 0, .int .i64 2, .int .i64 off, .int .u32 0]) rfl rfl rfl (fun W hS => exec_load_mid 45 (.tmp 67) rfl ib 5 (by kernel_rfl) [.int .i64 17, .int .i64 0, .int .i64 2, .int .i64 off, .int .u32 0] _ (by have := ((HIp.out.below (HBR.out.trans (hS.mono HBR.out.size))).rangeAt 5 5 (by omega)); exact this) Try.underlying45 rfl size_ins) ?_
      refine pm_pure rfl (fun K hK => ?_); go_simp; refine hK _ ?_; clear hK K
      refine pm_rdv 70 (.agg (knL kk).toArray) rfl rfl rfl (fun W hS => exec_load_mid 42 (.tmp 7) rfl kb 0 (by kernel_rfl) (knL kk) _ (by have := ((HKp.out.below (HBR.out.trans (hS.mono HBR.out.size)))).range; exact this) Try.underlying42 rfl (by rw [knL_length]; exact info_kn)) ?_
      refine pm_manyW (fun l v W => KJ 1 wr.heap.size (.tuple #[.agg (knL nx).toArray, .agg (knL jx).toArray, .int .i64 (ev : Int)]) (.agg (knL nx).toArray) (.agg (knL jx).toArray) (.int .i64 (ev : Int)) nx jx l v W) (KJ.zero _ _ _ _ _ _ _ _ _) ?_ ?_
      · intro q hq l v w1 hS hb hl hn hJ
        have E : ∀ (t : Nat) (a : Act), (∀ k, k ∈ [(6, some 71), (7, some 64), (8, some 72), (9, some 73), (10, some 74), (11, some 11), (12, some 12), (13, none), (14, none)] → k.2 ≠ some t) → (putM v l [(6, some 71), (7, some 64), (8, some 72), (9, some 73), (10, some 74), (11, some 11), (12, some 12), (13, none), (14, none)] a).tmps[t]?.getD undef = a.tmps[t]?.getD undef := fun t a h => by simpa [Array.getD_eq_getD_getElem?] using putM_eval_other (v := v) (l := l) t [(6, some 71), (7, some 64), (8, some 72), (9, some 73), (10, some 74), (11, some 11), (12, some 12), (13, none), (14, none)] a h
        have F : ∀ (k t : Nat) (a : Act), (k, some t) ∈ [(6, some 71), (7, some 64), (8, some 72), (9, some 73), (10, some 74), (11, some 11), (12, some 12), (13, none), (14, none)] → l k = true → t < a.tmps.size → (putM v l [(6, some 71), (7, some 64), (8, some 72), (9, some 73), (10, some 74), (11, some 11), (12, some 12), (13, none), (14, none)] a).tmps[t]?.getD undef = v k := fun k t a h1 h2 h3 => by simpa [Array.getD_eq_getD_getElem?] using putM_eval_at (v := v) (l := l) t [(6, some 71), (7, some 64), (8, some 72), (9, some 73), (10, some 74), (11, some 11), (12, some 12), (13, none), (14, none)] a k (by kernel_rfl) h1 h2 h3
        simp only [List.mem_cons, List.not_mem_nil, or_false] at hq
        rcases hq with rfl | rfl | rfl | rfl | rfl | rfl | rfl | rfl | rfl
        · refine pm_one rfl rfl (fun K' hK => ?_)
          refine wp_calls_ret (f := 18) (args := #[.agg #[.int .i64 17, .int .i64 0, .int .i64 2, .int .i64 off, .int .u32 0], .int .i64 (cx : Int), .agg (knL kk).toArray]) ?_ (HBK.out w1) (fun w3 hb3 => ?_)
          · simp [execOp, go_sem]
            exact ⟨(E 68 _ (by simp)).trans rfl, (E 69 _ (by simp)).trans rfl, (E 70 _ (by simp)).trans rfl⟩
          exact hK _ _ ⟨_, rfl, Below.trans hS (hb3.mono hS.size), Below.trans hb (hb3.mono hb.size), hJ.up hb3 6 (by omega) _ (.inl ⟨rfl, rfl⟩)⟩
        · have l7 : l 6 = true := hn (6, some 71) (by simp) (by kernel_rfl)
          refine pm_one rfl rfl (fun K' hK => ?_)
          refine wp_value (w' := w1) _ (exec_mv 71 rfl _ ((F 6 71 _ (by simp) l7 (by simp [Act.put])).trans (hJ.a7 6 rfl l7))) ?_
          exact hK _ _ ⟨_, rfl, hS, hb, hJ.up (Below.refl _ _) 7 (by omega) _ (.inr (.inl ⟨rfl, rfl⟩))⟩
        · have l8 : l 7 = true := hn (7, some 64) (by simp) (by kernel_rfl)
          refine pm_one rfl rfl (fun K' hK => ?_)
          refine wp_value (w' := w1) (.agg (knL nx).toArray) (exec_extract 64 0 rfl _ _ ((F 7 64 _ (by simp) l8 (by simp [Act.put])).trans (hJ.a8 7 rfl l8)) rfl) ?_
          exact hK _ _ ⟨_, rfl, hS, hb, hJ.up (Below.refl _ _) 8 (by omega) _ (.inr (.inr (.inl ⟨rfl, rfl⟩)))⟩
        · have l8 : l 7 = true := hn (7, some 64) (by simp) (by kernel_rfl)
          refine pm_one rfl rfl (fun K' hK => ?_)
          refine wp_value (w' := w1) (.agg (knL jx).toArray) (exec_extract 64 1 rfl _ _ ((F 7 64 _ (by simp) l8 (by simp [Act.put])).trans (hJ.a8 7 rfl l8)) rfl) ?_
          exact hK _ _ ⟨_, rfl, hS, hb, hJ.up (Below.refl _ _) 9 (by omega) _ (.inr (.inr (.inr (.inl ⟨rfl, rfl⟩))))⟩
        · have l8 : l 7 = true := hn (7, some 64) (by simp) (by kernel_rfl)
          refine pm_one rfl rfl (fun K' hK => ?_)
          refine wp_value (w' := w1) (.int .i64 (ev : Int)) (exec_extract 64 2 rfl _ _ ((F 7 64 _ (by simp) l8 (by simp [Act.put])).trans (hJ.a8 7 rfl l8)) rfl) ?_
          exact hK _ _ ⟨_, rfl, hS, hb, hJ.up (Below.refl _ _) 10 (by omega) _ (.inr (.inr (.inr (.inr ⟨rfl, rfl⟩))))⟩
        · refine pm_one rfl rfl (fun K' hK => ?_)
          refine wp_value (w' := w1.alloc (.cells #[.bool false, .bool false, .int .u32 0, .int .u32 0, .bool false, .int .u32 0, .int .u32 0, .bool false, .int .u32 0, .int .u32 0, .bool false, .int .u32 0, .int .u32 0, .bool false, .int .u32 0, .int .u32 0, .bool false, .int .u32 0, .int .u32 0, .bool false, .int .u32 0, .int .u32 0, .bool false, .int .u32 0, .int .u32 0, .bool false, .int .u32 0, .int .u32 0, .bool false, .int .u32 0, .int .u32 0] 42)) (.pointer (some ⟨w1.heap.size, 0, none⟩)) (by kernel_rfl) ?_
          have hb3 : Below w1.heap.size w1 (w1.alloc (.cells #[.bool false, .bool false, .int .u32 0, .int .u32 0, .bool false, .int .u32 0, .int .u32 0, .bool false, .int .u32 0, .int .u32 0, .bool false, .int .u32 0, .int .u32 0, .bool false, .int .u32 0, .int .u32 0, .bool false, .int .u32 0, .int .u32 0, .bool false, .int .u32 0, .int .u32 0, .bool false, .int .u32 0, .int .u32 0, .bool false, .int .u32 0, .int .u32 0, .bool false, .int .u32 0, .int .u32 0] 42)) := (Below.refl _ _).alloc (Nat.le_refl _) _
          exact hK _ _ ⟨_, rfl, Below.trans hS (hb3.mono hS.size), Below.trans hb (hb3.mono hb.size), hJ.al12 11 (by omega) rfl hl hS.size _ rfl⟩
        · refine pm_one rfl rfl (fun K' hK => ?_)
          refine wp_value (w' := w1.alloc (.cells #[.bool false, .bool false, .int .u32 0, .int .u32 0, .bool false, .int .u32 0, .int .u32 0, .bool false, .int .u32 0, .int .u32 0, .bool false, .int .u32 0, .int .u32 0, .bool false, .int .u32 0, .int .u32 0, .bool false, .int .u32 0, .int .u32 0, .bool false, .int .u32 0, .int .u32 0, .bool false, .int .u32 0, .int .u32 0, .bool false, .int .u32 0, .int .u32 0, .bool false, .int .u32 0, .int .u32 0] 42)) (.pointer (some ⟨w1.heap.size, 0, none⟩)) (by kernel_rfl) ?_
          have hb3 : Below w1.heap.size w1 (w1.alloc (.cells #[.bool false, .bool false, .int .u32 0, .int .u32 0, .bool false, .int .u32 0, .int .u32 0, .bool false, .int .u32 0, .int .u32 0, .bool false, .int .u32 0, .int .u32 0, .bool false, .int .u32 0, .int .u32 0, .bool false, .int .u32 0, .int .u32 0, .bool false, .int .u32 0, .int .u32 0, .bool false, .int .u32 0, .int .u32 0, .bool false, .int .u32 0, .int .u32 0, .bool false, .int .u32 0, .int .u32 0] 42)) := (Below.refl _ _).alloc (Nat.le_refl _) _
          exact hK _ _ ⟨_, rfl, Below.trans hS (hb3.mono hS.size), Below.trans hb (hb3.mono hb.size), hJ.al13 12 (by omega) rfl hl hS.size _ rfl⟩
        · have l9 : l 8 = true := hn (8, some 72) (by simp) (by kernel_rfl)
          have l12 : l 11 = true := hn (11, some 11) (by simp) (by kernel_rfl)
          obtain ⟨b, hv, hzb, hB⟩ := hJ.a12 11 rfl l12
          refine pm_one rfl rfl (fun K' hK => ?_)
          refine wp_store_mid 42 (.tmp 11) (.tmp 72) rfl b 0 (knL nx).toArray (ev_tmp ((F 11 11 _ (by simp) l12 (by simp [Act.put])).trans hv)) (ev_tmp ((F 8 72 _ (by simp) l9 (by simp [Act.put])).trans (hJ.a9 8 rfl l9))) (by rw [knA_size]; exact there_blk hB) (by rw [knA_size]; exact info_kn) (knL_one _) ?_
          rw [knL_tl]
          exact hK _ _ ⟨undef, rfl, (Kp.setCells (w := wr) (b := b) (.inr hzb) _ _ _ (Kp.of_below hS No)).below, (Kp.setCells (w := Wd) (b := b) (.inr (by rw [HZD.out]; exact hzb)) _ _ _ (Kp.of_below hb No)).below, hJ.st14 13 (by omega) rfl l12 hv _⟩
        · have l9 : l 9 = true := hn (9, some 73) (by simp) (by kernel_rfl)
          have l12 : l 12 = true := hn (12, some 12) (by simp) (by kernel_rfl)
          obtain ⟨b, hv, hzb, hB⟩ := hJ.a13 12 rfl l12
          refine pm_one rfl rfl (fun K' hK => ?_)
          refine wp_store_mid 42 (.tmp 12) (.tmp 73) rfl b 0 (knL jx).toArray (ev_tmp ((F 12 12 _ (by simp) l12 (by simp [Act.put])).trans hv)) (ev_tmp ((F 9 73 _ (by simp) l9 (by simp [Act.put])).trans (hJ.a10 9 rfl l9))) (by rw [knA_size]; exact there_blk hB) (by rw [knA_size]; exact info_kn) (knL_one _) ?_
          rw [knL_tl]
          exact hK _ _ ⟨undef, rfl, (Kp.setCells (w := wr) (b := b) (.inr hzb) _ _ _ (Kp.of_below hS No)).below, (Kp.setCells (w := Wd) (b := b) (.inr (by rw [HZD.out]; exact hzb)) _ _ _ (Kp.of_below hb No)).below, hJ.st15 14 (by omega) rfl l12 hv _⟩
      · intro lq vq W7 hS hb hl hJ
        have l7 := hl (6, some 71) (by simp)
        have l14 := hl (13, none) (by simp)
        have l15 := hl (14, none) (by simp)
        obtain ⟨b7, v12, hz7, hB7⟩ := hJ.a12 11 rfl (hl (11, some 11) (by simp))
        obtain ⟨b8, v13, hz8, hB8⟩ := hJ.a13 12 rfl (hl (12, some 12) (by simp))
        rw [if_pos l14] at hB7
        rw [if_pos l15] at hB8
        have v7 := hJ.a7 6 rfl l7
        have v8 := hJ.a8 7 rfl (hl (7, some 64) (by simp))
        have v9 := hJ.a9 8 rfl (hl (8, some 72) (by simp))
        have v10 := hJ.a10 9 rfl (hl (9, some 73) (by simp))
        have v11 := hJ.a11 10 rfl (hl (10, some 74) (by simp))
        have hne := hJ.e 11 rfl (hl (11, some 11) (by simp)) (hl (12, some 12) (by simp))
        have hne7 : b7 ≠ b8 := fun e => hne (by rw [v12, v13, e])
        simp only [putM, if_true, v7, v8, v9, v10, v11, v12, v13]
        clear hJ v7 v8 v9 v10 v11 v12 v13 hl l7 l14 l15 hne
        have HS7 := Lib.hid hS
        have HN7 := Lib.hid hB7
        have HJ8 := Lib.hid hB8
        clear hS hb hB7 hB8
        repeat (refine pm_pure rfl (fun K hK => ?_); go_simp; refine hK _ ?_; clear hK K)
        refine pm_done ?_
        refine NoPanic.normal ?_
        have HB7 := Lib.hid (HBR.out.trans (HS7.out.mono HBR.out.size))
        have c1 : W7.cell? ⟨w.heap.size, 1, none⟩ = some (.int .u32 (l : Int)) := (HRp.out.below HB7.out).cell 1 (by simp)
        have c2 : W7.cell? ⟨w.heap.size, 2, none⟩ = some (.int .u32 (g : Int)) := (HRp.out.below HB7.out).cell 2 (by simp)
        have c3 : W7.cell? ⟨ib + 1, 1, none⟩ = some (.int .i64 64) := (HSp.out.below HB7.out).cell 1 (by simp)
        have HFB : Hid (fitsB l g off 64 = (decide (0 ≤ (l : Int) + off) && decide ((g : Int) + off < 64))) := Lib.hid rfl
        go_upto_region 11 with fail
        go_cut [14] from 75 to 92 (fun s wx => s = .bool (fitsB l g off 64) ∧ Below W7.heap.size W7 wx)
        case first =>
          by_cases h1 : 0 ≤ (l : Int) + off
          · by_cases h2 : (g : Int) + off < 64
            · have d1 : decide (0 ≤ (l : Int) + off) = true := decide_eq_true h1
              have d2 : decide ((g : Int) + off < 64) = true := decide_eq_true h2
              go_quiet (fail)
              all_goals (go_wp2_with fail; go_meet; exact ⟨by rw [HFB.out, d1, d2]; rfl, ⟨rfl, rfl, rfl, Nat.le_refl _, fun _ _ => rfl⟩⟩)
            · have d1 : decide (0 ≤ (l : Int) + off) = true := decide_eq_true h1
              have d2 : decide ((g : Int) + off < 64) = false := decide_eq_false h2
              go_quiet (fail)
              all_goals (go_wp2_with fail; go_meet; exact ⟨by rw [HFB.out, d1, d2]; rfl, ⟨rfl, rfl, rfl, Nat.le_refl _, fun _ _ => rfl⟩⟩)
          · have d1 : decide (0 ≤ (l : Int) + off) = false := decide_eq_false h1
            go_quiet (fail)
            all_goals (go_wp2_with fail; go_meet; exact ⟨by rw [HFB.out, d1]; rfl, ⟨rfl, rfl, rfl, Nat.le_refl _, fun _ _ => rfl⟩⟩)
        case rest =>
          obtain ⟨rfl, hwx⟩ := hcut
          have HBX := Lib.hid (HB7.out.trans (hwx.mono HB7.out.size))
          clear c1 c2 c3 hwx
          rcases hf : fitsB l g off 64 with _ | _
          · have he : ev = 163 := by rw [HEV.out, hf]; rfl
            subst he
            go_wp2
            go_roundw
            case rel => exact ⟨2, by omega, by go_num, HBX.out⟩
            case measure => simp [intOf]
          · have he : ev = 0 := by rw [HEV.out, hf]; rfl
            subst he
            go_wp2
            go_roundw
            case rel => exact ⟨2, by omega, by go_num, HBX.out⟩
            case measure => simp [intOf]
    · obtain ⟨nx, jx, ev, hbv, hbb⟩ := bh_cases cx ⟨18, 2, 5, off, 0⟩ kk
      have HEV := Lib.hid (bounds_ev cx 2 l g off 18 64 2 5 (by simp) (by have := hbb; rw [HKK.out] at this; exact this))
      have hbk : ∀ W, Calls Try.prog 18 #[.agg #[.int .i64 18, .int .i64 2, .int .i64 5, .int .i64 off, .int .u32 0], .int .i64 (cx : Int), .agg (knL kk).toArray] W fun e w' => e = .returned (.tuple #[.agg (knL nx).toArray, .agg (knL jx).toArray, .int .i64 (ev : Int)]) ∧ Below W.heap.size W w' := fun W => by
        have := behind_ok W ⟨18, 2, 5, off, 0⟩ cx kk HMY.out.2.2 HRT.out hcx
        rw [hbv] at this
        exact this
      have HBK := Lib.hid hbk
      clear hbk hbb hbv
      go_upto_region 10 with fail

      obtain ⟨Wd, hWd⟩ : ∃ Wd, Wd = wr.drew := ⟨_, rfl⟩
      have hbd : Below wr.heap.size wr Wd := by rw [hWd]; exact (Below.refl _ _).drew
      have hzd : Wd.heap.size = wr.heap.size := by rw [hWd]; rfl
      refine wp_region_noPanic ?_
      refine planM (.rd 0 (.rd 1 (.rd 2 (.rd 3 (.rd 4 (.rd 5 (.many [(6, some 71), (7, some 64), (8, some 72), (9, some 73), (10, some 74), (11, some 11), (12, some 12), (13, none), (14, none)] (.rd 15 .done)))))))) [0, 1, 2, 3, 4, 5, 6, 7, 8, 9, 10, 11, 12, 13, 14] (fun W => Below wr.heap.size wr W) (by kernel_rfl) (by kernel_rfl) (fun _ _ _ _ _ h => h) (by rw [← hWd]; exact hbd) ?_
      rw [← hWd]
      clear hWd
      have HBD := Lib.hid hbd; have HZD := Lib.hid hzd; clear hbd hzd
      refine pm_pure rfl (fun K hK => ?_); go_simp; refine hK _ ?_; clear hK K
      refine pm_pure rfl (fun K hK => ?_); go_simp; refine hK _ ?_; clear hK K
      refine pm_pure rfl (fun K hK => ?_); go_simp; refine hK _ ?_; clear hK K
      refine pm_rdv 68 (.agg #[.int .i64 18, .int .i64 2, .int .i64 5, .int .i64 off, .int .u32 0]) rfl rfl rfl (fun W hS => exec_load_mid 45 (.tmp 67) rfl ib 10 (by kernel_rfl) [.int .i64 18, .int .i64 2, .int .i64 5, .int .i64 off, .int .u32 0] _ (by have := ((HIp.out.below (HBR.out.trans (hS.mono HBR.out.size))).rangeAt 10 5 (by omega)); exact this) Try.underlying45 rfl size_ins) ?_
      refine pm_pure rfl (fun K hK => ?_); go_simp; refine hK _ ?_; clear hK K
      refine pm_rdv 70 (.agg (knL kk).toArray) rfl rfl rfl (fun W hS => exec_load_mid 42 (.tmp 7) rfl kb 0 (by kernel_rfl) (knL kk) _ (by have := ((HKp.out.below (HBR.out.trans (hS.mono HBR.out.size)))).range; exact this) Try.underlying42 rfl (by rw [knL_length]; exact info_kn)) ?_
      refine pm_manyW (fun l v W => KJ 1 wr.heap.size (.tuple #[.agg (knL nx).toArray, .agg (knL jx).toArray, .int .i64 (ev : Int)]) (.agg (knL nx).toArray) (.agg (knL jx).toArray) (.int .i64 (ev : Int)) nx jx l v W) (KJ.zero _ _ _ _ _ _ _ _ _) ?_ ?_
      · intro q hq l v w1 hS hb hl hn hJ
        have E : ∀ (t : Nat) (a : Act), (∀ k, k ∈ [(6, some 71), (7, some 64), (8, some 72), (9, some 73), (10, some 74), (11, some 11), (12, some 12), (13, none), (14, none)] → k.2 ≠ some t) → (putM v l [(6, some 71), (7, some 64), (8, some 72), (9, some 73), (10, some 74), (11, some 11), (12, some 12), (13, none), (14, none)] a).tmps[t]?.getD undef = a.tmps[t]?.getD undef := fun t a h => by simpa [Array.getD_eq_getD_getElem?] using putM_eval_other (v := v) (l := l) t [(6, some 71), (7, some 64), (8, some 72), (9, some 73), (10, some 74), (11, some 11), (12, some 12), (13, none), (14, none)] a h
        have F : ∀ (k t : Nat) (a : Act), (k, some t) ∈ [(6, some 71), (7, some 64), (8, some 72), (9, some 73), (10, some 74), (11, some 11), (12, some 12), (13, none), (14, none)] → l k = true → t < a.tmps.size → (putM v l [(6, some 71), (7, some 64), (8, some 72), (9, some 73), (10, some 74), (11, some 11), (12, some 12), (13, none), (14, none)] a).tmps[t]?.getD undef = v k := fun k t a h1 h2 h3 => by simpa [Array.getD_eq_getD_getElem?] using putM_eval_at (v := v) (l := l) t [(6, some 71), (7, some 64), (8, some 72), (9, some 73), (10, some 74), (11, some 11), (12, some 12), (13, none), (14, none)] a k (by kernel_rfl) h1 h2 h3
        simp only [List.mem_cons, List.not_mem_nil, or_false] at hq
        rcases hq with rfl | rfl | rfl | rfl | rfl | rfl | rfl | rfl | rfl
        · refine pm_one rfl rfl (fun K' hK => ?_)
          refine wp_calls_ret (f := 18) (args := #[.agg #[.int .i64 18, .int .i64 2, .int .i64 5, .int .i64 off, .int .u32 0], .int .i64 (cx : Int), .agg (knL kk).toArray]) ?_ (HBK.out w1) (fun w3 hb3 => ?_)
          · simp [execOp, go_sem]
            exact ⟨(E 68 _ (by simp)).trans rfl, (E 69 _ (by simp)).trans rfl, (E 70 _ (by simp)).trans rfl⟩
          exact hK _ _ ⟨_, rfl, Below.trans hS (hb3.mono hS.size), Below.trans hb (hb3.mono hb.size), hJ.up hb3 6 (by omega) _ (.inl ⟨rfl, rfl⟩)⟩
        · have l7 : l 6 = true := hn (6, some 71) (by simp) (by kernel_rfl)
          refine pm_one rfl rfl (fun K' hK => ?_)
          refine wp_value (w' := w1) _ (exec_mv 71 rfl _ ((F 6 71 _ (by simp) l7 (by simp [Act.put])).trans (hJ.a7 6 rfl l7))) ?_
          exact hK _ _ ⟨_, rfl, hS, hb, hJ.up (Below.refl _ _) 7 (by omega) _ (.inr (.inl ⟨rfl, rfl⟩))⟩
        · have l8 : l 7 = true := hn (7, some 64) (by simp) (by kernel_rfl)
          refine pm_one rfl rfl (fun K' hK => ?_)
          refine wp_value (w' := w1) (.agg (knL nx).toArray) (exec_extract 64 0 rfl _ _ ((F 7 64 _ (by simp) l8 (by simp [Act.put])).trans (hJ.a8 7 rfl l8)) rfl) ?_
          exact hK _ _ ⟨_, rfl, hS, hb, hJ.up (Below.refl _ _) 8 (by omega) _ (.inr (.inr (.inl ⟨rfl, rfl⟩)))⟩
        · have l8 : l 7 = true := hn (7, some 64) (by simp) (by kernel_rfl)
          refine pm_one rfl rfl (fun K' hK => ?_)
          refine wp_value (w' := w1) (.agg (knL jx).toArray) (exec_extract 64 1 rfl _ _ ((F 7 64 _ (by simp) l8 (by simp [Act.put])).trans (hJ.a8 7 rfl l8)) rfl) ?_
          exact hK _ _ ⟨_, rfl, hS, hb, hJ.up (Below.refl _ _) 9 (by omega) _ (.inr (.inr (.inr (.inl ⟨rfl, rfl⟩))))⟩
        · have l8 : l 7 = true := hn (7, some 64) (by simp) (by kernel_rfl)
          refine pm_one rfl rfl (fun K' hK => ?_)
          refine wp_value (w' := w1) (.int .i64 (ev : Int)) (exec_extract 64 2 rfl _ _ ((F 7 64 _ (by simp) l8 (by simp [Act.put])).trans (hJ.a8 7 rfl l8)) rfl) ?_
          exact hK _ _ ⟨_, rfl, hS, hb, hJ.up (Below.refl _ _) 10 (by omega) _ (.inr (.inr (.inr (.inr ⟨rfl, rfl⟩))))⟩
        · refine pm_one rfl rfl (fun K' hK => ?_)
          refine wp_value (w' := w1.alloc (.cells #[.bool false, .bool false, .int .u32 0, .int .u32 0, .bool false, .int .u32 0, .int .u32 0, .bool false, .int .u32 0, .int .u32 0, .bool false, .int .u32 0, .int .u32 0, .bool false, .int .u32 0, .int .u32 0, .bool false, .int .u32 0, .int .u32 0, .bool false, .int .u32 0, .int .u32 0, .bool false, .int .u32 0, .int .u32 0, .bool false, .int .u32 0, .int .u32 0, .bool false, .int .u32 0, .int .u32 0] 42)) (.pointer (some ⟨w1.heap.size, 0, none⟩)) (by kernel_rfl) ?_
          have hb3 : Below w1.heap.size w1 (w1.alloc (.cells #[.bool false, .bool false, .int .u32 0, .int .u32 0, .bool false, .int .u32 0, .int .u32 0, .bool false, .int .u32 0, .int .u32 0, .bool false, .int .u32 0, .int .u32 0, .bool false, .int .u32 0, .int .u32 0, .bool false, .int .u32 0, .int .u32 0, .bool false, .int .u32 0, .int .u32 0, .bool false, .int .u32 0, .int .u32 0, .bool false, .int .u32 0, .int .u32 0, .bool false, .int .u32 0, .int .u32 0] 42)) := (Below.refl _ _).alloc (Nat.le_refl _) _
          exact hK _ _ ⟨_, rfl, Below.trans hS (hb3.mono hS.size), Below.trans hb (hb3.mono hb.size), hJ.al12 11 (by omega) rfl hl hS.size _ rfl⟩
        · refine pm_one rfl rfl (fun K' hK => ?_)
          refine wp_value (w' := w1.alloc (.cells #[.bool false, .bool false, .int .u32 0, .int .u32 0, .bool false, .int .u32 0, .int .u32 0, .bool false, .int .u32 0, .int .u32 0, .bool false, .int .u32 0, .int .u32 0, .bool false, .int .u32 0, .int .u32 0, .bool false, .int .u32 0, .int .u32 0, .bool false, .int .u32 0, .int .u32 0, .bool false, .int .u32 0, .int .u32 0, .bool false, .int .u32 0, .int .u32 0, .bool false, .int .u32 0, .int .u32 0] 42)) (.pointer (some ⟨w1.heap.size, 0, none⟩)) (by kernel_rfl) ?_
          have hb3 : Below w1.heap.size w1 (w1.alloc (.cells #[.bool false, .bool false, .int .u32 0, .int .u32 0, .bool false, .int .u32 0, .int .u32 0, .bool false, .int .u32 0, .int .u32 0, .bool false, .int .u32 0, .int .u32 0, .bool false, .int .u32 0, .int .u32 0, .bool false, .int .u32 0, .int .u32 0, .bool false, .int .u32 0, .int .u32 0, .bool false, .int .u32 0, .int .u32 0, .bool false, .int .u32 0, .int .u32 0, .bool false, .int .u32 0, .int .u32 0] 42)) := (Below.refl _ _).alloc (Nat.le_refl _) _
          exact hK _ _ ⟨_, rfl, Below.trans hS (hb3.mono hS.size), Below.trans hb (hb3.mono hb.size), hJ.al13 12 (by omega) rfl hl hS.size _ rfl⟩
        · have l9 : l 8 = true := hn (8, some 72) (by simp) (by kernel_rfl)
          have l12 : l 11 = true := hn (11, some 11) (by simp) (by kernel_rfl)
          obtain ⟨b, hv, hzb, hB⟩ := hJ.a12 11 rfl l12
          refine pm_one rfl rfl (fun K' hK => ?_)
          refine wp_store_mid 42 (.tmp 11) (.tmp 72) rfl b 0 (knL nx).toArray (ev_tmp ((F 11 11 _ (by simp) l12 (by simp [Act.put])).trans hv)) (ev_tmp ((F 8 72 _ (by simp) l9 (by simp [Act.put])).trans (hJ.a9 8 rfl l9))) (by rw [knA_size]; exact there_blk hB) (by rw [knA_size]; exact info_kn) (knL_one _) ?_
          rw [knL_tl]
          exact hK _ _ ⟨undef, rfl, (Kp.setCells (w := wr) (b := b) (.inr hzb) _ _ _ (Kp.of_below hS No)).below, (Kp.setCells (w := Wd) (b := b) (.inr (by rw [HZD.out]; exact hzb)) _ _ _ (Kp.of_below hb No)).below, hJ.st14 13 (by omega) rfl l12 hv _⟩
        · have l9 : l 9 = true := hn (9, some 73) (by simp) (by kernel_rfl)
          have l12 : l 12 = true := hn (12, some 12) (by simp) (by kernel_rfl)
          obtain ⟨b, hv, hzb, hB⟩ := hJ.a13 12 rfl l12
          refine pm_one rfl rfl (fun K' hK => ?_)
          refine wp_store_mid 42 (.tmp 12) (.tmp 73) rfl b 0 (knL jx).toArray (ev_tmp ((F 12 12 _ (by simp) l12 (by simp [Act.put])).trans hv)) (ev_tmp ((F 9 73 _ (by simp) l9 (by simp [Act.put])).trans (hJ.a10 9 rfl l9))) (by rw [knA_size]; exact there_blk hB) (by rw [knA_size]; exact info_kn) (knL_one _) ?_
          rw [knL_tl]
          exact hK _ _ ⟨undef, rfl, (Kp.setCells (w := wr) (b := b) (.inr hzb) _ _ _ (Kp.of_below hS No)).below, (Kp.setCells (w := Wd) (b := b) (.inr (by rw [HZD.out]; exact hzb)) _ _ _ (Kp.of_below hb No)).below, hJ.st15 14 (by omega) rfl l12 hv _⟩
      · intro lq vq W7 hS hb hl hJ
        have l7 := hl (6, some 71) (by simp)
        have l14 := hl (13, none) (by simp)
        have l15 := hl (14, none) (by simp)
        obtain ⟨b7, v12, hz7, hB7⟩ := hJ.a12 11 rfl (hl (11, some 11) (by simp))
        obtain ⟨b8, v13, hz8, hB8⟩ := hJ.a13 12 rfl (hl (12, some 12) (by simp))
        rw [if_pos l14] at hB7
        rw [if_pos l15] at hB8
        have v7 := hJ.a7 6 rfl l7
        have v8 := hJ.a8 7 rfl (hl (7, some 64) (by simp))
        have v9 := hJ.a9 8 rfl (hl (8, some 72) (by simp))
        have v10 := hJ.a10 9 rfl (hl (9, some 73) (by simp))
        have v11 := hJ.a11 10 rfl (hl (10, some 74) (by simp))
        have hne := hJ.e 11 rfl (hl (11, some 11) (by simp)) (hl (12, some 12) (by simp))
        have hne7 : b7 ≠ b8 := fun e => hne (by rw [v12, v13, e])
        simp only [putM, if_true, v7, v8, v9, v10, v11, v12, v13]
        clear hJ v7 v8 v9 v10 v11 v12 v13 hl l7 l14 l15 hne
        have HS7 := Lib.hid hS
        have HN7 := Lib.hid hB7
        have HJ8 := Lib.hid hB8
        clear hS hb hB7 hB8
        repeat (refine pm_pure rfl (fun K hK => ?_); go_simp; refine hK _ ?_; clear hK K)
        refine pm_done ?_
        refine NoPanic.normal ?_
        have HB7 := Lib.hid (HBR.out.trans (HS7.out.mono HBR.out.size))
        have c1 : W7.cell? ⟨w.heap.size, 1, none⟩ = some (.int .u32 (l : Int)) := (HRp.out.below HB7.out).cell 1 (by simp)
        have c2 : W7.cell? ⟨w.heap.size, 2, none⟩ = some (.int .u32 (g : Int)) := (HRp.out.below HB7.out).cell 2 (by simp)
        have c3 : W7.cell? ⟨ib + 1, 2, none⟩ = some (.int .i64 64) := (HSp.out.below HB7.out).cell 2 (by simp)
        have HFB : Hid (fitsB l g off 64 = (decide (0 ≤ (l : Int) + off) && decide ((g : Int) + off < 64))) := Lib.hid rfl
        go_upto_region 11 with fail
        go_cut [14] from 75 to 92 (fun s wx => s = .bool (fitsB l g off 64) ∧ Below W7.heap.size W7 wx)
        case first =>
          by_cases h1 : 0 ≤ (l : Int) + off
          · by_cases h2 : (g : Int) + off < 64
            · have d1 : decide (0 ≤ (l : Int) + off) = true := decide_eq_true h1
              have d2 : decide ((g : Int) + off < 64) = true := decide_eq_true h2
              go_quiet (fail)
              all_goals (go_wp2_with fail; go_meet; exact ⟨by rw [HFB.out, d1, d2]; rfl, ⟨rfl, rfl, rfl, Nat.le_refl _, fun _ _ => rfl⟩⟩)
            · have d1 : decide (0 ≤ (l : Int) + off) = true := decide_eq_true h1
              have d2 : decide ((g : Int) + off < 64) = false := decide_eq_false h2
              go_quiet (fail)
              all_goals (go_wp2_with fail; go_meet; exact ⟨by rw [HFB.out, d1, d2]; rfl, ⟨rfl, rfl, rfl, Nat.le_refl _, fun _ _ => rfl⟩⟩)
          · have d1 : decide (0 ≤ (l : Int) + off) = false := decide_eq_false h1
            go_quiet (fail)
            all_goals (go_wp2_with fail; go_meet; exact ⟨by rw [HFB.out, d1]; rfl, ⟨rfl, rfl, rfl, Nat.le_refl _, fun _ _ => rfl⟩⟩)
        case rest =>
          obtain ⟨rfl, hwx⟩ := hcut
          have HBX := Lib.hid (HB7.out.trans (hwx.mono HB7.out.size))
          clear c1 c2 c3 hwx
          rcases hf : fitsB l g off 64 with _ | _
          · have he : ev = 163 := by rw [HEV.out, hf]; rfl
            subst he
            go_wp2
            go_roundw
            case rel => exact ⟨3, by omega, by go_num, HBX.out⟩
            case measure => simp [intOf]
          · have he : ev = 0 := by rw [HEV.out, hf]; rfl
            subst he
            go_wp2
            go_roundw
            case rel => exact ⟨3, by omega, by go_num, HBX.out⟩
            case measure => simp [intOf]
    · go_wp2_with (go_at_call 11; (with_reducible refine (HKN.out _).mono ?_); rintro e' W9 ⟨rfl, hb9⟩; have HB9 := Lib.hid hb9; clear hb9)
      go_ret
      exact ⟨rfl, (HBp.out.trans (HBR.out.mono HBp.out.size)).trans (HB9.out.mono (HBp.out.trans (HBR.out.mono HBp.out.size)).size)⟩

theorem checkbounds_ok (w : World) (r : Rg) (off ctx : Int) (hl : r.l < 4294967296) (hg : r.g < 4294967296) (hc1 : -9223372036854775808 ≤ ctx ∧ ctx ≤ 9223372036854775807) (ho1 : -9223372036854775808 ≤ off ∧ off ≤ 9223372036854775807) :
    Calls Try.prog 6 #[.agg #[.bool r.s, .int .u32 (r.l : Int), .int .u32 (r.g : Int)], .int .i64 off, .int .i64 ctx] w fun e w' => e = .returned (.bool true) ∧ Below w.heap.size w w' := by
  by_cases h : r.s = false ∨ r.g < r.l ∨ off < -32768 ∨ 32767 < off ∨ ctx < 0 ∨ 256 < ctx
  · exact bounds_out w r off ctx hl hg hc1 ho1 h
  · obtain ⟨s, l, g⟩ := r
    have hs : s = true := by
      cases s
      · exact absurd (.inl rfl) h
      · rfl
    subst hs
    have h0 : l ≤ g := by
      rcases Nat.lt_or_ge g l with q | q
      · exact absurd (.inr (.inl q)) h
      · exact q
    have h1 : ¬ (off < -32768 ∨ 32767 < off ∨ ctx < 0 ∨ 256 < ctx) := fun q => h (.inr (.inr q))
    obtain ⟨cx, rfl⟩ : ∃ cx : Nat, ctx = (cx : Int) := ⟨ctx.toNat, by omega⟩
    exact bounds_in w l g off cx hg h0 (by omega) (by omega) (by omega)
end Go.Proofs.Ytjlddhnjbjhmkaa
