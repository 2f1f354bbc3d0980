/- Layer 6, the document's answer: what is known. -/
import Derived.Test.YtjlddhnjbjhmkaaRb7
import Derived.Test.YtjlddhnjbjhmkaaRj1
import Derived.BigQuiet
import Derived.IntWalk
set_option linter.unusedVariables false
set_option linter.unusedSimpArgs false
namespace Go.Proofs.Ytjlddhnjbjhmkaa
open Go.RowKit

theorem wbh_cases (ctx : Nat) (i : Ins8) (k : Kn) : ∃ (n j : Kn) (ev : Nat), wayBV (behindB ctx i k) = .agg (wayL n j (ev : Int)).toArray ∧ ((ev = 0 ∧ behindB ctx i k = .ok n j) ∨ (ev ≠ 0 ∧ behindB ctx i k = .no ev)) := by
  cases h : behindB ctx i k with
  | ok n j => exact ⟨n, j, 0, rfl, .inl ⟨rfl, rfl⟩⟩
  | no e =>
    refine ⟨kn0, kn0, e, rfl, .inr ⟨?_, rfl⟩⟩
    unfold behindB at h
    split at h
    · exact behindC_why h
    · cases h
set_option maxRecDepth 100000 in
set_option maxHeartbeats 4000000 in
theorem rknown_good (w : World) (ctx : Nat) (A : Option Addr) (c : Nat) (is : List Ins8) (hs : Sl w Any 5 A is.length c (is.flatMap insCells)) (hne : 0 < is.length) (hck : checkN (ctx : Int) (is.map Ins8.z) = 0) :
    Calls Try.prog 13 #[.agg #[.int .i64 (ctx : Int), .slice A is.length c]] w fun e w' => (∃ v, e = .returned v ∧ KnR w w' is.length (runK ctx is.length is 0 K0) v) ∧ Below w.heap.size w w' := by
  have hctx : ctx ≤ 256 := by
    unfold checkN at hck
    split at hck
    · cases hck
    · omega
  have hmay : ∀ i, i ∈ is → mayB i.z = true := fun i hi => by
    unfold checkN at hck
    split at hck
    · cases hck
    · split at hck
      · cases hck
      · rename_i h2
        have h3 : (is.map Ins8.z).all mayB = true := by simpa using h2
        exact List.all_eq_true.1 h3 _ (List.mem_map.2 ⟨i, hi, rfl⟩)
  have hlen : is.length ≤ 256 := by
    unfold checkN at hck
    split at hck
    · cases hck
    · split at hck
      · cases hck
      · split at hck
        · cases hck
        · rename_i h2 h3; simpa using h3
  have hcke : ∀ W, Sl W Any 5 A is.length c (is.flatMap insCells) → Calls Try.prog 26 #[.agg #[.int .i64 (ctx : Int), .slice A is.length c]] W fun e w' => e = .returned (.int .i64 0) ∧ Below W.heap.size W w' := fun W hW => by
    have := checkr_ok W (ctx : Int) A c (is.map Ins8.z) (ok := Any) (by rw [List.length_map, ins_flat]; exact hW) (by rw [List.length_map]; omega) (fun z hz => by obtain ⟨i, hi, rfl⟩ := List.mem_map.1 hz; exact (may_of (hmay i hi)).1.imm)
    rw [hck, List.length_map] at this
    exact this
  obtain ⟨N, hN⟩ : ∃ N, N = is.length := ⟨_, rfl⟩
  obtain ⟨R, hR⟩ : ∃ R, R = runK ctx N is 0 K0 := ⟨_, rfl⟩
  rw [← hN] at hs hne hlen hcke ⊢
  rw [← hR]
  have HCK := Lib.hid hcke; have HR := Lib.hid hR; have HMAY := Lib.hid hmay
  have HN := Lib.hid hN
  have HNE := Lib.hid hne; have HLEN := Lib.hid hlen; have HCTX := Lib.hid hctx
  have HS := Lib.hid hs
  clear hcke hR hmay hck hN hs
  have hN1 : (N : Int) ≠ 0 := by omega
  have hN0 : ((N : Int) == 0) = false := by simpa using hN1
  clear hN1
  go_enter Try.func13, Try.ntmps13
  go_upto_region 1 with fail
  obtain ⟨W1, hW1⟩ : ∃ W1, W1 = w.alloc (.cells #[.int .i64 (ctx : Int), .slice A N c] 24) := ⟨_, rfl⟩
  have hb1 : Below w.heap.size w W1 := by rw [hW1]; exact (Below.refl _ _).alloc (Nat.le_refl _) _
  have hp1 : Blk W1 w.heap.size 24 2 (pgF ctx A N c) := by rw [hW1]; exact pgB w ctx A N c
  have hz1 : W1.heap.size = w.heap.size + 1 := by rw [hW1]; simp
  rw [← hW1]
  have hs1 : Sl W1 Any 5 A N c (is.flatMap insCells) := HS.out.move (Mv.of_below hb1 Any)
  have HB1 := Lib.hid hb1; have HP1 := Lib.hid hp1; have HS1 := Lib.hid hs1; have HZ1 := Lib.hid hz1
  clear hW1 hb1 hp1 hs1 hz1
  have c10 : W1.cell? ⟨w.heap.size, 0, none⟩ = some (.int .i64 (ctx : Int)) := HP1.out.cell 0 (by omega)
  have c11 : W1.cell? ⟨w.heap.size, 1, none⟩ = some (.slice A N c) := HP1.out.cell 1 (by omega)
  go_upto_region 2 with (go_at_call 26; (with_reducible refine (HCK.out _ HS1.out).mono ?_); rintro e W2 ⟨rfl, hb2⟩; have HB2 := Lib.hid hb2; clear hb2)
  clear c10 c11
  have HP2 := Lib.hid (HP1.out.below HB2.out)
  have HBB2 := Lib.hid (HB1.out.trans (HB2.out.mono HB1.out.size))
  have c20 : W2.cell? ⟨w.heap.size, 0, none⟩ = some (.int .i64 (ctx : Int)) := HP2.out.cell 0 (by omega)
  have c21 : W2.cell? ⟨w.heap.size, 1, none⟩ = some (.slice A N c) := HP2.out.cell 1 (by omega)
  have hmk := run_makeK N (by omega)
  go_upto_region 7 with fail
  clear hmk c20 c21
  have hal : Below W2.heap.size W2 (W2.alloc (.cells (madeK N) 42)) := (Below.refl _ _).alloc (Nat.le_refl _) _
  have HK3 := Lib.hid (madeK_blk W2 N)
  have HP3 := Lib.hid (HP2.out.below hal)
  have HB3 := Lib.hid (HBB2.out.trans (hal.mono HBB2.out.size))
  obtain ⟨g, hg⟩ : ∃ g, g = W2.heap.size := ⟨_, rfl⟩
  have hlo : w.heap.size + 1 ≤ g := by have := HB2.out.size; have := HZ1.out; omega
  rw [← hg] at HK3 ⊢
  have HG := Lib.hid hlo
  obtain ⟨W3, hW3⟩ : ∃ W3, W3 = W2.alloc (.cells (madeK N) 42) := ⟨_, rfl⟩
  rw [← hW3] at HK3 HP3 HB3 ⊢
  clear hW3 hal hg hlo
  have c30 : W3.cell? ⟨g, 0, none⟩ = some (.bool false) := by have := HK3.out.come 0 (by omega); rw [Nat.zero_mul] at this; exact this
  have f30 : W3.frozen? ⟨g, 0, none⟩ = false := Blk.frozen HK3.out 0
  go_upto_region 8 with fail
  clear c30 f30
  have hkp : Kp (fun b => b = g) W3 (W3.setCell ⟨g, 0, none⟩ (.bool true)) := (Kp.refl (fun b => b = g) W3).setCell (p := ⟨g, 0, none⟩) (.inl rfl) _
  have HW4 : Hid (Kw w g ctx A N c K0 (W3.setCell ⟨g, 0, none⟩ (.bool true))) := Lib.hid ⟨by
      have h := (Kp.of_below HB3.out No).setCell (p := ⟨g, 0, none⟩) (.inr (by have := HG.out; show w.heap.size ≤ g; omega)) (.bool true)
      exact h.below, HP3.out.keep hkp (by have := HG.out; omega), HK3.out.start, HG.out⟩
  obtain ⟨W4, hW4⟩ : ∃ W4, W4 = W3.setCell ⟨g, 0, none⟩ (.bool true) := ⟨_, rfl⟩
  rw [← hW4] at HW4 ⊢
  clear hW4 hkp
  have c41 : W4.cell? ⟨w.heap.size, 1, none⟩ = some (.slice A N c) := HW4.out.c1
  go_wp2
  clear c41
  go_loopw [6] (fun iv wr => ∃ (n : Nat) (K : Nat → Kn), n ≤ N ∧ iv = .int .i64 (n : Int) ∧ Kw w g ctx A N c K wr ∧ runK ctx N (is.drop n) n K = R ∧ ∀ b, (K b).right) (fun iv _ => N - (intOf iv).toNat)
  case atStart => exact ⟨0, K0, Nat.zero_le _, rfl, HW4.out, by rw [HR.out]; rfl, K0_right⟩
  case round =>
    obtain ⟨n, K, hn, rfl, hc, hrun, hrt⟩ := hrel
    by_cases hlt : n < N
    · obtain ⟨i, hi⟩ : ∃ i, is[n]? = some i := ⟨_, List.getElem?_eq_getElem (by rw [← HN.out]; exact hlt)⟩
      have hdrop : is.drop n = i :: is.drop (n + 1) := by
        have h1 : n < is.length := by rw [← HN.out]; exact hlt
        rw [List.drop_eq_getElem_cons h1]
        congr 1
        have := List.getElem?_eq_getElem h1
        rw [hi] at this
        injection this with this
        exact this.symm
      have hmb : mayB i.z = true := HMAY.out i (List.mem_of_getElem? hi)
      have hrun2 : (match stepK ctx N n i K with | .no e => KR.no e | .ok K' => runK ctx N (is.drop (n + 1)) (n + 1) K') = R := by rw [hdrop] at hrun; exact hrun
      obtain ⟨a, rfl, _, hab, hcl⟩ := HS.out.at_ (j := n * 5) (by omega)
      have hld : ∀ j v, (insCells i)[j]? = some v → wr.cell? ((a.add (n * 5)).add j) = some v := fun j v hv => by
        have hj : j < 5 := by
          rcases Nat.lt_or_ge j 5 with h | h
          · exact h
          · rw [List.getElem?_eq_none (by simpa [insCells] using h)] at hv; cases hv
        rw [add_add]
        have := hcl (n * 5 + j) v (by
          have h := insZ_cells (is.map Ins8.z) n j i.z (by rw [List.getElem?_map, hi]; rfl) hj
          rw [ins_flat] at h
          rw [h]; exact hv)
        exact (World.cell?_of_block (hc.b.block _ (by rw [add_block]; exact hab))).trans this
      have HL := Lib.hid hld; have HI := Lib.hid hi; have HRUN := Lib.hid hrun2; have HRT := Lib.hid hrt; have HMB := Lib.hid hmb
      have hlt' : (n : Int) < (N : Int) := by omega
      have hzw : w.heap.size < wr.heap.size := hc.p.lt
      have hzg : g < wr.heap.size := Blk.lt hc.k
      have ccm : wr.cell? ⟨g, n * 31, none⟩ = some (.bool (K n).come) := hc.k.come n hlt
      have cpg : wr.cell? ⟨w.heap.size, 1, none⟩ = some (.slice (some a) N c) := hc.c1
      have HC := Lib.hid hc
      clear hld hi hrun hrun2 hrt hmb hcl hdrop hc
      rcases hcm : (K n).come with _ | _
      · rw [hcm] at ccm
        have HCM := Lib.hid hcm; clear hcm
        go_wp2
        go_roundw
        case rel =>
          refine ⟨n + 1, K, by omega, by go_num, HC.out, ?_, HRT.out⟩
          have := HRUN.out
          unfold stepK at this
          rw [if_pos HCM.out] at this
          exact this
        case measure => simp [intOf]; omega
      rw [hcm] at ccm
      have HCM := Lib.hid hcm; clear hcm
      go_upto_region 13 with (refine wpList_value (.agg #[.int .i64 (i.op : Int), .int .i64 (i.dst : Int), .int .i64 (i.src : Int), .int .i64 i.off, .int .u32 (i.imm : Int)]) rfl (exec_load_at 45 (.tmp 43) rfl (a.add (n * 5)) rfl (insCells i) _ HL.out Try.underlying45 rfl size_ins) ?_)
      clear ccm
      obtain ⟨W5, hW5⟩ : ∃ W5, W5 = wr.alloc (.cells #[.int .i64 (i.op : Int), .int .i64 (i.dst : Int), .int .i64 (i.src : Int), .int .i64 i.off, .int .u32 (i.imm : Int)] 45) := ⟨_, rfl⟩
      have hb5 : Below wr.heap.size wr W5 := by rw [hW5]; exact (Below.refl _ _).alloc (Nat.le_refl _) _
      have HK5 := Lib.hid (HC.out.more hb5)
      have HI5 : Hid (Blk W5 wr.heap.size 45 5 (fun j => (insCells i).getD j undef)) := Lib.hid (by
        rw [hW5]
        refine Blk.new wr 45 _ 5 rfl _ (fun j hj => ?_)
        have : j = 0 ∨ j = 1 ∨ j = 2 ∨ j = 3 ∨ j = 4 := by omega
        rcases this with rfl | rfl | rfl | rfl | rfl <;> rfl)
      obtain ⟨b6, hb6⟩ : ∃ b, b = wr.heap.size := ⟨_, rfl⟩
      have hg6 : g < b6 := by omega
      rw [← hb6] at HI5 ⊢
      rw [← hW5]
      clear hW5 hb5 hb6 cpg
      obtain ⟨nx, jx, ev, hbv, hbb⟩ := wbh_cases ctx i (K n)
      have hbk := fun W => refbehind_ok W i ctx (K n) HMB.out (HRT.out n) HCTX.out
      rw [hbv] at hbk
      have HBK := Lib.hid hbk; have HBB := Lib.hid hbb
      clear hbk hbb hbv
      have HLT := Lib.hid hlt
      have hg6' := HLT
      refine wp_region_noPanic ?_
      refine planM (.rd 0 (.rd 1 (.rd 2 (.rd 3 (.rd 4 (.rd 5 (.rd 6 (.many [(7, some 52), (8, some 8)] (.eff 9 .done))))))))) [0, 1, 2, 3, 4, 5, 6, 7, 8] (fun W => Below W5.heap.size W5 W) (by kernel_rfl) (by kernel_rfl) (fun _ _ _ _ _ h => h) ((Below.refl _ _).drew) ?_
      have hbd : Below W5.heap.size W5 W5.drew := (Below.refl _ _).drew
      obtain ⟨Wd, hWd⟩ : ∃ Wd, Wd = W5.drew := ⟨_, rfl⟩
      rw [← hWd] at hbd ⊢
      clear hWd
      have HBD := Lib.hid hbd; clear hbd
      refine pm_rdv 45 (.agg #[.int .i64 (i.op : Int), .int .i64 (i.dst : Int), .int .i64 (i.src : Int), .int .i64 i.off, .int .u32 (i.imm : Int)]) rfl rfl rfl (fun W hS => exec_load_mid 45 (.tmp 7) rfl b6 0 (by kernel_rfl) (insCells i) _ (by have := (HI5.out.below hS).range; exact this) Try.underlying45 rfl size_ins) ?_
      refine pm_pure rfl (fun K hK => ?_); go_simp; refine hK _ ?_; clear hK K
      refine pm_rdv 47 (.int .i64 (ctx : Int)) rfl rfl rfl (fun W hS => exec_ldint (.tmp 46) rfl (by kernel_rfl) ((HK5.out.more hS).c0)) ?_
      refine pm_pure rfl (fun K hK => ?_); go_simp; refine hK _ ?_; clear hK K
      refine pm_pure rfl (fun K hK => ?_); go_simp; refine hK _ ?_; clear hK K
      refine pm_rdv 50 (.pointer (some ⟨g, n * 31, none⟩)) rfl rfl rfl (fun W hS => exec_idx (.tmp 48) (.tmp 49) rfl (by kernel_rfl) (by kernel_rfl) HLT.out) ?_
      refine pm_rdv 51 (.agg (knL (K n)).toArray) rfl rfl rfl (fun W hS => exec_load_mid 42 (.tmp 50) rfl g (n * 31) (by kernel_rfl) (knL (K n)) _ ((HK5.out.more hS).k.rg n HLT.out) Try.underlying42 rfl (by rw [knL_length]; exact info_kn)) ?_
      refine pm_many (fun q v W => if q = 7 then v = .agg (wayL nx jx (ev : Int)).toArray else ∃ b, v = .pointer (some ⟨b, 0, none⟩) ∧ W5.heap.size ≤ b ∧ WyB W b kn0 kn0 0) ?_ ?_ ?_
      · intro q v w1 w2 h hb
        by_cases h7 : q = 7
        · simp only [if_pos h7] at h ⊢; exact h
        · simp only [if_neg h7] at h ⊢
          obtain ⟨b, h1, h2, h3⟩ := h
          exact ⟨b, h1, h2, h3.below hb⟩
      · intro q hq l v w1 hS hb hl hn hV
        have EE : ∀ (t : Nat) (a : Act), (∀ k, k ∈ [(7, some 52), (8, some 8)] → k.2 ≠ some t) → (putM v l [(7, some 52), (8, some 8)] a).tmps[t]?.getD undef = a.tmps[t]?.getD undef := fun t a h => by simpa [Array.getD_eq_getD_getElem?] using putM_eval_other (v := v) (l := l) t [(7, some 52), (8, some 8)] a h
        simp only [List.mem_cons, List.not_mem_nil, or_false] at hq
        rcases hq with rfl | rfl
        · refine pm_one rfl rfl (fun K' hK => ?_)
          refine wp_calls_ret (f := 22) (args := #[.agg #[.int .i64 (i.op : Int), .int .i64 (i.dst : Int), .int .i64 (i.src : Int), .int .i64 i.off, .int .u32 (i.imm : Int)], .int .i64 (ctx : Int), .agg (knL (K n)).toArray]) ?_ (HBK.out w1) (fun w3 hb3 => ?_)
          · simp [execOp, go_sem]
            exact ⟨(EE 45 _ (by simp)).trans rfl, (EE 47 _ (by simp)).trans rfl, (EE 51 _ (by simp)).trans rfl⟩
          exact hK _ _ ⟨_, rfl, Below.trans hS (hb3.mono hS.size), hb3, rfl⟩
        · refine pm_one rfl rfl (fun K' hK => ?_)
          refine wp_value (w' := w1.alloc (.cells (wayL kn0 kn0 0).toArray 64)) (.pointer (some ⟨w1.heap.size, 0, none⟩)) (by kernel_rfl) ?_
          have hb3 : Below w1.heap.size w1 (w1.alloc (.cells (wayL kn0 kn0 0).toArray 64)) := (Below.refl _ _).alloc (Nat.le_refl _) _
          exact hK _ _ ⟨_, rfl, Below.trans hS (hb3.mono hS.size), hb3, w1.heap.size, rfl, hS.size, wayB w1 kn0 kn0 0⟩
      intro v W6 hS hb hV
      have v7 : v 7 = .agg (wayL nx jx (ev : Int)).toArray := hV (7, some 52) (by simp)
      obtain ⟨b7, v8, hz7, hB7⟩ : ∃ b, v 8 = .pointer (some ⟨b, 0, none⟩) ∧ W5.heap.size ≤ b ∧ WyB W6 b kn0 kn0 0 := hV (8, some 8) (by simp)
      simp only [putM, if_true, v7, v8]
      clear hV v7 v8
      have hk6 := HK5.out.more hS
      have hi6 := HI5.out.below hS
      have hl6 : b6 < W5.heap.size := Blk.lt HI5.out
      have h67 : b6 < b7 := by omega
      refine pm_store rfl rfl rfl 64 (.tmp 8) (.tmp 52) rfl b7 0 (wayL nx jx (ev : Int)).toArray (by kernel_rfl) (by kernel_rfl) (by rw [wayA_size]; exact there_blk hB7) (by rw [wayA_size]; exact info_way) (wayL_one _ _ _) (fun h => by cases h) ?_
      have hkp : Kp (fun x => x = b7) W6 (W6.setCells b7 0 (wayL nx jx (ev : Int))) := Kp.setCells (M := fun x => x = b7) (.inl rfl) _ _ _ (Kp.refl _ _)
      have hy7 : WyB (W6.setCells b7 0 (wayL nx jx (ev : Int))) b7 nx jx (ev : Int) := WyB.fill hB7 nx jx (ev : Int)
      have hk7 : Kw w g ctx (some a) N c K (W6.setCells b7 0 (wayL nx jx (ev : Int))) := hk6.keep (z := b7) ⟨hkp.os, hkp.tape, hkp.output, hkp.size, fun x hx => by
        rcases Nat.lt_or_ge x W6.heap.size with q | q
        · exact hkp.block x q (by omega)
        · exact absurd (WyB.lt hB7) (by omega)⟩ (by omega)
      have hi7 := hi6.keep hkp (by omega)
      obtain ⟨W7, hW7⟩ : ∃ W7, W7 = W6.setCells b7 0 (wayL nx jx (ev : Int)) := ⟨_, rfl⟩
      show wpPlanM _ _ _ _ _ _ _ _ (W6.setCells b7 0 (wayL nx jx (ev : Int)))
      rw [← hW7] at hy7 hk7 hi7 ⊢
      have HK7 := Lib.hid hk7; have HI7 := Lib.hid hi7; have HY7 := Lib.hid hy7; have H67 := Lib.hid h67; have HG6 := Lib.hid hg6
      clear hW7 hkp hy7 hk7 hi7 hk6 hi6 hl6 hz7 hB7 hS hb h67 hg6 hg6' HI5 HK5 HBD
      refine pm_done ?_
      refine NoPanic.normal ?_
      have e7 : W7.cell? ⟨b7, 62, none⟩ = some (.int .i64 (ev : Int)) := HY7.out.err
      rcases HBB.out.symm with ⟨hev, hbh⟩ | ⟨hev, hbh⟩
      · have hev0 : ((ev : Int) != 0) = true := by simpa using hev
        have hev1 : ¬ (ev : Int) = 0 := by omega
        have HR2 : Hid (R = .no ev) := Lib.hid (by
          have := HRUN.out
          unfold stepK at this
          rw [if_neg (by rw [HCM.out]; simp), hbh] at this
          exact this.symm)
        clear hbh hev
        go_upto_region 15 with fail
        go_quiet (fail)
        all_goals (go_wp2_with fail)
        exact bodyPost_ret (v := .tuple #[.slice none 0 0, .int .i64 (ev : Int)]) (by simp [results, Try.results13, go_sem]) rfl ⟨⟨_, rfl, by rw [HR2.out]; rfl⟩, HK7.out.b.trans ⟨rfl, rfl, rfl, Nat.le_refl _, fun _ _ => rfl⟩⟩
      have hev0 : ((ev : Int) != 0) = false := by rw [hev]; rfl
      have hev1 : (ev : Int) = 0 := by omega
      have hm := (may_of HMB.out).1
      have HNR := Lib.hid (behind_right (by have := hm.imm; omega) (HRT.out n) hbh)
      have HJC : Hid (¬ (19 ≤ i.op ∧ i.op ≤ 22) → jx.come = false) := Lib.hid (fun h => by
        rcases q : jx.come with _ | _
        · rfl
        · exact absurd (behindB_jump hbh q) h)
      have hst : stepK ctx N n i K = if (nx.come = true ∧ N ≤ n + 1) ∨ ((19 ≤ i.op ∧ i.op ≤ 22) ∧ N ≤ n + 1 + i.off.toNat) then .no 164 else .ok (putK (putK K (n + 1) nx) (n + 1 + i.off.toNat) jx) := by
        unfold stepK
        rw [if_neg (by rw [HCM.out]; simp), hbh]
      have HST := Lib.hid hst
      have HIMM : Hid (i.imm ≤ 4294967295) := Lib.hid (by have := hm.imm; omega)
      have HOFF := Lib.hid hm.jmp
      have f1 : -32768 ≤ i.off := hm.off1
      have f2 : i.off ≤ 32767 := hm.off2
      have f3 : (n : Int) ≤ 256 := by omega
      clear hst hbh hev hm
      have o0 : W7.cell? ⟨b6, 0, none⟩ = some (.int .i64 (i.op : Int)) := HI7.out.cell 0 (by omega)
      have o3 : W7.cell? ⟨b6, 3, none⟩ = some (.int .i64 i.off) := HI7.out.cell 3 (by omega)
      obtain ⟨tz, htz⟩ : ∃ tz : Int, tz = (n : Int) + 1 + i.off := ⟨_, rfl⟩
      go_upto_region 17 with fail
      go_cut [10] from 60 to 64 (fun sv wx => sv = .int .i64 tz ∧ wx = W7)
      case first =>
        go_wp2_with fail
        go_meet
        exact ⟨by rw [htz], rfl⟩
      case rest =>
        obtain ⟨rfl, hwc⟩ := hcut
        rw [hwc]
        clear hwc o0 o3 f1 f2 e7
        obtain ⟨nc, hnc⟩ : ∃ b, b = nx.come := ⟨_, rfl⟩
        obtain ⟨jc, hjc⟩ : ∃ b, b = jx.come := ⟨_, rfl⟩
        have c7 : W7.cell? ⟨b7, 0, none⟩ = some (.bool nc) := by rw [hnc]; exact HY7.out.nc
        have p7 : W7.cell? ⟨w.heap.size, 1, none⟩ = some (.slice (some a) N c) := HK7.out.c1
        have HTZ := Lib.hid htz
        obtain ⟨bd, hbd⟩ : ∃ b : Bool, b = decide ((nx.come = true ∧ N ≤ n + 1) ∨ ((19 ≤ i.op ∧ i.op ≤ 22) ∧ N ≤ n + 1 + i.off.toNat)) := ⟨_, rfl⟩
        have HBDD := Lib.hid hbd; have HNC := Lib.hid hnc; have HJCC := Lib.hid hjc
        clear htz hbd hnc hjc
        go_upto_region 18 with fail
        go_cut [90] from 65 to 90 (fun sv wx => sv = .bool bd ∧ wx = W7)
        case first =>
          have hcs : (nc = true ∧ n + 1 = N) ∨ ((nc = false ∨ n + 1 ≠ N) ∧ (i.op < 19 ∨ (19 ≤ i.op ∧ 22 < i.op) ∨ (19 ≤ i.op ∧ i.op ≤ 22 ∧ (N : Int) ≤ tz) ∨ (19 ≤ i.op ∧ i.op ≤ 22 ∧ ¬ (N : Int) ≤ tz))) := by
            have := HLT.out
            cases nc
            · right; refine ⟨.inl rfl, ?_⟩; omega
            · by_cases q : n + 1 = N
              · exact .inl ⟨rfl, q⟩
              · right; refine ⟨.inr q, ?_⟩; omega
          rcases hcs with ⟨rfl, h⟩ | ⟨h, h2⟩
          · have q1 : (n : Int) + 1 = (N : Int) := by omega
            have q1b : ((n : Int) + 1 == (N : Int)) = true := by simpa using q1
            have HH := Lib.hid h; clear h
            clear q1
            go_wp2_with fail
            go_meet
            exact ⟨by rw [HBDD.out, decide_eq_true (.inl ⟨HNC.out.symm, by have := HH.out; omega⟩)], rfl⟩
          · have hno : ¬ (nx.come = true ∧ N ≤ n + 1) := by
              rintro ⟨a1, a2⟩
              have := HLT.out
              rcases h with h | h
              · rw [HNC.out, a1] at h; cases h
              · omega
            have HNO := Lib.hid hno; clear hno
            have hq : nc = false ∨ (nc = true ∧ ((n : Int) + 1 == (N : Int)) = false) := by
              cases nc
              · exact .inl rfl
              · right
                rcases h with h | h
                · cases h
                · exact ⟨rfl, by simp; omega⟩
            have HH2 := Lib.hid h2
            clear h
            rcases h2 with h2 | h2 | h2 | h2
            · skip
              have q2 : ¬ (19 : Int) ≤ (i.op : Int) := by omega
              have HX := Lib.hid h2; clear h2
              rcases hq with hq | ⟨hq, hq2⟩
              · subst hq
                go_wp2_with fail
                go_meet
                exact ⟨by rw [HBDD.out, decide_eq_false (by rintro (h | h); exact HNO.out h; have := HX.out; omega)], rfl⟩
              · subst hq
                go_wp2_with fail
                go_meet
                exact ⟨by rw [HBDD.out, decide_eq_false (by rintro (h | h); exact HNO.out h; have := HX.out; omega)], rfl⟩
            · skip
              have q2 : (19 : Int) ≤ (i.op : Int) := by omega
              have q3 : ¬ (i.op : Int) ≤ 22 := by omega
              have HX := Lib.hid h2; clear h2
              rcases hq with hq | ⟨hq, hq2⟩
              · subst hq
                go_wp2_with fail
                go_meet
                exact ⟨by rw [HBDD.out, decide_eq_false (by rintro (h | h); exact HNO.out h; have := HX.out; omega)], rfl⟩
              · subst hq
                go_wp2_with fail
                go_meet
                exact ⟨by rw [HBDD.out, decide_eq_false (by rintro (h | h); exact HNO.out h; have := HX.out; omega)], rfl⟩
            · skip
              have q2 : (19 : Int) ≤ (i.op : Int) := by omega
              have q3 : (i.op : Int) ≤ 22 := by omega
              have q4 : (N : Int) ≤ tz := h2.2.2
              have HX := Lib.hid h2; clear h2
              rcases hq with hq | ⟨hq, hq2⟩
              · subst hq
                go_wp2_with fail
                go_meet
                exact ⟨by rw [HBDD.out, decide_eq_true (.inr ⟨⟨HX.out.1, HX.out.2.1⟩, by have := HX.out; have := HTZ.out; have := HOFF.out HX.out.1; omega⟩)], rfl⟩
              · subst hq
                go_wp2_with fail
                go_meet
                exact ⟨by rw [HBDD.out, decide_eq_true (.inr ⟨⟨HX.out.1, HX.out.2.1⟩, by have := HX.out; have := HTZ.out; have := HOFF.out HX.out.1; omega⟩)], rfl⟩
            · skip
              have q2 : (19 : Int) ≤ (i.op : Int) := by omega
              have q3 : (i.op : Int) ≤ 22 := by omega
              have q4 : ¬ (N : Int) ≤ tz := h2.2.2
              have HX := Lib.hid h2; clear h2
              rcases hq with hq | ⟨hq, hq2⟩
              · subst hq
                go_wp2_with fail
                go_meet
                exact ⟨by rw [HBDD.out, decide_eq_false (by rintro (h | h); exact HNO.out h; have := HX.out; have := HTZ.out; have := HOFF.out HX.out.1; omega)], rfl⟩
              · subst hq
                go_wp2_with fail
                go_meet
                exact ⟨by rw [HBDD.out, decide_eq_false (by rintro (h | h); exact HNO.out h; have := HX.out; have := HTZ.out; have := HOFF.out HX.out.1; omega)], rfl⟩
        case rest =>
          obtain ⟨rfl, hwc⟩ := hcut
          rw [hwc]
          clear hwc
          cases bd
          · have hbad : ¬ ((nx.come = true ∧ N ≤ n + 1) ∨ ((19 ≤ i.op ∧ i.op ≤ 22) ∧ N ≤ n + 1 + i.off.toNat)) := of_decide_eq_false HBDD.out.symm
            obtain ⟨KK, hKK⟩ : ∃ KK, KK = putK (putK K (n + 1) nx) (n + 1 + i.off.toNat) jx := ⟨_, rfl⟩
            have hst2 : stepK ctx N n i K = .ok KK := by rw [HST.out, if_neg hbad, hKK]
            have HRUN2 : Hid (runK ctx N (is.drop (n + 1)) (n + 1) KK = R) := Lib.hid (by have := HRUN.out; rw [hst2] at this; exact this)
            have HRT2 : Hid (∀ b, (KK b).right) := Lib.hid (fun b => stepK_right HIMM.out hst2 HRT.out b)
            have HBAD := Lib.hid hbad; have HKK := Lib.hid hKK
            clear hst2 hbad hKK p7
            have f4 : (N : Int) ≤ 256 := by omega
            go_upto_if 93 with fail
            go_cut [] from 94 to 105 (fun wx => Kw w g ctx (some a) N c (putK K (n + 1) nx) wx ∧ WyB wx b7 nx jx (ev : Int))
            case first =>
              cases nc
              · go_wp2_with fail
                go_meet
                exact ⟨by rw [show putK K (n + 1) nx = K from by unfold putK; rw [← HNC.out]; rfl]; exact HK7.out, HY7.out⟩
              · have h1n : n + 1 < N := by
                  rcases Nat.lt_or_ge (n + 1) N with h | h
                  · exact h
                  · exact absurd (.inl ⟨HNC.out.symm, h⟩) HBAD.out
                have H1N := Lib.hid h1n; clear h1n
                have f5 : n + 1 < 9223372036854775808 := by omega
                go_upto_region 21 with fail
                clear c7
                refine wp_region_noPanic ?_
                refine planM (.rd 0 (.rd 1 (.rd 2 (.rd 3 (.rd 4 (.rd 5 (.rd 6 (.rd 7 (.rd 8 (.rd 9 (.eff 10 (.rd 11 (.eff 12 .done))))))))))))) [0, 1, 2, 3, 4, 5, 6, 7, 8, 9, 10, 11] (fun W => Below W7.heap.size W7 W) (by kernel_rfl) (by kernel_rfl) (fun _ _ _ _ _ h => h) ((Below.refl _ _).drew) ?_
                have hbd : Below W7.heap.size W7 W7.drew := (Below.refl _ _).drew
                obtain ⟨Wd, hWd⟩ : ∃ Wd, Wd = W7.drew := ⟨_, rfl⟩
                rw [← hWd] at hbd ⊢
                clear hWd
                refine pm_pure rfl (fun K hK => ?_); go_simp; refine hK _ ?_; clear hK K
                refine pm_pure rfl (fun K hK => ?_); go_simp; refine hK _ ?_; clear hK K
                refine pm_rdv 96 (.int .i64 ((n + 1 : Nat) : Int)) rfl rfl rfl (fun W hS => exec_add (.tmp 95) (.const (.int .i64 1)) rfl (p := n) (q := 1) (by kernel_rfl) (by kernel_rfl) f5) ?_
                refine pm_pure rfl (fun K hK => ?_); go_simp; refine hK _ ?_; clear hK K
                refine pm_pure rfl (fun K hK => ?_); go_simp; refine hK _ ?_; clear hK K
                refine pm_rdv 99 (.int .i64 ((n + 1 : Nat) : Int)) rfl rfl rfl (fun W hS => exec_add (.tmp 98) (.const (.int .i64 1)) rfl (p := n) (q := 1) (by kernel_rfl) (by kernel_rfl) f5) ?_
                refine pm_rdv 100 (.pointer (some ⟨g, (n + 1) * 31, none⟩)) rfl rfl rfl (fun W hS => exec_idx (.tmp 97) (.tmp 99) rfl (by kernel_rfl) (by kernel_rfl) H1N.out) ?_
                refine pm_rdv 101 (.agg (knL (K (n + 1))).toArray) rfl rfl rfl (fun W hS => exec_load_mid 42 (.tmp 100) rfl g ((n + 1) * 31) (by kernel_rfl) (knL (K (n + 1))) _ ((HK7.out.more hS).k.rg (n + 1) H1N.out) Try.underlying42 rfl (by rw [knL_length]; exact info_kn)) ?_
                refine pm_pure rfl (fun K hK => ?_); go_simp; refine hK _ ?_; clear hK K
                refine pm_rdv 103 (.agg (knL nx).toArray) rfl rfl rfl (fun W hS => exec_load_mid 42 (.tmp 102) rfl b7 0 (by kernel_rfl) (knL nx) _ ((HY7.out.below hS).next) Try.underlying42 rfl (by rw [knL_length]; exact info_kn)) ?_
                refine pm_eff rfl rfl (fun K' hK => ?_)
                refine wp_calls_ret (f := 27) (args := #[.agg (knL (K (n + 1))).toArray, .agg (knL nx).toArray]) (by kernel_rfl) (refjoin_ok Wd _ _) (fun W8 hb8 => ?_)
                have HB8 := Lib.hid (hbd.trans (hb8.mono hbd.size)); clear hb8 hbd
                refine hK _ _ (fun _ => HB8.out) ?_
                clear hK K'
                refine pm_rdv 105 (.pointer (some ⟨g, (n + 1) * 31, none⟩)) rfl rfl rfl (fun W hS => exec_idx (.tmp 94) (.tmp 96) rfl (by kernel_rfl) (by kernel_rfl) H1N.out) ?_
                have HK8 := Lib.hid (HK7.out.more HB8.out)
                refine pm_store rfl rfl rfl 42 (.tmp 105) (.tmp 104) rfl g ((n + 1) * 31) (knL (joinK (K (n + 1)) nx)).toArray (by kernel_rfl) (by kernel_rfl) (by rw [knA_size]; exact HK8.out.k.there (n + 1) H1N.out) (by rw [knA_size]; exact info_kn) (knL_one _) (fun h => by cases h) ?_
                rw [knL_tl]
                obtain ⟨W9, HW9a, HK9a, HP9a⟩ := HK8.out.put (n + 1) (joinK (K (n + 1)) nx)
                rw [show rowF 31 (knF (joinK (K (n + 1)) nx)) = knL (joinK (K (n + 1)) nx) from rfl, ← HW9a.out]
                refine pm_done ?_
                refine NoPanic.normal ?_
                have HY9 := Lib.hid ((HY7.out.below HB8.out).keep HP9a.out (by have := H67.out; have := HG6.out; show ¬ b7 = g; omega))
                have HKA : Hid (putK K (n + 1) nx = upd K (n + 1) (joinK (K (n + 1)) nx)) := Lib.hid (by unfold putK; rw [← HNC.out]; rfl)
                go_wp2_with fail
                go_meet
                exact ⟨by rw [HKA.out]; exact HK9a.out, HY9.out⟩
            case rest =>
              obtain ⟨hkq, hyq⟩ := hcut
              obtain ⟨W9, hW9⟩ : ∃ W9, W9 = wc := ⟨_, rfl⟩
              rw [← hW9] at hkq hyq ⊢
              have c8 : W9.cell? ⟨b7, 31, none⟩ = some (.bool jc) := by rw [HJCC.out]; exact hyq.jc
              have HK9 := Lib.hid hkq; have HY9 := Lib.hid hyq
              clear hkq hyq hW9 c7
              obtain ⟨K1, hK1⟩ : ∃ K1, K1 = putK K (n + 1) nx := ⟨_, rfl⟩
              rw [← hK1] at HK9 HKK
              clear hK1
              cases jc
              · go_wp2
                go_roundw
                case rel => exact ⟨n + 1, KK, by have := HLT.out; omega, by go_num, by rw [HKK.out, show putK K1 (n + 1 + i.off.toNat) jx = K1 from by unfold putK; rw [← HJCC.out]; rfl]; exact HK9.out, HRUN2.out, HRT2.out⟩
                case measure => have := HLT.out; simp [intOf]; omega
              · have hjp : 19 ≤ i.op ∧ i.op ≤ 22 := by
                  rcases Decidable.em (19 ≤ i.op ∧ i.op ≤ 22) with h | h
                  · exact h
                  · have := HJC.out h; rw [← HJCC.out] at this; cases this
                obtain ⟨o, ho⟩ : ∃ o : Nat, i.off = (o : Int) := ⟨i.off.toNat, by have := HOFF.out hjp.1; omega⟩
                have hto : i.off.toNat = o := by omega
                have h2n : n + 1 + o < N := by
                  rcases Nat.lt_or_ge (n + 1 + o) N with h | h
                  · exact h
                  · exact absurd (.inr ⟨hjp, by rw [hto]; exact h⟩) HBAD.out
                have htz2 : tz = ((n + 1 + o : Nat) : Int) := by rw [HTZ.out, ho]; omega
                have HKA : Hid (KK = upd K1 (n + 1 + o) (joinK (K1 (n + 1 + o)) jx)) := Lib.hid (by rw [HKK.out, hto]; unfold putK; rw [← HJCC.out]; rfl)
                clear HTZ
                subst htz2
                have H2N := Lib.hid h2n
                clear hjp ho hto h2n
                go_upto_region 23 with fail
                clear c8
                refine wp_region_noPanic ?_
                refine planM (.rd 0 (.rd 1 (.rd 2 (.rd 3 (.rd 4 (.rd 5 (.rd 6 (.rd 7 (.eff 8 (.rd 9 (.eff 10 .done))))))))))) [0, 1, 2, 3, 4, 5, 6, 7, 8, 9] (fun W => Below W9.heap.size W9 W) (by kernel_rfl) (by kernel_rfl) (fun _ _ _ _ _ h => h) ((Below.refl _ _).drew) ?_
                have hbd : Below W9.heap.size W9 W9.drew := (Below.refl _ _).drew
                obtain ⟨Wd, hWd⟩ : ∃ Wd, Wd = W9.drew := ⟨_, rfl⟩
                rw [← hWd] at hbd ⊢
                clear hWd
                refine pm_pure rfl (fun K hK => ?_); go_simp; refine hK _ ?_; clear hK K
                refine pm_rdv 110 (.int .i64 ((n + 1 + o : Nat) : Int)) rfl rfl rfl (fun W hS => by kernel_rfl) ?_
                refine pm_pure rfl (fun K hK => ?_); go_simp; refine hK _ ?_; clear hK K
                refine pm_rdv 112 (.int .i64 ((n + 1 + o : Nat) : Int)) rfl rfl rfl (fun W hS => by kernel_rfl) ?_
                refine pm_rdv 113 (.pointer (some ⟨g, (n + 1 + o) * 31, none⟩)) rfl rfl rfl (fun W hS => exec_idx (.tmp 111) (.tmp 112) rfl (by kernel_rfl) (by kernel_rfl) H2N.out) ?_
                refine pm_rdv 114 (.agg (knL (K1 (n + 1 + o))).toArray) rfl rfl rfl (fun W hS => exec_load_mid 42 (.tmp 113) rfl g ((n + 1 + o) * 31) (by kernel_rfl) (knL (K1 (n + 1 + o))) _ ((HK9.out.more hS).k.rg (n + 1 + o) H2N.out) Try.underlying42 rfl (by rw [knL_length]; exact info_kn)) ?_
                refine pm_pure rfl (fun K hK => ?_); go_simp; refine hK _ ?_; clear hK K
                refine pm_rdv 116 (.agg (knL jx).toArray) rfl rfl rfl (fun W hS => exec_load_mid 42 (.tmp 115) rfl b7 31 (by kernel_rfl) (knL jx) _ ((HY9.out.below hS).jumped) Try.underlying42 rfl (by rw [knL_length]; exact info_kn)) ?_
                refine pm_eff rfl rfl (fun K' hK => ?_)
                refine wp_calls_ret (f := 27) (args := #[.agg (knL (K1 (n + 1 + o))).toArray, .agg (knL jx).toArray]) (by kernel_rfl) (refjoin_ok Wd _ _) (fun W8 hb8 => ?_)
                have HB8 := Lib.hid (hbd.trans (hb8.mono hbd.size)); clear hb8 hbd
                refine hK _ _ (fun _ => HB8.out) ?_
                clear hK K'
                refine pm_rdv 118 (.pointer (some ⟨g, (n + 1 + o) * 31, none⟩)) rfl rfl rfl (fun W hS => exec_idx (.tmp 109) (.tmp 110) rfl (by kernel_rfl) (by kernel_rfl) H2N.out) ?_
                have HK8 := Lib.hid (HK9.out.more HB8.out)
                refine pm_store rfl rfl rfl 42 (.tmp 118) (.tmp 117) rfl g ((n + 1 + o) * 31) (knL (joinK (K1 (n + 1 + o)) jx)).toArray (by kernel_rfl) (by kernel_rfl) (by rw [knA_size]; exact HK8.out.k.there (n + 1 + o) H2N.out) (by rw [knA_size]; exact info_kn) (knL_one _) (fun h => by cases h) ?_
                rw [knL_tl]
                obtain ⟨Wz, HWza, HKza, HPza⟩ := HK8.out.put (n + 1 + o) (joinK (K1 (n + 1 + o)) jx)
                rw [show rowF 31 (knF (joinK (K1 (n + 1 + o)) jx)) = knL (joinK (K1 (n + 1 + o)) jx) from rfl, ← HWza.out]
                refine pm_done ?_
                refine NoPanic.normal ?_
                go_wp2
                go_roundw
                case rel => exact ⟨n + 1, KK, by have := HLT.out; omega, by go_num, by rw [HKA.out]; exact HKza.out, HRUN2.out, HRT2.out⟩
                case measure => have := HLT.out; simp [intOf]; omega
          · have HR2 : Hid (R = .no 164) := Lib.hid (by
              have := HRUN.out
              rw [HST.out, if_pos (of_decide_eq_true HBDD.out.symm)] at this
              exact this.symm)
            go_wp2
            exact bodyPost_ret (v := .tuple #[.slice none 0 0, .int .i64 164]) (by simp [results, Try.results13, go_sem]) rfl ⟨⟨_, rfl, by rw [HR2.out]; rfl⟩, HK7.out.b⟩
    · obtain rfl : n = N := by omega
      have hR2 : R = .ok K := by
        rw [← hrun, List.drop_of_length_le (by rw [← HN.out]; exact Nat.le_refl _)]; rfl
      have HC := Lib.hid hc
      have HR2 := Lib.hid hR2
      clear hc hrun hR2
      have cpg : wr.cell? ⟨w.heap.size, 1, none⟩ = some (.slice A n c) := HC.out.c1
      go_wp2
      have hres : KnR w wr n R (.tuple #[.slice (some ⟨g, 0, none⟩) n n, .int .i64 0]) := by
        rw [HR2.out]
        exact ⟨g, by have := HG.out; omega, rfl, HC.out.k⟩
      exact bodyPost_ret (v := .tuple #[.slice (some ⟨g, 0, none⟩) n n, .int .i64 0]) (by simp [results, Try.results13, go_sem]) rfl ⟨⟨_, rfl, hres⟩, HC.out.b⟩

set_option maxRecDepth 100000 in
set_option maxHeartbeats 1000000 in
theorem rknown_stop (w : World) (ctx : Int) (A : Option Addr) (n c : Nat) (L : List Value) (hs : Sl w Any 5 A n c L) (e : Int) (hw : e ≠ 0 ∨ (e = 0 ∧ n = 0)) (hck : ∀ W, Sl W Any 5 A n c L → Calls Try.prog 26 #[.agg #[.int .i64 ctx, .slice A n c]] W fun e' w' => e' = .returned (.int .i64 e) ∧ Below W.heap.size W w') :
    Calls Try.prog 13 #[.agg #[.int .i64 ctx, .slice A n c]] w fun e' w' => e' = .returned (.tuple #[.slice none 0 0, .int .i64 (if e = 0 then 160 else e)]) ∧ Below w.heap.size w w' := by
  have HCK := Lib.hid hck
  have HS := Lib.hid hs
  clear hck hs
  go_enter Try.func13, Try.ntmps13
  go_upto_region 1 with fail
  obtain ⟨W1, hW1⟩ : ∃ W1, W1 = w.alloc (.cells #[.int .i64 ctx, .slice A n c] 24) := ⟨_, rfl⟩
  have hb1 : Below w.heap.size w W1 := by rw [hW1]; exact (Below.refl _ _).alloc (Nat.le_refl _) _
  have hp1 : Blk W1 w.heap.size 24 2 (pgF ctx A n c) := by rw [hW1]; exact pgB w ctx A n c
  rw [← hW1]
  have hs1 : Sl W1 Any 5 A n c L := HS.out.move (Mv.of_below hb1 Any)
  have HB1 := Lib.hid hb1; have HP1 := Lib.hid hp1; have HS1 := Lib.hid hs1
  clear hW1 hb1 hp1 hs1
  have c10 : W1.cell? ⟨w.heap.size, 0, none⟩ = some (.int .i64 ctx) := HP1.out.cell 0 (by omega)
  have c11 : W1.cell? ⟨w.heap.size, 1, none⟩ = some (.slice A n c) := HP1.out.cell 1 (by omega)
  go_upto_region 2 with (go_at_call 26; (with_reducible refine (HCK.out _ HS1.out).mono ?_); rintro e' W2 ⟨rfl, hb2⟩; have HB2 := Lib.hid hb2; clear hb2)
  clear c10 c11
  have HP2 := Lib.hid (HP1.out.below HB2.out)
  have HBB2 := Lib.hid (HB1.out.trans (HB2.out.mono HB1.out.size))
  have c21 : W2.cell? ⟨w.heap.size, 1, none⟩ = some (.slice A n c) := HP2.out.cell 1 (by omega)
  rcases hw with hw | ⟨rfl, rfl⟩
  · have he : (e == 0) = false := by simpa using hw
    have he2 : (e != 0) = true := by simpa using hw
    go_wp2
    exact bodyPost_ret (v := .tuple #[.slice none 0 0, .int .i64 e]) (by simp [results, Try.results13, go_sem]) rfl ⟨(by first | rfl | rw [if_neg hw]), HBB2.out⟩
  · go_wp2
    exact bodyPost_ret (v := .tuple #[.slice none 0 0, .int .i64 160]) (by simp [results, Try.results13, go_sem]) rfl ⟨by rfl, HBB2.out⟩
theorem refknown_ok (w : World) (ctx : Int) (A : Option Addr) (c : Nat) (pr : List InsZ) (hs : Sl w Any 5 A pr.length c (pr.flatMap insZC)) (hpl : pr.length ≤ 1000000) (him : ∀ i, i ∈ pr → i.imm < 4294967296) :
    Calls Try.prog 13 #[.agg #[.int .i64 ctx, .slice A pr.length c]] w fun e w' => (∃ v, e = .returned v ∧ KnR w w' pr.length (knownZ ctx pr) v) ∧ Below w.heap.size w w' := by
  have hck : ∀ W, Sl W Any 5 A pr.length c (pr.flatMap insZC) → Calls Try.prog 26 #[.agg #[.int .i64 ctx, .slice A pr.length c]] W fun e' w' => e' = .returned (.int .i64 (checkN ctx pr)) ∧ Below W.heap.size W w' := fun W h => checkr_ok W ctx A c pr h hpl him
  by_cases h0 : checkN ctx pr = 0
  · by_cases h1 : pr = []
    · have := rknown_stop w ctx A pr.length c _ hs _ (.inr ⟨h0, by rw [h1]; rfl⟩) hck
      refine this.mono ?_
      rintro e w' ⟨rfl, hb⟩
      refine ⟨⟨_, rfl, ?_⟩, hb⟩
      unfold KnR knownZ
      rw [if_neg (by rw [h0]; simp), if_pos h1, if_pos h0]
      rfl
    · obtain ⟨⟨c1, c2⟩, hm, hl⟩ := checkN_zero h0
      obtain ⟨cn, rfl⟩ : ∃ cn : Nat, ctx = (cn : Int) := ⟨ctx.toNat, by omega⟩
      have e1 := map_ofZ hm
      have e2 : (pr.map ofZ).flatMap insCells = pr.flatMap insZC := by rw [← ins_flat, e1]
      have hl2 : (pr.map ofZ).length = pr.length := List.length_map ..
      have := rknown_good w cn A c (pr.map ofZ) (by rw [e2, hl2]; exact hs) (by rw [hl2]; exact List.length_pos_iff.2 h1) (by rw [e1]; exact h0)
      rw [hl2] at this
      refine this.mono ?_
      rintro e w' ⟨⟨v, rfl, hv⟩, hb⟩
      refine ⟨⟨v, rfl, ?_⟩, hb⟩
      unfold knownZ
      rw [if_neg (by rw [h0]; simp), if_neg h1]
      exact hv
  · have := rknown_stop w ctx A pr.length c _ hs _ (.inl h0) hck
    refine this.mono ?_
    rintro e w' ⟨rfl, hb⟩
    refine ⟨⟨_, rfl, ?_⟩, hb⟩
    unfold KnR knownZ
    rw [if_pos h0, if_neg h0]
    have : ((checkN ctx pr).toNat : Int) = checkN ctx pr := by rcases checkN_cases ctx pr with h | h | h <;> omega
    show _ = Value.tuple #[_, .int .i64 ((checkN ctx pr).toNat : Int)]
    rw [this]
end Go.Proofs.Ytjlddhnjbjhmkaa
