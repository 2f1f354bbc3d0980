/- Layer 6: behind, op by op. -/
import Derived.Test.YtjlddhnjbjhmkaaGc
set_option linter.unusedVariables false
set_option linter.unusedSimpArgs false
namespace Go.Proofs.Ytjlddhnjbjhmkaa
open Go.RowKit

set_option maxRecDepth 100000 in
set_option maxHeartbeats 1500000 in
theorem behind_ja {w : World} {x : Nat} {i : Ins8} {ctx : Nat} {k : Kn} (hI : InB w x i ctx k) (hm : i.May) (hop : i.op = 19) :
    Calls Try.prog 32 #[.pointer (some ⟨x, 0, none⟩)] w fun e w' => e = .returned (.tuple #[.agg (knL (kn0)).toArray, .agg (knL (k)).toArray]) ∧ Below w.heap.size w w' := by
  have hx := hI.lt
  have hdst := hm.dst
  have hsrc := hm.src
  obtain ⟨kz, hkz⟩ : ∃ z : Kn, z = kn0 := ⟨_, rfl⟩
  obtain ⟨W1, hW1⟩ : ∃ W1, W1 = (w.alloc (.cells #[.bool false, .bool false, .int .u32 0, .int .u32 0, .bool false, .int .u32 0, .int .u32 0, .bool false, .int .u32 0, .int .u32 0, .bool false, .int .u32 0, .int .u32 0, .bool false, .int .u32 0, .int .u32 0, .bool false, .int .u32 0, .int .u32 0, .bool false, .int .u32 0, .int .u32 0, .bool false, .int .u32 0, .int .u32 0, .bool false, .int .u32 0, .int .u32 0, .bool false, .int .u32 0, .int .u32 0] 42)).alloc (.cells #[.bool false, .bool false, .int .u32 0, .int .u32 0, .bool false, .int .u32 0, .int .u32 0, .bool false, .int .u32 0, .int .u32 0, .bool false, .int .u32 0, .int .u32 0, .bool false, .int .u32 0, .int .u32 0, .bool false, .int .u32 0, .int .u32 0, .bool false, .int .u32 0, .int .u32 0, .bool false, .int .u32 0, .int .u32 0, .bool false, .int .u32 0, .int .u32 0, .bool false, .int .u32 0, .int .u32 0] 42) := ⟨_, rfl⟩
  have T1 : Tw w w.heap.size (knF kz) (knF kz) W1 := by rw [hW1, hkz]; exact Tw.start w
  have HKZ := Lib.hid hkz; clear hkz
  have HIN := Lib.hid (fun W (hb : Below w.heap.size w W) => hI.below hb)
  have HT1 := Lib.hid T1
  have c1 := (HIN.out W1 HT1.out.b).cop
  have c2 := (HIN.out W1 HT1.out.b).cdst
  have c3 := (HIN.out W1 HT1.out.b).csrc
  have c4 := (HIN.out W1 HT1.out.b).cctx
  have q16 : ((i.op : Int) == 16) = false := by simp; omega
  have q17 : ((i.op : Int) == 17) = false := by simp; omega
  have q18 : ((i.op : Int) == 18) = false := by simp; omega
  have q19 : ((i.op : Int) == 19) = true := by simp; omega
  have q20 : ((i.op : Int) == 20) = false := by simp; omega
  have q21 : ((i.op : Int) == 21) = false := by simp; omega
  have q22 : ((i.op : Int) == 22) = false := by simp; omega
  have q23 : ((i.op : Int) == 23) = false := by simp; omega
  have q24 : ((i.op : Int) == 24) = false := by simp; omega
  clear hop c2 c3 c4 hm
  have HW1 := Lib.hid hW1; clear hW1 T1
  go_enter Try.func32, Try.ntmps32
  go_upto_region 1 with fail
  rw [← HW1.out]
  go_upto_region 15 with fail
  clear c1
  have HI1 := Lib.hid (HIN.out W1 HT1.out.b)
  have HT0 := Lib.hid (HT1.out.more ((Below.refl _ _).drew))
  refine wp_region_noPanic ?_
  refine planM (.rd 1 (.rd 2 (.rd 3 (.rd 4 (.eff 0 (.eff 5 (.eff 6 .done))))))) [0, 1, 2, 3, 4, 5] (fun W => Kp (fun b => b = w.heap.size) W1 W) (by kernel_rfl) (by kernel_rfl) (fun _ _ _ _ _ h => h) ((Kp.refl _ _).drew) ?_
  repeat (refine pm_pure rfl (fun K hK => ?_); go_simp; refine hK _ ?_; clear hK K)
  refine pm_rdv 76 (.agg (knL k).toArray) rfl rfl rfl (fun W hS => exec_load_mid 42 (.tmp 75) rfl (x) (6) rfl (knL k) _ (rg_kept HI1.out.known hS (by omega)) Try.underlying42 rfl (by rw [knL_length]; exact info_kn)) ?_
  refine pm_efv 72 (.agg (knL (kz)).toArray) rfl rfl rfl (exec_load_mid 42 (.tmp 2) rfl (w.heap.size) (0) rfl (knL (kz)) _ HT0.out.n.range Try.underlying42 rfl (by rw [knL_length]; exact info_kn)) (fun _ => (Kp.refl _ _).drew) ?_
  have T1 := HT0.out.setn (knF (kz))
  have T2 := T1.setj (knF (k))
  refine pm_store rfl rfl rfl 42 (.tmp 2) (.tmp 72) rfl (w.heap.size) 0 (knL (kz)).toArray rfl rfl (by rw [knA_size]; exact there_blk HT0.out.n) (by rw [knA_size]; exact info_kn) (knL_one _) (fun _ => Kp.setCells (M := fun b => b = w.heap.size) (.inl rfl) _ _ _ ((Kp.refl _ _).drew)) ?_
  rw [knL_tl]
  refine pm_store rfl rfl rfl 42 (.tmp 3) (.tmp 76) rfl (w.heap.size + 1) 0 (knL (k)).toArray rfl rfl (by rw [knA_size]; exact there_blk T1.j) (by rw [knA_size]; exact info_kn) (knL_one _) (fun h => by cases h) ?_
  rw [knL_tl]
  refine pm_done ?_
  refine NoPanic.normal ?_
  generalize hWf : (World.setCells (W1.drew) w.heap.size 0 (rowF 31 (knF (kz)))).setCells (w.heap.size + 1) 0 (rowF 31 (knF (k))) = Wf
  have T3 : Tw w w.heap.size (knF (kz)) (knF (k)) Wf := by rw [← hWf]; exact T2
  clear hWf T1 T2
  have HT3 := Lib.hid T3; clear T3
  go_wp2
  exact bodyPost_ret (v := .tuple #[.agg (knL (kz)).toArray, .agg (knL (k)).toArray]) (results_cell2_range Try.results32 _ _ w.heap.size (w.heap.size + 1) _ _ _ rfl rfl HT3.out.n.range HT3.out.j.range Try.underlying42 rfl (by rw [knL_length]; exact info_kn) (by rw [knL_length]; exact info_kn)) rfl ⟨by rw [HKZ.out], HT3.out.b⟩

set_option maxRecDepth 100000 in
set_option maxHeartbeats 1500000 in
theorem behind_call {w : World} {x : Nat} {i : Ins8} {ctx : Nat} {k : Kn} (hI : InB w x i ctx k) (hm : i.May) (hop : i.op = 23) :
    Calls Try.prog 32 #[.pointer (some ⟨x, 0, none⟩)] w fun e w' => e = .returned (.tuple #[.agg (knL (callK k)).toArray, .agg (knL (kn0)).toArray]) ∧ Below w.heap.size w w' := by
  have hx := hI.lt
  have hdst := hm.dst
  have hsrc := hm.src
  obtain ⟨kz, hkz⟩ : ∃ z : Kn, z = kn0 := ⟨_, rfl⟩
  obtain ⟨W1, hW1⟩ : ∃ W1, W1 = (w.alloc (.cells #[.bool false, .bool false, .int .u32 0, .int .u32 0, .bool false, .int .u32 0, .int .u32 0, .bool false, .int .u32 0, .int .u32 0, .bool false, .int .u32 0, .int .u32 0, .bool false, .int .u32 0, .int .u32 0, .bool false, .int .u32 0, .int .u32 0, .bool false, .int .u32 0, .int .u32 0, .bool false, .int .u32 0, .int .u32 0, .bool false, .int .u32 0, .int .u32 0, .bool false, .int .u32 0, .int .u32 0] 42)).alloc (.cells #[.bool false, .bool false, .int .u32 0, .int .u32 0, .bool false, .int .u32 0, .int .u32 0, .bool false, .int .u32 0, .int .u32 0, .bool false, .int .u32 0, .int .u32 0, .bool false, .int .u32 0, .int .u32 0, .bool false, .int .u32 0, .int .u32 0, .bool false, .int .u32 0, .int .u32 0, .bool false, .int .u32 0, .int .u32 0, .bool false, .int .u32 0, .int .u32 0, .bool false, .int .u32 0, .int .u32 0] 42) := ⟨_, rfl⟩
  have T1 : Tw w w.heap.size (knF kz) (knF kz) W1 := by rw [hW1, hkz]; exact Tw.start w
  have HKZ := Lib.hid hkz; clear hkz
  have HIN := Lib.hid (fun W (hb : Below w.heap.size w W) => hI.below hb)
  have HT1 := Lib.hid T1
  have c1 := (HIN.out W1 HT1.out.b).cop
  have c2 := (HIN.out W1 HT1.out.b).cdst
  have c3 := (HIN.out W1 HT1.out.b).csrc
  have c4 := (HIN.out W1 HT1.out.b).cctx
  have q16 : ((i.op : Int) == 16) = false := by simp; omega
  have q17 : ((i.op : Int) == 17) = false := by simp; omega
  have q18 : ((i.op : Int) == 18) = false := by simp; omega
  have q19 : ((i.op : Int) == 19) = false := by simp; omega
  have q20 : ((i.op : Int) == 20) = false := by simp; omega
  have q21 : ((i.op : Int) == 21) = false := by simp; omega
  have q22 : ((i.op : Int) == 22) = false := by simp; omega
  have q23 : ((i.op : Int) == 23) = true := by simp; omega
  have q24 : ((i.op : Int) == 24) = false := by simp; omega
  have HCL := Lib.hid (fun W hb => ccall_ok (HIN.out W hb))
  clear hop c2 c3 c4 hm
  have HW1 := Lib.hid hW1; clear hW1 T1
  go_enter Try.func32, Try.ntmps32
  go_upto_region 1 with fail
  rw [← HW1.out]
  go_upto_region 22 with fail
  clear c1
  have HT0 := Lib.hid (HT1.out.more ((Below.refl _ _).drew))
  refine wp_region_noPanic ?_
  refine planM (.rd 0 (.rd 2 (.eff 1 (.eff 3 (.eff 4 .done))))) [0, 1, 2, 3] (fun W => Kp (fun b => b = w.heap.size) W1 W) (by kernel_rfl) (by kernel_rfl) (fun _ _ _ _ _ h => h) ((Kp.refl _ _).drew) ?_
  repeat (refine pm_pure rfl (fun K hK => ?_); go_simp; refine hK _ ?_; clear hK K)
  refine pm_rdv 94 (.agg (knL (kz)).toArray) rfl rfl rfl (fun W hS => exec_load_mid 42 (.tmp 3) rfl (w.heap.size + 1) (0) rfl (knL (kz)) _ (rg_kept HT1.out.j.range hS (by omega)) Try.underlying42 rfl (by rw [knL_length]; exact info_kn)) ?_
  refine pm_eff rfl rfl (fun K hK => ?_)
  go_simp
  (with_reducible refine (HCL.out _ HT0.out.b).mono ?_)
  rintro e w8 ⟨rfl, hb8⟩
  have HB8 : Hid (Below W1.heap.size W1 w8) := Lib.hid (((Below.refl _ _).drew).trans hb8); clear hb8
  have HT8 := Lib.hid (HT1.out.more HB8.out)
  refine hK _ _ (fun _ => Kp.of_below HB8.out _) ?_
  clear hK K
  have T1 := HT8.out.setn (knF (callK k))
  have T2 := T1.setj (knF (kz))
  refine pm_store rfl rfl rfl 42 (.tmp 2) (.tmp 93) rfl (w.heap.size) 0 (knL (callK k)).toArray rfl rfl (by rw [knA_size]; exact there_blk HT8.out.n) (by rw [knA_size]; exact info_kn) (knL_one _) (fun _ => Kp.setCells (M := fun b => b = w.heap.size) (.inl rfl) _ _ _ (Kp.of_below HB8.out _)) ?_
  rw [knL_tl]
  refine pm_store rfl rfl rfl 42 (.tmp 3) (.tmp 94) rfl (w.heap.size + 1) 0 (knL (kz)).toArray rfl rfl (by rw [knA_size]; exact there_blk T1.j) (by rw [knA_size]; exact info_kn) (knL_one _) (fun h => by cases h) ?_
  rw [knL_tl]
  refine pm_done ?_
  refine NoPanic.normal ?_
  generalize hWf : (World.setCells (w8) w.heap.size 0 (rowF 31 (knF (callK k)))).setCells (w.heap.size + 1) 0 (rowF 31 (knF (kz))) = Wf
  have T3 : Tw w w.heap.size (knF (callK k)) (knF (kz)) Wf := by rw [← hWf]; exact T2
  clear hWf T1 T2
  have HT3 := Lib.hid T3; clear T3
  go_wp2
  exact bodyPost_ret (v := .tuple #[.agg (knL (callK k)).toArray, .agg (knL (kz)).toArray]) (results_cell2_range Try.results32 _ _ w.heap.size (w.heap.size + 1) _ _ _ rfl rfl HT3.out.n.range HT3.out.j.range Try.underlying42 rfl (by rw [knL_length]; exact info_kn) (by rw [knL_length]; exact info_kn)) rfl ⟨by rw [HKZ.out], HT3.out.b⟩
end Go.Proofs.Ytjlddhnjbjhmkaa
namespace Go.Proofs.Ytjlddhnjbjhmkaa
open Go.RowKit

set_option maxRecDepth 100000 in
set_option maxHeartbeats 1500000 in
theorem behind_exit {w : World} {x : Nat} {i : Ins8} {ctx : Nat} {k : Kn} (hI : InB w x i ctx k) (hm : i.May) (hr : k.right) (hop : i.op = 24) (hs : (k.r 0).s = true) :
    Calls Try.prog 32 #[.pointer (some ⟨x, 0, none⟩)] w fun e w' => e = .returned (.tuple #[.agg (knL (kn0)).toArray, .agg (knL (kn0)).toArray]) ∧ Below w.heap.size w w' := by
  have hx := hI.lt
  have hdst := hm.dst
  have hsrc := hm.src
  obtain ⟨kz, hkz⟩ : ∃ z : Kn, z = kn0 := ⟨_, rfl⟩
  obtain ⟨W1, hW1⟩ : ∃ W1, W1 = (w.alloc (.cells #[.bool false, .bool false, .int .u32 0, .int .u32 0, .bool false, .int .u32 0, .int .u32 0, .bool false, .int .u32 0, .int .u32 0, .bool false, .int .u32 0, .int .u32 0, .bool false, .int .u32 0, .int .u32 0, .bool false, .int .u32 0, .int .u32 0, .bool false, .int .u32 0, .int .u32 0, .bool false, .int .u32 0, .int .u32 0, .bool false, .int .u32 0, .int .u32 0, .bool false, .int .u32 0, .int .u32 0] 42)).alloc (.cells #[.bool false, .bool false, .int .u32 0, .int .u32 0, .bool false, .int .u32 0, .int .u32 0, .bool false, .int .u32 0, .int .u32 0, .bool false, .int .u32 0, .int .u32 0, .bool false, .int .u32 0, .int .u32 0, .bool false, .int .u32 0, .int .u32 0, .bool false, .int .u32 0, .int .u32 0, .bool false, .int .u32 0, .int .u32 0, .bool false, .int .u32 0, .int .u32 0, .bool false, .int .u32 0, .int .u32 0] 42) := ⟨_, rfl⟩
  have T1 : Tw w w.heap.size (knF kz) (knF kz) W1 := by rw [hW1, hkz]; exact Tw.start w
  have HKZ := Lib.hid hkz; clear hkz
  have HIN := Lib.hid (fun W (hb : Below w.heap.size w W) => hI.below hb)
  have HT1 := Lib.hid T1
  have c1 := (HIN.out W1 HT1.out.b).cop
  have c2 := (HIN.out W1 HT1.out.b).cdst
  have c3 := (HIN.out W1 HT1.out.b).csrc
  have c4 := (HIN.out W1 HT1.out.b).cctx
  have q16 : ((i.op : Int) == 16) = false := by simp; omega
  have q17 : ((i.op : Int) == 17) = false := by simp; omega
  have q18 : ((i.op : Int) == 18) = false := by simp; omega
  have q19 : ((i.op : Int) == 19) = false := by simp; omega
  have q20 : ((i.op : Int) == 20) = false := by simp; omega
  have q21 : ((i.op : Int) == 21) = false := by simp; omega
  have q22 : ((i.op : Int) == 22) = false := by simp; omega
  have q23 : ((i.op : Int) == 23) = false := by simp; omega
  have q24 : ((i.op : Int) == 24) = true := by simp; omega
  have hrg := fun W hb => reg_ok (HIN.out W hb) hr 0 (by omega) hs
  rw [show ((0 : Nat) : Int) = 0 from rfl] at hrg
  have HRG := Lib.hid hrg; clear hrg
  clear hop c2 c3 c4 hm hr hs
  have HW1 := Lib.hid hW1; clear hW1 T1
  go_enter Try.func32, Try.ntmps32
  go_upto_region 1 with fail
  rw [← HW1.out]
  go_upto_region 25 with (go_at_call 39; (with_reducible refine (HRG.out _ HT1.out.b).mono ?_); rintro e W2 ⟨rfl, hb2⟩; have HT2 := Lib.hid (HT1.out.more hb2); clear hb2)
  clear c1
  have HT0 := Lib.hid (HT2.out.more ((Below.refl _ _).drew))
  refine wp_region_noPanic ?_
  refine planM (.rd 1 (.eff 0 (.eff 2 (.eff 3 .done)))) [0, 1, 2] (fun W => Kp (fun b => b = w.heap.size) W2 W) (by kernel_rfl) (by kernel_rfl) (fun _ _ _ _ _ h => h) ((Kp.refl _ _).drew) ?_
  refine pm_rdv 100 (.agg (knL (kz)).toArray) rfl rfl rfl (fun W hS => exec_load_mid 42 (.tmp 3) rfl (w.heap.size + 1) (0) rfl (knL (kz)) _ (rg_kept HT2.out.j.range hS (by omega)) Try.underlying42 rfl (by rw [knL_length]; exact info_kn)) ?_
  refine pm_efv 99 (.agg (knL (kz)).toArray) rfl rfl rfl (exec_load_mid 42 (.tmp 2) rfl (w.heap.size) (0) rfl (knL (kz)) _ HT0.out.n.range Try.underlying42 rfl (by rw [knL_length]; exact info_kn)) (fun _ => (Kp.refl _ _).drew) ?_
  have T1 := HT0.out.setn (knF (kz))
  have T2 := T1.setj (knF (kz))
  refine pm_store rfl rfl rfl 42 (.tmp 2) (.tmp 99) rfl (w.heap.size) 0 (knL (kz)).toArray rfl rfl (by rw [knA_size]; exact there_blk HT0.out.n) (by rw [knA_size]; exact info_kn) (knL_one _) (fun _ => Kp.setCells (M := fun b => b = w.heap.size) (.inl rfl) _ _ _ ((Kp.refl _ _).drew)) ?_
  rw [knL_tl]
  refine pm_store rfl rfl rfl 42 (.tmp 3) (.tmp 100) rfl (w.heap.size + 1) 0 (knL (kz)).toArray rfl rfl (by rw [knA_size]; exact there_blk T1.j) (by rw [knA_size]; exact info_kn) (knL_one _) (fun h => by cases h) ?_
  rw [knL_tl]
  refine pm_done ?_
  refine NoPanic.normal ?_
  generalize hWf : (World.setCells (W2.drew) w.heap.size 0 (rowF 31 (knF (kz)))).setCells (w.heap.size + 1) 0 (rowF 31 (knF (kz))) = Wf
  have T3 : Tw w w.heap.size (knF (kz)) (knF (kz)) Wf := by rw [← hWf]; exact T2
  clear hWf T1 T2
  have HT3 := Lib.hid T3; clear T3
  go_wp2
  exact bodyPost_ret (v := .tuple #[.agg (knL (kz)).toArray, .agg (knL (kz)).toArray]) (results_cell2_range Try.results32 _ _ w.heap.size (w.heap.size + 1) _ _ _ rfl rfl HT3.out.n.range HT3.out.j.range Try.underlying42 rfl (by rw [knL_length]; exact info_kn) (by rw [knL_length]; exact info_kn)) rfl ⟨by rw [HKZ.out], HT3.out.b⟩

set_option maxRecDepth 100000 in
set_option maxHeartbeats 1500000 in
theorem behind_exit_not {w : World} {x : Nat} {i : Ins8} {ctx : Nat} {k : Kn} (hI : InB w x i ctx k) (hm : i.May) (hop : i.op = 24) (hs : (k.r 0).s = false) :
    Calls Try.prog 32 #[.pointer (some ⟨x, 0, none⟩)] w fun e w' => e = .panicked (stopC 161) ∧ Below w.heap.size w w' := by
  have hx := hI.lt
  have hdst := hm.dst
  have hsrc := hm.src
  obtain ⟨kz, hkz⟩ : ∃ z : Kn, z = kn0 := ⟨_, rfl⟩
  obtain ⟨W1, hW1⟩ : ∃ W1, W1 = (w.alloc (.cells #[.bool false, .bool false, .int .u32 0, .int .u32 0, .bool false, .int .u32 0, .int .u32 0, .bool false, .int .u32 0, .int .u32 0, .bool false, .int .u32 0, .int .u32 0, .bool false, .int .u32 0, .int .u32 0, .bool false, .int .u32 0, .int .u32 0, .bool false, .int .u32 0, .int .u32 0, .bool false, .int .u32 0, .int .u32 0, .bool false, .int .u32 0, .int .u32 0, .bool false, .int .u32 0, .int .u32 0] 42)).alloc (.cells #[.bool false, .bool false, .int .u32 0, .int .u32 0, .bool false, .int .u32 0, .int .u32 0, .bool false, .int .u32 0, .int .u32 0, .bool false, .int .u32 0, .int .u32 0, .bool false, .int .u32 0, .int .u32 0, .bool false, .int .u32 0, .int .u32 0, .bool false, .int .u32 0, .int .u32 0, .bool false, .int .u32 0, .int .u32 0, .bool false, .int .u32 0, .int .u32 0, .bool false, .int .u32 0, .int .u32 0] 42) := ⟨_, rfl⟩
  have T1 : Tw w w.heap.size (knF kz) (knF kz) W1 := by rw [hW1, hkz]; exact Tw.start w
  have HKZ := Lib.hid hkz; clear hkz
  have HIN := Lib.hid (fun W (hb : Below w.heap.size w W) => hI.below hb)
  have HT1 := Lib.hid T1
  have c1 := (HIN.out W1 HT1.out.b).cop
  have c2 := (HIN.out W1 HT1.out.b).cdst
  have c3 := (HIN.out W1 HT1.out.b).csrc
  have c4 := (HIN.out W1 HT1.out.b).cctx
  have q16 : ((i.op : Int) == 16) = false := by simp; omega
  have q17 : ((i.op : Int) == 17) = false := by simp; omega
  have q18 : ((i.op : Int) == 18) = false := by simp; omega
  have q19 : ((i.op : Int) == 19) = false := by simp; omega
  have q20 : ((i.op : Int) == 20) = false := by simp; omega
  have q21 : ((i.op : Int) == 21) = false := by simp; omega
  have q22 : ((i.op : Int) == 22) = false := by simp; omega
  have q23 : ((i.op : Int) == 23) = false := by simp; omega
  have q24 : ((i.op : Int) == 24) = true := by simp; omega
  have hrg := fun W hb => reg_not (HIN.out W hb) 0 (by omega) hs
  rw [show ((0 : Nat) : Int) = 0 from rfl] at hrg
  have HRG := Lib.hid hrg; clear hrg
  clear hop c2 c3 c4 hm hs
  have HW1 := Lib.hid hW1; clear hW1 T1
  go_enter Try.func32, Try.ntmps32
  go_upto_region 1 with fail
  rw [← HW1.out]
  go_wp2_with (go_at_call 39; (with_reducible refine (HRG.out _ HT1.out.b).mono ?_); rintro e W2 ⟨rfl, hb2⟩; have HT2 := Lib.hid (HT1.out.more hb2); clear hb2)
  exact ⟨rfl, rfl, HT2.out.b⟩
end Go.Proofs.Ytjlddhnjbjhmkaa
namespace Go.Proofs.Ytjlddhnjbjhmkaa
open Go.RowKit

set_option maxRecDepth 100000 in
set_option maxHeartbeats 1500000 in
theorem behind_sum {w : World} {x : Nat} {i : Ins8} {ctx : Nat} {k : Kn} (hI : InB w x i ctx k) (hm : i.May) (hop : i.op ≤ 15) (kk : Kn) (hC : ∀ W, Below w.heap.size w W → Calls Try.prog 44 #[.pointer (some ⟨x, 0, none⟩)] W fun e w' => e = .returned (.agg (knL kk).toArray) ∧ Below W.heap.size W w') :
    Calls Try.prog 32 #[.pointer (some ⟨x, 0, none⟩)] w fun e w' => e = .returned (.tuple #[.agg (knL (kk)).toArray, .agg (knL (kn0)).toArray]) ∧ Below w.heap.size w w' := by
  have hx := hI.lt
  have hdst := hm.dst
  have hsrc := hm.src
  obtain ⟨kz, hkz⟩ : ∃ z : Kn, z = kn0 := ⟨_, rfl⟩
  obtain ⟨W1, hW1⟩ : ∃ W1, W1 = (w.alloc (.cells #[.bool false, .bool false, .int .u32 0, .int .u32 0, .bool false, .int .u32 0, .int .u32 0, .bool false, .int .u32 0, .int .u32 0, .bool false, .int .u32 0, .int .u32 0, .bool false, .int .u32 0, .int .u32 0, .bool false, .int .u32 0, .int .u32 0, .bool false, .int .u32 0, .int .u32 0, .bool false, .int .u32 0, .int .u32 0, .bool false, .int .u32 0, .int .u32 0, .bool false, .int .u32 0, .int .u32 0] 42)).alloc (.cells #[.bool false, .bool false, .int .u32 0, .int .u32 0, .bool false, .int .u32 0, .int .u32 0, .bool false, .int .u32 0, .int .u32 0, .bool false, .int .u32 0, .int .u32 0, .bool false, .int .u32 0, .int .u32 0, .bool false, .int .u32 0, .int .u32 0, .bool false, .int .u32 0, .int .u32 0, .bool false, .int .u32 0, .int .u32 0, .bool false, .int .u32 0, .int .u32 0, .bool false, .int .u32 0, .int .u32 0] 42) := ⟨_, rfl⟩
  have T1 : Tw w w.heap.size (knF kz) (knF kz) W1 := by rw [hW1, hkz]; exact Tw.start w
  have HKZ := Lib.hid hkz; clear hkz
  have HIN := Lib.hid (fun W (hb : Below w.heap.size w W) => hI.below hb)
  have HT1 := Lib.hid T1
  have c1 := (HIN.out W1 HT1.out.b).cop
  have c2 := (HIN.out W1 HT1.out.b).cdst
  have c3 := (HIN.out W1 HT1.out.b).csrc
  have c4 := (HIN.out W1 HT1.out.b).cctx
  have q16 : ((i.op : Int) == 16) = false := by simp; omega
  have q17 : ((i.op : Int) == 17) = false := by simp; omega
  have q18 : ((i.op : Int) == 18) = false := by simp; omega
  have q19 : ((i.op : Int) == 19) = false := by simp; omega
  have q20 : ((i.op : Int) == 20) = false := by simp; omega
  have q21 : ((i.op : Int) == 21) = false := by simp; omega
  have q22 : ((i.op : Int) == 22) = false := by simp; omega
  have q23 : ((i.op : Int) == 23) = false := by simp; omega
  have q24 : ((i.op : Int) == 24) = false := by simp; omega
  have HCL := Lib.hid hC
  clear hop c2 c3 c4 hm hC
  have HW1 := Lib.hid hW1; clear hW1 T1
  go_enter Try.func32, Try.ntmps32
  go_upto_region 1 with fail
  rw [← HW1.out]
  go_upto_region 26 with fail
  clear c1
  have HT0 := Lib.hid (HT1.out.more ((Below.refl _ _).drew))
  refine wp_region_noPanic ?_
  refine planM (.rd 0 (.rd 2 (.eff 1 (.eff 3 (.eff 4 .done))))) [0, 1, 2, 3] (fun W => Kp (fun b => b = w.heap.size) W1 W) (by kernel_rfl) (by kernel_rfl) (fun _ _ _ _ _ h => h) ((Kp.refl _ _).drew) ?_
  repeat (refine pm_pure rfl (fun K hK => ?_); go_simp; refine hK _ ?_; clear hK K)
  refine pm_rdv 103 (.agg (knL (kz)).toArray) rfl rfl rfl (fun W hS => exec_load_mid 42 (.tmp 3) rfl (w.heap.size + 1) (0) rfl (knL (kz)) _ (rg_kept HT1.out.j.range hS (by omega)) Try.underlying42 rfl (by rw [knL_length]; exact info_kn)) ?_
  refine pm_eff rfl rfl (fun K hK => ?_)
  go_simp
  (with_reducible refine (HCL.out _ HT0.out.b).mono ?_)
  rintro e w8 ⟨rfl, hb8⟩
  have HB8 : Hid (Below W1.heap.size W1 w8) := Lib.hid (((Below.refl _ _).drew).trans hb8); clear hb8
  have HT8 := Lib.hid (HT1.out.more HB8.out)
  refine hK _ _ (fun _ => Kp.of_below HB8.out _) ?_
  clear hK K
  have T1 := HT8.out.setn (knF (kk))
  have T2 := T1.setj (knF (kz))
  refine pm_store rfl rfl rfl 42 (.tmp 2) (.tmp 102) rfl (w.heap.size) 0 (knL (kk)).toArray rfl rfl (by rw [knA_size]; exact there_blk HT8.out.n) (by rw [knA_size]; exact info_kn) (knL_one _) (fun _ => Kp.setCells (M := fun b => b = w.heap.size) (.inl rfl) _ _ _ (Kp.of_below HB8.out _)) ?_
  rw [knL_tl]
  refine pm_store rfl rfl rfl 42 (.tmp 3) (.tmp 103) rfl (w.heap.size + 1) 0 (knL (kz)).toArray rfl rfl (by rw [knA_size]; exact there_blk T1.j) (by rw [knA_size]; exact info_kn) (knL_one _) (fun h => by cases h) ?_
  rw [knL_tl]
  refine pm_done ?_
  refine NoPanic.normal ?_
  generalize hWf : (World.setCells (w8) w.heap.size 0 (rowF 31 (knF (kk)))).setCells (w.heap.size + 1) 0 (rowF 31 (knF (kz))) = Wf
  have T3 : Tw w w.heap.size (knF (kk)) (knF (kz)) Wf := by rw [← hWf]; exact T2
  clear hWf T1 T2
  have HT3 := Lib.hid T3; clear T3
  go_wp2
  exact bodyPost_ret (v := .tuple #[.agg (knL (kk)).toArray, .agg (knL (kz)).toArray]) (results_cell2_range Try.results32 _ _ w.heap.size (w.heap.size + 1) _ _ _ rfl rfl HT3.out.n.range HT3.out.j.range Try.underlying42 rfl (by rw [knL_length]; exact info_kn) (by rw [knL_length]; exact info_kn)) rfl ⟨by rw [HKZ.out], HT3.out.b⟩

set_option maxRecDepth 100000 in
set_option maxHeartbeats 1500000 in
theorem behind_sum_not {w : World} {x : Nat} {i : Ins8} {ctx : Nat} {k : Kn} (hI : InB w x i ctx k) (hm : i.May) (hop : i.op ≤ 15) (why : Int) (hC : ∀ W, Below w.heap.size w W → Calls Try.prog 44 #[.pointer (some ⟨x, 0, none⟩)] W fun e w' => e = .panicked (stopC why) ∧ Below W.heap.size W w') :
    Calls Try.prog 32 #[.pointer (some ⟨x, 0, none⟩)] w fun e w' => e = .panicked (stopC why) ∧ Below w.heap.size w w' := by
  have hx := hI.lt
  have hdst := hm.dst
  have hsrc := hm.src
  obtain ⟨kz, hkz⟩ : ∃ z : Kn, z = kn0 := ⟨_, rfl⟩
  obtain ⟨W1, hW1⟩ : ∃ W1, W1 = (w.alloc (.cells #[.bool false, .bool false, .int .u32 0, .int .u32 0, .bool false, .int .u32 0, .int .u32 0, .bool false, .int .u32 0, .int .u32 0, .bool false, .int .u32 0, .int .u32 0, .bool false, .int .u32 0, .int .u32 0, .bool false, .int .u32 0, .int .u32 0, .bool false, .int .u32 0, .int .u32 0, .bool false, .int .u32 0, .int .u32 0, .bool false, .int .u32 0, .int .u32 0, .bool false, .int .u32 0, .int .u32 0] 42)).alloc (.cells #[.bool false, .bool false, .int .u32 0, .int .u32 0, .bool false, .int .u32 0, .int .u32 0, .bool false, .int .u32 0, .int .u32 0, .bool false, .int .u32 0, .int .u32 0, .bool false, .int .u32 0, .int .u32 0, .bool false, .int .u32 0, .int .u32 0, .bool false, .int .u32 0, .int .u32 0, .bool false, .int .u32 0, .int .u32 0, .bool false, .int .u32 0, .int .u32 0, .bool false, .int .u32 0, .int .u32 0] 42) := ⟨_, rfl⟩
  have T1 : Tw w w.heap.size (knF kz) (knF kz) W1 := by rw [hW1, hkz]; exact Tw.start w
  have HKZ := Lib.hid hkz; clear hkz
  have HIN := Lib.hid (fun W (hb : Below w.heap.size w W) => hI.below hb)
  have HT1 := Lib.hid T1
  have c1 := (HIN.out W1 HT1.out.b).cop
  have c2 := (HIN.out W1 HT1.out.b).cdst
  have c3 := (HIN.out W1 HT1.out.b).csrc
  have c4 := (HIN.out W1 HT1.out.b).cctx
  have q16 : ((i.op : Int) == 16) = false := by simp; omega
  have q17 : ((i.op : Int) == 17) = false := by simp; omega
  have q18 : ((i.op : Int) == 18) = false := by simp; omega
  have q19 : ((i.op : Int) == 19) = false := by simp; omega
  have q20 : ((i.op : Int) == 20) = false := by simp; omega
  have q21 : ((i.op : Int) == 21) = false := by simp; omega
  have q22 : ((i.op : Int) == 22) = false := by simp; omega
  have q23 : ((i.op : Int) == 23) = false := by simp; omega
  have q24 : ((i.op : Int) == 24) = false := by simp; omega
  have HCL := Lib.hid hC
  clear hop c2 c3 c4 hm hC
  have HW1 := Lib.hid hW1; clear hW1 T1
  go_enter Try.func32, Try.ntmps32
  go_upto_region 1 with fail
  rw [← HW1.out]
  go_upto_region 26 with fail
  clear c1
  have HT0 := Lib.hid (HT1.out.more ((Below.refl _ _).drew))
  refine planM (.rd 0 (.rd 2 (.eff 1 (.eff 3 (.eff 4 .done))))) [0, 1, 2, 3] (fun W => Kp (fun b => b = w.heap.size) W1 W) (by kernel_rfl) (by kernel_rfl) (fun c a d v w h => by cases d <;> exact h) ((Kp.refl _ _).drew) ?_
  repeat (refine pm_pure rfl (fun K hK => ?_); go_simp; refine hK _ ?_; clear hK K)
  refine pm_rdv 103 (.agg (knL (kz)).toArray) rfl rfl rfl (fun W hS => exec_load_mid 42 (.tmp 3) rfl (w.heap.size + 1) (0) rfl (knL (kz)) _ (rg_kept HT1.out.j.range hS (by omega)) Try.underlying42 rfl (by rw [knL_length]; exact info_kn)) ?_
  refine pm_eff rfl rfl (fun K hK => ?_)
  go_simp
  (with_reducible refine (HCL.out _ HT0.out.b).mono ?_)
  rintro e w8 ⟨rfl, hb8⟩
  exact ⟨rfl, rfl, HT0.out.b.trans (hb8.mono HT0.out.b.size)⟩
end Go.Proofs.Ytjlddhnjbjhmkaa
namespace Go.Proofs.Ytjlddhnjbjhmkaa
open Go.RowKit

set_option maxRecDepth 100000 in
set_option maxHeartbeats 1500000 in
theorem behind_eq {w : World} {x : Nat} {i : Ins8} {ctx : Nat} {k : Kn} (hI : InB w x i ctx k) (hm : i.May) (hop : i.op = 20) (N J : Kn) (hC : ∀ W, Below w.heap.size w W → Calls Try.prog 41 #[.pointer (some ⟨x, 0, none⟩)] W fun e w' => e = .returned (.tuple #[.agg (knL N).toArray, .agg (knL J).toArray]) ∧ Below W.heap.size W w') :
    Calls Try.prog 32 #[.pointer (some ⟨x, 0, none⟩)] w fun e w' => e = .returned (.tuple #[.agg (knL (N)).toArray, .agg (knL (J)).toArray]) ∧ Below w.heap.size w w' := by
  have hx := hI.lt
  have hdst := hm.dst
  have hsrc := hm.src
  obtain ⟨kz, hkz⟩ : ∃ z : Kn, z = kn0 := ⟨_, rfl⟩
  obtain ⟨W1, hW1⟩ : ∃ W1, W1 = (w.alloc (.cells #[.bool false, .bool false, .int .u32 0, .int .u32 0, .bool false, .int .u32 0, .int .u32 0, .bool false, .int .u32 0, .int .u32 0, .bool false, .int .u32 0, .int .u32 0, .bool false, .int .u32 0, .int .u32 0, .bool false, .int .u32 0, .int .u32 0, .bool false, .int .u32 0, .int .u32 0, .bool false, .int .u32 0, .int .u32 0, .bool false, .int .u32 0, .int .u32 0, .bool false, .int .u32 0, .int .u32 0] 42)).alloc (.cells #[.bool false, .bool false, .int .u32 0, .int .u32 0, .bool false, .int .u32 0, .int .u32 0, .bool false, .int .u32 0, .int .u32 0, .bool false, .int .u32 0, .int .u32 0, .bool false, .int .u32 0, .int .u32 0, .bool false, .int .u32 0, .int .u32 0, .bool false, .int .u32 0, .int .u32 0, .bool false, .int .u32 0, .int .u32 0, .bool false, .int .u32 0, .int .u32 0, .bool false, .int .u32 0, .int .u32 0] 42) := ⟨_, rfl⟩
  have T1 : Tw w w.heap.size (knF kz) (knF kz) W1 := by rw [hW1, hkz]; exact Tw.start w
  have HKZ := Lib.hid hkz; clear hkz
  have HIN := Lib.hid (fun W (hb : Below w.heap.size w W) => hI.below hb)
  have HT1 := Lib.hid T1
  have c1 := (HIN.out W1 HT1.out.b).cop
  have c2 := (HIN.out W1 HT1.out.b).cdst
  have c3 := (HIN.out W1 HT1.out.b).csrc
  have c4 := (HIN.out W1 HT1.out.b).cctx
  have q16 : ((i.op : Int) == 16) = false := by simp; omega
  have q17 : ((i.op : Int) == 17) = false := by simp; omega
  have q18 : ((i.op : Int) == 18) = false := by simp; omega
  have q19 : ((i.op : Int) == 19) = false := by simp; omega
  have q20 : ((i.op : Int) == 20) = true := by simp; omega
  have q21 : ((i.op : Int) == 21) = false := by simp; omega
  have q22 : ((i.op : Int) == 22) = false := by simp; omega
  have q23 : ((i.op : Int) == 23) = false := by simp; omega
  have q24 : ((i.op : Int) == 24) = false := by simp; omega
  have HCL := Lib.hid hC
  clear hop c2 c3 c4 hm hC
  have HW1 := Lib.hid hW1; clear hW1 T1
  go_enter Try.func32, Try.ntmps32
  go_upto_region 1 with fail
  rw [← HW1.out]
  go_upto_region 17 with fail
  clear c1
  refine wp_region_list ?_
  refine wpList_val0 (.pointer (some ⟨x, 0, none⟩)) rfl (by kernel_rfl) ?_
  refine wpList_plain rfl fun K hK => ?_
  refine wp_calls_ret (f := 41) (args := #[.pointer (some ⟨x, 0, none⟩)]) (by simp [execOp, go_sem]) (HCL.out _ HT1.out.b) (fun w8 hb8 => ?_)
  refine hK _ _ ?_
  clear hK K
  have T8 := HT1.out.more hb8
  refine wpList_val0 (.agg (knL N).toArray) rfl (by kernel_rfl) ?_
  refine wpList_val0 (.agg (knL J).toArray) rfl (by kernel_rfl) ?_
  refine wpList_store_mid rfl 42 (.tmp 2) (.tmp 81) rfl w.heap.size 0 (knL N).toArray (by kernel_rfl) (by kernel_rfl) (by rw [knA_size]; exact there_blk T8.n) (by rw [knA_size]; exact info_kn) (knL_one _) ?_
  rw [knL_tl]
  have T9 := T8.setn (knF N)
  refine wpList_store_mid rfl 42 (.tmp 3) (.tmp 82) rfl (w.heap.size + 1) 0 (knL J).toArray (by kernel_rfl) (by kernel_rfl) (by rw [knA_size]; exact there_blk T9.j) (by rw [knA_size]; exact info_kn) (knL_one _) ?_
  rw [knL_tl]
  have TX := T9.setj (knF J)
  generalize hWf : (w8.setCells w.heap.size 0 (rowF 31 (knF N))).setCells (w.heap.size + 1) 0 (rowF 31 (knF J)) = Wf at TX ⊢
  clear hWf T8 T9 hb8
  have HTX := Lib.hid TX; clear TX
  go_wp2
  exact bodyPost_ret (v := .tuple #[.agg (knL N).toArray, .agg (knL J).toArray]) (results_cell2_range Try.results32 _ _ w.heap.size (w.heap.size + 1) _ _ _ rfl rfl HTX.out.n.range HTX.out.j.range Try.underlying42 rfl (by rw [knL_length]; exact info_kn) (by rw [knL_length]; exact info_kn)) rfl ⟨rfl, HTX.out.b⟩

set_option maxRecDepth 100000 in
set_option maxHeartbeats 1500000 in
theorem behind_eq_not {w : World} {x : Nat} {i : Ins8} {ctx : Nat} {k : Kn} (hI : InB w x i ctx k) (hm : i.May) (hop : i.op = 20) (why : Int) (hC : ∀ W, Below w.heap.size w W → Calls Try.prog 41 #[.pointer (some ⟨x, 0, none⟩)] W fun e w' => e = .panicked (stopC why) ∧ Below W.heap.size W w') :
    Calls Try.prog 32 #[.pointer (some ⟨x, 0, none⟩)] w fun e w' => e = .panicked (stopC why) ∧ Below w.heap.size w w' := by
  have hx := hI.lt
  have hdst := hm.dst
  have hsrc := hm.src
  obtain ⟨kz, hkz⟩ : ∃ z : Kn, z = kn0 := ⟨_, rfl⟩
  obtain ⟨W1, hW1⟩ : ∃ W1, W1 = (w.alloc (.cells #[.bool false, .bool false, .int .u32 0, .int .u32 0, .bool false, .int .u32 0, .int .u32 0, .bool false, .int .u32 0, .int .u32 0, .bool false, .int .u32 0, .int .u32 0, .bool false, .int .u32 0, .int .u32 0, .bool false, .int .u32 0, .int .u32 0, .bool false, .int .u32 0, .int .u32 0, .bool false, .int .u32 0, .int .u32 0, .bool false, .int .u32 0, .int .u32 0, .bool false, .int .u32 0, .int .u32 0] 42)).alloc (.cells #[.bool false, .bool false, .int .u32 0, .int .u32 0, .bool false, .int .u32 0, .int .u32 0, .bool false, .int .u32 0, .int .u32 0, .bool false, .int .u32 0, .int .u32 0, .bool false, .int .u32 0, .int .u32 0, .bool false, .int .u32 0, .int .u32 0, .bool false, .int .u32 0, .int .u32 0, .bool false, .int .u32 0, .int .u32 0, .bool false, .int .u32 0, .int .u32 0, .bool false, .int .u32 0, .int .u32 0] 42) := ⟨_, rfl⟩
  have T1 : Tw w w.heap.size (knF kz) (knF kz) W1 := by rw [hW1, hkz]; exact Tw.start w
  have HKZ := Lib.hid hkz; clear hkz
  have HIN := Lib.hid (fun W (hb : Below w.heap.size w W) => hI.below hb)
  have HT1 := Lib.hid T1
  have c1 := (HIN.out W1 HT1.out.b).cop
  have c2 := (HIN.out W1 HT1.out.b).cdst
  have c3 := (HIN.out W1 HT1.out.b).csrc
  have c4 := (HIN.out W1 HT1.out.b).cctx
  have q16 : ((i.op : Int) == 16) = false := by simp; omega
  have q17 : ((i.op : Int) == 17) = false := by simp; omega
  have q18 : ((i.op : Int) == 18) = false := by simp; omega
  have q19 : ((i.op : Int) == 19) = false := by simp; omega
  have q20 : ((i.op : Int) == 20) = true := by simp; omega
  have q21 : ((i.op : Int) == 21) = false := by simp; omega
  have q22 : ((i.op : Int) == 22) = false := by simp; omega
  have q23 : ((i.op : Int) == 23) = false := by simp; omega
  have q24 : ((i.op : Int) == 24) = false := by simp; omega
  have HCL := Lib.hid hC
  clear hop c2 c3 c4 hm hC
  have HW1 := Lib.hid hW1; clear hW1 T1
  go_enter Try.func32, Try.ntmps32
  go_upto_region 1 with fail
  rw [← HW1.out]
  go_wp2_with (go_at_call 41; (with_reducible refine (HCL.out _ HT1.out.b).mono ?_); rintro e w8 ⟨rfl, hb8⟩; have HT8 := Lib.hid (HT1.out.more hb8); clear hb8)
  exact ⟨rfl, rfl, HT8.out.b⟩
end Go.Proofs.Ytjlddhnjbjhmkaa
namespace Go.Proofs.Ytjlddhnjbjhmkaa
open Go.RowKit

set_option maxRecDepth 100000 in
set_option maxHeartbeats 1500000 in
theorem behind_lti {w : World} {x : Nat} {i : Ins8} {ctx : Nat} {k : Kn} (hI : InB w x i ctx k) (hm : i.May) (hop : i.op = 21) (N J : Kn) (hC : ∀ W, Below w.heap.size w W → Calls Try.prog 42 #[.pointer (some ⟨x, 0, none⟩)] W fun e w' => e = .returned (.tuple #[.agg (knL N).toArray, .agg (knL J).toArray]) ∧ Below W.heap.size W w') :
    Calls Try.prog 32 #[.pointer (some ⟨x, 0, none⟩)] w fun e w' => e = .returned (.tuple #[.agg (knL (N)).toArray, .agg (knL (J)).toArray]) ∧ Below w.heap.size w w' := by
  have hx := hI.lt
  have hdst := hm.dst
  have hsrc := hm.src
  obtain ⟨kz, hkz⟩ : ∃ z : Kn, z = kn0 := ⟨_, rfl⟩
  obtain ⟨W1, hW1⟩ : ∃ W1, W1 = (w.alloc (.cells #[.bool false, .bool false, .int .u32 0, .int .u32 0, .bool false, .int .u32 0, .int .u32 0, .bool false, .int .u32 0, .int .u32 0, .bool false, .int .u32 0, .int .u32 0, .bool false, .int .u32 0, .int .u32 0, .bool false, .int .u32 0, .int .u32 0, .bool false, .int .u32 0, .int .u32 0, .bool false, .int .u32 0, .int .u32 0, .bool false, .int .u32 0, .int .u32 0, .bool false, .int .u32 0, .int .u32 0] 42)).alloc (.cells #[.bool false, .bool false, .int .u32 0, .int .u32 0, .bool false, .int .u32 0, .int .u32 0, .bool false, .int .u32 0, .int .u32 0, .bool false, .int .u32 0, .int .u32 0, .bool false, .int .u32 0, .int .u32 0, .bool false, .int .u32 0, .int .u32 0, .bool false, .int .u32 0, .int .u32 0, .bool false, .int .u32 0, .int .u32 0, .bool false, .int .u32 0, .int .u32 0, .bool false, .int .u32 0, .int .u32 0] 42) := ⟨_, rfl⟩
  have T1 : Tw w w.heap.size (knF kz) (knF kz) W1 := by rw [hW1, hkz]; exact Tw.start w
  have HKZ := Lib.hid hkz; clear hkz
  have HIN := Lib.hid (fun W (hb : Below w.heap.size w W) => hI.below hb)
  have HT1 := Lib.hid T1
  have c1 := (HIN.out W1 HT1.out.b).cop
  have c2 := (HIN.out W1 HT1.out.b).cdst
  have c3 := (HIN.out W1 HT1.out.b).csrc
  have c4 := (HIN.out W1 HT1.out.b).cctx
  have q16 : ((i.op : Int) == 16) = false := by simp; omega
  have q17 : ((i.op : Int) == 17) = false := by simp; omega
  have q18 : ((i.op : Int) == 18) = false := by simp; omega
  have q19 : ((i.op : Int) == 19) = false := by simp; omega
  have q20 : ((i.op : Int) == 20) = false := by simp; omega
  have q21 : ((i.op : Int) == 21) = true := by simp; omega
  have q22 : ((i.op : Int) == 22) = false := by simp; omega
  have q23 : ((i.op : Int) == 23) = false := by simp; omega
  have q24 : ((i.op : Int) == 24) = false := by simp; omega
  have HCL := Lib.hid hC
  clear hop c2 c3 c4 hm hC
  have HW1 := Lib.hid hW1; clear hW1 T1
  go_enter Try.func32, Try.ntmps32
  go_upto_region 1 with fail
  rw [← HW1.out]
  go_upto_region 20 with fail
  clear c1
  refine wp_region_list ?_
  refine wpList_val0 (.pointer (some ⟨x, 0, none⟩)) rfl (by kernel_rfl) ?_
  refine wpList_plain rfl fun K hK => ?_
  refine wp_calls_ret (f := 42) (args := #[.pointer (some ⟨x, 0, none⟩)]) (by simp [execOp, go_sem]) (HCL.out _ HT1.out.b) (fun w8 hb8 => ?_)
  refine hK _ _ ?_
  clear hK K
  have T8 := HT1.out.more hb8
  refine wpList_val0 (.agg (knL N).toArray) rfl (by kernel_rfl) ?_
  refine wpList_val0 (.agg (knL J).toArray) rfl (by kernel_rfl) ?_
  refine wpList_store_mid rfl 42 (.tmp 2) (.tmp 88) rfl w.heap.size 0 (knL N).toArray (by kernel_rfl) (by kernel_rfl) (by rw [knA_size]; exact there_blk T8.n) (by rw [knA_size]; exact info_kn) (knL_one _) ?_
  rw [knL_tl]
  have T9 := T8.setn (knF N)
  refine wpList_store_mid rfl 42 (.tmp 3) (.tmp 89) rfl (w.heap.size + 1) 0 (knL J).toArray (by kernel_rfl) (by kernel_rfl) (by rw [knA_size]; exact there_blk T9.j) (by rw [knA_size]; exact info_kn) (knL_one _) ?_
  rw [knL_tl]
  have TX := T9.setj (knF J)
  generalize hWf : (w8.setCells w.heap.size 0 (rowF 31 (knF N))).setCells (w.heap.size + 1) 0 (rowF 31 (knF J)) = Wf at TX ⊢
  clear hWf T8 T9 hb8
  have HTX := Lib.hid TX; clear TX
  go_wp2
  exact bodyPost_ret (v := .tuple #[.agg (knL N).toArray, .agg (knL J).toArray]) (results_cell2_range Try.results32 _ _ w.heap.size (w.heap.size + 1) _ _ _ rfl rfl HTX.out.n.range HTX.out.j.range Try.underlying42 rfl (by rw [knL_length]; exact info_kn) (by rw [knL_length]; exact info_kn)) rfl ⟨rfl, HTX.out.b⟩

set_option maxRecDepth 100000 in
set_option maxHeartbeats 1500000 in
theorem behind_lti_not {w : World} {x : Nat} {i : Ins8} {ctx : Nat} {k : Kn} (hI : InB w x i ctx k) (hm : i.May) (hop : i.op = 21) (why : Int) (hC : ∀ W, Below w.heap.size w W → Calls Try.prog 42 #[.pointer (some ⟨x, 0, none⟩)] W fun e w' => e = .panicked (stopC why) ∧ Below W.heap.size W w') :
    Calls Try.prog 32 #[.pointer (some ⟨x, 0, none⟩)] w fun e w' => e = .panicked (stopC why) ∧ Below w.heap.size w w' := by
  have hx := hI.lt
  have hdst := hm.dst
  have hsrc := hm.src
  obtain ⟨kz, hkz⟩ : ∃ z : Kn, z = kn0 := ⟨_, rfl⟩
  obtain ⟨W1, hW1⟩ : ∃ W1, W1 = (w.alloc (.cells #[.bool false, .bool false, .int .u32 0, .int .u32 0, .bool false, .int .u32 0, .int .u32 0, .bool false, .int .u32 0, .int .u32 0, .bool false, .int .u32 0, .int .u32 0, .bool false, .int .u32 0, .int .u32 0, .bool false, .int .u32 0, .int .u32 0, .bool false, .int .u32 0, .int .u32 0, .bool false, .int .u32 0, .int .u32 0, .bool false, .int .u32 0, .int .u32 0, .bool false, .int .u32 0, .int .u32 0] 42)).alloc (.cells #[.bool false, .bool false, .int .u32 0, .int .u32 0, .bool false, .int .u32 0, .int .u32 0, .bool false, .int .u32 0, .int .u32 0, .bool false, .int .u32 0, .int .u32 0, .bool false, .int .u32 0, .int .u32 0, .bool false, .int .u32 0, .int .u32 0, .bool false, .int .u32 0, .int .u32 0, .bool false, .int .u32 0, .int .u32 0, .bool false, .int .u32 0, .int .u32 0, .bool false, .int .u32 0, .int .u32 0] 42) := ⟨_, rfl⟩
  have T1 : Tw w w.heap.size (knF kz) (knF kz) W1 := by rw [hW1, hkz]; exact Tw.start w
  have HKZ := Lib.hid hkz; clear hkz
  have HIN := Lib.hid (fun W (hb : Below w.heap.size w W) => hI.below hb)
  have HT1 := Lib.hid T1
  have c1 := (HIN.out W1 HT1.out.b).cop
  have c2 := (HIN.out W1 HT1.out.b).cdst
  have c3 := (HIN.out W1 HT1.out.b).csrc
  have c4 := (HIN.out W1 HT1.out.b).cctx
  have q16 : ((i.op : Int) == 16) = false := by simp; omega
  have q17 : ((i.op : Int) == 17) = false := by simp; omega
  have q18 : ((i.op : Int) == 18) = false := by simp; omega
  have q19 : ((i.op : Int) == 19) = false := by simp; omega
  have q20 : ((i.op : Int) == 20) = false := by simp; omega
  have q21 : ((i.op : Int) == 21) = true := by simp; omega
  have q22 : ((i.op : Int) == 22) = false := by simp; omega
  have q23 : ((i.op : Int) == 23) = false := by simp; omega
  have q24 : ((i.op : Int) == 24) = false := by simp; omega
  have HCL := Lib.hid hC
  clear hop c2 c3 c4 hm hC
  have HW1 := Lib.hid hW1; clear hW1 T1
  go_enter Try.func32, Try.ntmps32
  go_upto_region 1 with fail
  rw [← HW1.out]
  go_wp2_with (go_at_call 42; (with_reducible refine (HCL.out _ HT1.out.b).mono ?_); rintro e w8 ⟨rfl, hb8⟩; have HT8 := Lib.hid (HT1.out.more hb8); clear hb8)
  exact ⟨rfl, rfl, HT8.out.b⟩
end Go.Proofs.Ytjlddhnjbjhmkaa
namespace Go.Proofs.Ytjlddhnjbjhmkaa
open Go.RowKit

set_option maxRecDepth 100000 in
set_option maxHeartbeats 1500000 in
theorem behind_lt {w : World} {x : Nat} {i : Ins8} {ctx : Nat} {k : Kn} (hI : InB w x i ctx k) (hm : i.May) (hop : i.op = 22) (N J : Kn) (hC : ∀ W, Below w.heap.size w W → Calls Try.prog 42 #[.pointer (some ⟨x, 0, none⟩)] W fun e w' => e = .returned (.tuple #[.agg (knL N).toArray, .agg (knL J).toArray]) ∧ Below W.heap.size W w') :
    Calls Try.prog 32 #[.pointer (some ⟨x, 0, none⟩)] w fun e w' => e = .returned (.tuple #[.agg (knL (N)).toArray, .agg (knL (J)).toArray]) ∧ Below w.heap.size w w' := by
  have hx := hI.lt
  have hdst := hm.dst
  have hsrc := hm.src
  obtain ⟨kz, hkz⟩ : ∃ z : Kn, z = kn0 := ⟨_, rfl⟩
  obtain ⟨W1, hW1⟩ : ∃ W1, W1 = (w.alloc (.cells #[.bool false, .bool false, .int .u32 0, .int .u32 0, .bool false, .int .u32 0, .int .u32 0, .bool false, .int .u32 0, .int .u32 0, .bool false, .int .u32 0, .int .u32 0, .bool false, .int .u32 0, .int .u32 0, .bool false, .int .u32 0, .int .u32 0, .bool false, .int .u32 0, .int .u32 0, .bool false, .int .u32 0, .int .u32 0, .bool false, .int .u32 0, .int .u32 0, .bool false, .int .u32 0, .int .u32 0] 42)).alloc (.cells #[.bool false, .bool false, .int .u32 0, .int .u32 0, .bool false, .int .u32 0, .int .u32 0, .bool false, .int .u32 0, .int .u32 0, .bool false, .int .u32 0, .int .u32 0, .bool false, .int .u32 0, .int .u32 0, .bool false, .int .u32 0, .int .u32 0, .bool false, .int .u32 0, .int .u32 0, .bool false, .int .u32 0, .int .u32 0, .bool false, .int .u32 0, .int .u32 0, .bool false, .int .u32 0, .int .u32 0] 42) := ⟨_, rfl⟩
  have T1 : Tw w w.heap.size (knF kz) (knF kz) W1 := by rw [hW1, hkz]; exact Tw.start w
  have HKZ := Lib.hid hkz; clear hkz
  have HIN := Lib.hid (fun W (hb : Below w.heap.size w W) => hI.below hb)
  have HT1 := Lib.hid T1
  have c1 := (HIN.out W1 HT1.out.b).cop
  have c2 := (HIN.out W1 HT1.out.b).cdst
  have c3 := (HIN.out W1 HT1.out.b).csrc
  have c4 := (HIN.out W1 HT1.out.b).cctx
  have q16 : ((i.op : Int) == 16) = false := by simp; omega
  have q17 : ((i.op : Int) == 17) = false := by simp; omega
  have q18 : ((i.op : Int) == 18) = false := by simp; omega
  have q19 : ((i.op : Int) == 19) = false := by simp; omega
  have q20 : ((i.op : Int) == 20) = false := by simp; omega
  have q21 : ((i.op : Int) == 21) = false := by simp; omega
  have q22 : ((i.op : Int) == 22) = true := by simp; omega
  have q23 : ((i.op : Int) == 23) = false := by simp; omega
  have q24 : ((i.op : Int) == 24) = false := by simp; omega
  have HCL := Lib.hid hC
  clear hop c2 c3 c4 hm hC
  have HW1 := Lib.hid hW1; clear hW1 T1
  go_enter Try.func32, Try.ntmps32
  go_upto_region 1 with fail
  rw [← HW1.out]
  go_upto_region 20 with fail
  clear c1
  refine wp_region_list ?_
  refine wpList_val0 (.pointer (some ⟨x, 0, none⟩)) rfl (by kernel_rfl) ?_
  refine wpList_plain rfl fun K hK => ?_
  refine wp_calls_ret (f := 42) (args := #[.pointer (some ⟨x, 0, none⟩)]) (by simp [execOp, go_sem]) (HCL.out _ HT1.out.b) (fun w8 hb8 => ?_)
  refine hK _ _ ?_
  clear hK K
  have T8 := HT1.out.more hb8
  refine wpList_val0 (.agg (knL N).toArray) rfl (by kernel_rfl) ?_
  refine wpList_val0 (.agg (knL J).toArray) rfl (by kernel_rfl) ?_
  refine wpList_store_mid rfl 42 (.tmp 2) (.tmp 88) rfl w.heap.size 0 (knL N).toArray (by kernel_rfl) (by kernel_rfl) (by rw [knA_size]; exact there_blk T8.n) (by rw [knA_size]; exact info_kn) (knL_one _) ?_
  rw [knL_tl]
  have T9 := T8.setn (knF N)
  refine wpList_store_mid rfl 42 (.tmp 3) (.tmp 89) rfl (w.heap.size + 1) 0 (knL J).toArray (by kernel_rfl) (by kernel_rfl) (by rw [knA_size]; exact there_blk T9.j) (by rw [knA_size]; exact info_kn) (knL_one _) ?_
  rw [knL_tl]
  have TX := T9.setj (knF J)
  generalize hWf : (w8.setCells w.heap.size 0 (rowF 31 (knF N))).setCells (w.heap.size + 1) 0 (rowF 31 (knF J)) = Wf at TX ⊢
  clear hWf T8 T9 hb8
  have HTX := Lib.hid TX; clear TX
  go_wp2
  exact bodyPost_ret (v := .tuple #[.agg (knL N).toArray, .agg (knL J).toArray]) (results_cell2_range Try.results32 _ _ w.heap.size (w.heap.size + 1) _ _ _ rfl rfl HTX.out.n.range HTX.out.j.range Try.underlying42 rfl (by rw [knL_length]; exact info_kn) (by rw [knL_length]; exact info_kn)) rfl ⟨rfl, HTX.out.b⟩

set_option maxRecDepth 100000 in
set_option maxHeartbeats 1500000 in
theorem behind_lt_not {w : World} {x : Nat} {i : Ins8} {ctx : Nat} {k : Kn} (hI : InB w x i ctx k) (hm : i.May) (hop : i.op = 22) (why : Int) (hC : ∀ W, Below w.heap.size w W → Calls Try.prog 42 #[.pointer (some ⟨x, 0, none⟩)] W fun e w' => e = .panicked (stopC why) ∧ Below W.heap.size W w') :
    Calls Try.prog 32 #[.pointer (some ⟨x, 0, none⟩)] w fun e w' => e = .panicked (stopC why) ∧ Below w.heap.size w w' := by
  have hx := hI.lt
  have hdst := hm.dst
  have hsrc := hm.src
  obtain ⟨kz, hkz⟩ : ∃ z : Kn, z = kn0 := ⟨_, rfl⟩
  obtain ⟨W1, hW1⟩ : ∃ W1, W1 = (w.alloc (.cells #[.bool false, .bool false, .int .u32 0, .int .u32 0, .bool false, .int .u32 0, .int .u32 0, .bool false, .int .u32 0, .int .u32 0, .bool false, .int .u32 0, .int .u32 0, .bool false, .int .u32 0, .int .u32 0, .bool false, .int .u32 0, .int .u32 0, .bool false, .int .u32 0, .int .u32 0, .bool false, .int .u32 0, .int .u32 0, .bool false, .int .u32 0, .int .u32 0, .bool false, .int .u32 0, .int .u32 0] 42)).alloc (.cells #[.bool false, .bool false, .int .u32 0, .int .u32 0, .bool false, .int .u32 0, .int .u32 0, .bool false, .int .u32 0, .int .u32 0, .bool false, .int .u32 0, .int .u32 0, .bool false, .int .u32 0, .int .u32 0, .bool false, .int .u32 0, .int .u32 0, .bool false, .int .u32 0, .int .u32 0, .bool false, .int .u32 0, .int .u32 0, .bool false, .int .u32 0, .int .u32 0, .bool false, .int .u32 0, .int .u32 0] 42) := ⟨_, rfl⟩
  have T1 : Tw w w.heap.size (knF kz) (knF kz) W1 := by rw [hW1, hkz]; exact Tw.start w
  have HKZ := Lib.hid hkz; clear hkz
  have HIN := Lib.hid (fun W (hb : Below w.heap.size w W) => hI.below hb)
  have HT1 := Lib.hid T1
  have c1 := (HIN.out W1 HT1.out.b).cop
  have c2 := (HIN.out W1 HT1.out.b).cdst
  have c3 := (HIN.out W1 HT1.out.b).csrc
  have c4 := (HIN.out W1 HT1.out.b).cctx
  have q16 : ((i.op : Int) == 16) = false := by simp; omega
  have q17 : ((i.op : Int) == 17) = false := by simp; omega
  have q18 : ((i.op : Int) == 18) = false := by simp; omega
  have q19 : ((i.op : Int) == 19) = false := by simp; omega
  have q20 : ((i.op : Int) == 20) = false := by simp; omega
  have q21 : ((i.op : Int) == 21) = false := by simp; omega
  have q22 : ((i.op : Int) == 22) = true := by simp; omega
  have q23 : ((i.op : Int) == 23) = false := by simp; omega
  have q24 : ((i.op : Int) == 24) = false := by simp; omega
  have HCL := Lib.hid hC
  clear hop c2 c3 c4 hm hC
  have HW1 := Lib.hid hW1; clear hW1 T1
  go_enter Try.func32, Try.ntmps32
  go_upto_region 1 with fail
  rw [← HW1.out]
  go_wp2_with (go_at_call 42; (with_reducible refine (HCL.out _ HT1.out.b).mono ?_); rintro e w8 ⟨rfl, hb8⟩; have HT8 := Lib.hid (HT1.out.more hb8); clear hb8)
  exact ⟨rfl, rfl, HT8.out.b⟩
end Go.Proofs.Ytjlddhnjbjhmkaa
namespace Go.Proofs.Ytjlddhnjbjhmkaa
open Go.RowKit

set_option maxRecDepth 100000 in
set_option maxHeartbeats 1500000 in
theorem behind_ld16 {w : World} {x : Nat} {i : Ins8} {ctx : Nat} {k : Kn} (hI : InB w x i ctx k) (hm : i.May) (hr : k.right) (hop : i.op = 16) (hctx : ctx ≤ 256) (hs : (k.r i.src).s = true) (hbd : 0 ≤ ((k.r i.src).l : Int) + i.off ∧ ((k.r i.src).g : Int) + i.off < (ctx : Nat)) :
    Calls Try.prog 32 #[.pointer (some ⟨x, 0, none⟩)] w fun e w' => e = .returned (.tuple #[.agg (knL (k.put i.dst ⟨0, 255⟩)).toArray, .agg (knL (kn0)).toArray]) ∧ Below w.heap.size w w' := by
  have hx := hI.lt
  have hdst := hm.dst
  have hsrc := hm.src
  obtain ⟨kz, hkz⟩ : ∃ z : Kn, z = kn0 := ⟨_, rfl⟩
  obtain ⟨W1, hW1⟩ : ∃ W1, W1 = (w.alloc (.cells #[.bool false, .bool false, .int .u32 0, .int .u32 0, .bool false, .int .u32 0, .int .u32 0, .bool false, .int .u32 0, .int .u32 0, .bool false, .int .u32 0, .int .u32 0, .bool false, .int .u32 0, .int .u32 0, .bool false, .int .u32 0, .int .u32 0, .bool false, .int .u32 0, .int .u32 0, .bool false, .int .u32 0, .int .u32 0, .bool false, .int .u32 0, .int .u32 0, .bool false, .int .u32 0, .int .u32 0] 42)).alloc (.cells #[.bool false, .bool false, .int .u32 0, .int .u32 0, .bool false, .int .u32 0, .int .u32 0, .bool false, .int .u32 0, .int .u32 0, .bool false, .int .u32 0, .int .u32 0, .bool false, .int .u32 0, .int .u32 0, .bool false, .int .u32 0, .int .u32 0, .bool false, .int .u32 0, .int .u32 0, .bool false, .int .u32 0, .int .u32 0, .bool false, .int .u32 0, .int .u32 0, .bool false, .int .u32 0, .int .u32 0] 42) := ⟨_, rfl⟩
  have T1 : Tw w w.heap.size (knF kz) (knF kz) W1 := by rw [hW1, hkz]; exact Tw.start w
  have HKZ := Lib.hid hkz; clear hkz
  have HIN := Lib.hid (fun W (hb : Below w.heap.size w W) => hI.below hb)
  have HT1 := Lib.hid T1
  have c1 := (HIN.out W1 HT1.out.b).cop
  have c2 := (HIN.out W1 HT1.out.b).cdst
  have c3 := (HIN.out W1 HT1.out.b).csrc
  have c4 := (HIN.out W1 HT1.out.b).cctx
  have q16 : ((i.op : Int) == 16) = true := by simp; omega
  have q17 : ((i.op : Int) == 17) = false := by simp; omega
  have q18 : ((i.op : Int) == 18) = false := by simp; omega
  have q19 : ((i.op : Int) == 19) = false := by simp; omega
  have q20 : ((i.op : Int) == 20) = false := by simp; omega
  have q21 : ((i.op : Int) == 21) = false := by simp; omega
  have q22 : ((i.op : Int) == 22) = false := by simp; omega
  have q23 : ((i.op : Int) == 23) = false := by simp; omega
  have q24 : ((i.op : Int) == 24) = false := by simp; omega
  have hrg := fun W hb => reg_ok (HIN.out W hb) hr i.src hsrc hs
  have HRG := Lib.hid hrg; clear hrg
  have hmm := fun W hb => mem_ok (HIN.out W hb) hm (k.r i.src).l (k.r i.src).g ctx (Nat.le_trans (hr i.src).1 (hr i.src).2.1) (hr i.src).2.1 (by omega) hbd
  have HMM := Lib.hid hmm; clear hmm
  have hpn := fun W => cput_ok W k i.dst 0 255 hdst (by omega) (by omega)
  rw [show ((0 : Nat) : Int) = 0 from rfl, show ((255 : Nat) : Int) = 255 from rfl] at hpn
  have HPN := Lib.hid hpn; clear hpn
  clear hop c2 hm hr hs hbd
  have HW1 := Lib.hid hW1; clear hW1 T1
  go_enter Try.func32, Try.ntmps32
  go_upto_region 1 with fail
  rw [← HW1.out]
  go_upto_region 8 with (first | (go_at_call 39; (with_reducible refine (HRG.out _ HT1.out.b).mono ?_); rintro e W2 ⟨rfl, hb2⟩; have HT2 := Lib.hid (HT1.out.more hb2); clear hb2) | (go_at_call 38; (with_reducible refine (HMM.out _ HT2.out.b).mono ?_); rintro e W3 ⟨rfl, hb3⟩; have HT3 := Lib.hid (HT2.out.more hb3); clear hb3))
  clear c1 c3 c4
  have HI3 := Lib.hid (HIN.out W3 HT3.out.b)
  refine wp_region_noPanic ?_
  refine planM (.rd 0 (.rd 1 (.rd 2 (.rd 3 (.rd 4 (.rd 5 (.rd 6 (.rd 7 (.rd 8 (.rd 9 (.rd 11 (.eff 10 (.eff 12 (.eff 13 .done)))))))))))))) [0, 1, 2, 3, 4, 5, 6, 7, 8, 9, 10, 11, 12] (fun W => Kp (fun b => b = w.heap.size) W3 W) (by kernel_rfl) (by kernel_rfl) (fun _ _ _ _ _ h => h) ((Kp.refl _ _).drew) ?_
  repeat (refine pm_pure rfl (fun K hK => ?_); go_simp; refine hK _ ?_; clear hK K)
  refine pm_rdv 37 (.agg (knL k).toArray) rfl rfl rfl (fun W hS => exec_load_mid 42 (.tmp 36) rfl (x) (6) rfl (knL k) _ (rg_kept HI3.out.known hS (by omega)) Try.underlying42 rfl (by rw [knL_length]; exact info_kn)) ?_
  repeat (refine pm_pure rfl (fun K hK => ?_); go_simp; refine hK _ ?_; clear hK K)
  refine pm_rd (.int .i64 (i.dst : Int)) rfl rfl (fun W hS => ?_) (fun K hK => ?_)
  · have f0 := Kp.cell hS HI3.out.cdst (by show ¬ x = _; omega)
    simp [go_sem, f0]
  go_simp
  refine hK _ ?_
  clear hK K
  repeat (refine pm_pure rfl (fun K hK => ?_); go_simp; refine hK _ ?_; clear hK K)
  refine pm_rdv 45 (.agg (knL (kz)).toArray) rfl rfl rfl (fun W hS => exec_load_mid 42 (.tmp 3) rfl (w.heap.size + 1) (0) rfl (knL (kz)) _ (rg_kept HT3.out.j.range hS (by omega)) Try.underlying42 rfl (by rw [knL_length]; exact info_kn)) ?_
  refine pm_eff rfl rfl (fun K hK => ?_)
  go_simp
  (with_reducible refine (HPN.out _).mono ?_)
  rintro e w8 ⟨rfl, hb8⟩
  have HB8 : Hid (Below W3.heap.size W3 w8) := Lib.hid (((Below.refl _ _).drew).trans hb8); clear hb8
  have HT8 := Lib.hid (HT3.out.more HB8.out)
  refine hK _ _ (fun _ => Kp.of_below HB8.out _) ?_
  clear hK K
  have T1 := HT8.out.setn (knF (k.put i.dst ⟨0, 255⟩))
  have T2 := T1.setj (knF (kz))
  refine pm_store rfl rfl rfl 42 (.tmp 2) (.tmp 44) rfl (w.heap.size) 0 (knL (k.put i.dst ⟨0, 255⟩)).toArray rfl rfl (by rw [knA_size]; exact there_blk HT8.out.n) (by rw [knA_size]; exact info_kn) (knL_one _) (fun _ => Kp.setCells (M := fun b => b = w.heap.size) (.inl rfl) _ _ _ (Kp.of_below HB8.out _)) ?_
  rw [knL_tl]
  refine pm_store rfl rfl rfl 42 (.tmp 3) (.tmp 45) rfl (w.heap.size + 1) 0 (knL (kz)).toArray rfl rfl (by rw [knA_size]; exact there_blk T1.j) (by rw [knA_size]; exact info_kn) (knL_one _) (fun h => by cases h) ?_
  rw [knL_tl]
  refine pm_done ?_
  refine NoPanic.normal ?_
  generalize hWf : (World.setCells (w8) w.heap.size 0 (rowF 31 (knF (k.put i.dst ⟨0, 255⟩)))).setCells (w.heap.size + 1) 0 (rowF 31 (knF (kz))) = Wf
  have T3 : Tw w w.heap.size (knF (k.put i.dst ⟨0, 255⟩)) (knF (kz)) Wf := by rw [← hWf]; exact T2
  clear hWf T1 T2
  have HT3 := Lib.hid T3; clear T3
  go_wp2
  exact bodyPost_ret (v := .tuple #[.agg (knL (k.put i.dst ⟨0, 255⟩)).toArray, .agg (knL (kz)).toArray]) (results_cell2_range Try.results32 _ _ w.heap.size (w.heap.size + 1) _ _ _ rfl rfl HT3.out.n.range HT3.out.j.range Try.underlying42 rfl (by rw [knL_length]; exact info_kn) (by rw [knL_length]; exact info_kn)) rfl ⟨by rw [HKZ.out], HT3.out.b⟩

set_option maxRecDepth 100000 in
set_option maxHeartbeats 1500000 in
theorem behind_ld16_out {w : World} {x : Nat} {i : Ins8} {ctx : Nat} {k : Kn} (hI : InB w x i ctx k) (hm : i.May) (hr : k.right) (hop : i.op = 16) (hctx : ctx ≤ 256) (hs : (k.r i.src).s = true) (hbd : ¬ (0 ≤ ((k.r i.src).l : Int) + i.off ∧ ((k.r i.src).g : Int) + i.off < (ctx : Nat))) :
    Calls Try.prog 32 #[.pointer (some ⟨x, 0, none⟩)] w fun e w' => e = .panicked (stopC 163) ∧ Below w.heap.size w w' := by
  have hx := hI.lt
  have hdst := hm.dst
  have hsrc := hm.src
  obtain ⟨kz, hkz⟩ : ∃ z : Kn, z = kn0 := ⟨_, rfl⟩
  obtain ⟨W1, hW1⟩ : ∃ W1, W1 = (w.alloc (.cells #[.bool false, .bool false, .int .u32 0, .int .u32 0, .bool false, .int .u32 0, .int .u32 0, .bool false, .int .u32 0, .int .u32 0, .bool false, .int .u32 0, .int .u32 0, .bool false, .int .u32 0, .int .u32 0, .bool false, .int .u32 0, .int .u32 0, .bool false, .int .u32 0, .int .u32 0, .bool false, .int .u32 0, .int .u32 0, .bool false, .int .u32 0, .int .u32 0, .bool false, .int .u32 0, .int .u32 0] 42)).alloc (.cells #[.bool false, .bool false, .int .u32 0, .int .u32 0, .bool false, .int .u32 0, .int .u32 0, .bool false, .int .u32 0, .int .u32 0, .bool false, .int .u32 0, .int .u32 0, .bool false, .int .u32 0, .int .u32 0, .bool false, .int .u32 0, .int .u32 0, .bool false, .int .u32 0, .int .u32 0, .bool false, .int .u32 0, .int .u32 0, .bool false, .int .u32 0, .int .u32 0, .bool false, .int .u32 0, .int .u32 0] 42) := ⟨_, rfl⟩
  have T1 : Tw w w.heap.size (knF kz) (knF kz) W1 := by rw [hW1, hkz]; exact Tw.start w
  have HKZ := Lib.hid hkz; clear hkz
  have HIN := Lib.hid (fun W (hb : Below w.heap.size w W) => hI.below hb)
  have HT1 := Lib.hid T1
  have c1 := (HIN.out W1 HT1.out.b).cop
  have c2 := (HIN.out W1 HT1.out.b).cdst
  have c3 := (HIN.out W1 HT1.out.b).csrc
  have c4 := (HIN.out W1 HT1.out.b).cctx
  have q16 : ((i.op : Int) == 16) = true := by simp; omega
  have q17 : ((i.op : Int) == 17) = false := by simp; omega
  have q18 : ((i.op : Int) == 18) = false := by simp; omega
  have q19 : ((i.op : Int) == 19) = false := by simp; omega
  have q20 : ((i.op : Int) == 20) = false := by simp; omega
  have q21 : ((i.op : Int) == 21) = false := by simp; omega
  have q22 : ((i.op : Int) == 22) = false := by simp; omega
  have q23 : ((i.op : Int) == 23) = false := by simp; omega
  have q24 : ((i.op : Int) == 24) = false := by simp; omega
  have hrg := fun W hb => reg_ok (HIN.out W hb) hr i.src hsrc hs
  have HRG := Lib.hid hrg; clear hrg
  have hmm := fun W hb => mem_not (HIN.out W hb) hm (k.r i.src).l (k.r i.src).g ctx (Nat.le_trans (hr i.src).1 (hr i.src).2.1) (hr i.src).2.1 (by omega) hbd
  have HMM := Lib.hid hmm; clear hmm
  clear hop c2 hm hr hs hbd
  have HW1 := Lib.hid hW1; clear hW1 T1
  go_enter Try.func32, Try.ntmps32
  go_upto_region 1 with fail
  rw [← HW1.out]
  go_wp2_with (first | (go_at_call 39; (with_reducible refine (HRG.out _ HT1.out.b).mono ?_); rintro e W2 ⟨rfl, hb2⟩; have HT2 := Lib.hid (HT1.out.more hb2); clear hb2) | (go_at_call 38; (with_reducible refine (HMM.out _ HT2.out.b).mono ?_); rintro e W3 ⟨rfl, hb3⟩; have HT3 := Lib.hid (HT2.out.more hb3); clear hb3))
  exact ⟨rfl, rfl, HT3.out.b⟩

set_option maxRecDepth 100000 in
set_option maxHeartbeats 1500000 in
theorem behind_ld16_unset {w : World} {x : Nat} {i : Ins8} {ctx : Nat} {k : Kn} (hI : InB w x i ctx k) (hm : i.May) (hop : i.op = 16) (hs : (k.r i.src).s = false) :
    Calls Try.prog 32 #[.pointer (some ⟨x, 0, none⟩)] w fun e w' => e = .panicked (stopC 161) ∧ Below w.heap.size w w' := by
  have hx := hI.lt
  have hdst := hm.dst
  have hsrc := hm.src
  obtain ⟨kz, hkz⟩ : ∃ z : Kn, z = kn0 := ⟨_, rfl⟩
  obtain ⟨W1, hW1⟩ : ∃ W1, W1 = (w.alloc (.cells #[.bool false, .bool false, .int .u32 0, .int .u32 0, .bool false, .int .u32 0, .int .u32 0, .bool false, .int .u32 0, .int .u32 0, .bool false, .int .u32 0, .int .u32 0, .bool false, .int .u32 0, .int .u32 0, .bool false, .int .u32 0, .int .u32 0, .bool false, .int .u32 0, .int .u32 0, .bool false, .int .u32 0, .int .u32 0, .bool false, .int .u32 0, .int .u32 0, .bool false, .int .u32 0, .int .u32 0] 42)).alloc (.cells #[.bool false, .bool false, .int .u32 0, .int .u32 0, .bool false, .int .u32 0, .int .u32 0, .bool false, .int .u32 0, .int .u32 0, .bool false, .int .u32 0, .int .u32 0, .bool false, .int .u32 0, .int .u32 0, .bool false, .int .u32 0, .int .u32 0, .bool false, .int .u32 0, .int .u32 0, .bool false, .int .u32 0, .int .u32 0, .bool false, .int .u32 0, .int .u32 0, .bool false, .int .u32 0, .int .u32 0] 42) := ⟨_, rfl⟩
  have T1 : Tw w w.heap.size (knF kz) (knF kz) W1 := by rw [hW1, hkz]; exact Tw.start w
  have HKZ := Lib.hid hkz; clear hkz
  have HIN := Lib.hid (fun W (hb : Below w.heap.size w W) => hI.below hb)
  have HT1 := Lib.hid T1
  have c1 := (HIN.out W1 HT1.out.b).cop
  have c2 := (HIN.out W1 HT1.out.b).cdst
  have c3 := (HIN.out W1 HT1.out.b).csrc
  have c4 := (HIN.out W1 HT1.out.b).cctx
  have q16 : ((i.op : Int) == 16) = true := by simp; omega
  have q17 : ((i.op : Int) == 17) = false := by simp; omega
  have q18 : ((i.op : Int) == 18) = false := by simp; omega
  have q19 : ((i.op : Int) == 19) = false := by simp; omega
  have q20 : ((i.op : Int) == 20) = false := by simp; omega
  have q21 : ((i.op : Int) == 21) = false := by simp; omega
  have q22 : ((i.op : Int) == 22) = false := by simp; omega
  have q23 : ((i.op : Int) == 23) = false := by simp; omega
  have q24 : ((i.op : Int) == 24) = false := by simp; omega
  have HRG := Lib.hid (fun W hb => reg_not (HIN.out W hb) i.src hsrc hs)
  clear hop c2 hm hs
  have HW1 := Lib.hid hW1; clear hW1 T1
  go_enter Try.func32, Try.ntmps32
  go_upto_region 1 with fail
  rw [← HW1.out]
  go_wp2_with (go_at_call 39; (with_reducible refine (HRG.out _ HT1.out.b).mono ?_); rintro e W2 ⟨rfl, hb2⟩; have HT2 := Lib.hid (HT1.out.more hb2); clear hb2)
  exact ⟨rfl, rfl, HT2.out.b⟩
end Go.Proofs.Ytjlddhnjbjhmkaa
namespace Go.Proofs.Ytjlddhnjbjhmkaa
open Go.RowKit

set_option maxRecDepth 100000 in
set_option maxHeartbeats 1500000 in
theorem behind_ld17 {w : World} {x : Nat} {i : Ins8} {ctx : Nat} {k : Kn} (hI : InB w x i ctx k) (hm : i.May) (hr : k.right) (hop : i.op = 17) (hs : (k.r i.src).s = true) (hbd : 0 ≤ ((k.r i.src).l : Int) + i.off ∧ ((k.r i.src).g : Int) + i.off < (64 : Nat)) :
    Calls Try.prog 32 #[.pointer (some ⟨x, 0, none⟩)] w fun e w' => e = .returned (.tuple #[.agg (knL (k.put i.dst ⟨0, 255⟩)).toArray, .agg (knL (kn0)).toArray]) ∧ Below w.heap.size w w' := by
  have hx := hI.lt
  have hdst := hm.dst
  have hsrc := hm.src
  obtain ⟨kz, hkz⟩ : ∃ z : Kn, z = kn0 := ⟨_, rfl⟩
  obtain ⟨W1, hW1⟩ : ∃ W1, W1 = (w.alloc (.cells #[.bool false, .bool false, .int .u32 0, .int .u32 0, .bool false, .int .u32 0, .int .u32 0, .bool false, .int .u32 0, .int .u32 0, .bool false, .int .u32 0, .int .u32 0, .bool false, .int .u32 0, .int .u32 0, .bool false, .int .u32 0, .int .u32 0, .bool false, .int .u32 0, .int .u32 0, .bool false, .int .u32 0, .int .u32 0, .bool false, .int .u32 0, .int .u32 0, .bool false, .int .u32 0, .int .u32 0] 42)).alloc (.cells #[.bool false, .bool false, .int .u32 0, .int .u32 0, .bool false, .int .u32 0, .int .u32 0, .bool false, .int .u32 0, .int .u32 0, .bool false, .int .u32 0, .int .u32 0, .bool false, .int .u32 0, .int .u32 0, .bool false, .int .u32 0, .int .u32 0, .bool false, .int .u32 0, .int .u32 0, .bool false, .int .u32 0, .int .u32 0, .bool false, .int .u32 0, .int .u32 0, .bool false, .int .u32 0, .int .u32 0] 42) := ⟨_, rfl⟩
  have T1 : Tw w w.heap.size (knF kz) (knF kz) W1 := by rw [hW1, hkz]; exact Tw.start w
  have HKZ := Lib.hid hkz; clear hkz
  have HIN := Lib.hid (fun W (hb : Below w.heap.size w W) => hI.below hb)
  have HT1 := Lib.hid T1
  have c1 := (HIN.out W1 HT1.out.b).cop
  have c2 := (HIN.out W1 HT1.out.b).cdst
  have c3 := (HIN.out W1 HT1.out.b).csrc
  have c4 := (HIN.out W1 HT1.out.b).cctx
  have q16 : ((i.op : Int) == 16) = false := by simp; omega
  have q17 : ((i.op : Int) == 17) = true := by simp; omega
  have q18 : ((i.op : Int) == 18) = false := by simp; omega
  have q19 : ((i.op : Int) == 19) = false := by simp; omega
  have q20 : ((i.op : Int) == 20) = false := by simp; omega
  have q21 : ((i.op : Int) == 21) = false := by simp; omega
  have q22 : ((i.op : Int) == 22) = false := by simp; omega
  have q23 : ((i.op : Int) == 23) = false := by simp; omega
  have q24 : ((i.op : Int) == 24) = false := by simp; omega
  have hrg := fun W hb => reg_ok (HIN.out W hb) hr i.src hsrc hs
  have HRG := Lib.hid hrg; clear hrg
  have hmm := fun W hb => mem_ok (HIN.out W hb) hm (k.r i.src).l (k.r i.src).g 64 (Nat.le_trans (hr i.src).1 (hr i.src).2.1) (hr i.src).2.1 (by omega) hbd
  rw [show ((64 : Nat) : Int) = 64 from rfl] at hmm
  have HMM := Lib.hid hmm; clear hmm
  have hpn := fun W => cput_ok W k i.dst 0 255 hdst (by omega) (by omega)
  rw [show ((0 : Nat) : Int) = 0 from rfl, show ((255 : Nat) : Int) = 255 from rfl] at hpn
  have HPN := Lib.hid hpn; clear hpn
  clear hop c2 hm hr hs hbd
  have HW1 := Lib.hid hW1; clear hW1 T1
  go_enter Try.func32, Try.ntmps32
  go_upto_region 1 with fail
  rw [← HW1.out]
  go_upto_region 8 with (first | (go_at_call 39; (with_reducible refine (HRG.out _ HT1.out.b).mono ?_); rintro e W2 ⟨rfl, hb2⟩; have HT2 := Lib.hid (HT1.out.more hb2); clear hb2) | (go_at_call 38; (with_reducible refine (HMM.out _ HT2.out.b).mono ?_); rintro e W3 ⟨rfl, hb3⟩; have HT3 := Lib.hid (HT2.out.more hb3); clear hb3))
  clear c1 c3 c4
  have HI3 := Lib.hid (HIN.out W3 HT3.out.b)
  refine wp_region_noPanic ?_
  refine planM (.rd 0 (.rd 1 (.rd 2 (.rd 3 (.rd 4 (.rd 5 (.rd 6 (.rd 7 (.rd 8 (.rd 9 (.rd 11 (.eff 10 (.eff 12 (.eff 13 .done)))))))))))))) [0, 1, 2, 3, 4, 5, 6, 7, 8, 9, 10, 11, 12] (fun W => Kp (fun b => b = w.heap.size) W3 W) (by kernel_rfl) (by kernel_rfl) (fun _ _ _ _ _ h => h) ((Kp.refl _ _).drew) ?_
  repeat (refine pm_pure rfl (fun K hK => ?_); go_simp; refine hK _ ?_; clear hK K)
  refine pm_rdv 37 (.agg (knL k).toArray) rfl rfl rfl (fun W hS => exec_load_mid 42 (.tmp 36) rfl (x) (6) rfl (knL k) _ (rg_kept HI3.out.known hS (by omega)) Try.underlying42 rfl (by rw [knL_length]; exact info_kn)) ?_
  repeat (refine pm_pure rfl (fun K hK => ?_); go_simp; refine hK _ ?_; clear hK K)
  refine pm_rd (.int .i64 (i.dst : Int)) rfl rfl (fun W hS => ?_) (fun K hK => ?_)
  · have f0 := Kp.cell hS HI3.out.cdst (by show ¬ x = _; omega)
    simp [go_sem, f0]
  go_simp
  refine hK _ ?_
  clear hK K
  repeat (refine pm_pure rfl (fun K hK => ?_); go_simp; refine hK _ ?_; clear hK K)
  refine pm_rdv 45 (.agg (knL (kz)).toArray) rfl rfl rfl (fun W hS => exec_load_mid 42 (.tmp 3) rfl (w.heap.size + 1) (0) rfl (knL (kz)) _ (rg_kept HT3.out.j.range hS (by omega)) Try.underlying42 rfl (by rw [knL_length]; exact info_kn)) ?_
  refine pm_eff rfl rfl (fun K hK => ?_)
  go_simp
  (with_reducible refine (HPN.out _).mono ?_)
  rintro e w8 ⟨rfl, hb8⟩
  have HB8 : Hid (Below W3.heap.size W3 w8) := Lib.hid (((Below.refl _ _).drew).trans hb8); clear hb8
  have HT8 := Lib.hid (HT3.out.more HB8.out)
  refine hK _ _ (fun _ => Kp.of_below HB8.out _) ?_
  clear hK K
  have T1 := HT8.out.setn (knF (k.put i.dst ⟨0, 255⟩))
  have T2 := T1.setj (knF (kz))
  refine pm_store rfl rfl rfl 42 (.tmp 2) (.tmp 44) rfl (w.heap.size) 0 (knL (k.put i.dst ⟨0, 255⟩)).toArray rfl rfl (by rw [knA_size]; exact there_blk HT8.out.n) (by rw [knA_size]; exact info_kn) (knL_one _) (fun _ => Kp.setCells (M := fun b => b = w.heap.size) (.inl rfl) _ _ _ (Kp.of_below HB8.out _)) ?_
  rw [knL_tl]
  refine pm_store rfl rfl rfl 42 (.tmp 3) (.tmp 45) rfl (w.heap.size + 1) 0 (knL (kz)).toArray rfl rfl (by rw [knA_size]; exact there_blk T1.j) (by rw [knA_size]; exact info_kn) (knL_one _) (fun h => by cases h) ?_
  rw [knL_tl]
  refine pm_done ?_
  refine NoPanic.normal ?_
  generalize hWf : (World.setCells (w8) w.heap.size 0 (rowF 31 (knF (k.put i.dst ⟨0, 255⟩)))).setCells (w.heap.size + 1) 0 (rowF 31 (knF (kz))) = Wf
  have T3 : Tw w w.heap.size (knF (k.put i.dst ⟨0, 255⟩)) (knF (kz)) Wf := by rw [← hWf]; exact T2
  clear hWf T1 T2
  have HT3 := Lib.hid T3; clear T3
  go_wp2
  exact bodyPost_ret (v := .tuple #[.agg (knL (k.put i.dst ⟨0, 255⟩)).toArray, .agg (knL (kz)).toArray]) (results_cell2_range Try.results32 _ _ w.heap.size (w.heap.size + 1) _ _ _ rfl rfl HT3.out.n.range HT3.out.j.range Try.underlying42 rfl (by rw [knL_length]; exact info_kn) (by rw [knL_length]; exact info_kn)) rfl ⟨by rw [HKZ.out], HT3.out.b⟩

set_option maxRecDepth 100000 in
set_option maxHeartbeats 1500000 in
theorem behind_ld17_out {w : World} {x : Nat} {i : Ins8} {ctx : Nat} {k : Kn} (hI : InB w x i ctx k) (hm : i.May) (hr : k.right) (hop : i.op = 17) (hs : (k.r i.src).s = true) (hbd : ¬ (0 ≤ ((k.r i.src).l : Int) + i.off ∧ ((k.r i.src).g : Int) + i.off < (64 : Nat))) :
    Calls Try.prog 32 #[.pointer (some ⟨x, 0, none⟩)] w fun e w' => e = .panicked (stopC 163) ∧ Below w.heap.size w w' := by
  have hx := hI.lt
  have hdst := hm.dst
  have hsrc := hm.src
  obtain ⟨kz, hkz⟩ : ∃ z : Kn, z = kn0 := ⟨_, rfl⟩
  obtain ⟨W1, hW1⟩ : ∃ W1, W1 = (w.alloc (.cells #[.bool false, .bool false, .int .u32 0, .int .u32 0, .bool false, .int .u32 0, .int .u32 0, .bool false, .int .u32 0, .int .u32 0, .bool false, .int .u32 0, .int .u32 0, .bool false, .int .u32 0, .int .u32 0, .bool false, .int .u32 0, .int .u32 0, .bool false, .int .u32 0, .int .u32 0, .bool false, .int .u32 0, .int .u32 0, .bool false, .int .u32 0, .int .u32 0, .bool false, .int .u32 0, .int .u32 0] 42)).alloc (.cells #[.bool false, .bool false, .int .u32 0, .int .u32 0, .bool false, .int .u32 0, .int .u32 0, .bool false, .int .u32 0, .int .u32 0, .bool false, .int .u32 0, .int .u32 0, .bool false, .int .u32 0, .int .u32 0, .bool false, .int .u32 0, .int .u32 0, .bool false, .int .u32 0, .int .u32 0, .bool false, .int .u32 0, .int .u32 0, .bool false, .int .u32 0, .int .u32 0, .bool false, .int .u32 0, .int .u32 0] 42) := ⟨_, rfl⟩
  have T1 : Tw w w.heap.size (knF kz) (knF kz) W1 := by rw [hW1, hkz]; exact Tw.start w
  have HKZ := Lib.hid hkz; clear hkz
  have HIN := Lib.hid (fun W (hb : Below w.heap.size w W) => hI.below hb)
  have HT1 := Lib.hid T1
  have c1 := (HIN.out W1 HT1.out.b).cop
  have c2 := (HIN.out W1 HT1.out.b).cdst
  have c3 := (HIN.out W1 HT1.out.b).csrc
  have c4 := (HIN.out W1 HT1.out.b).cctx
  have q16 : ((i.op : Int) == 16) = false := by simp; omega
  have q17 : ((i.op : Int) == 17) = true := by simp; omega
  have q18 : ((i.op : Int) == 18) = false := by simp; omega
  have q19 : ((i.op : Int) == 19) = false := by simp; omega
  have q20 : ((i.op : Int) == 20) = false := by simp; omega
  have q21 : ((i.op : Int) == 21) = false := by simp; omega
  have q22 : ((i.op : Int) == 22) = false := by simp; omega
  have q23 : ((i.op : Int) == 23) = false := by simp; omega
  have q24 : ((i.op : Int) == 24) = false := by simp; omega
  have hrg := fun W hb => reg_ok (HIN.out W hb) hr i.src hsrc hs
  have HRG := Lib.hid hrg; clear hrg
  have hmm := fun W hb => mem_not (HIN.out W hb) hm (k.r i.src).l (k.r i.src).g 64 (Nat.le_trans (hr i.src).1 (hr i.src).2.1) (hr i.src).2.1 (by omega) hbd
  rw [show ((64 : Nat) : Int) = 64 from rfl] at hmm
  have HMM := Lib.hid hmm; clear hmm
  clear hop c2 hm hr hs hbd
  have HW1 := Lib.hid hW1; clear hW1 T1
  go_enter Try.func32, Try.ntmps32
  go_upto_region 1 with fail
  rw [← HW1.out]
  go_wp2_with (first | (go_at_call 39; (with_reducible refine (HRG.out _ HT1.out.b).mono ?_); rintro e W2 ⟨rfl, hb2⟩; have HT2 := Lib.hid (HT1.out.more hb2); clear hb2) | (go_at_call 38; (with_reducible refine (HMM.out _ HT2.out.b).mono ?_); rintro e W3 ⟨rfl, hb3⟩; have HT3 := Lib.hid (HT2.out.more hb3); clear hb3))
  exact ⟨rfl, rfl, HT3.out.b⟩

set_option maxRecDepth 100000 in
set_option maxHeartbeats 1500000 in
theorem behind_ld17_unset {w : World} {x : Nat} {i : Ins8} {ctx : Nat} {k : Kn} (hI : InB w x i ctx k) (hm : i.May) (hop : i.op = 17) (hs : (k.r i.src).s = false) :
    Calls Try.prog 32 #[.pointer (some ⟨x, 0, none⟩)] w fun e w' => e = .panicked (stopC 161) ∧ Below w.heap.size w w' := by
  have hx := hI.lt
  have hdst := hm.dst
  have hsrc := hm.src
  obtain ⟨kz, hkz⟩ : ∃ z : Kn, z = kn0 := ⟨_, rfl⟩
  obtain ⟨W1, hW1⟩ : ∃ W1, W1 = (w.alloc (.cells #[.bool false, .bool false, .int .u32 0, .int .u32 0, .bool false, .int .u32 0, .int .u32 0, .bool false, .int .u32 0, .int .u32 0, .bool false, .int .u32 0, .int .u32 0, .bool false, .int .u32 0, .int .u32 0, .bool false, .int .u32 0, .int .u32 0, .bool false, .int .u32 0, .int .u32 0, .bool false, .int .u32 0, .int .u32 0, .bool false, .int .u32 0, .int .u32 0, .bool false, .int .u32 0, .int .u32 0] 42)).alloc (.cells #[.bool false, .bool false, .int .u32 0, .int .u32 0, .bool false, .int .u32 0, .int .u32 0, .bool false, .int .u32 0, .int .u32 0, .bool false, .int .u32 0, .int .u32 0, .bool false, .int .u32 0, .int .u32 0, .bool false, .int .u32 0, .int .u32 0, .bool false, .int .u32 0, .int .u32 0, .bool false, .int .u32 0, .int .u32 0, .bool false, .int .u32 0, .int .u32 0, .bool false, .int .u32 0, .int .u32 0] 42) := ⟨_, rfl⟩
  have T1 : Tw w w.heap.size (knF kz) (knF kz) W1 := by rw [hW1, hkz]; exact Tw.start w
  have HKZ := Lib.hid hkz; clear hkz
  have HIN := Lib.hid (fun W (hb : Below w.heap.size w W) => hI.below hb)
  have HT1 := Lib.hid T1
  have c1 := (HIN.out W1 HT1.out.b).cop
  have c2 := (HIN.out W1 HT1.out.b).cdst
  have c3 := (HIN.out W1 HT1.out.b).csrc
  have c4 := (HIN.out W1 HT1.out.b).cctx
  have q16 : ((i.op : Int) == 16) = false := by simp; omega
  have q17 : ((i.op : Int) == 17) = true := by simp; omega
  have q18 : ((i.op : Int) == 18) = false := by simp; omega
  have q19 : ((i.op : Int) == 19) = false := by simp; omega
  have q20 : ((i.op : Int) == 20) = false := by simp; omega
  have q21 : ((i.op : Int) == 21) = false := by simp; omega
  have q22 : ((i.op : Int) == 22) = false := by simp; omega
  have q23 : ((i.op : Int) == 23) = false := by simp; omega
  have q24 : ((i.op : Int) == 24) = false := by simp; omega
  have HRG := Lib.hid (fun W hb => reg_not (HIN.out W hb) i.src hsrc hs)
  clear hop c2 hm hs
  have HW1 := Lib.hid hW1; clear hW1 T1
  go_enter Try.func32, Try.ntmps32
  go_upto_region 1 with fail
  rw [← HW1.out]
  go_wp2_with (go_at_call 39; (with_reducible refine (HRG.out _ HT1.out.b).mono ?_); rintro e W2 ⟨rfl, hb2⟩; have HT2 := Lib.hid (HT1.out.more hb2); clear hb2)
  exact ⟨rfl, rfl, HT2.out.b⟩
end Go.Proofs.Ytjlddhnjbjhmkaa
namespace Go.Proofs.Ytjlddhnjbjhmkaa
open Go.RowKit

set_option maxRecDepth 100000 in
set_option maxHeartbeats 1500000 in
theorem behind_st {w : World} {x : Nat} {i : Ins8} {ctx : Nat} {k : Kn} (hI : InB w x i ctx k) (hm : i.May) (hr : k.right) (hop : i.op = 18) (hd : (k.r i.dst).s = true) (hs : (k.r i.src).s = true) (hbd : 0 ≤ ((k.r i.dst).l : Int) + i.off ∧ ((k.r i.dst).g : Int) + i.off < (64 : Nat)) :
    Calls Try.prog 32 #[.pointer (some ⟨x, 0, none⟩)] w fun e w' => e = .returned (.tuple #[.agg (knL (k)).toArray, .agg (knL (kn0)).toArray]) ∧ Below w.heap.size w w' := by
  have hx := hI.lt
  have hdst := hm.dst
  have hsrc := hm.src
  obtain ⟨kz, hkz⟩ : ∃ z : Kn, z = kn0 := ⟨_, rfl⟩
  obtain ⟨W1, hW1⟩ : ∃ W1, W1 = (w.alloc (.cells #[.bool false, .bool false, .int .u32 0, .int .u32 0, .bool false, .int .u32 0, .int .u32 0, .bool false, .int .u32 0, .int .u32 0, .bool false, .int .u32 0, .int .u32 0, .bool false, .int .u32 0, .int .u32 0, .bool false, .int .u32 0, .int .u32 0, .bool false, .int .u32 0, .int .u32 0, .bool false, .int .u32 0, .int .u32 0, .bool false, .int .u32 0, .int .u32 0, .bool false, .int .u32 0, .int .u32 0] 42)).alloc (.cells #[.bool false, .bool false, .int .u32 0, .int .u32 0, .bool false, .int .u32 0, .int .u32 0, .bool false, .int .u32 0, .int .u32 0, .bool false, .int .u32 0, .int .u32 0, .bool false, .int .u32 0, .int .u32 0, .bool false, .int .u32 0, .int .u32 0, .bool false, .int .u32 0, .int .u32 0, .bool false, .int .u32 0, .int .u32 0, .bool false, .int .u32 0, .int .u32 0, .bool false, .int .u32 0, .int .u32 0] 42) := ⟨_, rfl⟩
  have T1 : Tw w w.heap.size (knF kz) (knF kz) W1 := by rw [hW1, hkz]; exact Tw.start w
  have HKZ := Lib.hid hkz; clear hkz
  have HIN := Lib.hid (fun W (hb : Below w.heap.size w W) => hI.below hb)
  have HT1 := Lib.hid T1
  have c1 := (HIN.out W1 HT1.out.b).cop
  have c2 := (HIN.out W1 HT1.out.b).cdst
  have c3 := (HIN.out W1 HT1.out.b).csrc
  have c4 := (HIN.out W1 HT1.out.b).cctx
  have q16 : ((i.op : Int) == 16) = false := by simp; omega
  have q17 : ((i.op : Int) == 17) = false := by simp; omega
  have q18 : ((i.op : Int) == 18) = true := by simp; omega
  have q19 : ((i.op : Int) == 19) = false := by simp; omega
  have q20 : ((i.op : Int) == 20) = false := by simp; omega
  have q21 : ((i.op : Int) == 21) = false := by simp; omega
  have q22 : ((i.op : Int) == 22) = false := by simp; omega
  have q23 : ((i.op : Int) == 23) = false := by simp; omega
  have q24 : ((i.op : Int) == 24) = false := by simp; omega
  have HRD := Lib.hid (fun W hb => reg_ok (HIN.out W hb) hr i.dst hdst hd)
  have HRS := Lib.hid (fun W hb => reg_ok (HIN.out W hb) hr i.src hsrc hs)
  have hmm := fun W hb => mem_ok (HIN.out W hb) hm (k.r i.dst).l (k.r i.dst).g 64 (Nat.le_trans (hr i.dst).1 (hr i.dst).2.1) (hr i.dst).2.1 (by omega) hbd
  rw [show ((64 : Nat) : Int) = 64 from rfl] at hmm
  have HMM := Lib.hid hmm; clear hmm
  obtain ⟨dl, hdl⟩ : ∃ n, n = (k.r i.dst).l := ⟨_, rfl⟩
  obtain ⟨dg, hdg⟩ : ∃ n, n = (k.r i.dst).g := ⟨_, rfl⟩
  rw [← hdl, ← hdg] at HRD HMM
  clear hdl hdg hop hm hr hs hd hbd c4
  have HW1 := Lib.hid hW1; clear hW1 T1
  go_enter Try.func32, Try.ntmps32
  go_upto_region 1 with fail
  rw [← HW1.out]
  go_upto_region 11 with (first | (go_at_call 39; (with_reducible refine (HRD.out _ HT1.out.b).mono ?_); rintro e W2 ⟨rfl, hb2⟩; have HT2 := Lib.hid (HT1.out.more hb2); clear hb2) | (refine wpList_store_new rfl 93 (.tmp 5) (.tmp 54) rfl #[.int .u64 0, .int .u64 0] #[.int .u64 (dl : Int), .int .u64 (dg : Int)] rfl rfl (by kernel_rfl) rfl (by simp [Value.oneCell']) ?_))
  have T3 := HT2.out.more ((Below.refl _ _).alloc (Nat.le_refl _) (.cells #[.int .u64 (dl : Int), .int .u64 (dg : Int)] 93))
  have hsb := spB W2 dl dg
  generalize hW3 : W2.alloc (.cells #[.int .u64 (dl : Int), .int .u64 (dg : Int)] 93) = W3 at T3 hsb ⊢
  clear hW3 c1 c2 c3
  generalize W2.heap.size = g5 at hsb ⊢
  have HT3 := Lib.hid T3; have HSB := Lib.hid hsb; clear T3 hsb
  have c3 := (HIN.out W3 HT3.out.b).csrc
  go_upto_region 12 with (go_at_call 39; (with_reducible refine (HRS.out _ HT3.out.b).mono ?_); rintro e W4 ⟨rfl, hb4⟩; have HT4 := Lib.hid (HT3.out.more hb4); have HS4 := Lib.hid (HSB.out.below hb4); clear hb4)
  clear c3
  have e0 : W4.cell? ⟨g5, 0, none⟩ = some (.int .u64 (dl : Int)) := HS4.out.cell 0 (by omega)
  have e1 : W4.cell? ⟨g5, 1, none⟩ = some (.int .u64 (dg : Int)) := HS4.out.cell 1 (by omega)
  go_upto_region 13 with (go_at_call 38; (with_reducible refine (HMM.out _ HT4.out.b).mono ?_); rintro e W5 ⟨rfl, hb5⟩; have HT5 := Lib.hid (HT4.out.more hb5); clear hb5)
  clear e0 e1
  have HI5 := Lib.hid (HIN.out W5 HT5.out.b)
  have HT0 := Lib.hid (HT5.out.more ((Below.refl _ _).drew))
  refine wp_region_noPanic ?_
  refine planM (.rd 0 (.rd 1 (.rd 2 (.rd 3 (.rd 4 (.eff 5 (.eff 6 .done))))))) [0, 1, 2, 3, 4, 5] (fun W => Kp (fun b => b = w.heap.size) W5 W) (by kernel_rfl) (by kernel_rfl) (fun _ _ _ _ _ h => h) ((Kp.refl _ _).drew) ?_
  repeat (refine pm_pure rfl (fun K hK => ?_); go_simp; refine hK _ ?_; clear hK K)
  refine pm_rdv 68 (.agg (knL k).toArray) rfl rfl rfl (fun W hS => exec_load_mid 42 (.tmp 67) rfl (x) (6) rfl (knL k) _ (rg_kept HI5.out.known hS (by omega)) Try.underlying42 rfl (by rw [knL_length]; exact info_kn)) ?_
  refine pm_rdv 69 (.agg (knL (kz)).toArray) rfl rfl rfl (fun W hS => exec_load_mid 42 (.tmp 3) rfl (w.heap.size + 1) (0) rfl (knL (kz)) _ (rg_kept HT5.out.j.range hS (by omega)) Try.underlying42 rfl (by rw [knL_length]; exact info_kn)) ?_
  have T1 := HT0.out.setn (knF (k))
  have T2 := T1.setj (knF (kz))
  refine pm_store rfl rfl rfl 42 (.tmp 2) (.tmp 68) rfl (w.heap.size) 0 (knL (k)).toArray rfl rfl (by rw [knA_size]; exact there_blk HT0.out.n) (by rw [knA_size]; exact info_kn) (knL_one _) (fun _ => Kp.setCells (M := fun b => b = w.heap.size) (.inl rfl) _ _ _ ((Kp.refl _ _).drew)) ?_
  rw [knL_tl]
  refine pm_store rfl rfl rfl 42 (.tmp 3) (.tmp 69) rfl (w.heap.size + 1) 0 (knL (kz)).toArray rfl rfl (by rw [knA_size]; exact there_blk T1.j) (by rw [knA_size]; exact info_kn) (knL_one _) (fun h => by cases h) ?_
  rw [knL_tl]
  refine pm_done ?_
  refine NoPanic.normal ?_
  generalize hWf : (World.setCells (W5.drew) w.heap.size 0 (rowF 31 (knF (k)))).setCells (w.heap.size + 1) 0 (rowF 31 (knF (kz))) = Wf
  have T3 : Tw w w.heap.size (knF (k)) (knF (kz)) Wf := by rw [← hWf]; exact T2
  clear hWf T1 T2
  have HT3 := Lib.hid T3; clear T3
  go_wp2
  exact bodyPost_ret (v := .tuple #[.agg (knL (k)).toArray, .agg (knL (kz)).toArray]) (results_cell2_range Try.results32 _ _ w.heap.size (w.heap.size + 1) _ _ _ rfl rfl HT3.out.n.range HT3.out.j.range Try.underlying42 rfl (by rw [knL_length]; exact info_kn) (by rw [knL_length]; exact info_kn)) rfl ⟨by rw [HKZ.out], HT3.out.b⟩

set_option maxRecDepth 100000 in
set_option maxHeartbeats 1500000 in
theorem behind_st_out {w : World} {x : Nat} {i : Ins8} {ctx : Nat} {k : Kn} (hI : InB w x i ctx k) (hm : i.May) (hr : k.right) (hop : i.op = 18) (hd : (k.r i.dst).s = true) (hs : (k.r i.src).s = true) (hbd : ¬ (0 ≤ ((k.r i.dst).l : Int) + i.off ∧ ((k.r i.dst).g : Int) + i.off < (64 : Nat))) :
    Calls Try.prog 32 #[.pointer (some ⟨x, 0, none⟩)] w fun e w' => e = .panicked (stopC 163) ∧ Below w.heap.size w w' := by
  have hx := hI.lt
  have hdst := hm.dst
  have hsrc := hm.src
  obtain ⟨kz, hkz⟩ : ∃ z : Kn, z = kn0 := ⟨_, rfl⟩
  obtain ⟨W1, hW1⟩ : ∃ W1, W1 = (w.alloc (.cells #[.bool false, .bool false, .int .u32 0, .int .u32 0, .bool false, .int .u32 0, .int .u32 0, .bool false, .int .u32 0, .int .u32 0, .bool false, .int .u32 0, .int .u32 0, .bool false, .int .u32 0, .int .u32 0, .bool false, .int .u32 0, .int .u32 0, .bool false, .int .u32 0, .int .u32 0, .bool false, .int .u32 0, .int .u32 0, .bool false, .int .u32 0, .int .u32 0, .bool false, .int .u32 0, .int .u32 0] 42)).alloc (.cells #[.bool false, .bool false, .int .u32 0, .int .u32 0, .bool false, .int .u32 0, .int .u32 0, .bool false, .int .u32 0, .int .u32 0, .bool false, .int .u32 0, .int .u32 0, .bool false, .int .u32 0, .int .u32 0, .bool false, .int .u32 0, .int .u32 0, .bool false, .int .u32 0, .int .u32 0, .bool false, .int .u32 0, .int .u32 0, .bool false, .int .u32 0, .int .u32 0, .bool false, .int .u32 0, .int .u32 0] 42) := ⟨_, rfl⟩
  have T1 : Tw w w.heap.size (knF kz) (knF kz) W1 := by rw [hW1, hkz]; exact Tw.start w
  have HKZ := Lib.hid hkz; clear hkz
  have HIN := Lib.hid (fun W (hb : Below w.heap.size w W) => hI.below hb)
  have HT1 := Lib.hid T1
  have c1 := (HIN.out W1 HT1.out.b).cop
  have c2 := (HIN.out W1 HT1.out.b).cdst
  have c3 := (HIN.out W1 HT1.out.b).csrc
  have c4 := (HIN.out W1 HT1.out.b).cctx
  have q16 : ((i.op : Int) == 16) = false := by simp; omega
  have q17 : ((i.op : Int) == 17) = false := by simp; omega
  have q18 : ((i.op : Int) == 18) = true := by simp; omega
  have q19 : ((i.op : Int) == 19) = false := by simp; omega
  have q20 : ((i.op : Int) == 20) = false := by simp; omega
  have q21 : ((i.op : Int) == 21) = false := by simp; omega
  have q22 : ((i.op : Int) == 22) = false := by simp; omega
  have q23 : ((i.op : Int) == 23) = false := by simp; omega
  have q24 : ((i.op : Int) == 24) = false := by simp; omega
  have HRD := Lib.hid (fun W hb => reg_ok (HIN.out W hb) hr i.dst hdst hd)
  have HRS := Lib.hid (fun W hb => reg_ok (HIN.out W hb) hr i.src hsrc hs)
  have hmm := fun W hb => mem_not (HIN.out W hb) hm (k.r i.dst).l (k.r i.dst).g 64 (Nat.le_trans (hr i.dst).1 (hr i.dst).2.1) (hr i.dst).2.1 (by omega) hbd
  rw [show ((64 : Nat) : Int) = 64 from rfl] at hmm
  have HMM := Lib.hid hmm; clear hmm
  obtain ⟨dl, hdl⟩ : ∃ n, n = (k.r i.dst).l := ⟨_, rfl⟩
  obtain ⟨dg, hdg⟩ : ∃ n, n = (k.r i.dst).g := ⟨_, rfl⟩
  rw [← hdl, ← hdg] at HRD HMM
  clear hdl hdg hop hm hr hs hd hbd c4
  have HW1 := Lib.hid hW1; clear hW1 T1
  go_enter Try.func32, Try.ntmps32
  go_upto_region 1 with fail
  rw [← HW1.out]
  go_upto_region 11 with (first | (go_at_call 39; (with_reducible refine (HRD.out _ HT1.out.b).mono ?_); rintro e W2 ⟨rfl, hb2⟩; have HT2 := Lib.hid (HT1.out.more hb2); clear hb2) | (refine wpList_store_new rfl 93 (.tmp 5) (.tmp 54) rfl #[.int .u64 0, .int .u64 0] #[.int .u64 (dl : Int), .int .u64 (dg : Int)] rfl rfl (by kernel_rfl) rfl (by simp [Value.oneCell']) ?_))
  have T3 := HT2.out.more ((Below.refl _ _).alloc (Nat.le_refl _) (.cells #[.int .u64 (dl : Int), .int .u64 (dg : Int)] 93))
  have hsb := spB W2 dl dg
  generalize hW3 : W2.alloc (.cells #[.int .u64 (dl : Int), .int .u64 (dg : Int)] 93) = W3 at T3 hsb ⊢
  clear hW3 c1 c2 c3
  generalize W2.heap.size = g5 at hsb ⊢
  have HT3 := Lib.hid T3; have HSB := Lib.hid hsb; clear T3 hsb
  have c3 := (HIN.out W3 HT3.out.b).csrc
  go_upto_region 12 with (go_at_call 39; (with_reducible refine (HRS.out _ HT3.out.b).mono ?_); rintro e W4 ⟨rfl, hb4⟩; have HT4 := Lib.hid (HT3.out.more hb4); have HS4 := Lib.hid (HSB.out.below hb4); clear hb4)
  clear c3
  have e0 : W4.cell? ⟨g5, 0, none⟩ = some (.int .u64 (dl : Int)) := HS4.out.cell 0 (by omega)
  have e1 : W4.cell? ⟨g5, 1, none⟩ = some (.int .u64 (dg : Int)) := HS4.out.cell 1 (by omega)
  go_wp2_with (go_at_call 38; (with_reducible refine (HMM.out _ HT4.out.b).mono ?_); rintro e W5 ⟨rfl, hb5⟩; have HT5 := Lib.hid (HT4.out.more hb5); clear hb5)
  exact ⟨rfl, rfl, HT5.out.b⟩

set_option maxRecDepth 100000 in
set_option maxHeartbeats 1500000 in
theorem behind_st_d {w : World} {x : Nat} {i : Ins8} {ctx : Nat} {k : Kn} (hI : InB w x i ctx k) (hm : i.May) (hop : i.op = 18) (hs : (k.r i.dst).s = false) :
    Calls Try.prog 32 #[.pointer (some ⟨x, 0, none⟩)] w fun e w' => e = .panicked (stopC 161) ∧ Below w.heap.size w w' := by
  have hx := hI.lt
  have hdst := hm.dst
  have hsrc := hm.src
  obtain ⟨kz, hkz⟩ : ∃ z : Kn, z = kn0 := ⟨_, rfl⟩
  obtain ⟨W1, hW1⟩ : ∃ W1, W1 = (w.alloc (.cells #[.bool false, .bool false, .int .u32 0, .int .u32 0, .bool false, .int .u32 0, .int .u32 0, .bool false, .int .u32 0, .int .u32 0, .bool false, .int .u32 0, .int .u32 0, .bool false, .int .u32 0, .int .u32 0, .bool false, .int .u32 0, .int .u32 0, .bool false, .int .u32 0, .int .u32 0, .bool false, .int .u32 0, .int .u32 0, .bool false, .int .u32 0, .int .u32 0, .bool false, .int .u32 0, .int .u32 0] 42)).alloc (.cells #[.bool false, .bool false, .int .u32 0, .int .u32 0, .bool false, .int .u32 0, .int .u32 0, .bool false, .int .u32 0, .int .u32 0, .bool false, .int .u32 0, .int .u32 0, .bool false, .int .u32 0, .int .u32 0, .bool false, .int .u32 0, .int .u32 0, .bool false, .int .u32 0, .int .u32 0, .bool false, .int .u32 0, .int .u32 0, .bool false, .int .u32 0, .int .u32 0, .bool false, .int .u32 0, .int .u32 0] 42) := ⟨_, rfl⟩
  have T1 : Tw w w.heap.size (knF kz) (knF kz) W1 := by rw [hW1, hkz]; exact Tw.start w
  have HKZ := Lib.hid hkz; clear hkz
  have HIN := Lib.hid (fun W (hb : Below w.heap.size w W) => hI.below hb)
  have HT1 := Lib.hid T1
  have c1 := (HIN.out W1 HT1.out.b).cop
  have c2 := (HIN.out W1 HT1.out.b).cdst
  have c3 := (HIN.out W1 HT1.out.b).csrc
  have c4 := (HIN.out W1 HT1.out.b).cctx
  have q16 : ((i.op : Int) == 16) = false := by simp; omega
  have q17 : ((i.op : Int) == 17) = false := by simp; omega
  have q18 : ((i.op : Int) == 18) = true := by simp; omega
  have q19 : ((i.op : Int) == 19) = false := by simp; omega
  have q20 : ((i.op : Int) == 20) = false := by simp; omega
  have q21 : ((i.op : Int) == 21) = false := by simp; omega
  have q22 : ((i.op : Int) == 22) = false := by simp; omega
  have q23 : ((i.op : Int) == 23) = false := by simp; omega
  have q24 : ((i.op : Int) == 24) = false := by simp; omega
  have HRG := Lib.hid (fun W hb => reg_not (HIN.out W hb) i.dst hdst hs)
  clear hop hm hs
  have HW1 := Lib.hid hW1; clear hW1 T1
  go_enter Try.func32, Try.ntmps32
  go_upto_region 1 with fail
  rw [← HW1.out]
  go_wp2_with (go_at_call 39; (with_reducible refine (HRG.out _ HT1.out.b).mono ?_); rintro e W2 ⟨rfl, hb2⟩; have HT2 := Lib.hid (HT1.out.more hb2); clear hb2)
  exact ⟨rfl, rfl, HT2.out.b⟩

set_option maxRecDepth 100000 in
set_option maxHeartbeats 1500000 in
theorem behind_st_s {w : World} {x : Nat} {i : Ins8} {ctx : Nat} {k : Kn} (hI : InB w x i ctx k) (hm : i.May) (hr : k.right) (hop : i.op = 18) (hd : (k.r i.dst).s = true) (hs : (k.r i.src).s = false) :
    Calls Try.prog 32 #[.pointer (some ⟨x, 0, none⟩)] w fun e w' => e = .panicked (stopC 161) ∧ Below w.heap.size w w' := by
  have hx := hI.lt
  have hdst := hm.dst
  have hsrc := hm.src
  obtain ⟨kz, hkz⟩ : ∃ z : Kn, z = kn0 := ⟨_, rfl⟩
  obtain ⟨W1, hW1⟩ : ∃ W1, W1 = (w.alloc (.cells #[.bool false, .bool false, .int .u32 0, .int .u32 0, .bool false, .int .u32 0, .int .u32 0, .bool false, .int .u32 0, .int .u32 0, .bool false, .int .u32 0, .int .u32 0, .bool false, .int .u32 0, .int .u32 0, .bool false, .int .u32 0, .int .u32 0, .bool false, .int .u32 0, .int .u32 0, .bool false, .int .u32 0, .int .u32 0, .bool false, .int .u32 0, .int .u32 0, .bool false, .int .u32 0, .int .u32 0] 42)).alloc (.cells #[.bool false, .bool false, .int .u32 0, .int .u32 0, .bool false, .int .u32 0, .int .u32 0, .bool false, .int .u32 0, .int .u32 0, .bool false, .int .u32 0, .int .u32 0, .bool false, .int .u32 0, .int .u32 0, .bool false, .int .u32 0, .int .u32 0, .bool false, .int .u32 0, .int .u32 0, .bool false, .int .u32 0, .int .u32 0, .bool false, .int .u32 0, .int .u32 0, .bool false, .int .u32 0, .int .u32 0] 42) := ⟨_, rfl⟩
  have T1 : Tw w w.heap.size (knF kz) (knF kz) W1 := by rw [hW1, hkz]; exact Tw.start w
  have HKZ := Lib.hid hkz; clear hkz
  have HIN := Lib.hid (fun W (hb : Below w.heap.size w W) => hI.below hb)
  have HT1 := Lib.hid T1
  have c1 := (HIN.out W1 HT1.out.b).cop
  have c2 := (HIN.out W1 HT1.out.b).cdst
  have c3 := (HIN.out W1 HT1.out.b).csrc
  have c4 := (HIN.out W1 HT1.out.b).cctx
  have q16 : ((i.op : Int) == 16) = false := by simp; omega
  have q17 : ((i.op : Int) == 17) = false := by simp; omega
  have q18 : ((i.op : Int) == 18) = true := by simp; omega
  have q19 : ((i.op : Int) == 19) = false := by simp; omega
  have q20 : ((i.op : Int) == 20) = false := by simp; omega
  have q21 : ((i.op : Int) == 21) = false := by simp; omega
  have q22 : ((i.op : Int) == 22) = false := by simp; omega
  have q23 : ((i.op : Int) == 23) = false := by simp; omega
  have q24 : ((i.op : Int) == 24) = false := by simp; omega
  have HRD := Lib.hid (fun W hb => reg_ok (HIN.out W hb) hr i.dst hdst hd)
  have HRS := Lib.hid (fun W hb => reg_not (HIN.out W hb) i.src hsrc hs)
  obtain ⟨dl, hdl⟩ : ∃ n, n = (k.r i.dst).l := ⟨_, rfl⟩
  obtain ⟨dg, hdg⟩ : ∃ n, n = (k.r i.dst).g := ⟨_, rfl⟩
  rw [← hdl, ← hdg] at HRD
  clear hdl hdg hop hm hr hs hd c4
  have HW1 := Lib.hid hW1; clear hW1 T1
  go_enter Try.func32, Try.ntmps32
  go_upto_region 1 with fail
  rw [← HW1.out]
  go_upto_region 11 with (first | (go_at_call 39; (with_reducible refine (HRD.out _ HT1.out.b).mono ?_); rintro e W2 ⟨rfl, hb2⟩; have HT2 := Lib.hid (HT1.out.more hb2); clear hb2) | (refine wpList_store_new rfl 93 (.tmp 5) (.tmp 54) rfl #[.int .u64 0, .int .u64 0] #[.int .u64 (dl : Int), .int .u64 (dg : Int)] rfl rfl (by kernel_rfl) rfl (by simp [Value.oneCell']) ?_))
  have T3 := HT2.out.more ((Below.refl _ _).alloc (Nat.le_refl _) (.cells #[.int .u64 (dl : Int), .int .u64 (dg : Int)] 93))
  have hsb := spB W2 dl dg
  generalize hW3 : W2.alloc (.cells #[.int .u64 (dl : Int), .int .u64 (dg : Int)] 93) = W3 at T3 hsb ⊢
  clear hW3 c1 c2 c3
  generalize W2.heap.size = g5 at hsb ⊢
  have HT3 := Lib.hid T3; have HSB := Lib.hid hsb; clear T3 hsb
  have c3 := (HIN.out W3 HT3.out.b).csrc
  go_wp2_with (go_at_call 39; (with_reducible refine (HRS.out _ HT3.out.b).mono ?_); rintro e W4 ⟨rfl, hb4⟩; have HT4 := Lib.hid (HT3.out.more hb4); clear hb4)
  exact ⟨rfl, rfl, HT4.out.b⟩
end Go.Proofs.Ytjlddhnjbjhmkaa
