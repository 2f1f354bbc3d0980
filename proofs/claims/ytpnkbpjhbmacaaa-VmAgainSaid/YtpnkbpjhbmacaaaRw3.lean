/- The document's run. -/
import Derived.Test.YtpnkbpjhbmacaaaRw2
set_option linter.unusedVariables false
set_option linter.unusedSimpArgs false
namespace Go.Proofs.Ytpnkbpjhbmacaaa
open Go.RowKit

def RefPost (w : World) (pr : List Ins8) (cx : List UInt8) (ans : List Nat) (e : Ending) (w' : World) : Prop :=
  ∃ A c V, e = .returned (.tuple #[.agg (ranL (.slice A (runTo pr cx ans (pr.length + 1) vm0).2.calls.length c) (runTo pr cx ans (pr.length + 1) vm0).2).toArray, V]) ∧
    Sl w' Any 6 A (runTo pr cx ans (pr.length + 1) vm0).2.calls.length c (callsV (runTo pr cx ans (pr.length + 1) vm0).2.calls) ∧
    w'.ownsRow 0 70 21 V (runTo pr cx ans (pr.length + 1) vm0).1.length ((runTo pr cx ans (pr.length + 1) vm0).1.flatMap momCells) ∧ Below w.heap.size w w'
def okR (w : World) (V : Value) (b : Nat) : Prop := b ≠ w.heap.size + 1 ∧ b ≠ w.heap.size + 2 ∧ V.ownBlock ≠ some b
structure RB (w : World) (ctx : Int) (IA : Option Addr) (ic : Nat) (pr : List Ins8) (KA : Option Addr) (kc : Nat) (s : Vm) (fin : Bool) (ms : List Mom) (V : Value) (wr : World) : Prop where
  g : R3 w (.int .i64 ctx) (.slice IA pr.length ic) (stF (.slice KA s.calls.length kc) s fin) wr
  v : wr.ownsRow (w.heap.size + 3) 70 21 V ms.length (ms.flatMap momCells)
  c : Sl wr (okR w V) 6 KA s.calls.length kc (callsV s.calls)
def RR (w : World) (ctx : Int) (IA : Option Addr) (ic : Nat) (pr : List Ins8) (cx : List UInt8) (ans : List Nat) (MS : List Mom) (S : Vm) (V iv : Value) (wr : World) : Prop :=
  ∃ k KA kc s fin ms V0, iv = .int .i64 ((k : Nat) : Int) ∧ V0 = V ∧ RG pr cx ans MS S k s fin ms ∧ RB w ctx IA ic pr KA kc s fin ms V wr
theorem mom_new (w5 : World) (m : Mom) : ∃ Y, Hid (Y = w5.alloc (.cells (momCells m).toArray 70)) ∧ Hid (Below w5.heap.size w5 Y) ∧ Hid (Sl Y Any 21 (some ⟨w5.heap.size, 0, none⟩) 1 1 (momCells m)) :=
  ⟨_, Lib.hid rfl, Lib.hid ((Below.refl _ _).alloc (Nat.le_refl _) _), Lib.hid (Sl.lit w5 70 21 (momCells m).toArray 1 (by simp [maxLen]) rfl)⟩
theorem RB.below {w : World} {ctx : Int} {IA : Option Addr} {ic : Nat} {pr : List Ins8} {KA : Option Addr} {kc : Nat} {s : Vm} {fin : Bool} {ms : List Mom} {V : Value} {wr w1 : World} (h : RB w ctx IA ic pr KA kc s fin ms V wr) (hb : Below wr.heap.size wr w1) : RB w ctx IA ic pr KA kc s fin ms V w1 :=
  ⟨h.g.more hb, own_move h.v (fun k _ hlt => hb.block k hlt), h.c.move (Mv.of_below hb _)⟩
theorem RB.told {w : World} {ctx : Int} {IA : Option Addr} {ic : Nat} {pr : List Ins8} {KA : Option Addr} {kc : Nat} {s : Vm} {fin : Bool} {ms : List Mom} {V V' : Value} {Y w6 : World} (h : RB w ctx IA ic pr KA kc s fin ms V Y)
    (hown : w6.ownsRow (w.heap.size + 3) 70 21 V' (ms.length + 1) (ms.flatMap momCells ++ momCells s.mom)) (hg : Y.grownBy w6 V.ownBlock) (hat : V'.ownBlock = V.ownBlock ∨ V'.ownBlock = some Y.heap.size) :
    RB w ctx IA ic pr KA kc s fin (ms ++ [s.mom]) V' w6 := by
  have hk : Kp (fun b => V.ownBlock = some b) Y w6 := (Kp.refl _ Y).grown hg (fun k hk => .inl hk)
  refine ⟨h.g.keep hk (fun k e => (h.v.lt k e).1), ?_, ?_⟩
  · rw [List.length_append, List.length_singleton, List.flatMap_append, List.flatMap_singleton]
    exact hown
  · have h1 := h.c.move (Mv.of_kp hk (fun k _ hk' e => hk'.2.2 e))
    obtain ⟨h1, h2, h3, h4, h5⟩ := h.c
    have h1' := h.c.move (Mv.of_kp hk (fun k _ hk' e => hk'.2.2 e))
    refine ⟨h1'.1, h1'.2.1, h1'.2.2.1, h1'.2.2.2.1, fun a ha hn => ?_⟩
    obtain ⟨k1, k2, k3⟩ := h1'.2.2.2.2 a ha hn
    obtain ⟨j1, j2, j3⟩ := h5 a ha hn
    refine ⟨⟨k1.1, k1.2.1, fun e => ?_⟩, k2, k3⟩
    rcases hat with q | q
    · exact k1.2.2 (by rw [← q]; exact e)
    · rw [q] at e
      have : Y.heap.size = a.block := by injection e
      omega
theorem RB.stored {w : World} {ctx : Int} {IA : Option Addr} {ic : Nat} {pr : List Ins8} {KA KA' : Option Addr} {kc kc' : Nat} {s s2 : Vm} {fin fin2 : Bool} {ms : List Mom} {V : Value} {w6 w7 : World} (h : RB w ctx IA ic pr KA kc s fin ms V w6) (hb : Below w6.heap.size w6 w7)
    (hc : Sl w7 (fun k => okR w V k ∨ w6.heap.size ≤ k) 6 KA' s2.calls.length kc' (callsV s2.calls)) : RB w ctx IA ic pr KA' kc' s2 fin2 ms V (w7.setCells (w.heap.size + 2) 0 (stL (.slice KA' s2.calls.length kc') s2 fin2)) := by
  have h7 := h.below hb
  have hz := h.g.z
  obtain ⟨g, hk⟩ := h7.g.fill (stF (.slice KA' s2.calls.length kc') s2 fin2)
  refine ⟨g, own_move h7.v (fun k hk' hlt => hk.block k hlt (fun e => by have := (h7.v.lt k hk').1; omega)), ?_⟩
  have hc2 := hc.move (Mv.of_kp hk (fun k _ hk' e => by
    rcases hk' with q | q
    · exact q.2.1 e
    · omega))
  refine hc2.mono (fun k _ hk' => ?_)
  rcases hk' with q | q
  · exact q
  · exact ⟨by omega, by omega, fun e => by have := (h.v.lt k e).2; omega⟩
theorem RB.start (w : World) (ctx : Int) (IA : Option Addr) (ic : Nat) (pr : List Ins8) (cs : Array Value) (hcs : cs.size = 69) :
    RB w ctx IA ic pr none 0 vm0 false [] (.slice none 0 0) (((w.alloc (.cells #[.int .i64 ctx, .slice IA pr.length ic] 24)).alloc (.cells cs 34)).alloc (.cells (rowF 91 (stF (.slice none 0 0) vm0 false)).toArray 83)) :=
  ⟨R3.start w _ _ _ cs hcs, World.ownsRow_nil _ _ _ _, Sl.nil _ _ _⟩
theorem build_st0 (W : World) : (Instr.build 83 #[]).run Try.prog W = .ok (.agg (rowF 91 (stF (.slice none 0 0) vm0 false)).toArray) W := by kernel_rfl
theorem RB.in_ {w : World} {ctx : Int} {IA : Option Addr} {ic : Nat} {pr : List Ins8} {KA : Option Addr} {kc : Nat} {s : Vm} {ms : List Mom} {V : Value} {w6 : World} {k : Nat} (h : RB w ctx IA ic pr KA kc s false ms V w6) (hr : RI s k) (hk : k ≤ 300)
    {cx : List UInt8} {CA : Option Addr} {cc : Nat} (hcx : By w Any CA cx.length cc cx) (hcl : cx.length ≤ 65536) (hin : Sl w Any 5 IA pr.length ic (pr.flatMap insCells)) (hpl : pr.length ≤ 300)
    {A : Option Addr} {ca : Nat} {ans : List Nat} (hans : Wd w Any A ans.length ca ans) (hal : ans.length ≤ 1048576) (hav : ∀ v, v ∈ ans → v < 4294967296) : StepIn w6 (okR w V) KA kc s IA ic pr CA cc cx A ca ans := by
  have hm := Mv.of_below h.g.b Any
  have h1 := hr.cl
  have h2 := hr.at_
  have h3 := hr.st
  exact ⟨hr.ok, hr.un, h.c, by omega, by omega, by omega, hin.move hm, by omega, Sl.move hcx hm, hcl, Sl.move hans hm, hal, hav⟩
theorem RB.end_ {w : World} {ctx : Int} {IA : Option Addr} {ic : Nat} {pr : List Ins8} {KA : Option Addr} {kc : Nat} {s : Vm} {fin : Bool} {ms : List Mom} {V : Value} {wr w1 : World} (h : RB w ctx IA ic pr KA kc s fin ms V wr) (hk : Kp (fun b => b = w.heap.size + 1) wr w1) :
    Sl w1 Any 6 KA s.calls.length kc (callsV s.calls) ∧ w1.ownsRow 0 70 21 V ms.length (ms.flatMap momCells) :=
  ⟨(h.c.move (Mv.of_kp hk (fun k _ hk' e => hk'.1 e))).mono (fun _ _ _ => trivial), own_base (own_move h.v (fun k hk' hlt => hk.block k hlt (fun e => by have := (h.v.lt k hk').1; omega))) (Nat.zero_le _)⟩


set_option maxRecDepth 100000 in
set_option maxHeartbeats 4000000 in
theorem refrun_ok {w : World} (ctx : Int) (cx : List UInt8) (CA : Option Addr) (cc : Nat) (hcx : By w Any CA cx.length cc cx) (hcl : cx.length ≤ 65536)
    (IA : Option Addr) (ic : Nat) (pr : List Ins8) (hin : Sl w Any 5 IA pr.length ic (pr.flatMap insCells)) (hpl : pr.length ≤ 300) (hpm : ∀ i, i ∈ pr → i.May) (h31 : ∀ i, i ∈ pr → i.op = 12 ∨ i.op = 13 → i.imm ≤ 31)
    (A : Option Addr) (ca : Nat) (ans : List Nat) (hans : Wd w Any A ans.length ca ans) (hal : ans.length ≤ 1048576) (hav : ∀ v, v ∈ ans → v < 4294967296) :
    Calls Try.prog 17 #[.agg #[.int .i64 ctx, .slice IA pr.length ic], .slice CA cx.length cc, .slice A ans.length ca] w (RefPost w pr cx ans) := by
  obtain ⟨S, hS⟩ : ∃ S, S = (runTo pr cx ans (pr.length + 1) vm0).2 := ⟨_, rfl⟩
  obtain ⟨MS, hMS⟩ : ∃ MS, MS = (runTo pr cx ans (pr.length + 1) vm0).1 := ⟨_, rfl⟩
  have hg0 := RG.zero pr cx ans
  rw [← hS, ← hMS] at hg0
  have HS := Lib.hid hS; have HMS := Lib.hid hMS; clear hS hMS
  obtain ⟨W1, hW1⟩ : ∃ W1, W1 = (w.alloc (.cells #[.int .i64 ctx, .slice IA pr.length ic] 24)).alloc (.cells Try.zeroCells34 34) := ⟨_, rfl⟩
  have hz1 : W1.heap.size = w.heap.size + 2 := by rw [hW1]; simp
  obtain ⟨W2, hW2⟩ : ∃ W2, W2 = W1.alloc (.cells (rowF 91 (stF (.slice none 0 0) vm0 false)).toArray 83) := ⟨_, rfl⟩
  have hB2 : RB w ctx IA ic pr none 0 vm0 false [] (.slice none 0 0) W2 := by rw [hW2, hW1]; exact RB.start w ctx IA ic pr _ size_ranz
  have HB2 := Lib.hid hB2; clear hB2
  have HW2 := Lib.hid hW2; clear hW2
  have HW1 := Lib.hid hW1; clear hW1
  have HZ1 := Lib.hid hz1; clear hz1
  have HG0 := Lib.hid hg0; clear hg0
  have HIN := Lib.hid (fun (k : Nat) (KA : Option Addr) (kc : Nat) (s : Vm) (ms : List Mom) (V : Value) (w6 : World) (h : RB w ctx IA ic pr KA kc s false ms V w6) (hr : RI s k) (hk : k ≤ 300) => h.in_ hr hk hcx hcl hin hpl hans hal hav)
  have HPM := Lib.hid hpm; clear hpm
  have H31 := Lib.hid h31; clear h31
  have HAV := Lib.hid hav; clear hav hcx hin hans
  go_enter Try.func17, Try.ntmps17
  go_upto_region 1 with fail
  rw [← HW1.out]
  refine wp_region_list ?_
  refine wpList_value (w' := W1) (.agg (rowF 91 (stF (.slice none 0 0) vm0 false)).toArray) rfl (by kernel_rfl) ?_
  refine wpList_value (w' := W1.alloc (.cells Try.zeroCells83 83)) (.pointer (some ⟨W1.heap.size, 0, none⟩)) rfl (by kernel_rfl) ?_
  refine wpList_store_new rfl 83 (.tmp 8) (.tmp 11) rfl Try.zeroCells83 (rowF 91 (stF (.slice none 0 0) vm0 false)).toArray rfl rfl info_state size_state (stL_one _ rfl vm0 false) ?_
  rw [← HW2.out, HZ1.out]
  go_wp2
  go_loopw [9, 10] (fun V iv wr => RR w ctx IA ic pr cx ans MS S V iv wr) (fun _ iv _ => pr.length + 2 - (intOf iv).toNat)
  case atStart => exact ⟨0, none, 0, vm0, false, [], _, rfl, rfl, HG0.out, HB2.out⟩
  case round =>
    obtain ⟨k, KA, kc, s, fin, ms, V, rfl, rfl, hrg, hrb⟩ := hrel
    have c90 : wr.cell? ⟨w.heap.size + 2, 90, none⟩ = some (.bool fin) := hrb.g.s.cell 90 (by omega)
    have p1 := hrb.g.p1
    have p0 := hrb.g.p0
    have hkb := hrg.kb
    by_cases hk : k ≤ pr.length
    · cases fin with
      | true =>
        obtain ⟨e1, e2⟩ := hrg.done (.inl rfl)
        subst e1; subst e2
        have HB := Lib.hid hrb; clear hrb
        have HRG0 := Lib.hid hrg; clear hrg
        go_upto_region 8 with fail
        obtain ⟨HT9, W10, HW10, HR10, HK10, HB10⟩ := HB.out.g.done (ranL (.slice KA s.calls.length kc) s) (ranL_length _ _)
        have hrg := HB.out.g.s.rangeAt 21 69 (by omega)
        rw [stF_ran] at hrg
        have HRG := Lib.hid hrg; clear hrg
        refine wp_region_list ?_
        refine wpList_value (w' := wr) (.pointer (some ⟨w.heap.size + 2, 21, none⟩)) rfl (by kernel_rfl) ?_
        refine wpList_load_mid rfl 34 (.tmp 34) rfl (w.heap.size + 2) 21 rfl (ranL (.slice KA s.calls.length kc) s) _ HRG.out Try.underlying34 rfl (by rw [ranL_length]; exact info_ran) ?_
        refine wpList_value (w' := wr) V rfl (by kernel_rfl) ?_
        refine wpList_store_mid rfl 34 (.tmp 6) (.tmp 35) rfl (w.heap.size + 1) 0 (ranL (.slice KA s.calls.length kc) s).toArray rfl rfl (by rw [show (ranL (.slice KA s.calls.length kc) s).toArray.size = 69 from by rw [List.size_toArray, ranL_length]]; exact HT9.out) (by rw [show (ranL (.slice KA s.calls.length kc) s).toArray.size = 69 from by rw [List.size_toArray, ranL_length]]; exact info_ran) (ranL_one _ rfl _) ?_
        rw [← HW10.out]
        have HF := Lib.hid (HB.out.end_ HK10.out)
        go_wp2
        exact bodyPost_ret (v := .tuple #[.agg (ranL (.slice KA s.calls.length kc) s).toArray, V]) (results_cell_range Try.results17 _ _ (w.heap.size + 1) 0 _ _ rfl HR10.out Try.underlying34 rfl (by rw [ranL_length]; exact info_ran) _ rfl) rfl ⟨KA, kc, V, by rw [← HS.out], by rw [← HS.out]; exact HF.out.1, by rw [← HMS.out]; exact HF.out.2, HB10.out⟩
      | false =>
        have hri := hrg.ri rfl
        obtain ⟨VA, vc, rfl⟩ := own_shape hrb.v
        have hml := hrg.ml
        have HML := Lib.hid hml; clear hml
        have HNX := Lib.hid (hrg.next hk HPM.out HAV.out); clear hrg
        have HMO := Lib.hid (fun W => momentr_ok W (.slice KA s.calls.length kc) s false hri.ok)
        have HRI := Lib.hid hri; clear hri
        have HB := Lib.hid hrb; clear hrb
        go_upto_region 7 with (first | (refine wpList_load_mid rfl 83 (.tmp 8) rfl (w.heap.size + 2) 0 rfl (stL (.slice KA s.calls.length kc) s false) _ HB.out.g.s.range Try.underlying83 rfl (by rw [stL_length]; exact info_state) ?_) | (go_at_call 25; (with_reducible refine (HMO.out _).mono ?_); rintro e w5 ⟨rfl, hb5⟩; have HB5 := Lib.hid (HB.out.below hb5); clear hb5; obtain ⟨Y, HY, HYB, HYS⟩ := mom_new w5 s.mom; have HBY := Lib.hid (HB5.out.below HYB.out)) | (refine wpList_value (o := ⟨some 27, _, _, _, _, _⟩) (w' := Y) (.slice (some ⟨w5.heap.size, 0, none⟩) 1 1) rfl (by rw [HY.out]; kernel_rfl) ?_) | (refine wpList_append_sl _ rfl (.tmp 24) (.tmp 27) _ rfl (w.heap.size + 3) 70 _ 21 64 Try.underlying40 info_mom rfl (by omega) (by omega) (.slice VA ms.length vc) ms.length (ms.flatMap momCells) rfl HBY.out.v (some ⟨w5.heap.size, 0, none⟩) 1 1 (momCells s.mom) rfl HYS.out (mom_one _) (by have := HML.out; omega) HBY.out.g.z ?_; intro v6 w6 hown6 hg6 hat6; have HB6 := Lib.hid (HBY.out.told hown6 hg6 hat6); clear hown6 hg6 hat6))
        obtain ⟨VB, vb, rfl⟩ := own_shape HB6.out.v
        have q0 := HB6.out.g.p0
        have q1 := HB6.out.g.p1
        clear p0 p1 c90
        have HST := Lib.hid (stepr_ok (pr := pr) ctx (HIN.out k KA kc s _ _ w6 HB6.out HRI.out (by omega)) HPM.out H31.out)
        go_upto_region 5 with (first | (refine wpList_load_mid rfl 83 (.tmp 8) rfl (w.heap.size + 2) 0 rfl (stL (.slice KA s.calls.length kc) s false) _ HB6.out.g.s.range Try.underlying83 rfl (by rw [stL_length]; exact info_state) ?_) | (go_at_call 26; (with_reducible refine HST.out.mono ?_); rintro e w7 ⟨KA', kc', rfl, hc7, hb7⟩; have HB8 := Lib.hid (HB6.out.stored (fin2 := (stepV pr cx ans s).2) hb7 hc7); have HTH := Lib.hid (there_blk (HB6.out.below hb7).g.s); clear hc7 hb7) | (refine wpList_store_mid rfl 83 (.tmp 8) (.tmp 33) rfl (w.heap.size + 2) 0 (stL (.slice KA' (stepV pr cx ans s).1.calls.length kc') (stepV pr cx ans s).1 (stepV pr cx ans s).2).toArray rfl rfl (by rw [stA_size]; exact HTH.out) (by rw [stA_size]; exact info_state) (stL_one _ rfl _ _) ?_))
        show Code.wp _ _ _ _ (w7.setCells (w.heap.size + 2) 0 (stL (.slice KA' (stepV pr cx ans s).1.calls.length kc') (stepV pr cx ans s).1 (stepV pr cx ans s).2))
        generalize hw8 : w7.setCells (w.heap.size + 2) 0 (stL (.slice KA' (stepV pr cx ans s).1.calls.length kc') (stepV pr cx ans s).1 (stepV pr cx ans s).2) = w8 at HB8 ⊢
        clear hw8
        go_wp2
        go_roundw
        case rel => exact ⟨k + 1, KA', kc', _, _, _, _, by go_num, rfl, HNX.out, by have h8 := HB8.out; rw [show (ms ++ [s.mom]).length = ms.length + 1 from by simp] at h8; exact h8⟩
        case measure => simp [intOf]; omega
    · obtain ⟨e1, e2⟩ := hrg.done (.inr hk)
      subst e1; subst e2
      have HB := Lib.hid hrb; clear hrb
      have HRG0 := Lib.hid hrg; clear hrg
      go_upto_region 8 with fail
      obtain ⟨HT9, W10, HW10, HR10, HK10, HB10⟩ := HB.out.g.done (ranL (.slice KA s.calls.length kc) s) (ranL_length _ _)
      have hrg := HB.out.g.s.rangeAt 21 69 (by omega)
      rw [stF_ran] at hrg
      have HRG := Lib.hid hrg; clear hrg
      refine wp_region_list ?_
      refine wpList_value (w' := wr) (.pointer (some ⟨w.heap.size + 2, 21, none⟩)) rfl (by kernel_rfl) ?_
      refine wpList_load_mid rfl 34 (.tmp 34) rfl (w.heap.size + 2) 21 rfl (ranL (.slice KA s.calls.length kc) s) _ HRG.out Try.underlying34 rfl (by rw [ranL_length]; exact info_ran) ?_
      refine wpList_value (w' := wr) V rfl (by kernel_rfl) ?_
      refine wpList_store_mid rfl 34 (.tmp 6) (.tmp 35) rfl (w.heap.size + 1) 0 (ranL (.slice KA s.calls.length kc) s).toArray rfl rfl (by rw [show (ranL (.slice KA s.calls.length kc) s).toArray.size = 69 from by rw [List.size_toArray, ranL_length]]; exact HT9.out) (by rw [show (ranL (.slice KA s.calls.length kc) s).toArray.size = 69 from by rw [List.size_toArray, ranL_length]]; exact info_ran) (ranL_one _ rfl _) ?_
      rw [← HW10.out]
      have HF := Lib.hid (HB.out.end_ HK10.out)
      go_wp2
      exact bodyPost_ret (v := .tuple #[.agg (ranL (.slice KA s.calls.length kc) s).toArray, V]) (results_cell_range Try.results17 _ _ (w.heap.size + 1) 0 _ _ rfl HR10.out Try.underlying34 rfl (by rw [ranL_length]; exact info_ran) _ rfl) rfl ⟨KA, kc, V, by rw [← HS.out], by rw [← HS.out]; exact HF.out.1, by rw [← HMS.out]; exact HF.out.2, HB10.out⟩
end Go.Proofs.Ytpnkbpjhbmacaaa
