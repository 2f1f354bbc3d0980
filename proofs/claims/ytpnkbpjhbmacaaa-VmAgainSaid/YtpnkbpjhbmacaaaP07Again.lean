/- VmAgain, for every input: it returns true, and each argument reads afterwards as it read before. No condition. -/
import Derived.Test.YtpnkbpjhbmacaaaRow07
import Derived.Test.YtpnkbpjhbmacaaaVl4
set_option linter.unusedVariables false
set_option linter.unusedSimpArgs false
namespace Go.Proofs.Ytpnkbpjhbmacaaa
section
open Go.RowKit
theorem res_sum {s s' : Vm} {i : Ins8} {m : Int} {f : Bool} (h : sumRes s i = .go s' m f) : s'.calls = s.calls := by
  unfold sumRes at h
  repeat' split at h
  all_goals first | (cases h; rfl) | cases h
theorem res_ldc {s s' : Vm} {i : Ins8} {cx : List UInt8} {m : Int} {f : Bool} (h : ldcRes s i cx = .go s' m f) : s'.calls = s.calls := by
  unfold ldcRes at h
  repeat' split at h
  all_goals first | (cases h; rfl) | cases h
theorem res_lds {s s' : Vm} {i : Ins8} {m : Int} {f : Bool} (h : ldsRes s i = .go s' m f) : s'.calls = s.calls := by
  unfold ldsRes at h
  repeat' split at h
  all_goals first | (cases h; rfl) | cases h
theorem res_sts {s s' : Vm} {i : Ins8} {m : Int} {f : Bool} (h : stsRes s i = .go s' m f) : s'.calls = s.calls := by
  unfold stsRes at h
  repeat' split at h
  all_goals first | (cases h; rfl) | cases h
theorem res_jeq {s s' : Vm} {i : Ins8} {m : Int} {f : Bool} (h : jeqRes s i = .go s' m f) : s'.calls = s.calls := by
  unfold jeqRes at h
  repeat' split at h
  all_goals first | (cases h; rfl) | cases h
theorem res_jlt {s s' : Vm} {i : Ins8} {m : Int} {f : Bool} (h : jltRes s i = .go s' m f) : s'.calls = s.calls := by
  unfold jltRes at h
  repeat' split at h
  all_goals first | (cases h; rfl) | cases h
theorem res_exit {s s' : Vm} {m : Int} {f : Bool} (h : exitRes s = .go s' m f) : s'.calls = s.calls := by
  unfold exitRes at h
  repeat' split at h
  all_goals first | (cases h; rfl) | cases h
theorem does_any_ans {s : Vm} {i : Ins8} {cx : List UInt8} {a b : List Nat} (h : ¬ i.op = 23) : doesRes s i cx a = doesRes s i cx b := by
  unfold doesRes
  simp only [if_neg h]
theorem does_c23 {s : Vm} {i : Ins8} {cx : List UInt8} {a : List Nat} (h : i.op = 23) : doesRes s i cx a = .go (s.call i.imm a) 0 false := by
  unfold doesRes
  simp [h]
theorem does_calls {s s' : Vm} {i : Ins8} {cx : List UInt8} {a : List Nat} {m : Int} {f : Bool} (h : ¬ i.op = 23) (h2 : doesRes s i cx a = .go s' m f) : s'.calls = s.calls := by
  unfold doesRes at h2
  simp only [if_neg h] at h2
  split at h2
  · exact res_sum h2
  split at h2
  · exact res_ldc h2
  split at h2
  · exact res_lds h2
  split at h2
  · exact res_sts h2
  split at h2
  · injection h2 with e1 e2 e3; subst e1; rfl
  split at h2
  · exact res_jeq h2
  split at h2
  · exact res_jlt h2
  exact res_exit h2
theorem stepV_calls (pr : List Ins8) (cx : List UInt8) (a : List Nat) (s : Vm) : s.calls.length ≤ (stepV pr cx a s).1.calls.length := by
  rcases hr : stepRes pr cx a s with ⟨s', more, fin⟩ | why
  · rw [stepV_go hr]
    unfold stepRes at hr
    rcases hi : pr[s.at_]? with _ | i
    · rw [hi] at hr; cases hr
    · rw [hi] at hr
      have hr3 : doesRes s.mark i cx a = .go s' more fin := hr
      show s.mark.calls.length ≤ s'.calls.length
      by_cases h : i.op = 23
      · rw [does_c23 h] at hr3
        injection hr3 with e1 e2 e3
        subst e1
        simp [Vm.call]
      · rw [does_calls h hr3]; exact Nat.le_refl _
  · rw [stepV_stop hr]; exact Nat.le_refl _
theorem runTo_grow (pr : List Ins8) (cx : List UInt8) (a : List Nat) : ∀ (n : Nat) (s : Vm), s.calls.length ≤ (runTo pr cx a n s).2.calls.length
  | 0, s => Nat.le_refl _
  | n + 1, s => by
    rw [runTo_succ]
    have h := stepV_calls pr cx a s
    split
    · exact h
    · exact Nat.le_trans h (runTo_grow pr cx a n _)
theorem stepV_more {pr : List Ins8} {cx : List UInt8} {l k : List Nat} {s : Vm} (h : (stepV pr cx l s).1.calls.length ≤ l.length) : stepV pr cx (l ++ k) s = stepV pr cx l s := by
  suffices e : stepRes pr cx (l ++ k) s = stepRes pr cx l s by unfold stepV; rw [e]
  rcases hi : pr[s.at_]? with _ | i
  · unfold stepRes; rw [hi]
  · have e : ∀ a, stepRes pr cx a s = doesRes s.mark i cx a := fun a => by unfold stepRes; rw [hi]
    rw [e, e]
    by_cases ho : i.op = 23
    · rw [stepV_go ((e l).trans (does_c23 ho))] at h
      have h2 : s.calls.length < l.length := by simp [Vm.call, Vm.next, Vm.mark] at h; omega
      rw [does_c23 ho, does_c23 ho]
      have h3 : (l ++ k).getD s.calls.length 0 = l.getD s.calls.length 0 := by simp [List.getD_eq_getElem?_getD, List.getElem?_append_left h2]
      have : s.mark.call i.imm (l ++ k) = s.mark.call i.imm l := by
        unfold Vm.call
        show ({ s.mark with set := _, reg := fun i => if i = 0 then (l ++ k).getD s.calls.length 0 else _, calls := _ } : Vm) = _
        rw [h3]; rfl
      rw [this]
    · exact does_any_ans ho
theorem runTo_more (pr : List Ins8) (cx : List UInt8) (l k : List Nat) : ∀ (n : Nat) (s : Vm), (runTo pr cx l n s).2.calls.length ≤ l.length → runTo pr cx (l ++ k) n s = runTo pr cx l n s
  | 0, s, _ => rfl
  | n + 1, s, h => by
    rw [runTo_succ] at h
    rw [runTo_succ, runTo_succ]
    have hs : (stepV pr cx l s).1.calls.length ≤ l.length := by
      split at h
      · exact h
      · exact Nat.le_trans (runTo_grow pr cx l n _) h
    rw [stepV_more hs]
    split at h
    · rename_i hf; rw [if_pos hf, if_pos hf]
    · rename_i hf
      rw [if_neg hf, if_neg hf, runTo_more pr cx l k n _ h]
theorem conv_by7 {ok : Nat → Prop} (w : World) (A : Option Addr) (n c : Nat) (l : List UInt8) (h : By w ok A n c l) :
    (convert 25 9 (.slice A n c)).run Try.prog w = .ok (.string ⟨l.toArray⟩) w := by
  have hlen : l.length = n := by have := h.1; simpa [bv] using this
  cases A with
  | none =>
    have hc : c = 0 := h.2.2.2.1 rfl
    have hn := h.2.1
    have : l = [] := List.eq_nil_of_length_eq_zero (by omega)
    subst this
    exact run_convert_bytes_nil w 25 5 Try.underlying25 Try.underlying5 n c 9 Try.underlying9
  | some a =>
    subst hlen
    refine run_convert_bytes_back w 25 9 5 a c l Try.underlying25 Try.underlying5 Try.underlying9 (fun j hj => ?_)
    exact h.cells j _ (by simp [bv, List.getElem?_eq_getElem hj])
theorem ranz_is2 : Try.zeroCells34 = (ranL (.slice none vm0.calls.length 0) vm0).toArray := ranz_is
theorem info_w32 : (Try.prog.info? 30).map (fun i => (i.zero, i.size, i.bytes)) = some (some (.int .u32 0), 1, 4) := by kernel_rfl
theorem one32 (l : List Nat) : ∀ u ∈ l.map (fun v : Nat => Value.int .u32 (v : Int)), u.oneCell' = true := by
  intro u hu
  obtain ⟨v, _, rfl⟩ := List.mem_map.1 hu
  rfl
/-- The worlds of the law: the program and the answers, each in its block. -/
structure Aw (w : World) (c0 c1 a0 a1 : Value) (W : World) : Prop where
  b : Below w.heap.size w W
  z : w.heap.size + 2 ≤ W.heap.size
  p0 : W.cell? ⟨w.heap.size, 0, none⟩ = some c0
  p1 : W.cell? ⟨w.heap.size, 1, none⟩ = some c1
  q0 : W.cell? ⟨w.heap.size + 1, 0, none⟩ = some a0
  q1 : W.cell? ⟨w.heap.size + 1, 1, none⟩ = some a1
theorem Aw.start (w : World) (c0 c1 a0 a1 : Value) : Aw w c0 c1 a0 a1 ((w.alloc (.cells #[c0, c1] 24)).alloc (.cells #[a0, a1] 27)) :=
  ⟨Below.b1 rfl, by simp, by simp [go_sem], by simp [go_sem], by simp [go_sem], by simp [go_sem]⟩
theorem Aw.more {w : World} {c0 c1 a0 a1 : Value} {W W1 : World} (h : Aw w c0 c1 a0 a1 W) (hb : Below W.heap.size W W1) : Aw w c0 c1 a0 a1 W1 := by
  have hz := h.z
  have hk := Kp.of_below hb No
  exact ⟨h.b.trans (hb.mono (by omega)), by have := hb.size; omega, hk.cell h.p0 (fun e => e), hk.cell h.p1 (fun e => e), hk.cell h.q0 (fun e => e), hk.cell h.q1 (fun e => e)⟩
theorem Aw.al {w : World} {c0 c1 a0 a1 : Value} {W : World} (h : Aw w c0 c1 a0 a1 W) (o : Obj) : Aw w c0 c1 a0 a1 (W.alloc o) := h.more ((Below.refl _ _).alloc (Nat.le_refl _) _)
/-- The worlds of the region that draws: the run's block laid yet, or not. -/
structure Bx (Z : World) (o : Bool) (g : Nat) (W : World) : Prop where
  b : Below Z.heap.size Z W
  x : o = true → Z.heap.size ≤ g ∧ ∃ F, Blk W g 34 69 F
theorem Bx.lt {Z : World} {g : Nat} {W : World} (h : Bx Z true g W) : g < W.heap.size := by obtain ⟨_, F, hF⟩ := h.x rfl; exact hF.lt
theorem Bx.keep {Z : World} {o : Bool} {g : Nat} {W W1 : World} {M : Nat → Prop} (h : Bx Z o g W) (hk : Kp M W W1) (hM : ∀ k, k < Z.heap.size → ¬ M k) (hg : o = true → ¬ M g) : Bx Z o g W1 :=
  ⟨((Kp.of_below h.b No).trans hk (fun k hk' hm => hM k hk' hm)).below, fun e => ⟨(h.x e).1, by obtain ⟨_, F, hF⟩ := h.x e; exact ⟨F, hF.keep hk (hg e)⟩⟩⟩
theorem Bx.below {Z : World} {o : Bool} {g : Nat} {W W1 : World} (h : Bx Z o g W) (hb : Below W.heap.size W W1) : Bx Z o g W1 := h.keep (Kp.of_below hb No) (fun _ _ e => e) (fun _ e => e)
theorem Bx.alloc {Z : World} {g : Nat} {W : World} (h : Bx Z false g W) : Bx Z true W.heap.size (W.alloc (.cells Try.zeroCells34 34)) := by
  have hz := h.b.size
  refine ⟨h.b.trans (((Below.refl _ _).alloc (Nat.le_refl _) _).mono hz), fun _ => ⟨hz, (fun j => Try.zeroCells34.getD j undef), ?_⟩⟩
  have := Blk.lit W 34 Try.zeroCells34
  rwa [size_ranz] at this
theorem Bx.grown1 {Z : World} {o : Bool} {g : Nat} {W W1 : World} (h : Bx Z o g W) (hg : W.grownBy W1 (Value.slice none 0 0).ownBlock) : Bx Z o g W1 := by
  have hk : Kp (fun b => (Value.slice none 0 0).ownBlock = some b) W W1 := (Kp.refl _ W).grown hg (fun k hk => .inl hk)
  exact h.keep hk (fun k _ e => by simp [Value.ownBlock] at e) (fun _ e => by simp [Value.ownBlock] at e)
theorem Bx.grown2 {Z : World} {o : Bool} {g : Nat} {W W1 : World} {V : Value} (h : Bx Z o g W) (hg : W.grownBy W1 V.ownBlock) (hZ : ∀ k, V.ownBlock = some k → Z.heap.size ≤ k) (hne : o = true → V.ownBlock ≠ some g) : Bx Z o g W1 := by
  have hk : Kp (fun b => V.ownBlock = some b) W W1 := (Kp.refl _ W).grown hg (fun k hk => .inl hk)
  exact h.keep hk (fun k hk' e => by have := hZ k e; omega) hne
theorem Bx.stored {Z : World} {g : Nat} {W : World} (h : Bx Z true g W) (cs : List Value) (hc : cs.length = 69) {V : Value} {n : Nat} {xs : List Value} (hown : W.ownsRow 0 80 6 V n xs) (hne : V.ownBlock ≠ some g) :
    ∃ Wf, Hid (Wf = W.setCells g 0 cs) ∧ Hid (Wf.rangeAt g 0 cs) ∧ Hid (Below Z.heap.size Z Wf) ∧ Hid (Wf.ownsRow 0 80 6 V n xs) := by
  obtain ⟨hz, F, hF⟩ := h.x rfl
  have ht := there_blk hF
  rw [← hc] at ht
  refine ⟨_, Lib.hid rfl, Lib.hid (World.rangeAt_setCells_same W g 0 cs ht), Lib.hid (Kp.setCells (.inr hz) _ _ _ (Kp.of_below h.b No)).below, Lib.hid ?_⟩
  exact own_move hown (fun k hk hlt => World.heap_setCells_other _ _ _ _ hlt (fun e => hne (by rw [hk, e])))
theorem Bx.there {Z : World} {g : Nat} {W : World} (h : Bx Z true g W) : W.there g 0 69 := by obtain ⟨_, F, hF⟩ := h.x rfl; exact there_blk hF
set_option maxRecDepth 100000 in
set_option maxHeartbeats 8000000 in
theorem vmagain_good (w : World) (IA : Option Addr) (ic : Nat) (pr : List Ins8) (hin : Sl w Any 5 IA pr.length ic (pr.flatMap insCells)) (hpl : pr.length ≤ 300) (hpm : ∀ i, i ∈ pr → i.May)
    (cx : List UInt8) (CA : Option Addr) (cc : Nat) (hcx : By w Any CA cx.length cc cx) (hcl : cx.length ≤ 300) (A : Option Addr) (ca : Nat) (l : List Nat) (hl : Wd w Any A l.length ca l) (hll : l.length ≤ 20) (hlv : ∀ v, v ∈ l → v < 4294967296) (B : Option Addr) (cb : Nat) (k : List Nat) (hk : Wd w Any B k.length cb k) (hkl : k.length ≤ 20) (hkv : ∀ v, v ∈ k → v < 4294967296)
    (hc0 : checkN (cx.length : Int) (pr.map Ins8.z) = 0) :
    Calls Try.prog 3 #[.agg #[.int .i64 (cx.length : Int), .slice IA pr.length ic], .slice CA cx.length cc, .agg #[.slice A l.length ca, .slice B k.length cb]] w fun e w' => e = .returned (.bool true) ∧ Below w.heap.size w w' := by
  obtain ⟨W1, hW1⟩ : ∃ W1, W1 = ((w.alloc (.cells #[.int .i64 (cx.length : Int), .slice IA pr.length ic] 24)).alloc (.cells #[.slice A l.length ca, .slice B k.length cb] 27)) := ⟨_, rfl⟩
  have G1 : Aw w (.int .i64 (cx.length : Int)) (.slice IA pr.length ic) (.slice A l.length ca) (.slice B k.length cb) W1 := by rw [hW1]; exact Aw.start w _ _ _ _
  have c0 := G1.p0
  have c1 := G1.p1
  have d0 := G1.q0
  have d1 := G1.q1
  obtain ⟨st, hst⟩ : ∃ st : ByteArray, st = ⟨cx.toArray⟩ := ⟨_, rfl⟩
  have hKC : ∀ W, Below w.heap.size w W → (convert 25 9 (.slice CA cx.length cc)).run Try.prog W = .ok (.string st) W := fun W hb => by rw [hst]; exact conv_by7 W CA _ cc cx (Sl.move hcx (Mv.of_below hb Any))
  clear hst
  have hRN := fun W (hb : Below w.heap.size w W) => run_yes (w := W) (ok := Any) cx CA cc (Sl.move hcx (Mv.of_below hb Any)) (by omega) IA ic pr (hin.move (Mv.of_below hb Any)) (by omega) hpm hc0 A ca l (Sl.move hl (Mv.of_below hb Any)) (by omega) hlv
  have hrc := (runTo_bounds pr cx l hpl hpm hlv).2
  have hRM : ∀ W, Below w.heap.size w W → (runTo pr cx l (pr.length + 1) vm0).2.calls.length ≤ l.length → ∀ (C : Option Addr) (cd : Nat), Wd W Any C (l.length + k.length) cd (l ++ k) → Calls Try.prog 13 #[.agg #[.int .i64 (cx.length : Int), .slice IA pr.length ic], .slice CA cx.length cc, .slice C (l.length + k.length) cd] W (RunPost W pr cx l) := fun W hb hle C cd hC => by
    have e := runTo_more pr cx l k (pr.length + 1) vm0 hle
    have ep : RunPost W pr cx (l ++ k) = RunPost W pr cx l := by unfold RunPost; rw [e]
    rw [← ep, ← List.length_append]
    rw [← List.length_append] at hC
    exact run_yes (w := W) (ok := Any) cx CA cc (Sl.move hcx (Mv.of_below hb Any)) (by omega) IA ic pr (hin.move (Mv.of_below hb Any)) (by omega) hpm hc0 C cd (l ++ k) hC (by rw [List.length_append]; omega) (fun v hv => by
      rcases List.mem_append.1 hv with h | h
      · exact hlv v h
      · exact hkv v h)
  have HRC := Lib.hid hrc; have HRN := Lib.hid hRN; have HRM := Lib.hid hRM; have HKC := Lib.hid hKC; have HL := Lib.hid hl; have HKK := Lib.hid hk
  clear hrc hRN hRM hKC hl hk hcx hin hpm hlv hkv hc0
  have hlp : ¬ (300 : Int) < pr.length := by omega
  have hlc : ¬ (300 : Int) < cx.length := by omega
  have hla : ¬ (20 : Int) < l.length := by omega
  have hlb : ¬ (20 : Int) < k.length := by omega
  have HG1 := Lib.hid G1; clear G1
  have HW1 := Lib.hid hW1; clear hW1
  have HKN := Lib.hid known_ok
  go_enter Try.func3, Try.ntmps3
  go_upto_region 1 with fail
  rw [← HW1.out]
  have kc := HKC.out W1 HG1.out.b
  go_upto_region 5 with (first | (go_at_call 13; (with_reducible refine (HRN.out _ HG1.out.b).mono ?_); rintro e W2 ⟨K2, rfl, hown2, hK2, hb2⟩; have HG2 := Lib.hid (HG1.out.more hb2); obtain ⟨A2, c2, rfl⟩ := own_shape hown2; have HO2 := Lib.hid hown2; clear hb2 hown2 hK2; obtain ⟨RL, HRL, HR1, HI, HL1, HI2, HRG⟩ := laid_run (W2 := W2) (A := A2) (c := c2) (s := (runTo pr cx l (pr.length + 1) vm0).2); rw [← HRL.out]) | (refine wpList_store_new rfl 34 (.tmp 8) (.tmp 44) rfl Try.zeroCells34 RL.toArray rfl rfl HI.out HL1.out HR1.out ?_))
  have HG3 := Lib.hid (HG2.out.al (.cells RL.toArray 34))
  have HO3 := Lib.hid (own_move HO2.out (fun k _ hlt => ((Below.refl W2.heap.size W2).alloc (Nat.le_refl _) (.cells RL.toArray 34)).block k hlt))
  have hrg := HRG.out
  generalize hW3 : W2.alloc (.cells RL.toArray 34) = W3 at HG3 HO3 hrg ⊢
  clear HRG c0 c1 d0 d1 kc
  have HW3 := Lib.hid hW3; clear hW3
  have HRG := Lib.hid hrg; clear hrg
  have c0 := HG3.out.p0
  have c1 := HG3.out.p1
  have d0 := HG3.out.q0
  have d1 := HG3.out.q1
  go_upto_region 6 with (first | (go_at_call 13; (with_reducible refine (HRN.out _ HG3.out.b).mono ?_); rintro e W4 ⟨K4, rfl, hown4, hK4, hb4⟩; have HB4 := Lib.hid hb4; have HG4 := Lib.hid (HG3.out.more hb4); obtain ⟨A4, c4, rfl⟩ := own_shape hown4; have HO4 := Lib.hid hown4; clear hb4 hown4 hK4; obtain ⟨RM, HRM1, HM1, HMI, HML, HMI2, HMG⟩ := laid_run (W2 := W4) (A := A4) (c := c4) (s := (runTo pr cx l (pr.length + 1) vm0).2); rw [← HRM1.out]) | (refine wpList_store_new rfl 34 (.tmp 10) (.tmp 52) rfl Try.zeroCells34 RM.toArray rfl rfl HMI.out HML.out HM1.out ?_))
  have hb45 : Below W4.heap.size W4 (W4.alloc (.cells RM.toArray 34)) := (Below.refl _ _).alloc (Nat.le_refl _) _
  have hb35 : Below W3.heap.size W3 (W4.alloc (.cells RM.toArray 34)) := HB4.out.trans (hb45.mono HB4.out.size)
  have HG5 := Lib.hid (HG4.out.more hb45)
  have HR5 := Lib.hid (rg_below HRG.out hb35)
  have HO5 := Lib.hid (own_move HO3.out (fun k _ hlt => hb35.block k hlt))
  have HP5 := Lib.hid (own_move HO4.out (fun k _ hlt => hb45.block k hlt))
  have hmg := HMG.out
  clear HMG hb45 hb35 c0 c1 d0 d1
  generalize hW5 : W4.alloc (.cells RM.toArray 34) = W5 at HG5 HR5 HO5 HP5 hmg ⊢
  clear hW5
  have HMG := Lib.hid hmg; clear hmg
  have c0 := HG5.out.p0
  have c1 := HG5.out.p1
  have d0 := HG5.out.q0
  have d1 := HG5.out.q1
  have HSR := Lib.hid (show Calls Try.prog 14 #[.agg RL.toArray, .agg RM.toArray] W5 fun e w' => e = .returned (.bool true) ∧ Below W5.heap.size W5 w' from by
    rw [HRL.out, HRM1.out]
    obtain ⟨q1, q2, q3, q4⟩ := Sl.of_own (ok := Any) HO5.out (fun _ _ _ => trivial)
    injection q3 with e1 e2 e3
    subst e1; subst e3
    obtain ⟨r1, r2, r3, r4⟩ := Sl.of_own (ok := Any) HP5.out (fun _ _ _ => trivial)
    injection r3 with e1 e2 e3
    subst e1; subst e3
    exact sameran_ok W5 _ _ _ _ _ q4 r4 HRC.out)
  go_upto_region 8 with (first | (refine wpList_valueg (o := ⟨some 58, _, _, _, _, _⟩) (w' := W5) (.agg RL.toArray) rfl (exec_load_mid 34 (.tmp 8) rfl W2.heap.size 0 rfl RL _ HR5.out Try.underlying34 rfl HI2.out) ?_) | (refine wpList_valueg (o := ⟨some 59, _, _, _, _, _⟩) (w' := W5) (.agg RM.toArray) rfl (exec_load_mid 34 (.tmp 10) rfl W4.heap.size 0 rfl RM _ HMG.out Try.underlying34 rfl HMI2.out) ?_) | (go_at_call 14; (with_reducible refine HSR.out.mono ?_); rintro e W6 ⟨rfl, hb6⟩; have HB6 := Lib.hid hb6; have HG6 := Lib.hid (HG5.out.more hb6); clear hb6; have kc := HKC.out W6 HG6.out.b))
  clear c0 c1 d0 d1 kc
  have c0 := HG6.out.p0
  have c1 := HG6.out.p1
  have d0 := HG6.out.q0
  have d1 := HG6.out.q1
  have HR6 := Lib.hid (rg_below HR5.out HB6.out)
  have HO6 := Lib.hid (own_move HO5.out (fun k _ hlt => HB6.out.block k hlt))
  have d4 : W6.cell? ⟨W2.heap.size, 4, none⟩ = some (.slice A2 (runTo pr cx l (pr.length + 1) vm0).2.calls.length c2) := HR6.out 4 _ (by rw [HRL.out]; rfl)
  clear HSR
  by_cases hq : (runTo pr cx l (pr.length + 1) vm0).2.calls.length ≤ l.length
  · have hq' : ¬ (l.length : Int) < (runTo pr cx l (pr.length + 1) vm0).2.calls.length := by omega
    go_upto_region 10 with fail
    clear c0 c1 d0 d1 d4
    have HX0 := Lib.hid (Bx.mk (Z := W6) (o := false) (g := 0) ((Below.refl W6.heap.size W6).drew) (fun e => by cases e))
    refine wp_region_noPanic ?_
    refine plan (.rd 0 (.rd 1 (.rd 2 (.rd 3 (.rd 5 (.rd 6 (.two 4 (.two 7 (.two 8 (.rd 9 (.rd 10 (.rd 11 (.eff 12 (.eff 13 (.eff 14 .done)))))) 12 (.eff 8 (.rd 9 (.rd 10 (.rd 11 (.eff 13 (.eff 14 .done))))))) 12 (.eff 7 (.eff 8 (.rd 9 (.rd 10 (.rd 11 (.eff 13 (.eff 14 .done)))))))) 12 (.eff 4 (.eff 7 (.eff 8 (.rd 9 (.rd 10 (.rd 11 (.eff 13 (.eff 14 .done))))))))))))))) [0, 1, 2, 3, 4, 5, 6, 7, 8, 9, 10, 11, 12, 13] (fun W => Below W6.heap.size W6 W) (by kernel_rfl) (by kernel_rfl) (fun _ _ _ _ _ h => h) HX0.out.b ?_
    refine pl_rd (.agg #[.int .i64 (cx.length : Int), .slice IA pr.length ic]) rfl rfl (fun W hS => ?_) (fun K hK => ?_)
    · have f0 := (Kp.of_below hS No).cell HG6.out.p0 (fun e => e)
      have f1 := (Kp.of_below hS No).cell HG6.out.p1 (fun e => e)
      simp [go_sem, f0, f1]
    go_simp
    refine hK _ ?_
    clear hK K
    repeat (refine pl_pure rfl (fun K hK => ?_); go_simp; refine hK _ ?_; clear hK K)
    refine pl_rd (.slice A l.length ca) rfl rfl (fun W hS => ?_) (fun K hK => ?_)
    · have f0 := (Kp.of_below hS No).cell HG6.out.q0 (fun e => e)
      simp [go_sem, f0]
    go_simp
    refine hK _ ?_
    clear hK K
    repeat (refine pl_pure rfl (fun K hK => ?_); go_simp; refine hK _ ?_; clear hK K)
    refine pl_rd (.slice B k.length cb) rfl rfl (fun W hS => ?_) (fun K hK => ?_)
    · have f0 := (Kp.of_below hS No).cell HG6.out.q1 (fun e => e)
      simp [go_sem, f0]
    go_simp
    refine hK _ ?_
    clear hK K
    refine pl_two ?_ ?_
    · refine pl_op rfl rfl (fun K hK => ?_)
      refine wp_append_sl (W6.drew) _ (.tmp 85) 26 rfl (W6.drew).heap.size 30 _ 1 4 Try.underlying26 info_w32 rfl (by omega) (by omega) (.slice none 0 0) 0 [] rfl (World.ownsRow_nil _ _ _ _) A l.length ca (l.map fun v : Nat => Value.int .u32 (v : Int)) rfl (Sl.move HL.out (Mv.of_below (HG6.out.b.trans (HX0.out.b.mono HG6.out.b.size)) Any)) (one32 l) (by omega) (Nat.le_refl _) ?_
      intro v6 w6 hown6 hg6 hat6
      rw [Nat.zero_add, List.nil_append] at hown6
      obtain ⟨VA, va, rfl⟩ := own_shape hown6
      have HX6 := Lib.hid (HX0.out.grown1 hg6)
      have hz6 : W6.heap.size ≤ (W6.drew).heap.size := HX0.out.b.size
      have HV6 := Lib.hid hown6
      have HZ6 := Lib.hid (show ∀ k, (Value.slice VA l.length va).ownBlock = some k → W6.heap.size ≤ k from fun k e => by have := (hown6.lt k e).1; omega)
      have HBS := Lib.hid (show (W6.drew).heap.size ≤ w6.heap.size from ((Kp.refl (fun _ => True) _).grown hg6 (fun _ _ => .inl trivial)).size)
      clear hown6 hg6 hat6
      refine hK _ _ (fun _ => HX6.out.b) ?_
      clear hK K
      refine pl_two ?_ ?_
      · refine pl_op rfl rfl (fun K hK => ?_)
        refine wp_append_sl (w6) (.tmp 86) (.tmp 88) 26 rfl ((W6.drew).heap.size) 30 _ 1 4 Try.underlying26 info_w32 rfl (by omega) (by omega) (.slice VA l.length va) l.length (l.map fun v : Nat => Value.int .u32 (v : Int)) rfl HV6.out B k.length cb (k.map fun v : Nat => Value.int .u32 (v : Int)) rfl (Sl.move HKK.out (Mv.of_below (HG6.out.b.trans (HX6.out.b.mono HG6.out.b.size)) Any)) (one32 k) (by omega) (HBS.out) ?_
        intro v7 w7 hown7 hg7 hat7
        obtain ⟨VB, vb, rfl⟩ := own_shape hown7
        have HX7 := Lib.hid (HX6.out.grown2 hg7 HZ6.out (fun e => by cases e))
        have HC7 : Hid (Wd w7 Any VB (l.length + k.length) vb (l ++ k)) := Lib.hid (by
          obtain ⟨q1, q2, q3, q4⟩ := Sl.of_own (ok := Any) hown7 (fun _ _ _ => trivial)
          injection q3 with e1 e2 e3
          subst e1; subst e3
          unfold Wd
          rw [List.map_append]
          exact q4)
        clear hown7 hg7 hat7
        refine hK _ _ (fun _ => HX7.out.b) ?_
        clear hK K
        refine pl_two ?_ ?_
        · refine pl_op rfl rfl (fun K hK => ?_)
          go_simp
          (with_reducible refine (HRM.out _ (HG6.out.b.trans (HX7.out.b.mono HG6.out.b.size)) hq _ _ HC7.out).mono ?_)
          rintro e W10 ⟨K10, rfl, hown10, hK10, hb10⟩
          have HX10 := Lib.hid (HX7.out.below hb10)
          obtain ⟨A10, c10, rfl⟩ := own_shape hown10
          have HU10 := Lib.hid hown10
          clear hb10 hown10 hK10
          obtain ⟨RN, HRN1, HN1, HNI, HNL, HNI2, HNG⟩ := laid_run (W2 := W10) (A := A10) (c := c10) (s := (runTo pr cx l (pr.length + 1) vm0).2)
          clear HNG
          rw [← HRN1.out]
          refine hK _ _ (fun _ => HX10.out.b) ?_
          clear hK K
          repeat (refine pl_pure rfl (fun K hK => ?_); go_simp; refine hK _ ?_; clear hK K)
          refine pl_eff rfl rfl (fun K hK => ?_)
          refine wp_value (w' := (W10).alloc (.cells Try.zeroCells34 34)) (.pointer (some ⟨(W10).heap.size, 0, none⟩)) (by kernel_rfl) ?_
          have HX9 := Lib.hid HX10.out.alloc
          have hb9 : Below (W10).heap.size (W10) ((W10).alloc (.cells Try.zeroCells34 34)) := (Below.refl _ _).alloc (Nat.le_refl _) _
          have HSW := Lib.hid hb9.size
          have HU9 := Lib.hid (own_move HU10.out (fun k _ hlt => hb9.block k hlt))
          have HNU := Lib.hid (show (Value.slice A10 (runTo pr cx l (pr.length + 1) vm0).2.calls.length c10).ownBlock ≠ some (W10).heap.size from fun e => by have := (HU10.out.lt _ e).2; omega)
          generalize hW9 : (W10).alloc (.cells Try.zeroCells34 34) = W9 at HX9 hb9 HSW HU9 HNU ⊢
          generalize hg9 : (W10).heap.size = g at HX9 hb9 HSW HU9 HNU ⊢
          clear hW9 hb9
          have hg9z := hg9; clear hg9
          refine hK _ _ (fun _ => HX9.out.b) ?_
          clear hK K
          obtain ⟨Wf, HWf, HRf, HBf, HUf⟩ := HX9.out.stored RN (by have := HNL.out; rw [size_ranz, List.size_toArray] at this; exact this.symm) HU9.out HNU.out
          refine pl_eff rfl rfl (fun K hK => ?_)
          refine wp_store_mid 34 (.tmp 12) (.tmp 91) rfl g 0 RN.toArray rfl rfl (by have := HNL.out; rw [size_ranz] at this; rw [← this]; exact HX9.out.there) (by have := HNI2.out; rw [List.size_toArray]; exact this) HN1.out ?_
          rw [← HWf.out]
          refine hK _ _ (fun _ => HBf.out) ?_
          clear hK K
          refine pl_eff rfl rfl (fun K hK => ?_)
          go_simp
          refine hK _ _ (fun h => by cases h) ?_
          clear hK K
          refine pl_done ?_
          refine NoPanic.normal ?_
          have HRg := Lib.hid (rg_below HR6.out HBf.out)
          have HOf := Lib.hid (own_move HO6.out (fun k _ hlt => HBf.out.block k hlt))
          have HSR := Lib.hid (show Calls Try.prog 14 #[.agg RL.toArray, .agg RN.toArray] Wf fun e w' => e = .returned (.bool true) ∧ Below Wf.heap.size Wf w' from by
            rw [HRL.out, HRN1.out]
            obtain ⟨q1, q2, q3, q4⟩ := Sl.of_own (ok := Any) HOf.out (fun _ _ _ => trivial)
            injection q3 with e1 e2 e3
            subst e1; subst e3
            obtain ⟨r1, r2, r3, r4⟩ := Sl.of_own (ok := Any) HUf.out (fun _ _ _ => trivial)
            injection r3 with e1 e2 e3
            subst e1; subst e3
            exact sameran_ok Wf _ _ _ _ _ q4 r4 HRC.out)
          go_wp2_with (first | (refine wpList_valueg (o := ⟨some 96, _, _, _, _, _⟩) (w' := Wf) (.agg RL.toArray) rfl (exec_load_mid 34 (.tmp 8) rfl W2.heap.size 0 rfl RL _ HRg.out Try.underlying34 rfl HI2.out) ?_) | (refine wpList_valueg (o := ⟨some 97, _, _, _, _, _⟩) (w' := Wf) (.agg RN.toArray) rfl (exec_load_mid 34 (.tmp 12) rfl g 0 rfl RN _ HRf.out Try.underlying34 rfl HNI2.out) ?_) | (go_at_call 14; (with_reducible refine HSR.out.mono ?_); rintro e W13 ⟨rfl, hb13⟩; have HB13 := Lib.hid hb13; clear hb13) | (go_at_call 12; (with_reducible refine (HKN.out _).mono ?_); rintro e W14 ⟨rfl, hb14⟩; have HB14 := Lib.hid hb14; clear hb14))
          go_ret
          have HGf := HG6.out.b.trans (HBf.out.mono HG6.out.b.size)
          have HGh := HGf.trans (HB13.out.mono HGf.size)
          exact ⟨rfl, HGh.trans (HB14.out.mono HGh.size)⟩
        · refine pl_op rfl rfl (fun K hK => ?_)
          refine wp_value (w' := (w7).alloc (.cells Try.zeroCells34 34)) (.pointer (some ⟨(w7).heap.size, 0, none⟩)) (by kernel_rfl) ?_
          have HX9 := Lib.hid HX7.out.alloc
          have hb9 : Below (w7).heap.size (w7) ((w7).alloc (.cells Try.zeroCells34 34)) := (Below.refl _ _).alloc (Nat.le_refl _) _
          have HSW := Lib.hid hb9.size
          have HC9 : Hid (Wd ((w7).alloc (.cells Try.zeroCells34 34)) Any VB (l.length + k.length) vb (l ++ k)) := Lib.hid (Sl.move HC7.out (Mv.of_below hb9 Any))
          generalize hW9 : (w7).alloc (.cells Try.zeroCells34 34) = W9 at HX9 hb9 HSW HC9 ⊢
          generalize hg9 : (w7).heap.size = g at HX9 hb9 HSW HC9 ⊢
          clear hW9 hb9
          have hg9z := hg9; clear hg9
          refine hK _ _ (fun _ => HX9.out.b) ?_
          clear hK K
          refine pl_eff rfl rfl (fun K hK => ?_)
          go_simp
          (with_reducible refine (HRM.out _ (HG6.out.b.trans (HX9.out.b.mono HG6.out.b.size)) hq _ _ HC9.out).mono ?_)
          rintro e W10 ⟨K10, rfl, hown10, hK10, hb10⟩
          have HX10 := Lib.hid (HX9.out.below hb10)
          have HNU := Lib.hid (show K10.ownBlock ≠ some g from fun e => by have := hK10 _ e; have := HX9.out.lt; omega)
          obtain ⟨A10, c10, rfl⟩ := own_shape hown10
          have HU10 := Lib.hid hown10
          clear hb10 hown10 hK10
          obtain ⟨RN, HRN1, HN1, HNI, HNL, HNI2, HNG⟩ := laid_run (W2 := W10) (A := A10) (c := c10) (s := (runTo pr cx l (pr.length + 1) vm0).2)
          clear HNG
          rw [← HRN1.out]
          refine hK _ _ (fun _ => HX10.out.b) ?_
          clear hK K
          repeat (refine pl_pure rfl (fun K hK => ?_); go_simp; refine hK _ ?_; clear hK K)
          obtain ⟨Wf, HWf, HRf, HBf, HUf⟩ := HX10.out.stored RN (by have := HNL.out; rw [size_ranz, List.size_toArray] at this; exact this.symm) HU10.out HNU.out
          refine pl_eff rfl rfl (fun K hK => ?_)
          refine wp_store_mid 34 (.tmp 12) (.tmp 91) rfl g 0 RN.toArray rfl rfl (by have := HNL.out; rw [size_ranz] at this; rw [← this]; exact HX10.out.there) (by have := HNI2.out; rw [List.size_toArray]; exact this) HN1.out ?_
          rw [← HWf.out]
          refine hK _ _ (fun _ => HBf.out) ?_
          clear hK K
          refine pl_eff rfl rfl (fun K hK => ?_)
          go_simp
          refine hK _ _ (fun h => by cases h) ?_
          clear hK K
          refine pl_done ?_
          refine NoPanic.normal ?_
          have HRg := Lib.hid (rg_below HR6.out HBf.out)
          have HOf := Lib.hid (own_move HO6.out (fun k _ hlt => HBf.out.block k hlt))
          have HSR := Lib.hid (show Calls Try.prog 14 #[.agg RL.toArray, .agg RN.toArray] Wf fun e w' => e = .returned (.bool true) ∧ Below Wf.heap.size Wf w' from by
            rw [HRL.out, HRN1.out]
            obtain ⟨q1, q2, q3, q4⟩ := Sl.of_own (ok := Any) HOf.out (fun _ _ _ => trivial)
            injection q3 with e1 e2 e3
            subst e1; subst e3
            obtain ⟨r1, r2, r3, r4⟩ := Sl.of_own (ok := Any) HUf.out (fun _ _ _ => trivial)
            injection r3 with e1 e2 e3
            subst e1; subst e3
            exact sameran_ok Wf _ _ _ _ _ q4 r4 HRC.out)
          go_wp2_with (first | (refine wpList_valueg (o := ⟨some 96, _, _, _, _, _⟩) (w' := Wf) (.agg RL.toArray) rfl (exec_load_mid 34 (.tmp 8) rfl W2.heap.size 0 rfl RL _ HRg.out Try.underlying34 rfl HI2.out) ?_) | (refine wpList_valueg (o := ⟨some 97, _, _, _, _, _⟩) (w' := Wf) (.agg RN.toArray) rfl (exec_load_mid 34 (.tmp 12) rfl g 0 rfl RN _ HRf.out Try.underlying34 rfl HNI2.out) ?_) | (go_at_call 14; (with_reducible refine HSR.out.mono ?_); rintro e W13 ⟨rfl, hb13⟩; have HB13 := Lib.hid hb13; clear hb13) | (go_at_call 12; (with_reducible refine (HKN.out _).mono ?_); rintro e W14 ⟨rfl, hb14⟩; have HB14 := Lib.hid hb14; clear hb14))
          go_ret
          have HGf := HG6.out.b.trans (HBf.out.mono HG6.out.b.size)
          have HGh := HGf.trans (HB13.out.mono HGf.size)
          exact ⟨rfl, HGh.trans (HB14.out.mono HGh.size)⟩
      · refine pl_op rfl rfl (fun K hK => ?_)
        refine wp_value (w' := (w6).alloc (.cells Try.zeroCells34 34)) (.pointer (some ⟨(w6).heap.size, 0, none⟩)) (by kernel_rfl) ?_
        have HX9 := Lib.hid HX6.out.alloc
        have hb9 : Below (w6).heap.size (w6) ((w6).alloc (.cells Try.zeroCells34 34)) := (Below.refl _ _).alloc (Nat.le_refl _) _
        have HSW := Lib.hid hb9.size
        have HV9 := Lib.hid (own_move HV6.out (fun k _ hlt => hb9.block k hlt))
        have HNE := Lib.hid (show (Value.slice VA l.length va).ownBlock ≠ some (w6).heap.size from fun e => by have := (HV6.out.lt _ e).2; omega)
        generalize hW9 : (w6).alloc (.cells Try.zeroCells34 34) = W9 at HX9 hb9 HSW HV9 HNE ⊢
        generalize hg9 : (w6).heap.size = g at HX9 hb9 HSW HV9 HNE ⊢
        clear hW9 hb9
        have hg9z := hg9; clear hg9
        refine hK _ _ (fun _ => HX9.out.b) ?_
        clear hK K
        have HBS := Lib.hid (show (W6.drew).heap.size ≤ W9.heap.size from by have h1 := HSW.out; have h2 := HBS.out; omega)
        refine pl_eff rfl rfl (fun K hK => ?_)
        refine wp_append_sl (W9) (.tmp 86) (.tmp 88) 26 rfl ((W6.drew).heap.size) 30 _ 1 4 Try.underlying26 info_w32 rfl (by omega) (by omega) (.slice VA l.length va) l.length (l.map fun v : Nat => Value.int .u32 (v : Int)) rfl HV9.out B k.length cb (k.map fun v : Nat => Value.int .u32 (v : Int)) rfl (Sl.move HKK.out (Mv.of_below (HG6.out.b.trans (HX9.out.b.mono HG6.out.b.size)) Any)) (one32 k) (by omega) (HBS.out) ?_
        intro v7 w7 hown7 hg7 hat7
        obtain ⟨VB, vb, rfl⟩ := own_shape hown7
        have HX7 := Lib.hid (HX9.out.grown2 hg7 HZ6.out (fun _ => HNE.out))
        have HC7 : Hid (Wd w7 Any VB (l.length + k.length) vb (l ++ k)) := Lib.hid (by
          obtain ⟨q1, q2, q3, q4⟩ := Sl.of_own (ok := Any) hown7 (fun _ _ _ => trivial)
          injection q3 with e1 e2 e3
          subst e1; subst e3
          unfold Wd
          rw [List.map_append]
          exact q4)
        clear hown7 hg7 hat7
        refine hK _ _ (fun _ => HX7.out.b) ?_
        clear hK K
        refine pl_eff rfl rfl (fun K hK => ?_)
        go_simp
        (with_reducible refine (HRM.out _ (HG6.out.b.trans (HX7.out.b.mono HG6.out.b.size)) hq _ _ HC7.out).mono ?_)
        rintro e W10 ⟨K10, rfl, hown10, hK10, hb10⟩
        have HX10 := Lib.hid (HX7.out.below hb10)
        have HNU := Lib.hid (show K10.ownBlock ≠ some g from fun e => by have := hK10 _ e; have := HX7.out.lt; omega)
        obtain ⟨A10, c10, rfl⟩ := own_shape hown10
        have HU10 := Lib.hid hown10
        clear hb10 hown10 hK10
        obtain ⟨RN, HRN1, HN1, HNI, HNL, HNI2, HNG⟩ := laid_run (W2 := W10) (A := A10) (c := c10) (s := (runTo pr cx l (pr.length + 1) vm0).2)
        clear HNG
        rw [← HRN1.out]
        refine hK _ _ (fun _ => HX10.out.b) ?_
        clear hK K
        repeat (refine pl_pure rfl (fun K hK => ?_); go_simp; refine hK _ ?_; clear hK K)
        obtain ⟨Wf, HWf, HRf, HBf, HUf⟩ := HX10.out.stored RN (by have := HNL.out; rw [size_ranz, List.size_toArray] at this; exact this.symm) HU10.out HNU.out
        refine pl_eff rfl rfl (fun K hK => ?_)
        refine wp_store_mid 34 (.tmp 12) (.tmp 91) rfl g 0 RN.toArray rfl rfl (by have := HNL.out; rw [size_ranz] at this; rw [← this]; exact HX10.out.there) (by have := HNI2.out; rw [List.size_toArray]; exact this) HN1.out ?_
        rw [← HWf.out]
        refine hK _ _ (fun _ => HBf.out) ?_
        clear hK K
        refine pl_eff rfl rfl (fun K hK => ?_)
        go_simp
        refine hK _ _ (fun h => by cases h) ?_
        clear hK K
        refine pl_done ?_
        refine NoPanic.normal ?_
        have HRg := Lib.hid (rg_below HR6.out HBf.out)
        have HOf := Lib.hid (own_move HO6.out (fun k _ hlt => HBf.out.block k hlt))
        have HSR := Lib.hid (show Calls Try.prog 14 #[.agg RL.toArray, .agg RN.toArray] Wf fun e w' => e = .returned (.bool true) ∧ Below Wf.heap.size Wf w' from by
          rw [HRL.out, HRN1.out]
          obtain ⟨q1, q2, q3, q4⟩ := Sl.of_own (ok := Any) HOf.out (fun _ _ _ => trivial)
          injection q3 with e1 e2 e3
          subst e1; subst e3
          obtain ⟨r1, r2, r3, r4⟩ := Sl.of_own (ok := Any) HUf.out (fun _ _ _ => trivial)
          injection r3 with e1 e2 e3
          subst e1; subst e3
          exact sameran_ok Wf _ _ _ _ _ q4 r4 HRC.out)
        go_wp2_with (first | (refine wpList_valueg (o := ⟨some 96, _, _, _, _, _⟩) (w' := Wf) (.agg RL.toArray) rfl (exec_load_mid 34 (.tmp 8) rfl W2.heap.size 0 rfl RL _ HRg.out Try.underlying34 rfl HI2.out) ?_) | (refine wpList_valueg (o := ⟨some 97, _, _, _, _, _⟩) (w' := Wf) (.agg RN.toArray) rfl (exec_load_mid 34 (.tmp 12) rfl g 0 rfl RN _ HRf.out Try.underlying34 rfl HNI2.out) ?_) | (go_at_call 14; (with_reducible refine HSR.out.mono ?_); rintro e W13 ⟨rfl, hb13⟩; have HB13 := Lib.hid hb13; clear hb13) | (go_at_call 12; (with_reducible refine (HKN.out _).mono ?_); rintro e W14 ⟨rfl, hb14⟩; have HB14 := Lib.hid hb14; clear hb14))
        go_ret
        have HGf := HG6.out.b.trans (HBf.out.mono HG6.out.b.size)
        have HGh := HGf.trans (HB13.out.mono HGf.size)
        exact ⟨rfl, HGh.trans (HB14.out.mono HGh.size)⟩
    · refine pl_op rfl rfl (fun K hK => ?_)
      refine wp_value (w' := (W6.drew).alloc (.cells Try.zeroCells34 34)) (.pointer (some ⟨(W6.drew).heap.size, 0, none⟩)) (by kernel_rfl) ?_
      have HX9 := Lib.hid HX0.out.alloc
      have hb9 : Below (W6.drew).heap.size (W6.drew) ((W6.drew).alloc (.cells Try.zeroCells34 34)) := (Below.refl _ _).alloc (Nat.le_refl _) _
      have HSW := Lib.hid hb9.size
      generalize hW9 : (W6.drew).alloc (.cells Try.zeroCells34 34) = W9 at HX9 hb9 HSW ⊢
      generalize hg9 : (W6.drew).heap.size = g at HX9 hb9 HSW ⊢
      clear hW9 hb9
      have hg9z := hg9; clear hg9
      refine hK _ _ (fun _ => HX9.out.b) ?_
      clear hK K
      refine pl_eff rfl rfl (fun K hK => ?_)
      refine wp_append_sl (W9) _ (.tmp 85) 26 rfl (W9).heap.size 30 _ 1 4 Try.underlying26 info_w32 rfl (by omega) (by omega) (.slice none 0 0) 0 [] rfl (World.ownsRow_nil _ _ _ _) A l.length ca (l.map fun v : Nat => Value.int .u32 (v : Int)) rfl (Sl.move HL.out (Mv.of_below (HG6.out.b.trans (HX9.out.b.mono HG6.out.b.size)) Any)) (one32 l) (by omega) (Nat.le_refl _) ?_
      intro v6 w6 hown6 hg6 hat6
      rw [Nat.zero_add, List.nil_append] at hown6
      obtain ⟨VA, va, rfl⟩ := own_shape hown6
      have HX6 := Lib.hid (HX9.out.grown1 hg6)
      have hz6 : W6.heap.size ≤ (W9).heap.size := HX9.out.b.size
      have HNE := Lib.hid (show (Value.slice VA l.length va).ownBlock ≠ some g from fun e => by have := (hown6.lt g e).1; have := HX9.out.lt; omega)
      have HV6 := Lib.hid hown6
      have HZ6 := Lib.hid (show ∀ k, (Value.slice VA l.length va).ownBlock = some k → W6.heap.size ≤ k from fun k e => by have := (hown6.lt k e).1; omega)
      have HBS := Lib.hid (show (W9).heap.size ≤ w6.heap.size from ((Kp.refl (fun _ => True) _).grown hg6 (fun _ _ => .inl trivial)).size)
      clear hown6 hg6 hat6
      refine hK _ _ (fun _ => HX6.out.b) ?_
      clear hK K
      refine pl_eff rfl rfl (fun K hK => ?_)
      refine wp_append_sl (w6) (.tmp 86) (.tmp 88) 26 rfl ((W9).heap.size) 30 _ 1 4 Try.underlying26 info_w32 rfl (by omega) (by omega) (.slice VA l.length va) l.length (l.map fun v : Nat => Value.int .u32 (v : Int)) rfl HV6.out B k.length cb (k.map fun v : Nat => Value.int .u32 (v : Int)) rfl (Sl.move HKK.out (Mv.of_below (HG6.out.b.trans (HX6.out.b.mono HG6.out.b.size)) Any)) (one32 k) (by omega) (HBS.out) ?_
      intro v7 w7 hown7 hg7 hat7
      obtain ⟨VB, vb, rfl⟩ := own_shape hown7
      have HX7 := Lib.hid (HX6.out.grown2 hg7 HZ6.out (fun _ => HNE.out))
      have HC7 : Hid (Wd w7 Any VB (l.length + k.length) vb (l ++ k)) := Lib.hid (by
        obtain ⟨q1, q2, q3, q4⟩ := Sl.of_own (ok := Any) hown7 (fun _ _ _ => trivial)
        injection q3 with e1 e2 e3
        subst e1; subst e3
        unfold Wd
        rw [List.map_append]
        exact q4)
      clear hown7 hg7 hat7
      refine hK _ _ (fun _ => HX7.out.b) ?_
      clear hK K
      refine pl_eff rfl rfl (fun K hK => ?_)
      go_simp
      (with_reducible refine (HRM.out _ (HG6.out.b.trans (HX7.out.b.mono HG6.out.b.size)) hq _ _ HC7.out).mono ?_)
      rintro e W10 ⟨K10, rfl, hown10, hK10, hb10⟩
      have HX10 := Lib.hid (HX7.out.below hb10)
      have HNU := Lib.hid (show K10.ownBlock ≠ some g from fun e => by have := hK10 _ e; have := HX7.out.lt; omega)
      obtain ⟨A10, c10, rfl⟩ := own_shape hown10
      have HU10 := Lib.hid hown10
      clear hb10 hown10 hK10
      obtain ⟨RN, HRN1, HN1, HNI, HNL, HNI2, HNG⟩ := laid_run (W2 := W10) (A := A10) (c := c10) (s := (runTo pr cx l (pr.length + 1) vm0).2)
      clear HNG
      rw [← HRN1.out]
      refine hK _ _ (fun _ => HX10.out.b) ?_
      clear hK K
      repeat (refine pl_pure rfl (fun K hK => ?_); go_simp; refine hK _ ?_; clear hK K)
      obtain ⟨Wf, HWf, HRf, HBf, HUf⟩ := HX10.out.stored RN (by have := HNL.out; rw [size_ranz, List.size_toArray] at this; exact this.symm) HU10.out HNU.out
      refine pl_eff rfl rfl (fun K hK => ?_)
      refine wp_store_mid 34 (.tmp 12) (.tmp 91) rfl g 0 RN.toArray rfl rfl (by have := HNL.out; rw [size_ranz] at this; rw [← this]; exact HX10.out.there) (by have := HNI2.out; rw [List.size_toArray]; exact this) HN1.out ?_
      rw [← HWf.out]
      refine hK _ _ (fun _ => HBf.out) ?_
      clear hK K
      refine pl_eff rfl rfl (fun K hK => ?_)
      go_simp
      refine hK _ _ (fun h => by cases h) ?_
      clear hK K
      refine pl_done ?_
      refine NoPanic.normal ?_
      have HRg := Lib.hid (rg_below HR6.out HBf.out)
      have HOf := Lib.hid (own_move HO6.out (fun k _ hlt => HBf.out.block k hlt))
      have HSR := Lib.hid (show Calls Try.prog 14 #[.agg RL.toArray, .agg RN.toArray] Wf fun e w' => e = .returned (.bool true) ∧ Below Wf.heap.size Wf w' from by
        rw [HRL.out, HRN1.out]
        obtain ⟨q1, q2, q3, q4⟩ := Sl.of_own (ok := Any) HOf.out (fun _ _ _ => trivial)
        injection q3 with e1 e2 e3
        subst e1; subst e3
        obtain ⟨r1, r2, r3, r4⟩ := Sl.of_own (ok := Any) HUf.out (fun _ _ _ => trivial)
        injection r3 with e1 e2 e3
        subst e1; subst e3
        exact sameran_ok Wf _ _ _ _ _ q4 r4 HRC.out)
      go_wp2_with (first | (refine wpList_valueg (o := ⟨some 96, _, _, _, _, _⟩) (w' := Wf) (.agg RL.toArray) rfl (exec_load_mid 34 (.tmp 8) rfl W2.heap.size 0 rfl RL _ HRg.out Try.underlying34 rfl HI2.out) ?_) | (refine wpList_valueg (o := ⟨some 97, _, _, _, _, _⟩) (w' := Wf) (.agg RN.toArray) rfl (exec_load_mid 34 (.tmp 12) rfl g 0 rfl RN _ HRf.out Try.underlying34 rfl HNI2.out) ?_) | (go_at_call 14; (with_reducible refine HSR.out.mono ?_); rintro e W13 ⟨rfl, hb13⟩; have HB13 := Lib.hid hb13; clear hb13) | (go_at_call 12; (with_reducible refine (HKN.out _).mono ?_); rintro e W14 ⟨rfl, hb14⟩; have HB14 := Lib.hid hb14; clear hb14))
      go_ret
      have HGf := HG6.out.b.trans (HBf.out.mono HG6.out.b.size)
      have HGh := HGf.trans (HB13.out.mono HGf.size)
      exact ⟨rfl, HGh.trans (HB14.out.mono HGh.size)⟩
  · have hq' : (l.length : Int) < (runTo pr cx l (pr.length + 1) vm0).2.calls.length := by omega
    go_wp2_with (go_at_call 12; (with_reducible refine (HKN.out _).mono ?_); rintro e W14 ⟨rfl, hb14⟩; have HB14 := Lib.hid hb14; clear hb14)
    go_ret
    exact ⟨rfl, HG6.out.b.trans (HB14.out.mono HG6.out.b.size)⟩
set_option maxRecDepth 100000 in
set_option maxHeartbeats 4000000 in
theorem vmagain_bad (w : World) (ctx : Int) (IA : Option Addr) (ic : Nat) (pr : List InsZ) (hin : Sl w Any 5 IA pr.length ic (pr.flatMap insZC)) (hpl : pr.length ≤ 300)
    (cx : List UInt8) (CA : Option Addr) (cc : Nat) (hcx : By w Any CA cx.length cc cx) (hcl : cx.length ≤ 300) (A : Option Addr) (ca : Nat) (l : List Nat) (hl : Wd w Any A l.length ca l) (hll : l.length ≤ 20) (hlv : ∀ v, v ∈ l → v < 4294967296) (B : Option Addr) (cb : Nat) (k : List Nat) (hk : Wd w Any B k.length cb k) (hkl : k.length ≤ 20) (hkv : ∀ v, v ∈ k → v < 4294967296)
    (h : checkN ctx pr ≠ 0 ∨ (cx.length : Int) ≠ ctx) :
    Calls Try.prog 3 #[.agg #[.int .i64 ctx, .slice IA pr.length ic], .slice CA cx.length cc, .agg #[.slice A l.length ca, .slice B k.length cb]] w fun e w' => e = .returned (.bool true) ∧ Below w.heap.size w w' := by
  obtain ⟨W1, hW1⟩ : ∃ W1, W1 = ((w.alloc (.cells #[.int .i64 ctx, .slice IA pr.length ic] 24)).alloc (.cells #[.slice A l.length ca, .slice B k.length cb] 27)) := ⟨_, rfl⟩
  have G1 : Aw w (.int .i64 ctx) (.slice IA pr.length ic) (.slice A l.length ca) (.slice B k.length cb) W1 := by rw [hW1]; exact Aw.start w _ _ _ _
  have c0 := G1.p0
  have c1 := G1.p1
  have d0 := G1.q0
  have d1 := G1.q1
  obtain ⟨st, hst⟩ : ∃ st : ByteArray, st = ⟨cx.toArray⟩ := ⟨_, rfl⟩
  have hKC : ∀ W, Below w.heap.size w W → (convert 25 9 (.slice CA cx.length cc)).run Try.prog W = .ok (.string st) W := fun W hb => by rw [hst]; exact conv_by7 W CA _ cc cx (Sl.move hcx (Mv.of_below hb Any))
  clear hst
  have hRN : ∀ W, Below w.heap.size w W → Calls Try.prog 13 #[.agg #[.int .i64 ctx, .slice IA pr.length ic], .slice CA cx.length cc, .slice A l.length ca] W fun e w' => e = .returned (.tuple #[.agg (ranL (.slice none vm0.calls.length 0) vm0).toArray, .int .i64 2]) ∧ Below W.heap.size W w' := fun W hb => by
    rw [← ranz_is2]
    exact run_no (w := W) (ok := Any) ctx IA ic pr (hin.move (Mv.of_below hb Any)) (by omega) CA cx.length cc (.slice A l.length ca) h
  have HRN := Lib.hid hRN; have HKC := Lib.hid hKC
  clear hRN hKC hl hk hcx hin hlv hkv h
  have hlp : ¬ (300 : Int) < pr.length := by omega
  have hlc : ¬ (300 : Int) < cx.length := by omega
  have hla : ¬ (20 : Int) < l.length := by omega
  have hlb : ¬ (20 : Int) < k.length := by omega
  have HG1 := Lib.hid G1; clear G1
  have HW1 := Lib.hid hW1; clear hW1
  have HKN := Lib.hid known_ok
  go_enter Try.func3, Try.ntmps3
  go_upto_region 1 with fail
  rw [← HW1.out]
  have kc := HKC.out W1 HG1.out.b
  go_upto_region 5 with (first | (go_at_call 13; (with_reducible refine (HRN.out _ HG1.out.b).mono ?_); rintro e W2 ⟨rfl, hb2⟩; have HG2 := Lib.hid (HG1.out.more hb2); clear hb2; obtain ⟨RL, HRL, HR1, HI, HL1, HI2, HRG⟩ := laid_run (W2 := W2) (A := none) (c := 0) (s := vm0); rw [← HRL.out]) | (refine wpList_store_new rfl 34 (.tmp 8) (.tmp 44) rfl Try.zeroCells34 RL.toArray rfl rfl HI.out HL1.out HR1.out ?_))
  have HG3 := Lib.hid (HG2.out.al (.cells RL.toArray 34))
  have hrg := HRG.out
  generalize hW3 : W2.alloc (.cells RL.toArray 34) = W3 at HG3 hrg ⊢
  clear HRG c0 c1 d0 d1 kc
  have HW3 := Lib.hid hW3; clear hW3
  have HRG := Lib.hid hrg; clear hrg
  have c0 := HG3.out.p0
  have c1 := HG3.out.p1
  have d0 := HG3.out.q0
  have d1 := HG3.out.q1
  go_upto_region 6 with (first | (go_at_call 13; (with_reducible refine (HRN.out _ HG3.out.b).mono ?_); rintro e W4 ⟨rfl, hb4⟩; have HB4 := Lib.hid hb4; have HG4 := Lib.hid (HG3.out.more hb4); clear hb4; obtain ⟨RM, HRM1, HM1, HMI, HML, HMI2, HMG⟩ := laid_run (W2 := W4) (A := none) (c := 0) (s := vm0); rw [← HRM1.out]) | (refine wpList_store_new rfl 34 (.tmp 10) (.tmp 52) rfl Try.zeroCells34 RM.toArray rfl rfl HMI.out HML.out HM1.out ?_))
  have hb45 : Below W4.heap.size W4 (W4.alloc (.cells RM.toArray 34)) := (Below.refl _ _).alloc (Nat.le_refl _) _
  have hb35 : Below W3.heap.size W3 (W4.alloc (.cells RM.toArray 34)) := HB4.out.trans (hb45.mono HB4.out.size)
  have HG5 := Lib.hid (HG4.out.more hb45)
  have HR5 := Lib.hid (rg_below HRG.out hb35)
  have hmg := HMG.out
  clear HMG hb45 hb35 c0 c1 d0 d1
  generalize hW5 : W4.alloc (.cells RM.toArray 34) = W5 at HG5 HR5 hmg ⊢
  clear hW5
  have HMG := Lib.hid hmg; clear hmg
  have c0 := HG5.out.p0
  have c1 := HG5.out.p1
  have d0 := HG5.out.q0
  have d1 := HG5.out.q1
  have HSR := Lib.hid (show Calls Try.prog 14 #[.agg RL.toArray, .agg RM.toArray] W5 fun e w' => e = .returned (.bool true) ∧ Below W5.heap.size W5 w' from by
    rw [HRL.out, HRM1.out]
    exact sameran_ok W5 (okA := Any) (okB := Any) none none 0 0 vm0 (Sl.nil _ _ _) (Sl.nil _ _ _) (by simp [vm0]))
  go_upto_region 8 with (first | (refine wpList_valueg (o := ⟨some 58, _, _, _, _, _⟩) (w' := W5) (.agg RL.toArray) rfl (exec_load_mid 34 (.tmp 8) rfl W2.heap.size 0 rfl RL _ HR5.out Try.underlying34 rfl HI2.out) ?_) | (refine wpList_valueg (o := ⟨some 59, _, _, _, _, _⟩) (w' := W5) (.agg RM.toArray) rfl (exec_load_mid 34 (.tmp 10) rfl W4.heap.size 0 rfl RM _ HMG.out Try.underlying34 rfl HMI2.out) ?_) | (go_at_call 14; (with_reducible refine HSR.out.mono ?_); rintro e W6 ⟨rfl, hb6⟩; have HB6 := Lib.hid hb6; have HG6 := Lib.hid (HG5.out.more hb6); clear hb6; have kc := HKC.out W6 HG6.out.b))
  clear c0 c1 d0 d1 kc
  go_wp2_with (go_at_call 12; (with_reducible refine (HKN.out _).mono ?_); rintro e W14 ⟨rfl, hb14⟩; have HB14 := Lib.hid hb14; clear hb14)
  go_ret
  exact ⟨rfl, HG6.out.b.trans (HB14.out.mono HG6.out.b.size)⟩
set_option maxRecDepth 100000 in
set_option maxHeartbeats 4000000 in
theorem vmagain_big (w : World) (ctx : Int) (IA : Option Addr) (ic pl : Nat) (CA : Option Addr) (cl cc : Nat) (A : Option Addr) (al ca : Nat) (B : Option Addr) (bl cb : Nat) (h : 300 < pl ∨ 300 < cl ∨ 20 < al ∨ 20 < bl) :
    Calls Try.prog 3 #[.agg #[.int .i64 ctx, .slice IA pl ic], .slice CA cl cc, .agg #[.slice A al ca, .slice B bl cb]] w fun e w' => e = .returned (.bool true) ∧ Below w.heap.size w w' := by
  have HKN := Lib.hid known_ok
  have HAW := Lib.hid (Aw.start w (.int .i64 ctx) (.slice IA pl ic) (.slice A al ca) (.slice B bl cb))
  by_cases h1 : 300 < pl
  · have h1x : (300 : Int) < pl := by omega
    clear h
    go_enter Try.func3, Try.ntmps3
    go_wp2_with (go_at_call 12; (with_reducible refine (HKN.out _).mono ?_); rintro e W14 ⟨rfl, hb14⟩; have HB14 := Lib.hid hb14; clear hb14)
    go_ret
    exact ⟨rfl, HAW.out.b.trans (HB14.out.mono HAW.out.b.size)⟩
  have h1x : ¬ (300 : Int) < pl := by omega
  by_cases h2 : 300 < cl
  · have h2x : (300 : Int) < cl := by omega
    clear h
    go_enter Try.func3, Try.ntmps3
    go_wp2_with (go_at_call 12; (with_reducible refine (HKN.out _).mono ?_); rintro e W14 ⟨rfl, hb14⟩; have HB14 := Lib.hid hb14; clear hb14)
    go_ret
    exact ⟨rfl, HAW.out.b.trans (HB14.out.mono HAW.out.b.size)⟩
  have h2x : ¬ (300 : Int) < cl := by omega
  by_cases h3 : 20 < al
  · have h3x : (20 : Int) < al := by omega
    clear h
    go_enter Try.func3, Try.ntmps3
    go_wp2_with (go_at_call 12; (with_reducible refine (HKN.out _).mono ?_); rintro e W14 ⟨rfl, hb14⟩; have HB14 := Lib.hid hb14; clear hb14)
    go_ret
    exact ⟨rfl, HAW.out.b.trans (HB14.out.mono HAW.out.b.size)⟩
  have h3x : ¬ (20 : Int) < al := by omega
  have h4 : 20 < bl := by omega
  have h4x : (20 : Int) < bl := by omega
  clear h
  go_enter Try.func3, Try.ntmps3
  go_wp2_with (go_at_call 12; (with_reducible refine (HKN.out _).mono ?_); rintro e W14 ⟨rfl, hb14⟩; have HB14 := Lib.hid hb14; clear hb14)
  go_ret
  exact ⟨rfl, HAW.out.b.trans (HB14.out.mono HAW.out.b.size)⟩
/-- The law, for whatever it is handed. -/
theorem vmagain_ok (w : World) (ctx : Int) (IA : Option Addr) (ic : Nat) (pr : List InsZ) (hin : Sl w Any 5 IA pr.length ic (pr.flatMap insZC)) (cx : List UInt8) (CA : Option Addr) (cc : Nat) (hcx : By w Any CA cx.length cc cx)
    (A : Option Addr) (ca : Nat) (l : List Nat) (hl : Wd w Any A l.length ca l) (hlv : ∀ v, v ∈ l → v < 4294967296) (B : Option Addr) (cb : Nat) (k : List Nat) (hk : Wd w Any B k.length cb k) (hkv : ∀ v, v ∈ k → v < 4294967296) :
    Calls Try.prog 3 #[.agg #[.int .i64 ctx, .slice IA pr.length ic], .slice CA cx.length cc, .agg #[.slice A l.length ca, .slice B k.length cb]] w fun e w' => e = .returned (.bool true) ∧ Below w.heap.size w w' := by
  by_cases hb : 300 < pr.length ∨ 300 < cx.length ∨ 20 < l.length ∨ 20 < k.length
  · exact vmagain_big w ctx IA ic pr.length CA cx.length cc A l.length ca B k.length cb hb
  by_cases hg : checkN ctx pr = 0 ∧ (cx.length : Int) = ctx
  · obtain ⟨hg1, rfl⟩ := hg
    obtain ⟨p8, rfl, h1, h2⟩ := check_ins hg1
    rw [List.length_map] at hin hb ⊢
    rw [flat_z] at hin
    exact vmagain_good w IA ic p8 hin (by omega) h1 cx CA cc hcx (by omega) A ca l hl (by omega) hlv B cb k hk (by omega) hkv hg1
  · exact vmagain_bad w ctx IA ic pr hin (by omega) cx CA cc hcx (by omega) A ca l hl (by omega) hlv B cb k hk (by omega) hkv (by
      by_cases e : checkN ctx pr = 0
      · exact .inr (fun e2 => hg ⟨e, e2⟩)
      · exact .inl e)
end
open Go.ChangeShapes Go.WideShapes Go.ChangeAt Go.RowKit Go.Deep
set_option maxRecDepth 100000

set_option maxRecDepth 100000 in
theorem vmAgain_lifted (os : Os) (started : os.Started) (H : Type) (enc : TypeId × Value → H) :
    ReturnsInHanded {} Try.checked os 3 .any (Rows.vmAgainSpec.pre6 enc Try.prog Try.f3 Rows.vmAgainRow.domain false) (Rows.vmAgainSpec.post enc Try.prog Try.f3 false true false false) := by
  refine returnsInHanded_of_change (C := Try.checked) own08 started (by kernel_rfl) Try.func3
    (ChangeSpec.witness6 (enc := enc) (C := Try.checked) false ⟨#[], #[.agg #[.int .i64 0, .slice none 0 0], .slice none 0 0, .agg #[.slice none 0 0, .slice none 0 0]], []⟩ 8 (by kernel_rfl) (by kernel_rfl) (by kernel_rfl) (by kernel_rfl)) ?_
  intro W base args ds gs before hval0 hW hcnd _
  have hval : ∀ (j : Nat) t v, Try.f3.params[j]? = some t → args[j]? = some v → Value.okWide Try.prog W .any base t v := hval0
  have hW' := hW
  obtain ⟨p, q, hA0, hV, rfl, hfz, hnd⟩ := hW
  have hA : DataW.TrodAll enc Try.prog W 0 (fun _ => true) true Try.f3.params.toList args.toList ds p := hA0
  rw [Try.params3] at hA hval
  obtain ⟨v0, vs0, d0, ds0, p0, q0, hargs, rfl, rfl, h0, r0⟩ := trodAll_cons hA
  obtain ⟨v1, vs1, d1, ds1, p1, q1, rfl, rfl, rfl, h1, r1⟩ := trodAll_cons r0
  obtain ⟨v2, vs2, d2, ds2, p2, q2, rfl, rfl, rfl, h2, r2⟩ := trodAll_cons r1
  obtain ⟨rfl, rfl, rfl⟩ := trodAll_nil r2
  obtain rfl : args = #[v0, v1, v2] := by cases args; simp_all
  obtain ⟨rfl, rfl⟩ := trodVars_none hV
  have k0h := h0
  have lt0 : ∀ x ∈ p0, x.block < W.heap.size := by obtain ⟨m, hm⟩ := k0h; exact DataW.trod_lt m _ _ _ hm
  have k1h := h1
  have lt1 : ∀ x ∈ p1, x.block < W.heap.size := by obtain ⟨m, hm⟩ := k1h; exact DataW.trod_lt m _ _ _ hm
  have k2h := h2
  have lt2 : ∀ x ∈ p2, x.block < W.heap.size := by obtain ⟨m, hm⟩ := k2h; exact DataW.trod_lt m _ _ _ hm
  obtain ⟨a0, A0, xs0, c0, rfl, s0, m0, w0⟩ := prog_in (hval 0 _ v0 rfl rfl) h0
  obtain ⟨A1, l1, c1, rfl, s1⟩ := bytes_in (hval 1 _ v1 rfl rfl) h1
  obtain ⟨A2, l2, c2, B2, k2, e2, rfl, s2, m2, t2, n2⟩ := twos_in (hval 2 _ v2 rfl rfl) h2
  clear hA0 hval0
  refine (vmagain_ok W a0 A0 c0 xs0 s0 l1 A1 c1 s1 A2 c2 l2 s2 m2 B2 e2 k2 t2 n2).mono fun e W' ⟨he, bel⟩ => ?_
  subst he
  exact ⟨_, rfl, _, _, _, [], _, [], hW', trodAll_mk1 (shut_bool Try.underlying4 _), (trodAll_cons_mk (Below.trod laidOut08 (by kernel_rfl) (of_decide_eq_true (by kernel_rfl)) k0h bel lt0) (trodAll_cons_mk (Below.trod laidOut08 (by kernel_rfl) (of_decide_eq_true (by kernel_rfl)) k1h bel lt1) (trodAll_cons_mk (Below.trod laidOut08 (by kernel_rfl) (of_decide_eq_true (by kernel_rfl)) k2h bel lt2) trodAll_mk0))), rfl, bel.frame _, fun h => by cases h⟩

theorem vmAgain_over : Rows.vmAgainRow.holds Try.pinned (OpenSpec.ofChange Rows.vmAgainSpec) :=
  OpenClaim.holds_of_wide 3 Try.f3 rfl rfl rfl rfl rfl rfl rfl ⟨rfl, rfl, rfl, rfl, rfl⟩ rfl rfl rfl rfl rfl (by kernel_rfl) Try.func3 (by kernel_rfl)
    (of_decide_eq_true (by kernel_rfl)) (by unfold Func.isWrapper; first | (rw [if_pos (by decide +kernel)]; kernel_rfl) | (rw [if_neg (by decide +kernel)]; exact ⟨rfl, rfl⟩))
    (fun os started H enc _ => vmAgain_lifted os started H enc)

theorem vmAgain_holds : Rows.VmAgainSaid := vmAgain_over
end Go.Proofs.Ytpnkbpjhbmacaaa
