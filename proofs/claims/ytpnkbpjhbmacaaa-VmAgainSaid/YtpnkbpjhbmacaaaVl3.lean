/- The law: what a run comes to. -/
import Derived.Test.YtpnkbpjhbmacaaaVl2
set_option linter.unusedVariables false
set_option linter.unusedSimpArgs false
namespace Go.Proofs.Ytpnkbpjhbmacaaa
open Go.RowKit

theorem may_shift {i : Ins8} (h : mayB i.z = true) : i.op = 12 ∨ i.op = 13 → i.imm ≤ 31 := fun ho => by
  obtain ⟨op, dst, src, off, imm⟩ := i
  simp only [mayB, mayN, Bool.and_eq_true] at h
  have h6 := h.2.2.2.2.2
  rcases ho with e | e
  · have e' : op = 12 := e
    subst e'
    exact of_decide_eq_true h6
  · have e' : op = 13 := e
    subst e'
    exact of_decide_eq_true h6
theorem all_ins : ∀ (pr : List InsZ), pr.all mayB = true → ∃ p8 : List Ins8, pr = p8.map Ins8.z ∧ (∀ i, i ∈ p8 → i.May) ∧ ∀ i, i ∈ p8 → i.op = 12 ∨ i.op = 13 → i.imm ≤ 31
  | [], _ => ⟨[], rfl, fun _ h => by simp at h, fun _ h => by simp at h⟩
  | i :: pr, h => by
    simp only [List.all_cons, Bool.and_eq_true] at h
    obtain ⟨p8, rfl, h1, h2⟩ := all_ins pr h.2
    obtain ⟨j, hj, hm⟩ := may_ins h.1
    subst hj
    refine ⟨j :: p8, rfl, fun k hk => ?_, fun k hk => ?_⟩
    · rcases List.mem_cons.1 hk with rfl | hk
      · exact hm
      · exact h1 k hk
    · rcases List.mem_cons.1 hk with rfl | hk
      · exact may_shift h.1
      · exact h2 k hk
theorem check_ins {ctx : Int} {pr : List InsZ} (h : checkN ctx pr = 0) : ∃ p8 : List Ins8, pr = p8.map Ins8.z ∧ (∀ i, i ∈ p8 → i.May) ∧ ∀ i, i ∈ p8 → i.op = 12 ∨ i.op = 13 → i.imm ≤ 31 := by
  refine all_ins pr ?_
  unfold checkN at h
  split at h
  · cases h
  · split at h
    · cases h
    · rename_i h2
      simpa using h2
theorem runTo_len (pr : List Ins8) (cx : List UInt8) (ans : List Nat) : ∀ (m : Nat) (s : Vm), (runTo pr cx ans m s).1.length ≤ m
  | 0, s => by simp [runTo]
  | m + 1, s => by
    rw [runTo_succ]
    split
    · simp
    · have := runTo_len pr cx ans m (stepV pr cx ans s).1
      simp; exact this
theorem runTo_calls (pr : List Ins8) (cx : List UInt8) (ans : List Nat) (hpm : ∀ i, i ∈ pr → i.May) (hav : ∀ v, v ∈ ans → v < 4294967296) : ∀ (m : Nat) (s : Vm) (k : Nat), RI s k → (runTo pr cx ans m s).2.calls.length ≤ k + m
  | 0, s, k, h => by have := h.cl; simp [runTo]; exact this
  | m + 1, s, k, h => by
    rw [runTo_succ]
    have hn := h.next (cx := cx) hpm hav
    split
    · show (stepV pr cx ans s).1.calls.length ≤ k + (m + 1)
      have := hn.1; omega
    · rename_i hf
      have := runTo_calls pr cx ans hpm hav m (stepV pr cx ans s).1 (k + 1) (hn.2 (by simpa using hf))
      show (runTo pr cx ans m (stepV pr cx ans s).1).2.calls.length ≤ k + (m + 1)
      omega
theorem runTo_bounds (pr : List Ins8) (cx : List UInt8) (ans : List Nat) (hpl : pr.length ≤ 300) (hpm : ∀ i, i ∈ pr → i.May) (hav : ∀ v, v ∈ ans → v < 4294967296) :
    (runTo pr cx ans (pr.length + 1) vm0).1.length ≤ 10000 ∧ (runTo pr cx ans (pr.length + 1) vm0).2.calls.length ≤ 1000 := by
  have h1 := runTo_len pr cx ans (pr.length + 1) vm0
  have h2 := runTo_calls pr cx ans hpm hav (pr.length + 1) vm0 0 RI.zero
  exact ⟨by omega, by omega⟩
/-- The worlds of the law: the program in its block, with Below. -/
structure Lw (w : World) (c0 c1 : Value) (W : World) : Prop where
  b : Below w.heap.size w W
  z : w.heap.size + 1 ≤ W.heap.size
  p0 : W.cell? ⟨w.heap.size, 0, none⟩ = some c0
  p1 : W.cell? ⟨w.heap.size, 1, none⟩ = some c1
theorem Lw.start (w : World) (c0 c1 : Value) : Lw w c0 c1 (w.alloc (.cells #[c0, c1] 24)) := ⟨(Below.refl _ _).alloc (Nat.le_refl _) _, by simp, by simp [go_sem], by simp [go_sem]⟩
theorem Lw.more {w : World} {c0 c1 : Value} {W W1 : World} (h : Lw w c0 c1 W) (hb : Below W.heap.size W W1) : Lw w c0 c1 W1 := by
  have hz := h.z
  have hk := Kp.of_below hb No
  exact ⟨h.b.trans (hb.mono (by omega)), by have := hb.size; omega, hk.cell h.p0 (fun e => e), hk.cell h.p1 (fun e => e)⟩
theorem Lw.al {w : World} {c0 c1 : Value} {W : World} (h : Lw w c0 c1 W) (o : Obj) : Lw w c0 c1 (W.alloc o) := h.more ((Below.refl _ _).alloc (Nat.le_refl _) _)
theorem ranz_is : Try.zeroCells34 = (ranL (.slice none 0 0) vm0).toArray := by kernel_rfl
/-- A run laid in its block. -/
structure Ld (g : Nat) (K : Value) (s : Vm) (W : World) : Prop where
  x : Blk W g 34 69 (fun j => (ranL K s).getD j undef)
theorem ranL_row {W : World} {g : Nat} {K : Value} {s : Vm} (h : Blk W g 34 69 (fun j => (ranL K s).getD j undef)) : W.rangeAt g 0 (ranL K s) := by
  have := h.range
  have e : rowF 69 (fun j => (ranL K s).getD j undef) = ranL K s := by
    apply List.ext_getElem?
    intro j
    rcases Nat.lt_or_ge j 69 with hj | hj
    · rw [rowF_get 69 _ j hj, List.getElem?_eq_getElem (by rw [ranL_length]; exact hj)]
      simp [List.getD_eq_getElem?_getD, List.getElem?_eq_getElem (show j < (ranL K s).length by rw [ranL_length]; exact hj)]
    · rw [List.getElem?_eq_none (by rw [rowF_length]; exact hj), List.getElem?_eq_none (by rw [ranL_length]; exact hj)]
  rwa [e] at this
theorem ran_facts (K : Value) (s : Vm) (hK : ∃ A c, K = .slice A s.calls.length c) : (ranL K s).toArray.all (·.oneCell') = true ∧ (Try.prog.info? 34).map (·.size) = some (ranL K s).toArray.size ∧ Try.zeroCells34.size = (ranL K s).toArray.size ∧ (Try.prog.info? 34).map (·.size) = some (ranL K s).length := by
  obtain ⟨A, c, rfl⟩ := hK
  have e : (ranL (.slice A s.calls.length c) s).toArray.size = 69 := by rw [List.size_toArray, ranL_length]
  exact ⟨ranL_one _ rfl _, by rw [e]; exact info_ran, by rw [e]; exact size_ranz, by rw [ranL_length]; exact info_ran⟩

set_option maxRecDepth 100000 in
set_option maxHeartbeats 4000000 in
theorem vmruns_bad (w : World) {ok : Nat → Prop} (ctx : Int) (IA : Option Addr) (ic : Nat) (pr : List InsZ) (hin : Sl w ok 5 IA pr.length ic (pr.flatMap insZC)) (him : ∀ i, i ∈ pr → i.imm < 4294967296) (hpl : pr.length ≤ 300) (CA : Option Addr) (cl cc : Nat) (hcl : cl ≤ 300) (A : Option Addr) (al ca : Nat) (hal : al ≤ 60)
    (h : checkN ctx pr ≠ 0 ∨ (cl : Int) ≠ ctx) :
    Calls Try.prog 4 #[.agg #[.int .i64 ctx, .slice IA pr.length ic], .slice CA cl cc, .slice A al ca] w fun e w' => e = .returned (.bool true) ∧ Below w.heap.size w w' := by
  obtain ⟨W1, hW1⟩ : ∃ W1, W1 = w.alloc (.cells #[.int .i64 ctx, .slice IA pr.length ic] 24) := ⟨_, rfl⟩
  have G1 : Lw w (.int .i64 ctx) (.slice IA pr.length ic) W1 := by rw [hW1]; exact Lw.start w _ _
  have c0 := G1.p0
  have c1 := G1.p1
  have hRN := fun W (hb : Below w.heap.size w W) => run_no (w := W) (ok := ok) ctx IA ic pr (hin.move (Mv.of_below hb ok)) (by omega) CA cl cc (.slice A al ca) h
  have hTR := fun W (hb : Below w.heap.size w W) => trace_no (w := W) (ok := ok) ctx IA ic pr (hin.move (Mv.of_below hb ok)) (by omega) CA cl cc (.slice A al ca) h
  have hCK := fun W (hb : Below w.heap.size w W) => checkr_ok W ctx IA ic pr (ok := ok) (hin.move (Mv.of_below hb ok)) (by omega) him
  obtain ⟨n, hn⟩ : ∃ n, n = checkN ctx pr := ⟨_, rfl⟩
  rw [← hn] at hCK h
  clear hn
  have HRN := Lib.hid hRN; have HTR := Lib.hid hTR; have HCK := Lib.hid hCK; clear hRN hTR hCK him hin
  have hlp : ¬ (300 : Int) < pr.length := by omega
  have hlc : ¬ (300 : Int) < cl := by omega
  have hla : ¬ (60 : Int) < al := by omega
  have HG1 := Lib.hid G1; clear G1
  have HW1 := Lib.hid hW1; clear hW1
  have HSR := Lib.hid (show ∀ W, Calls Try.prog 14 #[.agg Try.zeroCells34, .agg Try.zeroCells34] W fun e w' => e = .returned (.bool true) ∧ Below W.heap.size W w' from fun W => by rw [ranz_is]; exact sameran_ok W (okA := Any) (okB := Any) none none 0 0 vm0 (Sl.nil _ _ _) (Sl.nil _ _ _) (by simp [vm0]))
  have HKN := Lib.hid known_ok
  by_cases h0 : n = 0
  · have hne : ((cl : Int) != ctx) = true := by simpa [h0] using h
    subst h0
    clear h
    go_enter Try.func4, Try.ntmps4
    go_upto_region 1 with fail
    rw [← HW1.out]
    go_upto_region 4 with (first | (go_at_call 13; (with_reducible refine (HRN.out _ HG1.out.b).mono ?_); rintro e W2 ⟨rfl, hb2⟩; have HG2 := Lib.hid (HG1.out.more hb2); clear hb2) | (refine wpList_store_new rfl 34 (.tmp 7) (.tmp 33) rfl Try.zeroCells34 Try.zeroCells34 rfl rfl info_ran rfl one_ranz ?_))
    have HG3 := Lib.hid (HG2.out.al (.cells Try.zeroCells34 34))
    have hrg : (W2.alloc (.cells Try.zeroCells34 34)).rangeAt W2.heap.size 0 Try.zeroCells34.toList := fun j v hv => by
      have := (Blk.lit W2 34 Try.zeroCells34).range
      rw [size_ranz] at this
      refine this j v ?_
      have hj : j < 69 := by
        rcases Nat.lt_or_ge j 69 with h | h
        · exact h
        · rw [List.getElem?_eq_none (by have := size_ranz; simpa using (show Try.zeroCells34.size ≤ j by omega))] at hv; cases hv
      rw [rowF_get 69 _ j hj]
      have h2 : Try.zeroCells34[j]? = some v := by rw [← Array.getElem?_toList]; exact hv
      simp [Array.getD_eq_getD_getElem?, h2]
    generalize hW3 : W2.alloc (.cells Try.zeroCells34 34) = W3 at HG3 hrg ⊢
    have HW3 := Lib.hid hW3; clear hW3 c0 c1
    have HRG := Lib.hid hrg; clear hrg
    have c0 := HG3.out.p0
    have c1 := HG3.out.p1
    go_upto_region 5 with (go_at_call 15; (with_reducible refine (HTR.out _ HG3.out.b).mono ?_); rintro e W4 ⟨rfl, hb4⟩; have HB4 := Lib.hid hb4; have HG4 := Lib.hid (HG3.out.more hb4); clear hb4)
    clear c0 c1
    have c0 := HG4.out.p0
    have c1 := HG4.out.p1
    go_upto_region 6 with (go_at_call 16; (with_reducible refine (HCK.out _ HG4.out.b).mono ?_); rintro e W5 ⟨rfl, hb5⟩; have HB5 := Lib.hid hb5; have HG5 := Lib.hid (HG4.out.more hb5); clear hb5; have d0 := HG5.out.p0)
    have hr5 : W5.rangeAt W2.heap.size 0 Try.zeroCells34.toList := fun j v hv => (Kp.of_below (HB4.out.trans (HB5.out.mono HB4.out.size)) No).cell (HRG.out j v hv) (fun e => e)
    have HR5 := Lib.hid hr5; clear hr5
    clear c0 c1
    refine wp_region_list ?_
    refine wpList_load_mid rfl 34 (.tmp 7) rfl W2.heap.size 0 rfl Try.zeroCells34.toList _ HR5.out Try.underlying34 rfl (by rw [Array.length_toList]; exact info_ran) ?_
    refine wpList_value (w' := W5) (.agg Try.zeroCells34) rfl (by kernel_rfl) ?_
    go_wp2_with (first | (go_at_call 14; (with_reducible refine (HSR.out _).mono ?_); rintro e W6 ⟨rfl, hb6⟩; have HG6 := Lib.hid (HG5.out.more hb6); clear hb6) | (go_at_call 12; (with_reducible refine (HKN.out _).mono ?_); rintro e W7 ⟨rfl, hb7⟩; have HG7 := Lib.hid (HG6.out.more hb7); clear hb7))
    go_ret
    exact ⟨rfl, HG7.out.b⟩
  · have hne : (n != 0) = true := by simpa using h0
    have hne2 : (n == 0) = false := by simpa using h0
    clear h h0
    go_enter Try.func4, Try.ntmps4
    go_upto_region 1 with fail
    rw [← HW1.out]
    go_upto_region 4 with (first | (go_at_call 13; (with_reducible refine (HRN.out _ HG1.out.b).mono ?_); rintro e W2 ⟨rfl, hb2⟩; have HG2 := Lib.hid (HG1.out.more hb2); clear hb2) | (refine wpList_store_new rfl 34 (.tmp 7) (.tmp 33) rfl Try.zeroCells34 Try.zeroCells34 rfl rfl info_ran rfl one_ranz ?_))
    have HG3 := Lib.hid (HG2.out.al (.cells Try.zeroCells34 34))
    have hrg : (W2.alloc (.cells Try.zeroCells34 34)).rangeAt W2.heap.size 0 Try.zeroCells34.toList := fun j v hv => by
      have := (Blk.lit W2 34 Try.zeroCells34).range
      rw [size_ranz] at this
      refine this j v ?_
      have hj : j < 69 := by
        rcases Nat.lt_or_ge j 69 with h | h
        · exact h
        · rw [List.getElem?_eq_none (by have := size_ranz; simpa using (show Try.zeroCells34.size ≤ j by omega))] at hv; cases hv
      rw [rowF_get 69 _ j hj]
      have h2 : Try.zeroCells34[j]? = some v := by rw [← Array.getElem?_toList]; exact hv
      simp [Array.getD_eq_getD_getElem?, h2]
    generalize hW3 : W2.alloc (.cells Try.zeroCells34 34) = W3 at HG3 hrg ⊢
    have HW3 := Lib.hid hW3; clear hW3 c0 c1
    have HRG := Lib.hid hrg; clear hrg
    have c0 := HG3.out.p0
    have c1 := HG3.out.p1
    go_upto_region 5 with (go_at_call 15; (with_reducible refine (HTR.out _ HG3.out.b).mono ?_); rintro e W4 ⟨rfl, hb4⟩; have HB4 := Lib.hid hb4; have HG4 := Lib.hid (HG3.out.more hb4); clear hb4)
    clear c0 c1
    have c0 := HG4.out.p0
    have c1 := HG4.out.p1
    go_upto_region 6 with (go_at_call 16; (with_reducible refine (HCK.out _ HG4.out.b).mono ?_); rintro e W5 ⟨rfl, hb5⟩; have HB5 := Lib.hid hb5; have HG5 := Lib.hid (HG4.out.more hb5); clear hb5; have d0 := HG5.out.p0)
    have hr5 : W5.rangeAt W2.heap.size 0 Try.zeroCells34.toList := fun j v hv => (Kp.of_below (HB4.out.trans (HB5.out.mono HB4.out.size)) No).cell (HRG.out j v hv) (fun e => e)
    have HR5 := Lib.hid hr5; clear hr5
    clear c0 c1
    refine wp_region_list ?_
    refine wpList_load_mid rfl 34 (.tmp 7) rfl W2.heap.size 0 rfl Try.zeroCells34.toList _ HR5.out Try.underlying34 rfl (by rw [Array.length_toList]; exact info_ran) ?_
    refine wpList_value (w' := W5) (.agg Try.zeroCells34) rfl (by kernel_rfl) ?_
    go_wp2_with (first | (go_at_call 14; (with_reducible refine (HSR.out _).mono ?_); rintro e W6 ⟨rfl, hb6⟩; have HG6 := Lib.hid (HG5.out.more hb6); clear hb6) | (go_at_call 12; (with_reducible refine (HKN.out _).mono ?_); rintro e W7 ⟨rfl, hb7⟩; have HG7 := Lib.hid (HG6.out.more hb7); clear hb7))
    go_ret
    exact ⟨rfl, HG7.out.b⟩


theorem rg_below {W W1 : World} {g o : Nat} {cs : List Value} (h : W.rangeAt g o cs) (hb : Below W.heap.size W W1) : W1.rangeAt g o cs := fun j v hv => (Kp.of_below hb No).cell (h j v hv) (fun e => e)
/-- A run that the law has laid. -/
theorem laid_run {W2 : World} {A : Option Addr} {c : Nat} {s : Vm} : ∃ RL : List Value, Hid (RL = ranL (.slice A s.calls.length c) s) ∧ Hid (RL.toArray.all (·.oneCell') = true) ∧ Hid ((Try.prog.info? 34).map (·.size) = some RL.toArray.size) ∧ Hid (Try.zeroCells34.size = RL.toArray.size) ∧ Hid ((Try.prog.info? 34).map (·.size) = some RL.length) ∧
    Hid ((W2.alloc (.cells RL.toArray 34)).rangeAt W2.heap.size 0 RL) := by
  obtain ⟨h1, h2, h3, h4⟩ := ran_facts (.slice A s.calls.length c) s ⟨A, c, rfl⟩
  exact ⟨_, Lib.hid rfl, Lib.hid h1, Lib.hid h2, Lib.hid h3, Lib.hid h4, Lib.hid (ranL_row (ran_box W2 _ s))⟩

set_option maxRecDepth 100000 in
set_option maxHeartbeats 4000000 in
theorem vmruns_good (w : World) {ok : Nat → Prop} (hokl : ∀ k, ok k → k < w.heap.size) (cx : List UInt8) (CA : Option Addr) (cc : Nat) (hcx : By w ok CA cx.length cc cx) (hcl : cx.length ≤ 300)
    (IA : Option Addr) (ic : Nat) (pr : List Ins8) (hin : Sl w ok 5 IA pr.length ic (pr.flatMap insCells)) (hpl : pr.length ≤ 300) (hpm : ∀ i, i ∈ pr → i.May) (h31 : ∀ i, i ∈ pr → i.op = 12 ∨ i.op = 13 → i.imm ≤ 31) (him : ∀ i, i ∈ pr.map Ins8.z → i.imm < 4294967296) (hc0 : checkN (cx.length : Int) (pr.map Ins8.z) = 0)
    (A : Option Addr) (ca : Nat) (ans : List Nat) (hans : Wd w ok A ans.length ca ans) (hal : ans.length ≤ 60) (hav : ∀ v, v ∈ ans → v < 4294967296) :
    Calls Try.prog 4 #[.agg #[.int .i64 (cx.length : Int), .slice IA pr.length ic], .slice CA cx.length cc, .slice A ans.length ca] w fun e w' => e = .returned (.bool true) ∧ Below w.heap.size w w' := by
  obtain ⟨W1, hW1⟩ : ∃ W1, W1 = w.alloc (.cells #[.int .i64 (cx.length : Int), .slice IA pr.length ic] 24) := ⟨_, rfl⟩
  have G1 : Lw w (.int .i64 (cx.length : Int)) (.slice IA pr.length ic) W1 := by rw [hW1]; exact Lw.start w _ _
  have c0 := G1.p0
  have c1 := G1.p1
  have hRN := fun W (hb : Below w.heap.size w W) => run_yes (w := W) (ok := ok) cx CA cc (Sl.move hcx (Mv.of_below hb ok)) (by omega) IA ic pr (hin.move (Mv.of_below hb ok)) (by omega) hpm hc0 A ca ans (Sl.move hans (Mv.of_below hb ok)) (by omega) hav
  have hTR := fun W (hb : Below w.heap.size w W) => trace_yes (w := W) (ok := ok) cx CA cc (Sl.move hcx (Mv.of_below hb ok)) (by omega) IA ic pr (hin.move (Mv.of_below hb ok)) (by omega) hpm hc0 A ca ans (Sl.move hans (Mv.of_below hb ok)) (by omega) hav (fun k hk => Nat.lt_of_lt_of_le (hokl k hk) hb.size)
  have hCK : ∀ W, Below w.heap.size w W → Calls Try.prog 16 #[.agg #[.int .i64 (cx.length : Int), .slice IA pr.length ic]] W fun e w' => e = .returned (.int .i64 0) ∧ Below W.heap.size W w' := fun W hb => by
    have := checkr_ok W (cx.length : Int) IA ic (pr.map Ins8.z) (ok := ok) (by rw [List.length_map, flat_z]; exact hin.move (Mv.of_below hb ok)) (by rw [List.length_map]; omega) him
    rw [hc0, List.length_map] at this
    exact this
  have hRR := fun W (hb : Below w.heap.size w W) => refrun_ok (w := W) (cx.length : Int) cx CA cc ((Sl.move hcx (Mv.of_below hb ok)).mono (fun _ _ _ => trivial)) (by omega) IA ic pr ((hin.move (Mv.of_below hb ok)).mono (fun _ _ _ => trivial)) hpl hpm h31 A ca ans ((Sl.move hans (Mv.of_below hb ok)).mono (fun _ _ _ => trivial)) (by omega) hav
  obtain ⟨n0, hn0⟩ : ∃ n, n = pr.length + 1 := ⟨_, rfl⟩
  have hrc := runTo_bounds pr cx ans hpl hpm hav
  have HRC := Lib.hid hrc
  have HRN := Lib.hid hRN; have HTR := Lib.hid hTR; have HCK := Lib.hid hCK; have HRR := Lib.hid hRR; clear hRN hTR hCK hRR him hin hcx hans hpm h31 hav hc0 hokl hrc n0 hn0
  have hlp : ¬ (300 : Int) < pr.length := by omega
  have hlc : ¬ (300 : Int) < cx.length := by omega
  have hla : ¬ (60 : Int) < ans.length := by omega
  have HG1 := Lib.hid G1; clear G1
  have HW1 := Lib.hid hW1; clear hW1
  have HKN := Lib.hid known_ok
  go_enter Try.func4, Try.ntmps4
  go_upto_region 1 with fail
  rw [← HW1.out]
  go_upto_region 4 with (first | (go_at_call 13; (with_reducible refine (HRN.out _ HG1.out.b).mono ?_); rintro e W2 ⟨K2, rfl, hown2, hK2, hb2⟩; have HG2 := Lib.hid (HG1.out.more hb2); obtain ⟨A2, c2, rfl⟩ := own_shape hown2; have HO2 := Lib.hid hown2; clear hb2 hown2 hK2; obtain ⟨RL, HRL, HR1, HI, HL, HI2, HRG⟩ := laid_run (W2 := W2) (A := A2) (c := c2) (s := (runTo pr cx ans (pr.length + 1) vm0).2); rw [← HRL.out]) | (refine wpList_store_new rfl 34 (.tmp 7) (.tmp 33) rfl Try.zeroCells34 RL.toArray rfl rfl HI.out HL.out HR1.out ?_))
  have HG3 := Lib.hid (HG2.out.al (.cells RL.toArray 34))
  have HO3 := Lib.hid (own_move HO2.out (fun k _ hlt => ((Below.refl W2.heap.size W2).alloc (Nat.le_refl _) (.cells RL.toArray 34)).block k hlt))
  have hrg := HRG.out
  generalize hW3 : W2.alloc (.cells RL.toArray 34) = W3 at HG3 HO3 hrg ⊢
  clear HRG c0 c1
  have HW3 := Lib.hid hW3; clear hW3
  have HRG := Lib.hid hrg; clear hrg
  have c0 := HG3.out.p0
  have c1 := HG3.out.p1
  go_upto_region 5 with (go_at_call 15; (with_reducible refine (HTR.out _ HG3.out.b).mono ?_); rintro e W4 ⟨V4, rfl, hown4, hK4, hb4⟩; obtain ⟨A4, c4, rfl⟩ := own_shape hown4; have HO4 := Lib.hid hown4; have HB4 := Lib.hid hb4; have HG4 := Lib.hid (HG3.out.more hb4); clear hb4 hown4 hK4)
  clear c0 c1
  have c0 := HG4.out.p0
  have c1 := HG4.out.p1
  go_upto_region 7 with (go_at_call 16; (with_reducible refine (HCK.out _ HG4.out.b).mono ?_); rintro e W5 ⟨rfl, hb5⟩; have HB5 := Lib.hid hb5; have HG5 := Lib.hid (HG4.out.more hb5); clear hb5; have d0 := HG5.out.p0)
  have d1 := HG5.out.p1
  clear c0 c1
  go_upto_region 8 with (first | (go_at_call 17; (with_reducible refine (HRR.out _ HG5.out.b).mono ?_); rintro e W6 ⟨A6, c6, V6, rfl, hsl6, hown6, hb6⟩; obtain ⟨AV, cv, rfl⟩ := own_shape hown6; have HO6 := Lib.hid hown6; have HS6 := Lib.hid hsl6; have HB6 := Lib.hid hb6; have HG6 := Lib.hid (HG5.out.more hb6); clear hb6 hown6 hsl6; obtain ⟨RM, HRM, HM1, HMI, HML, HMI2, HMG⟩ := laid_run (W2 := W6) (A := A6) (c := c6) (s := (runTo pr cx ans (pr.length + 1) vm0).2); rw [← HRM.out]) | (refine wpList_store_new rfl 34 (.tmp 11) (.tmp 76) rfl Try.zeroCells34 RM.toArray rfl rfl HMI.out HML.out HM1.out ?_))
  have hb67 : Below W6.heap.size W6 (W6.alloc (.cells RM.toArray 34)) := (Below.refl _ _).alloc (Nat.le_refl _) _
  have hb36 : Below W3.heap.size W3 W6 := HB4.out.trans ((HB5.out.trans (HB6.out.mono HB5.out.size)).mono HB4.out.size)
  have hb46 : Below W4.heap.size W4 W6 := HB5.out.trans (HB6.out.mono HB5.out.size)
  have HG7 := Lib.hid (HG6.out.more hb67)
  have HR7 := Lib.hid (rg_below HRG.out (hb36.trans (hb67.mono hb36.size)))
  have HK7 := Lib.hid (own_move HO3.out (fun k _ hlt => (hb36.trans (hb67.mono hb36.size)).block k hlt))
  have HV7 := Lib.hid (own_move HO4.out (fun k _ hlt => (hb46.trans (hb67.mono hb46.size)).block k hlt))
  have HU7 := Lib.hid (own_move HO6.out (fun k _ hlt => hb67.block k hlt))
  have HC7 := Lib.hid (HS6.out.move (Mv.of_below hb67 Any))
  have hmg := HMG.out
  clear HMG hb67 hb36 hb46
  generalize hW7 : W6.alloc (.cells RM.toArray 34) = W7 at HG7 HR7 HK7 HV7 HU7 HC7 hmg ⊢
  clear hW7 d0 d1
  have HMG := Lib.hid hmg; clear hmg
  have HSR := Lib.hid (show Calls Try.prog 14 #[.agg RL.toArray, .agg RM.toArray] W7 fun e w' => e = .returned (.bool true) ∧ Below W7.heap.size W7 w' from by
    rw [HRL.out, HRM.out]
    obtain ⟨q1, q2, q3, q4⟩ := Sl.of_own (ok := Any) HK7.out (fun _ _ _ => trivial)
    injection q3 with e1 e2 e3
    subst e1; subst e3
    exact sameran_ok W7 A2 A6 c2 c6 _ q4 HC7.out HRC.out.2)
  have HMM := Lib.hid (fun (W : World) (hb : Below W7.heap.size W7 W) => (show Calls Try.prog 18 #[.slice A4 (runTo pr cx ans (pr.length + 1) vm0).1.length c4, .slice AV (runTo pr cx ans (pr.length + 1) vm0).1.length cv] W fun e w' => e = .returned (.bool true) ∧ Below W.heap.size W w' from by
    obtain ⟨q1, q2, q3, q4⟩ := Sl.of_own (ok := Any) HV7.out (fun _ _ _ => trivial)
    injection q3 with e1 e2 e3
    subst e1; subst e3
    obtain ⟨r1, r2, r3, r4⟩ := Sl.of_own (ok := Any) HU7.out (fun _ _ _ => trivial)
    injection r3 with e1 e2 e3
    subst e1; subst e3
    exact moments_ok W A4 AV c4 cv _ (q4.move (Mv.of_below hb Any)) (r4.move (Mv.of_below hb Any)) HRC.out.1))
  go_wp2_with (first | (refine wpList_valueg (o := ⟨some 85, _, _, _, _, _⟩) (w' := W7) (.agg RL.toArray) rfl (exec_load_mid 34 (.tmp 7) rfl W2.heap.size 0 rfl RL _ HR7.out Try.underlying34 rfl HI2.out) ?_) | (refine wpList_valueg (o := ⟨some 86, _, _, _, _, _⟩) (w' := W7) (.agg RM.toArray) rfl (exec_load_mid 34 (.tmp 11) rfl W6.heap.size 0 rfl RM _ HMG.out Try.underlying34 rfl HMI2.out) ?_) | (go_at_call 14; (with_reducible refine HSR.out.mono ?_); rintro e W8 ⟨rfl, hb8⟩; have HB8 := Lib.hid hb8; have HG8 := Lib.hid (HG7.out.more hb8); clear hb8) | (go_at_call 18; (with_reducible refine (HMM.out _ HB8.out).mono ?_); rintro e W9 ⟨rfl, hb9⟩; have HG9 := Lib.hid (HG8.out.more hb9); clear hb9) | (go_at_call 12; (with_reducible refine (HKN.out _).mono ?_); rintro e W10 ⟨rfl, hb10⟩; have HG10 := Lib.hid (HG9.out.more hb10); clear hb10))
  go_ret
  exact ⟨rfl, HG10.out.b⟩

set_option maxRecDepth 100000 in
set_option maxHeartbeats 4000000 in
theorem vmruns_big (w : World) (ctx : Int) (IA : Option Addr) (ic pl : Nat) (CA : Option Addr) (cl cc : Nat) (A : Option Addr) (al ca : Nat) (h : 300 < pl ∨ 300 < cl ∨ 60 < al) :
    Calls Try.prog 4 #[.agg #[.int .i64 ctx, .slice IA pl ic], .slice CA cl cc, .slice A al ca] w fun e w' => e = .returned (.bool true) ∧ Below w.heap.size w w' := by
  have HKN := Lib.hid known_ok
  by_cases h1 : 300 < pl
  · have h1' : (300 : Int) < pl := by omega
    clear h
    go_enter Try.func4, Try.ntmps4
    go_wp2_with (go_at_call 12; (with_reducible refine (HKN.out _).mono ?_); rintro e W10 ⟨rfl, hb10⟩; have HB10 := Lib.hid hb10; clear hb10)
    go_ret
    exact ⟨rfl, ((Below.refl _ _).alloc (Nat.le_refl _) _).trans (HB10.out.mono (by simp))⟩
  have h1' : ¬ (300 : Int) < pl := by omega
  by_cases h2 : 300 < cl
  · have h2' : (300 : Int) < cl := by omega
    clear h
    go_enter Try.func4, Try.ntmps4
    go_wp2_with (go_at_call 12; (with_reducible refine (HKN.out _).mono ?_); rintro e W10 ⟨rfl, hb10⟩; have HB10 := Lib.hid hb10; clear hb10)
    go_ret
    exact ⟨rfl, ((Below.refl _ _).alloc (Nat.le_refl _) _).trans (HB10.out.mono (by simp))⟩
  have h2' : ¬ (300 : Int) < cl := by omega
  have h3 : 60 < al := by omega
  have h3' : (60 : Int) < al := by omega
  clear h
  go_enter Try.func4, Try.ntmps4
  go_wp2_with (go_at_call 12; (with_reducible refine (HKN.out _).mono ?_); rintro e W10 ⟨rfl, hb10⟩; have HB10 := Lib.hid hb10; clear hb10)
  go_ret
  exact ⟨rfl, ((Below.refl _ _).alloc (Nat.le_refl _) _).trans (HB10.out.mono (by simp))⟩

/-- The law, for whatever it is handed. -/
theorem vmruns_ok (w : World) (ctx : Int) (IA : Option Addr) (ic : Nat) (pr : List InsZ) (hin : Sl w Any 5 IA pr.length ic (pr.flatMap insZC)) (him : ∀ i, i ∈ pr → i.imm < 4294967296)
    (cx : List UInt8) (CA : Option Addr) (cc : Nat) (hcx : By w Any CA cx.length cc cx) (A : Option Addr) (ca : Nat) (ans : List Nat) (hans : Wd w Any A ans.length ca ans) (hav : ∀ v, v ∈ ans → v < 4294967296) :
    Calls Try.prog 4 #[.agg #[.int .i64 ctx, .slice IA pr.length ic], .slice CA cx.length cc, .slice A ans.length ca] w fun e w' => e = .returned (.bool true) ∧ Below w.heap.size w w' := by
  by_cases hb : 300 < pr.length ∨ 300 < cx.length ∨ 60 < ans.length
  · exact vmruns_big w ctx IA ic pr.length CA cx.length cc A ans.length ca hb
  by_cases hg : checkN ctx pr = 0 ∧ (cx.length : Int) = ctx
  · obtain ⟨hg1, rfl⟩ := hg
    obtain ⟨p8, rfl, h1, h2⟩ := check_ins hg1
    rw [List.length_map] at hin hb ⊢
    rw [flat_z] at hin
    exact vmruns_good w (ok := fun k => k < w.heap.size) (fun _ h => h) cx CA cc (Sl.mono hcx (fun _ h _ => h)) (by omega) IA ic p8 (hin.mono (fun _ h _ => h)) (by omega) h1 h2 him hg1 A ca ans (Sl.mono hans (fun _ h _ => h)) (by omega) hav
  · exact vmruns_bad w ctx IA ic pr hin him (by omega) CA cx.length cc (by omega) A ans.length ca (by omega) (by
      by_cases e : checkN ctx pr = 0
      · exact .inr (fun e2 => hg ⟨e, e2⟩)
      · exact .inl e)
end Go.Proofs.Ytpnkbpjhbmacaaa
