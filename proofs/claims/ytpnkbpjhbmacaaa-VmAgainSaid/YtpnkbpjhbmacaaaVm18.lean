/- The VM: Run, Trace. -/
import Derived.Test.YtpnkbpjhbmacaaaVm17
import Derived.Deep.Upon
set_option linter.unusedVariables false
set_option linter.unusedSimpArgs false
namespace Go.Proofs.Ytpnkbpjhbmacaaa
open Go.RowKit

def RunPost (w : World) (pr : List Ins8) (cx : List UInt8) (ans : List Nat) (e : Ending) (w' : World) : Prop :=
  ∃ K', e = .returned (.tuple #[.agg (ranL K' (runTo pr cx ans (pr.length + 1) vm0).2).toArray, .int .i64 0]) ∧ w'.ownsRow 0 80 6 K' (runTo pr cx ans (pr.length + 1) vm0).2.calls.length (callsV (runTo pr cx ans (pr.length + 1) vm0).2.calls) ∧
    (∀ k, K'.ownBlock = some k → w.heap.size ≤ k) ∧ Below w.heap.size w w'
def TracePost (w : World) (pr : List Ins8) (cx : List UInt8) (ans : List Nat) (e : Ending) (w' : World) : Prop :=
  ∃ V, e = .returned (.tuple #[V, .int .i64 0]) ∧ w'.ownsRow 0 70 21 V (runTo pr cx ans (pr.length + 1) vm0).1.length ((runTo pr cx ans (pr.length + 1) vm0).1.flatMap momCells) ∧
    (∀ k, V.ownBlock = some k → w.heap.size ≤ k) ∧ Below w.heap.size w w'

theorem Beg.there {w : World} {a0 a1 : Value} {W : World} (h : Beg w a0 a1 W) : W.there (w.heap.size + 1) 0 69 := by
  obtain ⟨F, hF⟩ := h.r
  exact there_blk hF
theorem Beg.stored {w : World} {a0 a1 : Value} {W : World} (h : Beg w a0 a1 W) (cs : List Value) (hc : cs.length = 69) :
    ∃ W3, Hid (W3 = W.setCells (w.heap.size + 1) 0 cs) ∧ Hid (W3.rangeAt (w.heap.size + 1) 0 cs) ∧ Hid (Kp No w W3) :=
  ⟨_, Lib.hid rfl, Lib.hid (World.rangeAt_setCells_same W (w.heap.size + 1) 0 cs (by rw [hc]; exact h.there)), Lib.hid (Kp.setCells (.inr (by omega)) _ _ _ (Kp.of_below h.b No))⟩

theorem run_mid {w : World} {a0 a1 : Value} {W1 W2 : World} (h : Beg w a0 a1 W1) {K' : Value} {S : Vm} (hown : W2.ownsRow 0 80 6 K' S.calls.length (callsV S.calls)) (hK : ∀ k, K'.ownBlock = some k → W1.heap.size ≤ k) (hk : Kp No W1 W2) :
    ∃ RL : List Value, Hid (RL = ranL K' S) ∧ Hid (RL.toArray.all (·.oneCell') = true) ∧ Hid ((Try.prog.info? 34).map (·.size) = some RL.length) ∧ Hid (RL.length = 69) ∧
      Hid (W2.ownsRow 0 80 6 K' S.calls.length (callsV S.calls) ∧ ∀ k, K'.ownBlock = some k → w.heap.size + 2 ≤ k) ∧ Hid (Beg w a0 a1 W2) := by
  have hz := h.z
  refine ⟨_, Lib.hid rfl, Lib.hid ?_, Lib.hid (by rw [ranL_length]; exact info_ran), Lib.hid (ranL_length _ _), Lib.hid ⟨hown, fun k hk => by have := hK k hk; omega⟩, Lib.hid (h.more hk (fun _ e => e.elim))⟩
  obtain ⟨a', c', e⟩ := own_shape hown
  exact ranL_one _ (by rw [e]; rfl) _
theorem run_end {w : World} {a0 a1 : Value} {W2 : World} (h : Beg w a0 a1 W2) {K' : Value} {S : Vm} (hr : W2.ownsRow 0 80 6 K' S.calls.length (callsV S.calls) ∧ ∀ k, K'.ownBlock = some k → w.heap.size + 2 ≤ k) (cs : List Value) (hc : cs.length = 69) :
    ∃ W3, Hid (W3 = W2.setCells (w.heap.size + 1) 0 cs) ∧ Hid (W3.rangeAt (w.heap.size + 1) 0 cs) ∧ Hid (Kp No w W3) ∧ Hid (W3.ownsRow 0 80 6 K' S.calls.length (callsV S.calls) ∧ ∀ k, K'.ownBlock = some k → w.heap.size ≤ k) := by
  obtain ⟨W3, h1, h2, h3⟩ := h.stored cs hc
  refine ⟨W3, h1, h2, h3, Lib.hid ⟨?_, fun k hk => by have := hr.2 k hk; omega⟩⟩
  rw [h1.out]
  exact own_move hr.1 (fun k hk hlt => World.heap_setCells_other _ _ _ _ hlt (fun e => by have := hr.2 k hk; omega))
/-- The worlds of Trace. -/
structure Tra (w : World) (a0 a1 V : Value) (W : World) : Prop where
  b : Below w.heap.size w W
  z : w.heap.size + 2 ≤ W.heap.size
  c0 : W.cell? ⟨w.heap.size, 0, none⟩ = some a0
  c1 : W.cell? ⟨w.heap.size, 1, none⟩ = some a1
  c2 : W.cell? ⟨w.heap.size + 1, 0, none⟩ = some V
theorem Tra.start (w : World) (a0 a1 V : Value) : Tra w a0 a1 V ((w.alloc (.cells #[a0, a1] 24)).alloc (.cells #[V] 40)) :=
  ⟨Below.b1 rfl, by simp, by simp [go_sem], by simp [go_sem], by simp [go_sem]⟩
theorem Tra.belowp {w : World} {a0 a1 V : Value} {W W1 : World} (h : Tra w a0 a1 V W) (hb : Below W.heap.size W W1) : Tra w a0 a1 V W1 := by
  have hz := h.z
  have hk := Kp.of_below hb No
  refine ⟨h.b.trans (hb.mono (by omega)), by have := hb.size; omega, hk.cell h.c0 (fun e => e), hk.cell h.c1 (fun e => e), hk.cell h.c2 (fun e => e)⟩
theorem Tra.more2 {w : World} {a0 a1 V : Value} {W : World} (h : Tra w a0 a1 V W) (cs : Array Value) : Tra w a0 a1 V (W.alloc (.cells cs 34)) := h.belowp ((Below.refl _ _).alloc (Nat.le_refl _) _)
theorem Trc.start (w : World) (o : Obj) : Trc (w.heap.size + 1) (fun k => k = w.heap.size + 1) [] ((w.alloc o).alloc (.cells #[.slice none 0 0] 40)) := by
  refine ⟨.slice none 0 0, ?_, World.ownsRow_nil _ _ _ _, by simp [Value.ownBlock], fun k => by simp [Value.ownBlock]⟩
  have := Blk.new (w.alloc o) 40 #[.slice none 0 0] 1 rfl (fun _ => .slice none 0 0) (fun j hj => by
    obtain rfl : j = 0 := by omega
    rfl)
  simpa using this
structure TrP (w : World) (a0 a1 V : Value) (ms : List Mom) (W : World) : Prop where
  t : Tra w a0 a1 V W
  row : W.ownsRow 0 70 21 V ms.length (ms.flatMap momCells)
  nb : ∀ k, V.ownBlock = some k → w.heap.size ≤ k
theorem TrP.more2 {w : World} {a0 a1 V : Value} {ms : List Mom} {W : World} (h : TrP w a0 a1 V ms W) (cs : Array Value) : Tra w a0 a1 V (W.alloc (.cells cs 34)) := h.t.more2 cs
theorem trace_mid {w : World} {a0 a1 V0 : Value} {W1 W2 : World} (h : Tra w a0 a1 V0 W1) {K' : Value} {S : Vm} {B' : Nat → Prop} {ms : List Mom} (hown : W2.ownsRow 0 80 6 K' S.calls.length (callsV S.calls))
    (hT : Trc (w.heap.size + 1) B' ms W2) (hk : Kp (fun k => k = w.heap.size + 1) W1 W2) (hB : ∀ k, B' k → k = w.heap.size + 1 ∨ W1.heap.size ≤ k) :
    ∃ (RL : List Value) (V : Value), Hid (RL = ranL K' S) ∧ Hid (RL.toArray.all (·.oneCell') = true) ∧ Hid ((Try.prog.info? 34).map (·.size) = some RL.toArray.size) ∧ Hid (Try.zeroCells34.size = RL.toArray.size) ∧
      Hid (TrP w a0 a1 V ms W2) := by
  have hz := h.z
  obtain ⟨V, h1, h2, h3, h4⟩ := hT.ex
  refine ⟨_, V, Lib.hid rfl, Lib.hid ?_, Lib.hid ?_, Lib.hid ?_, Lib.hid ⟨⟨?_, ?_, ?_, ?_, ?_⟩, h2, fun k hk' => ?_⟩⟩
  · obtain ⟨a', c', e⟩ := own_shape hown
    exact ranL_one _ (by rw [e]; rfl) _
  · rw [List.size_toArray, ranL_length]; exact info_ran
  · rw [show (ranL K' S).toArray.size = 69 from by rw [List.size_toArray, ranL_length]]; exact size_ranz
  · exact ((Kp.of_below h.b No).trans hk (fun k hk' e => by omega)).below
  · have := hk.size; omega
  · exact hk.cell h.c0 (fun e => by have : w.heap.size = w.heap.size + 1 := e; omega)
  · exact hk.cell h.c1 (fun e => by have : w.heap.size = w.heap.size + 1 := e; omega)
  · exact h1.cell 0 (by omega)
  · rcases hB k ((h4 k).2 (.inr hk')) with e | e <;> omega
theorem trace_end {w : World} {a0 a1 V : Value} {W2 : World} {pr : List Ins8} {cx : List UInt8} {ans : List Nat} (h : TrP w a0 a1 V (runTo pr cx ans (pr.length + 1) vm0).1 W2) (cs : Array Value) : TracePost w pr cx ans (.returned (.tuple #[V, .int .i64 0])) (W2.alloc (.cells cs 34)) :=
  ⟨V, rfl, own_move h.row (fun k _ hlt => ((Below.refl _ _).alloc (Nat.le_refl _) _).block k hlt), h.nb, (h.more2 cs).b⟩

set_option maxRecDepth 100000 in
set_option maxHeartbeats 1000000 in
theorem run_no {w : World} {ok : Nat → Prop} (ctx : Int) (IA : Option Addr) (ic : Nat) (pr : List InsZ) (hin : Sl w ok 5 IA pr.length ic (pr.flatMap insZC)) (hpl : pr.length ≤ 1000000) (CA : Option Addr) (cl cc : Nat) (A : Value)
    (h : checkN ctx pr ≠ 0 ∨ (cl : Int) ≠ ctx) :
    Calls Try.prog 13 #[.agg #[.int .i64 ctx, .slice IA pr.length ic], .slice CA cl cc, A] w fun e w' => e = .returned (.tuple #[.agg Try.zeroCells34, .int .i64 2]) ∧ Below w.heap.size w w' := by
  obtain ⟨W1, hW1⟩ : ∃ W1, W1 = (w.alloc (.cells #[.int .i64 ctx, .slice IA pr.length ic] 24)).alloc (.cells Try.zeroCells34 34) := ⟨_, rfl⟩
  have G1 : Beg w (.int .i64 ctx) (.slice IA pr.length ic) W1 := by rw [hW1]; exact Beg.start w _ _ _ rfl
  have c0 := G1.c0
  have c1 := G1.c1
  have hbg := begun_no (w := W1) (ok := ok) ctx IA ic pr (hin.move (Mv.of_below G1.b ok)) hpl CA cl cc A (.func (.func 23) #[] #[]) h
  have HBG := Lib.hid hbg; clear hbg h
  have HG1 := Lib.hid G1; clear G1
  have HW1 := Lib.hid hW1; clear hW1
  go_enter Try.func13, Try.ntmps13
  go_upto_region 1 with fail
  rw [← HW1.out]
  go_wp2_with (first | (go_at_call 22; (with_reducible refine HBG.out.mono ?_); rintro e W2 ⟨rfl, hb2⟩; have HG2 := Lib.hid (HG1.out.belowp hb2); clear hb2) | (refine wpList_store_mid rfl 34 (.tmp 6) (.tmp 12) rfl (w.heap.size + 1) 0 Try.zeroCells34 rfl rfl HG2.out.there info_ran one_ranz ?_; obtain ⟨W3, HW3, HR3, HK3⟩ := HG2.out.stored Try.zeroCells34.toList rfl; rw [← HW3.out]))
  exact bodyPost_ret (v := .tuple #[.agg Try.zeroCells34, .int .i64 2]) (results_cell_range Try.results13 _ _ (w.heap.size + 1) 0 Try.zeroCells34.toList _ rfl HR3.out Try.underlying34 rfl info_ran _ rfl) rfl ⟨rfl, HK3.out.below⟩
set_option maxRecDepth 100000 in
set_option maxHeartbeats 1000000 in
theorem run_yes {w : World} {ok : Nat → Prop} (cx : List UInt8) (CA : Option Addr) (cc : Nat) (hcx : By w ok CA cx.length cc cx) (hcl : cx.length ≤ 65536)
    (IA : Option Addr) (ic : Nat) (pr : List Ins8) (hin : Sl w ok 5 IA pr.length ic (pr.flatMap insCells)) (hpl : pr.length ≤ 1000) (hpm : ∀ i, i ∈ pr → i.May) (hc0 : checkN (cx.length : Int) (pr.map Ins8.z) = 0)
    (A : Option Addr) (ca : Nat) (ans : List Nat) (hans : Wd w ok A ans.length ca ans) (hal : ans.length ≤ 1048576) (hav : ∀ v, v ∈ ans → v < 4294967296) :
    Calls Try.prog 13 #[.agg #[.int .i64 (cx.length : Int), .slice IA pr.length ic], .slice CA cx.length cc, .slice A ans.length ca] w (RunPost w pr cx ans) := by
  obtain ⟨W1, hW1⟩ : ∃ W1, W1 = (w.alloc (.cells #[.int .i64 (cx.length : Int), .slice IA pr.length ic] 24)).alloc (.cells Try.zeroCells34 34) := ⟨_, rfl⟩
  have G1 : Beg w (.int .i64 (cx.length : Int)) (.slice IA pr.length ic) W1 := by rw [hW1]; exact Beg.start w _ _ _ rfl
  have c0 := G1.c0
  have c1 := G1.c1
  have hbg := begun_yes (w := W1) (ok := ok) cx CA cc (Sl.move hcx (Mv.of_below G1.b ok)) hcl IA ic pr (hin.move (Mv.of_below G1.b ok)) hpl hpm hc0 A ca ans (Sl.move hans (Mv.of_below G1.b ok)) hal hav tells_run (B := No) (fun _ h => h) (fun _ _ h => h)
  have HBG := Lib.hid hbg; clear hbg hc0 hav hpm
  have HG1 := Lib.hid G1; clear G1
  have HW1 := Lib.hid hW1; clear hW1
  obtain ⟨RF, hRF⟩ : ∃ RF : Value → List Value, RF = fun K => ranL K (runTo pr cx ans (pr.length + 1) vm0).2 := ⟨_, rfl⟩
  have HRF := Lib.hid hRF; clear hRF
  go_enter Try.func13, Try.ntmps13
  go_upto_region 1 with fail
  rw [← HW1.out]
  go_wp2_with (first | (go_at_call 22; (with_reducible refine HBG.out.mono ?_); rintro e W2 ⟨K', B', rfl, hown, hKb, hT, hkp, hBb⟩; obtain ⟨RL, HRL, HR1, HI, HL, HRK, HG2⟩ := run_mid HG1.out hown hKb hkp; rw [← HRL.out]; clear hown hKb hT hkp hBb) | (refine wpList_store_mid rfl 34 (.tmp 6) (.tmp 12) rfl (w.heap.size + 1) 0 RL.toArray rfl rfl (by have := HG2.out.there; rw [← HL.out] at this; exact this) HI.out HR1.out ?_; obtain ⟨W3, HW3, HR3, HK3, HT3⟩ := run_end HG2.out HRK.out RL HL.out; rw [← HW3.out]))
  exact bodyPost_ret (v := .tuple #[.agg RL.toArray, .int .i64 0]) (results_cell_range Try.results13 _ _ (w.heap.size + 1) 0 RL _ rfl HR3.out Try.underlying34 rfl HI.out _ rfl) rfl ⟨K', by rw [HRL.out], HT3.out.1, HT3.out.2, HK3.out.below⟩

set_option maxRecDepth 100000 in
set_option maxHeartbeats 1000000 in
theorem trace_no {w : World} {ok : Nat → Prop} (ctx : Int) (IA : Option Addr) (ic : Nat) (pr : List InsZ) (hin : Sl w ok 5 IA pr.length ic (pr.flatMap insZC)) (hpl : pr.length ≤ 1000000) (CA : Option Addr) (cl cc : Nat) (A : Value)
    (h : checkN ctx pr ≠ 0 ∨ (cl : Int) ≠ ctx) :
    Calls Try.prog 15 #[.agg #[.int .i64 ctx, .slice IA pr.length ic], .slice CA cl cc, A] w fun e w' => e = .returned (.tuple #[.slice none 0 0, .int .i64 2]) ∧ Below w.heap.size w w' := by
  have hmf : ∀ (fn : Fn) (first cap : Array Value) (w : World), (Instr.makeFunc fn first cap).run Try.prog w = .ok (.func fn first cap) w := fun _ _ _ _ => rfl
  obtain ⟨W1, hW1⟩ : ∃ W1, W1 = (w.alloc (.cells #[.int .i64 ctx, .slice IA pr.length ic] 24)).alloc (.cells #[.slice none 0 0] 40) := ⟨_, rfl⟩
  have G1 : Tra w (.int .i64 ctx) (.slice IA pr.length ic) (.slice none 0 0) W1 := by rw [hW1]; exact Tra.start w _ _ _
  have c0 := G1.c0
  have c1 := G1.c1
  have hbg := begun_no (w := W1) (ok := ok) ctx IA ic pr (hin.move (Mv.of_below G1.b ok)) hpl CA cl cc A (.func (.func 24) #[] #[.pointer (some ⟨w.heap.size + 1, 0, none⟩)]) h
  have HBG := Lib.hid hbg; clear hbg h
  have HG1 := Lib.hid G1; clear G1
  have HW1 := Lib.hid hW1; clear hW1
  go_enter Try.func15, Try.ntmps15
  go_upto_region 2 with fail
  rw [← HW1.out]
  go_wp2_with (first | (go_at_call 22; (with_reducible refine HBG.out.mono ?_); rintro e W2 ⟨rfl, hb2⟩; have HG2 := Lib.hid (HG1.out.belowp hb2); clear hb2) | (refine wpList_store_new rfl 34 (.tmp 9) (.tmp 17) rfl Try.zeroCells34 Try.zeroCells34 rfl rfl info_ran rfl one_ranz ?_; have c2 := (HG2.out.more2 Try.zeroCells34).c2))
  go_ret2
  exact ⟨rfl, (HG2.out.more2 Try.zeroCells34).b⟩

set_option maxRecDepth 100000 in
set_option maxHeartbeats 1000000 in
theorem trace_yes {w : World} {ok : Nat → Prop} (cx : List UInt8) (CA : Option Addr) (cc : Nat) (hcx : By w ok CA cx.length cc cx) (hcl : cx.length ≤ 65536)
    (IA : Option Addr) (ic : Nat) (pr : List Ins8) (hin : Sl w ok 5 IA pr.length ic (pr.flatMap insCells)) (hpl : pr.length ≤ 1000) (hpm : ∀ i, i ∈ pr → i.May) (hc0 : checkN (cx.length : Int) (pr.map Ins8.z) = 0)
    (A : Option Addr) (ca : Nat) (ans : List Nat) (hans : Wd w ok A ans.length ca ans) (hal : ans.length ≤ 1048576) (hav : ∀ v, v ∈ ans → v < 4294967296) (hokl : ∀ k, ok k → k < w.heap.size) :
    Calls Try.prog 15 #[.agg #[.int .i64 (cx.length : Int), .slice IA pr.length ic], .slice CA cx.length cc, .slice A ans.length ca] w (TracePost w pr cx ans) := by
  have hmf : ∀ (fn : Fn) (first cap : Array Value) (w : World), (Instr.makeFunc fn first cap).run Try.prog w = .ok (.func fn first cap) w := fun _ _ _ _ => rfl
  obtain ⟨W1, hW1⟩ : ∃ W1, W1 = (w.alloc (.cells #[.int .i64 (cx.length : Int), .slice IA pr.length ic] 24)).alloc (.cells #[.slice none 0 0] 40) := ⟨_, rfl⟩
  have G1 : Tra w (.int .i64 (cx.length : Int)) (.slice IA pr.length ic) (.slice none 0 0) W1 := by rw [hW1]; exact Tra.start w _ _ _
  have c0 := G1.c0
  have c1 := G1.c1
  have htr : Trc (w.heap.size + 1) (fun k => k = w.heap.size + 1) [] W1 := by rw [hW1]; exact Trc.start w _
  have hbg := begun_yes (w := W1) (ok := ok) cx CA cc (Sl.move hcx (Mv.of_below G1.b ok)) hcl IA ic pr (hin.move (Mv.of_below G1.b ok)) hpl hpm hc0 A ca ans (Sl.move hans (Mv.of_below G1.b ok)) hal hav (tells_trace (w.heap.size + 1)) (B := fun k => k = w.heap.size + 1) htr (fun k h1 h2 => by have := hokl k h1; omega)
  have HBG := Lib.hid hbg; clear hbg hc0 hav hpm htr hokl
  have HG1 := Lib.hid G1; clear G1
  have HW1 := Lib.hid hW1; clear hW1
  go_enter Try.func15, Try.ntmps15
  go_upto_region 2 with fail
  rw [← HW1.out]
  go_wp2_with (first | (go_at_call 22; (with_reducible refine HBG.out.mono ?_); rintro e W2 ⟨K', B', rfl, hown, hKb, hT, hkp, hBb⟩; obtain ⟨RL, V, HRL, HR1, HI, HL, HTP⟩ := trace_mid HG1.out hown hT hkp hBb; rw [← HRL.out]; clear hown hKb hT hkp hBb) | (refine wpList_store_new rfl 34 (.tmp 9) (.tmp 17) rfl Try.zeroCells34 RL.toArray rfl rfl HI.out HL.out HR1.out ?_; have c2 := (HTP.out.more2 RL.toArray).c2))
  go_ret2
  exact trace_end HTP.out RL.toArray
end Go.Proofs.Ytpnkbpjhbmacaaa
