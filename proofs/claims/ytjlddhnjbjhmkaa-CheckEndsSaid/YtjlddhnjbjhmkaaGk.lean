/- Layer 6: Behind and Join. -/
import Derived.Test.YtjlddhnjbjhmkaaGe
import Derived.Test.YtjlddhnjbjhmkaaGj
import Derived.Test.YtjlddhnjbjhmkaaGf
import Derived.Test.YtjlddhnjbjhmkaaGg
import Derived.Test.YtjlddhnjbjhmkaaGh
import Derived.Test.YtjlddhnjbjhmkaaGi
import Derived.Test.YtjlddhnjbjhmkaaGd
import Derived.Test.YtjlddhnjbjhmkaaGc
import Derived.Test.YtjlddhnjbjhmkaaGv
set_option linter.unusedVariables false
set_option linter.unusedSimpArgs false
namespace Go.Proofs.Ytjlddhnjbjhmkaa
open Go.RowKit

def BhPost (b : Bh) (e : Ending) : Prop := match b with
  | .ok n j => e = .returned (.tuple #[.agg (knL n).toArray, .agg (knL j).toArray])
  | .no why => e = .panicked (stopC why)
theorem equal_ok {w : World} {x : Nat} {i : Ins8} {ctx : Nat} {k : Kn} (hI : InB w x i ctx k) (hm : i.May) (hr : k.right) (hset : (k.r i.dst).s = true) :
    Calls Try.prog 41 #[.pointer (some ⟨x, 0, none⟩)] w fun e w' => e = .returned (.tuple #[.agg (knL (jeqN i k)).toArray, .agg (knL (jeqJ i k)).toArray]) ∧ Below w.heap.size w w' := by
  have hlg := (hr i.dst).1
  by_cases h1 : i.imm < (k.r i.dst).l ∨ (k.r i.dst).g < i.imm
  · exact equal_out hI hm hr hset _ _ rfl rfl h1
  by_cases h2 : i.imm = (k.r i.dst).l
  · by_cases h3 : (k.r i.dst).l = (k.r i.dst).g
    · exact equal_one hI hm hr hset _ _ rfl rfl ⟨h2, h3⟩
    · exact equal_lo hI hm hr hset _ _ rfl rfl ⟨h2, by omega⟩
  by_cases h3 : i.imm = (k.r i.dst).g
  · exact equal_hi hI hm hr hset _ _ rfl rfl ⟨h3, by omega⟩
  · exact equal_in hI hm hr hset _ _ rfl rfl ⟨by omega, by omega⟩
theorem less_ok {w : World} {x : Nat} {i : Ins8} {ctx : Nat} {k : Kn} (hI : InB w x i ctx k) (hm : i.May) (hr : k.right) (hop : i.op = 21 ∨ i.op = 22) (hset : (k.r i.dst).s = true) (hss : i.op = 22 → (k.r i.src).s = true) (hne : i.op = 22 → i.dst ≠ i.src) :
    Calls Try.prog 42 #[.pointer (some ⟨x, 0, none⟩)] w fun e w' => e = .returned (.tuple #[.agg (knL (jltN i k (k.r i.dst).sp (i.srcS k))).toArray, .agg (knL (jltJ i k (k.r i.dst).sp (i.srcS k))).toArray]) ∧ Below w.heap.size w w' := by
  have hlg := (hr i.dst).1
  have hs := (src_ok (i := i) (k := k) (by have := hm.imm; omega) hr).1
  by_cases hj : (k.r i.dst).l < (i.srcS k).g
  · by_cases hn : (i.srcS k).l ≤ (k.r i.dst).g
    · rcases hop with h | h
      · exact less_ijn hI hm hr (.inl h) hset hss hne h _ _ _ _ rfl rfl rfl rfl hj hn
      · exact less_rjn hI hm hr (.inr h) hset hss hne h _ _ _ _ rfl rfl rfl rfl hj hn
    · rcases hop with h | h
      · exact less_ij hI hm hr (.inl h) hset hss hne h _ _ _ _ rfl rfl rfl rfl hj hn
      · exact less_rj hI hm hr (.inr h) hset hss hne h _ _ _ _ rfl rfl rfl rfl hj hn
  · have hn : (i.srcS k).l ≤ (k.r i.dst).g := by omega
    rcases hop with h | h
    · exact less_in hI hm hr (.inl h) hset hss hne h _ _ _ _ rfl rfl rfl rfl hj hn
    · exact less_rn hI hm hr (.inr h) hset hss hne h _ _ _ _ rfl rfl rfl rfl hj hn
theorem bh_ok {P : Program} {f : FuncId} {args : Array Value} {w : World} {R : World → Prop} {n j : Kn} (h : Calls P f args w fun e w' => e = .returned (.tuple #[.agg (knL n).toArray, .agg (knL j).toArray]) ∧ R w') : Calls P f args w fun e w' => BhPost (.ok n j) e ∧ R w' := h
theorem bh_no {P : Program} {f : FuncId} {args : Array Value} {w : World} {R : World → Prop} {why : Nat} (h : Calls P f args w fun e w' => e = .panicked (stopC why) ∧ R w') : Calls P f args w fun e w' => BhPost (.no why) e ∧ R w' := h

theorem behindc_ok {w : World} {x : Nat} {i : Ins8} {ctx : Nat} {k : Kn} (hI : InB w x i ctx k) (hm : i.May) (h31 : i.op = 12 ∨ i.op = 13 → i.imm ≤ 31) (hr : k.right) (hctx : ctx ≤ 256) :
    Calls Try.prog 32 #[.pointer (some ⟨x, 0, none⟩)] w fun e w' => BhPost (behindC ctx i k) e ∧ Below w.heap.size w w' := by
  have hIW := fun W (hb : Below w.heap.size w W) => hI.below hb
  have sT : ∀ {b : Bool}, ¬ b = false → b = true := fun {b} h => by cases b; exact absurd rfl h; rfl
  unfold behindC
  by_cases q1 : i.op ≤ 15
  · rw [if_pos q1]
    unfold sumB
    by_cases a1 : 3 ≤ i.op ∧ (k.r i.dst).s = false
    · rw [if_pos a1]
      exact bh_no (behind_sum_not hI hm q1 161 (fun W hb => sum_unset_d (hIW W hb) hm a1.1 a1.2))
    rw [if_neg a1]
    have hd3 : 3 ≤ i.op → (k.r i.dst).s = true := fun h => sT (fun e => a1 ⟨h, e⟩)
    by_cases a2 : i.useImm = false ∧ (k.r i.src).s = false
    · rw [if_pos a2]
      exact bh_no (behind_sum_not hI hm q1 161 (fun W hb => sum_unset_s (hIW W hb) hm hr hd3 a2.1 a2.2))
    rw [if_neg a2]
    have hsrc : i.useImm = true ∨ (k.r i.src).s = true := by
      by_cases hu : i.useImm = true
      · exact .inl hu
      · exact .inr (sT (fun e => a2 ⟨by simpa using hu, e⟩))
    by_cases a3 : (i.op = 14 ∨ i.op = 15) ∧ (i.srcS k).l = 0
    · rw [if_pos a3]
      have hu : i.useImm = false := by rcases a3.1 with e | e <;> simp [Ins8.useImm, e]
      have hss : (k.r i.src).s = true := hsrc.resolve_left (by simp [hu])
      have hl : (k.r i.src).l = 0 := by have := a3.2; unfold Ins8.srcS at this; rw [hu] at this; exact this
      exact bh_no (behind_sum_not hI hm q1 162 (fun W hb => sum_zero (hIW W hb) hm hr a3.1 (hd3 (by omega)) hss hl))
    rw [if_neg a3]
    have h0 : i.op = 14 ∨ i.op = 15 → 0 < (i.srcS k).l := fun e => Nat.pos_of_ne_zero (fun e0 => a3 ⟨e, e0⟩)
    refine bh_ok (behind_sum hI hm q1 _ (fun W hb => ?_))
    by_cases a4 : i.op ≤ 2
    · rw [if_pos a4]
      exact sum_lo (hIW W hb) hm h31 hr q1 ⟨0, 0⟩ ⟨a4, rfl⟩ hsrc h0
    · rw [if_neg a4]
      have h3 : 3 ≤ i.op := by omega
      by_cases e14 : i.op = 14
      · exact sum_14 (hIW W hb) hm h31 hr q1 _ ⟨h3, hd3 h3, rfl⟩ e14 hsrc h0
      by_cases e15 : i.op = 15
      · exact sum_15 (hIW W hb) hm h31 hr q1 _ ⟨h3, hd3 h3, rfl⟩ e15 hsrc h0
      · exact sum_mid (hIW W hb) hm h31 hr q1 _ ⟨h3, hd3 h3, rfl⟩ (fun e => e.elim e14 e15) hsrc h0
  rw [if_neg q1]
  by_cases q2 : i.op = 16
  · rw [if_pos q2]
    unfold ldB
    by_cases a1 : (k.r i.src).s = false
    · rw [if_pos a1]; exact bh_no (behind_ld16_unset hI hm q2 a1)
    rw [if_neg a1]
    by_cases a2 : 0 ≤ ((k.r i.src).l : Int) + i.off ∧ ((k.r i.src).g : Int) + i.off < ctx
    · rw [if_pos a2]; exact bh_ok (behind_ld16 hI hm hr q2 hctx (sT a1) a2)
    · rw [if_neg a2]; exact bh_no (behind_ld16_out hI hm hr q2 hctx (sT a1) a2)
  rw [if_neg q2]
  by_cases q3 : i.op = 17
  · rw [if_pos q3]
    unfold ldB
    by_cases a1 : (k.r i.src).s = false
    · rw [if_pos a1]; exact bh_no (behind_ld17_unset hI hm q3 a1)
    rw [if_neg a1]
    by_cases a2 : 0 ≤ ((k.r i.src).l : Int) + i.off ∧ ((k.r i.src).g : Int) + i.off < (64 : Nat)
    · rw [if_pos a2]; exact bh_ok (behind_ld17 hI hm hr q3 (sT a1) a2)
    · rw [if_neg a2]; exact bh_no (behind_ld17_out hI hm hr q3 (sT a1) a2)
  rw [if_neg q3]
  by_cases q4 : i.op = 18
  · rw [if_pos q4]
    unfold stsB
    by_cases a1 : (k.r i.dst).s = false
    · rw [if_pos a1]; exact bh_no (behind_st_d hI hm q4 a1)
    rw [if_neg a1]
    by_cases a0 : (k.r i.src).s = false
    · rw [if_pos a0]; exact bh_no (behind_st_s hI hm hr q4 (sT a1) a0)
    rw [if_neg a0]
    by_cases a2 : 0 ≤ ((k.r i.dst).l : Int) + i.off ∧ ((k.r i.dst).g : Int) + i.off < 64
    · rw [if_pos a2]; exact bh_ok (behind_st hI hm hr q4 (sT a1) (sT a0) a2)
    · rw [if_neg a2]; exact bh_no (behind_st_out hI hm hr q4 (sT a1) (sT a0) a2)
  rw [if_neg q4]
  by_cases q5 : i.op = 19
  · rw [if_pos q5]; exact bh_ok (behind_ja hI hm q5)
  rw [if_neg q5]
  by_cases q6 : i.op = 20
  · rw [if_pos q6]
    unfold jeqB
    by_cases a1 : (k.r i.dst).s = false
    · rw [if_pos a1]; exact bh_no (behind_eq_not hI hm q6 161 (fun W hb => equal_not (hIW W hb) hm a1))
    rw [if_neg a1]
    exact bh_ok (behind_eq hI hm q6 _ _ (fun W hb => equal_ok (hIW W hb) hm hr (sT a1)))
  rw [if_neg q6]
  by_cases q7 : i.op ≤ 22
  · rw [if_pos q7]
    have hop : i.op = 21 ∨ i.op = 22 := by have := hm.op1; omega
    unfold jltB
    by_cases a1 : (k.r i.dst).s = false
    · rw [if_pos a1]
      rcases hop with h | h
      · exact bh_no (behind_lti_not hI hm h 161 (fun W hb => less_unset_d (hIW W hb) hm a1))
      · exact bh_no (behind_lt_not hI hm h 161 (fun W hb => less_unset_d (hIW W hb) hm a1))
    rw [if_neg a1]
    by_cases a2 : i.op = 22 ∧ (k.r i.src).s = false
    · rw [if_pos a2]
      exact bh_no (behind_lt_not hI hm a2.1 161 (fun W hb => less_unset_s (hIW W hb) hm hr (sT a1) (by simp [Ins8.useImm, a2.1]) a2.2))
    rw [if_neg a2]
    have hss : i.op = 22 → (k.r i.src).s = true := fun h => sT (fun e => a2 ⟨h, e⟩)
    by_cases a3 : i.op = 22 ∧ i.dst = i.src
    · rw [if_pos a3]
      exact bh_ok (behind_lt hI hm a3.1 _ _ (fun W hb => less_same (hIW W hb) hm hr (.inr a3.1) (sT a1) hss a3.2 a3.1 _ _ _ _ rfl rfl rfl rfl))
    rw [if_neg a3]
    have hne : i.op = 22 → i.dst ≠ i.src := fun h e => a3 ⟨h, e⟩
    rcases hop with h | h
    · exact bh_ok (behind_lti hI hm h _ _ (fun W hb => less_ok (hIW W hb) hm hr (.inl h) (sT a1) hss hne))
    · exact bh_ok (behind_lt hI hm h _ _ (fun W hb => less_ok (hIW W hb) hm hr (.inr h) (sT a1) hss hne))
  rw [if_neg q7]
  by_cases q8 : i.op = 23
  · rw [if_pos q8]; exact bh_ok (behind_call hI hm q8)
  rw [if_neg q8]
  have q9 : i.op = 24 := by have := hm.op2; omega
  by_cases a1 : (k.r 0).s = false
  · rw [if_pos a1]; exact bh_no (behind_exit_not hI hm q9 a1)
  · rw [if_neg a1]; exact bh_ok (behind_exit hI hm hr q9 (sT a1))
end Go.Proofs.Ytjlddhnjbjhmkaa
namespace Go.Proofs.Ytjlddhnjbjhmkaa
open Go.RowKit

theorem results_cell3_range {P : Program} {fn : Func} {p q r : Tmp} {ty t3 : TypeId} (h : fn.results = #[.cell p ty, .cell q ty, .cell r t3]) (tmps : Array Value) (w : World) (g g2 : Nat) (g3 : Addr) (v : Value) (cs ds : List Value) (d : TypeDesc)
    (hp : tmps.getD p undef = .pointer (some ⟨g, 0, none⟩)) (hq : tmps.getD q undef = .pointer (some ⟨g2, 0, none⟩)) (hr : tmps.getD r undef = .pointer (some g3)) (hc : w.rangeAt g 0 cs) (hc2 : w.rangeAt g2 0 ds) (hc3 : (loadVar t3 g3).run P w = .ok v w) (hu : P.underlying ty = some d) (hd : d.isRow = true) (hi : (P.info? ty).map (·.size) = some cs.length) (hi2 : (P.info? ty).map (·.size) = some ds.length) :
    (results fn tmps).run P w = .ok (.tuple #[.agg cs.toArray, .agg ds.toArray, v]) w := by
  have hp' : tmps[p]?.getD undef = .pointer (some ⟨g, 0, none⟩) := by simpa using hp
  have hq' : tmps[q]?.getD undef = .pointer (some ⟨g2, 0, none⟩) := by simpa using hq
  have hr' : tmps[r]?.getD undef = .pointer (some g3) := by simpa using hr
  simp [results, h, hp', hq', hr', asAddr, run_loadVar_mid w g 0 ty cs d hc hu hd hi, run_loadVar_mid w g2 0 ty ds d hc2 hu hd hi2, hc3]
theorem load_errno {w : World} {g3 : Addr} {v : Value} (h : w.cell? g3 = some v) : (loadVar 27 g3).run Try.prog w = .ok v w := by
  simp [loadVar, go_sem, h]
theorem may_of {i : Ins8} (h : mayB i.z = true) : i.May ∧ (i.op = 12 ∨ i.op = 13 → i.imm ≤ 31) := by
  constructor
  · obtain ⟨j, hj, hm⟩ := may_ins h
    obtain ⟨a, b, c, d, e⟩ := i
    obtain ⟨a', b', c', d', e'⟩ := j
    simp only [Ins8.z, InsZ.mk.injEq] at hj
    obtain ⟨h1, h2, h3, h4, h5⟩ := hj
    have e1 : a = a' := by omega
    have e2 : b = b' := by omega
    have e3 : c = c' := by omega
    subst e1 e2 e3 h4 h5
    exact hm
  · intro ho
    simp only [mayB, mayN, Bool.and_eq_true, decide_eq_true_eq] at h
    obtain ⟨_, _, _, _, _, h6⟩ := h
    have e : i.z.op.toNat = i.op := by show ((i.op : Int)).toNat = i.op; omega
    rw [e] at h6
    have : mostN i.op = 31 := by rcases ho with e | e <;> rw [e] <;> rfl
    rw [this] at h6
    exact h6
theorem check_one {i : Ins8} {ctx : Nat} (h : mayB i.z = true) (hc : ctx ≤ 256) : checkN (ctx : Int) [i.z] = 0 := by
  unfold checkN
  rw [if_neg (by omega)]
  simp [h]
theorem bs_ins (i : Ins8) (w : World) : (Instr.buildSlice 22 1 #[(0, .agg #[.int .i64 (i.op : Int), .int .i64 (i.dst : Int), .int .i64 (i.src : Int), .int .i64 i.off, .int .u32 (i.imm : Int)])]).run Try.prog w = .ok (.slice (some ⟨w.heap.size, 0, none⟩) 1 1) (w.alloc (.cells #[.int .i64 (i.op : Int), .int .i64 (i.dst : Int), .int .i64 (i.src : Int), .int .i64 i.off, .int .u32 (i.imm : Int)] 45)) := by kernel_rfl

theorem cstop_is (why : Int) (w : World) : (binOp .eql 20 (.iface 89 (.agg #[.int .i64 why])) .nilIface).run Try.prog w = .ok (.bool false) w := by kernel_rfl
theorem cstop_none (w : World) : (binOp .eql 20 .nilIface .nilIface).run Try.prog w = .ok (.bool true) w := by kernel_rfl
theorem cstop_as (v : Value) (w : World) : (Instr.typeAssert (.iface 89 v) 20 89 true).run Try.prog w = .ok (.tuple #[v, .bool true]) w := by kernel_rfl

theorem caught_idle (b : Nat) (w : World) :
    CallsD Try.prog 31 #[.pointer (some ⟨b, 0, none⟩)] .returning w fun e u' w' => e = .returned (.tuple #[]) ∧ u' = .returning ∧ w' = w := by
  have h1 := cstop_none
  refine callsD_of_wpS Try.func31 rfl fun c₀ cs hu => ?_
  apply wpS_seq
  apply wpS_region
  simp [wpOpsS, go_sem, recoverD, hu, Try.ntmps31, Exit.thenS]
  refine wpS_of_wp ?_
  go_wp2
  cases c₀
  simp_all [bodyPostS, results, Try.results31]

set_option maxRecDepth 100000 in
set_option maxHeartbeats 400000 in
theorem caught_stop (b : Nat) (why : Int) (w : World) {c : Value} (hc : w.cell? ⟨b, 0, none⟩ = some c) (hf : w.frozen? ⟨b, 0, none⟩ = false) (hb : b < w.heap.size) :
    CallsD Try.prog 31 #[.pointer (some ⟨b, 0, none⟩)] (.panicking (stopC why)) w fun e u' w' =>
      e = .returned (.tuple #[]) ∧ settle u' = .returning ∧ w' = (w.setCell ⟨b, 0, none⟩ (.int .i64 why)).alloc (.cells #[.int .i64 why] 89) := by
  unfold stopC
  refine callsD_of_wpS Try.func31 rfl fun c₀ cs hu => ?_
  apply wpS_seq
  apply wpS_region
  simp [wpOpsS, go_sem, recoverD, hu, Try.ntmps31, Exit.thenS]
  have HU := Lib.hid hu; clear hu
  refine wpS_of_wp ?_
  rw [show (#[Value.pointer (some ⟨b, 0, none⟩)] ++ (Array.replicate 14 undef).setIfInBounds 4 (Value.iface 89 (Value.agg #[Value.int IntKind.i64 why]))) = #[Value.pointer (some ⟨b, 0, none⟩), undef, undef, undef, undef, Value.iface 89 (Value.agg #[Value.int IntKind.i64 why]), undef, undef, undef, undef, undef, undef, undef, undef, undef] from rfl]
  have h1 := cstop_is why
  have h2 := cstop_as
  go_wp2
  cases c₀
  simp [bodyPostS, results, Try.results31, settle, go_sem]

theorem reset_idle (b n j : Nat) (w : World) (he : w.cell? ⟨b, 0, none⟩ = some (.int .i64 0)) :
    CallsD Try.prog 30 #[.pointer (some ⟨b, 0, none⟩), .pointer (some ⟨n, 0, none⟩), .pointer (some ⟨j, 0, none⟩)] .returning w fun e u' w' => e = .returned (.tuple #[]) ∧ u' = .returning ∧ w' = w := by
  refine (callsD_of_wp (R := fun e w' => e = .returned (.tuple #[]) ∧ w' = w) Try.func30 rfl ?_).mono (fun e u' w' ⟨h1, h2, h3⟩ => ⟨h2, h1, h3⟩)
  rw [show (#[Value.pointer (some ⟨b, 0, none⟩), .pointer (some ⟨n, 0, none⟩), .pointer (some ⟨j, 0, none⟩)] ++ Array.replicate (Try.f30.ntmps - #[Value.pointer (some ⟨b, 0, none⟩), .pointer (some ⟨n, 0, none⟩), .pointer (some ⟨j, 0, none⟩)].size) undef) = #[.pointer (some ⟨b, 0, none⟩), .pointer (some ⟨n, 0, none⟩), .pointer (some ⟨j, 0, none⟩), undef, undef, undef, undef] from rfl]
  go_wp2
  go_end0
  exact ⟨rfl, rfl⟩
set_option maxRecDepth 100000 in
set_option maxHeartbeats 400000 in
theorem reset_all (b n : Nat) (why : Int) (w : World) (F G : Nat → Value) (he : w.cell? ⟨b, 0, none⟩ = some (.int .i64 why)) (hw : why ≠ 0) (hn : Blk w n 42 31 F) (hj : Blk w (n + 1) 42 31 G) :
    CallsD Try.prog 30 #[.pointer (some ⟨b, 0, none⟩), .pointer (some ⟨n, 0, none⟩), .pointer (some ⟨n + 1, 0, none⟩)] .returning w fun e u' w' => e = .returned (.tuple #[]) ∧ u' = .returning ∧ w' = (w.setCells n 0 (rowF 31 (knF kn0))).setCells (n + 1) 0 (rowF 31 (knF kn0)) := by
  refine (callsD_of_wp (R := fun e w' => e = .returned (.tuple #[]) ∧ w' = (w.setCells n 0 (rowF 31 (knF kn0))).setCells (n + 1) 0 (rowF 31 (knF kn0))) Try.func30 rfl ?_).mono (fun e u' w' ⟨h1, h2, h3⟩ => ⟨h2, h1, h3⟩)
  rw [show (#[Value.pointer (some ⟨b, 0, none⟩), .pointer (some ⟨n, 0, none⟩), .pointer (some ⟨n + 1, 0, none⟩)] ++ Array.replicate (Try.f30.ntmps - #[Value.pointer (some ⟨b, 0, none⟩), .pointer (some ⟨n, 0, none⟩), .pointer (some ⟨n + 1, 0, none⟩)].size) undef) = #[.pointer (some ⟨b, 0, none⟩), .pointer (some ⟨n, 0, none⟩), .pointer (some ⟨n + 1, 0, none⟩), undef, undef, undef, undef] from rfl]
  have hne : (why == 0) = false := by simpa using hw
  have HN := Lib.hid hn; have HJ := Lib.hid hj; clear hn hj
  have HJ2 : Hid (Blk (w.setCells n 0 (knL kn0)) (n + 1) 42 31 G) := Lib.hid (HJ.out.keep (Kp.setCells (M := fun b => b = n) (.inl rfl) _ _ _ (Kp.refl _ _)) (by omega))
  go_upto_region 1 with fail
  refine wp_region_list ?_
  refine wpList_val0 (.agg (knL kn0).toArray) rfl (by kernel_rfl) ?_
  refine wpList_val0 (.agg (knL kn0).toArray) rfl (by kernel_rfl) ?_
  refine wpList_store_mid rfl 42 (.tmp 1) (.tmp 5) (by kernel_rfl) n 0 (knL kn0).toArray (by kernel_rfl) (by kernel_rfl) (by rw [knA_size]; exact there_blk HN.out) (by rw [knA_size]; exact info_kn) (knL_one _) ?_
  refine wpList_store_mid rfl 42 (.tmp 2) (.tmp 6) (by kernel_rfl) (n + 1) 0 (knL kn0).toArray (by kernel_rfl) (by kernel_rfl) (by rw [knA_size]; exact there_blk HJ2.out) (by rw [knA_size]; exact info_kn) (knL_one _) ?_
  go_wp2
  go_end0
  exact ⟨rfl, rfl⟩

/-- The worlds of Behind: its results, in blocks r, r + 1 and r + 2. -/
structure Bd (w : World) (r : Nat) (N J : Nat → Value) (e : Int) (W : World) : Prop where
  t : Tw w r N J W
  z : r + 3 ≤ W.heap.size
  e : Blk W (r + 2) 27 1 (fun _ => .int .i64 e)
theorem Bd.more {w : World} {r : Nat} {N J : Nat → Value} {e : Int} {W W1 : World} (h : Bd w r N J e W) (hb : Below W.heap.size W W1) : Bd w r N J e W1 :=
  ⟨h.t.more hb, by have := hb.size; have := h.z; omega, h.e.below hb⟩
theorem Bd.setn {w : World} {r : Nat} {N J : Nat → Value} {e : Int} {W : World} (h : Bd w r N J e W) (F : Nat → Value) : Bd w r F J e (W.setCells r 0 (rowF 31 F)) := by
  have hk : Kp (fun b => b = r) W (W.setCells r 0 (rowF 31 F)) := Kp.setCells (M := fun b => b = r) (.inl rfl) _ _ _ (Kp.refl _ _)
  exact ⟨h.t.setn F, by have := hk.size; have := h.z; omega, h.e.keep hk (by omega)⟩
theorem Bd.setj {w : World} {r : Nat} {N J : Nat → Value} {e : Int} {W : World} (h : Bd w r N J e W) (F : Nat → Value) : Bd w r N F e (W.setCells (r + 1) 0 (rowF 31 F)) := by
  have hk : Kp (fun b => b = r + 1) W (W.setCells (r + 1) 0 (rowF 31 F)) := Kp.setCells (M := fun b => b = r + 1) (.inl rfl) _ _ _ (Kp.refl _ _)
  exact ⟨h.t.setj F, by have := hk.size; have := h.z; omega, h.e.keep hk (by omega)⟩
theorem Bd.sete {w : World} {r : Nat} {N J : Nat → Value} {e : Int} {W : World} (h : Bd w r N J e W) (e2 : Int) : Bd w r N J e2 (W.setCell ⟨r + 2, 0, none⟩ (.int .i64 e2)) := by
  have hk : Kp (fun b => b = r + 2) W (W.setCell ⟨r + 2, 0, none⟩ (.int .i64 e2)) := (Kp.refl (fun b => b = r + 2) W).setCell (p := ⟨r + 2, 0, none⟩) (.inl rfl) _
  exact ⟨h.t.setb (r + 2) 0 (by omega) _, by have := hk.size; have := h.z; omega, (h.e.set 0 _).congr (fun j hj => if_pos (by omega))⟩
theorem Bd.c {w : World} {r : Nat} {N J : Nat → Value} {e : Int} {W : World} (h : Bd w r N J e W) : W.cell? ⟨r + 2, 0, none⟩ = some (.int .i64 e) := h.e.cell 0 (by omega)
theorem Bd.res {w : World} {r : Nat} {n j : Kn} {e : Int} {W : World} (h : Bd w r (knF n) (knF j) e W) (tm : Array Value) (h1 : tm.getD 6 undef = .pointer (some ⟨r, 0, none⟩)) (h2 : tm.getD 7 undef = .pointer (some ⟨r + 1, 0, none⟩)) (h3 : tm.getD 8 undef = .pointer (some ⟨r + 2, 0, none⟩)) :
    (results Try.f18 tm).run Try.prog W = .ok (.tuple #[.agg (knL n).toArray, .agg (knL j).toArray, .int .i64 e]) W :=
  results_cell3_range Try.results18 tm W r (r + 1) ⟨r + 2, 0, none⟩ _ _ _ _ h1 h2 h3 h.t.n.range h.t.j.range (load_errno h.c) Try.underlying42 rfl (by rw [knL_length]; exact info_kn) (by rw [knL_length]; exact info_kn)
/-- What Behind defers, with what it went on with. -/
theorem behind_leave {w : World} {r : Nat} {n j : Kn} {W : World} (h : Bd w r (knF n) (knF j) 0 W) (tm : Array Value) (h1 : tm.getD 6 undef = .pointer (some ⟨r, 0, none⟩)) (h2 : tm.getD 7 undef = .pointer (some ⟨r + 1, 0, none⟩)) (h3 : tm.getD 8 undef = .pointer (some ⟨r + 2, 0, none⟩)) :
    Leaves Try.prog Try.f18 tm (fun e w' => e = .returned (.tuple #[.agg (knL n).toArray, .agg (knL j).toArray, .int .i64 0]) ∧ Below w.heap.size w w')
      [{ target := .fn (.func 31) #[], args := #[.pointer (some ⟨r + 2, 0, none⟩)] }, { target := .fn (.func 30) #[.pointer (some ⟨r + 2, 0, none⟩), .pointer (some ⟨r, 0, none⟩), .pointer (some ⟨r + 1, 0, none⟩)], args := #[] }] .returning W := by
  refine leaves_cons (f := 31) (args := #[.pointer (some ⟨r + 2, 0, none⟩)]) (by simp) (by simp [go_sem]) ?_
  refine (caught_idle (r + 2) W).mono ?_
  rintro e u' w'' ⟨rfl, rfl, rfl⟩
  refine leaves_cons (f := 30) (args := #[.pointer (some ⟨r + 2, 0, none⟩), .pointer (some ⟨r, 0, none⟩), .pointer (some ⟨r + 1, 0, none⟩)]) (by simp [settle]) (by simp [go_sem]) ?_
  refine (reset_idle (r + 2) r (r + 1) w'' h.c).mono ?_
  rintro e u' w3 ⟨rfl, rfl, rfl⟩
  exact ⟨_, h.res tm h1 h2 h3, rfl, h.t.b⟩
theorem behind_leave_stop {w : World} {r : Nat} {n j : Kn} {W : World} {e0 : Int} (h : Bd w r (knF n) (knF j) e0 W) (why : Int) (hw : why ≠ 0) (tm : Array Value) (h1 : tm.getD 6 undef = .pointer (some ⟨r, 0, none⟩)) (h2 : tm.getD 7 undef = .pointer (some ⟨r + 1, 0, none⟩)) (h3 : tm.getD 8 undef = .pointer (some ⟨r + 2, 0, none⟩)) :
    Leaves Try.prog Try.f18 tm (fun e w' => e = .returned (.tuple #[.agg (knL kn0).toArray, .agg (knL kn0).toArray, .int .i64 why]) ∧ Below w.heap.size w w')
      [{ target := .fn (.func 31) #[], args := #[.pointer (some ⟨r + 2, 0, none⟩)] }, { target := .fn (.func 30) #[.pointer (some ⟨r + 2, 0, none⟩), .pointer (some ⟨r, 0, none⟩), .pointer (some ⟨r + 1, 0, none⟩)], args := #[] }] (.panicking (stopC why)) W := by
  have hl : r + 2 < W.heap.size := by have := h.z; omega
  refine leaves_cons (f := 31) (args := #[.pointer (some ⟨r + 2, 0, none⟩)]) (by simp) (by simp [go_sem]) ?_
  refine (caught_stop (r + 2) why W h.c (h.e.frozen 0) hl).mono ?_
  rintro e u' w'' ⟨rfl, hu, rfl⟩
  show Leaves _ _ _ _ _ (settle u') _
  rw [hu]
  have H2 := (h.sete why).more ((Below.refl _ _).alloc (Nat.le_refl _) (.cells #[.int .i64 why] 89))
  refine leaves_cons (f := 30) (args := #[.pointer (some ⟨r + 2, 0, none⟩), .pointer (some ⟨r, 0, none⟩), .pointer (some ⟨r + 1, 0, none⟩)]) (by simp) (by simp [go_sem]) ?_
  refine (reset_all (r + 2) r why _ _ _ H2.c hw H2.t.n H2.t.j).mono ?_
  rintro e u' w3 ⟨rfl, rfl, rfl⟩
  have H4 := (H2.setn (knF kn0)).setj (knF kn0)
  exact ⟨_, H4.res tm h1 h2 h3, rfl, H4.t.b⟩
end Go.Proofs.Ytjlddhnjbjhmkaa
namespace Go.Proofs.Ytjlddhnjbjhmkaa
open Go.RowKit

def bhV (b : Bh) : Value := match b with
  | .ok n j => .tuple #[.agg (knL n).toArray, .agg (knL j).toArray, .int .i64 0]
  | .no why => .tuple #[.agg (knL kn0).toArray, .agg (knL kn0).toArray, .int .i64 (why : Int)]
theorem behindC_why {ctx : Nat} {i : Ins8} {k : Kn} {why : Nat} (h : behindC ctx i k = .no why) : why ≠ 0 := by
  unfold behindC sumB ldB stsB jeqB jltB at h
  intro h0
  subst h0
  repeat' split at h
  all_goals first | cases h | (injection h with h; omega)
theorem kn_box (w : World) (i : Ins8) (k : Kn) (L : Array Value) (hL : L = (knL k).toArray) : ∃ W, Hid (W = (((((w.alloc (.cells #[.int .i64 (i.op : Int), .int .i64 (i.dst : Int), .int .i64 (i.src : Int), .int .i64 i.off, .int .u32 (i.imm : Int)] 45)).alloc (.cells L 42)).alloc (.cells #[.bool false, .bool false, .int .u32 0, .int .u32 0, .bool false, .int .u32 0, .int .u32 0, .bool false, .int .u32 0, .int .u32 0, .bool false, .int .u32 0, .int .u32 0, .bool false, .int .u32 0, .int .u32 0, .bool false, .int .u32 0, .int .u32 0, .bool false, .int .u32 0, .int .u32 0, .bool false, .int .u32 0, .int .u32 0, .bool false, .int .u32 0, .int .u32 0, .bool false, .int .u32 0, .int .u32 0] 42)).alloc (.cells #[.bool false, .bool false, .int .u32 0, .int .u32 0, .bool false, .int .u32 0, .int .u32 0, .bool false, .int .u32 0, .int .u32 0, .bool false, .int .u32 0, .int .u32 0, .bool false, .int .u32 0, .int .u32 0, .bool false, .int .u32 0, .int .u32 0, .bool false, .int .u32 0, .int .u32 0, .bool false, .int .u32 0, .int .u32 0, .bool false, .int .u32 0, .int .u32 0, .bool false, .int .u32 0, .int .u32 0] 42)).alloc (.cells #[.int .i64 0] 27))) ∧ Hid (Bd w (w.heap.size + 2) (knF kn0) (knF kn0) 0 W) ∧ Hid (Blk W (w.heap.size + 1) 42 31 (knF k)) ∧ Hid (W.rangeAt w.heap.size 0 [.int .i64 (i.op : Int), .int .i64 (i.dst : Int), .int .i64 (i.src : Int), .int .i64 i.off, .int .u32 (i.imm : Int)]) := by
  refine ⟨_, Lib.hid rfl, Lib.hid ?_, Lib.hid ?_, Lib.hid ?_⟩
  · obtain ⟨Wa, hWa⟩ : ∃ Wa, Wa = (w.alloc (.cells #[.int .i64 (i.op : Int), .int .i64 (i.dst : Int), .int .i64 (i.src : Int), .int .i64 i.off, .int .u32 (i.imm : Int)] 45)).alloc (.cells L 42) := ⟨_, rfl⟩
    have hba : Below w.heap.size w Wa := by rw [hWa]; exact ((Below.refl _ _).alloc (Nat.le_refl _) _).alloc (by simp <;> omega) _
    have hza : Wa.heap.size = w.heap.size + 2 := by rw [hWa]; simp
    rw [← hWa]
    have T := Tw.start Wa
    rw [← hza]
    refine ⟨⟨?_, by rw [hza]; omega, ?_, T.n.below ?_, T.j.below ?_⟩, ?_, ?_⟩
    · exact hba.trans (((T.b.alloc (by simp <;> omega) _)).mono (by omega))
    · simp
    · exact (Below.refl _ _).alloc (Nat.le_refl _) _
    · exact (Below.refl _ _).alloc (Nat.le_refl _) _
    · simp
    · have := Blk.new ((Wa.alloc (.cells #[.bool false, .bool false, .int .u32 0, .int .u32 0, .bool false, .int .u32 0, .int .u32 0, .bool false, .int .u32 0, .int .u32 0, .bool false, .int .u32 0, .int .u32 0, .bool false, .int .u32 0, .int .u32 0, .bool false, .int .u32 0, .int .u32 0, .bool false, .int .u32 0, .int .u32 0, .bool false, .int .u32 0, .int .u32 0, .bool false, .int .u32 0, .int .u32 0, .bool false, .int .u32 0, .int .u32 0] 42)).alloc (.cells #[.bool false, .bool false, .int .u32 0, .int .u32 0, .bool false, .int .u32 0, .int .u32 0, .bool false, .int .u32 0, .int .u32 0, .bool false, .int .u32 0, .int .u32 0, .bool false, .int .u32 0, .int .u32 0, .bool false, .int .u32 0, .int .u32 0, .bool false, .int .u32 0, .int .u32 0, .bool false, .int .u32 0, .int .u32 0, .bool false, .int .u32 0, .int .u32 0, .bool false, .int .u32 0, .int .u32 0] 42)) 27 #[.int .i64 0] 1 rfl (fun _ => .int .i64 0) (fun j hj => (by have h0 : j = 0 := Nat.lt_one_iff.1 hj; subst h0; rfl))
      simpa using this
  · have := Blk.boxed (w.alloc (.cells #[.int .i64 (i.op : Int), .int .i64 (i.dst : Int), .int .i64 (i.src : Int), .int .i64 i.off, .int .u32 (i.imm : Int)] 45)) 42 31 (knF k)
    rw [hL]
    refine Blk.below (Blk.below (Blk.below (w := (w.alloc (.cells #[.int .i64 (i.op : Int), .int .i64 (i.dst : Int), .int .i64 (i.src : Int), .int .i64 i.off, .int .u32 (i.imm : Int)] 45)).alloc (.cells (knL k).toArray 42)) ?_ ((Below.refl _ _).alloc (Nat.le_refl _) _)) ((Below.refl _ _).alloc (Nat.le_refl _) _)) ((Below.refl _ _).alloc (Nat.le_refl _) _)
    simpa [knL] using this
  · have hB : Blk (w.alloc (.cells #[.int .i64 (i.op : Int), .int .i64 (i.dst : Int), .int .i64 (i.src : Int), .int .i64 i.off, .int .u32 (i.imm : Int)] 45)) w.heap.size 45 5 (fun j => [.int .i64 (i.op : Int), .int .i64 (i.dst : Int), .int .i64 (i.src : Int), .int .i64 i.off, .int .u32 (i.imm : Int)].getD j undef) := Blk.new w 45 _ 5 rfl _ (fun j hj => by
      have : j = 0 ∨ j = 1 ∨ j = 2 ∨ j = 3 ∨ j = 4 := by omega
      rcases this with rfl | rfl | rfl | rfl | rfl <;> rfl)
    have hB2 := (((hB.below ((Below.refl _ _).alloc (Nat.le_refl _) (.cells L 42))).below ((Below.refl _ _).alloc (Nat.le_refl _) (.cells #[.bool false, .bool false, .int .u32 0, .int .u32 0, .bool false, .int .u32 0, .int .u32 0, .bool false, .int .u32 0, .int .u32 0, .bool false, .int .u32 0, .int .u32 0, .bool false, .int .u32 0, .int .u32 0, .bool false, .int .u32 0, .int .u32 0, .bool false, .int .u32 0, .int .u32 0, .bool false, .int .u32 0, .int .u32 0, .bool false, .int .u32 0, .int .u32 0, .bool false, .int .u32 0, .int .u32 0] 42))).below ((Below.refl _ _).alloc (Nat.le_refl _) (.cells #[.bool false, .bool false, .int .u32 0, .int .u32 0, .bool false, .int .u32 0, .int .u32 0, .bool false, .int .u32 0, .int .u32 0, .bool false, .int .u32 0, .int .u32 0, .bool false, .int .u32 0, .int .u32 0, .bool false, .int .u32 0, .int .u32 0, .bool false, .int .u32 0, .int .u32 0, .bool false, .int .u32 0, .int .u32 0, .bool false, .int .u32 0, .int .u32 0, .bool false, .int .u32 0, .int .u32 0] 42))).below ((Below.refl _ _).alloc (Nat.le_refl _) (.cells #[.int .i64 0] 27))
    exact hB2.range
theorem Bd.finn {w : World} {r : Nat} {N J : Nat → Value} {e : Int} {W : World} (h : Bd w r N J e W) (n : Kn) : ∃ W3, Hid (W3 = W.setCells r 0 (knL n)) ∧ Hid (Bd w r (knF n) J e W3) := ⟨_, Lib.hid rfl, Lib.hid (h.setn (knF n))⟩
theorem Bd.finj {w : World} {r : Nat} {N J : Nat → Value} {e : Int} {W : World} (h : Bd w r N J e W) (n : Kn) : ∃ W3, Hid (W3 = W.setCells (r + 1) 0 (knL n)) ∧ Hid (Bd w r N (knF n) e W3) := ⟨_, Lib.hid rfl, Lib.hid (h.setj (knF n))⟩
theorem exec_build3 {o : Oper} {ac : Act} {w : World} (ty : TypeId) (x0 x1 x2 : Operand) (ho : o.op = .build ty #[(0, x0), (1, x1), (2, x2)]) (v0 v1 v2 : Value) (h0 : ac.eval x0 = v0) (h1 : ac.eval x1 = v1) (h2 : ac.eval x2 = v2) (v : Value)
    (h : (Instr.build ty #[(0, v0), (1, v1), (2, v2)]).run Try.prog w = .ok v w) : (execOp ac.eval o).run Try.prog w = .ok (.value v) w := by
  unfold execOp
  simp only [ho, List.map_toArray, List.map_cons, List.map_nil, h0, h1, h2, Sem.run_bind, h]
  rfl
theorem bs_box (i : Ins8) (ctx : Nat) (k : Kn) (W : World) : (Instr.build 79 #[(0, .agg #[.int .i64 (i.op : Int), .int .i64 (i.dst : Int), .int .i64 (i.src : Int), .int .i64 i.off, .int .u32 (i.imm : Int)]), (1, .int .i64 (ctx : Int)), (2, .agg (knL k).toArray)]).run Try.prog W = .ok (.agg (rowF 37 (insF i ctx k)).toArray) W := by
  kernel_rfl

set_option maxRecDepth 100000 in
set_option maxHeartbeats 1500000 in
theorem behind_not (w : World) (i : Ins8) (ctx : Nat) (k : Kn) (hmb : mayB i.z = true) (hr : k.right) (hctx : ctx ≤ 256) (hc : k.come = false) :
    Calls Try.prog 18 #[.agg #[.int .i64 (i.op : Int), .int .i64 (i.dst : Int), .int .i64 (i.src : Int), .int .i64 i.off, .int .u32 (i.imm : Int)], .int .i64 (ctx : Int), .agg (knL k).toArray] w fun e w' => e = .returned (.tuple #[.agg (knL kn0).toArray, .agg (knL kn0).toArray, .int .i64 0]) ∧ Below w.heap.size w w' := by
  obtain ⟨hm, h31⟩ := may_of hmb
  obtain ⟨L, hL⟩ : ∃ L, L = (knL k).toArray := ⟨_, rfl⟩
  obtain ⟨W1, HW1, HB1, HK1, HI1⟩ := kn_box w i k L hL
  have HL := Lib.hid hL
  have hck : checkN (ctx : Int) [i.z] = 0 := check_one hmb hctx
  have HCK : Hid (∀ (W : World) (A : Option Addr) (c : Nat), Sl W Any 5 A 1 c [.int .i64 (i.op : Int), .int .i64 (i.dst : Int), .int .i64 (i.src : Int), .int .i64 i.off, .int .u32 (i.imm : Int)] → Calls Try.prog 24 #[.agg #[.int .i64 (ctx : Int), .slice A 1 c]] W fun e w' => e = .returned (.int .i64 0) ∧ Below W.heap.size W w') := Lib.hid (fun W A c hs => by have := check_ok W (ctx : Int) A c [i.z] hs (by simp); rw [hck] at this; exact this)
  have hbs := Lib.hid (bs_ins i)
  have HRT := Lib.hid (fun W => right_ok W k hr)
  have hcf : W1.cell? ⟨w.heap.size + 1, 0, none⟩ = some (.bool k.come) := HK1.out.cell 0 (by omega)
  have HMF : Hid (∀ (fn : Fn) (first cap : Array Value) (w : World), (Instr.makeFunc fn first cap).run Try.prog w = .ok (.func fn first cap) w) := Lib.hid (fun _ _ _ _ => rfl)
  clear hck hmb h31 hm
  have HC := Lib.hid hc; clear hc
  have HCF := Lib.hid hcf; clear hcf
  rw [← hL]
  clear hL
  go_enter_defers Try.func18, Try.ntmps18
  go_upto_region 1 with fail
  rw [← HW1.out]
  refine wp_region_list ?_
  refine wpList_val0 (.int .i64 (ctx : Int)) rfl (by kernel_rfl) ?_
  refine wpList_load_mid rfl 45 (.tmp 3) (by kernel_rfl) w.heap.size 0 (by kernel_rfl) [.int .i64 (i.op : Int), .int .i64 (i.dst : Int), .int .i64 (i.src : Int), .int .i64 i.off, .int .u32 (i.imm : Int)] _ HI1.out Try.underlying45 rfl (by kernel_rfl) ?_
  obtain ⟨W2, hW2⟩ : ∃ W2, W2 = W1.alloc (.cells #[.int .i64 (i.op : Int), .int .i64 (i.dst : Int), .int .i64 (i.src : Int), .int .i64 i.off, .int .u32 (i.imm : Int)] 45) := ⟨_, rfl⟩
  have hb2 : Below W1.heap.size W1 W2 := by rw [hW2]; exact (Below.refl _ _).alloc (Nat.le_refl _) _
  have HS2 := Lib.hid (show Sl W2 Any 5 (some ⟨W1.heap.size, 0, none⟩) 1 1 [.int .i64 (i.op : Int), .int .i64 (i.dst : Int), .int .i64 (i.src : Int), .int .i64 i.off, .int .u32 (i.imm : Int)] from by
    have := Sl.lit W1 45 5 #[.int .i64 (i.op : Int), .int .i64 (i.dst : Int), .int .i64 (i.src : Int), .int .i64 i.off, .int .u32 (i.imm : Int)] 1 (by simp [maxLen]) rfl
    rw [hW2]; exact this)
  refine wpList_value (w' := W2) (.slice (some ⟨W1.heap.size, 0, none⟩) 1 1) rfl ?_ ?_
  · simp only [execOp, List.map_toArray, List.map_cons, List.map_nil, Sem.run_bind]
    erw [hbs.out W1]
    rw [hW2]; rfl
  have HB2 := Lib.hid (HB1.out.more hb2)
  have HK2 := Lib.hid (HK1.out.below hb2)
  clear hb2 hW2
  go_upto_region 3 with (first | (go_at_call 24; (with_reducible refine (HCK.out _ _ _ HS2.out).mono ?_); rintro e W3 ⟨rfl, hb3⟩; have HB3 := Lib.hid (HB2.out.more hb3); have HK3 := Lib.hid (HK2.out.below hb3); clear hb3) | (go_at_call 29; rw [HL.out]; (with_reducible refine (HRT.out _).mono ?_); rintro e W4 ⟨rfl, hb4⟩; have HB4 := Lib.hid (HB3.out.more hb4); have HK4 := Lib.hid (HK3.out.below hb4); clear hb4) | (refine wpList_valueg (.agg L) (by rfl) (by rw [HL.out]; exact exec_load_mid 42 (.tmp 5) rfl (w.heap.size + 1) 0 rfl (knL k) _ HK3.out.range Try.underlying42 rfl (by rw [knL_length]; exact info_kn)) ?_))
  have c0 : W4.cell? ⟨w.heap.size + 1, 0, none⟩ = some (.bool k.come) := HK4.out.cell 0 (by omega)
  rw [HC.out] at c0
  go_upto_region 4 with fail
  clear c0
  obtain ⟨kz, hkz⟩ : ∃ z : Kn, z = kn0 := ⟨_, rfl⟩
  have HB4z := Lib.hid (show Bd w (w.heap.size + 2) (knF kz) (knF kz) 0 W4 from by rw [hkz]; exact HB4.out)
  have HKZ := Lib.hid hkz
  clear hkz
  obtain ⟨Wd, hWd⟩ : ∃ Wd, Wd = W4.drew := ⟨_, rfl⟩
  have HBd := Lib.hid (show Bd w (w.heap.size + 2) (knF kz) (knF kz) 0 Wd from by rw [hWd]; exact HB4z.out.more (Below.refl _ _).drew)
  have hkd : Kp (fun b => b = w.heap.size + 2) W4 Wd := by rw [hWd]; exact (Kp.refl _ _).drew
  have HN0 := Lib.hid HB4z.out.t.n.range
  refine wp_region_noPanic ?_
  refine planM (.rd 0 (.rd 1 (.eff 2 (.eff 3 (.eff 4 .done))))) [0, 1, 2] (fun W => (W.rangeAt (w.heap.size + 2) 0 (knL kz)) ∧ Kp (fun b => b = w.heap.size + 2) W4 W) (by kernel_rfl) (by kernel_rfl) (fun _ _ _ _ _ h => h) ⟨by rw [← hWd]; exact HBd.out.t.n.range, by rw [← hWd]; exact hkd⟩ ?_
  rw [← hWd]
  clear hWd
  refine pm_rdv 26 (.agg (knL kz).toArray) rfl rfl rfl (fun W hS => exec_load_mid 42 (.tmp 6) rfl (w.heap.size + 2) 0 (by kernel_rfl) (knL kz) _ hS.1 Try.underlying42 rfl (by rw [knL_length]; exact info_kn)) ?_
  refine pm_rdv 27 (.agg (knL kz).toArray) rfl rfl rfl (fun W hS => exec_load_mid 42 (.tmp 7) rfl (w.heap.size + 2 + 1) 0 (by kernel_rfl) (knL kz) _ (rg_kept HB4z.out.t.j.range hS.2 (by omega)) Try.underlying42 rfl (by rw [knL_length]; exact info_kn)) ?_
  have T1 := HBd.out.setn (knF kz)
  have T2 := T1.setj (knF kz)
  refine pm_store rfl rfl rfl 42 (.tmp 6) (.tmp 26) rfl (w.heap.size + 2) 0 (knL kz).toArray (by kernel_rfl) (by kernel_rfl) (by rw [knA_size]; exact there_blk HBd.out.t.n) (by rw [knA_size]; exact info_kn) (knL_one _) (fun _ => ⟨by rw [knL_tl]; exact T1.t.n.range, Kp.setCells (M := fun b => b = w.heap.size + 2) (.inl rfl) _ _ _ hkd⟩) ?_
  rw [knL_tl]
  refine pm_store rfl rfl rfl 42 (.tmp 7) (.tmp 27) rfl (w.heap.size + 2 + 1) 0 (knL kz).toArray (by kernel_rfl) (by kernel_rfl) (by rw [knA_size]; exact there_blk T1.t.j) (by rw [knA_size]; exact info_kn) (knL_one _) (fun h => by cases h) ?_
  rw [knL_tl]
  generalize hW6 : (Wd.setCells (w.heap.size + 2) 0 (rowF 31 (knF kz))).setCells (w.heap.size + 2 + 1) 0 (rowF 31 (knF kz)) = W6 at T2 ⊢
  clear hW6 T1
  have c8 : W6.cell? ⟨w.heap.size + 4, 0, none⟩ = some (.int .i64 0) := T2.c
  have f8 : W6.frozen? ⟨w.heap.size + 4, 0, none⟩ = false := T2.e.frozen 0
  refine pm_eff rfl rfl (fun K hK => ?_)
  go_simp
  refine hK _ _ (fun h => by cases h) ?_
  clear hK K
  refine pm_done ?_
  refine NoPanic.normal ?_
  have T3 := Lib.hid (T2.sete 0)
  clear T2 c8 f8
  go_wp2
  exact ⟨_, T3.out.res _ (by kernel_rfl) (by kernel_rfl) (by kernel_rfl), by rw [HKZ.out], T3.out.t.b⟩

set_option maxRecDepth 100000 in
set_option maxHeartbeats 1500000 in
theorem behind_fine (w : World) (i : Ins8) (ctx : Nat) (k : Kn) (hmb : mayB i.z = true) (hr : k.right) (hctx : ctx ≤ 256) (hc : k.come = true) (n j : Kn) (hbc : behindC ctx i k = .ok n j) :
    Calls Try.prog 18 #[.agg #[.int .i64 (i.op : Int), .int .i64 (i.dst : Int), .int .i64 (i.src : Int), .int .i64 i.off, .int .u32 (i.imm : Int)], .int .i64 (ctx : Int), .agg (knL k).toArray] w fun e w' => e = .returned (.tuple #[.agg (knL n).toArray, .agg (knL j).toArray, .int .i64 0]) ∧ Below w.heap.size w w' := by
  obtain ⟨hm, h31⟩ := may_of hmb
  obtain ⟨L, hL⟩ : ∃ L, L = (knL k).toArray := ⟨_, rfl⟩
  obtain ⟨W1, HW1, HB1, HK1, HI1⟩ := kn_box w i k L hL
  have HL := Lib.hid hL
  have hck : checkN (ctx : Int) [i.z] = 0 := check_one hmb hctx
  have HCK : Hid (∀ (W : World) (A : Option Addr) (c : Nat), Sl W Any 5 A 1 c [.int .i64 (i.op : Int), .int .i64 (i.dst : Int), .int .i64 (i.src : Int), .int .i64 i.off, .int .u32 (i.imm : Int)] → Calls Try.prog 24 #[.agg #[.int .i64 (ctx : Int), .slice A 1 c]] W fun e w' => e = .returned (.int .i64 0) ∧ Below W.heap.size W w') := Lib.hid (fun W A c hs => by have := check_ok W (ctx : Int) A c [i.z] hs (by simp); rw [hck] at this; exact this)
  have hbs := Lib.hid (bs_ins i)
  have HRT := Lib.hid (fun W => right_ok W k hr)
  have hcf : W1.cell? ⟨w.heap.size + 1, 0, none⟩ = some (.bool k.come) := HK1.out.cell 0 (by omega)
  have HMF : Hid (∀ (fn : Fn) (first cap : Array Value) (w : World), (Instr.makeFunc fn first cap).run Try.prog w = .ok (.func fn first cap) w) := Lib.hid (fun _ _ _ _ => rfl)
  have HBC := Lib.hid (fun (W : World) (x : Nat) (hI : InB W x i ctx k) => behindc_ok hI hm h31 hr hctx)
  rw [hbc] at HBC
  clear hck hmb h31 hm
  clear hbc
  have HC := Lib.hid hc; clear hc
  have HCF := Lib.hid hcf; clear hcf
  rw [← hL]
  clear hL
  go_enter_defers Try.func18, Try.ntmps18
  go_upto_region 1 with fail
  rw [← HW1.out]
  refine wp_region_list ?_
  refine wpList_val0 (.int .i64 (ctx : Int)) rfl (by kernel_rfl) ?_
  refine wpList_load_mid rfl 45 (.tmp 3) (by kernel_rfl) w.heap.size 0 (by kernel_rfl) [.int .i64 (i.op : Int), .int .i64 (i.dst : Int), .int .i64 (i.src : Int), .int .i64 i.off, .int .u32 (i.imm : Int)] _ HI1.out Try.underlying45 rfl (by kernel_rfl) ?_
  obtain ⟨W2, hW2⟩ : ∃ W2, W2 = W1.alloc (.cells #[.int .i64 (i.op : Int), .int .i64 (i.dst : Int), .int .i64 (i.src : Int), .int .i64 i.off, .int .u32 (i.imm : Int)] 45) := ⟨_, rfl⟩
  have hb2 : Below W1.heap.size W1 W2 := by rw [hW2]; exact (Below.refl _ _).alloc (Nat.le_refl _) _
  have HS2 := Lib.hid (show Sl W2 Any 5 (some ⟨W1.heap.size, 0, none⟩) 1 1 [.int .i64 (i.op : Int), .int .i64 (i.dst : Int), .int .i64 (i.src : Int), .int .i64 i.off, .int .u32 (i.imm : Int)] from by
    have := Sl.lit W1 45 5 #[.int .i64 (i.op : Int), .int .i64 (i.dst : Int), .int .i64 (i.src : Int), .int .i64 i.off, .int .u32 (i.imm : Int)] 1 (by simp [maxLen]) rfl
    rw [hW2]; exact this)
  refine wpList_value (w' := W2) (.slice (some ⟨W1.heap.size, 0, none⟩) 1 1) rfl ?_ ?_
  · simp only [execOp, List.map_toArray, List.map_cons, List.map_nil, Sem.run_bind]
    erw [hbs.out W1]
    rw [hW2]; rfl
  have HB2 := Lib.hid (HB1.out.more hb2)
  have HK2 := Lib.hid (HK1.out.below hb2)
  have HI2 := Lib.hid (rg_kept HI1.out (Kp.of_below hb2 No) (fun h => h))
  clear hb2 hW2
  go_upto_region 3 with (first | (go_at_call 24; (with_reducible refine (HCK.out _ _ _ HS2.out).mono ?_); rintro e W3 ⟨rfl, hb3⟩; have HB3 := Lib.hid (HB2.out.more hb3); have HI3 := Lib.hid (rg_kept HI2.out (Kp.of_below hb3 No) (fun h => h)); have HK3 := Lib.hid (HK2.out.below hb3); clear hb3) | (go_at_call 29; rw [HL.out]; (with_reducible refine (HRT.out _).mono ?_); rintro e W4 ⟨rfl, hb4⟩; have HB4 := Lib.hid (HB3.out.more hb4); have HI4 := Lib.hid (rg_kept HI3.out (Kp.of_below hb4 No) (fun h => h)); have HK4 := Lib.hid (HK3.out.below hb4); clear hb4) | (refine wpList_valueg (.agg L) (by rfl) (by rw [HL.out]; exact exec_load_mid 42 (.tmp 5) rfl (w.heap.size + 1) 0 rfl (knL k) _ HK3.out.range Try.underlying42 rfl (by rw [knL_length]; exact info_kn)) ?_))
  have c0 : W4.cell? ⟨w.heap.size + 1, 0, none⟩ = some (.bool k.come) := HK4.out.cell 0 (by omega)
  have hbld := bs_box i ctx k
  rw [HC.out] at c0
  have hmf := HMF.out
  go_upto_region 7 with fail
  clear c0 hmf
  refine wp_region_list ?_
  refine wpList_load_mid rfl 45 (.tmp 3) (by kernel_rfl) w.heap.size 0 (by kernel_rfl) [.int .i64 (i.op : Int), .int .i64 (i.dst : Int), .int .i64 (i.src : Int), .int .i64 i.off, .int .u32 (i.imm : Int)] _ HI4.out Try.underlying45 rfl (by kernel_rfl) ?_
  refine wpList_val0 (.int .i64 (ctx : Int)) rfl (by kernel_rfl) ?_
  refine wpList_load_mid rfl 42 (.tmp 5) (by kernel_rfl) (w.heap.size + 1) 0 (by kernel_rfl) (knL k) _ HK4.out.range Try.underlying42 rfl (by rw [knL_length]; exact info_kn) ?_
  refine wpList_val0 (.agg (rowF 37 (insF i ctx k)).toArray) rfl (by exact exec_build3 79 (.tmp 29) (.tmp 30) (.tmp 31) (by kernel_rfl) _ _ _ (by kernel_rfl) (by kernel_rfl) (by kernel_rfl) _ (hbld _)) ?_
  obtain ⟨W5, hW5⟩ : ∃ W5, W5 = W4.alloc (.cells (rowF 37 (insF i ctx k)).toArray 79) := ⟨_, rfl⟩
  have hb5 : Below W4.heap.size W4 W5 := by rw [hW5]; exact (Below.refl _ _).alloc (Nat.le_refl _) _
  have HX := Lib.hid (show InB W5 W4.heap.size i ctx k from by rw [hW5]; exact Blk.boxed W4 79 37 _)
  have HB5 := Lib.hid (HB4.out.more hb5)
  refine wpList_value (w' := W5) (.pointer (some ⟨W4.heap.size, 0, none⟩)) rfl (by rw [hW5]; kernel_rfl) ?_
  clear hb5 hW5
  have HNB := HB5.out.t.n.lt
  go_upto_region 8 with fail
  refine wp_region_list ?_
  refine wpList_val0 (.pointer (some ⟨W4.heap.size, 0, none⟩)) rfl (by kernel_rfl) ?_
  refine wpList_plain rfl (fun K hK => wp_calls_ret (v := .tuple #[.agg (knL n).toArray, .agg (knL j).toArray]) (R := Below W5.heap.size W5) (by kernel_rfl) (HBC.out _ _ HX.out) (fun W7 hb7 => hK _ _ ?_))
  have HB7 := Lib.hid (HB5.out.more hb7); clear hb7 hK K
  refine wpList_val0 (.tuple #[.agg (knL n).toArray, .agg (knL j).toArray]) rfl (by kernel_rfl) ?_
  refine wpList_val0 (.agg (knL n).toArray) rfl (by kernel_rfl) ?_
  refine wpList_val0 (.agg (knL j).toArray) rfl (by kernel_rfl) ?_
  refine wpList_store_mid rfl 42 (.tmp 6) (.tmp 37) (by kernel_rfl) (w.heap.size + 2) 0 (knL n).toArray (by kernel_rfl) (by kernel_rfl) (by rw [knA_size]; exact there_blk HB7.out.t.n) (by rw [knA_size]; exact info_kn) (knL_one _) ?_
  obtain ⟨W8, HW8, HB8⟩ := HB7.out.finn n
  rw [← HW8.out]
  refine wpList_store_mid rfl 42 (.tmp 7) (.tmp 38) (by kernel_rfl) (w.heap.size + 2 + 1) 0 (knL j).toArray (by kernel_rfl) (by kernel_rfl) (by rw [knA_size]; exact there_blk HB8.out.t.j) (by rw [knA_size]; exact info_kn) (knL_one _) ?_
  obtain ⟨W9, HW9, HB9⟩ := HB8.out.finj j
  rw [← HW9.out]
  go_upto_region 9 with fail
  obtain ⟨Wd, hWd⟩ : ∃ Wd, Wd = W9.drew := ⟨_, rfl⟩
  have HBd := Lib.hid (show Bd w (w.heap.size + 2) (knF n) (knF j) 0 Wd from by rw [hWd]; exact HB9.out.more (Below.refl _ _).drew)
  have hkd : Kp (fun b => b = w.heap.size + 2) W9 Wd := by rw [hWd]; exact (Kp.refl _ _).drew
  have HN0 := Lib.hid HB9.out.t.n.range
  refine wp_region_noPanic ?_
  refine planM (.rd 0 (.rd 1 (.eff 2 (.eff 3 (.eff 4 .done))))) [0, 1, 2] (fun W => (W.rangeAt (w.heap.size + 2) 0 (knL n)) ∧ Kp (fun b => b = w.heap.size + 2) W9 W) (by kernel_rfl) (by kernel_rfl) (fun _ _ _ _ _ h => h) ⟨by rw [← hWd]; exact HBd.out.t.n.range, by rw [← hWd]; exact hkd⟩ ?_
  rw [← hWd]
  clear hWd
  refine pm_rdv 39 (.agg (knL n).toArray) rfl rfl rfl (fun W hS => exec_load_mid 42 (.tmp 6) rfl (w.heap.size + 2) 0 (by kernel_rfl) (knL n) _ hS.1 Try.underlying42 rfl (by rw [knL_length]; exact info_kn)) ?_
  refine pm_rdv 40 (.agg (knL j).toArray) rfl rfl rfl (fun W hS => exec_load_mid 42 (.tmp 7) rfl (w.heap.size + 2 + 1) 0 (by kernel_rfl) (knL j) _ (rg_kept HB9.out.t.j.range hS.2 (by omega)) Try.underlying42 rfl (by rw [knL_length]; exact info_kn)) ?_
  have T1 := HBd.out.setn (knF n)
  have T2 := T1.setj (knF j)
  refine pm_store rfl rfl rfl 42 (.tmp 6) (.tmp 39) rfl (w.heap.size + 2) 0 (knL n).toArray (by kernel_rfl) (by kernel_rfl) (by rw [knA_size]; exact there_blk HBd.out.t.n) (by rw [knA_size]; exact info_kn) (knL_one _) (fun _ => ⟨by rw [knL_tl]; exact T1.t.n.range, Kp.setCells (M := fun b => b = w.heap.size + 2) (.inl rfl) _ _ _ hkd⟩) ?_
  rw [knL_tl]
  refine pm_store rfl rfl rfl 42 (.tmp 7) (.tmp 40) rfl (w.heap.size + 2 + 1) 0 (knL j).toArray (by kernel_rfl) (by kernel_rfl) (by rw [knA_size]; exact there_blk T1.t.j) (by rw [knA_size]; exact info_kn) (knL_one _) (fun h => by cases h) ?_
  rw [knL_tl]
  generalize hW6 : (Wd.setCells (w.heap.size + 2) 0 (rowF 31 (knF n))).setCells (w.heap.size + 2 + 1) 0 (rowF 31 (knF j)) = W6 at T2 ⊢
  clear hW6 T1
  have c8 : W6.cell? ⟨w.heap.size + 4, 0, none⟩ = some (.int .i64 0) := T2.c
  have f8 : W6.frozen? ⟨w.heap.size + 4, 0, none⟩ = false := T2.e.frozen 0
  refine pm_eff rfl rfl (fun K hK => ?_)
  go_simp
  refine hK _ _ (fun h => by cases h) ?_
  clear hK K
  refine pm_done ?_
  refine NoPanic.normal ?_
  have T3 := Lib.hid (T2.sete 0)
  clear T2 c8 f8
  go_wp2
  exact behind_leave T3.out _ (by kernel_rfl) (by kernel_rfl) (by kernel_rfl)

set_option maxRecDepth 100000 in
set_option maxHeartbeats 1500000 in
theorem behind_stops (w : World) (i : Ins8) (ctx : Nat) (k : Kn) (hmb : mayB i.z = true) (hr : k.right) (hctx : ctx ≤ 256) (hc : k.come = true) (why : Nat) (hbc : behindC ctx i k = .no why) :
    Calls Try.prog 18 #[.agg #[.int .i64 (i.op : Int), .int .i64 (i.dst : Int), .int .i64 (i.src : Int), .int .i64 i.off, .int .u32 (i.imm : Int)], .int .i64 (ctx : Int), .agg (knL k).toArray] w fun e w' => e = .returned (.tuple #[.agg (knL kn0).toArray, .agg (knL kn0).toArray, .int .i64 (why : Int)]) ∧ Below w.heap.size w w' := by
  obtain ⟨hm, h31⟩ := may_of hmb
  obtain ⟨L, hL⟩ : ∃ L, L = (knL k).toArray := ⟨_, rfl⟩
  obtain ⟨W1, HW1, HB1, HK1, HI1⟩ := kn_box w i k L hL
  have HL := Lib.hid hL
  have hck : checkN (ctx : Int) [i.z] = 0 := check_one hmb hctx
  have HCK : Hid (∀ (W : World) (A : Option Addr) (c : Nat), Sl W Any 5 A 1 c [.int .i64 (i.op : Int), .int .i64 (i.dst : Int), .int .i64 (i.src : Int), .int .i64 i.off, .int .u32 (i.imm : Int)] → Calls Try.prog 24 #[.agg #[.int .i64 (ctx : Int), .slice A 1 c]] W fun e w' => e = .returned (.int .i64 0) ∧ Below W.heap.size W w') := Lib.hid (fun W A c hs => by have := check_ok W (ctx : Int) A c [i.z] hs (by simp); rw [hck] at this; exact this)
  have hbs := Lib.hid (bs_ins i)
  have HRT := Lib.hid (fun W => right_ok W k hr)
  have hcf : W1.cell? ⟨w.heap.size + 1, 0, none⟩ = some (.bool k.come) := HK1.out.cell 0 (by omega)
  have HMF : Hid (∀ (fn : Fn) (first cap : Array Value) (w : World), (Instr.makeFunc fn first cap).run Try.prog w = .ok (.func fn first cap) w) := Lib.hid (fun _ _ _ _ => rfl)
  have HBC := Lib.hid (fun (W : World) (x : Nat) (hI : InB W x i ctx k) => behindc_ok hI hm h31 hr hctx)
  rw [hbc] at HBC
  have HWY := Lib.hid (behindC_why hbc)
  clear hck hmb h31 hm
  clear hbc
  have HC := Lib.hid hc; clear hc
  have HCF := Lib.hid hcf; clear hcf
  rw [← hL]
  clear hL
  go_enter_defers Try.func18, Try.ntmps18
  go_upto_region 1 with fail
  rw [← HW1.out]
  refine wp_region_list ?_
  refine wpList_val0 (.int .i64 (ctx : Int)) rfl (by kernel_rfl) ?_
  refine wpList_load_mid rfl 45 (.tmp 3) (by kernel_rfl) w.heap.size 0 (by kernel_rfl) [.int .i64 (i.op : Int), .int .i64 (i.dst : Int), .int .i64 (i.src : Int), .int .i64 i.off, .int .u32 (i.imm : Int)] _ HI1.out Try.underlying45 rfl (by kernel_rfl) ?_
  obtain ⟨W2, hW2⟩ : ∃ W2, W2 = W1.alloc (.cells #[.int .i64 (i.op : Int), .int .i64 (i.dst : Int), .int .i64 (i.src : Int), .int .i64 i.off, .int .u32 (i.imm : Int)] 45) := ⟨_, rfl⟩
  have hb2 : Below W1.heap.size W1 W2 := by rw [hW2]; exact (Below.refl _ _).alloc (Nat.le_refl _) _
  have HS2 := Lib.hid (show Sl W2 Any 5 (some ⟨W1.heap.size, 0, none⟩) 1 1 [.int .i64 (i.op : Int), .int .i64 (i.dst : Int), .int .i64 (i.src : Int), .int .i64 i.off, .int .u32 (i.imm : Int)] from by
    have := Sl.lit W1 45 5 #[.int .i64 (i.op : Int), .int .i64 (i.dst : Int), .int .i64 (i.src : Int), .int .i64 i.off, .int .u32 (i.imm : Int)] 1 (by simp [maxLen]) rfl
    rw [hW2]; exact this)
  refine wpList_value (w' := W2) (.slice (some ⟨W1.heap.size, 0, none⟩) 1 1) rfl ?_ ?_
  · simp only [execOp, List.map_toArray, List.map_cons, List.map_nil, Sem.run_bind]
    erw [hbs.out W1]
    rw [hW2]; rfl
  have HB2 := Lib.hid (HB1.out.more hb2)
  have HK2 := Lib.hid (HK1.out.below hb2)
  have HI2 := Lib.hid (rg_kept HI1.out (Kp.of_below hb2 No) (fun h => h))
  clear hb2 hW2
  go_upto_region 3 with (first | (go_at_call 24; (with_reducible refine (HCK.out _ _ _ HS2.out).mono ?_); rintro e W3 ⟨rfl, hb3⟩; have HB3 := Lib.hid (HB2.out.more hb3); have HI3 := Lib.hid (rg_kept HI2.out (Kp.of_below hb3 No) (fun h => h)); have HK3 := Lib.hid (HK2.out.below hb3); clear hb3) | (go_at_call 29; rw [HL.out]; (with_reducible refine (HRT.out _).mono ?_); rintro e W4 ⟨rfl, hb4⟩; have HB4 := Lib.hid (HB3.out.more hb4); have HI4 := Lib.hid (rg_kept HI3.out (Kp.of_below hb4 No) (fun h => h)); have HK4 := Lib.hid (HK3.out.below hb4); clear hb4) | (refine wpList_valueg (.agg L) (by rfl) (by rw [HL.out]; exact exec_load_mid 42 (.tmp 5) rfl (w.heap.size + 1) 0 rfl (knL k) _ HK3.out.range Try.underlying42 rfl (by rw [knL_length]; exact info_kn)) ?_))
  have c0 : W4.cell? ⟨w.heap.size + 1, 0, none⟩ = some (.bool k.come) := HK4.out.cell 0 (by omega)
  have hbld := bs_box i ctx k
  rw [HC.out] at c0
  have hmf := HMF.out
  go_upto_region 7 with fail
  clear c0 hmf
  refine wp_region_list ?_
  refine wpList_load_mid rfl 45 (.tmp 3) (by kernel_rfl) w.heap.size 0 (by kernel_rfl) [.int .i64 (i.op : Int), .int .i64 (i.dst : Int), .int .i64 (i.src : Int), .int .i64 i.off, .int .u32 (i.imm : Int)] _ HI4.out Try.underlying45 rfl (by kernel_rfl) ?_
  refine wpList_val0 (.int .i64 (ctx : Int)) rfl (by kernel_rfl) ?_
  refine wpList_load_mid rfl 42 (.tmp 5) (by kernel_rfl) (w.heap.size + 1) 0 (by kernel_rfl) (knL k) _ HK4.out.range Try.underlying42 rfl (by rw [knL_length]; exact info_kn) ?_
  refine wpList_val0 (.agg (rowF 37 (insF i ctx k)).toArray) rfl (by exact exec_build3 79 (.tmp 29) (.tmp 30) (.tmp 31) (by kernel_rfl) _ _ _ (by kernel_rfl) (by kernel_rfl) (by kernel_rfl) _ (hbld _)) ?_
  obtain ⟨W5, hW5⟩ : ∃ W5, W5 = W4.alloc (.cells (rowF 37 (insF i ctx k)).toArray 79) := ⟨_, rfl⟩
  have hb5 : Below W4.heap.size W4 W5 := by rw [hW5]; exact (Below.refl _ _).alloc (Nat.le_refl _) _
  have HX := Lib.hid (show InB W5 W4.heap.size i ctx k from by rw [hW5]; exact Blk.boxed W4 79 37 _)
  have HB5 := Lib.hid (HB4.out.more hb5)
  refine wpList_value (w' := W5) (.pointer (some ⟨W4.heap.size, 0, none⟩)) rfl (by rw [hW5]; kernel_rfl) ?_
  clear hb5 hW5
  go_wp2_with (go_at_call 32; (with_reducible refine (HBC.out _ _ HX.out).mono ?_); rintro e W7 ⟨hq, hb7⟩; obtain rfl := hq; have HB7 := Lib.hid (HB5.out.more hb7); clear hb7)
  exact behind_leave_stop HB7.out (why : Int) (by have := HWY.out; omega) _ (by kernel_rfl) (by kernel_rfl) (by kernel_rfl)

theorem behind_ok (w : World) (i : Ins8) (ctx : Nat) (k : Kn) (hmb : mayB i.z = true) (hr : k.right) (hctx : ctx ≤ 256) :
    Calls Try.prog 18 #[.agg #[.int .i64 (i.op : Int), .int .i64 (i.dst : Int), .int .i64 (i.src : Int), .int .i64 i.off, .int .u32 (i.imm : Int)], .int .i64 (ctx : Int), .agg (knL k).toArray] w fun e w' => e = .returned (bhV (behindB ctx i k)) ∧ Below w.heap.size w w' := by
  unfold behindB
  rcases hc : k.come with _ | _
  · exact behind_not w i ctx k hmb hr hctx hc
  · rw [if_pos rfl]
    rcases hb : behindC ctx i k with ⟨n, j⟩ | why
    · exact behind_fine w i ctx k hmb hr hctx hc n j hb
    · exact behind_stops w i ctx k hmb hr hctx hc why hb
end Go.Proofs.Ytjlddhnjbjhmkaa
namespace Go.Proofs.Ytjlddhnjbjhmkaa
open Go.RowKit


def rgF (r : Rg) (j : Nat) : Value := if j = 0 then .bool r.s else if j = 1 then .int .u32 (r.l : Int) else .int .u32 (r.g : Int)
theorem rgB (w : World) (r : Rg) : Blk (w.alloc (.cells #[.bool r.s, .int .u32 (r.l : Int), .int .u32 (r.g : Int)] 37)) w.heap.size 37 3 (rgF r) := by
  refine Blk.new w 37 _ 3 rfl _ (fun j hj => ?_)
  have : j = 0 ∨ j = 1 ∨ j = 2 := by omega
  rcases this with rfl | rfl | rfl <;> rfl
def jnR (a b : Rg) : Rg := if a.s && b.s then ⟨true, min a.l b.l, max a.g b.g⟩ else rg0
def jnK (a b : Kn) (m : Nat) : Kn := ⟨true, fun n => if n < m then jnR (a.r n) (b.r n) else a.r n⟩
theorem jnK_succ (a b : Kn) (m : Nat) : (⟨(jnK a b m).come, upd (jnK a b m).r m (jnR (a.r m) (b.r m))⟩ : Kn) = jnK a b (m + 1) := by
  unfold jnK
  congr 1
  funext j
  unfold upd
  by_cases e : j = m
  · subst e; rw [if_pos rfl, if_pos (by omega)]
  · rw [if_neg e]
    show (if j < m then jnR (a.r j) (b.r j) else a.r j) = _
    by_cases e2 : j < m
    · rw [if_pos e2, if_pos (by omega)]
    · rw [if_neg e2, if_neg (by omega)]
theorem upd_upd {α : Type} (f : Nat → α) (n : Nat) (x y : α) : upd (upd f n x) n y = upd f n y := by
  funext j
  unfold upd
  split <;> rfl
theorem jnK_at (a b : Kn) (m : Nat) : (jnK a b m).r m = a.r m := by
  unfold jnK
  show (if m < m then _ else _) = _
  rw [if_neg (by omega)]
theorem jnK_zero (a b : Kn) (h : a.come = true) : a = jnK a b 0 := by
  obtain ⟨c, r⟩ := a
  cases h
  unfold jnK
  congr 1
theorem jnK_ten (a b : Kn) (h1 : a.come = true) (h2 : b.come = true) : knL (jnK a b 10) = knL (joinK a b) := by
  unfold knL
  apply rowF_ext
  intro j hj
  have e : ∀ n, n < 10 → (jnK a b 10).r n = (joinK a b).r n := fun n hn => by
    unfold jnK joinK
    rw [h1, h2]
    simp only [Bool.true_eq_false, if_false]
    rw [if_pos hn]; rfl
  have ec : (jnK a b 10).come = (joinK a b).come := by unfold jnK joinK; rw [h1, h2]; rfl
  unfold knF
  rw [ec, e ((j - 1) / 3) (by omega)]
/-- The worlds of Join. -/
structure Jn (w : World) (k : Kn) (W : World) : Prop where
  b : Below w.heap.size w W
  z : w.heap.size + 3 ≤ W.heap.size
  s : Blk W w.heap.size 42 31 (knF k)
  r : ∃ G, Blk W (w.heap.size + 2) 42 31 G
theorem Jn.more {w : World} {k : Kn} {W W1 : World} (h : Jn w k W) (hb : Below W.heap.size W W1) : Jn w k W1 :=
  ⟨h.b.trans (hb.mono (by have := h.z; omega)), by have := hb.size; have := h.z; omega, h.s.below hb, by obtain ⟨G, hG⟩ := h.r; exact ⟨G, hG.below hb⟩⟩
theorem Jn.set {w : World} {k : Kn} {W : World} (h : Jn w k W) (n : Nat) (r : Rg) : Jn w ⟨k.come, upd k.r n r⟩ (W.setCells w.heap.size (1 + n * 3) [.bool r.s, .int .u32 (r.l : Int), .int .u32 (r.g : Int)]) ∧ Kp (fun b => b = w.heap.size) W (W.setCells w.heap.size (1 + n * 3) [.bool r.s, .int .u32 (r.l : Int), .int .u32 (r.g : Int)]) := by
  have hk : Kp (fun b => b = w.heap.size) W (W.setCells w.heap.size (1 + n * 3) [.bool r.s, .int .u32 (r.l : Int), .int .u32 (r.g : Int)]) := Kp.setCells (M := fun b => b = w.heap.size) (.inl rfl) _ _ _ (Kp.refl _ _)
  refine ⟨⟨(Kp.setCells (w := w) (b := w.heap.size) (.inr (Nat.le_refl _)) _ _ _ (Kp.of_below h.b No)).below, by have := hk.size; have := h.z; omega, (Blk.setCells [.bool r.s, .int .u32 (r.l : Int), .int .u32 (r.g : Int)] (1 + n * 3) W (knF k) h.s).congr (knF_upd k n r), ?_⟩, hk⟩
  obtain ⟨G, hG⟩ := h.r
  exact ⟨G, hG.keep hk (by omega)⟩
set_option maxRecDepth 100000 in
set_option maxHeartbeats 1500000 in
theorem join_ok (w : World) (a b : Kn) (ha : a.right) (hb : b.right) : Calls Try.prog 25 #[.agg (knL a).toArray, .agg (knL b).toArray] w fun e w' => e = .returned (.agg (knL (joinK a b)).toArray) ∧ Below w.heap.size w w' := by
  obtain ⟨L, hL⟩ : ∃ L, L = (knL a).toArray := ⟨_, rfl⟩
  obtain ⟨M, hM⟩ : ∃ L, L = (knL b).toArray := ⟨_, rfl⟩
  obtain ⟨W1, hW1⟩ : ∃ W1, W1 = ((w.alloc (.cells L 42)).alloc (.cells M 42)).alloc (.cells #[.bool false, .bool false, .int .u32 0, .int .u32 0, .bool false, .int .u32 0, .int .u32 0, .bool false, .int .u32 0, .int .u32 0, .bool false, .int .u32 0, .int .u32 0, .bool false, .int .u32 0, .int .u32 0, .bool false, .int .u32 0, .int .u32 0, .bool false, .int .u32 0, .int .u32 0, .bool false, .int .u32 0, .int .u32 0, .bool false, .int .u32 0, .int .u32 0, .bool false, .int .u32 0, .int .u32 0] 42) := ⟨_, rfl⟩
  have hb1 : Below w.heap.size w W1 := by rw [hW1]; exact ((((Below.refl _ _).alloc (Nat.le_refl _) _).alloc (by simp <;> omega) _).alloc (by simp <;> omega) _)
  have hA : Blk W1 w.heap.size 42 31 (knF a) := by rw [hW1, hL]; exact ((Blk.boxed w _ 31 _).below ((Below.refl _ _).alloc (Nat.le_refl _) _)).below ((Below.refl _ _).alloc (Nat.le_refl _) _)
  have hB : Blk W1 (w.heap.size + 1) 42 31 (knF b) := by
    have := (Blk.boxed (w.alloc (.cells L 42)) 42 31 (knF b)).below ((Below.refl _ _).alloc (Nat.le_refl _) (.cells #[.bool false, .bool false, .int .u32 0, .int .u32 0, .bool false, .int .u32 0, .int .u32 0, .bool false, .int .u32 0, .int .u32 0, .bool false, .int .u32 0, .int .u32 0, .bool false, .int .u32 0, .int .u32 0, .bool false, .int .u32 0, .int .u32 0, .bool false, .int .u32 0, .int .u32 0, .bool false, .int .u32 0, .int .u32 0, .bool false, .int .u32 0, .int .u32 0, .bool false, .int .u32 0, .int .u32 0] 42))
    rw [hW1, hM]; have e : (w.alloc (.cells L 42)).heap.size = w.heap.size + 1 := by simp
    rw [e] at this; exact this
  have hR : Blk W1 (w.heap.size + 2) 42 31 zkF := by
    have := zero_kn_blk ((w.alloc (.cells L 42)).alloc (.cells M 42))
    rw [hW1]; simpa using this
  have c0 := hA.cell 0 (by omega)
  have c1 := hB.cell 0 (by omega)
  rw [show knF a 0 = .bool a.come from rfl] at c0
  rw [show knF b 0 = .bool b.come from rfl] at c1
  have HB1 := Lib.hid hb1; have HA := Lib.hid hA; have HB := Lib.hid hB; have HR := Lib.hid hR; clear hb1 hA hB hR
  rw [← hL, ← hM]; clear hL hM
  have HW1 := Lib.hid hW1; clear hW1
  rcases h1 : a.come with _ | _
  · rw [h1] at c0
    have HJ : Hid (joinK a b = b) := Lib.hid (by unfold joinK; rw [if_pos h1])
    clear h1
    go_enter Try.func25, Try.ntmps25
    go_upto_region 1 with fail
    rw [← HW1.out]
    go_upto_region 2 with fail
    refine wp_region_list ?_
    refine wpList_load_mid rfl 42 (.tmp 3) (by kernel_rfl) (w.heap.size + 1) 0 (by kernel_rfl) (knL b) _ HB.out.range Try.underlying42 rfl (by rw [knL_length]; exact info_kn) ?_
    obtain ⟨W4, HW4, HR4, HB4, HK4⟩ := fin_store HB1.out HR.out (by omega) (knL b) (knL_length _)
    refine wpList_store_mid rfl 42 (.tmp 4) (.tmp 12) (by kernel_rfl) (w.heap.size + 2) 0 (knL b).toArray (by kernel_rfl) (by kernel_rfl) (by rw [knA_size]; exact there_blk HR.out) (by rw [knA_size]; exact info_kn) (knL_one _) ?_
    rw [← HW4.out]
    go_wp2
    exact bodyPost_ret (v := .agg (knL b).toArray) (results_cell1_range Try.results25 _ _ (w.heap.size + 2) 0 _ _ rfl HR4.out Try.underlying42 rfl (by rw [knL_length]; exact info_kn)) rfl ⟨by rw [HJ.out], HB4.out⟩
  rcases h2 : b.come with _ | _
  · rw [h1] at c0
    rw [h2] at c1
    have HJ : Hid (joinK a b = a) := Lib.hid (by unfold joinK; rw [h1, h2]; rfl)
    clear h1 h2
    go_enter Try.func25, Try.ntmps25
    go_upto_region 1 with fail
    rw [← HW1.out]
    go_upto_region 4 with fail
    refine wp_region_list ?_
    refine wpList_load_mid rfl 42 (.tmp 2) (by kernel_rfl) w.heap.size 0 (by kernel_rfl) (knL a) _ HA.out.range Try.underlying42 rfl (by rw [knL_length]; exact info_kn) ?_
    obtain ⟨W4, HW4, HR4, HB4, HK4⟩ := fin_store HB1.out HR.out (by omega) (knL a) (knL_length _)
    refine wpList_store_mid rfl 42 (.tmp 4) (.tmp 17) (by kernel_rfl) (w.heap.size + 2) 0 (knL a).toArray (by kernel_rfl) (by kernel_rfl) (by rw [knA_size]; exact there_blk HR.out) (by rw [knA_size]; exact info_kn) (knL_one _) ?_
    rw [← HW4.out]
    go_wp2
    exact bodyPost_ret (v := .agg (knL a).toArray) (results_cell1_range Try.results25 _ _ (w.heap.size + 2) 0 _ _ rfl HR4.out Try.underlying42 rfl (by rw [knL_length]; exact info_kn)) rfl ⟨by rw [HJ.out], HB4.out⟩
  · rw [h1] at c0
    rw [h2] at c1
    have hJ0 : Jn w (jnK a b 0) W1 := ⟨HB1.out, by rw [HW1.out]; simp, by rw [← jnK_zero a b h1]; exact HA.out, ⟨_, HR.out⟩⟩
    have HJ0 := Lib.hid hJ0; clear hJ0
    have HJ : Hid (knL (jnK a b 10) = knL (joinK a b)) := Lib.hid (jnK_ten a b h1 h2)
    have hrg : W1.rangeAt (w.heap.size + 1) 1 (rowF 30 (fun j => knF b (1 + j))) := HB.out.rangeAt 1 30 (by omega)
    obtain ⟨RR, hRR⟩ : ∃ R, R = rowF 30 (fun j => knF b (1 + j)) := ⟨_, rfl⟩
    have hRs : RR.length = 30 := by rw [hRR, rowF_length]
    have hRg : ∀ j, j < 30 → RR[j]? = some (knF b (1 + j)) := fun j hj => by rw [hRR]; exact rowF_get 30 _ j hj
    rw [← hRR] at hrg
    have HRG := Lib.hid hrg; have HRs := Lib.hid hRs; have HRg := Lib.hid hRg
    clear hRR hrg hRs hRg h1 h2
    go_enter Try.func25, Try.ntmps25
    go_upto_region 1 with fail
    rw [← HW1.out]
    go_upto_region 5 with fail
    clear c0 c1
    refine wp_region_list ?_
    refine wpList_val0 (.pointer (some ⟨w.heap.size + 1, 1, none⟩)) (by kernel_rfl) (by kernel_rfl) ?_
    refine wpList_load_mid rfl 40 (.tmp 18) (by kernel_rfl) (w.heap.size + 1) 1 (by kernel_rfl) RR _ HRG.out Try.underlying40 rfl (by rw [HRs.out]; kernel_rfl) ?_
    go_wp2
    go_loopw [20] (fun i wr => ∃ n : Nat, n ≤ 10 ∧ i = .int .i64 (n : Int) ∧ Jn w (jnK a b n) wr) (fun i _ => 10 - (intOf i).toNat)
    case atStart => exact ⟨0, by omega, rfl, HJ0.out⟩
    case round =>
      obtain ⟨n, hn, rfl, hc⟩ := hrel
      by_cases hlt : n < 10
      · have hlt' : (n : Int) < 10 := by omega
        have hix := run_index_rg wr RR b HRs.out HRg.out n hlt
        have hz2 : w.heap.size < wr.heap.size := by have := hc.z; omega
        have e0 := hc.s.cell (1 + n * 3) (by omega)
        have e1 := hc.s.cell (1 + n * 3 + 1) (by omega)
        have e2 := hc.s.cell (1 + n * 3 + 2) (by omega)
        rw [knF_s, jnK_at] at e0
        rw [knF_l, jnK_at] at e1
        rw [knF_g, jnK_at] at e2
        obtain ⟨ra, hra⟩ : ∃ r, r = a.r n := ⟨_, rfl⟩
        obtain ⟨rb, hrb⟩ : ∃ r, r = b.r n := ⟨_, rfl⟩
        rw [← hra] at e0 e1 e2
        rw [← hrb] at hix
        have hN : Hid (jnR ra rb = jnR (a.r n) (b.r n)) := Lib.hid (by rw [hra, hrb])
        clear hra hrb
        have HC := Lib.hid hc; clear hc
        go_upto_region 9 with fail
        clear hix e0 e1 e2
        have hal1 : Below wr.heap.size wr (wr.alloc (.cells #[.bool rb.s, .int .u32 (rb.l : Int), .int .u32 (rb.g : Int)] 37)) := (Below.refl _ _).alloc (Nat.le_refl _) _
        have hal2 : Below (wr.alloc (.cells #[.bool rb.s, .int .u32 (rb.l : Int), .int .u32 (rb.g : Int)] 37)).heap.size (wr.alloc (.cells #[.bool rb.s, .int .u32 (rb.l : Int), .int .u32 (rb.g : Int)] 37)) ((wr.alloc (.cells #[.bool rb.s, .int .u32 (rb.l : Int), .int .u32 (rb.g : Int)] 37)).alloc (.cells #[.bool ra.s, .int .u32 (ra.l : Int), .int .u32 (ra.g : Int)] 37)) := (Below.refl _ _).alloc (Nat.le_refl _) _
        have hJ8 := (HC.out.more hal1).more hal2
        have hB8 := (rgB wr rb).below hal2
        have hA8 := rgB (wr.alloc (.cells #[.bool rb.s, .int .u32 (rb.l : Int), .int .u32 (rb.g : Int)] 37)) ra
        rw [show (wr.alloc (.cells #[.bool rb.s, .int .u32 (rb.l : Int), .int .u32 (rb.g : Int)] 37)).heap.size = wr.heap.size + 1 from by simp] at hA8
        clear hal1 hal2
        generalize hW8 : (wr.alloc (.cells #[.bool rb.s, .int .u32 (rb.l : Int), .int .u32 (rb.g : Int)] 37)).alloc (.cells #[.bool ra.s, .int .u32 (ra.l : Int), .int .u32 (ra.g : Int)] 37) = W8 at hJ8 hB8 hA8 ⊢
        clear hW8
        have HJ8 := Lib.hid hJ8; have HB8 := Lib.hid hB8; have HA8 := Lib.hid hA8; clear hJ8 hB8 hA8
        go_upto_region 10 with (refine wpList_store_mid rfl 37 (.tmp 31) (.tmp 29) rfl w.heap.size (1 + n * 3) #[.bool false, .int .u32 0, .int .u32 0] rfl rfl (there_mid HJ8.out.s (1 + n * 3) 3 (by omega)) (by kernel_rfl) (by simp [Value.oneCell']) ?_)
        have J9 : Jn w ⟨(jnK a b n).come, upd (jnK a b n).r n rg0⟩ (W8.setCells w.heap.size (1 + n * 3) [.bool false, .int .u32 0, .int .u32 0]) := (HJ8.out.set n rg0).1
        have k9 : Kp (fun b => b = w.heap.size) W8 (W8.setCells w.heap.size (1 + n * 3) [.bool false, .int .u32 0, .int .u32 0]) := (HJ8.out.set n rg0).2
        have B9 := HB8.out.keep k9 (by omega)
        have A9 := HA8.out.keep k9 (by omega)
        generalize hW9 : W8.setCells w.heap.size (1 + n * 3) [.bool false, .int .u32 0, .int .u32 0] = W9 at J9 B9 A9 ⊢
        clear hW9 k9
        have b0 : W9.cell? ⟨wr.heap.size, 0, none⟩ = some (.bool rb.s) := B9.cell 0 (by omega)
        have b1 : W9.cell? ⟨wr.heap.size, 1, none⟩ = some (.int .u32 (rb.l : Int)) := B9.cell 1 (by omega)
        have b2 : W9.cell? ⟨wr.heap.size, 2, none⟩ = some (.int .u32 (rb.g : Int)) := B9.cell 2 (by omega)
        have a0 : W9.cell? ⟨wr.heap.size + 1, 0, none⟩ = some (.bool ra.s) := A9.cell 0 (by omega)
        have a1 : W9.cell? ⟨wr.heap.size + 1, 1, none⟩ = some (.int .u32 (ra.l : Int)) := A9.cell 1 (by omega)
        have a2 : W9.cell? ⟨wr.heap.size + 1, 2, none⟩ = some (.int .u32 (ra.g : Int)) := A9.cell 2 (by omega)
        clear B9 A9
        have HJ9 := Lib.hid J9; clear J9
        obtain ⟨sa, la, ga⟩ := ra
        obtain ⟨sb, lb, gb⟩ := rb
        by_cases hboth : sa = true ∧ sb = true
        · obtain ⟨rfl, rfl⟩ := hboth
          go_upto_region 12 with (refine wpList_store_mid rfl 37 (.tmp 51) (.tmp 49) rfl w.heap.size (1 + n * 3) #[.bool true, .int .u32 (min (la : Int) (lb : Int)), .int .u32 (max (ga : Int) (gb : Int))] rfl rfl (there_mid HJ9.out.s (1 + n * 3) 3 (by omega)) (by kernel_rfl) (by simp [Value.oneCell']) ?_)
          have J11 := (HJ9.out.set n ⟨true, min la lb, max ga gb⟩).1
          have ek : (⟨(jnK a b n).come, upd (upd (jnK a b n).r n rg0) n ⟨true, min la lb, max ga gb⟩⟩ : Kn) = jnK a b (n + 1) := by
            rw [upd_upd, ← jnK_succ, ← hN.out]; rfl
          have J12 : Jn w (jnK a b (n + 1)) (W9.setCells w.heap.size (1 + n * 3) [.bool true, .int .u32 (min (la : Int) (lb : Int)), .int .u32 (max (ga : Int) (gb : Int))]) := by
            rw [← ek, show min (la : Int) (lb : Int) = ((min la lb : Nat) : Int) from by omega, show max (ga : Int) (gb : Int) = ((max ga gb : Nat) : Int) from by omega]
            exact J11
          clear J11 ek b0 b1 b2 a0 a1 a2
          have HJ12 := Lib.hid J12; clear J12
          go_wp2
          go_roundw
          case rel => exact ⟨n + 1, by omega, by go_num, HJ12.out⟩
          case measure => simp [intOf]; omega
        · have hz : jnR ⟨sa, la, ga⟩ ⟨sb, lb, gb⟩ = rg0 := by
            unfold jnR
            cases sa <;> cases sb <;> first | rfl | exact absurd ⟨rfl, rfl⟩ hboth
          have J12 : Jn w (jnK a b (n + 1)) W9 := by rw [← jnK_succ, ← hN.out, hz]; exact HJ9.out
          have HJ12 := Lib.hid J12; clear J12 hz hN
          cases sa
          · clear hboth
            go_wp2
            go_roundw
            case rel => exact ⟨n + 1, by omega, by go_num, HJ12.out⟩
            case measure => simp [intOf]; omega
          · cases sb
            · clear hboth
              go_wp2
              go_roundw
              case rel => exact ⟨n + 1, by omega, by go_num, HJ12.out⟩
              case measure => simp [intOf]; omega
            · exact absurd ⟨rfl, rfl⟩ hboth
      · obtain rfl : n = 10 := by omega
        obtain ⟨R5, hR5⟩ := hc.r
        have HC := Lib.hid hc; have HRR := Lib.hid hR5; clear hc hR5
        go_upto_region 13 with fail
        refine wp_region_list ?_
        refine wpList_load_mid rfl 42 (.tmp 2) (by kernel_rfl) w.heap.size 0 (by kernel_rfl) (knL (jnK a b 10)) _ HC.out.s.range Try.underlying42 rfl (by rw [knL_length]; exact info_kn) ?_
        obtain ⟨W4, HW4, HR4, HB4, HK4⟩ := fin_store HC.out.b HRR.out (by omega) (knL (jnK a b 10)) (knL_length _)
        refine wpList_store_mid rfl 42 (.tmp 4) (.tmp 53) (by kernel_rfl) (w.heap.size + 2) 0 (knL (jnK a b 10)).toArray (by kernel_rfl) (by kernel_rfl) (by rw [knA_size]; exact there_blk HRR.out) (by rw [knA_size]; exact info_kn) (knL_one _) ?_
        rw [← HW4.out]
        go_wp2
        exact bodyPost_ret (v := .agg (knL (jnK a b 10)).toArray) (results_cell1_range Try.results25 _ _ (w.heap.size + 2) 0 _ _ rfl HR4.out Try.underlying42 rfl (by rw [knL_length]; exact info_kn)) rfl ⟨by rw [HJ.out], HB4.out⟩
end Go.Proofs.Ytjlddhnjbjhmkaa
