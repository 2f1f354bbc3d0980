/- The law: the same are the same. -/
import Derived.Test.YtpnkbpjhbmacaaaRw3
import Derived.ChangeKeysEq
import Derived.Laws.StructEq
set_option linter.unusedVariables false
set_option linter.unusedSimpArgs false
namespace Go.Proofs.Ytpnkbpjhbmacaaa
open Go.RowKit

/-! ### a value of bools and integers is the same as itself -/
def fits (P : Program) : Nat → TypeId → List Value → Bool
  | 0, _, _ => false
  | d + 1, t, cs =>
    match P.underlying t with
    | some .bool => match cs with | [.bool _] => true | _ => false
    | some (.int _) => match cs with | [.int _ _] => true | _ => false
    | some (.array n e) => (P.info? e).isSome && (List.range n).all fun i => decide (((cs.drop (i * P.cellsOf e)).take (P.cellsOf e)).length = P.cellsOf e) && fits P d e ((cs.drop (i * P.cellsOf e)).take (P.cellsOf e))
    | some (.struct fs) => !P.stoodInHeld t && fs.toList.all fun f => (P.info? f.type).isSome && (decide (((cs.drop f.offset).take (P.cellsOf f.type)).length = P.cellsOf f.type) && fits P d f.type ((cs.drop f.offset).take (P.cellsOf f.type)))
    | _ => false
/-- The value of a type's cells. -/
def valOf (P : Program) (t : TypeId) (cs : List Value) : Value :=
  match P.underlying t with
  | some (.array _ _) | some (.struct _) => .agg cs.toArray
  | _ => cs.headD undef
section
variable {P : Program}
theorem part_val {d : Nat} {e : TypeId} {xs : Array Value} {off : Nat} (hi : (P.info? e).isSome = true) (hl : ((xs.toList.drop off).take (P.cellsOf e)).length = P.cellsOf e) (hf : fits P d e ((xs.toList.drop off).take (P.cellsOf e)) = true) (w : World) :
    (part e xs off).run P w = .ok (valOf P e ((xs.toList.drop off).take (P.cellsOf e))) w := by
  obtain ⟨i, hi⟩ := Option.isSome_iff_exists.1 hi
  have hex : xs.extract off (off + P.cellsOf e) = ((xs.toList.drop off).take (P.cellsOf e)).toArray := by
    apply Array.toList_inj.1
    rw [Array.toList_extract]
    simp [List.extract]
  have one : ∀ v, (xs.toList.drop off).take (P.cellsOf e) = [v] → xs[off]? = some v := fun v h => by
    have h1 : ((xs.toList.drop off).take (P.cellsOf e))[0]? = some v := by rw [h]; rfl
    rw [List.getElem?_take] at h1
    split at h1
    · rw [List.getElem?_drop] at h1
      simpa using h1
    · cases h1
  cases d with
  | zero => simp [fits] at hf
  | succ d =>
    unfold fits at hf
    unfold valOf
    cases hu : P.underlying e with
    | none => rw [hu] at hf; simp at hf
    | some kd =>
      rw [hu] at hf
      cases kd with
      | bool =>
        simp only at hf ⊢
        split at hf
        · rename_i b hb
          rw [hb]
          simp [part, isAgg, run_underlying hu, one _ hb]
        · cases hf
      | int q =>
        simp only at hf ⊢
        split at hf
        · rename_i k a hb
          rw [hb]
          simp [part, isAgg, run_underlying hu, one _ hb]
        · cases hf
      | array n e' => simp [part, isAgg, run_underlying hu, run_sizeOf w hi, hex]
      | struct fs => simp [part, isAgg, run_underlying hu, run_sizeOf w hi, hex]
      | _ => simp at hf
theorem eq_self : ∀ (d : Nat) (t : TypeId) (cs : List Value), fits P d t cs = true → ∀ (D : Nat) (w : World), (Op.equalIn (D + d) t (valOf P t cs) (valOf P t cs)).run P w = .ok true w
  | 0, _, _, h, _, _ => by simp [fits] at h
  | d + 1, t, cs, hf, D, w => by
    unfold fits at hf
    unfold valOf
    cases hu : P.underlying t with
    | none => rw [hu] at hf; simp at hf
    | some kd =>
      rw [hu] at hf
      cases kd with
      | bool =>
        simp only at hf ⊢
        split at hf
        · rename_i b
          show (Op.equalIn ((D + d) + 1) t (.bool b) (.bool b)).run P w = _
          rw [run_equalIn_bool' w (D + d) t b b hu]
          simp
        · cases hf
      | int q =>
        simp only at hf ⊢
        split at hf
        · rename_i k a
          show (Op.equalIn ((D + d) + 1) t (.int k a) (.int k a)).run P w = _
          rw [run_equalIn_int w (D + d) t k q a a hu]
          simp
        · cases hf
      | array n e =>
        simp only [Bool.and_eq_true, List.all_eq_true, decide_eq_true_eq] at hf ⊢
        obtain ⟨hi, hall⟩ := hf
        obtain ⟨i, hi'⟩ := Option.isSome_iff_exists.1 hi
        show (Op.equalIn ((D + d) + 1) t (.agg cs.toArray) (.agg cs.toArray)).run P w = _
        rw [run_equalIn_array w (D + d) cs.toArray cs.toArray hu hi']
        generalize List.range n = is at hall
        induction is with
        | nil => simp [Op.eqItems]
        | cons j is ih =>
          obtain ⟨h1, h2⟩ := hall j (by simp)
          have hp := part_val (d := d) (xs := cs.toArray) (off := j * P.cellsOf e) hi h1 h2 w
          have he := eq_self d e _ h2 D w
          simp only [Op.eqItems, Sem.run_bind, hp, Result.andThen_ok]
          rw [he]
          simp only [Result.andThen_ok, Bool.not_true, Bool.false_eq_true, if_false]
          exact ih (fun i hi => hall i (by simp [hi]))
      | struct fs =>
        simp only [Bool.and_eq_true, Bool.not_eq_true', List.all_eq_true, decide_eq_true_eq] at hf ⊢
        obtain ⟨hst, hall⟩ := hf
        have hfo : P.fieldsOf t = fs := by unfold Program.fieldsOf; rw [hu]
        show (Op.equalIn ((D + d) + 1) t (.agg cs.toArray) (.agg cs.toArray)).run P w = _
        rw [run_equalIn_struct w (D + d) t cs.toArray cs.toArray (by rw [hfo]; exact hu) hst, hfo]
        generalize fs.toList = l at hall
        induction l with
        | nil => simp [Op.eqFields]
        | cons f l ih =>
          obtain ⟨hi, h1, h2⟩ := hall f (by simp)
          have hp := part_val (d := d) (xs := cs.toArray) (off := f.offset) hi h1 h2 w
          have he := eq_self d f.type _ h2 D w
          have ih' := ih (fun i hi => hall i (by simp [hi]))
          simp only [Op.eqFields, Sem.run_ite]
          split
          · simp only [Sem.run_bind, hp, Result.andThen_ok]
            rw [he]
            simp only [Result.andThen_ok, Bool.not_true, Bool.false_eq_true, if_false]
            exact ih'
          · exact ih'
      | _ => simp at hf
theorem neq_self (w : World) {d : Nat} (hd : d ≤ 10000) {t : TypeId} {cs : List Value} (ha : valOf P t cs = .agg cs.toArray) (hx : fits P d t cs = true) : (binOp .neq t (.agg cs.toArray) (.agg cs.toArray)).run P w = .ok (.bool false) w := by
  have h := eq_self d t cs hx (10000 - d) w
  rw [ha, show 10000 - d + d = 10000 by omega] at h
  rw [run_neq_struct, h]
  rfl
end
theorem scr_self (f : Nat → Nat) (W : World) : (binOp .neq 32 (.agg ((List.range 64).map fun j => Value.int .u8 (f j : Int)).toArray) (.agg ((List.range 64).map fun j => Value.int .u8 (f j : Int)).toArray)).run Try.prog W = .ok (.bool false) W :=
  neq_self W (d := 3) (by omega) (by kernel_rfl) (by kernel_rfl)
theorem call_self (c : CallR) (W : World) : (binOp .neq 80 (.agg (callCells c).toArray) (.agg (callCells c).toArray)).run Try.prog W = .ok (.bool false) W :=
  neq_self W (d := 4) (by omega) (by kernel_rfl) (by kernel_rfl)
theorem mom_self (m : Mom) (W : World) : (binOp .neq 70 (.agg (momCells m).toArray) (.agg (momCells m).toArray)).run Try.prog W = .ok (.bool false) W :=
  neq_self W (d := 4) (by omega) (by kernel_rfl) (by kernel_rfl)
theorem exec_neq {P : Program} {o : Oper} {ac : Act} {w : World} (ty ty2 : TypeId) (x y : Operand) (ho : o.op = .binOp .neq ty x y ty2) (cs cs2 : Array Value) (hx : ac.eval x = .agg cs) (hy : ac.eval y = .agg cs2) (hm : P.eqGuardType P.depth ty = false)
    (b : Bool) (h : (binOp .neq ty (.agg cs) (.agg cs2)).run P w = .ok (.bool b) w) : (execOp ac.eval o).run P w = .ok (.value (.bool b)) w := by
  unfold execOp
  simp only [ho, hx, hy, Sem.run_bind, Sem.run_pure, Result.andThen_ok, run_eqGuard_agg w .neq ty x y cs cs2 hm, h]
theorem wpList_wanted {P : Program} {ops : Array Oper} {Q : Exit → Act → World → Prop} {a : Act} {w : World} {rest : List Oper} {o : Oper} (hg : Region.wanted o (yielded ops a.tmps) = true)
    (h : ∀ K : Act → World → Prop, (∀ a w, wpList P ops Q rest a w → K a w) → o.wp P a w K Q) : wpList P ops Q (o :: rest) a w := by
  unfold wpList
  rw [if_pos hg]
  exact .inl (h _ fun _ _ h => h)
theorem wpList_valueg {P : Program} {ops : Array Oper} {rest : List Oper} {o : Oper} {a : Act} {w w' : World} {Q : Exit → Act → World → Prop} (v : Value) (hg : Region.wanted o (yielded ops a.tmps) = true) (h : (execOp a.eval o).run P w = .ok (.value v) w')
    (hk : wpList P ops Q rest (a.put o.dst v) w') : wpList P ops Q (o :: rest) a w :=
  wpList_wanted hg fun K hK => wp_value v h (hK _ _ hk)

/-! ### two runs that are the same -/
def scrL (s : Vm) : List Value := (List.range 64).map fun j => Value.int .u8 (s.scr j : Int)
theorem ranL_scr {w : World} {g : Nat} {K : Value} {s : Vm} (h : Blk w g 34 69 (fun j => (ranL K s).getD j undef)) : w.rangeAt g 5 (scrL s) := by
  have := h.rangeAt 5 64 (by omega)
  have e : rowF 64 (fun j => (ranL K s).getD (5 + j) undef) = scrL s := by
    apply List.map_congr_left
    intro j hj
    have hj' := List.mem_range.1 hj
    simp only [ranL, Nat.add_comm 5 j, List.getD_eq_getElem?_getD, List.getElem?_cons_succ, List.getElem?_map, List.getElem?_range hj', Option.map_some, Option.getD_some]
  rwa [e] at this
theorem ran_box (w : World) (K : Value) (s : Vm) : Blk (w.alloc (.cells (ranL K s).toArray 34)) w.heap.size 34 69 (fun j => (ranL K s).getD j undef) :=
  Blk.new w _ _ 69 (by rw [List.size_toArray, ranL_length]) _ fun j hj => by
    rw [List.getElem?_toArray, List.getElem?_eq_getElem (by rw [ranL_length]; exact hj)]
    simp [List.getD_eq_getElem?_getD, List.getElem?_eq_getElem (show j < (ranL K s).length by rw [ranL_length]; exact hj)]
theorem guard_scr : Try.prog.eqGuardType Try.prog.depth 32 = false := by kernel_rfl
theorem guard_call : Try.prog.eqGuardType Try.prog.depth 80 = false := by kernel_rfl
theorem guard_mom : Try.prog.eqGuardType Try.prog.depth 70 = false := by kernel_rfl
theorem size_scr : (Try.prog.info? 32).map (·.size) = some 64 := by kernel_rfl
theorem size_call : (Try.prog.info? 80).map (·.size) = some 6 := by kernel_rfl
theorem scrL_length (s : Vm) : (scrL s).length = 64 := by simp [scrL]
/-- The worlds of SameRan. -/
structure Two (w : World) (K K' : Value) (s : Vm) (W : World) : Prop where
  b : Below w.heap.size w W
  x : Blk W w.heap.size 34 69 (fun j => (ranL K s).getD j undef)
  y : Blk W (w.heap.size + 1) 34 69 (fun j => (ranL K' s).getD j undef)
theorem Two.start (w : World) (K K' : Value) (s : Vm) : Two w K K' s ((w.alloc (.cells (ranL K s).toArray 34)).alloc (.cells (ranL K' s).toArray 34)) := by
  refine ⟨((Below.refl _ _).alloc (Nat.le_refl _) _).alloc (by simp) _, (ran_box w K s).below ((Below.refl _ _).alloc (Nat.le_refl _) _), ?_⟩
  have := ran_box (w.alloc (.cells (ranL K s).toArray 34)) K' s
  simpa using this
theorem Two.drewp {w : World} {K K' : Value} {s : Vm} {W : World} (h : Two w K K' s W) : Two w K K' s W.drew := ⟨h.b.drew, h.x.below ((Below.refl _ _).drew), h.y.below ((Below.refl _ _).drew)⟩
theorem calls_cells : ∀ (cs : List CallR) (n j : Nat) (c : CallR), cs[n]? = some c → j < 6 → (callsV cs)[n * 6 + j]? = (callCells c)[j]?
  | [], n, j, c, h, _ => by simp at h
  | p :: cs, 0, j, c, h, hj => by
    simp only [List.getElem?_cons_zero, Option.some.injEq] at h
    subst h
    show ((p :: cs).flatMap callCells)[0 * 6 + j]? = _
    rw [List.flatMap_cons, List.getElem?_append_left (by simp [callCells]; omega)]
    congr 1; omega
  | p :: cs, n + 1, j, c, h, hj => by
    rw [List.getElem?_cons_succ] at h
    have e := calls_cells cs n j c h hj
    show ((p :: cs).flatMap callCells)[(n + 1) * 6 + j]? = _
    rw [List.flatMap_cons, List.getElem?_append_right (by simp [callCells]; omega), ← e]
    unfold callsV
    congr 1
    simp [callCells]; omega

set_option maxRecDepth 100000 in
set_option maxHeartbeats 2000000 in
theorem sameran_ok (w : World) {okA okB : Nat → Prop} (A B : Option Addr) (ca cb : Nat) (s : Vm) (hA : Sl w okA 6 A s.calls.length ca (callsV s.calls)) (hB : Sl w okB 6 B s.calls.length cb (callsV s.calls)) (hcl : s.calls.length ≤ 1000) :
    Calls Try.prog 14 #[.agg (ranL (.slice A s.calls.length ca) s).toArray, .agg (ranL (.slice B s.calls.length cb) s).toArray] w fun e w' => e = .returned (.bool true) ∧ Below w.heap.size w w' := by
  obtain ⟨L1, hL1⟩ : ∃ L, L = (ranL (.slice A s.calls.length ca) s).toArray := ⟨_, rfl⟩
  obtain ⟨L2, hL2⟩ : ∃ L, L = (ranL (.slice B s.calls.length cb) s).toArray := ⟨_, rfl⟩
  obtain ⟨W1, hW1⟩ : ∃ W1, W1 = (w.alloc (.cells L1 34)).alloc (.cells L2 34) := ⟨_, rfl⟩
  have G1 : Two w (.slice A s.calls.length ca) (.slice B s.calls.length cb) s W1 := by rw [hW1, hL1, hL2]; exact Two.start w _ _ s
  have x0 : W1.cell? ⟨w.heap.size, 0, none⟩ = some (.int .i64 (s.steps : Int)) := G1.x.cell 0 (by omega)
  have x1 : W1.cell? ⟨w.heap.size, 1, none⟩ = some (.int .i64 (s.fault : Int)) := G1.x.cell 1 (by omega)
  have x2 : W1.cell? ⟨w.heap.size, 2, none⟩ = some (.int .i64 (s.oat : Int)) := G1.x.cell 2 (by omega)
  have x3 : W1.cell? ⟨w.heap.size, 3, none⟩ = some (.int .u32 (s.val : Int)) := G1.x.cell 3 (by omega)
  have x4 : W1.cell? ⟨w.heap.size, 4, none⟩ = some (.slice A s.calls.length ca) := G1.x.cell 4 (by omega)
  have y0 : W1.cell? ⟨w.heap.size + 1, 0, none⟩ = some (.int .i64 (s.steps : Int)) := G1.y.cell 0 (by omega)
  have y1 : W1.cell? ⟨w.heap.size + 1, 1, none⟩ = some (.int .i64 (s.fault : Int)) := G1.y.cell 1 (by omega)
  have y2 : W1.cell? ⟨w.heap.size + 1, 2, none⟩ = some (.int .i64 (s.oat : Int)) := G1.y.cell 2 (by omega)
  have y3 : W1.cell? ⟨w.heap.size + 1, 3, none⟩ = some (.int .u32 (s.val : Int)) := G1.y.cell 3 (by omega)
  have y4 : W1.cell? ⟨w.heap.size + 1, 4, none⟩ = some (.slice B s.calls.length cb) := G1.y.cell 4 (by omega)
  have HX := Lib.hid (ranL_scr G1.x)
  have HY := Lib.hid (ranL_scr G1.y)
  have HG1 := Lib.hid G1; clear G1
  rw [← hL1, ← hL2]
  clear hL1 hL2
  have HW1 := Lib.hid hW1; clear hW1
  go_enter Try.func14, Try.ntmps14
  go_upto_region 1 with fail
  rw [← HW1.out]
  go_upto_region 3 with (first | (refine wpList_valueg (o := ⟨some 34, _, _, _, _, _⟩) (w' := W1) (.agg (scrL s).toArray) rfl (exec_load_mid 32 (.tmp 33) rfl w.heap.size 5 rfl (scrL s) _ HX.out Try.underlying32 rfl (by rw [scrL_length]; exact size_scr)) ?_) | (refine wpList_valueg (o := ⟨some 36, _, _, _, _, _⟩) (w' := W1) (.agg (scrL s).toArray) rfl (exec_load_mid 32 (.tmp 35) rfl (w.heap.size + 1) 5 rfl (scrL s) _ HY.out Try.underlying32 rfl (by rw [scrL_length]; exact size_scr)) ?_) | (refine wpList_valueg (o := ⟨some 37, _, _, _, _, _⟩) (w' := W1) (.bool false) rfl (exec_neq 32 32 (.tmp 34) (.tmp 36) rfl _ _ rfl rfl guard_scr false (scr_self s.scr W1)) ?_))
  clear x0 x1 x2 x3 x4 y0 y1 y2 y3 y4
  go_wp2
  go_loopw [5] (fun i wr => ∃ k : Nat, k ≤ s.calls.length ∧ i = .int .i64 (k : Int) ∧ Two w (.slice A s.calls.length ca) (.slice B s.calls.length cb) s wr) (fun i _ => s.calls.length - (intOf i).toNat)
  case atStart => exact ⟨0, Nat.zero_le _, rfl, HG1.out⟩
  case round =>
    obtain ⟨k, hk, rfl, G⟩ := hrel
    have x4 : wr.cell? ⟨w.heap.size, 4, none⟩ = some (.slice A s.calls.length ca) := G.x.cell 4 (by omega)
    by_cases hlt : k < s.calls.length
    · have hlt' : (k : Int) < s.calls.length := by omega
      obtain ⟨c, hc⟩ : ∃ c, s.calls[k]? = some c := ⟨_, List.getElem?_eq_getElem hlt⟩
      obtain ⟨a, rfl, _, hal, hac⟩ := hA.at_ (j := k * 6) (by omega)
      obtain ⟨b, rfl, _, hbl, hbc⟩ := hB.at_ (j := k * 6) (by omega)
      have hla : ∀ W, Below w.heap.size w W → ∀ j v, (callCells c)[j]? = some v → W.cell? ((a.add (k * 6)).add j) = some v := fun W hW j v hv => by
        have hj : j < 6 := by
          rcases Nat.lt_or_ge j 6 with h | h
          · exact h
          · rw [List.getElem?_eq_none (by simpa [callCells] using h)] at hv; cases hv
        rw [add_add]
        exact (World.cell?_of_block (hW.block _ (by rw [add_block]; exact hal))).trans (hac (k * 6 + j) v (by rw [calls_cells s.calls k j c hc hj]; exact hv))
      have hlb : ∀ W, Below w.heap.size w W → ∀ j v, (callCells c)[j]? = some v → W.cell? ((b.add (k * 6)).add j) = some v := fun W hW j v hv => by
        have hj : j < 6 := by
          rcases Nat.lt_or_ge j 6 with h | h
          · exact h
          · rw [List.getElem?_eq_none (by simpa [callCells] using h)] at hv; cases hv
        rw [add_add]
        exact (World.cell?_of_block (hW.block _ (by rw [add_block]; exact hbl))).trans (hbc (k * 6 + j) v (by rw [calls_cells s.calls k j c hc hj]; exact hv))
      have HLA := Lib.hid hla; have HLB := Lib.hid hlb
      have HAC := Lib.hid hac; have HBC := Lib.hid hbc
      clear hla hlb hac hbc hc
      have HG := Lib.hid G; clear G
      go_upto_region 6 with fail
      clear x4
      refine wp_region_noPanic ?_
      refine plan (.rd 0 (.rd 1 (.rd 2 (.rd 3 (.rd 4 (.rd 5 (.rd 6 (.rd 7 (.rd 8 (.rd 9 (.rd 10 .done))))))))))) [0, 1, 2, 3, 4, 5, 6, 7, 8, 9, 10] (fun W => Two w (.slice (some a) s.calls.length ca) (.slice (some b) s.calls.length cb) s W) (by kernel_rfl) (by kernel_rfl) (fun _ _ _ _ _ h => h) HG.out.drewp ?_
      repeat (refine pl_pure rfl (fun K hK => ?_); go_simp; refine hK _ ?_; clear hK K)
      refine pl_rd (.slice (some a) s.calls.length ca) rfl rfl (fun W hS => ?_) (fun K hK => ?_)
      · have f0 : W.cell? ⟨w.heap.size, 4, none⟩ = some (.slice (some a) s.calls.length ca) := hS.x.cell 4 (by omega)
        simp [go_sem, f0]
      go_simp
      refine hK _ ?_
      clear hK K
      repeat (refine pl_pure rfl (fun K hK => ?_); go_simp; refine hK _ ?_; clear hK K)
      refine pl_rd (.agg (callCells c).toArray) rfl rfl (fun W hS => ?_) (fun K hK => ?_)
      · exact exec_load_at 80 (.tmp 58) rfl (a.add (k * 6)) rfl (callCells c) _ (HLA.out W hS.b) Try.underlying80 rfl size_call
      refine hK _ ?_
      clear hK K
      repeat (refine pl_pure rfl (fun K hK => ?_); go_simp; refine hK _ ?_; clear hK K)
      refine pl_rd (.slice (some b) s.calls.length cb) rfl rfl (fun W hS => ?_) (fun K hK => ?_)
      · have f0 : W.cell? ⟨w.heap.size + 1, 4, none⟩ = some (.slice (some b) s.calls.length cb) := hS.y.cell 4 (by omega)
        simp [go_sem, f0]
      go_simp
      refine hK _ ?_
      clear hK K
      repeat (refine pl_pure rfl (fun K hK => ?_); go_simp; refine hK _ ?_; clear hK K)
      refine pl_rd (.agg (callCells c).toArray) rfl rfl (fun W hS => ?_) (fun K hK => ?_)
      · exact exec_load_at 80 (.tmp 63) rfl (b.add (k * 6)) rfl (callCells c) _ (HLB.out W hS.b) Try.underlying80 rfl size_call
      refine hK _ ?_
      clear hK K
      refine pl_rd (.bool false) rfl rfl (fun W hS => ?_) (fun K hK => ?_)
      · exact exec_neq 80 80 (.tmp 59) (.tmp 64) rfl _ _ rfl rfl guard_call false (call_self c W)
      refine hK _ ?_
      clear hK K
      refine pl_done ?_
      refine NoPanic.normal ?_
      have HGD := Lib.hid HG.out.drewp
      generalize hwd : wr.drew = wd at HGD ⊢
      clear hwd
      go_wp2
      go_roundw
      case rel => exact ⟨k + 1, by omega, by go_num, HGD.out⟩
      case measure => simp [intOf]; omega
    · have hlt' : ¬ (k : Int) < s.calls.length := by omega
      have HG := Lib.hid G; clear G
      go_wp2
      go_ret
      exact ⟨rfl, HG.out.b⟩
end Go.Proofs.Ytpnkbpjhbmacaaa
