/- The VM: a run begun. -/
import Derived.Test.YtpnkbpjhbmacaaaVm15
import Derived.Deep.MidRow
set_option linter.unusedVariables false
set_option linter.unusedSimpArgs false
namespace Go.Proofs.Ytpnkbpjhbmacaaa
open Go.RowKit

theorem Kp.setCells {M : Nat → Prop} {w : World} {b : Nat} (hb : M b ∨ w.heap.size ≤ b) : ∀ (vs : List Value) (o : Nat) (w1 : World), Kp M w w1 → Kp M w (w1.setCells b o vs)
  | [], _, _, h => h
  | v :: r, o, w1, h => Kp.setCells hb r (o + 1) _ (h.setCell (p := ⟨b, o, none⟩) hb v)
def ranL (K : Value) (s : Vm) : List Value := .int .i64 (s.steps : Int) :: .int .i64 (s.fault : Int) :: .int .i64 (s.oat : Int) :: .int .u32 (s.val : Int) :: K :: (List.range 64).map fun j => .int .u8 (s.scr j : Int)
theorem ranL_length (K : Value) (s : Vm) : (ranL K s).length = 69 := by simp [ranL]
theorem ranL_get (K : Value) (s : Vm) (f : Fx) (j : Nat) (hj : j < 69) : (ranL K s)[j]? = some (vmF f K s (25 + j)) := by
  have hc : j = 0 ∨ j = 1 ∨ j = 2 ∨ j = 3 ∨ j = 4 ∨ ∃ i, i < 64 ∧ j = i + 5 := by
    rcases Nat.lt_or_ge j 5 with h | h
    · omega
    · exact .inr (.inr (.inr (.inr (.inr ⟨j - 5, by omega, by omega⟩))))
  rcases hc with rfl | rfl | rfl | rfl | rfl | ⟨i, hi, rfl⟩
  · rfl
  · rfl
  · rfl
  · rfl
  · rfl
  · simp only [ranL, List.getElem?_cons_succ, List.getElem?_map, List.getElem?_range hi, Option.map_some]
    unfold vmF
    rw [if_neg (by omega), if_neg (by omega), if_neg (by omega), if_neg (by omega), if_neg (by omega), if_neg (by omega), if_neg (by omega), if_neg (by omega), if_neg (by omega), if_neg (by omega), if_neg (by omega), if_neg (by omega), if_pos (by omega), show 25 + (i + 5) - 30 = i from by omega]
theorem VmB.ran {w : World} {x : Nat} {f : Fx} {K : Value} {s : Vm} (h : VmB w x f K s) : w.rangeAt x 25 (ranL K s) := fun j v hv => by
  have hj : j < 69 := by
    rcases Nat.lt_or_ge j 69 with h | h
    · exact h
    · rw [List.getElem?_eq_none (by rw [ranL_length]; exact h)] at hv; cases hv
  rw [ranL_get K s f j hj] at hv
  injection hv with hv
  rw [← hv]
  exact Blk.cell h (25 + j) (by omega)
theorem ranL_one (K : Value) (hK : K.oneCell' = true) (s : Vm) : (ranL K s).toArray.all (·.oneCell') = true := by
  rw [List.all_toArray, List.all_eq_true]
  intro u hu
  unfold ranL at hu
  simp only [List.mem_cons, List.mem_map] at hu
  rcases hu with rfl | rfl | rfl | rfl | rfl | ⟨j, _, rfl⟩
  · rfl
  · rfl
  · rfl
  · rfl
  · exact hK
  · rfl
theorem there_blk {w : World} {g : Nat} {t : TypeId} {N : Nat} {F : Nat → Value} (h : Blk w g t N F) : w.there g 0 N := fun j hj => ⟨by rw [Nat.zero_add, h.cell j hj]; rfl, by rw [Nat.zero_add]; exact h.frozen j⟩
theorem Blk.lit (w : World) (t : TypeId) (cs : Array Value) : Blk (w.alloc (.cells cs t)) w.heap.size t cs.size (fun j => cs.getD j undef) :=
  Blk.new w t cs cs.size rfl _ fun j hj => by simp [Array.getD, hj]
theorem info_ran : (Try.prog.info? 34).map (·.size) = some 69 := by kernel_rfl
theorem size_ranz : Try.zeroCells34.size = 69 := by kernel_rfl
theorem build_ranz (W : World) : (Instr.build 34 #[]).run Try.prog W = .ok (.agg Try.zeroCells34) W := by kernel_rfl
theorem one_ranz : Try.zeroCells34.all (·.oneCell') = true := by kernel_rfl
/-- The value of results of which the first lies in a block, whole. -/
theorem results_cell_range {P : Program} {fn : Func} {p u : Tmp} {ty : TypeId} (h : fn.results = #[.cell p ty, .tmp u]) (tmps : Array Value) (w : World) (g o : Nat) (cs : List Value) (d : TypeDesc)
    (hp : tmps.getD p undef = .pointer (some ⟨g, o, none⟩)) (hc : w.rangeAt g o cs) (hu : P.underlying ty = some d) (hd : d.isRow = true) (hi : (P.info? ty).map (·.size) = some cs.length) (v : Value) (hv : tmps.getD u undef = v) :
    (results fn tmps).run P w = .ok (.tuple #[.agg cs.toArray, v]) w := by
  rw [results_cell_tmp h tmps P w, hp, hv]
  simp only [asAddr, Sem.run_pure, Result.andThen_ok, run_loadVar_mid w g o ty cs d hc hu hd hi]

def vm0 : Vm := ⟨0, fun _ => false, fun _ => 0, 0, 0, 0, 0, [], fun _ => 0⟩
def run0 (f : Fx) : Array Value := ((List.range 95).map (vmF f (.slice none 0 0) vm0)).toArray
theorem run0_blk (w : World) (f : Fx) : VmB (w.alloc (.cells (run0 f) 95)) w.heap.size f (.slice none 0 0) vm0 := by
  refine Blk.new w _ _ 95 (by simp [run0]) _ fun j hj => ?_
  simp only [run0, List.getElem?_toArray, List.getElem?_map, List.getElem?_range hj, Option.map_some]
theorem wp_value {P : Program} {o : Oper} {a : Act} {w w' : World} {K : Act → World → Prop} {Q : Exit → Act → World → Prop} (v : Value) (h : (execOp a.eval o).run P w = .ok (.value v) w') (hk : K (a.put o.dst v) w') : o.wp P a w K Q := by
  unfold Oper.wp
  rw [h]
  exact hk
theorem flat_z (pr : List Ins8) : (pr.map Ins8.z).flatMap insZC = pr.flatMap insCells := by
  induction pr with
  | nil => rfl
  | cons i pr ih => rw [List.map_cons, List.flatMap_cons, List.flatMap_cons, ih]; rfl
end Go.Proofs.Ytpnkbpjhbmacaaa
