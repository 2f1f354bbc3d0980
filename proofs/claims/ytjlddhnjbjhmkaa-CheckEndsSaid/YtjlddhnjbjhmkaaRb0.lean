/- Layer 6, the document's answer: a Way's cells. -/
import Derived.Test.YtjlddhnjbjhmkaaRf2
import Derived.BigQuiet
set_option linter.unusedVariables false
set_option linter.unusedSimpArgs false
namespace Go.Proofs.Ytjlddhnjbjhmkaa
open Go.RowKit

def wayF (n j : Kn) (e : Int) (x : Nat) : Value := if x < 31 then knF n x else if x < 62 then knF j (x - 31) else .int .i64 e
def wayL (n j : Kn) (e : Int) : List Value := rowF 63 (wayF n j e)
theorem wayL_length (n j : Kn) (e : Int) : (wayL n j e).length = 63 := rowF_length _ _
theorem wayA_size (n j : Kn) (e : Int) : (wayL n j e).toArray.size = 63 := by rw [List.size_toArray, wayL_length]
theorem wayF_one (n j : Kn) (e : Int) (x : Nat) : (wayF n j e x).oneCell' = true := by
  unfold wayF
  split
  · exact knF_one _ _
  · split
    · exact knF_one _ _
    · rfl
theorem wayL_one (n j : Kn) (e : Int) : (wayL n j e).toArray.all (·.oneCell') = true := rowF_one _ _ fun x _ => wayF_one n j e x
theorem info_way : (Try.prog.info? 64).map (·.size) = some 63 := by kernel_rfl
def WyB (W : World) (b : Nat) (n j : Kn) (e : Int) : Prop := Blk W b 64 63 (wayF n j e)
theorem WyB.next {W : World} {b : Nat} {n j : Kn} {e : Int} (h : WyB W b n j e) : W.rangeAt b 0 (knL n) := by
  have := Blk.rangeAt h 0 31 (by omega)
  have e1 : rowF 31 (fun x => wayF n j e (0 + x)) = knL n := rowF_ext 31 fun x hx => by
    show wayF n j e (0 + x) = _
    rw [Nat.zero_add]; unfold wayF; rw [if_pos hx]
  rw [e1] at this; exact this
theorem WyB.jumped {W : World} {b : Nat} {n j : Kn} {e : Int} (h : WyB W b n j e) : W.rangeAt b 31 (knL j) := by
  have := Blk.rangeAt h 31 31 (by omega)
  have e1 : rowF 31 (fun x => wayF n j e (31 + x)) = knL j := rowF_ext 31 fun x hx => by
    show wayF n j e (31 + x) = _
    unfold wayF; rw [if_neg (by omega), if_pos (by omega), show 31 + x - 31 = x from by omega]
  rw [e1] at this; exact this
theorem WyB.all {W : World} {b : Nat} {n j : Kn} {e : Int} (h : WyB W b n j e) : W.rangeAt b 0 (wayL n j e) := Blk.range h
theorem WyB.err {W : World} {b : Nat} {n j : Kn} {e : Int} (h : WyB W b n j e) : W.cell? ⟨b, 62, none⟩ = some (.int .i64 e) := Blk.cell h 62 (by omega)
theorem WyB.nc {W : World} {b : Nat} {n j : Kn} {e : Int} (h : WyB W b n j e) : W.cell? ⟨b, 0, none⟩ = some (.bool n.come) := Blk.cell h 0 (by omega)
theorem WyB.jc {W : World} {b : Nat} {n j : Kn} {e : Int} (h : WyB W b n j e) : W.cell? ⟨b, 31, none⟩ = some (.bool j.come) := Blk.cell h 31 (by omega)
theorem WyB.lt {W : World} {b : Nat} {n j : Kn} {e : Int} (h : WyB W b n j e) : b < W.heap.size := Blk.lt h
theorem WyB.below {W W1 : World} {b : Nat} {n j : Kn} {e : Int} (h : WyB W b n j e) (hb : Below W.heap.size W W1) : WyB W1 b n j e := Blk.below h hb
theorem WyB.keep {M : Nat → Prop} {W W1 : World} {b : Nat} {n j : Kn} {e : Int} (h : WyB W b n j e) (hk : Kp M W W1) (hM : ¬ M b) : WyB W1 b n j e := Blk.keep h hk hM
theorem WyB.there {W : World} {b : Nat} {n j : Kn} {e : Int} (h : WyB W b n j e) : W.there b 0 63 := there_blk h
theorem WyB.setn {W : World} {b : Nat} {n j : Kn} {e : Int} (h : WyB W b n j e) (n2 : Kn) : WyB (W.setCells b 0 (knL n2)) b n2 j e :=
  (Blk.setCells (knL n2) 0 W _ h).congr fun x hx => by
    show (if 0 ≤ x ∧ x < 0 + (knL n2).length then (knL n2).getD (x - 0) undef else wayF n j e x) = wayF n2 j e x
    rw [knL_length, Nat.sub_zero]
    unfold wayF
    by_cases h31 : x < 31
    · rw [if_pos ⟨Nat.zero_le _, by omega⟩, if_pos h31]
      have := rowF_get 31 (knF n2) x h31
      unfold knL
      rw [List.getD_eq_getElem?_getD, this]; rfl
    · rw [if_neg (by omega), if_neg h31, if_neg h31]
theorem WyB.setj {W : World} {b : Nat} {n j : Kn} {e : Int} (h : WyB W b n j e) (j2 : Kn) : WyB (W.setCells b 31 (knL j2)) b n j2 e :=
  (Blk.setCells (knL j2) 31 W _ h).congr fun x hx => by
    show (if 31 ≤ x ∧ x < 31 + (knL j2).length then (knL j2).getD (x - 31) undef else wayF n j e x) = wayF n j2 e x
    rw [knL_length]
    unfold wayF
    by_cases h31 : x < 31
    · rw [if_neg (by omega), if_pos h31, if_pos h31]
    · rw [if_neg h31, if_neg h31]
      by_cases h62 : x < 62
      · rw [if_pos ⟨by omega, by omega⟩, if_pos h62]
        have := rowF_get 31 (knF j2) (x - 31) (by omega)
        unfold knL
        rw [List.getD_eq_getElem?_getD, this]; rfl
      · rw [if_neg (by omega), if_neg h62, if_neg h62]
theorem WyB.fill {W : World} {b : Nat} {F : Nat → Value} (h : Blk W b 64 63 F) (n j : Kn) (e : Int) : WyB (W.setCells b 0 (wayL n j e)) b n j e := Blk.fill h (wayF n j e)
theorem bw_0 (W : World) : (Instr.build 64 #[]).run Try.prog W = .ok (.agg (wayL kn0 kn0 0).toArray) W := by kernel_rfl
theorem bw_e (e : Int) (W : World) : (Instr.build 64 #[(2, .int .i64 e)]).run Try.prog W = .ok (.agg (wayL kn0 kn0 e).toArray) W := by kernel_rfl
theorem bw_n (k : Kn) (W : World) : (Instr.build 64 #[(0, .agg (knL k).toArray)]).run Try.prog W = .ok (.agg (wayL k kn0 0).toArray) W := by kernel_rfl
theorem bw_j (k : Kn) (W : World) : (Instr.build 64 #[(1, .agg (knL k).toArray)]).run Try.prog W = .ok (.agg (wayL kn0 k 0).toArray) W := by kernel_rfl
theorem exec_build1 {o : Oper} {ac : Act} {w : World} (ty : TypeId) (c : Nat) (x0 : Operand) (ho : o.op = .build ty #[(c, x0)]) (v0 : Value) (h0 : ac.eval x0 = v0) (v : Value)
    (h : (Instr.build ty #[(c, v0)]).run Try.prog w = .ok v w) : (execOp ac.eval o).run Try.prog w = .ok (.value v) w := by
  unfold execOp
  simp only [ho, List.map_toArray, List.map_cons, List.map_nil, h0, Sem.run_bind, h]
  rfl
theorem exec_build0 {o : Oper} {ac : Act} {w : World} (ty : TypeId) (ho : o.op = .build ty #[]) (v : Value)
    (h : (Instr.build ty #[]).run Try.prog w = .ok v w) : (execOp ac.eval o).run Try.prog w = .ok (.value v) w := by
  unfold execOp
  simp only [ho, List.map_toArray, List.map_nil, Sem.run_bind, h]
  rfl
/-- A Way is made. -/
theorem wpList_alw {ops : Array Oper} {rest : List Oper} {ty : TypeId} {pos : String} {after : Array Edge} {a : Act} {w : World} {Q : Exit → Act → World → Prop} (d : Tmp)
    (hk : wpList Try.prog ops Q rest (a.put (some d) (.pointer (some ⟨w.heap.size, 0, none⟩))) (w.alloc (.cells (wayL kn0 kn0 0).toArray 64))) : wpList Try.prog ops Q (Oper.mk (some d) (.alloc 64) ty pos after none :: rest) a w :=
  wpList_value _ rfl (by kernel_rfl) hk
theorem wayB (w : World) (n j : Kn) (e : Int) : WyB (w.alloc (.cells (wayL n j e).toArray 64)) w.heap.size n j e := Blk.boxed w _ 63 (wayF n j e)
/-- A Way is stored whole. -/
theorem wpList_stw {ops : Array Oper} {rest : List Oper} {ty : TypeId} {pos : String} {after : Array Edge} {a : Act} {w : World} {Q : Exit → Act → World → Prop} (x y : Tmp) (b : Nat) (n j : Kn) (e : Int) {F : Nat → Value}
    (hx : a.eval (.tmp x) = .pointer (some ⟨b, 0, none⟩)) (hy : a.eval (.tmp y) = .agg (wayL n j e).toArray) (hB : Blk w b 64 63 F)
    (hk : wpList Try.prog ops Q rest (a.put none undef) (w.setCells b 0 (wayL n j e))) : wpList Try.prog ops Q (Oper.mk none (.store 64 (.tmp x) (.tmp y)) ty pos after none :: rest) a w :=
  wpList_store_mid rfl 64 (.tmp x) (.tmp y) rfl b 0 (wayL n j e).toArray hx hy (by rw [wayA_size]; exact there_blk hB) (by rw [wayA_size]; exact info_way) (wayL_one _ _ _) hk
/-- A Known is stored into a Way. -/
theorem wpList_stk {ops : Array Oper} {rest : List Oper} {ty : TypeId} {pos : String} {after : Array Edge} {a : Act} {w : World} {Q : Exit → Act → World → Prop} (x y : Tmp) (b o : Nat) (k : Kn)
    (hx : a.eval (.tmp x) = .pointer (some ⟨b, o, none⟩)) (hy : a.eval (.tmp y) = .agg (knL k).toArray) (ht : w.there b o 31)
    (hk : wpList Try.prog ops Q rest (a.put none undef) (w.setCells b o (knL k))) : wpList Try.prog ops Q (Oper.mk none (.store 42 (.tmp x) (.tmp y)) ty pos after none :: rest) a w :=
  wpList_store_mid rfl 42 (.tmp x) (.tmp y) rfl b o (knL k).toArray hx hy (by rw [knA_size]; exact ht) (by rw [knA_size]; exact info_kn) (knL_one _) hk
/-- A Way is read whole. -/
theorem wpList_ldw {ops : Array Oper} {rest : List Oper} {ty : TypeId} {pos : String} {after : Array Edge} {gd : Option (Nat × Bool)} {a : Act} {w : World} {Q : Exit → Act → World → Prop} (d x : Tmp) (b : Nat) (n j : Kn) (e : Int)
    (hg : Region.wanted (Oper.mk (some d) (.load 64 (.tmp x)) ty pos after gd) (yielded ops a.tmps) = true) (hx : a.eval (.tmp x) = .pointer (some ⟨b, 0, none⟩)) (hB : WyB w b n j e)
    (hk : wpList Try.prog ops Q rest (a.put (some d) (.agg (wayL n j e).toArray)) w) : wpList Try.prog ops Q (Oper.mk (some d) (.load 64 (.tmp x)) ty pos after gd :: rest) a w :=
  wpList_valueg (w' := w) (.agg (wayL n j e).toArray) hg (exec_load_mid 64 (.tmp x) rfl b 0 hx (wayL n j e) _ (WyB.all hB) Try.underlying64 rfl (by rw [wayL_length]; exact info_way)) hk
/-- A span is read whole. -/
theorem wpList_lds {ops : Array Oper} {rest : List Oper} {ty : TypeId} {pos : String} {after : Array Edge} {gd : Option (Nat × Bool)} {a : Act} {w : World} {Q : Exit → Act → World → Prop} (d x : Tmp) (b : Nat) (l g : Int)
    (hg : Region.wanted (Oper.mk (some d) (.load 83 (.tmp x)) ty pos after gd) (yielded ops a.tmps) = true) (hx : a.eval (.tmp x) = .pointer (some ⟨b, 0, none⟩)) (hB : Blk w b 83 2 (fun j => [.int .i64 l, .int .i64 g].getD j undef))
    (hk : wpList Try.prog ops Q rest (a.put (some d) (.agg #[.int .i64 l, .int .i64 g])) w) : wpList Try.prog ops Q (Oper.mk (some d) (.load 83 (.tmp x)) ty pos after gd :: rest) a w :=
  wpList_valueg (w' := w) (.agg #[.int .i64 l, .int .i64 g]) hg (exec_load_mid 83 (.tmp x) rfl b 0 hx [.int .i64 l, .int .i64 g] _ (by have := hB.range; exact this) Try.underlying83 rfl size_sp83) hk
end Go.Proofs.Ytjlddhnjbjhmkaa
