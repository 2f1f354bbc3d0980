/- Layer 6, the document's answer: the worlds of a jump; steps of one word. -/
import Derived.Test.YtjlddhnjbjhmkaaRb0
import Derived.BigQuiet
import Derived.IntWalk
set_option linter.unusedVariables false
set_option linter.unusedSimpArgs false
namespace Go.Proofs.Ytjlddhnjbjhmkaa
open Go.RowKit

theorem exec_ldint {o : Oper} {ac : Act} {W : World} (x : Operand) {p : Addr} {v : Int} (ho : o.op = .load 3 x) (hx : ac.eval x = .pointer (some p)) (hc : W.cell? p = some (.int .i64 v)) : (execOp ac.eval o).run Try.prog W = .ok (.value (.int .i64 v)) W := by
  unfold execOp
  simp only [ho, hx]
  simp [go_sem, hc]
theorem exec_ld64 {o : Oper} {ac : Act} {W : World} (x : Operand) {p : Addr} {v : Int} (ho : o.op = .load 2 x) (hx : ac.eval x = .pointer (some p)) (hc : W.cell? p = some (.int .i64 v)) : (execOp ac.eval o).run Try.prog W = .ok (.value (.int .i64 v)) W := by
  unfold execOp
  simp only [ho, hx]
  simp [go_sem, hc]
theorem wpList_alw2 {ops : Array Oper} {rest : List Oper} {ty : TypeId} {pos : String} {after : Array Edge} {a : Act} {w : World} {Q : Exit → Act → World → Prop} (d : Tmp) (b : Nat) (hb : b = w.heap.size)
    (hk : wpList Try.prog ops Q rest (a.put (some d) (.pointer (some ⟨b, 0, none⟩))) (w.alloc (.cells (wayL kn0 kn0 0).toArray 64))) : wpList Try.prog ops Q (Oper.mk (some d) (.alloc 64) ty pos after none :: rest) a w := by
  subst hb
  exact wpList_alw d hk
theorem exec_box {o : Oper} {ac : Act} {W : World} (ty : TypeId) (x : Operand) (ho : o.op = .box ty x) (cs : Array Value) (hx : ac.eval x = .agg cs) : (execOp ac.eval o).run Try.prog W = .ok (.value (.pointer (some ⟨W.heap.size, 0, none⟩))) (W.alloc (.cells cs ty)) := by
  unfold execOp
  simp only [ho, hx]
  simp [go_sem]
theorem wpList_box {ops : Array Oper} {rest : List Oper} {tt : TypeId} {pos : String} {after : Array Edge} {a : Act} {w : World} {Q : Exit → Act → World → Prop} (d t : Tmp) (ty : TypeId) (cs : Array Value) (b : Nat) (hb : b = w.heap.size) (ha : a.eval (.tmp t) = .agg cs)
    (hk : wpList Try.prog ops Q rest (a.put (some d) (.pointer (some ⟨b, 0, none⟩))) (w.alloc (.cells cs ty))) : wpList Try.prog ops Q (Oper.mk (some d) (.box ty (.tmp t)) tt pos after none :: rest) a w := by
  subst hb
  exact wpList_value _ rfl (exec_box ty (.tmp t) rfl cs ha) hk

structure Jw (w : World) (i : Ins8) (k : Kn) (dl dg sl sg : Nat) (W : World) : Prop where
  b : Below w.heap.size w W
  ii : Blk W w.heap.size 45 5 (fun j => [.int .i64 (i.op : Int), .int .i64 (i.dst : Int), .int .i64 (i.src : Int), .int .i64 i.off, .int .u32 (i.imm : Int)].getD j undef)
  kk : Blk W (w.heap.size + 1) 42 31 (knF k)
  dd : Blk W (w.heap.size + 2) 83 2 (fun j => [.int .i64 (dl : Int), .int .i64 (dg : Int)].getD j undef)
  ss : Blk W (w.heap.size + 3) 83 2 (fun j => [.int .i64 (sl : Int), .int .i64 (sg : Int)].getD j undef)
  rr : WyB W (w.heap.size + 4) kn0 kn0 0
theorem Jw.more {w : World} {i : Ins8} {k : Kn} {dl dg sl sg : Nat} {W W1 : World} (h : Jw w i k dl dg sl sg W) (hb : Below W.heap.size W W1) : Jw w i k dl dg sl sg W1 :=
  ⟨h.b.trans (hb.mono h.b.size), h.ii.below hb, h.kk.below hb, h.dd.below hb, h.ss.below hb, h.rr.below hb⟩
theorem Jw.set {w : World} {i : Ins8} {k : Kn} {dl dg sl sg : Nat} {W : World} (h : Jw w i k dl dg sl sg W) (b : Nat) (hb : w.heap.size + 5 ≤ b) (o : Nat) (vs : List Value) : Jw w i k dl dg sl sg (W.setCells b o vs) := by
  have hk : Kp (fun x => x = b) W (W.setCells b o vs) := Kp.setCells (M := fun x => x = b) (.inl rfl) _ _ _ (Kp.refl _ _)
  exact ⟨(Kp.setCells (w := w) (b := b) (.inr (by omega)) _ _ _ (Kp.of_below h.b No)).below, h.ii.keep hk (by omega), h.kk.keep hk (by omega), h.dd.keep hk (by omega), h.ss.keep hk (by omega), h.rr.keep hk (by omega)⟩
theorem Jw.set1 {w : World} {i : Ins8} {k : Kn} {dl dg sl sg : Nat} {W : World} (h : Jw w i k dl dg sl sg W) (b : Nat) (hb : w.heap.size + 5 ≤ b) (o : Nat) (v : Value) : Jw w i k dl dg sl sg (W.setCell ⟨b, o, none⟩ v) := by
  have hk : Kp (fun x => x = b) W (W.setCell ⟨b, o, none⟩ v) := Kp.setCell (M := fun x => x = b) (Kp.refl _ _) (.inl rfl) _
  exact ⟨(Kp.setCell (M := No) (Kp.of_below h.b No) (.inr (by show w.heap.size ≤ b; omega)) v).below, h.ii.keep hk (by omega), h.kk.keep hk (by omega), h.dd.keep hk (by omega), h.ss.keep hk (by omega), h.rr.keep hk (by omega)⟩
theorem jw_world (w : World) (i : Ins8) (k : Kn) (dl dg sl sg : Nat) (L : Array Value) (hL : L = (knL k).toArray) : ∃ W1, Hid (W1 = ((((w.alloc (.cells #[.int .i64 (i.op : Int), .int .i64 (i.dst : Int), .int .i64 (i.src : Int), .int .i64 i.off, .int .u32 (i.imm : Int)] 45)).alloc (.cells L 42)).alloc (.cells #[.int .i64 (dl : Int), .int .i64 (dg : Int)] 83)).alloc (.cells #[.int .i64 (sl : Int), .int .i64 (sg : Int)] 83)).alloc (.cells (wayL kn0 kn0 0).toArray 64)) ∧ Hid (Jw w i k dl dg sl sg W1) ∧ Hid (W1.heap.size = w.heap.size + 5) := by
  have h1 : Blk (w.alloc (.cells #[.int .i64 (i.op : Int), .int .i64 (i.dst : Int), .int .i64 (i.src : Int), .int .i64 i.off, .int .u32 (i.imm : Int)] 45)) w.heap.size 45 5 (fun j => [.int .i64 (i.op : Int), .int .i64 (i.dst : Int), .int .i64 (i.src : Int), .int .i64 i.off, .int .u32 (i.imm : Int)].getD j undef) := Blk.litL w 45 [.int .i64 (i.op : Int), .int .i64 (i.dst : Int), .int .i64 (i.src : Int), .int .i64 i.off, .int .u32 (i.imm : Int)]
  obtain ⟨Wa, hWa⟩ : ∃ Wa, Wa = w.alloc (.cells #[.int .i64 (i.op : Int), .int .i64 (i.dst : Int), .int .i64 (i.src : Int), .int .i64 i.off, .int .u32 (i.imm : Int)] 45) := ⟨_, rfl⟩
  have ba : Below w.heap.size w Wa := by rw [hWa]; exact (Below.refl _ _).alloc (Nat.le_refl _) _
  have za : Wa.heap.size = w.heap.size + 1 := by rw [hWa]; simp
  rw [← hWa] at h1 ⊢
  have h2 : Blk (Wa.alloc (.cells L 42)) (w.heap.size + 1) 42 31 (knF k) := by rw [hL, ← za]; exact Blk.boxed Wa 42 31 (knF k)
  obtain ⟨Wb, hWb⟩ : ∃ Wb, Wb = Wa.alloc (.cells L 42) := ⟨_, rfl⟩
  have bb : Below Wa.heap.size Wa Wb := by rw [hWb]; exact (Below.refl _ _).alloc (Nat.le_refl _) _
  have zb : Wb.heap.size = w.heap.size + 2 := by rw [hWb]; simp [za]
  rw [← hWb] at h2 ⊢
  have h3 : Blk (Wb.alloc (.cells #[.int .i64 (dl : Int), .int .i64 (dg : Int)] 83)) (w.heap.size + 2) 83 2 (fun j => [.int .i64 (dl : Int), .int .i64 (dg : Int)].getD j undef) := by rw [← zb]; exact Blk.litL Wb 83 [.int .i64 (dl : Int), .int .i64 (dg : Int)]
  obtain ⟨Wc, hWc⟩ : ∃ Wc, Wc = Wb.alloc (.cells #[.int .i64 (dl : Int), .int .i64 (dg : Int)] 83) := ⟨_, rfl⟩
  have bc : Below Wb.heap.size Wb Wc := by rw [hWc]; exact (Below.refl _ _).alloc (Nat.le_refl _) _
  have zc : Wc.heap.size = w.heap.size + 3 := by rw [hWc]; simp [zb]
  rw [← hWc] at h3 ⊢
  have h4 : Blk (Wc.alloc (.cells #[.int .i64 (sl : Int), .int .i64 (sg : Int)] 83)) (w.heap.size + 3) 83 2 (fun j => [.int .i64 (sl : Int), .int .i64 (sg : Int)].getD j undef) := by rw [← zc]; exact Blk.litL Wc 83 [.int .i64 (sl : Int), .int .i64 (sg : Int)]
  obtain ⟨Wd, hWd⟩ : ∃ Wd, Wd = Wc.alloc (.cells #[.int .i64 (sl : Int), .int .i64 (sg : Int)] 83) := ⟨_, rfl⟩
  have bd : Below Wc.heap.size Wc Wd := by rw [hWd]; exact (Below.refl _ _).alloc (Nat.le_refl _) _
  have zd : Wd.heap.size = w.heap.size + 4 := by rw [hWd]; simp [zc]
  rw [← hWd] at h4 ⊢
  have h5 : ∀ b, b = Wd.heap.size → WyB (Wd.alloc (.cells (wayL kn0 kn0 0).toArray 64)) b kn0 kn0 0 := fun b hb => by rw [hb]; exact wayB Wd kn0 kn0 0
  have be : Below Wd.heap.size Wd (Wd.alloc (.cells (wayL kn0 kn0 0).toArray 64)) := (Below.refl _ _).alloc (Nat.le_refl _) _
  have ze : (Wd.alloc (.cells (wayL kn0 kn0 0).toArray 64)).heap.size = w.heap.size + 5 := by simp [zd]
  have b1 := ba.trans (bb.mono ba.size)
  have b2 := b1.trans (bc.mono b1.size)
  have b3 := b2.trans (bd.mono b2.size)
  have b4 := b3.trans (be.mono b3.size)
  exact ⟨_, Lib.hid rfl, Lib.hid ⟨b4, (((h1.below bb).below bc).below bd).below be, ((h2.below bc).below bd).below be, (h3.below bd).below be, h4.below be, h5 _ zd.symm⟩, Lib.hid ze⟩
end Go.Proofs.Ytjlddhnjbjhmkaa
