/- Layer 6, the document's answer: the worlds of Behind. -/
import Derived.Test.YtjlddhnjbjhmkaaRb4
import Derived.BigQuiet
import Derived.IntWalk
set_option linter.unusedVariables false
set_option linter.unusedSimpArgs false
namespace Go.Proofs.Ytjlddhnjbjhmkaa
open Go.RowKit

structure Rb (w : World) (i : Ins8) (k : Kn) (W : World) : Prop where
  b : Below w.heap.size w W
  ii : Blk W w.heap.size 45 5 (fun j => [.int .i64 (i.op : Int), .int .i64 (i.dst : Int), .int .i64 (i.src : Int), .int .i64 i.off, .int .u32 (i.imm : Int)].getD j undef)
  kk : Blk W (w.heap.size + 1) 42 31 (knF k)
  rr : WyB W (w.heap.size + 2) kn0 kn0 0
theorem Rb.more {w : World} {i : Ins8} {k : Kn} {W W1 : World} (h : Rb w i k W) (hb : Below W.heap.size W W1) : Rb w i k W1 :=
  ⟨h.b.trans (hb.mono h.b.size), h.ii.below hb, h.kk.below hb, h.rr.below hb⟩
theorem Rb.lt {w : World} {i : Ins8} {k : Kn} {W : World} (h : Rb w i k W) : w.heap.size + 3 ≤ W.heap.size := by have := h.rr.lt; omega
theorem Rb.set {w : World} {i : Ins8} {k : Kn} {W : World} (h : Rb w i k W) (b : Nat) (hb : w.heap.size + 3 ≤ b) (o : Nat) (vs : List Value) : Rb w i k (W.setCells b o vs) := by
  have hk : Kp (fun x => x = b) W (W.setCells b o vs) := Kp.setCells (M := fun x => x = b) (.inl rfl) _ _ _ (Kp.refl _ _)
  exact ⟨(Kp.setCells (w := w) (b := b) (.inr (by omega)) _ _ _ (Kp.of_below h.b No)).below, h.ii.keep hk (by omega), h.kk.keep hk (by omega), h.rr.keep hk (by omega)⟩
theorem Rb.setk {w : World} {i : Ins8} {k : Kn} {W : World} (h : Rb w i k W) (k2 : Kn) (o : Nat) (vs : List Value) (hB : Blk (W.setCells (w.heap.size + 1) o vs) (w.heap.size + 1) 42 31 (knF k2)) : Rb w i k2 (W.setCells (w.heap.size + 1) o vs) := by
  have hk : Kp (fun x => x = w.heap.size + 1) W (W.setCells (w.heap.size + 1) o vs) := Kp.setCells (M := fun x => x = w.heap.size + 1) (.inl rfl) _ _ _ (Kp.refl _ _)
  exact ⟨(Kp.setCells (w := w) (b := w.heap.size + 1) (.inr (by omega)) _ _ _ (Kp.of_below h.b No)).below, h.ii.keep hk (by omega), hB, h.rr.keep hk (by omega)⟩
theorem Rb.next {w : World} {i : Ins8} {k : Kn} {W : World} (h : Rb w i k W) (m : Nat) (r : Rg) : Rb w i ⟨k.come, upd k.r m r⟩ (W.setCells (w.heap.size + 1) (1 + m * 3) [.bool r.s, .int .u32 (r.l : Int), .int .u32 (r.g : Int)]) := h.setk _ _ _ (h.kk.setr m r)
theorem rb_world (w : World) (i : Ins8) (k : Kn) (L : Array Value) (hL : L = (knL k).toArray) : ∃ W1, Hid (W1 = (((w.alloc (.cells #[.int .i64 (i.op : Int), .int .i64 (i.dst : Int), .int .i64 (i.src : Int), .int .i64 i.off, .int .u32 (i.imm : Int)] 45)).alloc (.cells L 42)).alloc (.cells (wayL kn0 kn0 0).toArray 64))) ∧ Hid (Rb w i k W1) := by
  have h1 : Blk (w.alloc (.cells #[.int .i64 (i.op : Int), .int .i64 (i.dst : Int), .int .i64 (i.src : Int), .int .i64 i.off, .int .u32 (i.imm : Int)] 45)) w.heap.size 45 5 (fun j => [.int .i64 (i.op : Int), .int .i64 (i.dst : Int), .int .i64 (i.src : Int), .int .i64 i.off, .int .u32 (i.imm : Int)].getD j undef) := Blk.litL w 45 [.int .i64 (i.op : Int), .int .i64 (i.dst : Int), .int .i64 (i.src : Int), .int .i64 i.off, .int .u32 (i.imm : Int)]
  obtain ⟨Wa, hWa⟩ : ∃ Wa, Wa = w.alloc (.cells #[.int .i64 (i.op : Int), .int .i64 (i.dst : Int), .int .i64 (i.src : Int), .int .i64 i.off, .int .u32 (i.imm : Int)] 45) := ⟨_, rfl⟩
  have ba : Below w.heap.size w Wa := by rw [hWa]; exact (Below.refl _ _).alloc (Nat.le_refl _) _
  have za : Wa.heap.size = w.heap.size + 1 := by rw [hWa]; simp
  rw [← hWa] at h1 ⊢
  have h2 : Blk (Wa.alloc (.cells L 42)) (w.heap.size + 1) 42 31 (knF k) := by rw [hL, ← za]; exact Blk.boxed Wa 42 31 (knF k)
  obtain ⟨Wb, hWb⟩ : ∃ Wb, Wb = Wa.alloc (.cells L 42) := ⟨_, rfl⟩
  have bb : Below Wa.heap.size Wa Wb := by rw [hWb]; exact (Below.refl _ _).alloc (Nat.le_refl _) _
  have zb : Wb.heap.size = w.heap.size + 2 := by rw [hWb]; simp [za]
  rw [← hWb] at h2 ⊢
  have h5 : ∀ b, b = Wb.heap.size → WyB (Wb.alloc (.cells (wayL kn0 kn0 0).toArray 64)) b kn0 kn0 0 := fun b hb => by rw [hb]; exact wayB Wb kn0 kn0 0
  have be : Below Wb.heap.size Wb (Wb.alloc (.cells (wayL kn0 kn0 0).toArray 64)) := (Below.refl _ _).alloc (Nat.le_refl _) _
  have b1 := ba.trans (bb.mono ba.size)
  have b4 := b1.trans (be.mono b1.size)
  exact ⟨_, Lib.hid rfl, Lib.hid ⟨b4, (h1.below bb).below be, h2.below be, h5 _ zb.symm⟩⟩
theorem AlJ.other {z k1 k2 : Nat} {ty : TypeId} {m : Nat} {F : Nat → Value} {l : Nat → Bool} {v : Nat → Value} {W W1 : World} (h : AlJ z k1 k2 ty m F l v W) (hb : Below W.heap.size W W1) (k : Nat) (h1 : k ≠ k1) (h2 : k ≠ k2) (x : Value) : AlJ z k1 k2 ty m F (upd l k true) (upd v k x) W1 := by
  obtain ⟨a, b, e⟩ := h
  constructor <;> simp only [upd_ne _ _ _ (Ne.symm h1), upd_ne _ _ _ (Ne.symm h2)]
  · intro q; obtain ⟨b1, c1, c2, c3⟩ := a q; exact ⟨b1, c1, c2, c3.below hb⟩
  · intro q; obtain ⟨b1, c1, c2, c3⟩ := b q; exact ⟨b1, c1, c2, c3.below hb⟩
  · exact e
/-- Two spans told, two blocks made. -/
structure SpJ (z : Nat) (A B : Value) (l : Nat → Bool) (v : Nat → Value) (W : World) : Prop where
  p : l 5 = true → v 5 = A
  q : l 11 = true → v 11 = B
  s : AlJ z 12 13 83 2 (fun j => [.int .i64 0, .int .i64 0].getD j undef) l v W
theorem SpJ.zero (z : Nat) (A B : Value) (W : World) : SpJ z A B (fun _ => false) (fun _ => undef) W := ⟨(fun h => by cases h), (fun h => by cases h), AlJ.zero _ _ _ _ _ _ _⟩
theorem SpJ.a {z : Nat} {A B : Value} {l : Nat → Bool} {v : Nat → Value} {W W1 : World} (h : SpJ z A B l v W) (hb : Below W.heap.size W W1) : SpJ z A B (upd l 5 true) (upd v 5 A) W1 :=
  ⟨fun _ => upd_at _ _ _, fun q => by rw [upd_ne _ _ _ (by omega : (11 : Nat) ≠ 5)] at q ⊢; exact h.q q, h.s.other hb 5 (by omega) (by omega) _⟩
theorem SpJ.b {z : Nat} {A B : Value} {l : Nat → Bool} {v : Nat → Value} {W W1 : World} (h : SpJ z A B l v W) (hb : Below W.heap.size W W1) : SpJ z A B (upd l 11 true) (upd v 11 B) W1 :=
  ⟨fun q => by rw [upd_ne _ _ _ (by omega : (5 : Nat) ≠ 11)] at q ⊢; exact h.p q, fun _ => upd_at _ _ _, h.s.other hb 11 (by omega) (by omega) _⟩
theorem SpJ.c {z : Nat} {A B : Value} {l : Nat → Bool} {v : Nat → Value} {W : World} (h : SpJ z A B l v W) (hz : z ≤ W.heap.size) : SpJ z A B (upd l 12 true) (upd v 12 (.pointer (some ⟨W.heap.size, 0, none⟩))) (W.alloc (.cells #[.int .i64 0, .int .i64 0] 83)) :=
  ⟨fun q => by rw [upd_ne _ _ _ (by omega : (5 : Nat) ≠ 12)] at q ⊢; exact h.p q, fun q => by rw [upd_ne _ _ _ (by omega : (11 : Nat) ≠ 12)] at q ⊢; exact h.q q, h.s.up1 (by omega) hz [.int .i64 0, .int .i64 0] rfl rfl⟩
theorem SpJ.d {z : Nat} {A B : Value} {l : Nat → Bool} {v : Nat → Value} {W : World} (h : SpJ z A B l v W) (hz : z ≤ W.heap.size) : SpJ z A B (upd l 13 true) (upd v 13 (.pointer (some ⟨W.heap.size, 0, none⟩))) (W.alloc (.cells #[.int .i64 0, .int .i64 0] 83)) :=
  ⟨fun q => by rw [upd_ne _ _ _ (by omega : (5 : Nat) ≠ 13)] at q ⊢; exact h.p q, fun q => by rw [upd_ne _ _ _ (by omega : (11 : Nat) ≠ 13)] at q ⊢; exact h.q q, h.s.up2 (by omega) hz [.int .i64 0, .int .i64 0] rfl rfl⟩
def snB (W : World) (b : Nat) (s : Sp) : Prop := Blk W b 83 2 (fun j => [.int .i64 (s.l : Int), .int .i64 (s.g : Int)].getD j undef)
theorem snB.fill {W : World} {b : Nat} {G : Nat → Value} (h : Blk W b 83 2 G) (s : Sp) : snB (W.setCells b 0 [.int .i64 (s.l : Int), .int .i64 (s.g : Int)]) b s :=
  (Blk.setCells [.int .i64 (s.l : Int), .int .i64 (s.g : Int)] 0 W _ h).congr (fun j hj => by rw [if_pos ⟨Nat.zero_le _, by simpa using hj⟩, Nat.sub_zero])
theorem snB.l {W : World} {b : Nat} {s : Sp} (h : snB W b s) : W.cell? ⟨b, 0, none⟩ = some (.int .i64 (s.l : Int)) := Blk.cell h 0 (by omega)
theorem snB.g {W : World} {b : Nat} {s : Sp} (h : snB W b s) : W.cell? ⟨b, 1, none⟩ = some (.int .i64 (s.g : Int)) := Blk.cell h 1 (by omega)
theorem rg_mid {W : World} {b : Nat} {k : Kn} (h : Blk W b 42 31 (knF k)) (n : Nat) (hn : n < 10) : W.rangeAt b (1 + n * 3) [.bool (k.r n).s, .int .u32 ((k.r n).l : Int), .int .u32 ((k.r n).g : Int)] := kn_rg h n hn
theorem exec_ldu32 {o : Oper} {ac : Act} {W : World} (x : Operand) {p : Addr} {v : Int} (ho : o.op = .load 35 x) (hx : ac.eval x = .pointer (some p)) (hc : W.cell? p = some (.int .u32 v)) : (execOp ac.eval o).run Try.prog W = .ok (.value (.int .u32 v)) W := by
  unfold execOp
  simp only [ho, hx]
  simp [go_sem, hc]
theorem exec_cv64 {o : Oper} {ac : Act} {W : World} (x : Operand) {n : Int} (ho : o.op = .convert 35 2 x) (hx : ac.eval x = .int .u32 n) (h0 : 0 ≤ n) (h1 : n ≤ 4294967295) : (execOp ac.eval o).run Try.prog W = .ok (.value (.int .i64 n)) W := by
  have e : IntKind.i64.wrap n = n := by rw [IntKind.wrap_i64] <;> omega
  unfold execOp
  simp only [ho, hx]
  simp [go_sem, e]

theorem with_all (W : World) (k : Kn) : Calls Try.prog 34 #[.agg (knL k).toArray, .int .i64 0, .agg #[.int .i64 0, .int .i64 4294967295]] W fun e w' => e = .returned (.agg (knL (clrK k 0)).toArray) ∧ Below W.heap.size W w' := by
  rw [← clrK_zero]
  exact refwith_ok W k 0 0 4294967295 (by omega) (by omega) (by omega)
end Go.Proofs.Ytjlddhnjbjhmkaa
