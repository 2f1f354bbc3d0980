/- The VM: goes. -/
import Derived.Test.YtpnkbpjhbmacaaaVm9
set_option linter.unusedVariables false
set_option linter.unusedSimpArgs false
namespace Go.Proofs.Ytpnkbpjhbmacaaa
open Go.RowKit

def insCells (i : Ins8) : List Value := [.int .i64 (i.op : Int), .int .i64 (i.dst : Int), .int .i64 (i.src : Int), .int .i64 i.off, .int .u32 (i.imm : Int)]
theorem ins_cells : ∀ (pr : List Ins8) (n j : Nat) (i : Ins8), pr[n]? = some i → j < 5 → (pr.flatMap insCells)[n * 5 + j]? = (insCells i)[j]?
  | [], n, j, i, h, _ => by simp at h
  | p :: pr, 0, j, i, h, hj => by
    simp only [List.getElem?_cons_zero, Option.some.injEq] at h
    subst h
    rw [List.flatMap_cons, List.getElem?_append_left (by simp [insCells]; omega)]
    congr 1; omega
  | p :: pr, n + 1, j, i, h, hj => by
    rw [List.getElem?_cons_succ] at h
    have e := ins_cells pr n j i h hj
    rw [List.flatMap_cons, List.getElem?_append_right (by simp [insCells]; omega), ← e]
    congr 1
    simp [insCells]; omega
theorem mark_ok {w : World} {x : Nat} {f : Fx} {K : Value} {s : Vm} (h : VmB w x f K s) : VmB (w.setCell ⟨x, 27, none⟩ (.int .i64 (s.at_ : Int))) x f K s.mark := by
  refine Blk.congr (Blk.set h 27 (.int .i64 (s.at_ : Int))) (fun j hj => ?_)
  by_cases e : j = 27
  · subst e; rw [if_pos rfl]; rfl
  · rw [if_neg e]
    simp only [vmF, Vm.mark, if_neg e]
theorem next_ok {w : World} {x : Nat} {f : Fx} {K : Value} {s : Vm} (h : VmB w x f K s) (more : Int) (h0 : 0 ≤ more) :
    VmB ((w.setCell ⟨x, 25, none⟩ (.int .i64 ((s.steps : Int) + 1))).setCell ⟨x, 4, none⟩ (.int .i64 ((s.at_ : Int) + (1 + more)))) x f K (s.next more) := by
  refine Blk.congr (Blk.set (Blk.set h 25 (.int .i64 ((s.steps : Int) + 1))) 4 (.int .i64 ((s.at_ : Int) + (1 + more)))) (fun j hj => ?_)
  by_cases e : j = 4
  · subst e; rw [if_pos rfl]
    show _ = Value.int .i64 ((((s.at_ : Int) + (1 + more)).toNat : Nat) : Int)
    rw [Int.toNat_of_nonneg (by omega)]
  · rw [if_neg e]
    by_cases e2 : j = 25
    · subst e2; rw [if_pos rfl]; rfl
    · rw [if_neg e2]
      simp only [vmF, Vm.next, if_neg e, if_neg e2]
theorem fall_ok {w : World} {x : Nat} {f : Fx} {K : Value} {s : Vm} (h : VmB w x f K s) (why : Nat) : VmB (w.setCell ⟨x, 26, none⟩ (.int .i64 (why : Int))) x f K (s.fall why) := by
  refine Blk.congr (Blk.set h 26 (.int .i64 (why : Int))) (fun j hj => ?_)
  by_cases e : j = 26
  · subst e; rw [if_pos rfl]; rfl
  · rw [if_neg e]
    simp only [vmF, Vm.fall, if_neg e]
def mu (L x : Nat) (ev : Value) (wr : World) : Nat :=
  match ev with
  | .bool true => 0
  | _ => 1 + (L - (match wr.cell? ⟨x, 4, none⟩ with | some v => (intOf v).toNat | none => 0))
theorem mu_true (L x : Nat) (wr : World) : mu L x (.bool true) wr = 0 := rfl
theorem mu_false {w : World} {x : Nat} {f : Fx} {K : Value} {s : Vm} (h : VmB w x f K s) (L : Nat) : mu L x (.bool false) w = 1 + (L - s.at_) := by
  have e : w.cell? ⟨x, 4, none⟩ = some (.int .i64 (s.at_ : Int)) := Blk.cell h 4 (by omega)
  simp [mu, e, intOf]

structure GS (T : (Nat → Prop) → List Mom → World → Prop) (w : World) (x : Nat) (f : Fx) (K : Value) (B : Nat → Prop) (s' : Vm) (K' : Value) (B' : Nat → Prop) (ms' : List Mom) (wr : World) : Prop where
  v : VmS wr x f K' s'
  t : T B' ms' wr
  kp : Kp (fun k => VmM x K k ∨ B k) w wr
  kf : ∀ k, K'.ownBlock = some k → K.ownBlock = some k ∨ w.heap.size + 1 ≤ k
  bf : ∀ k, B' k → B k ∨ w.heap.size + 1 ≤ k
  dj : ∀ k, B' k → ¬ VmM x K' k
  bx : wr.cell? ⟨w.heap.size, 0, none⟩ = some (.pointer (some ⟨x, 0, none⟩))
structure GN (pr : List Ins8) (ctx : List UInt8) (ans : List Nat) (S : Vm) (MS : List Mom) (s' : Vm) (ms' : List Mom) : Prop where
  ok : VmOk s'
  at_ : s'.at_ ≤ 1300
  calls : s'.calls.length ≤ s'.at_
  told : ms'.length ≤ s'.at_
  steps : s'.steps ≤ s'.at_
  run : ∃ n, pr.length - s'.at_ + 1 ≤ n ∧ ms' ++ (runTo pr ctx ans n s').1 = MS ∧ (runTo pr ctx ans n s').2 = S
theorem GN.stop {pr : List Ins8} {ctx : List UInt8} {ans : List Nat} {S : Vm} {MS : List Mom} {s' : Vm} {ms' : List Mom} (N : GN pr ctx ans S MS s' ms') {why : Nat} (h : stepRes pr ctx ans s' = .stop why) : MS = ms' ++ [s'.mom] ∧ S = s'.mark.fall why := by
  obtain ⟨n, hn, r1, r2⟩ := N.run
  obtain ⟨m, rfl⟩ : ∃ m, n = m + 1 := ⟨n - 1, by omega⟩
  simp only [runTo, h] at r1 r2
  exact ⟨r1.symm, r2.symm⟩
theorem GN.fin {pr : List Ins8} {ctx : List UInt8} {ans : List Nat} {S : Vm} {MS : List Mom} {s' s1 : Vm} {ms' : List Mom} {more : Int} (N : GN pr ctx ans S MS s' ms') (h : stepRes pr ctx ans s' = .go s1 more true) : s1.next more = S ∧ ms' ++ [s'.mom] = MS := by
  obtain ⟨n, hn, r1, r2⟩ := N.run
  obtain ⟨m, rfl⟩ : ∃ m, n = m + 1 := ⟨n - 1, by omega⟩
  simp only [runTo, h] at r1 r2
  exact ⟨r2, r1⟩
theorem GN.on {pr : List Ins8} {ctx : List UInt8} {ans : List Nat} {S : Vm} {MS : List Mom} {s' s1 : Vm} {ms' : List Mom} {more : Int} (hp : pr.length ≤ 1000) (hlt : s'.at_ < pr.length) (N : GN pr ctx ans S MS s' ms') (h : stepRes pr ctx ans s' = .go s1 more false) (x : Nxt s'.mark s1 more) : GN pr ctx ans S MS (s1.next more) (ms' ++ [s'.mom]) := by
  obtain ⟨n, hn, r1, r2⟩ := N.run
  obtain ⟨m, rfl⟩ : ∃ m, n = m + 1 := ⟨n - 1, by omega⟩
  simp only [runTo, h] at r1 r2
  have e1 : s1.at_ = s'.at_ := x.at_
  have e2 : s1.steps = s'.steps := x.steps
  have e3 : s1.calls.length ≤ s'.calls.length + 1 := x.calls
  have m0 := x.m0
  have m1 := x.m1
  have ha : (s1.next more).at_ = ((s'.at_ : Int) + (1 + more)).toNat := by simp only [Vm.next, e1]
  have hs : (s1.next more).steps = s'.steps + 1 := by simp only [Vm.next, e2]
  have hc : (s1.next more).calls = s1.calls := rfl
  have n1 := N.calls
  have n2 := N.told
  have n3 := N.steps
  refine ⟨⟨x.ok.reg, x.ok.scr⟩, by rw [ha]; omega, by rw [ha, hc]; omega, by rw [ha, List.length_append, List.length_singleton]; omega, by rw [ha, hs]; omega, m, by rw [ha]; omega, ?_, r2⟩
  rw [← r1, List.append_assoc]; rfl
def GR (T : (Nat → Prop) → List Mom → World → Prop) (w : World) (x : Nat) (f : Fx) (K : Value) (B : Nat → Prop) (pr : List Ins8) (ctx : List UInt8) (ans : List Nat) (S : Vm) (MS : List Mom) (ev : Value) (wr : World) : Prop :=
  ∃ s' K' B' ms', GS T w x f K B s' K' B' ms' wr ∧ ((ev = .bool false ∧ GN pr ctx ans S MS s' ms') ∨ (ev = .bool true ∧ s' = S ∧ ms' = MS))
structure SG (g x : Nat) (f : Fx) (K : Value) (s : Vm) (W : World) : Prop where
  bx : W.cell? ⟨g, 0, none⟩ = some (.pointer (some ⟨x, 0, none⟩))
  b : VmB W x f K s
theorem VmS.turn {w w1 : World} {x : Nat} {f : Fx} {K : Value} {s s1 : Vm} (h : VmS w x f K s) (hb : VmB w1 x f K s1) (hc : s1.calls = s.calls) (hk : Kp (fun b => b = x) w w1) : VmS w1 x f K s1 :=
  ⟨hb, by rw [hc]; exact own_move h.row (fun k hk' hlt => hk.block k hlt (fun e => h.xk (by rw [hk', e]))), h.xk⟩
theorem GS.turn {tf : FuncId} {cap : Array Value} {T : (Nat → Prop) → List Mom → World → Prop} (ht : Tells tf cap T) {w : World} {x : Nat} {f : Fx} {K : Value} {B : Nat → Prop} {s' s1 : Vm} {K' : Value} {B' : Nat → Prop} {ms' : List Mom} {wr w1 : World} (hx : x < w.heap.size) (G : GS T w x f K B s' K' B' ms' wr)
    (hb : VmB w1 x f K' s1) (hc : s1.calls = s'.calls) (hk : Kp (fun b => b = x) wr w1) : GS T w x f K B s1 K' B' ms' w1 :=
  ⟨G.v.turn hb hc hk, ht.keep G.t hk (fun k hk e => G.dj k hk (.inl e)), G.kp.trans hk (fun b _ e => .inl (.inl e)), G.kf, G.bf, G.dj, hk.cell G.bx (fun e => by have : w.heap.size = x := e; omega)⟩
theorem add_at (x k j : Nat) : (⟨x, k, none⟩ : Addr).add j = ⟨x, k + j, none⟩ := by unfold Addr.add; split <;> simp_all
theorem VmB.sets {w : World} {x : Nat} {f : Fx} {K : Value} {s : Vm} (h : VmB w x f K s) : ∀ j v, [.bool (s.set 0), .bool (s.set 1), .bool (s.set 2), .bool (s.set 3), .bool (s.set 4), .bool (s.set 5), .bool (s.set 6), .bool (s.set 7), .bool (s.set 8), .bool (s.set 9)][j]? = some v → w.cell? ((⟨x, 5, none⟩ : Addr).add j) = some v := by
  intro j v hv
  have hj : j < 10 := by have := (List.getElem?_eq_some_iff.1 hv).1; simpa using this
  rw [add_at, h.setc j hj, ← hv]
  have hc : j = 0 ∨ j = 1 ∨ j = 2 ∨ j = 3 ∨ j = 4 ∨ j = 5 ∨ j = 6 ∨ j = 7 ∨ j = 8 ∨ j = 9 := by omega
  rcases hc with rfl | rfl | rfl | rfl | rfl | rfl | rfl | rfl | rfl | rfl <;> rfl
theorem VmB.regs {w : World} {x : Nat} {f : Fx} {K : Value} {s : Vm} (h : VmB w x f K s) : ∀ j v, [.int .u32 (s.reg 0 : Int), .int .u32 (s.reg 1 : Int), .int .u32 (s.reg 2 : Int), .int .u32 (s.reg 3 : Int), .int .u32 (s.reg 4 : Int), .int .u32 (s.reg 5 : Int), .int .u32 (s.reg 6 : Int), .int .u32 (s.reg 7 : Int), .int .u32 (s.reg 8 : Int), .int .u32 (s.reg 9 : Int)][j]? = some v → w.cell? ((⟨x, 15, none⟩ : Addr).add j) = some v := by
  intro j v hv
  have hj : j < 10 := by have := (List.getElem?_eq_some_iff.1 hv).1; simpa using this
  rw [add_at, h.regc j hj, ← hv]
  have hc : j = 0 ∨ j = 1 ∨ j = 2 ∨ j = 3 ∨ j = 4 ∨ j = 5 ∨ j = 6 ∨ j = 7 ∨ j = 8 ∨ j = 9 := by omega
  rcases hc with rfl | rfl | rfl | rfl | rfl | rfl | rfl | rfl | rfl | rfl <;> rfl
theorem build_mom (s : Vm) (w : World) : (Instr.build 70 #[(0, .int .i64 (s.at_ : Int)), (1, .agg #[.bool (s.set 0), .bool (s.set 1), .bool (s.set 2), .bool (s.set 3), .bool (s.set 4), .bool (s.set 5), .bool (s.set 6), .bool (s.set 7), .bool (s.set 8), .bool (s.set 9)]), (2, .agg #[.int .u32 (s.reg 0 : Int), .int .u32 (s.reg 1 : Int), .int .u32 (s.reg 2 : Int), .int .u32 (s.reg 3 : Int), .int .u32 (s.reg 4 : Int), .int .u32 (s.reg 5 : Int), .int .u32 (s.reg 6 : Int), .int .u32 (s.reg 7 : Int), .int .u32 (s.reg 8 : Int), .int .u32 (s.reg 9 : Int)])]).run Try.prog w = .ok (momV s.mom) w := by kernel_rfl
theorem exec_build3 {o : Oper} {ac : Act} {w : World} (ty : TypeId) (x0 x1 x2 : Operand) (ho : o.op = .build ty #[(0, x0), (1, x1), (2, x2)]) (v0 v1 v2 : Value) (h0 : ac.eval x0 = v0) (h1 : ac.eval x1 = v1) (h2 : ac.eval x2 = v2) (v : Value)
    (h : (Instr.build ty #[(0, v0), (1, v1), (2, v2)]).run Try.prog w = .ok v w) : (execOp ac.eval o).run Try.prog w = .ok (.value v) w := by
  unfold execOp
  simp only [ho, List.map_toArray, List.map_cons, List.map_nil, h0, h1, h2, Sem.run_bind, h]
  rfl
theorem size_sets : (Try.prog.info? 67).map (·.size) = some 10 := by kernel_rfl
theorem size_regs : (Try.prog.info? 68).map (·.size) = some 10 := by kernel_rfl
theorem GS.lt {T : (Nat → Prop) → List Mom → World → Prop} {w : World} {x : Nat} {f : Fx} {K : Value} {B : Nat → Prop} {s' : Vm} {K' : Value} {B' : Nat → Prop} {ms' : List Mom} {wr : World} (G : GS T w x f K B s' K' B' ms' wr) : w.heap.size < wr.heap.size := World.block_lt_of_cell? wr _ G.bx
theorem GS.told {tf : FuncId} {cap : Array Value} {T : (Nat → Prop) → List Mom → World → Prop} (ht : Tells tf cap T) {w : World} {x : Nat} {f : Fx} {K : Value} {B : Nat → Prop} {s' : Vm} {K' : Value} {B' B1 : Nat → Prop} {ms' ms1 : List Mom} {wr w1 : World} (hB : ∀ k, B k → k < w.heap.size) (G : GS T w x f K B s' K' B' ms' wr)
    (hT : T B1 ms1 w1) (hk : Kp B' wr w1) (hf : ∀ k, B1 k → B' k ∨ wr.heap.size ≤ k) : GS T w x f K B s' K' B1 ms1 w1 := by
  have hl := G.lt
  refine ⟨G.v.keep hk (fun e => G.dj x e (.inl rfl)) (fun k hk' e => G.dj k e (.inr hk')), hT, G.kp.trans hk (fun b hb e => ?_), G.kf, fun k hk' => ?_, fun k hk' e => ?_, hk.cell G.bx (fun e => ?_)⟩
  · rcases G.bf b e with h | h
    · exact .inr h
    · omega
  · rcases hf k hk' with h | h
    · exact G.bf k h
    · exact .inr (by omega)
  · rcases hf k hk' with h | h
    · exact G.dj k h e
    · rcases e with rfl | e
      · have := G.v.b.lt; omega
      · have := (G.v.row.lt k e).2; omega
  · rcases G.bf _ e with h | h
    · have h1 : w.heap.size < w.heap.size := hB _ h
      omega
    · have h1 : w.heap.size + 1 ≤ w.heap.size := h
      omega
theorem GS.done {tf : FuncId} {cap : Array Value} {T : (Nat → Prop) → List Mom → World → Prop} (ht : Tells tf cap T) {w : World} {x : Nat} {f : Fx} {K : Value} {B : Nat → Prop} {s' s1 : Vm} {K' K1 : Value} {B' : Nat → Prop} {ms' : List Mom} {wr w1 : World} (hx : x < w.heap.size) (hK : ∀ k, K.ownBlock = some k → k < w.heap.size) (G : GS T w x f K B s' K' B' ms' wr)
    (hv : VmS w1 x f K1 s1) (hk : Kp (VmM x K') wr w1) (hf : ∀ k, K1.ownBlock = some k → K'.ownBlock = some k ∨ wr.heap.size ≤ k) : GS T w x f K B s1 K1 B' ms' w1 := by
  have hl := G.lt
  refine ⟨hv, ht.keep G.t hk G.dj, G.kp.trans hk (fun b hb e => ?_), fun k hk' => ?_, G.bf, fun k hk' e => ?_, hk.cell G.bx (fun e => ?_)⟩
  · rcases e with rfl | e
    · exact .inl (.inl rfl)
    · rcases G.kf b e with h | h
      · exact .inl (.inr h)
      · omega
  · rcases hf k hk' with h | h
    · exact G.kf k h
    · exact .inr (by omega)
  · rcases e with rfl | e
    · exact G.dj _ hk' (.inl rfl)
    · rcases hf k e with h | h
      · exact G.dj k hk' (.inr h)
      · have := ht.lt G.t k hk'; omega
  · rcases e with e | e
    · have h1 : w.heap.size = x := e
      omega
    · rcases G.kf _ e with h | h
      · have h1 : w.heap.size < w.heap.size := hK _ h
        omega
      · have h1 : w.heap.size + 1 ≤ w.heap.size := h
        omega
theorem GS.below {tf : FuncId} {cap : Array Value} {T : (Nat → Prop) → List Mom → World → Prop} (ht : Tells tf cap T) {w : World} {x : Nat} {f : Fx} {K : Value} {B : Nat → Prop} {s' : Vm} {K' : Value} {B' : Nat → Prop} {ms' : List Mom} {wr w1 : World} (G : GS T w x f K B s' K' B' ms' wr)
    (hb : Below wr.heap.size wr w1) : GS T w x f K B s' K' B' ms' w1 :=
  ⟨G.v.below hb, ht.keep G.t (Kp.of_below hb No) (fun _ _ h => h), G.kp.trans (Kp.of_below hb No) (fun _ _ e => e.elim), G.kf, G.bf, G.dj, (Kp.of_below hb No).cell G.bx (fun h => h)⟩
theorem GS.caught {tf : FuncId} {cap : Array Value} {T : (Nat → Prop) → List Mom → World → Prop} (ht : Tells tf cap T) {w : World} {x : Nat} {f : Fx} {K : Value} {B : Nat → Prop} {s1 : Vm} {K' : Value} {B' : Nat → Prop} {ms1 : List Mom} {W : World} (hx : x < w.heap.size) (G : GS T w x f K B s1 K' B' ms1 W) (why : Nat) (tm : Array Value) :
    Leaves Try.prog Try.f32 tm (fun e w' => e = .returned (.tuple #[]) ∧ ∃ K' B', VmS w' x f K' (s1.fall why) ∧ T B' ms1 w' ∧ Kp (fun k => VmM x K k ∨ B k) w w' ∧ (∀ k, K'.ownBlock = some k → K.ownBlock = some k ∨ w.heap.size ≤ k) ∧ (∀ k, B' k → B k ∨ w.heap.size ≤ k))
      [{ target := .fn (.func 42) #[.pointer (some ⟨w.heap.size, 0, none⟩)], args := #[] }] (.panicking (stopP (why : Int))) W := by
  have hl := G.lt
  have hk : Kp (fun b => b = x) W (W.setCell ⟨x, 26, none⟩ (.int .i64 (why : Int))) := (Kp.refl (fun b => b = x) W).setCell (p := ⟨x, 26, none⟩) (.inl rfl) _
  have G1 : GS T w x f K B (s1.fall why) K' B' ms1 _ := GS.turn ht hx G (fall_ok G.v.b why) rfl hk
  have G2 := GS.below ht G1 ((Below.refl _ _).alloc (Nat.le_refl _) (.cells #[.int .i64 (why : Int)] 109))
  exact goes_caught tm w.heap.size x why W G.bx (Blk.cell G.v.b 26 (by omega)) (Blk.frozen G.v.b 26) G.v.b.lt hl ⟨rfl, K', B', G2.v, G2.t, G2.kp, fun k hk => (G2.kf k hk).imp id (fun e => by omega), fun k hk => (G2.bf k hk).imp id (fun e => by omega)⟩
structure SG8 (g x at_ : Nat) (f : Fx) (ok : Nat → Prop) (a : Addr) (n ic : Nat) (cs : List Value) (W : World) : Prop where
  bx : W.cell? ⟨g, 0, none⟩ = some (.pointer (some ⟨x, 0, none⟩))
  b : ∃ K s, VmB W x f K s ∧ s.at_ = at_
  ins : Sl W ok 5 (some a) n ic cs
theorem SG8.c1 {g x at_ : Nat} {f : Fx} {ok : Nat → Prop} {a : Addr} {n ic : Nat} {cs : List Value} {W : World} (h : SG8 g x at_ f ok a n ic cs W) (hI : f.I = .slice (some a) n ic) : W.cell? ⟨x, 1, none⟩ = some (.slice (some a) n ic) := by
  obtain ⟨K, s, hb, _⟩ := h.b
  rw [← hI]; exact Blk.cell hb 1 (by omega)
theorem SG8.c4 {g x at_ : Nat} {f : Fx} {ok : Nat → Prop} {a : Addr} {n ic : Nat} {cs : List Value} {W : World} (h : SG8 g x at_ f ok a n ic cs W) : W.cell? ⟨x, 4, none⟩ = some (.int .i64 (at_ : Int)) := by
  obtain ⟨K, s, hb, e⟩ := h.b
  rw [← e]; exact Blk.cell hb 4 (by omega)
theorem size_ins : (Try.prog.info? 50).map (·.size) = some 5 := by kernel_rfl
theorem addr_add_add (a : Addr) (m j : Nat) : (a.add m).add j = a.add (m + j) := by
  obtain ⟨b, o, k⟩ := a
  by_cases hm : m = 0
  · subst hm; simp [Addr.add]
  · by_cases hj : j = 0
    · subst hj; simp [Addr.add]
    · simp [Addr.add, hm, hj, Nat.add_assoc]

set_option maxRecDepth 100000 in
set_option maxHeartbeats 4000000 in
theorem goes_ok {w : World} {x : Nat} {f : Fx} {K : Value} {s : Vm} (h : VmS w x f K s) (hok : VmOk s) (h0 : s.at_ = 0 ∧ s.calls = [] ∧ s.steps = 0)
    {tf : FuncId} {cap : Array Value} {T : (Nat → Prop) → List Mom → World → Prop} (ht : Tells tf cap T) (hT : f.T = .func (.func tf) #[] cap) {B : Nat → Prop} (htb : T B [] w) (hdj : ∀ k, B k → ¬ VmM x K k)
    {ok : Nat → Prop} (hoB : ∀ k, ok k → k < w.heap.size ∧ ¬ VmM x K k ∧ ¬ B k)
    (CA : Option Addr) (cc : Nat) (ctx : List UInt8) (hC : f.C = .slice CA ctx.length cc) (hcx : By w ok CA ctx.length cc ctx) (hcl : ctx.length ≤ 65536)
    (A : Option Addr) (ca : Nat) (ans : List Nat) (hA : f.A = .slice A ans.length ca) (hans : Wd w ok A ans.length ca ans) (hal : ans.length ≤ 1048576) (hav : ∀ v, v ∈ ans → v < 4294967296)
    (IA : Option Addr) (ic : Nat) (pr : List Ins8) (hI : f.I = .slice IA pr.length ic) (hin : Sl w ok 5 IA pr.length ic (pr.flatMap insCells)) (hpl : pr.length ≤ 1000) (hpm : ∀ i, i ∈ pr → i.May) :
    Calls Try.prog 32 #[.pointer (some ⟨x, 0, none⟩)] w fun e w' => e = .returned (.tuple #[]) ∧ ∃ K' B', VmS w' x f K' (runTo pr ctx ans (pr.length + 1) s).2 ∧ T B' (runTo pr ctx ans (pr.length + 1) s).1 w' ∧ Kp (fun k => VmM x K k ∨ B k) w w' ∧
      (∀ k, K'.ownBlock = some k → K.ownBlock = some k ∨ w.heap.size ≤ k) ∧ (∀ k, B' k → B k ∨ w.heap.size ≤ k) := by
  obtain ⟨S, hS⟩ : ∃ S, S = (runTo pr ctx ans (pr.length + 1) s).2 := ⟨_, rfl⟩
  obtain ⟨MS, hMS⟩ : ∃ MS, MS = (runTo pr ctx ans (pr.length + 1) s).1 := ⟨_, rfl⟩
  rw [← hS, ← hMS]
  have hmf : ∀ (fn : Fn) (first cap : Array Value) (w : World), (Instr.makeFunc fn first cap).run Try.prog w = .ok (.func fn first cap) w := fun _ _ _ _ => rfl
  obtain ⟨W1, hW1⟩ : ∃ W1, W1 = w.alloc (.cells #[.pointer (some ⟨x, 0, none⟩)] 92) := ⟨_, rfl⟩
  have hb1 : Below w.heap.size w W1 := by rw [hW1]; exact (Below.refl _ _).alloc (Nat.le_refl _) _
  have hz1 : W1.heap.size ≤ w.heap.size + 1 ∧ w.heap.size + 1 ≤ W1.heap.size := by rw [hW1]; simp
  have hbx : W1.cell? ⟨w.heap.size, 0, none⟩ = some (.pointer (some ⟨x, 0, none⟩)) := by rw [hW1]; simp
  have HS := Lib.hid hS
  have HMS := Lib.hid hMS
  have G0 : GR T w x f K B pr ctx ans S MS (.bool false) W1 := by
    obtain ⟨h1, h2, h3⟩ := h0
    refine ⟨s, K, B, [], ⟨h.below hb1, ht.keep htb (Kp.of_below hb1 No) (fun _ _ h => h), Kp.of_below hb1 _, fun k hk => .inl hk, fun k hk => .inl hk, hdj, hbx⟩, .inl ⟨rfl, hok, by omega, by simp [h2], by simp, by omega, pr.length + 1, by omega, by rw [hMS]; rfl, hS.symm⟩⟩
  clear hS hMS
  have HW1 := Lib.hid hW1; clear hW1
  have hxl := h.b.lt
  have hBl : ∀ k, B k → k < w.heap.size := fun k hk => ht.lt htb k hk
  have hKl : ∀ k, K.ownBlock = some k → k < w.heap.size := fun k hk => (h.row.lt k hk).2
  go_enter_defers Try.func32, Try.ntmps32
  go_wp2_with fail
  rw [← HW1.out]
  clear hbx
  go_loopw [2] (fun ev wr => GR T w x f K B pr ctx ans S MS ev wr) (fun ev wr => mu pr.length x ev wr)
  case atStart => exact G0
  case round =>
    clear G0
    obtain ⟨s', K', B', ms', G, hrel⟩ := hrel
    rcases hrel with ⟨rfl, N⟩ | ⟨rfl, rfl, rfl⟩
    · have bx := G.bx
      have c4 : wr.cell? ⟨x, 4, none⟩ = some (.int .i64 (s'.at_ : Int)) := Blk.cell G.v.b 4 (by omega)
      obtain ⟨W4, hW4⟩ : ∃ W4, W4 = wr.drew := ⟨_, rfl⟩
      have G4 : GS T w x f K B s' K' B' ms' W4 := GS.turn ht hxl G (by rw [hW4]; exact G.v.b) rfl (by rw [hW4]; exact (Kp.refl _ _).drew)
      have bx4 := G4.bx
      have c4 : W4.cell? ⟨x, 4, none⟩ = some (.int .i64 (s'.at_ : Int)) := Blk.cell G4.v.b 4 (by omega)
      have c27 := Blk.cell G4.v.b 27 (by omega)
      have f27 := Blk.frozen G4.v.b 27
      have HW4 := Lib.hid hW4; clear hW4
      have HN := Lib.hid N; clear N
      have HG := Lib.hid G; clear G
      go_upto_region 4 with fail
      refine wp_region_noPanic ?_
      refine plan (.rd 0 (.rd 1 (.rd 2 (.rd 3 (.rd 4 (.eff 5 (.eff 6 (.eff 7 (.eff 8 .done))))))))) [0, 1, 2, 3, 4] (fun W => W = W4) (by kernel_rfl) (by kernel_rfl) (fun _ _ _ _ _ h => h) HW4.out.symm ?_
      rw [← HW4.out]
      repeat (refine pl_pure rfl (fun K hK => ?_); go_simp; refine hK _ ?_; clear hK K)
      refine pl_rd (.pointer (some ⟨x, 0, none⟩)) rfl rfl (fun W hS => ?_) (fun K hK => ?_)
      · rw [hS]; simp [go_sem, bx4]
      go_simp
      refine hK _ ?_
      clear hK K
      repeat (refine pl_pure rfl (fun K hK => ?_); go_simp; refine hK _ ?_; clear hK K)
      refine pl_rd (.pointer (some ⟨x, 0, none⟩)) rfl rfl (fun W hS => ?_) (fun K hK => ?_)
      · rw [hS]; simp [go_sem, bx4]
      go_simp
      refine hK _ ?_
      clear hK K
      repeat (refine pl_pure rfl (fun K hK => ?_); go_simp; refine hK _ ?_; clear hK K)
      refine pl_rd (.int .i64 (s'.at_ : Int)) rfl rfl (fun W hS => ?_) (fun K hK => ?_)
      · rw [hS]; simp [go_sem, c4]
      go_simp
      refine hK _ ?_
      clear hK K
      refine pl_eff rfl rfl (fun K hK => ?_)
      go_simp
      refine hK _ _ (fun h => by cases h) ?_
      clear hK K
      refine pl_eff rfl rfl (fun K hK => ?_)
      go_simp
      refine hK _ _ (fun h => by cases h) ?_
      clear hK K
      refine pl_eff rfl rfl (fun K hK => ?_)
      go_simp
      refine hK _ _ (fun h => by cases h) ?_
      clear hK K
      refine pl_eff rfl rfl (fun K hK => ?_)
      go_simp
      refine hK _ _ (fun h => by cases h) ?_
      clear hK K
      refine pl_done ?_
      refine NoPanic.normal ?_
      have hk5 : Kp (fun b => b = x) W4 (W4.setCell ⟨x, 27, none⟩ (.int .i64 (s'.at_ : Int))).drew := ((Kp.refl (fun b => b = x) W4).setCell (p := ⟨x, 27, none⟩) (.inl rfl) _).drew
      have G5 : GS T w x f K B s'.mark K' B' ms' (W4.setCell ⟨x, 27, none⟩ (.int .i64 (s'.at_ : Int))).drew := GS.turn ht hxl G4 (mark_ok G4.v.b) rfl hk5
      go_upto_region 5 with fail
      generalize hW5 : (W4.setCell ⟨x, 27, none⟩ (.int .i64 (s'.at_ : Int))).drew = W5 at G5 hk5
      have HW5 := Lib.hid hW5; clear hW5
      have bx5 := G5.bx
      have c4 : W5.cell? ⟨x, 4, none⟩ = some (.int .i64 (s'.at_ : Int)) := Blk.cell G5.v.b 4 (by omega)
      have c94 : W5.cell? ⟨x, 94, none⟩ = some (.func (.func tf) #[] cap) := by rw [← hT]; exact Blk.cell G5.v.b 94 (by omega)
      refine wp_region_noPanic ?_
      refine plan (.rd 0 (.rd 1 (.rd 2 (.rd 3 (.rd 4 (.rd 5 (.rd 6 (.rd 7 (.rd 8 (.rd 9 (.rd 10 (.rd 11 (.rd 12 (.rd 13 (.rd 14 (.rd 15 (.rd 16 (.eff 17 .done)))))))))))))))))) [0, 1, 2, 3, 4, 5, 6, 7, 8, 9, 10, 11, 12, 13, 14, 15, 16, 17] (SG w.heap.size x f K' s'.mark) (by kernel_rfl) (by kernel_rfl) (fun _ _ _ _ _ h => h) (by rw [HW5.out]; exact ⟨bx5, G5.v.b⟩) ?_
      rw [HW5.out]
      repeat (refine pl_pure rfl (fun K hK => ?_); go_simp; refine hK _ ?_; clear hK K)
      refine pl_rd (.pointer (some ⟨x, 0, none⟩)) rfl rfl (fun W hS => ?_) (fun K hK => ?_)
      · have f0 := hS.bx
        simp [go_sem, f0]
      go_simp
      refine hK _ ?_
      clear hK K
      repeat (refine pl_pure rfl (fun K hK => ?_); go_simp; refine hK _ ?_; clear hK K)
      refine pl_rd (.func (.func tf) #[] cap) rfl rfl (fun W hS => ?_) (fun K hK => ?_)
      · have f0 := (show W.cell? ⟨x, 94, none⟩ = some (.func (.func tf) #[] cap) from by rw [← hT]; exact Blk.cell hS.b 94 (by omega))
        simp [go_sem, f0]
      go_simp
      refine hK _ ?_
      clear hK K
      repeat (refine pl_pure rfl (fun K hK => ?_); go_simp; refine hK _ ?_; clear hK K)
      refine pl_rd (.pointer (some ⟨x, 0, none⟩)) rfl rfl (fun W hS => ?_) (fun K hK => ?_)
      · have f0 := hS.bx
        simp [go_sem, f0]
      go_simp
      refine hK _ ?_
      clear hK K
      repeat (refine pl_pure rfl (fun K hK => ?_); go_simp; refine hK _ ?_; clear hK K)
      refine pl_rd (.int .i64 (s'.at_ : Int)) rfl rfl (fun W hS => ?_) (fun K hK => ?_)
      · have f0 := (show W.cell? ⟨x, 4, none⟩ = some (.int .i64 (s'.at_ : Int)) from Blk.cell hS.b 4 (by omega))
        simp [go_sem, f0]
      go_simp
      refine hK _ ?_
      clear hK K
      repeat (refine pl_pure rfl (fun K hK => ?_); go_simp; refine hK _ ?_; clear hK K)
      refine pl_rd (.pointer (some ⟨x, 0, none⟩)) rfl rfl (fun W hS => ?_) (fun K hK => ?_)
      · have f0 := hS.bx
        simp [go_sem, f0]
      go_simp
      refine hK _ ?_
      clear hK K
      repeat (refine pl_pure rfl (fun K hK => ?_); go_simp; refine hK _ ?_; clear hK K)
      refine pl_rd (.agg #[.bool (s'.set 0), .bool (s'.set 1), .bool (s'.set 2), .bool (s'.set 3), .bool (s'.set 4), .bool (s'.set 5), .bool (s'.set 6), .bool (s'.set 7), .bool (s'.set 8), .bool (s'.set 9)]) rfl rfl (fun W hS => ?_) (fun K hK => ?_)
      · exact exec_load_at 67 (.tmp 25) rfl ⟨x, 5, none⟩ rfl [.bool (s'.set 0), .bool (s'.set 1), .bool (s'.set 2), .bool (s'.set 3), .bool (s'.set 4), .bool (s'.set 5), .bool (s'.set 6), .bool (s'.set 7), .bool (s'.set 8), .bool (s'.set 9)] _ (VmB.sets (s := s'.mark) hS.b) Try.underlying67 rfl size_sets
      go_simp
      refine hK _ ?_
      clear hK K
      repeat (refine pl_pure rfl (fun K hK => ?_); go_simp; refine hK _ ?_; clear hK K)
      refine pl_rd (.pointer (some ⟨x, 0, none⟩)) rfl rfl (fun W hS => ?_) (fun K hK => ?_)
      · have f0 := hS.bx
        simp [go_sem, f0]
      go_simp
      refine hK _ ?_
      clear hK K
      repeat (refine pl_pure rfl (fun K hK => ?_); go_simp; refine hK _ ?_; clear hK K)
      refine pl_rd (.agg #[.int .u32 (s'.reg 0 : Int), .int .u32 (s'.reg 1 : Int), .int .u32 (s'.reg 2 : Int), .int .u32 (s'.reg 3 : Int), .int .u32 (s'.reg 4 : Int), .int .u32 (s'.reg 5 : Int), .int .u32 (s'.reg 6 : Int), .int .u32 (s'.reg 7 : Int), .int .u32 (s'.reg 8 : Int), .int .u32 (s'.reg 9 : Int)]) rfl rfl (fun W hS => ?_) (fun K hK => ?_)
      · exact exec_load_at 68 (.tmp 29) rfl ⟨x, 15, none⟩ rfl [.int .u32 (s'.reg 0 : Int), .int .u32 (s'.reg 1 : Int), .int .u32 (s'.reg 2 : Int), .int .u32 (s'.reg 3 : Int), .int .u32 (s'.reg 4 : Int), .int .u32 (s'.reg 5 : Int), .int .u32 (s'.reg 6 : Int), .int .u32 (s'.reg 7 : Int), .int .u32 (s'.reg 8 : Int), .int .u32 (s'.reg 9 : Int)] _ (VmB.regs (s := s'.mark) hS.b) Try.underlying68 rfl size_regs
      go_simp
      refine hK _ ?_
      clear hK K
      refine pl_rd (momV s'.mom) rfl rfl (fun W hS => ?_) (fun K hK => ?_)
      · exact exec_build3 70 (.tmp 22) (.tmp 26) (.tmp 30) rfl _ _ _ rfl rfl rfl _ (build_mom s' W)
      go_simp
      refine hK _ ?_
      clear hK K
      have TC := ht.call s'.mom G5.t (by have := HN.out.told; have := HN.out.at_; omega)
      refine pl_eff rfl rfl (fun K hK => ?_)
      go_simp
      rw [ht.enter, Oper.upon_enter]
      (with_reducible refine TC.mono ?_)
      rintro e w6 ⟨rfl, B6, T6, hk6, hf6⟩
      have G6 := GS.told ht hBl G5 T6 hk6 hf6
      refine hK _ _ (fun _ => ⟨G6.bx, G6.v.b⟩) ?_
      clear hK K
      refine pl_done ?_
      refine NoPanic.normal ?_
      have c4 : w6.cell? ⟨x, 4, none⟩ = some (.int .i64 (s'.at_ : Int)) := Blk.cell G6.v.b 4 (by omega)
      clear c94
      by_cases hlt : s'.at_ < pr.length
      · have hd : (s'.at_ : Int) < pr.length := by omega
        go_upto_region 6 with fail
        refine wp_region_noPanic ?_
        refine plan (.rd 0 (.rd 1 (.rd 2 (.rd 3 (.rd 4 (.rd 5 (.rd 6 (.rd 7 (.rd 8 (.rd 9 (.rd 10 (.eff 11 .done)))))))))))) [0, 1, 2, 3, 4, 5, 6, 7, 8, 9, 10, 11] (SG w.heap.size x f K' s'.mark) (by kernel_rfl) (by kernel_rfl) (fun _ _ _ _ _ h => h) ⟨G6.bx, G6.v.b⟩ ?_
        repeat (refine pl_pure rfl (fun K hK => ?_); go_simp; refine hK _ ?_; clear hK K)
        refine pl_rd (.pointer (some ⟨x, 0, none⟩)) rfl rfl (fun W hS => ?_) (fun K hK => ?_)
        · have f0 := hS.bx
          simp [go_sem, f0]
        go_simp
        refine hK _ ?_
        clear hK K
        repeat (refine pl_pure rfl (fun K hK => ?_); go_simp; refine hK _ ?_; clear hK K)
        refine pl_rd (.int .i64 (s'.at_ : Int)) rfl rfl (fun W hS => ?_) (fun K hK => ?_)
        · have f0 := (show W.cell? ⟨x, 4, none⟩ = some (.int .i64 (s'.at_ : Int)) from Blk.cell hS.b 4 (by omega))
          simp [go_sem, f0]
        go_simp
        refine hK _ ?_
        clear hK K
        repeat (refine pl_pure rfl (fun K hK => ?_); go_simp; refine hK _ ?_; clear hK K)
        refine pl_rd (.pointer (some ⟨x, 0, none⟩)) rfl rfl (fun W hS => ?_) (fun K hK => ?_)
        · have f0 := hS.bx
          simp [go_sem, f0]
        go_simp
        refine hK _ ?_
        clear hK K
        repeat (refine pl_pure rfl (fun K hK => ?_); go_simp; refine hK _ ?_; clear hK K)
        refine pl_rd (.slice IA pr.length ic) rfl rfl (fun W hS => ?_) (fun K hK => ?_)
        · have f0 := (show W.cell? ⟨x, 1, none⟩ = some (.slice IA pr.length ic) from by rw [← hI]; exact Blk.cell hS.b 1 (by omega))
          simp [go_sem, f0]
        go_simp
        refine hK _ ?_
        clear hK K
        repeat (refine pl_pure rfl (fun K hK => ?_); go_simp; refine hK _ ?_; clear hK K)
        refine pl_eff rfl rfl (fun K hK => ?_)
        go_simp
        (with_reducible refine (must_ok _ 1).mono ?_)
        rintro e w7 ⟨rfl, rfl⟩
        refine hK _ _ (fun _ => ⟨G6.bx, G6.v.b⟩) ?_
        clear hK K
        refine pl_done ?_
        refine NoPanic.normal ?_
        obtain ⟨a, rfl, hoka, halt, hca⟩ := hin.at_ (j := s'.at_ * 5) (by omega)
        obtain ⟨i, hi⟩ : ∃ i, pr[s'.at_]? = some i := ⟨_, List.getElem?_eq_getElem hlt⟩
        have him := hpm i (List.mem_of_getElem? hi)
        have HI := Lib.hid hi; clear hi
        have h00 : 0 ≤ (s'.at_ : Int) := by omega
        obtain ⟨W7, hW7⟩ : ∃ W7, W7 = w6.drew := ⟨_, rfl⟩
        have G7 : GS T w x f K B s'.mark K' B6 (ms' ++ [s'.mom]) W7 := by rw [hW7]; exact GS.below ht G6 (Below.refl _ _).drew
        have hin7 := Sl.move hin (Mv.of_kp G7.kp (fun k _ hk e => e.elim (hoB k hk).2.1 (hoB k hk).2.2))
        have S7 : SG8 w.heap.size x s'.at_ f ok a pr.length ic (pr.flatMap insCells) W7.drew := ⟨G7.bx, ⟨K', s'.mark, G7.v.b, rfl⟩, hin7.drew⟩
        have HW7 := Lib.hid hW7; clear hW7 HW5 HW4 c4
        go_upto_region 8 with fail
        rw [← HW7.out]
        refine plan (.rd 0 (.rd 1 (.rd 2 (.rd 3 (.rd 4 (.rd 5 (.rd 6 (.rd 7 (.rd 8 (.rd 9 (.rd 10 (.rd 11 (.eff 12 (.rd 13 (.rd 14 (.rd 15 (.rd 16 (.rd 17 .done)))))))))))))))))) [0, 1, 2, 3, 4, 5, 6, 7, 8, 9, 10, 11, 12, 13, 14, 15, 16, 17] (SG8 w.heap.size x s'.at_ f ok a pr.length ic (pr.flatMap insCells)) (by kernel_rfl) (by kernel_rfl) (fun c a d v w h => by cases d <;> exact leaves_tmps rfl _ _ _ _ _ h) S7 ?_
        repeat (refine pl_pure rfl (fun K hK => ?_); go_simp; refine hK _ ?_; clear hK K)
        refine pl_rd (.pointer (some ⟨x, 0, none⟩)) rfl rfl (fun W hS => ?_) (fun K hK => ?_)
        · have f0 := hS.bx
          simp [go_sem, f0]
        go_simp
        refine hK _ ?_
        clear hK K
        repeat (refine pl_pure rfl (fun K hK => ?_); go_simp; refine hK _ ?_; clear hK K)
        refine pl_rd (.pointer (some ⟨x, 0, none⟩)) rfl rfl (fun W hS => ?_) (fun K hK => ?_)
        · have f0 := hS.bx
          simp [go_sem, f0]
        go_simp
        refine hK _ ?_
        clear hK K
        repeat (refine pl_pure rfl (fun K hK => ?_); go_simp; refine hK _ ?_; clear hK K)
        refine pl_rd (.slice (some a) pr.length ic) rfl rfl (fun W hS => ?_) (fun K hK => ?_)
        · have f0 := hS.c1 hI
          simp [go_sem, f0]
        go_simp
        refine hK _ ?_
        clear hK K
        repeat (refine pl_pure rfl (fun K hK => ?_); go_simp; refine hK _ ?_; clear hK K)
        refine pl_rd (.pointer (some ⟨x, 0, none⟩)) rfl rfl (fun W hS => ?_) (fun K hK => ?_)
        · have f0 := hS.bx
          simp [go_sem, f0]
        go_simp
        refine hK _ ?_
        clear hK K
        repeat (refine pl_pure rfl (fun K hK => ?_); go_simp; refine hK _ ?_; clear hK K)
        refine pl_rd (.int .i64 (s'.at_ : Int)) rfl rfl (fun W hS => ?_) (fun K hK => ?_)
        · have f0 := hS.c4
          simp [go_sem, f0]
        go_simp
        refine hK _ ?_
        clear hK K
        repeat (refine pl_pure rfl (fun K hK => ?_); go_simp; refine hK _ ?_; clear hK K)
        refine pl_rd (insV i) rfl rfl (fun W hS => ?_) (fun K hK => ?_)
        · refine exec_load_at 50 (.tmp 56) rfl _ rfl (insCells i) _ (fun j v hv => ?_) Try.underlying50 rfl size_ins
          have hj : j < 5 := by have := (List.getElem?_eq_some_iff.1 hv).1; simpa [insCells] using this
          have e := hS.ins.cells (s'.at_ * 5 + j) v (by rw [ins_cells pr s'.at_ j i HI.out hj]; exact hv)
          rw [addr_add_add]; exact e
        go_simp
        refine hK _ ?_
        clear hK K
        have G7d : GS T w x f K B s'.mark K' B6 (ms' ++ [s'.mom]) W7.drew := GS.below ht G7 (Below.refl _ _).drew
        have hMv : Mv ok w W7.drew := Mv.of_kp G7d.kp (fun k _ hk e => e.elim (hoB k hk).2.1 (hoB k hk).2.2)
        have hoa : ∀ k, ok k → ¬ VmM x K' k := fun k hk e => by
          have h1 := (hoB k hk).1
          rcases e with e | e
          · exact (hoB k hk).2.1 (.inl e)
          · rcases G7d.kf k e with h | h
            · exact (hoB k hk).2.1 (.inr h)
            · omega
        have D := does_any G7d.v HN.out.ok.mark i him CA cc ctx hC (Sl.move hcx hMv) hcl (fun k hk e => (hoB k hk).2.1 (.inl e)) A ca ans hA (Sl.move hans hMv) hoa (by have := HN.out.calls; show s'.calls.length ≤ 1000; omega) hal hav
        refine pl_eff rfl rfl (fun K hK => ?_)
        go_simp
        (with_reducible refine D.mono ?_)
        rintro e w8 hD
        obtain ⟨r, hr⟩ : ∃ r, r = doesRes s'.mark i ctx ans := ⟨_, rfl⟩
        rw [← hr] at hD
        have hstep : stepRes pr ctx ans s' = r := by simp only [stepRes, HI.out]; exact hr.symm
        cases r with
        | stop why =>
          obtain ⟨rfl, hb8⟩ := hD
          obtain ⟨rfl, rfl⟩ := HN.out.stop hstep
          exact (GS.below ht G7d hb8).caught ht hxl why _
        | go s2 more fin =>
          obtain ⟨rfl, K8, V8, hk8, hf8⟩ := hD
          have X := does_nxt HN.out.ok.mark him hav hr.symm
          have G8 := GS.done ht hxl hKl G7d V8 hk8 hf8
          refine hK _ _ (fun _ => ⟨G8.bx, ⟨K8, s2, V8.b, X.at_⟩, Sl.move hin (Mv.of_kp G8.kp (fun k _ hk e => e.elim (hoB k hk).2.1 (hoB k hk).2.2))⟩) ?_
          clear hK K
          repeat (refine pl_pure rfl (fun K hK => ?_); go_simp; refine hK _ ?_; clear hK K)
          refine pl_done ?_
          have bx8 := G8.bx
          have c25 : w8.cell? ⟨x, 25, none⟩ = some (.int .i64 (s2.steps : Int)) := Blk.cell V8.b 25 (by omega)
          have f25 := Blk.frozen V8.b 25
          have hs0 : 0 ≤ (s2.steps : Int) ∧ (s2.steps : Int) ≤ 1300 := by have e1 : s2.steps = s'.steps := X.steps; have := HN.out.steps; omega
          have ha0 : 0 ≤ (s2.at_ : Int) ∧ (s2.at_ : Int) ≤ 1000 := by have e1 : s2.at_ = s'.at_ := X.at_; omega
          have hm0 := X.m0
          have hm1 := X.m1
          go_upto_region 10 with fail
          have hkA : Kp (fun b => b = x) w8 (w8.setCell ⟨x, 25, none⟩ (.int .i64 ((s2.steps : Int) + 1))) := (Kp.refl (fun b => b = x) w8).setCell (p := ⟨x, 25, none⟩) (.inl rfl) _
          have bx9 := hkA.cell G8.bx (fun e => by have h1 : w.heap.size = x := e; omega)
          have c49 : (w8.setCell ⟨x, 25, none⟩ (.int .i64 ((s2.steps : Int) + 1))).cell? ⟨x, 4, none⟩ = some (.int .i64 (s2.at_ : Int)) := (Blk.set V8.b 25 (.int .i64 ((s2.steps : Int) + 1))).cell 4 (by omega)
          have f49 := (Blk.set V8.b 25 (.int .i64 ((s2.steps : Int) + 1))).frozen 4
          go_wp2
          have hkN : Kp (fun b => b = x) w8 ((w8.setCell ⟨x, 25, none⟩ (.int .i64 ((s2.steps : Int) + 1))).setCell ⟨x, 4, none⟩ (.int .i64 ((s2.at_ : Int) + (1 + more)))) := hkA.setCell (p := ⟨x, 4, none⟩) (.inl rfl) _
          have GZ : GS T w x f K B (s2.next more) K8 B6 (ms' ++ [s'.mom]) _ := GS.turn ht hxl G8 (next_ok G8.v.b more X.m0) rfl hkN
          have hmu := mu_false HG.out.v.b pr.length
          refine ⟨?_, ?_⟩
          · cases fin with
            | true =>
              obtain ⟨e1, e2⟩ := HN.out.fin hstep
              exact ⟨_, _, _, _, GZ, .inr ⟨rfl, e1, e2⟩⟩
            | false => exact ⟨_, _, _, _, GZ, .inl ⟨rfl, HN.out.on hpl hlt hstep X⟩⟩
          · rw [hmu]
            cases fin with
            | true => rw [mu_true]; omega
            | false =>
              rw [mu_false GZ.v.b]
              have e1 : s2.at_ = s'.at_ := X.at_
              have := X.m0
              simp only [Vm.next, e1]
              omega
      · have hd : ¬ (s'.at_ : Int) < pr.length := by omega
        go_upto_region 6 with fail
        refine plan (.rd 0 (.rd 1 (.rd 2 (.rd 3 (.rd 4 (.rd 5 (.rd 6 (.rd 7 (.rd 8 (.rd 9 (.rd 10 (.eff 11 .done)))))))))))) [0, 1, 2, 3, 4, 5, 6, 7, 8, 9, 10, 11] (SG w.heap.size x f K' s'.mark) (by kernel_rfl) (by kernel_rfl) (fun c a d v w h => by cases d <;> exact leaves_tmps rfl _ _ _ _ _ h) ⟨G6.bx, G6.v.b⟩ ?_
        repeat (refine pl_pure rfl (fun K hK => ?_); go_simp; refine hK _ ?_; clear hK K)
        refine pl_rd (.pointer (some ⟨x, 0, none⟩)) rfl rfl (fun W hS => ?_) (fun K hK => ?_)
        · have f0 := hS.bx
          simp [go_sem, f0]
        go_simp
        refine hK _ ?_
        clear hK K
        repeat (refine pl_pure rfl (fun K hK => ?_); go_simp; refine hK _ ?_; clear hK K)
        refine pl_rd (.int .i64 (s'.at_ : Int)) rfl rfl (fun W hS => ?_) (fun K hK => ?_)
        · have f0 := (show W.cell? ⟨x, 4, none⟩ = some (.int .i64 (s'.at_ : Int)) from Blk.cell hS.b 4 (by omega))
          simp [go_sem, f0]
        go_simp
        refine hK _ ?_
        clear hK K
        repeat (refine pl_pure rfl (fun K hK => ?_); go_simp; refine hK _ ?_; clear hK K)
        refine pl_rd (.pointer (some ⟨x, 0, none⟩)) rfl rfl (fun W hS => ?_) (fun K hK => ?_)
        · have f0 := hS.bx
          simp [go_sem, f0]
        go_simp
        refine hK _ ?_
        clear hK K
        repeat (refine pl_pure rfl (fun K hK => ?_); go_simp; refine hK _ ?_; clear hK K)
        refine pl_rd (.slice IA pr.length ic) rfl rfl (fun W hS => ?_) (fun K hK => ?_)
        · have f0 := (show W.cell? ⟨x, 1, none⟩ = some (.slice IA pr.length ic) from by rw [← hI]; exact Blk.cell hS.b 1 (by omega))
          simp [go_sem, f0]
        go_simp
        refine hK _ ?_
        clear hK K
        repeat (refine pl_pure rfl (fun K hK => ?_); go_simp; refine hK _ ?_; clear hK K)
        refine pl_eff rfl rfl (fun K hK => ?_)
        go_simp
        (with_reducible refine (must_not _ 1).mono ?_)
        rintro e w7 ⟨rfl, rfl⟩
        obtain ⟨rfl, rfl⟩ := HN.out.stop (why := 1) (by simp only [stepRes]; rw [List.getElem?_eq_none (by omega)])
        exact (GS.below ht G6 (Below.refl _ _).drew).caught ht hxl 1 _
    · go_wp2
      exact goes_idle _ _ _ ⟨rfl, K', B', G.v, G.t, G.kp, fun k hk => (G.kf k hk).imp id (fun e => by omega), fun k hk => (G.bf k hk).imp id (fun e => by omega)⟩
end Go.Proofs.Ytpnkbpjhbmacaaa
