/- The VM: a call of a helper. -/
import Derived.Test.YtpnkbpjhbmacaaaVm3
set_option linter.unusedVariables false
set_option linter.unusedSimpArgs false
namespace Go.Proofs.Ytpnkbpjhbmacaaa
open Go.RowKit

theorem Kp.cell {M : Nat → Prop} {w w1 : World} (h : Kp M w w1) {a : Addr} {v : Value} (hc : w.cell? a = some v) (hM : ¬ M a.block) : w1.cell? a = some v :=
  (World.cell?_of_block (h.block a.block (World.block_lt_of_cell? w a hc) hM)).trans hc

def callCells (c : CallR) : List Value := [.int .i64 (c.helper : Int), .int .u32 (c.arg 0 : Int), .int .u32 (c.arg 1 : Int), .int .u32 (c.arg 2 : Int), .int .u32 (c.arg 3 : Int), .int .u32 (c.arg 4 : Int)]
def callsV (l : List CallR) : List Value := l.flatMap callCells
theorem callsV_length (l : List CallR) : (callsV l).length = l.length * 6 := by
  induction l with
  | nil => rfl
  | cons c l ih => simp only [callsV, List.flatMap_cons, List.length_append] at ih ⊢; rw [ih]; simp [callCells]; omega
theorem callsV_snoc (l : List CallR) (c : CallR) : callsV (l ++ [c]) = callsV l ++ callCells c := by simp [callsV]
theorem info_call : (Try.prog.info? 80).map (fun i => (i.zero, i.size, i.bytes)) = some (some (.agg #[.int .i64 0, .int .u32 0, .int .u32 0, .int .u32 0, .int .u32 0, .int .u32 0]), 6, 32) := by kernel_rfl

/-- A run in memory, with what it called. -/
structure VmS (w : World) (x : Nat) (f : Fx) (K : Value) (s : Vm) : Prop where
  b : VmB w x f K s
  row : w.ownsRow 0 80 6 K s.calls.length (callsV s.calls)
  xk : K.ownBlock ≠ some x
def VmM (x : Nat) (K : Value) (b : Nat) : Prop := b = x ∨ K.ownBlock = some b
theorem VmS.keep {M : Nat → Prop} {w w1 : World} {x : Nat} {f : Fx} {K : Value} {s : Vm} (h : VmS w x f K s) (hk : Kp M w w1) (hx : ¬ M x) (hK : ∀ k, K.ownBlock = some k → ¬ M k) : VmS w1 x f K s :=
  ⟨h.b.keep hk hx, own_move h.row (fun k hk' hlt => hk.block k hlt (hK k hk')), h.xk⟩
theorem VmS.below {w w1 : World} {x : Nat} {f : Fx} {K : Value} {s : Vm} (h : VmS w x f K s) (hb : Below w.heap.size w w1) : VmS w1 x f K s := h.keep (Kp.of_below hb No) (fun h => h) (fun _ _ h => h)
/-- Words that are read. -/
def Wd (w : World) (ok : Nat → Prop) (A : Option Addr) (n c : Nat) (l : List Nat) : Prop := Sl w ok 1 A n c (l.map fun v : Nat => Value.int .u32 (v : Int))

def Vm.clr (s : Vm) (m : Nat) : Vm := { s with set := fun i => if 1 ≤ i ∧ i ≤ m then false else s.set i, reg := fun i => if 1 ≤ i ∧ i ≤ m then 0 else s.reg i }
def Vm.call (s : Vm) (imm : Nat) (ans : List Nat) : Vm :=
  { s with set := fun i => if i = 0 then true else if i ≤ 5 then false else s.set i, reg := fun i => if i = 0 then ans.getD s.calls.length 0 else if i ≤ 5 then 0 else s.reg i, calls := s.calls ++ [⟨imm, fun j => s.reg (j + 1)⟩] }
theorem clr_zero (s : Vm) : s.clr 0 = s := by
  obtain ⟨a, st, rg, b, c, d, e, g, h⟩ := s
  simp only [Vm.clr, Vm.mk.injEq, true_and, and_true]
  refine ⟨funext fun i => ?_, funext fun i => ?_⟩ <;> rw [if_neg (by omega)]
theorem vm_clr (f : Fx) (K : Value) (s : Vm) (m : Nat) (hm : m < 5) : ∀ j, j < 95 → (if j = 15 + (m + 1) then Value.int .u32 0 else if j = 5 + (m + 1) then Value.bool false else vmF f K (s.clr m) j) = vmF f K (s.clr (m + 1)) j := by
  intro j hj
  by_cases h6 : 5 ≤ j
  · have a0 : ¬ j = 0 := by omega
    have a1 : ¬ j = 1 := by omega
    have a2 : ¬ j = 2 := by omega
    have a3 : ¬ j = 3 := by omega
    have a4 : ¬ j = 4 := by omega
    simp only [vmF, Vm.clr, if_neg a0, if_neg a1, if_neg a2, if_neg a3, if_neg a4]
    by_cases h5 : j < 15
    · have b1 : ¬ j = 15 + (m + 1) := by omega
      simp only [if_pos h5, if_neg b1]
      by_cases h2 : j = 5 + (m + 1)
      · rw [if_pos h2, if_pos (by omega)]
      · rw [if_neg h2]
        by_cases h3 : 1 ≤ j - 5 ∧ j - 5 ≤ m
        · rw [if_pos h3, if_pos (by omega)]
        · rw [if_neg h3, if_neg (by omega)]
    · by_cases h7 : j < 25
      · have b1 : ¬ j = 5 + (m + 1) := by omega
        simp only [if_neg h5, if_pos h7, if_neg b1]
        by_cases h2 : j = 15 + (m + 1)
        · rw [if_pos h2, if_pos (by omega)]; rfl
        · rw [if_neg h2]
          by_cases h3 : 1 ≤ j - 15 ∧ j - 15 ≤ m
          · rw [if_pos h3, if_pos (by omega)]
          · rw [if_neg h3, if_neg (by omega)]
      · have b1 : ¬ j = 5 + (m + 1) := by omega
        have b2 : ¬ j = 15 + (m + 1) := by omega
        simp only [if_neg h5, if_neg h7, if_neg b1, if_neg b2]
  · have h7 : j = 0 ∨ j = 1 ∨ j = 2 ∨ j = 3 ∨ j = 4 := by omega
    rcases h7 with rfl | rfl | rfl | rfl | rfl <;> (rw [if_neg (by omega), if_neg (by omega)]; rfl)

/-- The call's record, as far as m of its words. -/
def recF (imm : Nat) (s : Vm) (m j : Nat) : Value := if j = 0 then .int .i64 (imm : Int) else if j ≤ m then .int .u32 (s.reg j : Int) else .int .u32 0

theorem rec_succ (imm : Nat) (s : Vm) (m : Nat) : ∀ j, j < 6 → (if j = 1 + m then Value.int .u32 (s.reg (m + 1) : Int) else recF imm s m j) = recF imm s (m + 1) j := by
  intro j hj
  unfold recF
  by_cases h : j = 1 + m
  · subst h
    rw [if_pos rfl, if_neg (by omega), if_pos (by omega), Nat.add_comm]
  · rw [if_neg h]
    by_cases h0 : j = 0
    · rw [if_pos h0, if_pos h0]
    · rw [if_neg h0, if_neg h0]
      by_cases h1 : j ≤ m
      · rw [if_pos h1, if_pos (by omega)]
      · rw [if_neg h1, if_neg (by omega)]
theorem vm_K (f : Fx) (K K' : Value) (s s' : Vm) (h1 : s'.at_ = s.at_) (h2 : ∀ i, s'.set i = s.set i) (h3 : ∀ i, s'.reg i = s.reg i) (h4 : s'.steps = s.steps ∧ s'.fault = s.fault ∧ s'.oat = s.oat ∧ s'.val = s.val) (h5 : s'.scr = s.scr) :
    ∀ j, j < 95 → (if j = 29 then K' else vmF f K s j) = vmF f K' s' j := by
  intro j hj
  by_cases h : j = 29
  · subst h; rw [if_pos rfl]; rfl
  · rw [if_neg h]
    simp only [vmF, h1, h2, h3, h4.1, h4.2.1, h4.2.2.1, h4.2.2.2, h5, if_neg h]
theorem call_fin (s : Vm) (imm v : Nat) (ans : List Nat) (hv : v = ans.getD s.calls.length 0) :
    (∀ i, (s.call imm ans).set i = (((s.clr 5).put 0 0).put 0 v).set i) ∧ (∀ i, (s.call imm ans).reg i = (((s.clr 5).put 0 0).put 0 v).reg i) := by
  refine ⟨fun i => ?_, fun i => ?_⟩ <;> simp only [Vm.call, Vm.put, Vm.clr, upd]
  · by_cases h : i = 0
    · rw [if_pos h, if_pos h]
    · rw [if_neg h, if_neg h, if_neg h]
      by_cases h5 : i ≤ 5
      · rw [if_pos h5, if_pos (by omega)]
      · rw [if_neg h5, if_neg (by omega)]
  · by_cases h : i = 0
    · rw [if_pos h, if_pos h, hv]
    · rw [if_neg h, if_neg h, if_neg h]
      by_cases h5 : i ≤ 5
      · rw [if_pos h5, if_pos (by omega)]
      · rw [if_neg h5, if_neg (by omega)]
theorem put_put (s : Vm) : (s.put 0 0).put 0 0 = s.put 0 0 := by
  simp only [Vm.put, Vm.mk.injEq, true_and, and_true]
  refine ⟨funext fun i => ?_, funext fun i => ?_⟩ <;> simp only [upd] <;> split <;> rfl

theorem put_zero {w : World} {x : Nat} {f : Fx} {K : Value} {s : Vm} (h : VmB w x f K s) (v : Nat) :
    Calls Try.prog 57 #[.pointer (some ⟨x, 0, none⟩), .int .i64 0, .int .u32 (v : Int)] w fun e w' => e = .returned (.tuple #[]) ∧ VmB w' x f K (s.put 0 v) ∧ Kp (fun b => b = x) w w' := put_ok h 0 v (by omega)
theorem put_zero0 {w : World} {x : Nat} {f : Fx} {K : Value} {s : Vm} (h : VmB w x f K s) :
    Calls Try.prog 57 #[.pointer (some ⟨x, 0, none⟩), .int .i64 0, .int .u32 0] w fun e w' => e = .returned (.tuple #[]) ∧ VmB w' x f K (s.put 0 0) ∧ Kp (fun b => b = x) w w' := put_ok h 0 0 (by omega)

set_option maxRecDepth 100000 in
set_option maxHeartbeats 4000000 in
theorem call_ok {w : World} {ok : Nat → Prop} {x : Nat} {f : Fx} {K : Value} {s : Vm} (h : VmS w x f K s) (i : Ins8) (hm : i.May) (A : Option Addr) (ca : Nat) (ans : List Nat) (hA : f.A = .slice A ans.length ca) (hans : Wd w ok A ans.length ca ans) (hok : ∀ k, ok k → ¬ VmM x K k)
    (hcl : s.calls.length ≤ 1000) (hal : ans.length ≤ 1048576) (hav : ∀ v, v ∈ ans → v < 4294967296) :
    Calls Try.prog 61 #[.pointer (some ⟨x, 0, none⟩), .agg #[.int .i64 (i.op : Int), .int .i64 (i.dst : Int), .int .i64 (i.src : Int), .int .i64 i.off, .int .u32 (i.imm : Int)]] w fun e w' =>
      e = .returned (.tuple #[]) ∧ ∃ K', VmS w' x f K' (s.call i.imm ans) ∧ Kp (VmM x K) w w' ∧ (∀ k, K'.ownBlock = some k → K.ownBlock = some k ∨ w.heap.size ≤ k) := by
  have hi := hm.imm
  have hxl := h.b.lt
  obtain ⟨KA, kc, rfl⟩ := own_shape h.row
  go_enter Try.func61, Try.ntmps61
  go_wp2_with fail
  obtain ⟨W2, hW2⟩ : ∃ W2, W2 = (w.alloc (.cells #[.int .i64 (i.op : Int), .int .i64 (i.dst : Int), .int .i64 (i.src : Int), .int .i64 i.off, .int .u32 (i.imm : Int)] 50)).alloc (.cells #[.int .i64 (i.imm : Int), .int .u32 0, .int .u32 0, .int .u32 0, .int .u32 0, .int .u32 0] 80) := ⟨_, rfl⟩
  have hb2 : Below w.heap.size w W2 := by rw [hW2]; exact ((Below.refl _ _).alloc (Nat.le_refl _) _).alloc (by simp) _
  have R2 : Blk W2 (w.heap.size + 1) 80 6 (recF i.imm s 0) := by
    rw [hW2]
    have := Blk.new (w.alloc (.cells #[.int .i64 (i.op : Int), .int .i64 (i.dst : Int), .int .i64 (i.src : Int), .int .i64 i.off, .int .u32 (i.imm : Int)] 50)) 80 #[.int .i64 (i.imm : Int), .int .u32 0, .int .u32 0, .int .u32 0, .int .u32 0, .int .u32 0] 6 rfl (recF i.imm s 0) (fun j hj => by
      have hc : j = 0 ∨ j = 1 ∨ j = 2 ∨ j = 3 ∨ j = 4 ∨ j = 5 := by omega
      rcases hc with rfl | rfl | rfl | rfl | rfl | rfl <;> rfl)
    rwa [World.size_alloc] at this
  rw [← hW2]
  have hz2 : W2.heap.size ≤ w.heap.size + 2 ∧ w.heap.size + 2 ≤ W2.heap.size := by rw [hW2]; simp
  clear hW2
  have V2 := h.below hb2
  rw [← clr_zero s] at V2
  have hk0 : ∀ k, (Value.slice KA s.calls.length kc).ownBlock = some k → k < w.heap.size := fun k hk => (h.row.lt k hk).2
  have hxk := h.xk
  go_loopw [5] (fun iv wr => ∃ m : Nat, m ≤ 5 ∧ iv = .int .i64 ((m : Int) + 1) ∧ VmB wr x f (.slice KA s.calls.length kc) (s.clr m) ∧ Blk wr (w.heap.size + 1) 80 6 (recF i.imm s m) ∧ Kp (fun b => b = x ∨ b = w.heap.size + 1) W2 wr) (fun iv _ => 6 - (intOf iv).toNat)
  case atStart => exact ⟨0, by omega, rfl, V2.b, R2, Kp.refl _ _⟩
  case round =>
    clear R2
    obtain ⟨m, hm5, rfl, V, R, hkp⟩ := hrel
    by_cases hlt : m < 5
    · have hlt' : (m : Int) < 5 := by omega
      have c1 := V.regc (m + 1) (by omega)
      have e1 : (s.clr m).reg (m + 1) = s.reg (m + 1) := by simp only [Vm.clr]; rw [if_neg (by omega)]
      rw [e1] at c1
      have r1 := R.cell (1 + m) (by omega)
      have r2 := R.frozen (1 + m)
      clear e1
      have hx1 : x ≠ w.heap.size + 1 := by omega
      have hb10 : (m : Int) + 1 < 10 := by omega
      have hb11 : 0 ≤ (m : Int) + 1 := by omega
      go_upto_region 6 with fail
      obtain ⟨W5, hW5⟩ : ∃ W5, W5 = wr.setCell ⟨w.heap.size + 1, 1 + m, none⟩ (.int .u32 (s.reg (m + 1) : Int)) := ⟨_, rfl⟩
      have hk5 : Kp (fun b => b = w.heap.size + 1) wr W5 := by rw [hW5]; exact (Kp.refl (fun b => b = w.heap.size + 1) wr).setCell (p := ⟨w.heap.size + 1, 1 + m, none⟩) (.inl rfl) _
      have R5 : Blk W5 (w.heap.size + 1) 80 6 (recF i.imm s (m + 1)) := by rw [hW5]; exact Blk.congr (R.set (1 + m) _) (rec_succ i.imm s m)
      rw [← hW5]
      clear hW5
      have V5 := V.keep hk5 (fun e => hx1 e)
      have d1 := V5.setc (m + 1) (by omega)
      have d2 := V5.regc (m + 1) (by omega)
      have f1 := Blk.frozen V5 (5 + (m + 1))
      have f2 := Blk.frozen V5 (15 + (m + 1))
      refine wp_region_noPanic ?_
      refine plan (.rd 0 (.rd 1 (.rd 2 (.rd 3 (.rd 4 (.rd 5 (.rd 6 (.rd 8 (.rd 9 (.eff 7 (.rd 10 (.eff 11 .done)))))))))))) [0, 1, 2, 3, 4, 5, 6, 7, 8, 9, 10, 11] (fun W => True) (by kernel_rfl) (by kernel_rfl) (fun _ _ _ _ _ h => h) trivial ?_
      repeat (refine pl_pure rfl (fun K hK => ?_); go_simp; refine hK _ ?_; clear hK K)
      refine pl_eff rfl rfl (fun K hK => ?_)
      go_simp
      refine hK _ _ (fun _ => trivial) ?_
      clear hK K
      have h3 := (Blk.set V5 (5 + (m + 1)) (.bool false)).cell (15 + (m + 1)) (by omega)
      have f3 := Blk.frozen (Blk.set V5 (5 + (m + 1)) (.bool false)) (15 + (m + 1))
      repeat (refine pl_pure rfl (fun K hK => ?_); go_simp; refine hK _ ?_; clear hK K)
      refine pl_eff rfl rfl (fun K hK => ?_)
      go_simp
      refine hK _ _ (fun _ => trivial) ?_
      clear hK K
      refine pl_done ?_
      refine NoPanic.normal ?_
      go_wp2
      have hkF := (((Kp.refl (fun b => b = x) W5).setCell (p := ⟨x, 5 + (m + 1), none⟩) (.inl rfl) (.bool false)).setCell (p := ⟨x, 15 + (m + 1), none⟩) (.inl rfl) (.int .u32 0)).drew
      refine ⟨⟨m + 1, by omega, by simp, ?_, R5.keep hkF (fun e => hx1 e.symm), ((hkp.trans (hk5.mono (fun _ _ e => .inr e)) (fun _ _ h => h)).trans (hkF.mono (fun _ _ e => .inl e)) (fun _ _ h => h))⟩, by simp [intOf]; omega⟩
      exact Blk.congr (Blk.set (Blk.set V5 (5 + (m + 1)) (.bool false)) (15 + (m + 1)) (.int .u32 0)) (vm_clr f _ s m hlt)
    · have hlt' : ¬ (m : Int) < 5 := by omega
      obtain rfl : m = 5 := by omega
      have hx1 : x ≠ w.heap.size + 1 := by omega
      have P0 := put_zero0 V
      have hzr := hkp.size
      go_wp2_with fail
      (with_reducible refine P0.mono ?_)
      rintro e w3 ⟨rfl, V3, hk3⟩
      have R3 := R.keep hk3 (fun e => hx1 e.symm)
      have hz3 := hk3.size
      have c29 : w3.cell? ⟨x, 29, none⟩ = some (.slice KA s.calls.length kc) := Blk.cell V3 29 (by omega)
      have c3 : w3.cell? ⟨x, 3, none⟩ = some (.slice A ans.length ca) := by rw [← hA]; exact Blk.cell V3 3 (by omega)
      have hMv : ∀ k, VmM x (.slice KA s.calls.length kc) k → k < w.heap.size := fun k hk => by
        rcases hk with rfl | hk
        · exact hxl
        · exact hk0 k hk
      have hk03 : Kp (fun b => b = x) w w3 := ((Kp.of_below hb2 (fun b => b = x)).trans hkp (fun b hb e => by rcases e with e | e <;> omega)).trans hk3 (fun b hb e => e)
      by_cases hlc : s.calls.length < ans.length
      · have hlc' : (s.calls.length : Int) < ans.length := by omega
        obtain ⟨a, rfl, hoka, hal2, hca⟩ := hans.at_ (j := s.calls.length) (by omega)
        have hv : ans[s.calls.length] < 4294967296 := hav _ (List.getElem_mem hlc)
        have hcell := hca s.calls.length (.int .u32 (ans[s.calls.length] : Int)) (by simp [hlc])
        have hcell3 := hk03.cell hcell (by rw [add_block]; exact fun e => hok _ hoka (.inl e))
        obtain ⟨v, hve⟩ : ∃ v, v = ans[s.calls.length] := ⟨_, rfl⟩
        rw [← hve] at hcell3 hv
        have hvd : v = ans.getD s.calls.length 0 := by rw [hve]; simp [List.getD, hlc]
        have HVD := Lib.hid hvd; clear hvd hve hcell
        go_upto_region 10 with fail
        have P1 := put_zero V3 v
        go_wp2_with fail
        (with_reducible refine P1.mono ?_)
        rintro e w4 ⟨rfl, V4, hk4⟩
        have R4 := R3.keep hk4 (fun e => hx1 e.symm)
        have hk04 : Kp (fun b => b = x) w w4 := hk03.trans hk4 (fun b hb e => e)
        have hz4 := hk4.size
        go_upto_region 11 with fail
        have e29 : w4.cell? ⟨x, 29, none⟩ = some (.slice KA s.calls.length kc) := Blk.cell V4 29 (by omega)
        have hxw : x < w4.heap.size := Blk.lt V4
        have hrw : w.heap.size + 1 < w4.heap.size := Blk.lt R4
        have hrow4 : w4.ownsRow 0 80 6 (.slice KA s.calls.length kc) s.calls.length (callsV s.calls) := own_move h.row (fun k hk hlt => hk04.block k hlt (fun e => h.xk (by rw [hk, e])))
        have hKl : ∀ k, (Value.slice KA s.calls.length kc).ownBlock = some k → k < w.heap.size := hk0
        have hKx : ¬ (Value.slice KA s.calls.length kc).ownBlock = some x := h.xk
        have hKr : ¬ (Value.slice KA s.calls.length kc).ownBlock = some (w.heap.size + 1) := fun e => by have := hk0 _ e; omega
        have rr : ∀ j, j < 6 → w4.cell? ⟨w.heap.size + 1, j, none⟩ = some (recF i.imm s 5 j) := fun j hj => R4.cell j hj
        refine wp_region_noPanic ?_
        refine plan (.rd 0 (.rd 1 (.rd 2 (.rd 3 (.rd 4 (.rd 5 (.rd 6 (.eff 7 (.eff 8 (.eff 9 (.eff 10 (.eff 11 (.eff 12 .done))))))))))))) [0, 1, 2, 3, 4, 5, 6, 7, 8] (fun W => Kp (fun b => (Value.slice KA s.calls.length kc).ownBlock = some b) w4 W) (by kernel_rfl) (by kernel_rfl) (fun _ _ _ _ _ h => h) (Kp.refl _ _).drew ?_
        repeat (refine pl_pure rfl (fun K hK => ?_); go_simp; refine hK _ ?_; clear hK K)
        refine pl_rd (.slice KA s.calls.length kc) rfl rfl (fun W hS => ?_) (fun K hK => ?_)
        · have f0 := (hS.cell e29 hKx)
          simp [go_sem, f0]
        go_simp
        refine hK _ ?_
        clear hK K
        repeat (refine pl_pure rfl (fun K hK => ?_); go_simp; refine hK _ ?_; clear hK K)
        refine pl_rd (.agg #[.int .i64 (i.imm : Int), .int .u32 (s.reg 1 : Int), .int .u32 (s.reg 2 : Int), .int .u32 (s.reg 3 : Int), .int .u32 (s.reg 4 : Int), .int .u32 (s.reg 5 : Int)]) rfl rfl (fun W hS => ?_) (fun K hK => ?_)
        · have f0 := hS.cell (rr 0 (by omega)) hKr
          have f1 := hS.cell (rr 1 (by omega)) hKr
          have f2 := hS.cell (rr 2 (by omega)) hKr
          have f3 := hS.cell (rr 3 (by omega)) hKr
          have f4 := hS.cell (rr 4 (by omega)) hKr
          have f5 := hS.cell (rr 5 (by omega)) hKr
          simp [recF] at f0 f1 f2 f3 f4 f5
          simp [go_sem, f0, f1, f2, f3, f4, f5]
        go_simp
        refine hK _ ?_
        clear hK K
        obtain ⟨Y, hY⟩ : ∃ Y, Y = w4.alloc (.cells #[.int .i64 (i.imm : Int), .int .u32 (s.reg 1 : Int), .int .u32 (s.reg 2 : Int), .int .u32 (s.reg 3 : Int), .int .u32 (s.reg 4 : Int), .int .u32 (s.reg 5 : Int)] 80) := ⟨_, rfl⟩
        have hbY : Below w4.heap.size w4 Y := by rw [hY]; exact (Below.refl _ _).alloc (Nat.le_refl _) _
        have hsY : Sl Y Any 6 (some ⟨w4.heap.size, 0, none⟩) 1 1 (callCells ⟨i.imm, fun j => s.reg (j + 1)⟩) := by rw [hY]; exact Sl.lit w4 80 6 #[.int .i64 (i.imm : Int), .int .u32 (s.reg 1 : Int), .int .u32 (s.reg 2 : Int), .int .u32 (s.reg 3 : Int), .int .u32 (s.reg 4 : Int), .int .u32 (s.reg 5 : Int)] 1 (by simp [maxLen]) rfl
        have hrowY := own_move hrow4 (fun k _ hlt => hbY.block k hlt)
        refine pl_eff rfl rfl (fun K hK => ?_)
        go_simp
        rw [← hY]
        refine hK _ _ (fun _ => ((Kp.of_below hbY (fun b => (Value.slice KA s.calls.length kc).ownBlock = some b)).drew)) ?_
        clear hK K hY
        refine pl_eff rfl rfl (fun K hK => ?_)
        refine wp_append_sl Y.drew (.tmp 64) (.tmp 66) 31 rfl 0 80 _ 6 32 Try.underlying31 info_call rfl (by omega) (by omega) (.slice KA s.calls.length kc) s.calls.length (callsV s.calls) rfl hrowY.drew (some ⟨w4.heap.size, 0, none⟩) 1 1 (callCells ⟨i.imm, fun j => s.reg (j + 1)⟩) rfl hsY.drew (by intro u hu; simp [callCells] at hu; rcases hu with rfl | rfl | rfl | rfl | rfl | rfl <;> rfl) (by omega) (by omega) ?_
        intro v7 w6 hown6 hg6 hat6
        obtain ⟨KB, kb, rfl⟩ := own_shape hown6
        have hkY : Kp (fun b => (Value.slice KA s.calls.length kc).ownBlock = some b) Y.drew w6 := (Kp.refl _ Y.drew).grown hg6 (fun k hk => .inl hk)
        have hkW : Kp (fun b => (Value.slice KA s.calls.length kc).ownBlock = some b) w4 w6 := (Kp.of_below hbY.drew _).trans hkY (fun _ _ e => e)
        have V6 := V4.keep hkW hKx
        refine hK _ _ (fun _ => hkW) ?_
        clear hK K
        have c6 : w6.cell? ⟨x, 29, none⟩ = some (.slice KA s.calls.length kc) := Blk.cell V6 29 (by omega)
        have f6 := Blk.frozen V6 29
        iterate 3 (refine pl_eff rfl rfl (fun K hK => ?_); go_simp; refine hK _ _ (fun h => by cases h) ?_; clear hK K)
        refine pl_eff rfl rfl (fun K hK => ?_)
        go_simp
        refine hK _ _ (fun h => by cases h) ?_
        clear hK K
        refine pl_done ?_
        refine NoPanic.normal ?_
        go_wp2
        go_end0
        have hzW : w4.heap.size ≤ w6.heap.size := hkW.size
        have hown6 : w6.ownsRow 0 80 6 (.slice KB (s.calls.length + 1) kb) (s.calls.length + 1) (callsV (s.calls ++ [⟨i.imm, fun j => s.reg (j + 1)⟩])) := by rw [callsV_snoc]; exact hown6
        have hv6 : ∀ k, (Value.slice KB (s.calls.length + 1) kb).ownBlock = some k → (Value.slice KA s.calls.length kc).ownBlock = some k ∨ w4.heap.size ≤ k := fun k hk => by
          rcases hat6 with e | e
          · exact .inl (by rw [← e]; exact hk)
          · rw [e] at hk
            have : Y.drew.heap.size = k := by injection hk
            have h2 : w4.heap.size ≤ Y.drew.heap.size := hbY.size
            omega
        have hkF : Kp (fun b => b = x) w6 (w6.setCell ⟨x, 29, none⟩ (.slice KB (s.calls.length + 1) kb)) := (Kp.refl (fun b => b = x) w6).setCell (p := ⟨x, 29, none⟩) (.inl rfl) (.slice KB (s.calls.length + 1) kb)
        have hzw : w.heap.size ≤ w4.heap.size := hk04.size
        have hxv : (Value.slice KB (s.calls.length + 1) kb).ownBlock ≠ some x := fun e => by
          rcases hv6 x e with e1 | e1
          · exact hKx e1
          · omega
        refine ⟨rfl, (.slice KB (s.calls.length + 1) kb), ⟨?_, ?_, hxv⟩, ?_, fun k hk => (hv6 k hk).imp id (fun e => by omega)⟩
        · have E := call_fin s i.imm v ans HVD.out
          exact Blk.congr (Blk.set V6 29 (.slice KB (s.calls.length + 1) kb)) (vm_K f _ (.slice KB (s.calls.length + 1) kb) _ (s.call i.imm ans) rfl E.1 E.2 ⟨rfl, rfl, rfl, rfl⟩ rfl)
        · have hlen : (s.call i.imm ans).calls.length = s.calls.length + 1 := by simp [Vm.call]
          rw [hlen]
          exact own_move hown6 (fun k hk hlt => hkF.block k hlt (fun e => by subst e; exact hxv hk))
        · exact ((hk04.mono (fun _ _ e => .inl e)).trans (hkW.mono (fun _ _ e => .inr e)) (fun _ _ e => e)).trans (hkF.mono (fun _ _ e => .inl e)) (fun _ _ e => e)
      · have hlc' : ¬ (s.calls.length : Int) < ans.length := by omega
        have V3p : VmB w3 x f (.slice KA s.calls.length kc) (((s.clr 5).put 0 0).put 0 0) := by rw [put_put]; exact V3
        go_upto_region 11 with fail
        have e29 : w3.cell? ⟨x, 29, none⟩ = some (.slice KA s.calls.length kc) := Blk.cell V3p 29 (by omega)
        have hxw : x < w3.heap.size := Blk.lt V3p
        have hrw : w.heap.size + 1 < w3.heap.size := Blk.lt R3
        have hrow3 : w3.ownsRow 0 80 6 (.slice KA s.calls.length kc) s.calls.length (callsV s.calls) := own_move h.row (fun k hk hlt => hk03.block k hlt (fun e => h.xk (by rw [hk, e])))
        have hKl : ∀ k, (Value.slice KA s.calls.length kc).ownBlock = some k → k < w.heap.size := hk0
        have hKx : ¬ (Value.slice KA s.calls.length kc).ownBlock = some x := h.xk
        have hKr : ¬ (Value.slice KA s.calls.length kc).ownBlock = some (w.heap.size + 1) := fun e => by have := hk0 _ e; omega
        have rr : ∀ j, j < 6 → w3.cell? ⟨w.heap.size + 1, j, none⟩ = some (recF i.imm s 5 j) := fun j hj => R3.cell j hj
        refine wp_region_noPanic ?_
        refine plan (.rd 0 (.rd 1 (.rd 2 (.rd 3 (.rd 4 (.rd 5 (.rd 6 (.eff 7 (.eff 8 (.eff 9 (.eff 10 (.eff 11 (.eff 12 .done))))))))))))) [0, 1, 2, 3, 4, 5, 6, 7, 8] (fun W => Kp (fun b => (Value.slice KA s.calls.length kc).ownBlock = some b) w3 W) (by kernel_rfl) (by kernel_rfl) (fun _ _ _ _ _ h => h) (Kp.refl _ _).drew ?_
        repeat (refine pl_pure rfl (fun K hK => ?_); go_simp; refine hK _ ?_; clear hK K)
        refine pl_rd (.slice KA s.calls.length kc) rfl rfl (fun W hS => ?_) (fun K hK => ?_)
        · have f0 := (hS.cell e29 hKx)
          simp [go_sem, f0]
        go_simp
        refine hK _ ?_
        clear hK K
        repeat (refine pl_pure rfl (fun K hK => ?_); go_simp; refine hK _ ?_; clear hK K)
        refine pl_rd (.agg #[.int .i64 (i.imm : Int), .int .u32 (s.reg 1 : Int), .int .u32 (s.reg 2 : Int), .int .u32 (s.reg 3 : Int), .int .u32 (s.reg 4 : Int), .int .u32 (s.reg 5 : Int)]) rfl rfl (fun W hS => ?_) (fun K hK => ?_)
        · have f0 := hS.cell (rr 0 (by omega)) hKr
          have f1 := hS.cell (rr 1 (by omega)) hKr
          have f2 := hS.cell (rr 2 (by omega)) hKr
          have f3 := hS.cell (rr 3 (by omega)) hKr
          have f4 := hS.cell (rr 4 (by omega)) hKr
          have f5 := hS.cell (rr 5 (by omega)) hKr
          simp [recF] at f0 f1 f2 f3 f4 f5
          simp [go_sem, f0, f1, f2, f3, f4, f5]
        go_simp
        refine hK _ ?_
        clear hK K
        obtain ⟨Y, hY⟩ : ∃ Y, Y = w3.alloc (.cells #[.int .i64 (i.imm : Int), .int .u32 (s.reg 1 : Int), .int .u32 (s.reg 2 : Int), .int .u32 (s.reg 3 : Int), .int .u32 (s.reg 4 : Int), .int .u32 (s.reg 5 : Int)] 80) := ⟨_, rfl⟩
        have hbY : Below w3.heap.size w3 Y := by rw [hY]; exact (Below.refl _ _).alloc (Nat.le_refl _) _
        have hsY : Sl Y Any 6 (some ⟨w3.heap.size, 0, none⟩) 1 1 (callCells ⟨i.imm, fun j => s.reg (j + 1)⟩) := by rw [hY]; exact Sl.lit w3 80 6 #[.int .i64 (i.imm : Int), .int .u32 (s.reg 1 : Int), .int .u32 (s.reg 2 : Int), .int .u32 (s.reg 3 : Int), .int .u32 (s.reg 4 : Int), .int .u32 (s.reg 5 : Int)] 1 (by simp [maxLen]) rfl
        have hrowY := own_move hrow3 (fun k _ hlt => hbY.block k hlt)
        refine pl_eff rfl rfl (fun K hK => ?_)
        go_simp
        rw [← hY]
        refine hK _ _ (fun _ => ((Kp.of_below hbY (fun b => (Value.slice KA s.calls.length kc).ownBlock = some b)).drew)) ?_
        clear hK K hY
        refine pl_eff rfl rfl (fun K hK => ?_)
        refine wp_append_sl Y.drew (.tmp 64) (.tmp 66) 31 rfl 0 80 _ 6 32 Try.underlying31 info_call rfl (by omega) (by omega) (.slice KA s.calls.length kc) s.calls.length (callsV s.calls) rfl hrowY.drew (some ⟨w3.heap.size, 0, none⟩) 1 1 (callCells ⟨i.imm, fun j => s.reg (j + 1)⟩) rfl hsY.drew (by intro u hu; simp [callCells] at hu; rcases hu with rfl | rfl | rfl | rfl | rfl | rfl <;> rfl) (by omega) (by omega) ?_
        intro v7 w6 hown6 hg6 hat6
        obtain ⟨KB, kb, rfl⟩ := own_shape hown6
        have hkY : Kp (fun b => (Value.slice KA s.calls.length kc).ownBlock = some b) Y.drew w6 := (Kp.refl _ Y.drew).grown hg6 (fun k hk => .inl hk)
        have hkW : Kp (fun b => (Value.slice KA s.calls.length kc).ownBlock = some b) w3 w6 := (Kp.of_below hbY.drew _).trans hkY (fun _ _ e => e)
        have V6 := V3p.keep hkW hKx
        refine hK _ _ (fun _ => hkW) ?_
        clear hK K
        have c6 : w6.cell? ⟨x, 29, none⟩ = some (.slice KA s.calls.length kc) := Blk.cell V6 29 (by omega)
        have f6 := Blk.frozen V6 29
        iterate 3 (refine pl_eff rfl rfl (fun K hK => ?_); go_simp; refine hK _ _ (fun h => by cases h) ?_; clear hK K)
        refine pl_eff rfl rfl (fun K hK => ?_)
        go_simp
        refine hK _ _ (fun h => by cases h) ?_
        clear hK K
        refine pl_done ?_
        refine NoPanic.normal ?_
        go_wp2
        go_end0
        have hzW : w3.heap.size ≤ w6.heap.size := hkW.size
        have hown6 : w6.ownsRow 0 80 6 (.slice KB (s.calls.length + 1) kb) (s.calls.length + 1) (callsV (s.calls ++ [⟨i.imm, fun j => s.reg (j + 1)⟩])) := by rw [callsV_snoc]; exact hown6
        have hv6 : ∀ k, (Value.slice KB (s.calls.length + 1) kb).ownBlock = some k → (Value.slice KA s.calls.length kc).ownBlock = some k ∨ w3.heap.size ≤ k := fun k hk => by
          rcases hat6 with e | e
          · exact .inl (by rw [← e]; exact hk)
          · rw [e] at hk
            have : Y.drew.heap.size = k := by injection hk
            have h2 : w3.heap.size ≤ Y.drew.heap.size := hbY.size
            omega
        have hkF : Kp (fun b => b = x) w6 (w6.setCell ⟨x, 29, none⟩ (.slice KB (s.calls.length + 1) kb)) := (Kp.refl (fun b => b = x) w6).setCell (p := ⟨x, 29, none⟩) (.inl rfl) (.slice KB (s.calls.length + 1) kb)
        have hzw : w.heap.size ≤ w3.heap.size := hk03.size
        have hxv : (Value.slice KB (s.calls.length + 1) kb).ownBlock ≠ some x := fun e => by
          rcases hv6 x e with e1 | e1
          · exact hKx e1
          · omega
        refine ⟨rfl, (.slice KB (s.calls.length + 1) kb), ⟨?_, ?_, hxv⟩, ?_, fun k hk => (hv6 k hk).imp id (fun e => by omega)⟩
        · have E := call_fin s i.imm 0 ans (by simp [List.getD, List.getElem?_eq_none (Nat.not_lt.1 hlc)])
          exact Blk.congr (Blk.set V6 29 (.slice KB (s.calls.length + 1) kb)) (vm_K f _ (.slice KB (s.calls.length + 1) kb) _ (s.call i.imm ans) rfl E.1 E.2 ⟨rfl, rfl, rfl, rfl⟩ rfl)
        · have hlen : (s.call i.imm ans).calls.length = s.calls.length + 1 := by simp [Vm.call]
          rw [hlen]
          exact own_move hown6 (fun k hk hlt => hkF.block k hlt (fun e => by subst e; exact hxv hk))
        · exact ((hk03.mono (fun _ _ e => .inl e)).trans (hkW.mono (fun _ _ e => .inr e)) (fun _ _ e => e)).trans (hkF.mono (fun _ _ e => .inl e)) (fun _ _ e => e)
end Go.Proofs.Ytpnkbpjhbmacaaa
