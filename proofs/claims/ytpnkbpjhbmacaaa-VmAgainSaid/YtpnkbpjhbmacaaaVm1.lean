/- The VM: a run in memory, its registers. -/
import Derived.Test.YtpnkbpjhbmacaaaPlan
import Derived.WalkLawsBesides
import Derived.Deep.CutRange
set_option linter.unusedVariables false
set_option linter.unusedSimpArgs false
namespace Go.Proofs.Ytpnkbpjhbmacaaa
open Go.RowKit

/-! ### a block, cell by cell -/
/-- Block g of type t: N cells, which F tells. -/
def Blk (w : World) (g : Nat) (t : TypeId) (N : Nat) (F : Nat → Value) : Prop := ∃ cs : Array Value, w.heap[g]? = some (.cells cs t (0, 0)) ∧ cs.size = N ∧ ∀ j, j < N → cs[j]? = some (F j)
theorem Blk.lt {w : World} {g : Nat} {t : TypeId} {N : Nat} {F : Nat → Value} (h : Blk w g t N F) : g < w.heap.size := by
  obtain ⟨cs, h, _⟩ := h
  exact (Array.getElem?_eq_some_iff.1 h).1
theorem Blk.cell {w : World} {g : Nat} {t : TypeId} {N : Nat} {F : Nat → Value} (h : Blk w g t N F) (j : Nat) (hj : j < N) : w.cell? ⟨g, j, none⟩ = some (F j) := by
  obtain ⟨cs, h, _, hF⟩ := h
  rw [cell_of_row w g j cs t _ h]
  exact hF j hj
theorem Blk.frozen {w : World} {g : Nat} {t : TypeId} {N : Nat} {F : Nat → Value} (h : Blk w g t N F) (j : Nat) : w.frozen? ⟨g, j, none⟩ = false := by
  obtain ⟨cs, h, _, hF⟩ := h
  exact frozen_of_row w g j cs t h
theorem Blk.keep {M : Nat → Prop} {w w1 : World} {g : Nat} {t : TypeId} {N : Nat} {F : Nat → Value} (h : Blk w g t N F) (hk : Kp M w w1) (hM : ¬ M g) : Blk w1 g t N F := by
  have hl := h.lt
  obtain ⟨cs, h, r⟩ := h
  exact ⟨cs, (hk.block g hl hM).trans h, r⟩
theorem Blk.below {w w1 : World} {g : Nat} {t : TypeId} {N : Nat} {F : Nat → Value} (h : Blk w g t N F) (hb : Below w.heap.size w w1) : Blk w1 g t N F := h.keep (Kp.of_below hb No) (fun h => h)
theorem Blk.congr {w : World} {g : Nat} {t : TypeId} {N : Nat} {F G : Nat → Value} (h : Blk w g t N F) (hFG : ∀ j, j < N → F j = G j) : Blk w g t N G := by
  obtain ⟨cs, h, hs, hF⟩ := h
  exact ⟨cs, h, hs, fun j hj => by rw [← hFG j hj]; exact hF j hj⟩
theorem Blk.set {w : World} {g : Nat} {t : TypeId} {N : Nat} {F : Nat → Value} (h : Blk w g t N F) (k : Nat) (v : Value) : Blk (w.setCell ⟨g, k, none⟩ v) g t N (fun j => if j = k then v else F j) := by
  obtain ⟨cs, h, hs, hF⟩ := h
  refine ⟨_, heap_setCell_same w g k cs t v h, by simp [hs], fun j hj => ?_⟩
  show _ = some (if j = k then v else F j)
  by_cases e : j = k
  · subst e
    simp [hs, hj]
  · rw [if_neg e, Array.getElem?_setIfInBounds_ne (by omega)]
    exact hF j hj
theorem Blk.new (w : World) (t : TypeId) (cs : Array Value) (N : Nat) (hN : cs.size = N) (F : Nat → Value) (hF : ∀ j, j < N → cs[j]? = some (F j)) : Blk (w.alloc (.cells cs t)) w.heap.size t N F := ⟨cs, heap_alloc_new _ _, hN, hF⟩

/-! ### a run -/
structure CallR where
  helper : Nat
  arg : Nat → Nat
structure Vm where
  at_ : Nat
  set : Nat → Bool
  reg : Nat → Nat
  steps : Nat
  fault : Nat
  oat : Nat
  val : Nat
  calls : List CallR
  scr : Nat → Nat
def upd {α : Type} (f : Nat → α) (n : Nat) (v : α) : Nat → α := fun i => if i = n then v else f i
def Vm.put (s : Vm) (n v : Nat) : Vm := { s with set := upd s.set n true, reg := upd s.reg n v }
/-- What the blocks of a run hold that no step turns. -/
structure Fx where
  ctx : Nat
  I : Value
  C : Value
  A : Value
  T : Value
def vmF (f : Fx) (K : Value) (s : Vm) (j : Nat) : Value :=
  if j = 0 then .int .i64 (f.ctx : Int) else if j = 1 then f.I else if j = 2 then f.C else if j = 3 then f.A else if j = 4 then .int .i64 (s.at_ : Int)
  else if j < 15 then .bool (s.set (j - 5)) else if j < 25 then .int .u32 (s.reg (j - 15) : Int) else if j = 25 then .int .i64 (s.steps : Int) else if j = 26 then .int .i64 (s.fault : Int)
  else if j = 27 then .int .i64 (s.oat : Int) else if j = 28 then .int .u32 (s.val : Int) else if j = 29 then K else if j < 94 then .int .u8 (s.scr (j - 30) : Int) else f.T
def VmB (w : World) (x : Nat) (f : Fx) (K : Value) (s : Vm) : Prop := Blk w x 95 95 (vmF f K s)
theorem VmB.lt {w : World} {x : Nat} {f : Fx} {K : Value} {s : Vm} (h : VmB w x f K s) : x < w.heap.size := Blk.lt h
theorem VmB.keep {M : Nat → Prop} {w w1 : World} {x : Nat} {f : Fx} {K : Value} {s : Vm} (h : VmB w x f K s) (hk : Kp M w w1) (hM : ¬ M x) : VmB w1 x f K s := Blk.keep h hk hM
theorem VmB.below {w w1 : World} {x : Nat} {f : Fx} {K : Value} {s : Vm} (h : VmB w x f K s) (hb : Below w.heap.size w w1) : VmB w1 x f K s := Blk.below h hb
theorem VmB.setc {w : World} {x : Nat} {f : Fx} {K : Value} {s : Vm} (h : VmB w x f K s) (n : Nat) (hn : n < 10) : w.cell? ⟨x, 5 + n, none⟩ = some (.bool (s.set n)) := by
  rw [Blk.cell h (5 + n) (by omega)]
  simp only [vmF]
  rw [if_neg (by omega), if_neg (by omega), if_neg (by omega), if_neg (by omega), if_neg (by omega), if_pos (by omega), Nat.add_sub_cancel_left]
theorem VmB.regc {w : World} {x : Nat} {f : Fx} {K : Value} {s : Vm} (h : VmB w x f K s) (n : Nat) (hn : n < 10) : w.cell? ⟨x, 15 + n, none⟩ = some (.int .u32 (s.reg n : Int)) := by
  rw [Blk.cell h (15 + n) (by omega)]
  simp only [vmF]
  rw [if_neg (by omega), if_neg (by omega), if_neg (by omega), if_neg (by omega), if_neg (by omega), if_neg (by omega), if_pos (by omega), Nat.add_sub_cancel_left]
theorem VmB.scrc {w : World} {x : Nat} {f : Fx} {K : Value} {s : Vm} (h : VmB w x f K s) (n : Nat) (hn : n < 64) : w.cell? ⟨x, 30 + n, none⟩ = some (.int .u8 (s.scr n : Int)) := by
  rw [Blk.cell h (30 + n) (by omega)]
  simp only [vmF]
  rw [if_neg (by omega), if_neg (by omega), if_neg (by omega), if_neg (by omega), if_neg (by omega), if_neg (by omega), if_neg (by omega), if_neg (by omega), if_neg (by omega), if_neg (by omega), if_neg (by omega), if_neg (by omega), if_pos (by omega), Nat.add_sub_cancel_left]
theorem vm_put (f : Fx) (K : Value) (s : Vm) (n v : Nat) (hn : n < 10) : ∀ j, j < 95 → (if j = 15 + n then Value.int .u32 (v : Int) else if j = 5 + n then Value.bool true else vmF f K s j) = vmF f K (s.put n v) j := by
  intro j hj
  by_cases h1 : j = 15 + n
  · subst h1
    rw [if_pos rfl]
    simp only [vmF, Vm.put, upd]
    rw [if_neg (by omega), if_neg (by omega), if_neg (by omega), if_neg (by omega), if_neg (by omega), if_neg (by omega), if_pos (by omega), Nat.add_sub_cancel_left, if_pos rfl]
  · rw [if_neg h1]
    by_cases h2 : j = 5 + n
    · subst h2
      rw [if_pos rfl]
      simp only [vmF, Vm.put, upd]
      rw [if_neg (by omega), if_neg (by omega), if_neg (by omega), if_neg (by omega), if_neg (by omega), if_pos (by omega), Nat.add_sub_cancel_left, if_pos rfl]
    · rw [if_neg h2]
      have e1 : 5 ≤ j → j < 15 → upd s.set n true (j - 5) = s.set (j - 5) := fun a b => by simp only [upd]; rw [if_neg (by omega)]
      have e2 : 15 ≤ j → j < 25 → upd s.reg n v (j - 15) = s.reg (j - 15) := fun a b => by simp only [upd]; rw [if_neg (by omega)]
      simp only [vmF, Vm.put]
      by_cases h6 : 5 ≤ j
      · have a0 : ¬ j = 0 := by omega
        have a1 : ¬ j = 1 := by omega
        have a2 : ¬ j = 2 := by omega
        have a3 : ¬ j = 3 := by omega
        have a4 : ¬ j = 4 := by omega
        simp only [if_neg a0, if_neg a1, if_neg a2, if_neg a3, if_neg a4]
        by_cases h5 : j < 15
        · simp only [if_pos h5, e1 h6 h5]
        · by_cases h7 : j < 25
          · simp only [if_neg h5, if_pos h7, e2 (by omega) h7]
          · simp only [if_neg h5, if_neg h7]
      · have h7 : j = 0 ∨ j = 1 ∨ j = 2 ∨ j = 3 ∨ j = 4 := by omega
        rcases h7 with rfl | rfl | rfl | rfl | rfl <;> rfl

/-- The panic of a fault. -/
def stopP (why : Int) : List PanicEntry := [{ v := .iface 109 (.agg #[.int .i64 why]), recovered := false }]
theorem must_ok (w : World) (y : Int) : Calls Try.prog 43 #[.bool true, .int .i64 y] w fun e w' => e = .returned (.tuple #[]) ∧ w = w' := by
  go_enter Try.func43, Try.ntmps43
  go_wp2
  go_end0
  exact ⟨rfl, rfl⟩
theorem must_not (w : World) (y : Int) : Calls Try.prog 43 #[.bool false, .int .i64 y] w fun e w' => e = .panicked (stopP y) ∧ w = w' := by
  go_enter Try.func43, Try.ntmps43
  go_wp2
  exact ⟨rfl, rfl, rfl⟩

theorem get_ok {w : World} {x : Nat} {f : Fx} {K : Value} {s : Vm} (h : VmB w x f K s) (n : Nat) (hn : n < 10) (hs : s.set n = true) :
    Calls Try.prog 59 #[.pointer (some ⟨x, 0, none⟩), .int .i64 (n : Int)] w fun e w' => e = .returned (.int .u32 (s.reg n : Int)) ∧ w = w' := by
  have hn' : (n : Int) < 10 := by omega
  have h1 := h.setc n hn
  have h2 := h.regc n hn
  rw [hs] at h1
  go_enter Try.func59, Try.ntmps59
  go_wp2_with (go_at_call 43; refine (must_ok _ _).mono ?_; rintro e w' ⟨rfl, rfl⟩)
  go_ret
  exact ⟨rfl, rfl⟩
theorem get_not {w : World} {x : Nat} {f : Fx} {K : Value} {s : Vm} (h : VmB w x f K s) (n : Nat) (hn : n < 10) (hs : s.set n = false) :
    Calls Try.prog 59 #[.pointer (some ⟨x, 0, none⟩), .int .i64 (n : Int)] w fun e w' => e = .panicked (stopP 2) ∧ w = w' := by
  have hn' : (n : Int) < 10 := by omega
  have h1 := h.setc n hn
  rw [hs] at h1
  go_enter Try.func59, Try.ntmps59
  go_wp2_with (go_at_call 43; refine (must_not _ _).mono ?_; rintro e w' ⟨rfl, rfl⟩)
  exact ⟨rfl, rfl, rfl⟩

set_option maxHeartbeats 1000000 in
theorem put_ok {w : World} {x : Nat} {f : Fx} {K : Value} {s : Vm} (h : VmB w x f K s) (n v : Nat) (hn : n < 10) :
    Calls Try.prog 57 #[.pointer (some ⟨x, 0, none⟩), .int .i64 (n : Int), .int .u32 (v : Int)] w fun e w' => e = .returned (.tuple #[]) ∧ VmB w' x f K (s.put n v) ∧ Kp (fun b => b = x) w w' := by
  have hn' : (n : Int) < 10 := by omega
  have h1 := h.setc n hn
  have h2 := h.regc n hn
  have f1 := Blk.frozen h (5 + n)
  have f2 := Blk.frozen h (15 + n)
  go_enter Try.func57, Try.ntmps57
  refine wp_region_noPanic ?_
  refine plan (.rd 0 (.rd 1 (.rd 2 (.rd 3 (.rd 4 (.rd 5 (.rd 6 (.rd 7 (.rd 9 (.rd 10 (.eff 8 (.rd 11 (.eff 12 .done))))))))))))) [0, 1, 2, 3, 4, 5, 6, 7, 8, 9, 10, 11, 12] (fun W => True) (by kernel_rfl) (by kernel_rfl) (fun _ _ _ _ _ h => h) trivial ?_
  repeat (refine pl_pure rfl (fun K hK => ?_); go_simp; refine hK _ ?_; clear hK K)
  refine pl_eff rfl rfl (fun K hK => ?_)
  go_simp
  refine hK _ _ (fun _ => trivial) ?_
  clear hK K
  have h3 := (Blk.set h (5 + n) (.bool true)).cell (15 + n) (by omega)
  have f3 := Blk.frozen (Blk.set h (5 + n) (.bool true)) (15 + n)
  repeat (refine pl_pure rfl (fun K hK => ?_); go_simp; refine hK _ ?_; clear hK K)
  refine pl_eff rfl rfl (fun K hK => ?_)
  go_simp
  refine hK _ _ (fun _ => trivial) ?_
  clear hK K
  refine pl_done ?_
  refine NoPanic.normal ?_
  go_wp2
  go_end0
  refine ⟨rfl, ?_, ((((Kp.refl (fun b => b = x) w).setCell (p := ⟨x, 5 + n, none⟩) (.inl rfl) _).setCell (p := ⟨x, 15 + n, none⟩) (.inl rfl) _)).drew⟩
  exact Blk.congr (Blk.set (Blk.set h (5 + n) (.bool true)) (15 + n) (.int .u32 (v : Int))) (vm_put f K s n v hn)
end Go.Proofs.Ytpnkbpjhbmacaaa
