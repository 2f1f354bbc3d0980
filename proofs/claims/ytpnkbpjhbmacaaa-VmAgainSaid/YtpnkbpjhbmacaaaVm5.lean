/- The VM: an instruction. -/
import Derived.Test.YtpnkbpjhbmacaaaVm4
set_option linter.unusedVariables false
set_option linter.unusedSimpArgs false
namespace Go.Proofs.Ytpnkbpjhbmacaaa
open Go.RowKit

/-- What becomes of an instruction. -/
inductive Res where
  | go : Vm → Int → Bool → Res
  | stop : Nat → Res
def InsB (w : World) (g : Nat) (i : Ins8) : Prop := w.heap[g]? = some (.cells #[.int .i64 (i.op : Int), .int .i64 (i.dst : Int), .int .i64 (i.src : Int), .int .i64 i.off, .int .u32 (i.imm : Int)] 50 (0, 0))
theorem InsB.cells {w : World} {g : Nat} {i : Ins8} (h : InsB w g i) : w.cell? ⟨g, 0, none⟩ = some (.int .i64 (i.op : Int)) ∧ w.cell? ⟨g, 1, none⟩ = some (.int .i64 (i.dst : Int)) ∧ w.cell? ⟨g, 2, none⟩ = some (.int .i64 (i.src : Int)) ∧ w.cell? ⟨g, 3, none⟩ = some (.int .i64 i.off) ∧ w.cell? ⟨g, 4, none⟩ = some (.int .u32 (i.imm : Int)) := by
  have hb : w.heap[g]? = _ := h
  refine ⟨?_, ?_, ?_, ?_, ?_⟩ <;> rw [cell_of_row w g _ _ _ _ hb] <;> rfl
theorem InsB.lt {w : World} {g : Nat} {i : Ins8} (h : InsB w g i) : g < w.heap.size := (Array.getElem?_eq_some_iff.1 h).1
theorem InsB.keep {M : Nat → Prop} {w w1 : World} {g : Nat} {i : Ins8} (h : InsB w g i) (hk : Kp M w w1) (hM : ¬ M g) : InsB w1 g i := (hk.block g h.lt hM).trans h
theorem InsB.new (w : World) (i : Ins8) : InsB (w.alloc (.cells #[.int .i64 (i.op : Int), .int .i64 (i.dst : Int), .int .i64 (i.src : Int), .int .i64 i.off, .int .u32 (i.imm : Int)] 50)) w.heap.size i := heap_alloc_new _ _

/-- What every world of an instruction tells alike. -/
structure SW (x g : Nat) (f : Fx) (i : Ins8) (scr : Nat → Nat) (okc : Nat → Prop) (CA : Option Addr) (cc : Nat) (ctx : List UInt8) (W : World) : Prop where
  vm : ∃ K s, VmB W x f K s ∧ s.scr = scr
  ins : InsB W g i
  cx : By W okc CA ctx.length cc ctx
theorem SW.keep {x g : Nat} {f : Fx} {i : Ins8} {scr : Nat → Nat} {okc : Nat → Prop} {CA : Option Addr} {cc : Nat} {ctx : List UInt8} {W W1 : World} {K : Value} {s : Vm} (h : SW x g f i scr okc CA cc ctx W) (hk : Kp (fun b => b = x) W W1) (hx : x ≠ g) (ho : ∀ k, okc k → k ≠ x) (hv : VmB W1 x f K s) (hs : s.scr = scr) : SW x g f i scr okc CA cc ctx W1 :=
  ⟨⟨K, s, hv, hs⟩, h.ins.keep hk (fun e => hx e.symm), Sl.move h.cx (Mv.of_kp hk (fun k _ h e => ho k h e))⟩

/-- What is asked of a state. -/
structure VmOk (s : Vm) : Prop where
  reg : ∀ n, s.reg n < 4294967296
  scr : ∀ n, s.scr n < 256

def GoPost (w : World) (x : Nat) (f : Fx) (K : Value) (s' : Vm) (more : Int) (fin : Bool) (e : Ending) (w' : World) : Prop :=
  e = .returned (.tuple #[.int .i64 more, .bool fin]) ∧ ∃ K', VmS w' x f K' s' ∧ Kp (VmM x K) w w' ∧ (∀ k, K'.ownBlock = some k → K.ownBlock = some k ∨ w.heap.size ≤ k)
def StopPost (w : World) (x : Nat) (f : Fx) (K : Value) (s : Vm) (why : Nat) (e : Ending) (w' : World) : Prop :=
  e = .panicked (stopP (why : Int)) ∧ Below w.heap.size w w'
def DoesPost (w : World) (x : Nat) (f : Fx) (K : Value) (s : Vm) : Res → Ending → World → Prop
  | .go s' more fin => GoPost w x f K s' more fin
  | .stop why => StopPost w x f K s why

def ldcRes (s : Vm) (i : Ins8) (ctx : List UInt8) : Res :=
  if s.set i.src then (if 0 ≤ (s.reg i.src : Int) + i.off ∧ (s.reg i.src : Int) + i.off < ctx.length then .go (s.put i.dst (ctx.getD ((s.reg i.src : Int) + i.off).toNat 0).toNat) 0 false else .stop 4) else .stop 2

theorem VmS.put {w w1 : World} {x : Nat} {f : Fx} {K : Value} {s : Vm} (h : VmS w x f K s) {n v : Nat} (hb : VmB w1 x f K (s.put n v)) (hk : Kp (fun b => b = x) w w1) : VmS w1 x f K (s.put n v) :=
  ⟨hb, own_move h.row (fun k hk' hlt => hk.block k hlt (fun e => h.xk (by rw [hk', e]))), h.xk⟩

theorem place64_ok (w : World) (b : Nat) (off : Int) (hb : b < 4294967296) (ho : -32768 ≤ off ∧ off ≤ 32767) (h : 0 ≤ (b : Int) + off ∧ (b : Int) + off < 64) :
    Calls Try.prog 58 #[.int .u32 (b : Int), .int .i64 off, .int .i64 64] w fun e w' => e = .returned (.int .i64 ((b : Int) + off)) ∧ w = w' := place_ok w b off 64 hb ho (by omega) h
theorem place64_not (w : World) (b : Nat) (off : Int) (hb : b < 4294967296) (ho : -32768 ≤ off ∧ off ≤ 32767) (h : ¬ (0 ≤ (b : Int) + off ∧ (b : Int) + off < 64)) :
    Calls Try.prog 58 #[.int .u32 (b : Int), .int .i64 off, .int .i64 64] w fun e w' => e = .panicked (stopP 4) ∧ w = w' := place_not w b off 64 hb ho (by omega) h
def ldsRes (s : Vm) (i : Ins8) : Res :=
  if s.set i.src then (if 0 ≤ (s.reg i.src : Int) + i.off ∧ (s.reg i.src : Int) + i.off < 64 then .go (s.put i.dst (s.scr ((s.reg i.src : Int) + i.off).toNat)) 0 false else .stop 4) else .stop 2
def Vm.poke (s : Vm) (n v : Nat) : Vm := { s with scr := upd s.scr n v }
theorem SW.drew {x g : Nat} {f : Fx} {i : Ins8} {scr : Nat → Nat} {okc : Nat → Prop} {CA : Option Addr} {cc : Nat} {ctx : List UInt8} {W : World} (h : SW x g f i scr okc CA cc ctx W) : SW x g f i scr okc CA cc ctx W.drew := ⟨h.vm, h.ins, h.cx⟩
theorem SW.turn {x g : Nat} {f : Fx} {i : Ins8} {scr : Nat → Nat} {okc : Nat → Prop} {CA : Option Addr} {cc : Nat} {ctx : List UInt8} {W W1 : World} {K : Value} {s : Vm} (h : SW x g f i scr okc CA cc ctx W) (hk : Kp (fun b => b = x) W W1) (hx : x ≠ g) (ho : ∀ k, okc k → k ≠ x) (hv : VmB W1 x f K s) : SW x g f i s.scr okc CA cc ctx W1 :=
  ⟨⟨K, s, hv, rfl⟩, h.ins.keep hk (fun e => hx e.symm), Sl.move h.cx (Mv.of_kp hk (fun k _ h e => ho k h e))⟩
theorem vm_poke (f : Fx) (K : Value) (s : Vm) (n v : Nat) (hn : n < 64) : ∀ j, j < 95 → (if j = 30 + n then Value.int .u8 (v : Int) else vmF f K s j) = vmF f K (s.poke n v) j := by
  intro j hj
  by_cases h : j < 30
  · rw [if_neg (by omega)]
    by_cases h0 : j = 29
    · subst h0; rfl
    · by_cases h1 : j < 25
      · simp only [vmF, Vm.poke, if_pos h1]
      · have hc : j = 25 ∨ j = 26 ∨ j = 27 ∨ j = 28 := by omega
        rcases hc with rfl | rfl | rfl | rfl <;> rfl
  · have a0 : ¬ j = 0 := by omega
    have a1 : ¬ j = 1 := by omega
    have a2 : ¬ j = 2 := by omega
    have a3 : ¬ j = 3 := by omega
    have a4 : ¬ j = 4 := by omega
    have a5 : ¬ j < 15 := by omega
    have a6 : ¬ j < 25 := by omega
    have a7 : ¬ j = 25 := by omega
    have a8 : ¬ j = 26 := by omega
    have a9 : ¬ j = 27 := by omega
    have b0 : ¬ j = 28 := by omega
    have b1 : ¬ j = 29 := by omega
    simp only [vmF, Vm.poke, if_neg a0, if_neg a1, if_neg a2, if_neg a3, if_neg a4, if_neg a5, if_neg a6, if_neg a7, if_neg a8, if_neg a9, if_neg b0, if_neg b1]
    by_cases h2 : j = 30 + n
    · subst h2
      rw [if_pos rfl, if_pos (by omega), Nat.add_sub_cancel_left, upd, if_pos rfl]
    · have e : upd s.scr n v (j - 30) = s.scr (j - 30) := by simp only [upd]; rw [if_neg (by omega)]
      rw [if_neg h2, e]
theorem poke_ok {w : World} {x : Nat} {f : Fx} {K : Value} {s : Vm} (h : VmB w x f K s) (n v : Nat) (hn : n < 64) :
    VmB (w.setCell ⟨x, 30 + n, none⟩ (.int .u8 (v : Int))) x f K (s.poke n v) ∧ Kp (fun b => b = x) w (w.setCell ⟨x, 30 + n, none⟩ (.int .u8 (v : Int))) :=
  ⟨Blk.congr (Blk.set h (30 + n) (.int .u8 (v : Int))) (vm_poke f K s n v hn), (Kp.refl (fun b => b = x) w).setCell (p := ⟨x, 30 + n, none⟩) (.inl rfl) _⟩
def stsRes (s : Vm) (i : Ins8) : Res :=
  if s.set i.dst then (if s.set i.src then (if 0 ≤ (s.reg i.dst : Int) + i.off ∧ (s.reg i.dst : Int) + i.off < 64 then .go (s.poke ((s.reg i.dst : Int) + i.off).toNat (s.reg i.src % 256)) 0 false else .stop 4) else .stop 2) else .stop 2
end Go.Proofs.Ytpnkbpjhbmacaaa
