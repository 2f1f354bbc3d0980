/- Layer 6: Known and Check. -/
import Derived.Test.YtjlddhnjbjhmkaaGk
import Derived.Laws.MakeOwn
import Derived.Laws.OwnMore
set_option linter.unusedVariables false
set_option linter.unusedSimpArgs false
namespace Go.Proofs.Ytjlddhnjbjhmkaa
open Go.RowKit

def knsF (K : Nat → Kn) (j : Nat) : Value := knF (K (j / 31)) (j % 31)
def KsB (W : World) (g N : Nat) (K : Nat → Kn) : Prop := Blk W g 42 (N * 31) (knsF K)
theorem knsF_at (K : Nat → Kn) (a j : Nat) (hj : j < 31) : knsF K (a * 31 + j) = knF (K a) j := by
  unfold knsF
  rw [show (a * 31 + j) / 31 = a from by omega, show (a * 31 + j) % 31 = j from by omega]
theorem KsB.come {W : World} {g N : Nat} {K : Nat → Kn} (h : KsB W g N K) (a : Nat) (ha : a < N) : W.cell? ⟨g, a * 31, none⟩ = some (.bool (K a).come) := by
  have := Blk.cell h (a * 31) (by omega)
  rw [this]
  have e := knsF_at K a 0 (by omega)
  rw [Nat.add_zero] at e
  rw [e]; rfl
theorem KsB.rg {W : World} {g N : Nat} {K : Nat → Kn} (h : KsB W g N K) (a : Nat) (ha : a < N) : W.rangeAt g (a * 31) (knL (K a)) := by
  have := Blk.rangeAt h (a * 31) 31 (by omega)
  rwa [rowF_ext 31 (G := knF (K a)) (fun j hj => knsF_at K a j hj)] at this
theorem KsB.there {W : World} {g N : Nat} {K : Nat → Kn} (h : KsB W g N K) (a : Nat) (ha : a < N) : W.there g (a * 31) 31 := fun j hj => ⟨by rw [Blk.cell h (a * 31 + j) (by omega)]; rfl, Blk.frozen h _⟩
theorem KsB.put {W : World} {g N : Nat} {K : Nat → Kn} (h : KsB W g N K) (a : Nat) (k : Kn) : KsB (W.setCells g (a * 31) (knL k)) g N (upd K a k) := by
  refine (Blk.setCells (knL k) (a * 31) W (knsF K) h).congr (fun j hj => ?_)
  rw [knL_length]
  by_cases hc : a * 31 ≤ j ∧ j < a * 31 + 31
  · rw [if_pos hc]
    have e : j = a * 31 + (j - a * 31) := by omega
    have e2 : (knL k).getD (j - a * 31) undef = knF k (j - a * 31) := by
      unfold knL
      rw [List.getD_eq_getElem?_getD, rowF_get 31 _ _ (by omega)]; rfl
    rw [e2]
    rw [e, knsF_at _ a (j - a * 31) (by omega), show a * 31 + (j - a * 31) - a * 31 = j - a * 31 from by omega]
    unfold upd
    rw [if_pos rfl]
  · rw [if_neg hc]
    unfold knsF upd
    rw [if_neg (by omega)]
theorem KsB.start {W : World} {g N : Nat} (h : KsB W g N (fun _ => kn0)) : KsB (W.setCell ⟨g, 0, none⟩ (.bool true)) g N K0 := by
  refine (Blk.set h 0 (.bool true)).congr (fun j hj => ?_)
  by_cases e : j = 0
  · subst e; rw [if_pos rfl]; rfl
  · rw [if_neg e]
    unfold knsF K0
    by_cases e2 : j / 31 = 0
    · have h31 : j % 31 ≠ 0 := by omega
      rw [if_pos e2]
      simp only [knF, if_neg h31]
      rfl
    · rw [if_neg e2]
def zeroK : Value := .agg #[.bool false, .bool false, .int .u32 0, .int .u32 0, .bool false, .int .u32 0, .int .u32 0, .bool false, .int .u32 0, .int .u32 0, .bool false, .int .u32 0, .int .u32 0, .bool false, .int .u32 0, .int .u32 0, .bool false, .int .u32 0, .int .u32 0, .bool false, .int .u32 0, .int .u32 0, .bool false, .int .u32 0, .int .u32 0, .bool false, .int .u32 0, .int .u32 0, .bool false, .int .u32 0, .int .u32 0]
theorem info_kn3 : (Try.prog.info? 42).map (fun i => (i.zero, i.size, i.bytes)) = some (some zeroK, 31, 124) := by kernel_rfl
def madeK (N : Nat) : Array Value := madeCells zeroK.cells (N * 31)
theorem run_makeK (n : Nat) (hn : n ≤ 1000000) (W : World) : (Instr.makeSlice 26 (.int .i64 (n : Int)) (.int .i64 (n : Int))).run Try.prog W = .ok (.slice (some ⟨W.heap.size, 0, none⟩) n n) (W.alloc (.cells (madeK n) 42)) := by
  obtain ⟨i, hi, hzz⟩ := Option.map_eq_some_iff.1 info_kn3
  simp only [Prod.mk.injEq] at hzz
  obtain ⟨hz0, hz1, hz2⟩ := hzz
  have := run_make (P := Try.prog) W 26 42 i zeroK Try.underlying26 hi hz0 .i64 .i64 n n (by omega) (by omega) (by rw [hz2]; omega) (by omega)
  rw [this]
  simp only [Int.toNat_natCast, hz1]
  rfl
theorem zeroK_cells : zeroK.cells = (knL kn0).toArray := by kernel_rfl
theorem madeK_blk (w : World) (N : Nat) : KsB (w.alloc (.cells (madeK N) 42)) w.heap.size N (fun _ => kn0) := by
  refine Blk.new w 42 (madeK N) (N * 31) (size_madeCells _ _) _ (fun j hj => ?_)
  unfold madeK madeCells
  rw [zeroK_cells]
  have hsz : (knL kn0).toArray.size = 31 := knA_size kn0
  have hlt : j % 31 < (knL kn0).toArray.size := by rw [hsz]; omega
  simp only [Array.getElem?_map]
  rw [Array.getElem?_eq_getElem (by simpa using hj)]
  simp only [Array.getElem_range, Option.map_some, hsz]
  congr 1
  rw [getElem!_pos (knL kn0).toArray (j % 31) hlt]
  have h2 : (knL kn0).toArray[j % 31]? = some (knF kn0 (j % 31)) := by rw [List.getElem?_toArray]; exact rowF_get 31 _ _ (by omega)
  rw [Array.getElem?_eq_getElem hlt] at h2
  injection h2

def pgF (ctx : Int) (A : Option Addr) (n c : Nat) (j : Nat) : Value := if j = 0 then .int .i64 ctx else .slice A n c
theorem pgB (w : World) (ctx : Int) (A : Option Addr) (n c : Nat) : Blk (w.alloc (.cells #[.int .i64 ctx, .slice A n c] 24)) w.heap.size 24 2 (pgF ctx A n c) := by
  refine Blk.new w _ _ 2 rfl _ (fun j hj => ?_)
  have : j = 0 ∨ j = 1 := by omega
  rcases this with rfl | rfl <;> rfl
/-- The worlds of Known. -/
structure Kw (w : World) (g : Nat) (ctx : Int) (A : Option Addr) (N c : Nat) (K : Nat → Kn) (W : World) : Prop where
  b : Below w.heap.size w W
  p : Blk W w.heap.size 24 2 (pgF ctx A N c)
  k : KsB W g N K
  lo : w.heap.size + 1 ≤ g
theorem Kw.more {w : World} {g : Nat} {ctx : Int} {A : Option Addr} {N c : Nat} {K : Nat → Kn} {W W1 : World} (h : Kw w g ctx A N c K W) (hb : Below W.heap.size W W1) : Kw w g ctx A N c K W1 :=
  ⟨h.b.trans (hb.mono h.b.size), h.p.below hb, Blk.below h.k hb, h.lo⟩
theorem Kw.keep {w : World} {g : Nat} {ctx : Int} {A : Option Addr} {N c : Nat} {K : Nat → Kn} {W W1 : World} {z : Nat} (h : Kw w g ctx A N c K W) (hb : Below z W W1) (hz : g < z) : Kw w g ctx A N c K W1 :=
  ⟨h.b.trans (hb.mono (by have := h.lo; omega)), h.p.keep (M := fun k => z ≤ k) ⟨hb.os, hb.tape, hb.output, hb.size, fun k _ hk => hb.block k (by omega)⟩ (by have := h.lo; omega), Blk.keep (M := fun k => z ≤ k) h.k ⟨hb.os, hb.tape, hb.output, hb.size, fun k _ hk => hb.block k (by omega)⟩ (by omega), h.lo⟩
theorem Kw.put {w : World} {g : Nat} {ctx : Int} {A : Option Addr} {N c : Nat} {K : Nat → Kn} {W : World} (h : Kw w g ctx A N c K W) (a : Nat) (k : Kn) : ∃ W3, Hid (W3 = W.setCells g (a * 31) (knL k)) ∧ Hid (Kw w g ctx A N c (upd K a k) W3) ∧ Hid (Kp (fun b => b = g) W W3) := by
  have hk : Kp (fun b => b = g) W (W.setCells g (a * 31) (knL k)) := Kp.setCells (M := fun b => b = g) (.inl rfl) _ _ _ (Kp.refl _ _)
  have hl := h.lo
  exact ⟨_, Lib.hid rfl, Lib.hid ⟨(Kp.setCells (w := w) (b := g) (.inr (by omega)) _ _ _ (Kp.of_below h.b No)).below, h.p.keep hk (by omega), h.k.put a k, h.lo⟩, Lib.hid hk⟩
theorem Kw.c0 {w : World} {g : Nat} {ctx : Int} {A : Option Addr} {N c : Nat} {K : Nat → Kn} {W : World} (h : Kw w g ctx A N c K W) : W.cell? ⟨w.heap.size, 0, none⟩ = some (.int .i64 ctx) := h.p.cell 0 (by omega)
theorem Kw.c1 {w : World} {g : Nat} {ctx : Int} {A : Option Addr} {N c : Nat} {K : Nat → Kn} {W : World} (h : Kw w g ctx A N c K W) : W.cell? ⟨w.heap.size, 1, none⟩ = some (.slice A N c) := h.p.cell 1 (by omega)

/-- What is made in any order: the call and what hangs on it, two blocks that are then filled. -/
structure KmJ (z : Nat) (T A B E : Value) (nx jx : Kn) (l : Nat → Bool) (v : Nat → Value) (W : World) : Prop where
  a7 : l 7 = true → v 7 = T
  a8 : l 8 = true → v 8 = T
  a9 : l 9 = true → v 9 = A
  a10 : l 10 = true → v 10 = B
  a11 : l 11 = true → v 11 = E
  a12 : l 12 = true → ∃ b, v 12 = .pointer (some ⟨b, 0, none⟩) ∧ z ≤ b ∧ Blk W b 42 31 (knF (if l 14 = true then nx else kn0))
  a13 : l 13 = true → ∃ b, v 13 = .pointer (some ⟨b, 0, none⟩) ∧ z ≤ b ∧ Blk W b 42 31 (knF (if l 15 = true then jx else kn0))
  e : l 12 = true → l 13 = true → v 12 ≠ v 13
  n14 : l 14 = true → l 12 = true
  n15 : l 15 = true → l 13 = true
theorem KmJ.zero (z : Nat) (T A B E : Value) (nx jx : Kn) (W : World) : KmJ z T A B E nx jx (fun _ => false) (fun _ => undef) W := by
  constructor <;> intro h <;> cases h
theorem upd_at {α : Type} (f : Nat → α) (k : Nat) (x : α) : upd f k x k = x := by unfold upd; exact if_pos rfl
theorem upd_ne {α : Type} (f : Nat → α) (k : Nat) (x : α) {j : Nat} (h : j ≠ k) : upd f k x j = f j := by unfold upd; exact if_neg h
theorem KmJ.up {z : Nat} {T A B E : Value} {nx jx : Kn} {l : Nat → Bool} {v : Nat → Value} {W W1 : World} (h : KmJ z T A B E nx jx l v W) (hb : Below W.heap.size W W1) (k : Nat) (x : Value)
    (hx : k = 7 ∧ x = T ∨ k = 8 ∧ x = T ∨ k = 9 ∧ x = A ∨ k = 10 ∧ x = B ∨ k = 11 ∧ x = E) : KmJ z T A B E nx jx (upd l k true) (upd v k x) W1 := by
  obtain ⟨a7, a8, a9, a10, a11, a12, a13, e, n14, n15⟩ := h
  have a12' : l 12 = true → ∃ b, v 12 = .pointer (some ⟨b, 0, none⟩) ∧ z ≤ b ∧ Blk W1 b 42 31 (knF (if l 14 = true then nx else kn0)) := fun q => by obtain ⟨b, b1, b2, b3⟩ := a12 q; exact ⟨b, b1, b2, b3.below hb⟩
  have a13' : l 13 = true → ∃ b, v 13 = .pointer (some ⟨b, 0, none⟩) ∧ z ≤ b ∧ Blk W1 b 42 31 (knF (if l 15 = true then jx else kn0)) := fun q => by obtain ⟨b, b1, b2, b3⟩ := a13 q; exact ⟨b, b1, b2, b3.below hb⟩
  clear a12 a13
  rcases hx with ⟨rfl, rfl⟩ | ⟨rfl, rfl⟩ | ⟨rfl, rfl⟩ | ⟨rfl, rfl⟩ | ⟨rfl, rfl⟩ <;> constructor <;> simp [upd] <;> assumption
theorem zkB (W : World) (cs : Array Value) (hcs : cs = #[.bool false, .bool false, .int .u32 0, .int .u32 0, .bool false, .int .u32 0, .int .u32 0, .bool false, .int .u32 0, .int .u32 0, .bool false, .int .u32 0, .int .u32 0, .bool false, .int .u32 0, .int .u32 0, .bool false, .int .u32 0, .int .u32 0, .bool false, .int .u32 0, .int .u32 0, .bool false, .int .u32 0, .int .u32 0, .bool false, .int .u32 0, .int .u32 0, .bool false, .int .u32 0, .int .u32 0]) : Blk (W.alloc (.cells cs 42)) W.heap.size 42 31 (knF kn0) := by rw [hcs]; exact (zero_kn_blk W).congr zk_kn0
theorem ptr_ne {b c : Nat} (h : b ≠ c) : (Value.pointer (some ⟨b, 0, none⟩)) ≠ .pointer (some ⟨c, 0, none⟩) := fun e => h (by injection e with e; injection e with e; injection e)
theorem KmJ.al12 {z : Nat} {T A B E : Value} {nx jx : Kn} {l : Nat → Bool} {v : Nat → Value} {W : World} (h : KmJ z T A B E nx jx l v W) (hl : l 12 = false) (hz : z ≤ W.heap.size) (cs : Array Value) (hcs : cs = #[.bool false, .bool false, .int .u32 0, .int .u32 0, .bool false, .int .u32 0, .int .u32 0, .bool false, .int .u32 0, .int .u32 0, .bool false, .int .u32 0, .int .u32 0, .bool false, .int .u32 0, .int .u32 0, .bool false, .int .u32 0, .int .u32 0, .bool false, .int .u32 0, .int .u32 0, .bool false, .int .u32 0, .int .u32 0, .bool false, .int .u32 0, .int .u32 0, .bool false, .int .u32 0, .int .u32 0]) : KmJ z T A B E nx jx (upd l 12 true) (upd v 12 (.pointer (some ⟨W.heap.size, 0, none⟩))) (W.alloc (.cells cs 42)) := by
  have hb := (Below.refl W.heap.size W).alloc (Nat.le_refl _) (.cells cs 42)
  obtain ⟨a7, a8, a9, a10, a11, a12, a13, e, n14, n15⟩ := h
  have h14 : l 14 = false := by
    rcases q : l 14 with _ | _
    · rfl
    · rw [n14 q] at hl; cases hl
  constructor <;> simp only [upd_at, upd_ne _ _ _ (show (7 : Nat) ≠ 12 by decide), upd_ne _ _ _ (show (8 : Nat) ≠ 12 by decide), upd_ne _ _ _ (show (9 : Nat) ≠ 12 by decide), upd_ne _ _ _ (show (10 : Nat) ≠ 12 by decide), upd_ne _ _ _ (show (11 : Nat) ≠ 12 by decide), upd_ne _ _ _ (show (13 : Nat) ≠ 12 by decide), upd_ne _ _ _ (show (14 : Nat) ≠ 12 by decide), upd_ne _ _ _ (show (15 : Nat) ≠ 12 by decide)]
  · exact a7
  · exact a8
  · exact a9
  · exact a10
  · exact a11
  · intro _
    rw [h14, if_neg (by simp)]
    exact ⟨_, rfl, hz, zkB W cs hcs⟩
  · intro q; obtain ⟨b, b1, b2, b3⟩ := a13 q; exact ⟨b, b1, b2, b3.below hb⟩
  · intro _ q
    obtain ⟨b, b1, b2, b3⟩ := a13 q
    rw [b1]
    exact ptr_ne (by have := b3.lt; omega)
  · intro _; trivial
  · exact n15
theorem KmJ.al13 {z : Nat} {T A B E : Value} {nx jx : Kn} {l : Nat → Bool} {v : Nat → Value} {W : World} (h : KmJ z T A B E nx jx l v W) (hl : l 13 = false) (hz : z ≤ W.heap.size) (cs : Array Value) (hcs : cs = #[.bool false, .bool false, .int .u32 0, .int .u32 0, .bool false, .int .u32 0, .int .u32 0, .bool false, .int .u32 0, .int .u32 0, .bool false, .int .u32 0, .int .u32 0, .bool false, .int .u32 0, .int .u32 0, .bool false, .int .u32 0, .int .u32 0, .bool false, .int .u32 0, .int .u32 0, .bool false, .int .u32 0, .int .u32 0, .bool false, .int .u32 0, .int .u32 0, .bool false, .int .u32 0, .int .u32 0]) : KmJ z T A B E nx jx (upd l 13 true) (upd v 13 (.pointer (some ⟨W.heap.size, 0, none⟩))) (W.alloc (.cells cs 42)) := by
  have hb := (Below.refl W.heap.size W).alloc (Nat.le_refl _) (.cells cs 42)
  obtain ⟨a7, a8, a9, a10, a11, a12, a13, e, n14, n15⟩ := h
  have h15 : l 15 = false := by
    rcases q : l 15 with _ | _
    · rfl
    · rw [n15 q] at hl; cases hl
  constructor <;> simp only [upd_at, upd_ne _ _ _ (show (7 : Nat) ≠ 13 by decide), upd_ne _ _ _ (show (8 : Nat) ≠ 13 by decide), upd_ne _ _ _ (show (9 : Nat) ≠ 13 by decide), upd_ne _ _ _ (show (10 : Nat) ≠ 13 by decide), upd_ne _ _ _ (show (11 : Nat) ≠ 13 by decide), upd_ne _ _ _ (show (12 : Nat) ≠ 13 by decide), upd_ne _ _ _ (show (14 : Nat) ≠ 13 by decide), upd_ne _ _ _ (show (15 : Nat) ≠ 13 by decide)]
  · exact a7
  · exact a8
  · exact a9
  · exact a10
  · exact a11
  · intro q; obtain ⟨b, b1, b2, b3⟩ := a12 q; exact ⟨b, b1, b2, b3.below hb⟩
  · intro _
    rw [h15, if_neg (by simp)]
    exact ⟨_, rfl, hz, zkB W cs hcs⟩
  · intro q _
    obtain ⟨b, b1, b2, b3⟩ := a12 q
    rw [b1]
    exact ptr_ne (by have := b3.lt; omega)
  · exact n14
  · intro _; trivial
theorem KmJ.st14 {z : Nat} {T A B E : Value} {nx jx : Kn} {l : Nat → Bool} {v : Nat → Value} {W : World} (h : KmJ z T A B E nx jx l v W) (h12 : l 12 = true) {b : Nat} (hv : v 12 = .pointer (some ⟨b, 0, none⟩)) (x : Value) : KmJ z T A B E nx jx (upd l 14 true) (upd v 14 x) (W.setCells b 0 (knL nx)) := by
  have hk : Kp (fun c => c = b) W (W.setCells b 0 (knL nx)) := Kp.setCells (M := fun c => c = b) (.inl rfl) _ _ _ (Kp.refl _ _)
  obtain ⟨a7, a8, a9, a10, a11, a12, a13, e, n14, n15⟩ := h
  constructor <;> simp only [upd_at, upd_ne _ _ _ (show (7 : Nat) ≠ 14 by decide), upd_ne _ _ _ (show (8 : Nat) ≠ 14 by decide), upd_ne _ _ _ (show (9 : Nat) ≠ 14 by decide), upd_ne _ _ _ (show (10 : Nat) ≠ 14 by decide), upd_ne _ _ _ (show (11 : Nat) ≠ 14 by decide), upd_ne _ _ _ (show (12 : Nat) ≠ 14 by decide), upd_ne _ _ _ (show (13 : Nat) ≠ 14 by decide), upd_ne _ _ _ (show (15 : Nat) ≠ 14 by decide)]
  · exact a7
  · exact a8
  · exact a9
  · exact a10
  · exact a11
  · intro _
    obtain ⟨b1, c1, c2, c3⟩ := a12 h12
    rw [hv] at c1
    injection c1 with c1; injection c1 with c1; injection c1 with c1
    subst c1
    rw [if_pos trivial]
    exact ⟨b, hv, c2, c3.fill (knF nx)⟩
  · intro q
    obtain ⟨b1, c1, c2, c3⟩ := a13 q
    have := e h12 q
    rw [hv, c1] at this
    exact ⟨b1, c1, c2, c3.keep hk (fun q => this (by rw [q]))⟩
  · exact e
  · intro _; exact h12
  · exact n15
theorem KmJ.st15 {z : Nat} {T A B E : Value} {nx jx : Kn} {l : Nat → Bool} {v : Nat → Value} {W : World} (h : KmJ z T A B E nx jx l v W) (h13 : l 13 = true) {b : Nat} (hv : v 13 = .pointer (some ⟨b, 0, none⟩)) (x : Value) : KmJ z T A B E nx jx (upd l 15 true) (upd v 15 x) (W.setCells b 0 (knL jx)) := by
  have hk : Kp (fun c => c = b) W (W.setCells b 0 (knL jx)) := Kp.setCells (M := fun c => c = b) (.inl rfl) _ _ _ (Kp.refl _ _)
  obtain ⟨a7, a8, a9, a10, a11, a12, a13, e, n14, n15⟩ := h
  constructor <;> simp only [upd_at, upd_ne _ _ _ (show (7 : Nat) ≠ 15 by decide), upd_ne _ _ _ (show (8 : Nat) ≠ 15 by decide), upd_ne _ _ _ (show (9 : Nat) ≠ 15 by decide), upd_ne _ _ _ (show (10 : Nat) ≠ 15 by decide), upd_ne _ _ _ (show (11 : Nat) ≠ 15 by decide), upd_ne _ _ _ (show (12 : Nat) ≠ 15 by decide), upd_ne _ _ _ (show (13 : Nat) ≠ 15 by decide), upd_ne _ _ _ (show (14 : Nat) ≠ 15 by decide)]
  · exact a7
  · exact a8
  · exact a9
  · exact a10
  · exact a11
  · intro q
    obtain ⟨b1, c1, c2, c3⟩ := a12 q
    have := e q h13
    rw [hv, c1] at this
    exact ⟨b1, c1, c2, c3.keep hk (fun q => this (by rw [q]))⟩
  · intro _
    obtain ⟨b1, c1, c2, c3⟩ := a13 h13
    rw [hv] at c1
    injection c1 with c1; injection c1 with c1; injection c1 with c1
    subst c1
    rw [if_pos trivial]
    exact ⟨b, hv, c2, c3.fill (knF jx)⟩
  · exact e
  · exact n14
  · intro _; exact h13
end Go.Proofs.Ytjlddhnjbjhmkaa
namespace Go.Proofs.Ytjlddhnjbjhmkaa
open Go.RowKit

/-- What Known tells. -/
def KnR (w w' : World) (N : Nat) (R : KR) (v : Value) : Prop := match R with
  | .ok K => ∃ g, w.heap.size ≤ g ∧ v = .tuple #[.slice (some ⟨g, 0, none⟩) N N, .int .i64 0] ∧ KsB w' g N K
  | .no e => v = .tuple #[.slice none 0 0, .int .i64 (e : Int)]
theorem ins_flat (is : List Ins8) : (is.map Ins8.z).flatMap insZC = is.flatMap insCells := by rw [List.flatMap_map]; rfl
theorem exec_extract {P : Program} {o : Oper} {ac : Act} {W : World} (t j : Nat) (ho : o.op = .extract (.tmp t) j) (xs : Array Value) (x : Value) (ht : ac.tmps[t]?.getD undef = .tuple xs) (hx : xs[j]? = some x) : (execOp ac.eval o).run P W = .ok (.value x) W := by
  unfold execOp
  simp [ho, Act.eval, ht, go_sem, hx]
theorem exec_mv {P : Program} {o : Oper} {ac : Act} {W : World} (t : Nat) (ho : o.op = .move (.tmp t)) (x : Value) (ht : ac.tmps[t]?.getD undef = x) : (execOp ac.eval o).run P W = .ok (.value x) W := by
  unfold execOp
  simp [ho, Act.eval, ht, go_sem]
theorem ev_tmp {ac : Act} {t : Nat} {v : Value} (h : ac.tmps[t]?.getD undef = v) : ac.eval (.tmp t) = v := by simpa [Act.eval] using h
theorem exec_idx {o : Oper} {ac : Act} {W : World} (x y : Operand) (ho : o.op = .indexAddr 26 x y) {g N m : Nat} (hx : ac.eval x = .slice (some ⟨g, 0, none⟩) N N) (hy : ac.eval y = .int .i64 (m : Int)) (hm : m < N) : (execOp ac.eval o).run Try.prog W = .ok (.value (.pointer (some ⟨g, m * 31, none⟩))) W := by
  have h1 : (m : Int) < (N : Int) := by omega
  unfold execOp
  simp only [ho, hx, hy]
  simp [go_sem, h1]
theorem exec_add {o : Oper} {ac : Act} {W : World} (x y : Operand) (ho : o.op = .binOp .add 3 x y 3) {p q : Nat} (hx : ac.eval x = .int .i64 (p : Int)) (hy : ac.eval y = .int .i64 (q : Int)) (hb : p + q < 9223372036854775808) : (execOp ac.eval o).run Try.prog W = .ok (.value (.int .i64 ((p + q : Nat) : Int))) W := by
  unfold execOp
  simp only [ho, hx, hy]
  have e : IntKind.i64.wrap ((p : Int) + (q : Int)) = ((p + q : Nat) : Int) := by rw [IntKind.wrap_i64] <;> omega
  simp [go_sem, e]
/-- What Behind tells, in words of Known. -/
theorem bh_cases (ctx : Nat) (i : Ins8) (k : Kn) : ∃ (n j : Kn) (ev : Nat), bhV (behindB ctx i k) = .tuple #[.agg (knL n).toArray, .agg (knL j).toArray, .int .i64 (ev : Int)] ∧ ((ev = 0 ∧ behindB ctx i k = .ok n j) ∨ (ev ≠ 0 ∧ behindB ctx i k = .no ev)) := by
  rcases h : behindB ctx i k with ⟨n, j⟩ | why
  · exact ⟨n, j, 0, rfl, .inl ⟨rfl, rfl⟩⟩
  · refine ⟨kn0, kn0, why, rfl, .inr ⟨?_, rfl⟩⟩
    unfold behindB at h
    split at h
    · exact behindC_why h
    · cases h
theorem behindB_jump {ctx : Nat} {i : Ins8} {k n j : Kn} (h : behindB ctx i k = .ok n j) (hj : j.come = true) : 19 ≤ i.op ∧ i.op ≤ 22 := by
  unfold behindB at h
  split at h
  · unfold behindC sumB ldB stsB jeqB jltB at h
    repeat' split at h
    all_goals first | (injection h with h1 h2; subst h2; first | omega | (exact absurd hj (by simp [kn0])) ) | cases h
  · injection h with h1 h2; subst h2; exact absurd hj (by simp [kn0])

set_option maxRecDepth 100000 in
set_option maxHeartbeats 3000000 in
theorem known_good (w : World) (ctx : Nat) (A : Option Addr) (c : Nat) (is : List Ins8) (hs : Sl w Any 5 A is.length c (is.flatMap insCells)) (hne : 0 < is.length) (hck : checkN (ctx : Int) (is.map Ins8.z) = 0) :
    Calls Try.prog 12 #[.agg #[.int .i64 (ctx : Int), .slice A is.length c]] w fun e w' => (∃ v, e = .returned v ∧ KnR w w' is.length (runK ctx is.length is 0 K0) v) ∧ Below w.heap.size w w' := by
  have hctx : ctx ≤ 256 := by
    unfold checkN at hck
    split at hck
    · cases hck
    · omega
  have hmay : ∀ i, i ∈ is → mayB i.z = true := fun i hi => by
    unfold checkN at hck
    split at hck
    · cases hck
    · split at hck
      · cases hck
      · rename_i h2
        have h3 : (is.map Ins8.z).all mayB = true := by simpa using h2
        exact List.all_eq_true.1 h3 _ (List.mem_map.2 ⟨i, hi, rfl⟩)
  have hlen : is.length ≤ 256 := by
    unfold checkN at hck
    split at hck
    · cases hck
    · split at hck
      · cases hck
      · split at hck
        · cases hck
        · rename_i h2 h3; simpa using h3
  have hcke : ∀ W, Sl W Any 5 A is.length c (is.flatMap insCells) → Calls Try.prog 24 #[.agg #[.int .i64 (ctx : Int), .slice A is.length c]] W fun e w' => e = .returned (.int .i64 0) ∧ Below W.heap.size W w' := fun W hW => by
    have := check_ok W (ctx : Int) A c (is.map Ins8.z) (ok := Any) (by rw [List.length_map, ins_flat]; exact hW) (by rw [List.length_map]; omega)
    rw [hck, List.length_map] at this
    exact this
  obtain ⟨N, hN⟩ : ∃ N, N = is.length := ⟨_, rfl⟩
  obtain ⟨R, hR⟩ : ∃ R, R = runK ctx N is 0 K0 := ⟨_, rfl⟩
  rw [← hN] at hs hne hlen hcke ⊢
  rw [← hR]
  have HCK := Lib.hid hcke; have HR := Lib.hid hR; have HMAY := Lib.hid hmay
  have HN := Lib.hid hN
  have HNE := Lib.hid hne; have HLEN := Lib.hid hlen; have HCTX := Lib.hid hctx
  have HS := Lib.hid hs
  clear hcke hR hmay hck hN hs
  have hN1 : (N : Int) ≠ 0 := by omega
  have hN0 : ((N : Int) == 0) = false := by simpa using hN1
  clear hN1
  go_enter Try.func12, Try.ntmps12
  go_upto_region 1 with fail
  obtain ⟨W1, hW1⟩ : ∃ W1, W1 = w.alloc (.cells #[.int .i64 (ctx : Int), .slice A N c] 24) := ⟨_, rfl⟩
  have hb1 : Below w.heap.size w W1 := by rw [hW1]; exact (Below.refl _ _).alloc (Nat.le_refl _) _
  have hp1 : Blk W1 w.heap.size 24 2 (pgF ctx A N c) := by rw [hW1]; exact pgB w ctx A N c
  have hz1 : W1.heap.size = w.heap.size + 1 := by rw [hW1]; simp
  rw [← hW1]
  have hs1 : Sl W1 Any 5 A N c (is.flatMap insCells) := HS.out.move (Mv.of_below hb1 Any)
  have HB1 := Lib.hid hb1; have HP1 := Lib.hid hp1; have HS1 := Lib.hid hs1; have HZ1 := Lib.hid hz1
  clear hW1 hb1 hp1 hs1 hz1
  have c10 : W1.cell? ⟨w.heap.size, 0, none⟩ = some (.int .i64 (ctx : Int)) := HP1.out.cell 0 (by omega)
  have c11 : W1.cell? ⟨w.heap.size, 1, none⟩ = some (.slice A N c) := HP1.out.cell 1 (by omega)
  go_upto_region 2 with (go_at_call 24; (with_reducible refine (HCK.out _ HS1.out).mono ?_); rintro e W2 ⟨rfl, hb2⟩; have HB2 := Lib.hid hb2; clear hb2)
  clear c10 c11
  have HP2 := Lib.hid (HP1.out.below HB2.out)
  have HBB2 := Lib.hid (HB1.out.trans (HB2.out.mono HB1.out.size))
  have c20 : W2.cell? ⟨w.heap.size, 0, none⟩ = some (.int .i64 (ctx : Int)) := HP2.out.cell 0 (by omega)
  have c21 : W2.cell? ⟨w.heap.size, 1, none⟩ = some (.slice A N c) := HP2.out.cell 1 (by omega)
  have hmk := run_makeK N (by omega)
  go_upto_region 7 with fail
  clear hmk c20 c21
  have hal : Below W2.heap.size W2 (W2.alloc (.cells (madeK N) 42)) := (Below.refl _ _).alloc (Nat.le_refl _) _
  have HK3 := Lib.hid (madeK_blk W2 N)
  have HP3 := Lib.hid (HP2.out.below hal)
  have HB3 := Lib.hid (HBB2.out.trans (hal.mono HBB2.out.size))
  obtain ⟨g, hg⟩ : ∃ g, g = W2.heap.size := ⟨_, rfl⟩
  have hlo : w.heap.size + 1 ≤ g := by have := HB2.out.size; have := HZ1.out; omega
  rw [← hg] at HK3 ⊢
  have HG := Lib.hid hlo
  obtain ⟨W3, hW3⟩ : ∃ W3, W3 = W2.alloc (.cells (madeK N) 42) := ⟨_, rfl⟩
  rw [← hW3] at HK3 HP3 HB3 ⊢
  clear hW3 hal hg hlo
  have c30 : W3.cell? ⟨g, 0, none⟩ = some (.bool false) := by have := HK3.out.come 0 (by omega); rw [Nat.zero_mul] at this; exact this
  have f30 : W3.frozen? ⟨g, 0, none⟩ = false := Blk.frozen HK3.out 0
  go_upto_region 8 with fail
  clear c30 f30
  have hkp : Kp (fun b => b = g) W3 (W3.setCell ⟨g, 0, none⟩ (.bool true)) := (Kp.refl (fun b => b = g) W3).setCell (p := ⟨g, 0, none⟩) (.inl rfl) _
  have HW4 : Hid (Kw w g ctx A N c K0 (W3.setCell ⟨g, 0, none⟩ (.bool true))) := Lib.hid ⟨by
      have h := (Kp.of_below HB3.out No).setCell (p := ⟨g, 0, none⟩) (.inr (by have := HG.out; show w.heap.size ≤ g; omega)) (.bool true)
      exact h.below, HP3.out.keep hkp (by have := HG.out; omega), HK3.out.start, HG.out⟩
  obtain ⟨W4, hW4⟩ : ∃ W4, W4 = W3.setCell ⟨g, 0, none⟩ (.bool true) := ⟨_, rfl⟩
  rw [← hW4] at HW4 ⊢
  clear hW4 hkp
  have c41 : W4.cell? ⟨w.heap.size, 1, none⟩ = some (.slice A N c) := HW4.out.c1
  go_wp2
  clear c41
  go_loopw [30] (fun iv wr => ∃ (n : Nat) (K : Nat → Kn), n ≤ N ∧ iv = .int .i64 (n : Int) ∧ Kw w g ctx A N c K wr ∧ runK ctx N (is.drop n) n K = R ∧ ∀ b, (K b).right) (fun iv _ => N - (intOf iv).toNat)
  case atStart => exact ⟨0, K0, Nat.zero_le _, rfl, HW4.out, by rw [HR.out]; rfl, K0_right⟩
  case round =>
    obtain ⟨n, K, hn, rfl, hc, hrun, hrt⟩ := hrel
    by_cases hlt : n < N
    · obtain ⟨i, hi⟩ : ∃ i, is[n]? = some i := ⟨_, List.getElem?_eq_getElem (by rw [← HN.out]; exact hlt)⟩
      have hdrop : is.drop n = i :: is.drop (n + 1) := by
        have h1 : n < is.length := by rw [← HN.out]; exact hlt
        rw [List.drop_eq_getElem_cons h1]
        congr 1
        have := List.getElem?_eq_getElem h1
        rw [hi] at this
        injection this with this
        exact this.symm
      have hmb : mayB i.z = true := HMAY.out i (List.mem_of_getElem? hi)
      have hrun2 : (match stepK ctx N n i K with | .no e => KR.no e | .ok K' => runK ctx N (is.drop (n + 1)) (n + 1) K') = R := by rw [hdrop] at hrun; exact hrun
      obtain ⟨a, rfl, _, hab, hcl⟩ := HS.out.at_ (j := n * 5) (by omega)
      have hld : ∀ j v, (insCells i)[j]? = some v → wr.cell? ((a.add (n * 5)).add j) = some v := fun j v hv => by
        have hj : j < 5 := by
          rcases Nat.lt_or_ge j 5 with h | h
          · exact h
          · rw [List.getElem?_eq_none (by simpa [insCells] using h)] at hv; cases hv
        rw [add_add]
        have := hcl (n * 5 + j) v (by
          have h := insZ_cells (is.map Ins8.z) n j i.z (by rw [List.getElem?_map, hi]; rfl) hj
          rw [ins_flat] at h
          rw [h]; exact hv)
        exact (World.cell?_of_block (hc.b.block _ (by rw [add_block]; exact hab))).trans this
      have HL := Lib.hid hld; have HI := Lib.hid hi; have HRUN := Lib.hid hrun2; have HRT := Lib.hid hrt; have HMB := Lib.hid hmb
      have hlt' : (n : Int) < (N : Int) := by omega
      have hzw : w.heap.size < wr.heap.size := hc.p.lt
      have hzg : g < wr.heap.size := Blk.lt hc.k
      have ccm : wr.cell? ⟨g, n * 31, none⟩ = some (.bool (K n).come) := hc.k.come n hlt
      have HC := Lib.hid hc
      clear hld hi hrun hrun2 hrt hmb hcl hdrop hc
      rcases hcm : (K n).come with _ | _
      · rw [hcm] at ccm
        have HCM := Lib.hid hcm; clear hcm
        go_wp2_with (refine wpList_value (.agg #[.int .i64 (i.op : Int), .int .i64 (i.dst : Int), .int .i64 (i.src : Int), .int .i64 i.off, .int .u32 (i.imm : Int)]) rfl (exec_load_at 45 (.tmp 33) rfl (a.add (n * 5)) rfl (insCells i) _ HL.out Try.underlying45 rfl size_ins) ?_)
        go_roundw
        case rel =>
          refine ⟨n + 1, K, by omega, by go_num, HC.out.more ((Below.refl _ _).alloc (Nat.le_refl _) _), ?_, HRT.out⟩
          have := HRUN.out
          unfold stepK at this
          rw [if_pos HCM.out] at this
          exact this
        case measure => simp [intOf]; omega
      · rw [hcm] at ccm
        have HCM := Lib.hid hcm; clear hcm
        go_upto_region 12 with (refine wpList_value (.agg #[.int .i64 (i.op : Int), .int .i64 (i.dst : Int), .int .i64 (i.src : Int), .int .i64 i.off, .int .u32 (i.imm : Int)]) rfl (exec_load_at 45 (.tmp 33) rfl (a.add (n * 5)) rfl (insCells i) _ HL.out Try.underlying45 rfl size_ins) ?_)
        clear ccm
        obtain ⟨W5, hW5⟩ : ∃ W5, W5 = wr.alloc (.cells #[.int .i64 (i.op : Int), .int .i64 (i.dst : Int), .int .i64 (i.src : Int), .int .i64 i.off, .int .u32 (i.imm : Int)] 45) := ⟨_, rfl⟩
        have hb5 : Below wr.heap.size wr W5 := by rw [hW5]; exact (Below.refl _ _).alloc (Nat.le_refl _) _
        have HK5 := Lib.hid (HC.out.more hb5)
        have HI5 : Hid (Blk W5 wr.heap.size 45 5 (fun j => (insCells i).getD j undef)) := Lib.hid (by
          rw [hW5]
          refine Blk.new wr 45 _ 5 rfl _ (fun j hj => ?_)
          have : j = 0 ∨ j = 1 ∨ j = 2 ∨ j = 3 ∨ j = 4 := by omega
          rcases this with rfl | rfl | rfl | rfl | rfl <;> rfl)
        obtain ⟨b6, hb6⟩ : ∃ b, b = wr.heap.size := ⟨_, rfl⟩
        have hg6 : g < b6 := by omega
        rw [← hb6] at HI5 ⊢
        rw [← hW5]
        clear hW5 hb5 hb6
        obtain ⟨nx, jx, ev, hbv, hbb⟩ := bh_cases ctx i (K n)
        have hbk := fun W => behind_ok W i ctx (K n) HMB.out (HRT.out n) HCTX.out
        rw [hbv] at hbk
        have HBK := Lib.hid hbk; have HBB := Lib.hid hbb
        clear hbk hbb hbv
        obtain ⟨Wd, hWd⟩ : ∃ Wd, Wd = W5.drew := ⟨_, rfl⟩
        have hbd : Below W5.heap.size W5 Wd := by rw [hWd]; exact (Below.refl _ _).drew
        have hzd : Wd.heap.size = W5.heap.size := by rw [hWd]; rfl
        refine wp_region_noPanic ?_
        refine planM (.rd 0 (.rd 1 (.rd 2 (.rd 3 (.rd 4 (.rd 5 (.rd 6 (.many [(7, some 49), (8, some 41), (9, some 50), (10, some 51), (11, some 52), (12, some 7), (13, some 8), (14, none), (15, none)] (.rd 16 .done))))))))) [0, 1, 2, 3, 4, 5, 6, 7, 8, 9, 10, 11, 12, 13, 14, 15] (fun W => Below W5.heap.size W5 W) (by kernel_rfl) (by kernel_rfl) (fun _ _ _ _ _ h => h) (by rw [← hWd]; exact hbd) ?_
        rw [← hWd]
        clear hWd
        have HBD := Lib.hid hbd; have HZD := Lib.hid hzd; clear hbd hzd
        refine pm_rdv 42 (.agg #[.int .i64 (i.op : Int), .int .i64 (i.dst : Int), .int .i64 (i.src : Int), .int .i64 i.off, .int .u32 (i.imm : Int)]) rfl rfl rfl (fun W hS => exec_load_mid 45 (.tmp 6) rfl b6 0 (by kernel_rfl) (insCells i) _ (by have := (HI5.out.below hS).range; exact this) Try.underlying45 rfl size_ins) ?_
        repeat (refine pm_pure rfl (fun K hK => ?_); go_simp; refine hK _ ?_; clear hK K)
        refine pm_rdv 44 (.int .i64 (ctx : Int)) rfl rfl rfl (fun W hS => ?_) ?_
        · have f0 : W.cell? ⟨w.heap.size, 0, none⟩ = some (.int .i64 (ctx : Int)) := (HK5.out.more hS).c0
          simp [go_sem, f0]
        repeat (refine pm_pure rfl (fun K hK => ?_); go_simp; refine hK _ ?_; clear hK K)
        refine pm_rdv 48 (.agg (knL (K n)).toArray) rfl rfl rfl (fun W hS => exec_load_mid 42 (.tmp 47) rfl g (n * 31) (by kernel_rfl) (knL (K n)) _ ((HK5.out.more hS).k.rg n hlt) Try.underlying42 rfl (by rw [knL_length]; exact info_kn)) ?_
        refine pm_manyW (fun l v W => KmJ W5.heap.size (.tuple #[.agg (knL nx).toArray, .agg (knL jx).toArray, .int .i64 (ev : Int)]) (.agg (knL nx).toArray) (.agg (knL jx).toArray) (.int .i64 (ev : Int)) nx jx l v W) (KmJ.zero _ _ _ _ _ _ _ _) ?_ ?_
        · intro q hq l v w1 hS hb hl hn hJ
          have E : ∀ (t : Nat) (a : Act), (∀ k, k ∈ [(7, some 49), (8, some 41), (9, some 50), (10, some 51), (11, some 52), (12, some 7), (13, some 8), (14, none), (15, none)] → k.2 ≠ some t) → (putM v l [(7, some 49), (8, some 41), (9, some 50), (10, some 51), (11, some 52), (12, some 7), (13, some 8), (14, none), (15, none)] a).tmps[t]?.getD undef = a.tmps[t]?.getD undef := fun t a h => by simpa [Array.getD_eq_getD_getElem?] using putM_eval_other (v := v) (l := l) t [(7, some 49), (8, some 41), (9, some 50), (10, some 51), (11, some 52), (12, some 7), (13, some 8), (14, none), (15, none)] a h
          have F : ∀ (k t : Nat) (a : Act), (k, some t) ∈ [(7, some 49), (8, some 41), (9, some 50), (10, some 51), (11, some 52), (12, some 7), (13, some 8), (14, none), (15, none)] → l k = true → t < a.tmps.size → (putM v l [(7, some 49), (8, some 41), (9, some 50), (10, some 51), (11, some 52), (12, some 7), (13, some 8), (14, none), (15, none)] a).tmps[t]?.getD undef = v k := fun k t a h1 h2 h3 => by simpa [Array.getD_eq_getD_getElem?] using putM_eval_at (v := v) (l := l) t [(7, some 49), (8, some 41), (9, some 50), (10, some 51), (11, some 52), (12, some 7), (13, some 8), (14, none), (15, none)] a k (by kernel_rfl) h1 h2 h3
          simp only [List.mem_cons, List.not_mem_nil, or_false] at hq
          rcases hq with rfl | rfl | rfl | rfl | rfl | rfl | rfl | rfl | rfl
          · refine pm_one rfl rfl (fun K' hK => ?_)
            refine wp_calls_ret (f := 18) (args := #[.agg #[.int .i64 (i.op : Int), .int .i64 (i.dst : Int), .int .i64 (i.src : Int), .int .i64 i.off, .int .u32 (i.imm : Int)], .int .i64 (ctx : Int), .agg (knL (K n)).toArray]) ?_ (HBK.out w1) (fun w3 hb3 => ?_)
            · simp [execOp, go_sem]
              exact ⟨(E 42 _ (by simp)).trans rfl, (E 44 _ (by simp)).trans rfl, (E 48 _ (by simp)).trans rfl⟩
            exact hK _ _ ⟨_, rfl, Below.trans hS (hb3.mono hS.size), Below.trans hb (hb3.mono hb.size), hJ.up hb3 7 _ (.inl ⟨rfl, rfl⟩)⟩
          · have l7 : l 7 = true := hn (7, some 49) (by simp) (by kernel_rfl)
            refine pm_one rfl rfl (fun K' hK => ?_)
            refine wp_value (w' := w1) _ (exec_mv 49 rfl _ ((F 7 49 _ (by simp) l7 (by simp [Act.put])).trans (hJ.a7 l7))) ?_
            exact hK _ _ ⟨_, rfl, hS, hb, hJ.up (Below.refl _ _) 8 _ (.inr (.inl ⟨rfl, rfl⟩))⟩
          · have l8 : l 8 = true := hn (8, some 41) (by simp) (by kernel_rfl)
            refine pm_one rfl rfl (fun K' hK => ?_)
            refine wp_value (w' := w1) (.agg (knL nx).toArray) (exec_extract 41 0 rfl _ _ ((F 8 41 _ (by simp) l8 (by simp [Act.put])).trans (hJ.a8 l8)) rfl) ?_
            exact hK _ _ ⟨_, rfl, hS, hb, hJ.up (Below.refl _ _) 9 _ (.inr (.inr (.inl ⟨rfl, rfl⟩)))⟩
          · have l8 : l 8 = true := hn (8, some 41) (by simp) (by kernel_rfl)
            refine pm_one rfl rfl (fun K' hK => ?_)
            refine wp_value (w' := w1) (.agg (knL jx).toArray) (exec_extract 41 1 rfl _ _ ((F 8 41 _ (by simp) l8 (by simp [Act.put])).trans (hJ.a8 l8)) rfl) ?_
            exact hK _ _ ⟨_, rfl, hS, hb, hJ.up (Below.refl _ _) 10 _ (.inr (.inr (.inr (.inl ⟨rfl, rfl⟩))))⟩
          · have l8 : l 8 = true := hn (8, some 41) (by simp) (by kernel_rfl)
            refine pm_one rfl rfl (fun K' hK => ?_)
            refine wp_value (w' := w1) (.int .i64 (ev : Int)) (exec_extract 41 2 rfl _ _ ((F 8 41 _ (by simp) l8 (by simp [Act.put])).trans (hJ.a8 l8)) rfl) ?_
            exact hK _ _ ⟨_, rfl, hS, hb, hJ.up (Below.refl _ _) 11 _ (.inr (.inr (.inr (.inr ⟨rfl, rfl⟩))))⟩
          · refine pm_one rfl rfl (fun K' hK => ?_)
            refine wp_value (w' := w1.alloc (.cells #[.bool false, .bool false, .int .u32 0, .int .u32 0, .bool false, .int .u32 0, .int .u32 0, .bool false, .int .u32 0, .int .u32 0, .bool false, .int .u32 0, .int .u32 0, .bool false, .int .u32 0, .int .u32 0, .bool false, .int .u32 0, .int .u32 0, .bool false, .int .u32 0, .int .u32 0, .bool false, .int .u32 0, .int .u32 0, .bool false, .int .u32 0, .int .u32 0, .bool false, .int .u32 0, .int .u32 0] 42)) (.pointer (some ⟨w1.heap.size, 0, none⟩)) (by kernel_rfl) ?_
            have hb3 : Below w1.heap.size w1 (w1.alloc (.cells #[.bool false, .bool false, .int .u32 0, .int .u32 0, .bool false, .int .u32 0, .int .u32 0, .bool false, .int .u32 0, .int .u32 0, .bool false, .int .u32 0, .int .u32 0, .bool false, .int .u32 0, .int .u32 0, .bool false, .int .u32 0, .int .u32 0, .bool false, .int .u32 0, .int .u32 0, .bool false, .int .u32 0, .int .u32 0, .bool false, .int .u32 0, .int .u32 0, .bool false, .int .u32 0, .int .u32 0] 42)) := (Below.refl _ _).alloc (Nat.le_refl _) _
            exact hK _ _ ⟨_, rfl, Below.trans hS (hb3.mono hS.size), Below.trans hb (hb3.mono hb.size), hJ.al12 hl hS.size _ rfl⟩
          · refine pm_one rfl rfl (fun K' hK => ?_)
            refine wp_value (w' := w1.alloc (.cells #[.bool false, .bool false, .int .u32 0, .int .u32 0, .bool false, .int .u32 0, .int .u32 0, .bool false, .int .u32 0, .int .u32 0, .bool false, .int .u32 0, .int .u32 0, .bool false, .int .u32 0, .int .u32 0, .bool false, .int .u32 0, .int .u32 0, .bool false, .int .u32 0, .int .u32 0, .bool false, .int .u32 0, .int .u32 0, .bool false, .int .u32 0, .int .u32 0, .bool false, .int .u32 0, .int .u32 0] 42)) (.pointer (some ⟨w1.heap.size, 0, none⟩)) (by kernel_rfl) ?_
            have hb3 : Below w1.heap.size w1 (w1.alloc (.cells #[.bool false, .bool false, .int .u32 0, .int .u32 0, .bool false, .int .u32 0, .int .u32 0, .bool false, .int .u32 0, .int .u32 0, .bool false, .int .u32 0, .int .u32 0, .bool false, .int .u32 0, .int .u32 0, .bool false, .int .u32 0, .int .u32 0, .bool false, .int .u32 0, .int .u32 0, .bool false, .int .u32 0, .int .u32 0, .bool false, .int .u32 0, .int .u32 0, .bool false, .int .u32 0, .int .u32 0] 42)) := (Below.refl _ _).alloc (Nat.le_refl _) _
            exact hK _ _ ⟨_, rfl, Below.trans hS (hb3.mono hS.size), Below.trans hb (hb3.mono hb.size), hJ.al13 hl hS.size _ rfl⟩
          · have l9 : l 9 = true := hn (9, some 50) (by simp) (by kernel_rfl)
            have l12 : l 12 = true := hn (12, some 7) (by simp) (by kernel_rfl)
            obtain ⟨b, hv, hzb, hB⟩ := hJ.a12 l12
            refine pm_one rfl rfl (fun K' hK => ?_)
            refine wp_store_mid 42 (.tmp 7) (.tmp 50) rfl b 0 (knL nx).toArray (ev_tmp ((F 12 7 _ (by simp) l12 (by simp [Act.put])).trans hv)) (ev_tmp ((F 9 50 _ (by simp) l9 (by simp [Act.put])).trans (hJ.a9 l9))) (by rw [knA_size]; exact there_blk hB) (by rw [knA_size]; exact info_kn) (knL_one _) ?_
            rw [knL_tl]
            exact hK _ _ ⟨undef, rfl, (Kp.setCells (w := W5) (b := b) (.inr hzb) _ _ _ (Kp.of_below hS No)).below, (Kp.setCells (w := Wd) (b := b) (.inr (by rw [HZD.out]; exact hzb)) _ _ _ (Kp.of_below hb No)).below, hJ.st14 l12 hv _⟩
          · have l10 : l 10 = true := hn (10, some 51) (by simp) (by kernel_rfl)
            have l13 : l 13 = true := hn (13, some 8) (by simp) (by kernel_rfl)
            obtain ⟨b, hv, hzb, hB⟩ := hJ.a13 l13
            refine pm_one rfl rfl (fun K' hK => ?_)
            refine wp_store_mid 42 (.tmp 8) (.tmp 51) rfl b 0 (knL jx).toArray (ev_tmp ((F 13 8 _ (by simp) l13 (by simp [Act.put])).trans hv)) (ev_tmp ((F 10 51 _ (by simp) l10 (by simp [Act.put])).trans (hJ.a10 l10))) (by rw [knA_size]; exact there_blk hB) (by rw [knA_size]; exact info_kn) (knL_one _) ?_
            rw [knL_tl]
            exact hK _ _ ⟨undef, rfl, (Kp.setCells (w := W5) (b := b) (.inr hzb) _ _ _ (Kp.of_below hS No)).below, (Kp.setCells (w := Wd) (b := b) (.inr (by rw [HZD.out]; exact hzb)) _ _ _ (Kp.of_below hb No)).below, hJ.st15 l13 hv _⟩
        · intro l v W7 hS hb hl hJ
          have l7 := hl (7, some 49) (by simp)
          have l14 := hl (14, none) (by simp)
          have l15 := hl (15, none) (by simp)
          obtain ⟨b7, v12, hz7, hB7⟩ := hJ.a12 (hl (12, some 7) (by simp))
          obtain ⟨b8, v13, hz8, hB8⟩ := hJ.a13 (hl (13, some 8) (by simp))
          rw [if_pos l14] at hB7
          rw [if_pos l15] at hB8
          have v7 := hJ.a7 l7
          have v8 := hJ.a8 (hl (8, some 41) (by simp))
          have v9 := hJ.a9 (hl (9, some 50) (by simp))
          have v10 := hJ.a10 (hl (10, some 51) (by simp))
          have v11 := hJ.a11 (hl (11, some 52) (by simp))
          have hne := hJ.e (hl (12, some 7) (by simp)) (hl (13, some 8) (by simp))
          simp only [putM, if_true, v7, v8, v9, v10, v11, v12, v13]
          clear hJ v7 v8 v9 v10 v11 v12 v13 hl l7 l14 l15 hne
          have HK7 := Lib.hid (HK5.out.more hS)
          have HI7 := Lib.hid (HI5.out.below hS)
          have HN7 := Lib.hid hB7
          have HJ8 := Lib.hid hB8
          clear hS hb hB7 hB8
          repeat (refine pm_pure rfl (fun K hK => ?_); go_simp; refine hK _ ?_; clear hK K)
          refine pm_done ?_
          refine NoPanic.normal ?_
          rcases HBB.out.symm with ⟨hev, hbh⟩ | ⟨hev, hbh⟩
          · have hev0 : ((ev : Int) == 0) = false := by simpa using hev
            have HR2 : Hid (R = .no ev) := Lib.hid (by
              have := HRUN.out
              unfold stepK at this
              rw [if_neg (by rw [HCM.out]; simp), hbh] at this
              exact this.symm)
            clear hbh hev
            go_wp2
            exact bodyPost_ret (v := .tuple #[.slice none 0 0, .int .i64 (ev : Int)]) (by simp [results, Try.results12, go_sem]) rfl ⟨⟨_, rfl, by rw [HR2.out]; rfl⟩, HK7.out.b⟩
          have hev0 : ((ev : Int) == 0) = true := by rw [hev]; rfl
          have hm := (may_of HMB.out).1
          have HNR := Lib.hid (behind_right (by have := hm.imm; omega) (HRT.out n) hbh)
          have HJC : Hid (¬ (19 ≤ i.op ∧ i.op ≤ 22) → jx.come = false) := Lib.hid (fun h => by
            rcases q : jx.come with _ | _
            · rfl
            · exact absurd (behindB_jump hbh q) h)
          have hst : stepK ctx N n i K = if (nx.come = true ∧ N ≤ n + 1) ∨ ((19 ≤ i.op ∧ i.op ≤ 22) ∧ N ≤ n + 1 + i.off.toNat) then .no 164 else .ok (putK (putK K (n + 1) nx) (n + 1 + i.off.toNat) jx) := by
            unfold stepK
            rw [if_neg (by rw [HCM.out]; simp), hbh]
          have HST := Lib.hid hst
          have HIMM : Hid (i.imm ≤ 4294967295) := Lib.hid (by have := hm.imm; omega)
          have HOFF := Lib.hid hm.jmp
          clear hst hbh hev hm
          have hz6 : b6 < W5.heap.size := Blk.lt HI5.out
          have o0 : W7.cell? ⟨b6, 0, none⟩ = some (.int .i64 (i.op : Int)) := HI7.out.cell 0 (by omega)
          obtain ⟨jb, hjb⟩ : ∃ b : Bool, b = decide (19 ≤ i.op ∧ i.op ≤ 22) := ⟨_, rfl⟩
          go_upto_region 15 with fail
          go_cut [10] from 56 to 73 (fun s wx => s = .bool jb ∧ wx = W7)
          case first =>
            by_cases e1 : i.op = 19
            · have q1 : ((i.op : Int) == 19) = true := by rw [e1]; rfl
              go_wp2_with fail
              go_meet
              exact ⟨by rw [hjb, e1]; rfl, rfl⟩
            have q1 : ((i.op : Int) == 19) = false := by simp; omega
            by_cases e2 : i.op = 20
            · have q2 : ((i.op : Int) == 20) = true := by rw [e2]; rfl
              go_wp2_with fail
              go_meet
              exact ⟨by rw [hjb, e2]; rfl, rfl⟩
            have q2 : ((i.op : Int) == 20) = false := by simp; omega
            by_cases e3 : i.op = 21
            · have q3 : ((i.op : Int) == 21) = true := by rw [e3]; rfl
              go_wp2_with fail
              go_meet
              exact ⟨by rw [hjb, e3]; rfl, rfl⟩
            have q3 : ((i.op : Int) == 21) = false := by simp; omega
            by_cases e4 : i.op = 22
            · have q4 : ((i.op : Int) == 22) = true := by rw [e4]; rfl
              go_wp2_with fail
              go_meet
              exact ⟨by rw [hjb, e4]; rfl, rfl⟩
            have q4 : ((i.op : Int) == 22) = false := by simp; omega
            go_wp2_with fail
            go_meet
            exact ⟨by rw [hjb, decide_eq_false (by omega)], rfl⟩
          case rest =>
            obtain ⟨rfl, hwx⟩ := hcut
            obtain rfl := hwx.symm
            clear o0
            by_cases hbad : (nx.come = true ∧ N ≤ n + 1) ∨ ((19 ≤ i.op ∧ i.op ≤ 22) ∧ N ≤ n + 1 + i.off.toNat)
            · have HR2 : Hid (R = .no 164) := Lib.hid (by
                have := HRUN.out
                rw [HST.out, if_pos hbad] at this
                exact this.symm)
              rcases hcome : nx.come with _ | _
              · have hb2 : (19 ≤ i.op ∧ i.op ≤ 22) ∧ N ≤ n + 1 + i.off.toNat := by
                  rcases hbad with h | h
                  · rw [hcome] at h; exact absurd h.1 (by simp)
                  · exact h
                have hjt : jb = true := by rw [hjb]; exact decide_eq_true hb2.1
                subst hjt
                obtain ⟨o, ho⟩ : ∃ o : Nat, i.off = (o : Int) := ⟨i.off.toNat, by have := HOFF.out (by omega); omega⟩
                have HO := Lib.hid ho
                have ho2 : o ≤ 255 := by have := HOFF.out (by omega); omega
                have hto : i.off.toNat = o := by omega
                have hge : (N : Int) ≤ (n : Int) + 1 + (o : Int) := by omega
                clear hbad hb2 hjb ho hto
                have c7 : W7.cell? ⟨b7, 0, none⟩ = some (.bool false) := by have := HN7.out.cell 0 (by omega); rw [show knF nx 0 = .bool nx.come from rfl, hcome] at this; exact this
                have p7 : W7.cell? ⟨w.heap.size, 1, none⟩ = some (.slice (some a) N c) := HK7.out.c1
                have o7 : W7.cell? ⟨b6, 3, none⟩ = some (.int .i64 (o : Int)) := by have := HI7.out.cell 3 (by omega); rw [show (insCells i).getD 3 undef = .int .i64 i.off from rfl, HO.out] at this; exact this
                go_wp2
                exact bodyPost_ret (v := .tuple #[.slice none 0 0, .int .i64 164]) (by simp [results, Try.results12, go_sem]) rfl ⟨⟨_, rfl, by rw [HR2.out]; rfl⟩, HK7.out.b⟩
              · by_cases h1n : N ≤ n + 1
                · have hge : (N : Int) ≤ (n : Int) + 1 := by omega
                  clear hbad
                  have c7 : W7.cell? ⟨b7, 0, none⟩ = some (.bool true) := by have := HN7.out.cell 0 (by omega); rw [show knF nx 0 = .bool nx.come from rfl, hcome] at this; exact this
                  have p7 : W7.cell? ⟨w.heap.size, 1, none⟩ = some (.slice (some a) N c) := HK7.out.c1
                  have o7 : W7.cell? ⟨b6, 3, none⟩ = some (.int .i64 i.off) := HI7.out.cell 3 (by omega)
                  go_wp2
                  exact bodyPost_ret (v := .tuple #[.slice none 0 0, .int .i64 164]) (by simp [results, Try.results12, go_sem]) rfl ⟨⟨_, rfl, by rw [HR2.out]; rfl⟩, HK7.out.b⟩
                · have hb2 : (19 ≤ i.op ∧ i.op ≤ 22) ∧ N ≤ n + 1 + i.off.toNat := by
                    rcases hbad with h | h
                    · exact absurd h.2 h1n
                    · exact h
                  have hjt : jb = true := by rw [hjb]; exact decide_eq_true hb2.1
                  subst hjt
                  obtain ⟨o, ho⟩ : ∃ o : Nat, i.off = (o : Int) := ⟨i.off.toNat, by have := HOFF.out (by omega); omega⟩
                  have HO := Lib.hid ho
                  have ho2 : o ≤ 255 := by have := HOFF.out (by omega); omega
                  have hto : i.off.toNat = o := by omega
                  have hge : (N : Int) ≤ (n : Int) + 1 + (o : Int) := by omega
                  have hlt1 : (n : Int) + 1 < (N : Int) := by omega
                  clear hbad hb2 hjb ho hto
                  have c7 : W7.cell? ⟨b7, 0, none⟩ = some (.bool true) := by have := HN7.out.cell 0 (by omega); rw [show knF nx 0 = .bool nx.come from rfl, hcome] at this; exact this
                  have p7 : W7.cell? ⟨w.heap.size, 1, none⟩ = some (.slice (some a) N c) := HK7.out.c1
                  have o7 : W7.cell? ⟨b6, 3, none⟩ = some (.int .i64 (o : Int)) := by have := HI7.out.cell 3 (by omega); rw [show (insCells i).getD 3 undef = .int .i64 i.off from rfl, HO.out] at this; exact this
                  go_wp2
                  exact bodyPost_ret (v := .tuple #[.slice none 0 0, .int .i64 164]) (by simp [results, Try.results12, go_sem]) rfl ⟨⟨_, rfl, by rw [HR2.out]; rfl⟩, HK7.out.b⟩
            · obtain ⟨KK, hKK⟩ : ∃ KK, KK = putK (putK K (n + 1) nx) (n + 1 + i.off.toNat) jx := ⟨_, rfl⟩
              have hst2 : stepK ctx N n i K = .ok KK := by rw [HST.out, if_neg hbad, hKK]
              have HRUN2 : Hid (runK ctx N (is.drop (n + 1)) (n + 1) KK = R) := Lib.hid (by have := HRUN.out; rw [hst2] at this; exact this)
              have HRT2 : Hid (∀ b, (KK b).right) := Lib.hid (fun b => stepK_right HIMM.out hst2 HRT.out b)
              clear hst2
              rcases hcome : nx.come with _ | _
              · by_cases hjp : 19 ≤ i.op ∧ i.op ≤ 22
                · have hjt : jb = true := by rw [hjb]; exact decide_eq_true hjp
                  subst hjt
                  obtain ⟨o, ho⟩ : ∃ o : Nat, i.off = (o : Int) := ⟨i.off.toNat, by have := HOFF.out (by omega); omega⟩
                  have HO := Lib.hid ho
                  have ho2 : o ≤ 255 := by have := HOFF.out (by omega); omega
                  have hto : i.off.toNat = o := by omega
                  have h2n : n + 1 + o < N := by
                    rcases Nat.lt_or_ge (n + 1 + o) N with h | h
                    · exact h
                    · exact absurd (.inr ⟨hjp, by rw [hto]; exact h⟩) hbad
                  have hlt2 : (n : Int) + 1 + (o : Int) < (N : Int) := by omega
                  have HKK : Hid (KK = putK (putK K (n + 1) nx) (n + 1 + o) jx) := Lib.hid (by rw [hKK, hto])
                  clear hbad hjb ho hto hKK hjp
                  have c7 : W7.cell? ⟨b7, 0, none⟩ = some (.bool false) := by have := HN7.out.cell 0 (by omega); rw [show knF nx 0 = .bool nx.come from rfl, hcome] at this; exact this
                  have p7 : W7.cell? ⟨w.heap.size, 1, none⟩ = some (.slice (some a) N c) := HK7.out.c1
                  have o7 : W7.cell? ⟨b6, 3, none⟩ = some (.int .i64 (o : Int)) := by have := HI7.out.cell 3 (by omega); rw [show (insCells i).getD 3 undef = .int .i64 i.off from rfl, HO.out] at this; exact this
                  rcases hjc : jx.come with _ | _
                  · have c8 : W7.cell? ⟨b8, 0, none⟩ = some (.bool false) := by have := HJ8.out.cell 0 (by omega); rw [show knF jx 0 = .bool jx.come from rfl, hjc] at this; exact this

                    go_wp2
                    go_roundw
                    case rel => exact ⟨n + 1, KK, by omega, by go_num, by rw [show KK = K from by rw [HKK.out]; simp only [putK, hcome, hjc, Bool.false_eq_true, if_false, if_true]]; exact HK7.out, HRUN2.out, HRT2.out⟩
                    case measure => simp [intOf]; omega
                  · have c8 : W7.cell? ⟨b8, 0, none⟩ = some (.bool true) := by have := HJ8.out.cell 0 (by omega); rw [show knF jx 0 = .bool jx.come from rfl, hjc] at this; exact this
                    go_upto_region 21 with fail
                    clear c8
                    clear c7 p7 o7
                    have HRX : Hid ((K) (n + 1 + o)).right := Lib.hid (HRT.out _)

                    obtain ⟨Web, hWeb⟩ : ∃ We, We = W7.drew := ⟨_, rfl⟩
                    have hbeb : Below W7.heap.size W7 Web := by rw [hWeb]; exact (Below.refl _ _).drew
                    refine wp_region_noPanic ?_
                    refine planM (.rd 0 (.rd 1 (.rd 2 (.rd 3 (.rd 4 (.rd 5 (.rd 6 (.rd 7 (.rd 8 (.rd 9 (.rd 10 (.rd 11 (.rd 12 (.rd 13 (.rd 14 (.eff 15 (.rd 16 (.eff 17 .done)))))))))))))))))) [0, 1, 2, 3, 4, 5, 6, 7, 8, 9, 10, 11, 12, 13, 14, 15, 16] (fun W => Below W7.heap.size W7 W) (by kernel_rfl) (by kernel_rfl) (fun _ _ _ _ _ h => h) (by rw [← hWeb]; exact hbeb) ?_
                    rw [← hWeb]
                    clear hWeb
                    have HBEb := Lib.hid hbeb; clear hbeb
                    refine pm_pure rfl (fun K hK => ?_); go_simp; refine hK _ ?_; clear hK K
                    refine pm_pure rfl (fun K hK => ?_); go_simp; refine hK _ ?_; clear hK K
                    refine pm_rdv 115 (.int .i64 ((n + 1 : Nat) : Int)) rfl rfl rfl (fun W hS => exec_add (.tmp 114) (.const (.int .i64 1)) rfl (p := n) (q := 1) (by kernel_rfl) (by kernel_rfl) (by omega)) ?_
                    refine pm_pure rfl (fun K hK => ?_); go_simp; refine hK _ ?_; clear hK K
                    refine pm_rdv 117 (.int .i64 (o : Int)) rfl rfl rfl (fun W hS => ?_) ?_
                    · have f0 : W.cell? ⟨b6, 3, none⟩ = some (.int .i64 (o : Int)) := by have := (HI7.out.below hS).cell 3 (by omega); rw [show (insCells i).getD 3 undef = .int .i64 i.off from rfl, HO.out] at this; exact this
                      simp [go_sem, f0]
                    refine pm_rdv 118 (.int .i64 (((n + 1) + o : Nat) : Int)) rfl rfl rfl (fun W hS => exec_add (.tmp 115) (.tmp 117) rfl (p := (n + 1)) (q := o) (by kernel_rfl) (by kernel_rfl) (by omega)) ?_
                    refine pm_pure rfl (fun K hK => ?_); go_simp; refine hK _ ?_; clear hK K
                    refine pm_pure rfl (fun K hK => ?_); go_simp; refine hK _ ?_; clear hK K
                    refine pm_rdv 121 (.int .i64 ((n + 1 : Nat) : Int)) rfl rfl rfl (fun W hS => exec_add (.tmp 120) (.const (.int .i64 1)) rfl (p := n) (q := 1) (by kernel_rfl) (by kernel_rfl) (by omega)) ?_
                    refine pm_pure rfl (fun K hK => ?_); go_simp; refine hK _ ?_; clear hK K
                    refine pm_rdv 123 (.int .i64 (o : Int)) rfl rfl rfl (fun W hS => ?_) ?_
                    · have f0 : W.cell? ⟨b6, 3, none⟩ = some (.int .i64 (o : Int)) := by have := (HI7.out.below hS).cell 3 (by omega); rw [show (insCells i).getD 3 undef = .int .i64 i.off from rfl, HO.out] at this; exact this
                      simp [go_sem, f0]
                    refine pm_rdv 124 (.int .i64 (((n + 1) + o : Nat) : Int)) rfl rfl rfl (fun W hS => exec_add (.tmp 121) (.tmp 123) rfl (p := (n + 1)) (q := o) (by kernel_rfl) (by kernel_rfl) (by omega)) ?_
                    refine pm_rdv 125 (.pointer (some ⟨g, (n + 1 + o) * 31, none⟩)) rfl rfl rfl (fun W hS => exec_idx (.tmp 119) (.tmp 124) rfl (by kernel_rfl) (by kernel_rfl) h2n) ?_
                    refine pm_rdv 126 (.agg (knL (K (n + 1 + o))).toArray) rfl rfl rfl (fun W hS => exec_load_mid 42 (.tmp 125) rfl g ((n + 1 + o) * 31) (by kernel_rfl) (knL (K (n + 1 + o))) _ ((HK7.out.more hS).k.rg (n + 1 + o) h2n) Try.underlying42 rfl (by rw [knL_length]; exact info_kn)) ?_
                    refine pm_rdv 127 (.agg (knL jx).toArray) rfl rfl rfl (fun W hS => exec_load_mid 42 (.tmp 8) rfl b8 0 (by kernel_rfl) (knL jx) _ (by have := (HJ8.out.below hS).range; exact this) Try.underlying42 rfl (by rw [knL_length]; exact info_kn)) ?_
                    refine pm_eff rfl rfl (fun K' hK => ?_)
                    refine wp_calls_ret (f := 25) (args := #[.agg (knL (K (n + 1 + o))).toArray, .agg (knL jx).toArray]) (by kernel_rfl) (join_ok Web _ _ HRX.out HNR.out.2) (fun W8 hb8 => ?_)
                    have HB8b := Lib.hid (HBEb.out.trans (hb8.mono HBEb.out.size)); clear hb8
                    refine hK _ _ (fun _ => HB8b.out) ?_
                    clear hK K'
                    refine pm_rdv 129 (.pointer (some ⟨g, (n + 1 + o) * 31, none⟩)) rfl rfl rfl (fun W hS => exec_idx (.tmp 113) (.tmp 118) rfl (by kernel_rfl) (by kernel_rfl) h2n) ?_
                    have HK8b := Lib.hid (HK7.out.more HB8b.out)
                    refine pm_store rfl rfl rfl 42 (.tmp 129) (.tmp 128) rfl g ((n + 1 + o) * 31) (knL (joinK (K (n + 1 + o)) jx)).toArray (by kernel_rfl) (by kernel_rfl) (by rw [knA_size]; exact HK8b.out.k.there (n + 1 + o) h2n) (by rw [knA_size]; exact info_kn) (knL_one _) (fun h => by cases h) ?_
                    rw [knL_tl]
                    obtain ⟨W11, HW9b, HK9b, HP9b⟩ := HK8b.out.put (n + 1 + o) (joinK (K (n + 1 + o)) jx)
                    rw [show rowF 31 (knF (joinK (K (n + 1 + o)) jx)) = knL (joinK (K (n + 1 + o)) jx) from rfl, ← HW9b.out]
                    refine pm_done ?_
                    refine NoPanic.normal ?_

                    go_wp2
                    go_roundw
                    case rel => exact ⟨n + 1, KK, by omega, by go_num, by rw [show KK = upd (K) (n + 1 + o) (joinK ((K) (n + 1 + o)) jx) from by rw [HKK.out]; simp only [putK, hcome, hjc, Bool.false_eq_true, if_false, if_true]]; exact HK9b.out, HRUN2.out, HRT2.out⟩
                    case measure => simp [intOf]; omega
                · have hjt : jb = false := by rw [hjb]; exact decide_eq_false hjp
                  subst hjt
                  have HKK := Lib.hid hKK
                  clear hbad hjb hKK
                  have c7 : W7.cell? ⟨b7, 0, none⟩ = some (.bool false) := by have := HN7.out.cell 0 (by omega); rw [show knF nx 0 = .bool nx.come from rfl, hcome] at this; exact this
                  have p7 : W7.cell? ⟨w.heap.size, 1, none⟩ = some (.slice (some a) N c) := HK7.out.c1
                  have o7 : W7.cell? ⟨b6, 3, none⟩ = some (.int .i64 i.off) := HI7.out.cell 3 (by omega)
                  have hjc : jx.come = false := HJC.out hjp

                  have c8 : W7.cell? ⟨b8, 0, none⟩ = some (.bool false) := by have := HJ8.out.cell 0 (by omega); rw [show knF jx 0 = .bool jx.come from rfl, hjc] at this; exact this

                  go_wp2
                  go_roundw
                  case rel => exact ⟨n + 1, KK, by omega, by go_num, by rw [show KK = K from by rw [HKK.out]; simp only [putK, hcome, hjc, Bool.false_eq_true, if_false, if_true]]; exact HK7.out, HRUN2.out, HRT2.out⟩
                  case measure => simp [intOf]; omega
              · have h1n : n + 1 < N := by
                  rcases Nat.lt_or_ge (n + 1) N with h | h
                  · exact h
                  · exact absurd (.inl ⟨hcome, h⟩) hbad
                have hlt1 : (n : Int) + 1 < (N : Int) := by omega
                by_cases hjp : 19 ≤ i.op ∧ i.op ≤ 22
                · have hjt : jb = true := by rw [hjb]; exact decide_eq_true hjp
                  subst hjt
                  obtain ⟨o, ho⟩ : ∃ o : Nat, i.off = (o : Int) := ⟨i.off.toNat, by have := HOFF.out (by omega); omega⟩
                  have HO := Lib.hid ho
                  have ho2 : o ≤ 255 := by have := HOFF.out (by omega); omega
                  have hto : i.off.toNat = o := by omega
                  have h2n : n + 1 + o < N := by
                    rcases Nat.lt_or_ge (n + 1 + o) N with h | h
                    · exact h
                    · exact absurd (.inr ⟨hjp, by rw [hto]; exact h⟩) hbad
                  have hlt2 : (n : Int) + 1 + (o : Int) < (N : Int) := by omega
                  have HKK : Hid (KK = putK (putK K (n + 1) nx) (n + 1 + o) jx) := Lib.hid (by rw [hKK, hto])
                  clear hbad hjb ho hto hKK hjp
                  have c7 : W7.cell? ⟨b7, 0, none⟩ = some (.bool true) := by have := HN7.out.cell 0 (by omega); rw [show knF nx 0 = .bool nx.come from rfl, hcome] at this; exact this
                  have p7 : W7.cell? ⟨w.heap.size, 1, none⟩ = some (.slice (some a) N c) := HK7.out.c1
                  have o7 : W7.cell? ⟨b6, 3, none⟩ = some (.int .i64 (o : Int)) := by have := HI7.out.cell 3 (by omega); rw [show (insCells i).getD 3 undef = .int .i64 i.off from rfl, HO.out] at this; exact this
                  go_upto_region 19 with fail
                  clear c7 p7 o7

                  obtain ⟨Wea, hWea⟩ : ∃ We, We = W7.drew := ⟨_, rfl⟩
                  have hbea : Below W7.heap.size W7 Wea := by rw [hWea]; exact (Below.refl _ _).drew
                  refine wp_region_noPanic ?_
                  refine planM (.rd 0 (.rd 1 (.rd 2 (.rd 3 (.rd 4 (.rd 5 (.rd 6 (.rd 7 (.rd 8 (.eff 9 (.rd 10 (.eff 11 .done)))))))))))) [0, 1, 2, 3, 4, 5, 6, 7, 8, 9, 10] (fun W => Below W7.heap.size W7 W) (by kernel_rfl) (by kernel_rfl) (fun _ _ _ _ _ h => h) (by rw [← hWea]; exact hbea) ?_
                  rw [← hWea]
                  clear hWea
                  have HBEa := Lib.hid hbea; clear hbea
                  refine pm_pure rfl (fun K hK => ?_); go_simp; refine hK _ ?_; clear hK K
                  refine pm_pure rfl (fun K hK => ?_); go_simp; refine hK _ ?_; clear hK K
                  refine pm_rdv 102 (.int .i64 ((n + 1 : Nat) : Int)) rfl rfl rfl (fun W hS => exec_add (.tmp 101) (.const (.int .i64 1)) rfl (p := n) (q := 1) (by kernel_rfl) (by kernel_rfl) (by omega)) ?_
                  refine pm_pure rfl (fun K hK => ?_); go_simp; refine hK _ ?_; clear hK K
                  refine pm_pure rfl (fun K hK => ?_); go_simp; refine hK _ ?_; clear hK K
                  refine pm_rdv 105 (.int .i64 ((n + 1 : Nat) : Int)) rfl rfl rfl (fun W hS => exec_add (.tmp 104) (.const (.int .i64 1)) rfl (p := n) (q := 1) (by kernel_rfl) (by kernel_rfl) (by omega)) ?_
                  refine pm_rdv 106 (.pointer (some ⟨g, (n + 1) * 31, none⟩)) rfl rfl rfl (fun W hS => exec_idx (.tmp 103) (.tmp 105) rfl (by kernel_rfl) (by kernel_rfl) h1n) ?_
                  refine pm_rdv 107 (.agg (knL (K (n + 1))).toArray) rfl rfl rfl (fun W hS => exec_load_mid 42 (.tmp 106) rfl g ((n + 1) * 31) (by kernel_rfl) (knL (K (n + 1))) _ ((HK7.out.more hS).k.rg (n + 1) h1n) Try.underlying42 rfl (by rw [knL_length]; exact info_kn)) ?_
                  refine pm_rdv 108 (.agg (knL nx).toArray) rfl rfl rfl (fun W hS => exec_load_mid 42 (.tmp 7) rfl b7 0 (by kernel_rfl) (knL nx) _ (by have := (HN7.out.below hS).range; exact this) Try.underlying42 rfl (by rw [knL_length]; exact info_kn)) ?_
                  refine pm_eff rfl rfl (fun K' hK => ?_)
                  refine wp_calls_ret (f := 25) (args := #[.agg (knL (K (n + 1))).toArray, .agg (knL nx).toArray]) (by kernel_rfl) (join_ok Wea _ _ (HRT.out _) HNR.out.1) (fun W8 hb8 => ?_)
                  have HB8a := Lib.hid (HBEa.out.trans (hb8.mono HBEa.out.size)); clear hb8
                  refine hK _ _ (fun _ => HB8a.out) ?_
                  clear hK K'
                  refine pm_rdv 110 (.pointer (some ⟨g, (n + 1) * 31, none⟩)) rfl rfl rfl (fun W hS => exec_idx (.tmp 100) (.tmp 102) rfl (by kernel_rfl) (by kernel_rfl) h1n) ?_
                  have HK8a := Lib.hid (HK7.out.more HB8a.out)
                  refine pm_store rfl rfl rfl 42 (.tmp 110) (.tmp 109) rfl g ((n + 1) * 31) (knL (joinK (K (n + 1)) nx)).toArray (by kernel_rfl) (by kernel_rfl) (by rw [knA_size]; exact HK8a.out.k.there (n + 1) h1n) (by rw [knA_size]; exact info_kn) (knL_one _) (fun h => by cases h) ?_
                  rw [knL_tl]
                  obtain ⟨W9, HW9a, HK9a, HP9a⟩ := HK8a.out.put (n + 1) (joinK (K (n + 1)) nx)
                  rw [show rowF 31 (knF (joinK (K (n + 1)) nx)) = knL (joinK (K (n + 1)) nx) from rfl, ← HW9a.out]
                  refine pm_done ?_
                  refine NoPanic.normal ?_

                  have HJ9 := Lib.hid ((HJ8.out.below HB8a.out).keep HP9a.out (by show ¬ b8 = g; omega))
                  have HI9 := Lib.hid ((HI7.out.below HB8a.out).keep HP9a.out (by show ¬ b6 = g; omega))
                  rcases hjc : jx.come with _ | _
                  · have c8 : W9.cell? ⟨b8, 0, none⟩ = some (.bool false) := by have := HJ9.out.cell 0 (by omega); rw [show knF jx 0 = .bool jx.come from rfl, hjc] at this; exact this

                    go_wp2
                    go_roundw
                    case rel => exact ⟨n + 1, KK, by omega, by go_num, by rw [show KK = upd K (n + 1) (joinK (K (n + 1)) nx) from by rw [HKK.out]; simp only [putK, hcome, hjc, Bool.false_eq_true, if_false, if_true]]; exact HK9a.out, HRUN2.out, HRT2.out⟩
                    case measure => simp [intOf]; omega
                  · have c8 : W9.cell? ⟨b8, 0, none⟩ = some (.bool true) := by have := HJ9.out.cell 0 (by omega); rw [show knF jx 0 = .bool jx.come from rfl, hjc] at this; exact this
                    go_upto_region 21 with fail
                    clear c8
                    have HRX : Hid ((upd K (n + 1) (joinK (K (n + 1)) nx)) (n + 1 + o)).right := Lib.hid (by
                      unfold upd
                      split
                      · exact join_right (HRT.out _) HNR.out.1
                      · exact HRT.out _)

                    obtain ⟨Web, hWeb⟩ : ∃ We, We = W9.drew := ⟨_, rfl⟩
                    have hbeb : Below W9.heap.size W9 Web := by rw [hWeb]; exact (Below.refl _ _).drew
                    refine wp_region_noPanic ?_
                    refine planM (.rd 0 (.rd 1 (.rd 2 (.rd 3 (.rd 4 (.rd 5 (.rd 6 (.rd 7 (.rd 8 (.rd 9 (.rd 10 (.rd 11 (.rd 12 (.rd 13 (.rd 14 (.eff 15 (.rd 16 (.eff 17 .done)))))))))))))))))) [0, 1, 2, 3, 4, 5, 6, 7, 8, 9, 10, 11, 12, 13, 14, 15, 16] (fun W => Below W9.heap.size W9 W) (by kernel_rfl) (by kernel_rfl) (fun _ _ _ _ _ h => h) (by rw [← hWeb]; exact hbeb) ?_
                    rw [← hWeb]
                    clear hWeb
                    have HBEb := Lib.hid hbeb; clear hbeb
                    refine pm_pure rfl (fun K hK => ?_); go_simp; refine hK _ ?_; clear hK K
                    refine pm_pure rfl (fun K hK => ?_); go_simp; refine hK _ ?_; clear hK K
                    refine pm_rdv 115 (.int .i64 ((n + 1 : Nat) : Int)) rfl rfl rfl (fun W hS => exec_add (.tmp 114) (.const (.int .i64 1)) rfl (p := n) (q := 1) (by kernel_rfl) (by kernel_rfl) (by omega)) ?_
                    refine pm_pure rfl (fun K hK => ?_); go_simp; refine hK _ ?_; clear hK K
                    refine pm_rdv 117 (.int .i64 (o : Int)) rfl rfl rfl (fun W hS => ?_) ?_
                    · have f0 : W.cell? ⟨b6, 3, none⟩ = some (.int .i64 (o : Int)) := by have := (HI9.out.below hS).cell 3 (by omega); rw [show (insCells i).getD 3 undef = .int .i64 i.off from rfl, HO.out] at this; exact this
                      simp [go_sem, f0]
                    refine pm_rdv 118 (.int .i64 (((n + 1) + o : Nat) : Int)) rfl rfl rfl (fun W hS => exec_add (.tmp 115) (.tmp 117) rfl (p := (n + 1)) (q := o) (by kernel_rfl) (by kernel_rfl) (by omega)) ?_
                    refine pm_pure rfl (fun K hK => ?_); go_simp; refine hK _ ?_; clear hK K
                    refine pm_pure rfl (fun K hK => ?_); go_simp; refine hK _ ?_; clear hK K
                    refine pm_rdv 121 (.int .i64 ((n + 1 : Nat) : Int)) rfl rfl rfl (fun W hS => exec_add (.tmp 120) (.const (.int .i64 1)) rfl (p := n) (q := 1) (by kernel_rfl) (by kernel_rfl) (by omega)) ?_
                    refine pm_pure rfl (fun K hK => ?_); go_simp; refine hK _ ?_; clear hK K
                    refine pm_rdv 123 (.int .i64 (o : Int)) rfl rfl rfl (fun W hS => ?_) ?_
                    · have f0 : W.cell? ⟨b6, 3, none⟩ = some (.int .i64 (o : Int)) := by have := (HI9.out.below hS).cell 3 (by omega); rw [show (insCells i).getD 3 undef = .int .i64 i.off from rfl, HO.out] at this; exact this
                      simp [go_sem, f0]
                    refine pm_rdv 124 (.int .i64 (((n + 1) + o : Nat) : Int)) rfl rfl rfl (fun W hS => exec_add (.tmp 121) (.tmp 123) rfl (p := (n + 1)) (q := o) (by kernel_rfl) (by kernel_rfl) (by omega)) ?_
                    refine pm_rdv 125 (.pointer (some ⟨g, (n + 1 + o) * 31, none⟩)) rfl rfl rfl (fun W hS => exec_idx (.tmp 119) (.tmp 124) rfl (by kernel_rfl) (by kernel_rfl) h2n) ?_
                    refine pm_rdv 126 (.agg (knL ((upd K (n + 1) (joinK (K (n + 1)) nx)) (n + 1 + o))).toArray) rfl rfl rfl (fun W hS => exec_load_mid 42 (.tmp 125) rfl g ((n + 1 + o) * 31) (by kernel_rfl) (knL ((upd K (n + 1) (joinK (K (n + 1)) nx)) (n + 1 + o))) _ ((HK9a.out.more hS).k.rg (n + 1 + o) h2n) Try.underlying42 rfl (by rw [knL_length]; exact info_kn)) ?_
                    refine pm_rdv 127 (.agg (knL jx).toArray) rfl rfl rfl (fun W hS => exec_load_mid 42 (.tmp 8) rfl b8 0 (by kernel_rfl) (knL jx) _ (by have := (HJ9.out.below hS).range; exact this) Try.underlying42 rfl (by rw [knL_length]; exact info_kn)) ?_
                    refine pm_eff rfl rfl (fun K' hK => ?_)
                    refine wp_calls_ret (f := 25) (args := #[.agg (knL ((upd K (n + 1) (joinK (K (n + 1)) nx)) (n + 1 + o))).toArray, .agg (knL jx).toArray]) (by kernel_rfl) (join_ok Web _ _ HRX.out HNR.out.2) (fun W8 hb8 => ?_)
                    have HB8b := Lib.hid (HBEb.out.trans (hb8.mono HBEb.out.size)); clear hb8
                    refine hK _ _ (fun _ => HB8b.out) ?_
                    clear hK K'
                    refine pm_rdv 129 (.pointer (some ⟨g, (n + 1 + o) * 31, none⟩)) rfl rfl rfl (fun W hS => exec_idx (.tmp 113) (.tmp 118) rfl (by kernel_rfl) (by kernel_rfl) h2n) ?_
                    have HK8b := Lib.hid (HK9a.out.more HB8b.out)
                    refine pm_store rfl rfl rfl 42 (.tmp 129) (.tmp 128) rfl g ((n + 1 + o) * 31) (knL (joinK ((upd K (n + 1) (joinK (K (n + 1)) nx)) (n + 1 + o)) jx)).toArray (by kernel_rfl) (by kernel_rfl) (by rw [knA_size]; exact HK8b.out.k.there (n + 1 + o) h2n) (by rw [knA_size]; exact info_kn) (knL_one _) (fun h => by cases h) ?_
                    rw [knL_tl]
                    obtain ⟨W11, HW9b, HK9b, HP9b⟩ := HK8b.out.put (n + 1 + o) (joinK ((upd K (n + 1) (joinK (K (n + 1)) nx)) (n + 1 + o)) jx)
                    rw [show rowF 31 (knF (joinK ((upd K (n + 1) (joinK (K (n + 1)) nx)) (n + 1 + o)) jx)) = knL (joinK ((upd K (n + 1) (joinK (K (n + 1)) nx)) (n + 1 + o)) jx) from rfl, ← HW9b.out]
                    refine pm_done ?_
                    refine NoPanic.normal ?_

                    go_wp2
                    go_roundw
                    case rel => exact ⟨n + 1, KK, by omega, by go_num, by rw [show KK = upd (upd K (n + 1) (joinK (K (n + 1)) nx)) (n + 1 + o) (joinK ((upd K (n + 1) (joinK (K (n + 1)) nx)) (n + 1 + o)) jx) from by rw [HKK.out]; simp only [putK, hcome, hjc, if_true]]; exact HK9b.out, HRUN2.out, HRT2.out⟩
                    case measure => simp [intOf]; omega
                · have hjt : jb = false := by rw [hjb]; exact decide_eq_false hjp
                  subst hjt
                  have HKK := Lib.hid hKK
                  clear hbad hjb hKK
                  have c7 : W7.cell? ⟨b7, 0, none⟩ = some (.bool true) := by have := HN7.out.cell 0 (by omega); rw [show knF nx 0 = .bool nx.come from rfl, hcome] at this; exact this
                  have p7 : W7.cell? ⟨w.heap.size, 1, none⟩ = some (.slice (some a) N c) := HK7.out.c1
                  have o7 : W7.cell? ⟨b6, 3, none⟩ = some (.int .i64 i.off) := HI7.out.cell 3 (by omega)
                  go_upto_region 19 with fail
                  clear c7 p7 o7

                  obtain ⟨Wea, hWea⟩ : ∃ We, We = W7.drew := ⟨_, rfl⟩
                  have hbea : Below W7.heap.size W7 Wea := by rw [hWea]; exact (Below.refl _ _).drew
                  refine wp_region_noPanic ?_
                  refine planM (.rd 0 (.rd 1 (.rd 2 (.rd 3 (.rd 4 (.rd 5 (.rd 6 (.rd 7 (.rd 8 (.eff 9 (.rd 10 (.eff 11 .done)))))))))))) [0, 1, 2, 3, 4, 5, 6, 7, 8, 9, 10] (fun W => Below W7.heap.size W7 W) (by kernel_rfl) (by kernel_rfl) (fun _ _ _ _ _ h => h) (by rw [← hWea]; exact hbea) ?_
                  rw [← hWea]
                  clear hWea
                  have HBEa := Lib.hid hbea; clear hbea
                  refine pm_pure rfl (fun K hK => ?_); go_simp; refine hK _ ?_; clear hK K
                  refine pm_pure rfl (fun K hK => ?_); go_simp; refine hK _ ?_; clear hK K
                  refine pm_rdv 102 (.int .i64 ((n + 1 : Nat) : Int)) rfl rfl rfl (fun W hS => exec_add (.tmp 101) (.const (.int .i64 1)) rfl (p := n) (q := 1) (by kernel_rfl) (by kernel_rfl) (by omega)) ?_
                  refine pm_pure rfl (fun K hK => ?_); go_simp; refine hK _ ?_; clear hK K
                  refine pm_pure rfl (fun K hK => ?_); go_simp; refine hK _ ?_; clear hK K
                  refine pm_rdv 105 (.int .i64 ((n + 1 : Nat) : Int)) rfl rfl rfl (fun W hS => exec_add (.tmp 104) (.const (.int .i64 1)) rfl (p := n) (q := 1) (by kernel_rfl) (by kernel_rfl) (by omega)) ?_
                  refine pm_rdv 106 (.pointer (some ⟨g, (n + 1) * 31, none⟩)) rfl rfl rfl (fun W hS => exec_idx (.tmp 103) (.tmp 105) rfl (by kernel_rfl) (by kernel_rfl) h1n) ?_
                  refine pm_rdv 107 (.agg (knL (K (n + 1))).toArray) rfl rfl rfl (fun W hS => exec_load_mid 42 (.tmp 106) rfl g ((n + 1) * 31) (by kernel_rfl) (knL (K (n + 1))) _ ((HK7.out.more hS).k.rg (n + 1) h1n) Try.underlying42 rfl (by rw [knL_length]; exact info_kn)) ?_
                  refine pm_rdv 108 (.agg (knL nx).toArray) rfl rfl rfl (fun W hS => exec_load_mid 42 (.tmp 7) rfl b7 0 (by kernel_rfl) (knL nx) _ (by have := (HN7.out.below hS).range; exact this) Try.underlying42 rfl (by rw [knL_length]; exact info_kn)) ?_
                  refine pm_eff rfl rfl (fun K' hK => ?_)
                  refine wp_calls_ret (f := 25) (args := #[.agg (knL (K (n + 1))).toArray, .agg (knL nx).toArray]) (by kernel_rfl) (join_ok Wea _ _ (HRT.out _) HNR.out.1) (fun W8 hb8 => ?_)
                  have HB8a := Lib.hid (HBEa.out.trans (hb8.mono HBEa.out.size)); clear hb8
                  refine hK _ _ (fun _ => HB8a.out) ?_
                  clear hK K'
                  refine pm_rdv 110 (.pointer (some ⟨g, (n + 1) * 31, none⟩)) rfl rfl rfl (fun W hS => exec_idx (.tmp 100) (.tmp 102) rfl (by kernel_rfl) (by kernel_rfl) h1n) ?_
                  have HK8a := Lib.hid (HK7.out.more HB8a.out)
                  refine pm_store rfl rfl rfl 42 (.tmp 110) (.tmp 109) rfl g ((n + 1) * 31) (knL (joinK (K (n + 1)) nx)).toArray (by kernel_rfl) (by kernel_rfl) (by rw [knA_size]; exact HK8a.out.k.there (n + 1) h1n) (by rw [knA_size]; exact info_kn) (knL_one _) (fun h => by cases h) ?_
                  rw [knL_tl]
                  obtain ⟨W9, HW9a, HK9a, HP9a⟩ := HK8a.out.put (n + 1) (joinK (K (n + 1)) nx)
                  rw [show rowF 31 (knF (joinK (K (n + 1)) nx)) = knL (joinK (K (n + 1)) nx) from rfl, ← HW9a.out]
                  refine pm_done ?_
                  refine NoPanic.normal ?_

                  have HJ9 := Lib.hid ((HJ8.out.below HB8a.out).keep HP9a.out (by show ¬ b8 = g; omega))
                  have HI9 := Lib.hid ((HI7.out.below HB8a.out).keep HP9a.out (by show ¬ b6 = g; omega))
                  have hjc : jx.come = false := HJC.out hjp

                  have c8 : W9.cell? ⟨b8, 0, none⟩ = some (.bool false) := by have := HJ9.out.cell 0 (by omega); rw [show knF jx 0 = .bool jx.come from rfl, hjc] at this; exact this

                  go_wp2
                  go_roundw
                  case rel => exact ⟨n + 1, KK, by omega, by go_num, by rw [show KK = upd K (n + 1) (joinK (K (n + 1)) nx) from by rw [HKK.out]; simp only [putK, hcome, hjc, Bool.false_eq_true, if_false, if_true]]; exact HK9a.out, HRUN2.out, HRT2.out⟩
                  case measure => simp [intOf]; omega

    · obtain rfl : n = N := by omega
      have hR2 : R = .ok K := by
        rw [← hrun, List.drop_of_length_le (by rw [← HN.out]; exact Nat.le_refl _)]; rfl
      have HC := Lib.hid hc
      have HR2 := Lib.hid hR2
      clear hc hrun hR2
      go_wp2
      have hres : KnR w wr n R (.tuple #[.slice (some ⟨g, 0, none⟩) n n, .int .i64 0]) := by
        rw [HR2.out]
        exact ⟨g, by have := HG.out; omega, rfl, HC.out.k⟩
      exact bodyPost_ret (v := .tuple #[.slice (some ⟨g, 0, none⟩) n n, .int .i64 0]) (by simp [results, Try.results12, go_sem]) rfl ⟨⟨_, rfl, hres⟩, HC.out.b⟩
end Go.Proofs.Ytjlddhnjbjhmkaa
namespace Go.Proofs.Ytjlddhnjbjhmkaa
open Go.RowKit

def ofZ (z : InsZ) : Ins8 := ⟨z.op.toNat, z.dst.toNat, z.src.toNat, z.off, z.imm⟩
theorem ofZ_z {z : InsZ} (h : mayB z = true) : (ofZ z).z = z := by
  obtain ⟨j, hj, hm⟩ := may_ins h
  subst hj
  cases j
  simp [ofZ, Ins8.z]
/-- What is known ahead of each instruction of any extension, or an error. -/
def knownZ (ctx : Int) (pr : List InsZ) : KR := if checkN ctx pr ≠ 0 then .no (checkN ctx pr).toNat else if pr = [] then .no 160 else runK ctx.toNat pr.length (pr.map ofZ) 0 K0
theorem checkN_cases (ctx : Int) (pr : List InsZ) : checkN ctx pr = 0 ∨ checkN ctx pr = 2 ∨ checkN ctx pr = 3 := by
  unfold checkN
  repeat' split
  all_goals simp
theorem checkN_zero {ctx : Int} {pr : List InsZ} (h : checkN ctx pr = 0) : (0 ≤ ctx ∧ ctx ≤ 256) ∧ (∀ z, z ∈ pr → mayB z = true) ∧ pr.length ≤ 256 := by
  unfold checkN at h
  split at h
  · cases h
  · split at h
    · cases h
    · split at h
      · cases h
      · rename_i h1 h2 h3
        refine ⟨by omega, ?_, by omega⟩
        have h4 : pr.all mayB = true := by simpa using h2
        exact List.all_eq_true.1 h4
theorem map_ofZ {pr : List InsZ} (h : ∀ z, z ∈ pr → mayB z = true) : (pr.map ofZ).map Ins8.z = pr := by
  rw [List.map_map]
  exact (List.map_congr_left fun z hz => ofZ_z (h z hz)).trans (List.map_id pr)

set_option maxRecDepth 100000 in
set_option maxHeartbeats 1000000 in
theorem known_stop (w : World) (ctx : Int) (A : Option Addr) (n c : Nat) (L : List Value) (hs : Sl w Any 5 A n c L) (e : Int) (hw : e ≠ 0 ∨ (e = 0 ∧ n = 0)) (hck : ∀ W, Sl W Any 5 A n c L → Calls Try.prog 24 #[.agg #[.int .i64 ctx, .slice A n c]] W fun e' w' => e' = .returned (.int .i64 e) ∧ Below W.heap.size W w') :
    Calls Try.prog 12 #[.agg #[.int .i64 ctx, .slice A n c]] w fun e' w' => e' = .returned (.tuple #[.slice none 0 0, .int .i64 (if e = 0 then 160 else e)]) ∧ Below w.heap.size w w' := by
  have HCK := Lib.hid hck
  have HS := Lib.hid hs
  clear hck hs
  go_enter Try.func12, Try.ntmps12
  go_upto_region 1 with fail
  obtain ⟨W1, hW1⟩ : ∃ W1, W1 = w.alloc (.cells #[.int .i64 ctx, .slice A n c] 24) := ⟨_, rfl⟩
  have hb1 : Below w.heap.size w W1 := by rw [hW1]; exact (Below.refl _ _).alloc (Nat.le_refl _) _
  have hp1 : Blk W1 w.heap.size 24 2 (pgF ctx A n c) := by rw [hW1]; exact pgB w ctx A n c
  rw [← hW1]
  have hs1 : Sl W1 Any 5 A n c L := HS.out.move (Mv.of_below hb1 Any)
  have HB1 := Lib.hid hb1; have HP1 := Lib.hid hp1; have HS1 := Lib.hid hs1
  clear hW1 hb1 hp1 hs1
  have c10 : W1.cell? ⟨w.heap.size, 0, none⟩ = some (.int .i64 ctx) := HP1.out.cell 0 (by omega)
  have c11 : W1.cell? ⟨w.heap.size, 1, none⟩ = some (.slice A n c) := HP1.out.cell 1 (by omega)
  go_upto_region 2 with (go_at_call 24; (with_reducible refine (HCK.out _ HS1.out).mono ?_); rintro e' W2 ⟨rfl, hb2⟩; have HB2 := Lib.hid hb2; clear hb2)
  clear c10 c11
  have HP2 := Lib.hid (HP1.out.below HB2.out)
  have HBB2 := Lib.hid (HB1.out.trans (HB2.out.mono HB1.out.size))
  have c21 : W2.cell? ⟨w.heap.size, 1, none⟩ = some (.slice A n c) := HP2.out.cell 1 (by omega)
  rcases hw with hw | ⟨rfl, rfl⟩
  · have he : (e == 0) = false := by simpa using hw
    go_wp2
    exact bodyPost_ret (v := .tuple #[.slice none 0 0, .int .i64 e]) (by simp [results, Try.results12, go_sem]) rfl ⟨(by first | rfl | rw [if_neg hw]), HBB2.out⟩
  · go_wp2
    exact bodyPost_ret (v := .tuple #[.slice none 0 0, .int .i64 160]) (by simp [results, Try.results12, go_sem]) rfl ⟨by rfl, HBB2.out⟩
theorem known_ok (w : World) (ctx : Int) (A : Option Addr) (c : Nat) (pr : List InsZ) (hs : Sl w Any 5 A pr.length c (pr.flatMap insZC)) (hpl : pr.length ≤ 1000000) :
    Calls Try.prog 12 #[.agg #[.int .i64 ctx, .slice A pr.length c]] w fun e w' => (∃ v, e = .returned v ∧ KnR w w' pr.length (knownZ ctx pr) v) ∧ Below w.heap.size w w' := by
  have hck : ∀ W, Sl W Any 5 A pr.length c (pr.flatMap insZC) → Calls Try.prog 24 #[.agg #[.int .i64 ctx, .slice A pr.length c]] W fun e' w' => e' = .returned (.int .i64 (checkN ctx pr)) ∧ Below W.heap.size W w' := fun W h => check_ok W ctx A c pr h hpl
  by_cases h0 : checkN ctx pr = 0
  · by_cases h1 : pr = []
    · have := known_stop w ctx A pr.length c _ hs _ (.inr ⟨h0, by rw [h1]; rfl⟩) hck
      refine this.mono ?_
      rintro e w' ⟨rfl, hb⟩
      refine ⟨⟨_, rfl, ?_⟩, hb⟩
      unfold KnR knownZ
      rw [if_neg (by rw [h0]; simp), if_pos h1, if_pos h0]
      rfl
    · obtain ⟨⟨c1, c2⟩, hm, hl⟩ := checkN_zero h0
      obtain ⟨cn, rfl⟩ : ∃ cn : Nat, ctx = (cn : Int) := ⟨ctx.toNat, by omega⟩
      have e1 := map_ofZ hm
      have e2 : (pr.map ofZ).flatMap insCells = pr.flatMap insZC := by rw [← ins_flat, e1]
      have hl2 : (pr.map ofZ).length = pr.length := List.length_map ..
      have := known_good w cn A c (pr.map ofZ) (by rw [e2, hl2]; exact hs) (by rw [hl2]; exact List.length_pos_iff.2 h1) (by rw [e1]; exact h0)
      rw [hl2] at this
      refine this.mono ?_
      rintro e w' ⟨⟨v, rfl, hv⟩, hb⟩
      refine ⟨⟨v, rfl, ?_⟩, hb⟩
      unfold knownZ
      rw [if_neg (by rw [h0]; simp), if_neg h1]
      exact hv
  · have := known_stop w ctx A pr.length c _ hs _ (.inl h0) hck
    refine this.mono ?_
    rintro e w' ⟨rfl, hb⟩
    refine ⟨⟨_, rfl, ?_⟩, hb⟩
    unfold KnR knownZ
    rw [if_pos h0, if_neg h0]
    have : ((checkN ctx pr).toNat : Int) = checkN ctx pr := by rcases checkN_cases ctx pr with h | h | h <;> omega
    show _ = Value.tuple #[_, .int .i64 ((checkN ctx pr).toNat : Int)]
    rw [this]
/-- What Check tells. -/
def codeK : KR → Nat
  | .ok _ => 0
  | .no e => e
theorem knr_code {w w' : World} {N : Nat} {R : KR} {v : Value} (h : KnR w w' N R v) : ∃ s, v = .tuple #[s, .int .i64 (codeK R : Int)] := by
  cases R
  · obtain ⟨g, h1, h2, h3⟩ := h; exact ⟨_, h2⟩
  · exact ⟨_, h⟩
set_option maxRecDepth 100000 in
set_option maxHeartbeats 1000000 in
theorem checkok_ok (w : World) (ctx : Int) (A : Option Addr) (c : Nat) (pr : List InsZ) (hs : Sl w Any 5 A pr.length c (pr.flatMap insZC)) (hpl : pr.length ≤ 1000000) :
    Calls Try.prog 14 #[.agg #[.int .i64 ctx, .slice A pr.length c]] w fun e w' => e = .returned (.int .i64 (codeK (knownZ ctx pr) : Int)) ∧ Below w.heap.size w w' := by
  have HS := Lib.hid hs
  have HK : Hid (∀ W, Sl W Any 5 A pr.length c (pr.flatMap insZC) → Calls Try.prog 12 #[.agg #[.int .i64 ctx, .slice A pr.length c]] W fun e w' => (∃ s, e = .returned (.tuple #[s, .int .i64 (codeK (knownZ ctx pr) : Int)])) ∧ Below W.heap.size W w') := Lib.hid (fun W h => (known_ok W ctx A c pr h hpl).mono (by
    rintro e w' ⟨⟨v, rfl, hv⟩, hb⟩
    obtain ⟨s, rfl⟩ := knr_code hv
    exact ⟨⟨s, rfl⟩, hb⟩))
  obtain ⟨n, hn⟩ : ∃ n, n = pr.length := ⟨_, rfl⟩
  obtain ⟨L, hL⟩ : ∃ L, L = pr.flatMap insZC := ⟨_, rfl⟩
  obtain ⟨r, hr⟩ : ∃ r, r = codeK (knownZ ctx pr) := ⟨_, rfl⟩
  rw [← hn, ← hL] at HS
  rw [← hn, ← hL, ← hr] at HK
  rw [← hn, ← hr]
  clear hn hL hr hs hpl
  go_enter Try.func14, Try.ntmps14
  go_upto_region 1 with fail
  obtain ⟨W1, hW1⟩ : ∃ W1, W1 = w.alloc (.cells #[.int .i64 ctx, .slice A n c] 24) := ⟨_, rfl⟩
  have hb1 : Below w.heap.size w W1 := by rw [hW1]; exact (Below.refl _ _).alloc (Nat.le_refl _) _
  have hp1 : Blk W1 w.heap.size 24 2 (pgF ctx A n c) := by rw [hW1]; exact pgB w ctx A n c
  rw [← hW1]
  have hs1 : Sl W1 Any 5 A n c L := HS.out.move (Mv.of_below hb1 Any)
  have HB1 := Lib.hid hb1; have HS1 := Lib.hid hs1
  clear hW1 hb1 hs1
  have c10 : W1.cell? ⟨w.heap.size, 0, none⟩ = some (.int .i64 ctx) := hp1.cell 0 (by omega)
  have c11 : W1.cell? ⟨w.heap.size, 1, none⟩ = some (.slice A n c) := hp1.cell 1 (by omega)
  clear hp1
  go_wp2_with (go_at_call 12; (with_reducible refine (HK.out _ HS1.out).mono ?_); rintro e' W2 ⟨⟨s, rfl⟩, hb2⟩; have HB2 := Lib.hid hb2; clear hb2)
  exact bodyPost_ret (v := .int .i64 (r : Int)) (by simp [results, Try.results14, go_sem]) rfl ⟨rfl, HB1.out.trans (HB2.out.mono HB1.out.size)⟩
end Go.Proofs.Ytjlddhnjbjhmkaa
namespace Go.Proofs.Ytjlddhnjbjhmkaa
open Go.RowKit

def pK : List InsZ := [⟨23, 0, 0, 0, 0⟩, ⟨21, 0, 0, 1, 4⟩, ⟨1, 0, 0, 0, 0⟩, ⟨16, 0, 0, 0, 0⟩, ⟨24, 0, 0, 0, 0⟩]
def qK : List InsZ := [⟨24, 0, 0, 0, 0⟩]
theorem pK_code : codeK (knownZ 4 pK) = 0 := by kernel_rfl
theorem qK_code : codeK (knownZ 0 qK) = 161 := by kernel_rfl
theorem law_world (w : World) : ∃ W1, Hid (W1 = ((((w.alloc (.cells #[.int .i64 23, .int .i64 0, .int .i64 0, .int .i64 0, .int .u32 0, .int .i64 21, .int .i64 0, .int .i64 0, .int .i64 1, .int .u32 4, .int .i64 1, .int .i64 0, .int .i64 0, .int .i64 0, .int .u32 0, .int .i64 16, .int .i64 0, .int .i64 0, .int .i64 0, .int .u32 0, .int .i64 24, .int .i64 0, .int .i64 0, .int .i64 0, .int .u32 0] 45)).alloc (.cells #[.int .i64 4, .slice (some ⟨w.heap.size, 0, none⟩) 5 5] 24)).alloc (.cells #[.int .i64 24, .int .i64 0, .int .i64 0, .int .i64 0, .int .u32 0] 45)).alloc (.cells #[.int .i64 0, .slice (some ⟨w.heap.size + 1 + 1, 0, none⟩) 1 1] 24))) ∧ Hid (Below w.heap.size w W1) ∧ Hid (Sl W1 Any 5 (some ⟨w.heap.size, 0, none⟩) 5 5 (pK.flatMap insZC)) ∧ Hid (Sl W1 Any 5 (some ⟨w.heap.size + 1 + 1, 0, none⟩) 1 1 (qK.flatMap insZC)) ∧
    Hid (Blk W1 (w.heap.size + 1) 24 2 (pgF 4 (some ⟨w.heap.size, 0, none⟩) 5 5)) ∧ Hid (Blk W1 (w.heap.size + 1 + 1 + 1) 24 2 (pgF 0 (some ⟨w.heap.size + 1 + 1, 0, none⟩) 1 1)) := by
  have s1 : Sl (w.alloc (.cells #[.int .i64 23, .int .i64 0, .int .i64 0, .int .i64 0, .int .u32 0, .int .i64 21, .int .i64 0, .int .i64 0, .int .i64 1, .int .u32 4, .int .i64 1, .int .i64 0, .int .i64 0, .int .i64 0, .int .u32 0, .int .i64 16, .int .i64 0, .int .i64 0, .int .i64 0, .int .u32 0, .int .i64 24, .int .i64 0, .int .i64 0, .int .i64 0, .int .u32 0] 45)) Any 5 (some ⟨w.heap.size, 0, none⟩) 5 5 (pK.flatMap insZC) := Sl.lit w 45 5 #[.int .i64 23, .int .i64 0, .int .i64 0, .int .i64 0, .int .u32 0, .int .i64 21, .int .i64 0, .int .i64 0, .int .i64 1, .int .u32 4, .int .i64 1, .int .i64 0, .int .i64 0, .int .i64 0, .int .u32 0, .int .i64 16, .int .i64 0, .int .i64 0, .int .i64 0, .int .u32 0, .int .i64 24, .int .i64 0, .int .i64 0, .int .i64 0, .int .u32 0] 5 (by decide) rfl
  obtain ⟨Wa, hWa⟩ : ∃ Wa, Wa = w.alloc (.cells #[.int .i64 23, .int .i64 0, .int .i64 0, .int .i64 0, .int .u32 0, .int .i64 21, .int .i64 0, .int .i64 0, .int .i64 1, .int .u32 4, .int .i64 1, .int .i64 0, .int .i64 0, .int .i64 0, .int .u32 0, .int .i64 16, .int .i64 0, .int .i64 0, .int .i64 0, .int .u32 0, .int .i64 24, .int .i64 0, .int .i64 0, .int .i64 0, .int .u32 0] 45) := ⟨_, rfl⟩
  have za : Wa.heap.size = w.heap.size + 1 := by rw [hWa]; simp
  have ba : Below w.heap.size w Wa := by rw [hWa]; exact (Below.refl _ _).alloc (Nat.le_refl _) _
  rw [← hWa] at s1 ⊢
  have p2 := pgB Wa 4 (some ⟨w.heap.size, 0, none⟩) 5 5
  obtain ⟨Wb, hWb⟩ : ∃ Wb, Wb = Wa.alloc (.cells #[.int .i64 4, .slice (some ⟨w.heap.size, 0, none⟩) 5 5] 24) := ⟨_, rfl⟩
  have zb : Wb.heap.size = w.heap.size + 1 + 1 := by rw [hWb]; simp [za]
  have bb : Below Wa.heap.size Wa Wb := by rw [hWb]; exact (Below.refl _ _).alloc (Nat.le_refl _) _
  rw [za] at p2
  rw [← hWb] at p2 ⊢
  have s3 : Sl (Wb.alloc (.cells #[.int .i64 24, .int .i64 0, .int .i64 0, .int .i64 0, .int .u32 0] 45)) Any 5 (some ⟨Wb.heap.size, 0, none⟩) 1 1 (qK.flatMap insZC) := Sl.lit Wb 45 5 #[.int .i64 24, .int .i64 0, .int .i64 0, .int .i64 0, .int .u32 0] 1 (by decide) rfl
  obtain ⟨Wc, hWc⟩ : ∃ Wc, Wc = Wb.alloc (.cells #[.int .i64 24, .int .i64 0, .int .i64 0, .int .i64 0, .int .u32 0] 45) := ⟨_, rfl⟩
  have zc : Wc.heap.size = w.heap.size + 1 + 1 + 1 := by rw [hWc]; simp [zb]
  have bc : Below Wb.heap.size Wb Wc := by rw [hWc]; exact (Below.refl _ _).alloc (Nat.le_refl _) _
  rw [zb] at s3
  rw [← hWc] at s3 ⊢
  have p4 := pgB Wc 0 (some ⟨w.heap.size + 1 + 1, 0, none⟩) 1 1
  rw [zc] at p4
  have bd : Below Wc.heap.size Wc (Wc.alloc (.cells #[.int .i64 0, .slice (some ⟨w.heap.size + 1 + 1, 0, none⟩) 1 1] 24)) := (Below.refl _ _).alloc (Nat.le_refl _) _
  have bab := ba.trans (bb.mono (by omega))
  have babc := bab.trans (bc.mono (by omega))
  exact ⟨_, Lib.hid rfl, Lib.hid (babc.trans (bd.mono (by omega))), Lib.hid (((s1.move (Mv.of_below bb Any)).move (Mv.of_below bc Any)).move (Mv.of_below bd Any)), Lib.hid (s3.move (Mv.of_below bd Any)), Lib.hid ((p2.below bc).below bd), Lib.hid p4⟩
set_option maxRecDepth 100000 in
set_option maxHeartbeats 1000000 in
theorem lawknown_ok (w : World) : Calls Try.prog 11 #[] w fun e w' => e = .returned (.bool true) ∧ Below w.heap.size w w' := by
  have HP : Hid (∀ W A, Sl W Any 5 A 5 5 (pK.flatMap insZC) → Calls Try.prog 14 #[.agg #[.int .i64 4, .slice A 5 5]] W fun e w' => e = .returned (.int .i64 0) ∧ Below W.heap.size W w') := Lib.hid (fun W A h => by
    have := checkok_ok W 4 A 5 pK h (by decide)
    rw [pK_code] at this
    exact this)
  have HQ : Hid (∀ W A, Sl W Any 5 A 1 1 (qK.flatMap insZC) → Calls Try.prog 14 #[.agg #[.int .i64 0, .slice A 1 1]] W fun e w' => e = .returned (.int .i64 161) ∧ Below W.heap.size W w') := Lib.hid (fun W A h => by
    have := checkok_ok W 0 A 1 qK h (by decide)
    rw [qK_code] at this
    exact this)
  go_enter Try.func11, Try.ntmps11
  go_upto_region 3 with fail
  obtain ⟨W1, HW1, HB1, HS1, HS2, HP1, HP2⟩ := law_world w
  rw [← HW1.out]
  have c10 : W1.cell? ⟨w.heap.size + 1, 0, none⟩ = some (.int .i64 4) := HP1.out.cell 0 (by omega)
  have c11 : W1.cell? ⟨w.heap.size + 1, 1, none⟩ = some (.slice (some ⟨w.heap.size, 0, none⟩) 5 5) := HP1.out.cell 1 (by omega)
  have H2 : Hid (∀ W, Below W1.heap.size W1 W → W.cell? ⟨w.heap.size + 1 + 1 + 1, 0, none⟩ = some (.int .i64 0) ∧ W.cell? ⟨w.heap.size + 1 + 1 + 1, 1, none⟩ = some (.slice (some ⟨w.heap.size + 1 + 1, 0, none⟩) 1 1) ∧ Sl W Any 5 (some ⟨w.heap.size + 1 + 1, 0, none⟩) 1 1 (qK.flatMap insZC)) := Lib.hid (fun W hb => ⟨(HP2.out.below hb).cell 0 (by omega), (HP2.out.below hb).cell 1 (by omega), HS2.out.move (Mv.of_below hb Any)⟩)
  go_wp2_with (go_at_call 14; first | ((with_reducible refine (HP.out _ _ HS1.out).mono ?_); rintro e' W2 ⟨rfl, hb2⟩; obtain ⟨d0, d1, hs2⟩ := H2.out _ hb2; have HB2 := Lib.hid hb2; have HS3 := Lib.hid hs2; clear hb2 hs2) | ((with_reducible refine (HQ.out _ _ HS3.out).mono ?_); rintro e' W3 ⟨rfl, hb3⟩; have HB3 := Lib.hid hb3; clear hb3))
  exact bodyPost_ret (v := .bool true) (by simp [results, Try.results11, go_sem]) rfl ⟨rfl, (HB1.out.trans (HB2.out.mono HB1.out.size)).trans (HB3.out.mono (HB1.out.trans (HB2.out.mono HB1.out.size)).size)⟩
end Go.Proofs.Ytjlddhnjbjhmkaa
