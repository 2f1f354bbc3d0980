/- Words on memory that the walks of this seat use: what a call keeps, a slice that is read, a row that grows. -/
import Derived.Test.YtpnkbpjhbmacaaaProg
import Derived.WalkKit
import Derived.Maps.AppendAt
import Derived.Laws.CopyOwn
import Derived.Lib.Hide
import Derived.Deep.Draws
set_option linter.unusedVariables false
namespace Go.Proofs.Ytpnkbpjhbmacaaa
open Go.RowKit

theorem add_block (a : Addr) (n : Nat) : (a.add n).block = a.block := by unfold Addr.add; split <;> rfl
theorem add_add (a : Addr) (i j : Nat) : (a.add i).add j = a.add (i + j) := by
  unfold Addr.add
  by_cases hi : i = 0 <;> by_cases hj : j = 0 <;> simp [hi, hj, Nat.add_assoc]

/-- All blocks of w but those of M lie in w' as they lay. -/
structure Kp (M : Nat → Prop) (w w' : World) : Prop where
  os : w'.os = w.os
  tape : w'.tape = w.tape
  output : w'.output = w.output
  size : w.heap.size ≤ w'.heap.size
  block : ∀ k, k < w.heap.size → ¬ M k → w'.heap[k]? = w.heap[k]?

/-- What is ok lies in w' as it lay in w. -/
structure Mv (ok : Nat → Prop) (w w' : World) : Prop where
  size : w.heap.size ≤ w'.heap.size
  block : ∀ k, k < w.heap.size → ok k → w'.heap[k]? = w.heap[k]?

def No (_ : Nat) : Prop := False
def Any (_ : Nat) : Prop := True

theorem Kp.refl (M : Nat → Prop) (w : World) : Kp M w w := ⟨rfl, rfl, rfl, Nat.le_refl _, fun _ _ _ => rfl⟩
theorem Kp.trans {M M1 : Nat → Prop} {w w1 w2 : World} (h : Kp M w w1) (k : Kp M1 w1 w2) (hM : ∀ b, b < w.heap.size → M1 b → M b) : Kp M w w2 :=
  ⟨k.os.trans h.os, k.tape.trans h.tape, k.output.trans h.output, Nat.le_trans h.size k.size, fun b hb hn => (k.block b (Nat.lt_of_lt_of_le hb h.size) (fun h1 => hn (hM b hb h1))).trans (h.block b hb hn)⟩
theorem Kp.mono {M M1 : Nat → Prop} {w w1 : World} (h : Kp M w w1) (hM : ∀ b, b < w.heap.size → M b → M1 b) : Kp M1 w w1 :=
  ⟨h.os, h.tape, h.output, h.size, fun b hb hn => h.block b hb (fun h1 => hn (hM b hb h1))⟩
theorem Kp.of_below {w w1 : World} (h : Below w.heap.size w w1) (M : Nat → Prop) : Kp M w w1 := ⟨h.os, h.tape, h.output, h.size, fun b hb _ => h.block b hb⟩
theorem Kp.below {w w1 : World} (h : Kp No w w1) : Below w.heap.size w w1 := ⟨h.os, h.tape, h.output, h.size, fun b hb => h.block b hb (fun x => x)⟩
theorem Kp.thenB {M : Nat → Prop} {w w1 w2 : World} (h : Kp M w w1) (k : Below w1.heap.size w1 w2) : Kp M w w2 := h.trans (Kp.of_below k No) (fun _ _ x => x.elim)
theorem Kp.alloc {M : Nat → Prop} {w w1 : World} (h : Kp M w w1) (o : Obj) : Kp M w (w1.alloc o) := h.thenB ((Below.refl _ _).alloc (Nat.le_refl _) o)
theorem Kp.drew {M : Nat → Prop} {w w1 : World} (h : Kp M w w1) : Kp M w w1.drew := ⟨h.os, h.tape, h.output, h.size, h.block⟩
theorem Kp.drewN {M : Nat → Prop} {w w1 : World} (h : Kp M w w1) (n : Nat) : Kp M w (w1.drewN n) := ⟨h.os, h.tape, h.output, h.size, h.block⟩
theorem Kp.setCell {M : Nat → Prop} {w w1 : World} (h : Kp M w w1) {p : Addr} (hp : M p.block ∨ w.heap.size ≤ p.block) (u : Value) : Kp M w (w1.setCell p u) :=
  ⟨h.os, h.tape, h.output, by simpa [World.setCell] using h.size, fun b hb hn => (Below.heap_setCell w1 p u b (by
    rintro rfl
    rcases hp with hp | hp
    · exact hn hp
    · omega)).trans (h.block b hb hn)⟩
theorem Kp.grown {M : Nat → Prop} {w w1 w2 : World} (h : Kp M w w1) {row : Option Nat} (hg : w1.grownBy w2 row) (hr : ∀ k, row = some k → M k ∨ w.heap.size ≤ k) : Kp M w w2 :=
  ⟨hg.os.trans h.os, hg.tape.trans h.tape, hg.output.trans h.output, Nat.le_trans h.size hg.size, fun b hb hn => (hg.block b (Nat.lt_of_lt_of_le hb h.size) (fun e => by
    rcases hr b e.symm with h1 | h1
    · exact hn h1
    · omega)).trans (h.block b hb hn)⟩

theorem Mv.of_kp {M ok : Nat → Prop} {w w1 : World} (h : Kp M w w1) (ho : ∀ k, k < w.heap.size → ok k → ¬ M k) : Mv ok w w1 := ⟨h.size, fun k hk h1 => h.block k hk (ho k hk h1)⟩
theorem Mv.of_below {w w1 : World} (h : Below w.heap.size w w1) (ok : Nat → Prop) : Mv ok w w1 := ⟨h.size, fun k hk _ => h.block k hk⟩
theorem Mv.refl (ok : Nat → Prop) (w : World) : Mv ok w w := ⟨Nat.le_refl _, fun _ _ _ => rfl⟩
theorem Mv.trans {ok : Nat → Prop} {w w1 w2 : World} (h : Mv ok w w1) (k : Mv ok w1 w2) : Mv ok w w2 := ⟨Nat.le_trans h.size k.size, fun b hb ho => (k.block b (Nat.lt_of_lt_of_le hb h.size) ho).trans (h.block b hb ho)⟩
theorem Mv.alloc (ok : Nat → Prop) (w : World) (o : Obj) : Mv ok w (w.alloc o) := Mv.of_below ((Below.refl _ _).alloc (Nat.le_refl _) o) ok
theorem Mv.drewN (ok : Nat → Prop) (w : World) (n : Nat) : Mv ok w (w.drewN n) := ⟨Nat.le_refl _, fun _ _ _ => rfl⟩
theorem Mv.drew {ok : Nat → Prop} {w w1 : World} (h : Mv ok w w1) : Mv ok w w1.drew := ⟨h.size, h.block⟩
theorem of_take {α : Type} {l : List α} {k j : Nat} {v : α} (h : (l.take k)[j]? = some v) : l[j]? = some v := by
  rw [List.getElem?_take] at h
  split at h
  · exact h
  · cases h
theorem Mv.setCell {ok : Nat → Prop} (w : World) {p : Addr} (hp : ¬ ok p.block) (u : Value) : Mv ok w (w.setCell p u) :=
  ⟨by simp [World.setCell], fun k hk ho => Below.heap_setCell w p u k (by rintro rfl; exact hp ho)⟩
theorem Mv.mono {ok ok1 : Nat → Prop} {w w1 : World} (h : Mv ok w w1) (ho : ∀ k, k < w.heap.size → ok1 k → ok k) : Mv ok1 w w1 := ⟨h.size, fun k hk h1 => h.block k hk (ho k hk h1)⟩
theorem Mv.cell {ok : Nat → Prop} {w w1 : World} (h : Mv ok w w1) {a : Addr} {v : Value} (hc : w.cell? a = some v) (ho : ok a.block) : w1.cell? a = some v :=
  (World.cell?_of_block (h.block a.block (World.block_lt_of_cell? w a hc) ho)).trans hc

/-! ### a slice that is read: '.slice A n c' holds the cells xs (sz cells an element) -/
def Sl (w : World) (ok : Nat → Prop) (sz : Nat) (A : Option Addr) (n c : Nat) (xs : List Value) : Prop :=
  xs.length = n * sz ∧ n ≤ c ∧ c ≤ maxLen ∧ (A = none → c = 0) ∧ ∀ a, A = some a → 0 < n → ok a.block ∧ a.block < w.heap.size ∧ ∀ j u, xs[j]? = some u → w.cell? (a.add j) = some u

theorem Sl.cells {w : World} {ok : Nat → Prop} {sz n c : Nat} {a : Addr} {xs : List Value} (h : Sl w ok sz (some a) n c xs) (j : Nat) (u : Value) (hu : xs[j]? = some u) : w.cell? (a.add j) = some u := by
  rcases Nat.eq_zero_or_pos n with h0 | h0
  · have h1 := h.1
    rw [h0, Nat.zero_mul] at h1
    rw [List.eq_nil_of_length_eq_zero h1] at hu
    simp at hu
  · exact (h.2.2.2.2 a rfl h0).2.2 j u hu
theorem Sl.nil (w : World) (ok : Nat → Prop) (sz : Nat) : Sl w ok sz none 0 0 [] := ⟨by simp, Nat.le_refl _, by simp [maxLen], fun _ => rfl, fun a h => by cases h⟩
theorem Sl.move {w w1 : World} {ok : Nat → Prop} {sz n c : Nat} {A : Option Addr} {xs : List Value} (h : Sl w ok sz A n c xs) (hm : Mv ok w w1) : Sl w1 ok sz A n c xs := by
  obtain ⟨h1, h2, h3, h4, h5⟩ := h
  refine ⟨h1, h2, h3, h4, fun a ha hn => ?_⟩
  obtain ⟨k1, k2, k3⟩ := h5 a ha hn
  exact ⟨k1, Nat.lt_of_lt_of_le k2 hm.size, fun j u hu => hm.cell (k3 j u hu) (by rw [add_block]; exact k1)⟩
theorem Sl.mono {w : World} {ok ok1 : Nat → Prop} {sz n c : Nat} {A : Option Addr} {xs : List Value} (h : Sl w ok sz A n c xs) (ho : ∀ k, k < w.heap.size → ok k → ok1 k) : Sl w ok1 sz A n c xs := by
  obtain ⟨h1, h2, h3, h4, h5⟩ := h
  refine ⟨h1, h2, h3, h4, fun a ha hn => ?_⟩
  obtain ⟨k1, k2, k3⟩ := h5 a ha hn
  exact ⟨ho _ k2 k1, k2, k3⟩
theorem Sl.at_ {w : World} {ok : Nat → Prop} {sz n c : Nat} {A : Option Addr} {xs : List Value} (h : Sl w ok sz A n c xs) {j : Nat} (hj : j < n * sz) : ∃ a, A = some a ∧ ok a.block ∧ a.block < w.heap.size ∧ ∀ j u, xs[j]? = some u → w.cell? (a.add j) = some u := by
  obtain ⟨h1, h2, h3, h4, h5⟩ := h
  cases A with
  | none => have := h4 rfl; have : n = 0 := by omega
            subst this; simp at hj
  | some a => exact ⟨a, rfl, h5 a rfl (by rcases Nat.eq_zero_or_pos n with h | h
                                          · subst h; simp at hj
                                          · exact h)⟩
/-- A row of the call's own, read. -/
theorem Sl.of_own {w : World} {ok : Nat → Prop} {base sz n : Nat} {e : TypeId} {v : Value} {xs : List Value} (h : w.ownsRow base e sz v n xs) (ho : ∀ k, v.ownBlock = some k → k < w.heap.size → ok k) : ∃ A c, v = .slice A n c ∧ Sl w ok sz A n c xs := by
  rcases h.2 with ⟨rfl, rfl⟩ | ⟨g, cap, cur, rfl, hb, hg, hn, hc, hs, ht⟩
  · obtain rfl : xs = [] := List.eq_nil_of_length_eq_zero (by simpa using h.1)
    exact ⟨none, 0, rfl, Sl.nil _ _ _⟩
  · refine ⟨_, cap, rfl, h.1, hn, hc, (fun h => by cases h), fun a ha _ => ?_⟩
    injection ha with ha
    subst ha
    have hlt := (Array.getElem?_eq_some_iff.1 hg).1
    exact ⟨ho g (by simp [Value.ownBlock]) hlt, hlt, h.cells (g := g) (by simp [Value.ownBlock])⟩

/-! ### bytes -/
def bv (l : List UInt8) : List Value := l.map fun b => .int .u8 (b.toNat : Int)
theorem bv_length (l : List UInt8) : (bv l).length = l.length := by simp [bv]
theorem bv_append (l m : List UInt8) : bv (l ++ m) = bv l ++ bv m := by simp [bv]
theorem bv_one (l : List UInt8) : ∀ u ∈ bv l, u.oneCell' = true := by
  intro u hu; obtain ⟨b, _, rfl⟩ := List.mem_map.1 hu; rfl
def By (w : World) (ok : Nat → Prop) (A : Option Addr) (n c : Nat) (l : List UInt8) : Prop := Sl w ok 1 A n c (bv l)

end Go.Proofs.Ytpnkbpjhbmacaaa
