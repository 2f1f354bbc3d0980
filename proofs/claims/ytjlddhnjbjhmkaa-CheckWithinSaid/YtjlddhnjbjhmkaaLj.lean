/- Layer 6: a call of Behind in a region that draws, at any place. -/
import Derived.Test.YtjlddhnjbjhmkaaLw1
set_option linter.unusedVariables false
set_option linter.unusedSimpArgs false
namespace Go.Proofs.Ytjlddhnjbjhmkaa
open Go.RowKit

/-- As KmJ, s places further ahead. -/
def KJ (s z : Nat) (T A B E : Value) (nx jx : Kn) (l : Nat → Bool) (v : Nat → Value) (W : World) : Prop := KmJ z T A B E nx jx (fun j => l (j - s)) (fun j => v (j - s)) W
theorem upd_shift {α : Type} (f : Nat → α) (k s : Nat) (x : α) (hk : 0 < k) : (fun j => upd f k x (j - s)) = upd (fun j => f (j - s)) (k + s) x := by
  funext j
  unfold upd
  by_cases h : j - s = k
  · rw [if_pos h, if_pos (by omega)]
  · rw [if_neg h, if_neg (by omega)]
theorem KJ.zero (s z : Nat) (T A B E : Value) (nx jx : Kn) (W : World) : KJ s z T A B E nx jx (fun _ => false) (fun _ => undef) W := KmJ.zero z T A B E nx jx W
theorem KJ.up {s z : Nat} {T A B E : Value} {nx jx : Kn} {l : Nat → Bool} {v : Nat → Value} {W W1 : World} (h : KJ s z T A B E nx jx l v W) (hb : Below W.heap.size W W1) (k : Nat) (hk : 0 < k) (x : Value)
    (hx : k + s = 7 ∧ x = T ∨ k + s = 8 ∧ x = T ∨ k + s = 9 ∧ x = A ∨ k + s = 10 ∧ x = B ∨ k + s = 11 ∧ x = E) : KJ s z T A B E nx jx (upd l k true) (upd v k x) W1 := by
  unfold KJ
  rw [upd_shift l k s true hk, upd_shift v k s x hk]
  exact KmJ.up h hb (k + s) x hx
theorem KJ.al12 {s z : Nat} {T A B E : Value} {nx jx : Kn} {l : Nat → Bool} {v : Nat → Value} {W : World} (h : KJ s z T A B E nx jx l v W) (k : Nat) (hk : 0 < k) (hks : k + s = 12) (hl : l k = false) (hz : z ≤ W.heap.size) (cs : Array Value) (hcs : cs = #[.bool false, .bool false, .int .u32 0, .int .u32 0, .bool false, .int .u32 0, .int .u32 0, .bool false, .int .u32 0, .int .u32 0, .bool false, .int .u32 0, .int .u32 0, .bool false, .int .u32 0, .int .u32 0, .bool false, .int .u32 0, .int .u32 0, .bool false, .int .u32 0, .int .u32 0, .bool false, .int .u32 0, .int .u32 0, .bool false, .int .u32 0, .int .u32 0, .bool false, .int .u32 0, .int .u32 0]) : KJ s z T A B E nx jx (upd l k true) (upd v k (.pointer (some ⟨W.heap.size, 0, none⟩))) (W.alloc (.cells cs 42)) := by
  unfold KJ
  rw [upd_shift l k s true hk, upd_shift v k s _ hk, hks]
  exact KmJ.al12 h (by show l (12 - s) = false; rw [← hks, Nat.add_sub_cancel]; exact hl) hz cs hcs
theorem KJ.al13 {s z : Nat} {T A B E : Value} {nx jx : Kn} {l : Nat → Bool} {v : Nat → Value} {W : World} (h : KJ s z T A B E nx jx l v W) (k : Nat) (hk : 0 < k) (hks : k + s = 13) (hl : l k = false) (hz : z ≤ W.heap.size) (cs : Array Value) (hcs : cs = #[.bool false, .bool false, .int .u32 0, .int .u32 0, .bool false, .int .u32 0, .int .u32 0, .bool false, .int .u32 0, .int .u32 0, .bool false, .int .u32 0, .int .u32 0, .bool false, .int .u32 0, .int .u32 0, .bool false, .int .u32 0, .int .u32 0, .bool false, .int .u32 0, .int .u32 0, .bool false, .int .u32 0, .int .u32 0, .bool false, .int .u32 0, .int .u32 0, .bool false, .int .u32 0, .int .u32 0]) : KJ s z T A B E nx jx (upd l k true) (upd v k (.pointer (some ⟨W.heap.size, 0, none⟩))) (W.alloc (.cells cs 42)) := by
  unfold KJ
  rw [upd_shift l k s true hk, upd_shift v k s _ hk, hks]
  exact KmJ.al13 h (by show l (13 - s) = false; rw [← hks, Nat.add_sub_cancel]; exact hl) hz cs hcs
theorem KJ.st14 {s z : Nat} {T A B E : Value} {nx jx : Kn} {l : Nat → Bool} {v : Nat → Value} {W : World} (h : KJ s z T A B E nx jx l v W) (k : Nat) (hk : 2 < k) (hks : k + s = 14) (h12 : l (k - 2) = true) {b : Nat} (hv : v (k - 2) = .pointer (some ⟨b, 0, none⟩)) (x : Value) : KJ s z T A B E nx jx (upd l k true) (upd v k x) (W.setCells b 0 (knL nx)) := by
  unfold KJ
  rw [upd_shift l k s true (by omega), upd_shift v k s x (by omega), hks]
  have e : 12 - s = k - 2 := by omega
  exact KmJ.st14 h (by show l (12 - s) = true; rw [e]; exact h12) (by show v (12 - s) = _; rw [e]; exact hv) x
theorem KJ.st15 {s z : Nat} {T A B E : Value} {nx jx : Kn} {l : Nat → Bool} {v : Nat → Value} {W : World} (h : KJ s z T A B E nx jx l v W) (k : Nat) (hk : 2 < k) (hks : k + s = 15) (h13 : l (k - 2) = true) {b : Nat} (hv : v (k - 2) = .pointer (some ⟨b, 0, none⟩)) (x : Value) : KJ s z T A B E nx jx (upd l k true) (upd v k x) (W.setCells b 0 (knL jx)) := by
  unfold KJ
  rw [upd_shift l k s true (by omega), upd_shift v k s x (by omega), hks]
  have e : 13 - s = k - 2 := by omega
  exact KmJ.st15 h (by show l (13 - s) = true; rw [e]; exact h13) (by show v (13 - s) = _; rw [e]; exact hv) x
theorem KJ.a7 {s z : Nat} {T A B E : Value} {nx jx : Kn} {l : Nat → Bool} {v : Nat → Value} {W : World} (h : KJ s z T A B E nx jx l v W) (k : Nat) (hks : k + s = 7) (hl : l k = true) : v k = T := by
  have := KmJ.a7 h; simp only [show 7 - s = k from by omega] at this; exact this hl
theorem KJ.a8 {s z : Nat} {T A B E : Value} {nx jx : Kn} {l : Nat → Bool} {v : Nat → Value} {W : World} (h : KJ s z T A B E nx jx l v W) (k : Nat) (hks : k + s = 8) (hl : l k = true) : v k = T := by
  have := KmJ.a8 h; simp only [show 8 - s = k from by omega] at this; exact this hl
theorem KJ.a9 {s z : Nat} {T A B E : Value} {nx jx : Kn} {l : Nat → Bool} {v : Nat → Value} {W : World} (h : KJ s z T A B E nx jx l v W) (k : Nat) (hks : k + s = 9) (hl : l k = true) : v k = A := by
  have := KmJ.a9 h; simp only [show 9 - s = k from by omega] at this; exact this hl
theorem KJ.a10 {s z : Nat} {T A B E : Value} {nx jx : Kn} {l : Nat → Bool} {v : Nat → Value} {W : World} (h : KJ s z T A B E nx jx l v W) (k : Nat) (hks : k + s = 10) (hl : l k = true) : v k = B := by
  have := KmJ.a10 h; simp only [show 10 - s = k from by omega] at this; exact this hl
theorem KJ.a11 {s z : Nat} {T A B E : Value} {nx jx : Kn} {l : Nat → Bool} {v : Nat → Value} {W : World} (h : KJ s z T A B E nx jx l v W) (k : Nat) (hks : k + s = 11) (hl : l k = true) : v k = E := by
  have := KmJ.a11 h; simp only [show 11 - s = k from by omega] at this; exact this hl
theorem KJ.a12 {s z : Nat} {T A B E : Value} {nx jx : Kn} {l : Nat → Bool} {v : Nat → Value} {W : World} (h : KJ s z T A B E nx jx l v W) (k : Nat) (hks : k + s = 12) (hl : l k = true) : ∃ b, v k = .pointer (some ⟨b, 0, none⟩) ∧ z ≤ b ∧ Blk W b 42 31 (knF (if l (k + 2) = true then nx else kn0)) := by
  have := KmJ.a12 h; simp only [show 12 - s = k from by omega, show 14 - s = k + 2 from by omega] at this; exact this hl
theorem KJ.a13 {s z : Nat} {T A B E : Value} {nx jx : Kn} {l : Nat → Bool} {v : Nat → Value} {W : World} (h : KJ s z T A B E nx jx l v W) (k : Nat) (hks : k + s = 13) (hl : l k = true) : ∃ b, v k = .pointer (some ⟨b, 0, none⟩) ∧ z ≤ b ∧ Blk W b 42 31 (knF (if l (k + 2) = true then jx else kn0)) := by
  have := KmJ.a13 h; simp only [show 13 - s = k from by omega, show 15 - s = k + 2 from by omega] at this; exact this hl
theorem KJ.e {s z : Nat} {T A B E : Value} {nx jx : Kn} {l : Nat → Bool} {v : Nat → Value} {W : World} (h : KJ s z T A B E nx jx l v W) (k : Nat) (hks : k + s = 12) (h1 : l k = true) (h2 : l (k + 1) = true) : v k ≠ v (k + 1) := by
  have := KmJ.e h; simp only [show 12 - s = k from by omega, show 13 - s = k + 1 from by omega] at this; exact this h1 h2
end Go.Proofs.Ytjlddhnjbjhmkaa
