/- The law's helpers: calls; few. -/
import Derived.Test.YtmajfiljajbipaaDsk8
set_option linter.unusedVariables false
namespace Go.Proofs.Ytmajfiljajbipaa
open Go.RowKit

/-- A call that the law plays. -/
structure Act8 where
  what : Int
  at_ : Int
  n : Int
  b : List UInt8
def Act8.I64 (x : Int) : Prop := -9223372036854775808 ≤ x ∧ x ≤ 9223372036854775807
def ActR (w : World) (ok : Nat → Prop) (x : Act8) (cs : List Value) : Prop := ∃ A c, cs = [.int .i64 x.what, .int .i64 x.at_, .int .i64 x.n, .slice A x.b.length c] ∧ By w ok A x.b.length c x.b ∧ Act8.I64 x.at_ ∧ Act8.I64 x.n
theorem ActR.move {w w1 : World} {ok : Nat → Prop} {x : Act8} {cs : List Value} (h : ActR w ok x cs) (hm : Mv ok w w1) : ActR w1 ok x cs := by
  obtain ⟨A, c, e, h, h2⟩ := h; exact ⟨A, c, e, Sl.move h hm, h2⟩
/-- A script that came in. -/
def Script (w : World) (A : Option Addr) (c : Nat) (xs : List Act8) : Prop := ∃ cs, Sl w Any 4 A xs.length c cs ∧ Rws (ActR w Any) 4 xs cs
theorem Script.below {w w1 : World} {A : Option Addr} {c : Nat} {xs : List Act8} (h : Script w A c xs) (hb : Below w.heap.size w w1) : Script w1 A c xs := by
  obtain ⟨cs, h1, h2⟩ := h
  exact ⟨cs, Sl.move h1 (Mv.of_below hb _), h2.imp (fun _ _ h => h.move (Mv.of_below hb _))⟩
theorem Script.at_ {w : World} {A : Option Addr} {c : Nat} {xs : List Act8} (h : Script w A c xs) {i : Nat} (hi : i < xs.length) :
    ∃ a B bc, A = some a ∧ w.cell? (a.add (i * 4)) = some (.int .i64 xs[i].what) ∧ w.cell? (a.add (i * 4 + 1)) = some (.int .i64 xs[i].at_) ∧ w.cell? (a.add (i * 4 + 2)) = some (.int .i64 xs[i].n) ∧
      w.cell? (a.add (i * 4 + 3)) = some (.slice B xs[i].b.length bc) ∧ By w Any B xs[i].b.length bc xs[i].b ∧ Act8.I64 xs[i].at_ ∧ Act8.I64 xs[i].n := by
  obtain ⟨cs, h1, h2⟩ := h
  obtain ⟨c4, ⟨B, bc, e, hby, h5⟩, hc⟩ := h2.cell hi
  obtain ⟨a, rfl, _, _, hcs⟩ := h1.at_ (j := i * 4) (by omega)
  refine ⟨a, B, bc, rfl, hcs _ _ ?_, hcs _ _ ?_, hcs _ _ ?_, hcs _ _ ?_, hby, h5⟩
  · have := hc 0 (by omega); rw [e] at this; simpa using this
  · have := hc 1 (by omega); rw [e] at this; simpa using this
  · have := hc 2 (by omega); rw [e] at this; simpa using this
  · have := hc 3 (by omega); rw [e] at this; simpa using this
theorem fldn (a : Addr) (i j : Nat) (hj : 0 < j) : (⟨(a.add i).block, (a.add i).off + j, none⟩ : Addr) = a.add (i + j) ∨ (a.add (i + j)).spot ≠ none := by
  obtain ⟨b, o, s⟩ := a
  unfold Addr.add
  by_cases hi : i = 0
  · subst hi; cases s <;> simp [Nat.pos_iff_ne_zero.1 hj]
  · cases s <;> simp [hi] <;> omega
theorem cell_fldn {w : World} {a : Addr} {i j : Nat} {v : Value} (hj : 0 < j) (h : w.cell? (a.add (i + j)) = some v) : w.cell? ⟨(a.add i).block, (a.add i).off + j, none⟩ = some v := by
  rcases fldn a i j hj with e | e
  · rw [e]; exact h
  · exact absurd (World.cell?_spot h) e

set_option maxHeartbeats 1000000 in
theorem few_any (w : World) (A : Option Addr) (c : Nat) (xs : List Act8) (h : Script w A c xs) (hl : xs.length ≤ 9223372036854775807) :
    Calls Try.prog 19 #[.slice A xs.length c] w fun e w' => w = w' ∧ ∃ r, e = .returned (.bool r) ∧ (r = true → xs.length ≤ 50 ∧ ∀ x, x ∈ xs → x.b.length ≤ 3000) := by
  go_enter Try.func19, Try.ntmps19
  go_wp2
  go_loopw [3, 4] (fun n i wr => ∃ (k s : Nat), k ≤ xs.length ∧ i = .int .i64 k ∧ n = .int .i64 s ∧ wr = w ∧ 60 * k ≤ s ∧ s ≤ 6061 ∧ (s ≤ 3000 → ∀ j (hj : j < xs.length), j < k → xs[j].b.length ≤ 3000))
    (fun n i _ => xs.length - (intOf i).toNat)
  case atStart => exact ⟨0, 0, Nat.zero_le _, rfl, rfl, rfl, Nat.le_refl _, by omega, fun _ _ _ h => by omega⟩
  case round =>
    obtain ⟨k, s, hk, rfl, rfl, rfl, h60, hs, hall⟩ := hrel
    by_cases hlt : k < xs.length
    · have hlt' : (k : Int) < xs.length := by omega
      by_cases h3 : s ≤ 3000
      · have h3' : (s : Int) ≤ 3000 := by omega
        obtain ⟨a, B, bc, rfl, q0, q1, q2, q3, _⟩ := h.at_ hlt
        have f3 := cell_fldn (by omega) q3
        go_wp2
        refine ⟨⟨k + 1, s + 60 + min xs[k].b.length 3001, hlt, by simp, congrArg _ (by split <;> omega), trivial, by omega, by omega, fun hs' j hj hjk => ?_⟩, by simp [intOf]; omega⟩
        by_cases hjk' : j < k
        · exact hall h3 j hj hjk'
        · obtain rfl : j = k := by omega
          omega
      · have h3' : ¬ (s : Int) ≤ 3000 := by omega
        go_wp2
        go_ret
        exact ⟨rfl, .inl rfl⟩
    · have hlt' : ¬ (k : Int) < xs.length := by omega
      obtain rfl : k = xs.length := by omega
      by_cases h3 : s ≤ 3000
      · have h3' : (s : Int) ≤ 3000 := by omega
        go_wp2
        go_ret
        refine ⟨rfl, .inr ⟨rfl, by omega, fun x hx => ?_⟩⟩
        obtain ⟨j, hj, rfl⟩ := List.mem_iff_getElem.1 hx
        exact hall h3 j hj hj
      · have h3' : ¬ (s : Int) ≤ 3000 := by omega
        go_wp2
        go_ret
        exact ⟨rfl, .inl rfl⟩
end Go.Proofs.Ytmajfiljajbipaa
