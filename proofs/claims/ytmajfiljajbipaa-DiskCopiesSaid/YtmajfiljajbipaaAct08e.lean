/- The law's helper act, whatever the call. -/
import Derived.Test.YtmajfiljajbipaaAct08c
import Derived.Test.YtmajfiljajbipaaAct08d
set_option linter.unusedVariables false
set_option linter.unusedSimpArgs false
namespace Go.Proofs.Ytmajfiljajbipaa
open Go.RowKit

def Dk.act (d : Dk) (x : Act8) : Dk := if x.what = 0 then (d.wr x.at_ x.b).1 else if x.what = 1 then d.fl.1 else if x.what = 2 then d.arm x.at_ else d
theorem fl_waits (d : Dk) : d.fl.1.waits.length ≤ d.waits.length := by
  unfold Dk.fl
  split
  · exact Nat.le_refl _
  · simp
theorem act_waits (d : Dk) (x : Act8) : (d.act x).waits.length ≤ d.waits.length + 1 := by
  unfold Dk.act
  split
  · unfold Dk.wr
    split
    · split
      · exact Nat.le_succ _
      · simp [Dk.write]
    · exact Nat.le_succ _
  · split
    · exact Nat.le_succ_of_le (fl_waits d)
    · split
      · exact Nat.le_succ _
      · exact Nat.le_succ _

theorem act_any {R S T okb : Nat → Prop} (w : World) (p : Nat) (v : Value) (d : Dk) (h : BothR R w S T p v d) (x : Act8) (B : Option Addr) (bc : Nat) (hby : By w okb B x.b.length bc x.b) (hm : d.waits.length ≤ 1048575) (hml : x.b.length ≤ 1048576) (hoS : ∀ k, okb k → k < w.heap.size → ¬ S k) :
    Calls Try.prog 27 #[.pointer (some ⟨p, 0, none⟩), v, .agg #[.int .i64 x.what, .int .i64 x.at_, .int .i64 x.n, .slice B x.b.length bc]] w fun e w' =>
      ∃ S' T' v', e = .returned (.tuple #[v', .bool true]) ∧ BothR R w' S' T' p v' (d.act x) ∧ Kp S w w' ∧ (∀ k, S' k → S k ∨ w.heap.size ≤ k) ∧ (∀ k, T' k → T k ∨ w.heap.size ≤ k) := by
  unfold Dk.act
  by_cases h0 : x.what = 0
  · rw [if_pos h0, h0]
    exact act0 w p v d h x.at_ x.n B x.b.length bc x.b hby hm hml hoS
  · rw [if_neg h0]
    by_cases h1 : x.what = 1
    · rw [if_pos h1, h1]
      exact act1 w p v d h x.at_ x.n B x.b.length bc hm
    · rw [if_neg h1]
      by_cases h2 : x.what = 2
      · rw [if_pos h2, h2]
        exact act2 w p v d h x.at_ x.n B x.b.length bc
      · rw [if_neg h2]
        have fin : ∀ (e : Ending) (w' : World), (∃ v', e = .returned (.tuple #[v', .bool true]) ∧ BothR R w' S T p v' d ∧ Kp S w w') →
            ∃ S' T' v', e = .returned (.tuple #[v', .bool true]) ∧ BothR R w' S' T' p v' d ∧ Kp S w w' ∧ (∀ k, S' k → S k ∨ w.heap.size ≤ k) ∧ (∀ k, T' k → T k ∨ w.heap.size ≤ k) :=
          fun e w' ⟨v', k1, k2, k3⟩ => ⟨S, T, v', k1, k2, k3, fun _ h => .inl h, fun _ h => .inl h⟩
        by_cases hn : x.n < 0
        · exact (act3_neg w p v d h x.what x.at_ x.n B x.b.length bc ⟨h0, h1, h2⟩ hn).mono fin
        · by_cases hx : 0 ≤ x.at_ ∧ x.at_ ≤ d.now.length ∧ x.n ≤ d.now.length - x.at_
          · obtain ⟨a, ha⟩ : ∃ a : Nat, x.at_ = a := ⟨x.at_.toNat, by omega⟩
            obtain ⟨n, hn'⟩ : ∃ n : Nat, x.n = n := ⟨x.n.toNat, by omega⟩
            rw [ha, hn'] at hx ⊢
            exact (act3_ok w p v d h x.what a n B x.b.length bc ⟨h0, h1, h2⟩ (by omega) (by omega)).mono fin
          · exact (act3_range w p v d h x.what x.at_ x.n B x.b.length bc ⟨h0, h1, h2⟩ (by omega) hx).mono fin
end Go.Proofs.Ytmajfiljajbipaa
