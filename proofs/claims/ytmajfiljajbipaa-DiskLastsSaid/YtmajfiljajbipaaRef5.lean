/- The document's disk: Flush, Crash. -/
import Derived.Test.YtmajfiljajbipaaRef4
set_option linter.unusedVariables false
set_option linter.unusedSimpArgs false
namespace Go.Proofs.Ytmajfiljajbipaa
open Go.RowKit

theorem layAll_length (ws : List (Nat × List UInt8)) : ∀ (l : List UInt8), (∀ x, x ∈ ws → x.1 + x.2.length ≤ l.length) → (layAll l ws).length = l.length := by
  induction ws with
  | nil => intro l _; rfl
  | cons x ws ih =>
    intro l hf
    have e : (lay l x.1 x.2).length = l.length := lay_length _ _ _ (hf x (by simp))
    exact (ih (lay l x.1 x.2) (fun y hy => by rw [e]; exact hf y (by simp [hy]))).trans e

theorem flush_ref {T : Nat → Prop} (w : World) (v : Value) (d : Dk) (h : RefV w T v d) (h0 : 0 < d.lasts.length) (hN : d.lasts.length ≤ 1048576) (hm : d.waits.length ≤ 1048576) (hfit : ∀ x, x ∈ d.waits → x.1 + x.2.length ≤ d.lasts.length) (hnow : d.now = layAll d.lasts d.waits) :
    Calls Try.prog 47 #[v] w fun e w' => Below w.heap.size w w' ∧ ∃ v', e = .returned (.tuple #[v', .int .i64 d.fl.2]) ∧ RefV w' (fun k => T k ∨ w.heap.size ≤ k) v' d.fl.1 := by
  have h' := h
  have hll := layAll_length d.waits d.lasts hfit
  obtain ⟨LA, lc, WA, wc, wcs, rfl, h1, h2, h3⟩ := h
  obtain ⟨K0, hK0⟩ : ∃ K0, K0 = ((w.alloc (.cells #[.slice LA d.lasts.length lc, .slice WA d.waits.length wc, .int .i64 d.steps, .int .i64 d.armed] 48)).alloc (.cells #[.slice none 0 0, .slice none 0 0, .int .i64 0, .int .i64 0] 48)) := ⟨_, rfl⟩
  have hb0 : Below w.heap.size w K0 := by rw [hK0]; exact ((Below.refl _ _).alloc (Nat.le_refl _) _).alloc (by simp) _
  have B0 : Box4 K0 w.heap.size (.slice LA d.lasts.length lc) (.slice WA d.waits.length wc) (.int .i64 d.steps) (.int .i64 d.armed) := by rw [hK0]; exact (Box4.new _ _ _ _ _).alloc _
  have B1 : Box4 K0 (w.heap.size + 1) (.slice none 0 0) (.slice none 0 0) (.int .i64 0) (.int .i64 0) := by
    rw [hK0]
    have := Box4.new (w.alloc (.cells #[.slice LA d.lasts.length lc, .slice WA d.waits.length wc, .int .i64 d.steps, .int .i64 d.armed] 48)) (.slice none 0 0) (.slice none 0 0) (.int .i64 0) (.int .i64 0)
    rwa [World.size_alloc] at this
  have hsK : K0.heap.size = w.heap.size + 2 := by rw [hK0]; simp
  have S := step_ref K0 LA d.lasts.length lc WA d.waits.length wc d.steps d.armed
  unfold rv at S
  by_cases ha : d.armed = 0
  · unfold Dk.fl
    rw [if_pos ha]
    rw [if_pos ha, ha] at S
    rw [ha] at B0 hK0 ⊢
    rw [hK0] at S B0 B1 hb0 hsK
    clear hK0
    go_enter Try.func47, Try.ntmps47
    go_wp2_with (go_at_call 49; refine S.mono ?_; rintro e w1 ⟨hb1, rfl⟩
                 have hs1 : w.heap.size + 2 ≤ w1.heap.size := (by have := hb1.size; omega)
                 obtain ⟨p0, p1, p2, p3, pf⟩ := ((B0.below hb1).alloc (.cells #[.slice LA d.lasts.length lc, .slice WA d.waits.length wc, .int .i64 d.steps, .int .i64 0] 48)).cells
                 obtain ⟨q0, q1, q2, q3, qf⟩ := ((B1.below hb1).alloc (.cells #[.slice LA d.lasts.length lc, .slice WA d.waits.length wc, .int .i64 d.steps, .int .i64 0] 48)).cells)
    have hbe := below_set4 ((hb0.trans (hb1.mono hb0.size)).alloc (by omega) (.cells #[.slice LA d.lasts.length lc, .slice WA d.waits.length wc, .int .i64 d.steps, .int .i64 0] 48)) (w.heap.size + 1) (by omega) (.slice LA d.lasts.length lc) (.slice WA d.waits.length wc) (.int .i64 d.steps) (.int .i64 0)
    refine bodyPost_ret (v := .tuple #[rv LA d.lasts.length lc WA d.waits.length wc d.steps 0, .int .i64 180]) (by rw [results_cell_tmp rfl]; simp [go_sem, asAddr, rv, q0, q1, q2, q3]) rfl ⟨hbe, _, rfl, ?_⟩
    have := (h'.below hbe).mono (T1 := fun k => T k ∨ w.heap.size ≤ k) (fun k _ h => .inl h)
    rw [ha] at this
    exact this
  · unfold Dk.fl
    rw [if_neg ha]
    rw [if_neg ha] at S
    obtain ⟨r', hr'⟩ : ∃ r', r' = (if 0 < d.armed then wrap64 (d.armed - 1) else d.armed) := ⟨_, rfl⟩
    rw [← hr'] at S
    rw [hK0] at S B0 B1 hb0 hsK
    clear hK0
    have HA := Lib.hid ha; clear ha
    have HR := Lib.hid hr'; clear hr'
    go_enter Try.func47, Try.ntmps47
    go_wp2_with (go_at_call 49; refine S.mono ?_; rintro e w1 ⟨hb1, rfl⟩
                 have hs1 : w.heap.size + 2 ≤ w1.heap.size := (by have := hb1.size; omega)
                 have B2 := (B0.below hb1).alloc (.cells #[.slice LA d.lasts.length lc, .slice WA d.waits.length wc, .int .i64 (wrap64 (d.steps + 1)), .int .i64 r'] 48)
                 obtain ⟨p0, p1, p2, p3, pf⟩ := B2.cells)
    have hbo := (hb0.trans (hb1.mono hb0.size)).alloc (by omega) (.cells #[.slice LA d.lasts.length lc, .slice WA d.waits.length wc, .int .i64 (wrap64 (d.steps + 1)), .int .i64 r'] 48)
    refine (stands_ref _ _ d (h'.below hbo) h0 hN hm hfit).mono ?_
    rintro e w2 ⟨A2, c2, rfl, hown2, hb2⟩
    rw [hll] at hown2 ⊢
    rw [World.size_alloc] at hown2
    have hs2 : w1.heap.size + 1 ≤ w2.heap.size := by have := hb2.size; simpa using this
    obtain ⟨q0, q1, q2, q3, qf⟩ := (((B1.below hb1).alloc (.cells #[.slice LA d.lasts.length lc, .slice WA d.waits.length wc, .int .i64 (wrap64 (d.steps + 1)), .int .i64 r'] 48)).below hb2).cells
    obtain ⟨r0, r1, r2, r3, rf⟩ := ((Box4.new w1 (.slice LA d.lasts.length lc) (.slice WA d.waits.length wc) (.int .i64 (wrap64 (d.steps + 1))) (.int .i64 r')).below hb2).cells
    have hne : w.heap.size + 1 ≠ w1.heap.size := by omega
    clear p0 p1 p2 p3 pf
    go_wp2
    have hbe := below_set4 (((hbo.trans (hb2.mono hbo.size)).setCell (p := ⟨w1.heap.size, 0, none⟩) (by simp; omega) (.slice A2 d.lasts.length c2)).setCell (p := ⟨w1.heap.size, 1, none⟩) (by simp; omega) (.slice none 0 0)) (w.heap.size + 1) (by omega) (.slice A2 d.lasts.length c2) (.slice none 0 0) (.int .i64 (wrap64 (d.steps + 1))) (.int .i64 r')
    refine bodyPost_ret (v := .tuple #[rv A2 d.lasts.length c2 none 0 0 (wrap64 (d.steps + 1)) r', .int .i64 0]) (by rw [results_cell_tmp rfl]; simp [go_sem, asAddr, rv, q0, q1, q2, q3, r0, r1, r2, r3]) rfl ⟨hbe, _, rfl, A2, c2, none, 0, [], ?_, ?_, Sl.nil _ _ _, Rws.nil _ _⟩
    · rw [HR.out]
      simp [rv, Dk.tick, hnow, hll]
    · have h3 : By w2 (fun k => w1.heap.size + 1 ≤ k) A2 d.lasts.length c2 (layAll d.lasts d.waits) := Sl.from_own hown2
      rw [hnow, hll]
      exact Sl.mono (Sl.move (Sl.move (Sl.move h3 (Mv.setCell w2 (p := ⟨w1.heap.size, 0, none⟩) (by simp) _)) (Mv.setCell _ (p := ⟨w1.heap.size, 1, none⟩) (by simp) _)) (Mv.setCell4 _ (w.heap.size + 1) (by omega) _ _ _ _)) (fun k _ h => .inr (by omega))
end Go.Proofs.Ytmajfiljajbipaa
