/- The law's helper act: Flush and Arm. -/
import Derived.Test.YtmajfiljajbipaaAct08
set_option linter.unusedVariables false
set_option linter.unusedSimpArgs false
namespace Go.Proofs.Ytmajfiljajbipaa
open Go.RowKit

theorem Box4.set4 {w : World} {g g' : Nat} {a b c d : Value} (h : Box4 w g a b c d) (hne : g ≠ g') (x y z u : Value) : Box4 ((((w.setCell ⟨g', 0, none⟩ x).setCell ⟨g', 1, none⟩ y).setCell ⟨g', 2, none⟩ z).setCell ⟨g', 3, none⟩ u) g a b c d := by
  unfold Box4 at *
  rw [heap_setCell_other _ _ _ _ hne, heap_setCell_other _ _ _ _ hne, heap_setCell_other _ _ _ _ hne, heap_setCell_other _ _ _ _ hne]
  exact h

set_option maxRecDepth 100000 in
set_option maxHeartbeats 2000000 in
theorem act1 {R S T : Nat → Prop} (w : World) (p : Nat) (v : Value) (d : Dk) (h : BothR R w S T p v d) (at_ n : Int) (B : Option Addr) (m bc : Nat) (hm : d.waits.length ≤ 1048575) :
    Calls Try.prog 27 #[.pointer (some ⟨p, 0, none⟩), v, .agg #[.int .i64 1, .int .i64 at_, .int .i64 n, .slice B m bc]] w fun e w' =>
      ∃ S' T' v', e = .returned (.tuple #[v', .bool true]) ∧ BothR R w' S' T' p v' d.fl.1 ∧ Kp S w w' ∧ (∀ k, S' k → S k ∨ w.heap.size ≤ k) ∧ (∀ k, T' k → T k ∨ w.heap.size ≤ k) := by
  obtain ⟨hd, htl, hr, hap, hnow⟩ := h
  have hRw := hd.rl
  obtain ⟨LA, lc, WA, wcap, wcs, rfl, _, _, _⟩ := id hr
  obtain ⟨hp, hbig, hsame, hfit⟩ := hd.props
  have hSw : ∀ k, S k → k < w.heap.size := hd.1
  obtain ⟨W0, hW0⟩ : ∃ W0, W0 = (((w.alloc (.cells #[.slice LA d.lasts.length lc, .slice WA d.waits.length wcap, .int .i64 d.steps, .int .i64 d.armed] 48)).alloc (.cells #[.int .i64 1, .int .i64 at_, .int .i64 n, .slice B m bc] 40)).alloc (.cells #[.slice none 0 0, .slice none 0 0, .int .i64 0, .int .i64 0] 48)) := ⟨_, rfl⟩
  have hsz0 : W0.heap.size = w.heap.size + 3 := by rw [hW0]; simp
  have hbw0 : Below w.heap.size w W0 := by rw [hW0]; exact (((Below.refl _ _).alloc (Nat.le_refl _) _).alloc (by simp) _).alloc (by simp; omega) _
  have B1 : Box4 W0 (w.heap.size + 1 + 1) (.slice none 0 0) (.slice none 0 0) (.int .i64 0) (.int .i64 0) := by
    rw [hW0]
    have := Box4.new ((w.alloc (.cells #[.slice LA d.lasts.length lc, .slice WA d.waits.length wcap, .int .i64 d.steps, .int .i64 d.armed] 48)).alloc (.cells #[.int .i64 1, .int .i64 at_, .int .i64 n, .slice B m bc] 40)) (.slice none 0 0) (.slice none 0 0) (.int .i64 0) (.int .i64 0)
    rwa [World.size_alloc, World.size_alloc] at this
  have FR := flush_ref W0 _ d (hr.below hbw0) (by omega) (by omega) (by omega) (by rw [hsame]; exact hfit) hnow
  obtain ⟨d', hd'e⟩ : ∃ d', d' = d.fl.1 := ⟨_, rfl⟩
  obtain ⟨e1, he1⟩ : ∃ e1, e1 = d.fl.2 := ⟨_, rfl⟩
  rw [← hd'e, ← he1] at FR
  have HD := Lib.hid hd'e; clear hd'e
  have HE := Lib.hid he1; clear he1
  have HSA := Lib.hid hsame; clear hsame
  have HNO := Lib.hid hnow; clear hnow
  rw [hW0] at FR
  have HW := Lib.hid hW0; clear hW0
  go_enter Try.func27, Try.ntmps27
  go_wp2_with fail
  refine FR.mono ?_
  rintro e w3 ⟨hb3, v3, rfl, hr3⟩
  clear FR
  rw [← HW.out] at hb3 hr3
  have hbw3 := hbw0.trans (hb3.mono hbw0.size)
  have hs3 := hb3.size
  obtain ⟨LB, lc3, WB, wc3, wcs3, rfl, _, _, _⟩ := id hr3
  go_wp2_with fail
  obtain ⟨X, hX⟩ : ∃ X, X = w3.alloc (.cells #[.slice LB d'.lasts.length lc3, .slice WB d'.waits.length wc3, .int .i64 d'.steps, .int .i64 d'.armed] 48) := ⟨_, rfl⟩
  rw [← hX]
  have BX : Box4 X w3.heap.size (.slice LB d'.lasts.length lc3) (.slice WB d'.waits.length wc3) (.int .i64 d'.steps) (.int .i64 d'.armed) := by rw [hX]; exact Box4.new _ _ _ _ _
  have hbX : Below w3.heap.size w3 X := by rw [hX]; exact (Below.refl _ _).alloc (Nat.le_refl _) _
  have hsX : X.heap.size = w3.heap.size + 1 := by rw [hX]; simp
  clear hX
  have hbwX := hbw3.trans (hbX.mono hbw3.size)
  have CX := (B1.below hb3).below hbX
  have hdr : Below X.heap.size X X.drew := ⟨rfl, rfl, rfl, Nat.le_refl _, fun _ _ => rfl⟩
  have CF := flush_S ((hd.below hbwX).below hdr)
  rw [← HD.out, ← HE.out] at CF
  refine wp_region_noPanic ?_
  refine mix [(0, true), (1, true), (4, true), (2, false), (3, false), (5, true), (6, false), (7, false)] [0, 1, 2, 3, 4, 5, 6] (fun W => Box4 W w3.heap.size (.slice LB d'.lasts.length lc3) (.slice WB d'.waits.length wc3) (.int .i64 d'.steps) (.int .i64 d'.armed)) (by kernel_rfl) (by kernel_rfl) (fun _ _ _ _ _ h => h) BX ?_
  refine st_rdg (.agg #[.slice LB d'.lasts.length lc3, .slice WB d'.waits.length wc3, .int .i64 d'.steps, .int .i64 d'.armed]) rfl rfl (fun W hS => ?_) (fun K hK => ?_)
  · obtain ⟨q0, q1, q2, q3, qf⟩ := hS.cells
    simp [go_sem, q0, q1, q2, q3]
  go_simp
  refine hK _ ?_
  clear hK K
  refine st_pure rfl (fun K hK => ?_)
  go_simp
  refine hK _ ?_
  clear hK K
  refine st_pure rfl (fun K hK => ?_)
  go_simp
  refine hK _ ?_
  clear hK K
  refine st_effg rfl rfl (fun K hK => ?_)
  go_simp
  refine CF.mono ?_
  rintro e w4 ⟨rfl, S4, hd4, hk4, hS4⟩
  have hk4 : Kp S X w4 := ⟨hk4.os, hk4.tape, hk4.output, hk4.size, hk4.block⟩
  have hS4 : ∀ k, S4 k → S k ∨ w3.heap.size + 1 ≤ k := fun k h => by have := hS4 k h; have e : X.drew.heap.size = w3.heap.size + 1 := hsX; rwa [e] at this
  have B4 := BX.keep hk4 (fun hs => by have := hSw _ hs; have := hbw3.size; omega)
  have C4 := CX.keep hk4 (fun hs => by have := hSw _ hs; omega)
  refine hK _ _ (fun _ => B4) ?_
  clear hK K
  refine st_effg rfl rfl (fun K hK => ?_)
  go_simp
  refine (num_any _ _).mono ?_
  rintro e w' ⟨rfl, rfl⟩
  refine hK _ _ (fun _ => B4) ?_
  clear hK K
  refine st_pure rfl (fun K hK => ?_)
  go_simp
  refine hK _ ?_
  clear hK K
  obtain ⟨q0, q1, q2, q3, qf⟩ := C4.cells
  refine st_effg rfl rfl (fun K hK => ?_)
  go_simp
  refine hK _ _ (fun _ => B4.set4 (by have := hbw3.size; omega) _ _ _ _) ?_
  clear hK K
  refine st_effg rfl rfl (fun K hK => ?_)
  go_simp
  refine hK _ _ (fun h => by cases h) ?_
  clear hK K
  refine st_nil ?_
  refine NoPanic.normal ?_
  go_wp2
  have hkF := (((((Kp.refl (fun b => b = w.heap.size + 1 + 1) w4).setCell (p := ⟨w.heap.size + 1 + 1, 0, none⟩) (.inl rfl) (.slice LB d'.lasts.length lc3)).setCell (p := ⟨w.heap.size + 1 + 1, 1, none⟩) (.inl rfl) (.slice WB d'.waits.length wc3)).setCell (p := ⟨w.heap.size + 1 + 1, 2, none⟩) (.inl rfl) (.int .i64 d'.steps)).setCell (p := ⟨w.heap.size + 1 + 1, 3, none⟩) (.inl rfl) (.int .i64 d'.armed))
  have hs4 := hk4.size
  have hsF := hkF.size
  have hr3' := hr3.mono (T1 := fun k => (T k ∨ W0.heap.size ≤ k) ∧ k < w3.heap.size) (fun k hk ho => ⟨ho, hk⟩)
  have hr4 := RefV.kpA (hr3'.below hbX) hk4 (fun k _ ht hs => by
    rcases ht.1 with h1 | h1
    · exact hap k h1 hs
    · have := hSw _ hs; omega)
  have hrF := RefV.kpA hr4 hkF (fun k _ ht hM => by
    rcases ht.1 with h1 | h1
    · have := htl k h1; omega
    · omega)
  have hdF := hd4.move hkF (fun k h hM => by
    rcases hS4 k h with h1 | h1
    · have := hSw _ h1; omega
    · omega) (fun k h hM => by have := hRw k h; omega)
  refine bodyPost_ret (v := .tuple #[rv LB d'.lasts.length lc3 WB d'.waits.length wc3 d'.steps d'.armed, .bool true]) (by rw [results_cell_tmp rfl]; simp [go_sem, asAddr, rv, q0, q1, q2, q3]) rfl
    ⟨S4, fun k => (T k ∨ W0.heap.size ≤ k) ∧ k < w3.heap.size, _, rfl, ?_, ?_, ?_, ?_⟩
  · rw [← HD.out]
    exact { dsk := hdF, tl := fun k h => by have := h.2; omega, ref := hrF, ap := fun k h hs => by
              rcases hS4 k hs with h1 | h1
              · rcases h.1 with h2 | h2
                · exact hap k h2 h1
                · have := hSw _ h1; omega
              · have := h.2; omega
            now := by rw [HD.out]; exact fl_good d HNO.out }
  · exact ((Kp.of_below hbwX S).trans hk4 (fun _ _ h => h)).trans hkF (fun b hb hM => by omega)
  · intro k h
    rcases hS4 k h with h1 | h1
    · exact .inl h1
    · exact .inr (by omega)
  · intro k h
    rcases h.1 with h1 | h1
    · exact .inl h1
    · exact .inr (by omega)

set_option maxRecDepth 100000 in
set_option maxHeartbeats 2000000 in
theorem act2 {R S T : Nat → Prop} (w : World) (p : Nat) (v : Value) (d : Dk) (h : BothR R w S T p v d) (at_ n : Int) (B : Option Addr) (m bc : Nat) :
    Calls Try.prog 27 #[.pointer (some ⟨p, 0, none⟩), v, .agg #[.int .i64 2, .int .i64 at_, .int .i64 n, .slice B m bc]] w fun e w' =>
      ∃ S' T' v', e = .returned (.tuple #[v', .bool true]) ∧ BothR R w' S' T' p v' (d.arm at_) ∧ Kp S w w' ∧ (∀ k, S' k → S k ∨ w.heap.size ≤ k) ∧ (∀ k, T' k → T k ∨ w.heap.size ≤ k) := by
  obtain ⟨hd, htl, hr, hap, hnow⟩ := h
  have hRw := hd.rl
  obtain ⟨LA, lc, WA, wcap, wcs, rfl, j1, j2, j3⟩ := id hr
  have hSw : ∀ k, S k → k < w.heap.size := hd.1
  obtain ⟨W0, hW0⟩ : ∃ W0, W0 = (((w.alloc (.cells #[.slice LA d.lasts.length lc, .slice WA d.waits.length wcap, .int .i64 d.steps, .int .i64 d.armed] 48)).alloc (.cells #[.int .i64 2, .int .i64 at_, .int .i64 n, .slice B m bc] 40)).alloc (.cells #[.slice none 0 0, .slice none 0 0, .int .i64 0, .int .i64 0] 48)) := ⟨_, rfl⟩
  have hsz0 : W0.heap.size = w.heap.size + 3 := by rw [hW0]; simp
  have hbw0 : Below w.heap.size w W0 := by rw [hW0]; exact (((Below.refl _ _).alloc (Nat.le_refl _) _).alloc (by simp) _).alloc (by simp; omega) _
  have c1 : W0.cell? ⟨w.heap.size + 1, 1, none⟩ = some (.int .i64 at_) := by rw [hW0]; simp [go_sem]
  have B0 : Box4 W0 w.heap.size (.slice LA d.lasts.length lc) (.slice WA d.waits.length wcap) (.int .i64 d.steps) (.int .i64 d.armed) := by rw [hW0]; exact ((Box4.new _ _ _ _ _).alloc _).alloc _
  have B1 : Box4 W0 (w.heap.size + 1 + 1) (.slice none 0 0) (.slice none 0 0) (.int .i64 0) (.int .i64 0) := by
    rw [hW0]
    have := Box4.new ((w.alloc (.cells #[.slice LA d.lasts.length lc, .slice WA d.waits.length wcap, .int .i64 d.steps, .int .i64 d.armed] 48)).alloc (.cells #[.int .i64 2, .int .i64 at_, .int .i64 n, .slice B m bc] 40)) (.slice none 0 0) (.slice none 0 0) (.int .i64 0) (.int .i64 0)
    rwa [World.size_alloc, World.size_alloc] at this
  have hdr : Below W0.heap.size W0 W0.drew := ⟨rfl, rfl, rfl, Nat.le_refl _, fun _ _ => rfl⟩
  have AR := arm_ref W0.drew LA d.lasts.length lc WA d.waits.length wcap d.steps d.armed at_
  unfold rv at AR
  have HW := Lib.hid hW0; clear hW0
  go_enter Try.func27, Try.ntmps27
  go_wp2_with fail
  rw [← HW.out]
  refine wp_region_noPanic ?_
  refine mix [(0, true), (1, true), (2, true), (4, true), (5, true), (6, true), (3, false), (7, false), (8, false), (9, true), (10, false), (11, false)] [0, 1, 2, 3, 4, 5, 6, 7, 8, 9, 10] (fun W => Box4 W w.heap.size (.slice LA d.lasts.length lc) (.slice WA d.waits.length wcap) (.int .i64 d.steps) (.int .i64 d.armed) ∧ W.cell? ⟨w.heap.size + 1, 1, none⟩ = some (.int .i64 at_)) (by kernel_rfl) (by kernel_rfl) (fun _ _ _ _ _ h => h) ⟨B0, c1⟩ ?_
  refine st_rdg (.agg #[.slice LA d.lasts.length lc, .slice WA d.waits.length wcap, .int .i64 d.steps, .int .i64 d.armed]) rfl rfl (fun W hS => ?_) (fun K hK => ?_)
  · obtain ⟨q0, q1, q2, q3, qf⟩ := hS.1.cells
    simp [go_sem, q0, q1, q2, q3]
  go_simp
  refine hK _ ?_
  clear hK K
  refine st_pure rfl (fun K hK => ?_)
  go_simp
  refine hK _ ?_
  clear hK K
  refine st_rdg (.int .i64 at_) rfl rfl (fun W hS => ?_) (fun K hK => ?_)
  · have := hS.2
    simp [go_sem, this]
  go_simp
  refine hK _ ?_
  clear hK K
  refine st_pure rfl (fun K hK => ?_)
  go_simp
  refine hK _ ?_
  clear hK K
  refine st_pure rfl (fun K hK => ?_)
  go_simp
  refine hK _ ?_
  clear hK K
  refine st_rdg (.int .i64 at_) rfl rfl (fun W hS => ?_) (fun K hK => ?_)
  · have := hS.2
    simp [go_sem, this]
  go_simp
  refine hK _ ?_
  clear hK K
  refine st_effg rfl rfl (fun K hK => ?_)
  go_simp
  refine AR.mono ?_
  rintro e w3 ⟨hb3, rfl⟩
  have hb3 : Below W0.heap.size W0 w3 := hdr.trans hb3
  have hbw3 := hbw0.trans (hb3.mono hbw0.size)
  have hs3 := hb3.size
  have D0 := B0.below hb3
  have D1 := B1.below hb3
  have e1 := (hb3.cell (p := ⟨w.heap.size + 1, 1, none⟩) (by simp; omega)).trans c1
  refine hK _ _ (fun _ => ⟨D0, e1⟩) ?_
  clear hK K
  have CF := arm_S (hd.below hbw3) at_
  refine st_effg rfl rfl (fun K hK => ?_)
  go_simp
  refine CF.mono ?_
  rintro e w4 ⟨rfl, S4, hd4, hk4, hS4⟩
  have E0 := D0.keep hk4 (fun hs => by have := hSw _ hs; omega)
  have E1 := D1.keep hk4 (fun hs => by have := hSw _ hs; omega)
  have f1 := hk4.cell e1 (fun hs => by have : w.heap.size + 1 < w.heap.size := hSw _ hs; omega)
  refine hK _ _ (fun _ => ⟨E0, f1⟩) ?_
  clear hK K
  refine st_effg rfl rfl (fun K hK => ?_)
  go_simp
  refine (num_any _ _).mono ?_
  rintro e w' ⟨rfl, rfl⟩
  refine hK _ _ (fun _ => ⟨E0, f1⟩) ?_
  clear hK K
  refine st_pure rfl (fun K hK => ?_)
  go_simp
  refine hK _ ?_
  clear hK K
  obtain ⟨q0, q1, q2, q3, qf⟩ := E1.cells
  refine st_effg rfl rfl (fun K hK => ?_)
  go_simp
  refine hK _ _ (fun _ => ⟨E0.set4 (by omega) _ _ _ _, ?_⟩) ?_
  · rw [World.cell?_setCell_other _ _ _ _ (by simp), World.cell?_setCell_other _ _ _ _ (by simp), World.cell?_setCell_other _ _ _ _ (by simp), World.cell?_setCell_other _ _ _ _ (by simp)]
    exact f1
  clear hK K
  refine st_effg rfl rfl (fun K hK => ?_)
  go_simp
  refine hK _ _ (fun h => by cases h) ?_
  clear hK K
  refine st_nil ?_
  refine NoPanic.normal ?_
  go_wp2
  have hkF := (((((Kp.refl (fun b => b = w.heap.size + 1 + 1) w4).setCell (p := ⟨w.heap.size + 1 + 1, 0, none⟩) (.inl rfl) (.slice LA d.lasts.length lc)).setCell (p := ⟨w.heap.size + 1 + 1, 1, none⟩) (.inl rfl) (.slice WA d.waits.length wcap)).setCell (p := ⟨w.heap.size + 1 + 1, 2, none⟩) (.inl rfl) (.int .i64 d.steps)).setCell (p := ⟨w.heap.size + 1 + 1, 3, none⟩) (.inl rfl) (.int .i64 (max at_ (-1))))
  have hs4 := hk4.size
  have hsF := hkF.size
  have hrA : RefV w T (rv LA d.lasts.length lc WA d.waits.length wcap d.steps (max at_ (-1))) (d.arm at_) := ⟨LA, lc, WA, wcap, wcs, rfl, j1, j2, j3⟩
  have hr4 := RefV.kpA (hrA.below hbw3) hk4 (fun k _ ht hs => hap k ht hs)
  have hrF := RefV.kpA hr4 hkF (fun k _ ht hM => by have := htl k ht; omega)
  have hS4' : ∀ k, S4 k → S k ∨ w3.heap.size ≤ k := hS4
  have hdF := hd4.move hkF (fun k h hM => by
    rcases hS4' k h with h1 | h1
    · have := hSw _ h1; omega
    · omega) (fun k h hM => by have := hRw k h; omega)
  refine bodyPost_ret (v := .tuple #[rv LA d.lasts.length lc WA d.waits.length wcap d.steps (max at_ (-1)), .bool true]) (by rw [results_cell_tmp rfl]; simp [go_sem, asAddr, rv, q0, q1, q2, q3]) rfl
    ⟨S4, T, _, rfl, ?_, ?_, ?_, fun k h => .inl h⟩
  · exact { dsk := hdF, tl := fun k h => by have := htl k h; omega, ref := hrF, ap := fun k h hs => by
              rcases hS4' k hs with h1 | h1
              · exact hap k h h1
              · have := htl k h; omega
            now := hnow }
  · exact ((Kp.of_below hbw3 S).trans hk4 (fun _ _ h => h)).trans hkF (fun b hb hM => by omega)
  · intro k h
    rcases hS4' k h with h1 | h1
    · exact .inl h1
    · exact .inr (by omega)
end Go.Proofs.Ytmajfiljajbipaa
