/- The law's helper act: Read. -/
import Derived.Test.YtmajfiljajbipaaAct08b
set_option linter.unusedVariables false
set_option linter.unusedSimpArgs false
namespace Go.Proofs.Ytmajfiljajbipaa
open Go.RowKit

set_option maxRecDepth 100000 in
set_option maxHeartbeats 2000000 in
theorem act3_neg {R S T : Nat → Prop} (w : World) (p : Nat) (v : Value) (d : Dk) (h : BothR R w S T p v d) (what at_ n : Int) (B : Option Addr) (m bc : Nat) (hw : what ≠ 0 ∧ what ≠ 1 ∧ what ≠ 2) (hn : n < 0) :
    Calls Try.prog 27 #[.pointer (some ⟨p, 0, none⟩), v, .agg #[.int .i64 what, .int .i64 at_, .int .i64 n, .slice B m bc]] w fun e w' =>
      ∃ v', e = .returned (.tuple #[v', .bool true]) ∧ BothR R w' S T p v' d ∧ Kp S w w' := by
  obtain ⟨hd, htl, hr, hap, hnow⟩ := h
  have hRw := hd.rl
  obtain ⟨LA, lc, WA, wcap, wcs, rfl, j1, j2, j3⟩ := id hr
  obtain ⟨hp, hbig, hsame, hfit⟩ := hd.props
  have hSw : ∀ k, S k → k < w.heap.size := hd.1
  have g0 : (what == 0) = false := by simp; exact hw.1
  have g1 : (what == 1) = false := by simp; exact hw.2.1
  have g2 : (what == 2) = false := by simp; exact hw.2.2
  obtain ⟨W0, hW0⟩ : ∃ W0, W0 = (((w.alloc (.cells #[.slice LA d.lasts.length lc, .slice WA d.waits.length wcap, .int .i64 d.steps, .int .i64 d.armed] 48)).alloc (.cells #[.int .i64 what, .int .i64 at_, .int .i64 n, .slice B m bc] 40)).alloc (.cells #[.slice none 0 0, .slice none 0 0, .int .i64 0, .int .i64 0] 48)) := ⟨_, rfl⟩
  have hsz0 : W0.heap.size = w.heap.size + 3 := by rw [hW0]; simp
  have hbw0 : Below w.heap.size w W0 := by rw [hW0]; exact (((Below.refl _ _).alloc (Nat.le_refl _) _).alloc (by simp) _).alloc (by simp; omega) _
  have c1 : W0.cell? ⟨w.heap.size + 1, 1, none⟩ = some (.int .i64 at_) := by rw [hW0]; simp [go_sem]
  have c2 : W0.cell? ⟨w.heap.size + 1, 2, none⟩ = some (.int .i64 n) := by rw [hW0]; simp [go_sem]
  have B0 : Box4 W0 w.heap.size (.slice LA d.lasts.length lc) (.slice WA d.waits.length wcap) (.int .i64 d.steps) (.int .i64 d.armed) := by rw [hW0]; exact ((Box4.new _ _ _ _ _).alloc _).alloc _
  have B1 : Box4 W0 (w.heap.size + 1 + 1) (.slice none 0 0) (.slice none 0 0) (.int .i64 0) (.int .i64 0) := by
    rw [hW0]
    have := Box4.new ((w.alloc (.cells #[.slice LA d.lasts.length lc, .slice WA d.waits.length wcap, .int .i64 d.steps, .int .i64 d.armed] 48)).alloc (.cells #[.int .i64 what, .int .i64 at_, .int .i64 n, .slice B m bc] 40)) (.slice none 0 0) (.slice none 0 0) (.int .i64 0) (.int .i64 0)
    rwa [World.size_alloc, World.size_alloc] at this
  obtain ⟨fp, hfp, hdk⟩ := (hd.below hbw0).2
  have R := read_arg hdk at_ n hn
  rw [hW0] at R
  have HW := Lib.hid hW0; clear hW0
  have HS := Lib.hid hsame; clear hsame
  have HNO := Lib.hid hnow
  clear hnow
  have hcell := B0.cells
  obtain ⟨q0, q1, q2, q3, qf⟩ := B1.cells
  clear c1 hcell
  go_enter Try.func27, Try.ntmps27
  go_wp2_with (go_at_call 21; refine R.mono ?_; rintro e w' ⟨rfl, rfl⟩)
  rw [← HW.out]
  refine wp_region_noPanic ?_
  refine mix [(0, true), (1, true), (2, true), (3, true), (4, true), (5, true), (6, false), (7, true), (8, true), (9, false), (10, false)] [0, 1, 2, 3, 4, 5, 6, 7, 8, 9] (fun W => Box4 W w.heap.size (.slice LA d.lasts.length lc) (.slice WA d.waits.length wcap) (.int .i64 d.steps) (.int .i64 d.armed)) (by kernel_rfl) (by kernel_rfl) (fun _ _ _ _ _ h => h) B0 ?_
  refine st_rdg (.agg #[.slice LA d.lasts.length lc, .slice WA d.waits.length wcap, .int .i64 d.steps, .int .i64 d.armed]) rfl rfl (fun W hS => ?_) (fun K hK => ?_)
  · obtain ⟨q0, q1, q2, q3, qf⟩ := hS.cells
    simp [go_sem, q0, q1, q2, q3]
  go_simp
  refine hK _ ?_
  clear hK K
  refine st_pure rfl (fun K hK => ?_)
  go_simp
  refine hK _ ?_
  clear hK K
  refine st_pure rfl (fun K hK => ?_)
  go_simp
  refine hK _ ?_
  clear hK K
  refine st_pure rfl (fun K hK => ?_)
  go_simp
  refine hK _ ?_
  clear hK K
  refine st_pure rfl (fun K hK => ?_)
  go_simp
  refine hK _ ?_
  clear hK K
  refine st_pure rfl (fun K hK => ?_)
  go_simp
  refine hK _ ?_
  clear hK K
  refine st_effg rfl rfl (fun K hK => ?_)
  go_simp
  refine (num_any _ _).mono ?_
  rintro e w' ⟨rfl, rfl⟩
  refine hK _ _ (fun _ => B0) ?_
  clear hK K
  refine st_pure rfl (fun K hK => ?_)
  go_simp
  refine hK _ ?_
  clear hK K
  refine st_pure rfl (fun K hK => ?_)
  go_simp
  refine hK _ ?_
  clear hK K
  refine st_effg rfl rfl (fun K hK => ?_)
  go_simp
  refine hK _ _ (fun _ => B0.set4 (by omega) _ _ _ _) ?_
  clear hK K
  refine st_effg rfl rfl (fun K hK => ?_)
  go_simp
  refine hK _ _ (fun h => by cases h) ?_
  clear hK K
  refine st_nil ?_
  refine NoPanic.normal ?_
  go_wp2
  have hnow := HNO.out
  have hdr : Below W0.heap.size W0 W0.drew := ⟨rfl, rfl, rfl, Nat.le_refl _, fun _ _ => rfl⟩
  have hbwX := hbw0.trans (hdr.mono hbw0.size)
  have hkF := (((((Kp.refl (fun b => b = w.heap.size + 1 + 1) W0.drew).setCell (p := ⟨w.heap.size + 1 + 1, 0, none⟩) (.inl rfl) (.slice LA d.lasts.length lc)).setCell (p := ⟨w.heap.size + 1 + 1, 1, none⟩) (.inl rfl) (.slice WA d.waits.length wcap)).setCell (p := ⟨w.heap.size + 1 + 1, 2, none⟩) (.inl rfl) (.int .i64 d.steps)).setCell (p := ⟨w.heap.size + 1 + 1, 3, none⟩) (.inl rfl) (.int .i64 d.armed))
  have hsF := hkF.size
  have hrF := RefV.kpA (hr.below hbwX) hkF (fun k _ ht hM => by have := htl k ht; omega)
  have hdF := (hd.below hbwX).move hkF (fun k h hM => by have := hSw _ h; omega) (fun k h hM => by have := hRw k h; omega)
  have hsX := hbwX.size
  refine bodyPost_ret (v := .tuple #[rv LA d.lasts.length lc WA d.waits.length wcap d.steps d.armed, .bool true]) (by rw [results_cell_tmp rfl]; simp [go_sem, asAddr, rv, q0, q1, q2, q3]) rfl
    ⟨_, rfl, { dsk := hdF, tl := fun k h => Nat.lt_of_lt_of_le (htl k h) (Nat.le_trans hbwX.size hkF.size), ref := hrF, ap := hap, now := hnow }, (Kp.of_below hbwX S).trans hkF (fun b hb hM => by omega)⟩

set_option maxRecDepth 100000 in
set_option maxHeartbeats 2000000 in
theorem act3_range {R S T : Nat → Prop} (w : World) (p : Nat) (v : Value) (d : Dk) (h : BothR R w S T p v d) (what at_ n : Int) (B : Option Addr) (m bc : Nat) (hw : what ≠ 0 ∧ what ≠ 1 ∧ what ≠ 2) (hn : 0 ≤ n) (hx : ¬ (0 ≤ at_ ∧ at_ ≤ d.now.length ∧ n ≤ d.now.length - at_)) :
    Calls Try.prog 27 #[.pointer (some ⟨p, 0, none⟩), v, .agg #[.int .i64 what, .int .i64 at_, .int .i64 n, .slice B m bc]] w fun e w' =>
      ∃ v', e = .returned (.tuple #[v', .bool true]) ∧ BothR R w' S T p v' d ∧ Kp S w w' := by
  obtain ⟨hd, htl, hr, hap, hnow⟩ := h
  have hRw := hd.rl
  obtain ⟨LA, lc, WA, wcap, wcs, rfl, j1, j2, j3⟩ := id hr
  obtain ⟨hp, hbig, hsame, hfit⟩ := hd.props
  have hSw : ∀ k, S k → k < w.heap.size := hd.1
  have g0 : (what == 0) = false := by simp; exact hw.1
  have g1 : (what == 1) = false := by simp; exact hw.2.1
  have g2 : (what == 2) = false := by simp; exact hw.2.2
  obtain ⟨W0, hW0⟩ : ∃ W0, W0 = (((w.alloc (.cells #[.slice LA d.lasts.length lc, .slice WA d.waits.length wcap, .int .i64 d.steps, .int .i64 d.armed] 48)).alloc (.cells #[.int .i64 what, .int .i64 at_, .int .i64 n, .slice B m bc] 40)).alloc (.cells #[.slice none 0 0, .slice none 0 0, .int .i64 0, .int .i64 0] 48)) := ⟨_, rfl⟩
  have hsz0 : W0.heap.size = w.heap.size + 3 := by rw [hW0]; simp
  have hbw0 : Below w.heap.size w W0 := by rw [hW0]; exact (((Below.refl _ _).alloc (Nat.le_refl _) _).alloc (by simp) _).alloc (by simp; omega) _
  have c1 : W0.cell? ⟨w.heap.size + 1, 1, none⟩ = some (.int .i64 at_) := by rw [hW0]; simp [go_sem]
  have c2 : W0.cell? ⟨w.heap.size + 1, 2, none⟩ = some (.int .i64 n) := by rw [hW0]; simp [go_sem]
  have B0 : Box4 W0 w.heap.size (.slice LA d.lasts.length lc) (.slice WA d.waits.length wcap) (.int .i64 d.steps) (.int .i64 d.armed) := by rw [hW0]; exact ((Box4.new _ _ _ _ _).alloc _).alloc _
  have B1 : Box4 W0 (w.heap.size + 1 + 1) (.slice none 0 0) (.slice none 0 0) (.int .i64 0) (.int .i64 0) := by
    rw [hW0]
    have := Box4.new ((w.alloc (.cells #[.slice LA d.lasts.length lc, .slice WA d.waits.length wcap, .int .i64 d.steps, .int .i64 d.armed] 48)).alloc (.cells #[.int .i64 what, .int .i64 at_, .int .i64 n, .slice B m bc] 40)) (.slice none 0 0) (.slice none 0 0) (.int .i64 0) (.int .i64 0)
    rwa [World.size_alloc, World.size_alloc] at this
  obtain ⟨fp, hfp, hdk⟩ := (hd.below hbw0).2
  have R := read_range hdk at_ n hn hx
  rw [hW0] at R
  have hn' : ¬ n < 0 := by omega
  have hcase : at_ < 0 ∨ (¬ at_ < 0 ∧ (d.lasts.length : Int) < at_) ∨ (¬ at_ < 0 ∧ ¬ (d.lasts.length : Int) < at_ ∧ (d.lasts.length : Int) - at_ < n) := by omega
  have HX := Lib.hid hx; clear hx
  have HW := Lib.hid hW0; clear hW0
  have HS := Lib.hid hsame; clear hsame
  have HNO := Lib.hid hnow
  clear hnow
  have hdr : Below W0.heap.size W0 W0.drew := ⟨rfl, rfl, rfl, Nat.le_refl _, fun _ _ => rfl⟩
  have hbwX := hbw0.trans (hdr.mono hbw0.size)
  obtain ⟨q0, q1, q2, q3, qf⟩ := B1.cells
  obtain ⟨b0, b1, b2, b3, bf⟩ := B0.cells
  rcases hcase with k1 | ⟨k1, k2⟩ | ⟨k1, k2, k3⟩
  · go_enter Try.func27, Try.ntmps27
    go_wp2_with (go_at_call 21; refine R.mono ?_; rintro e w' ⟨rfl, rfl⟩)
    rw [← HW.out]
    refine wp_region_noPanic ?_
    refine mix [(0, true), (1, true), (2, true), (3, true), (4, true), (5, true), (6, false), (7, true), (8, true), (9, false), (10, false)] [0, 1, 2, 3, 4, 5, 6, 7, 8, 9] (fun W => Box4 W w.heap.size (.slice LA d.lasts.length lc) (.slice WA d.waits.length wcap) (.int .i64 d.steps) (.int .i64 d.armed)) (by kernel_rfl) (by kernel_rfl) (fun _ _ _ _ _ h => h) B0 ?_
    refine st_rdg (.agg #[.slice LA d.lasts.length lc, .slice WA d.waits.length wcap, .int .i64 d.steps, .int .i64 d.armed]) rfl rfl (fun W hS => ?_) (fun K hK => ?_)
    · obtain ⟨q0, q1, q2, q3, qf⟩ := hS.cells
      simp [go_sem, q0, q1, q2, q3]
    go_simp
    refine hK _ ?_
    clear hK K
    refine st_pure rfl (fun K hK => ?_)
    go_simp
    refine hK _ ?_
    clear hK K
    refine st_pure rfl (fun K hK => ?_)
    go_simp
    refine hK _ ?_
    clear hK K
    refine st_pure rfl (fun K hK => ?_)
    go_simp
    refine hK _ ?_
    clear hK K
    refine st_pure rfl (fun K hK => ?_)
    go_simp
    refine hK _ ?_
    clear hK K
    refine st_pure rfl (fun K hK => ?_)
    go_simp
    refine hK _ ?_
    clear hK K
    refine st_effg rfl rfl (fun K hK => ?_)
    go_simp
    refine (num_any _ _).mono ?_
    rintro e w' ⟨rfl, rfl⟩
    refine hK _ _ (fun _ => B0) ?_
    clear hK K
    refine st_pure rfl (fun K hK => ?_)
    go_simp
    refine hK _ ?_
    clear hK K
    refine st_pure rfl (fun K hK => ?_)
    go_simp
    refine hK _ ?_
    clear hK K
    refine st_effg rfl rfl (fun K hK => ?_)
    go_simp
    refine hK _ _ (fun _ => B0.set4 (by omega) _ _ _ _) ?_
    clear hK K
    refine st_effg rfl rfl (fun K hK => ?_)
    go_simp
    refine hK _ _ (fun h => by cases h) ?_
    clear hK K
    refine st_nil ?_
    refine NoPanic.normal ?_
    go_wp2
    have hnow := HNO.out
    have hkF := (((((Kp.refl (fun b => b = w.heap.size + 1 + 1) W0.drew).setCell (p := ⟨w.heap.size + 1 + 1, 0, none⟩) (.inl rfl) (.slice LA d.lasts.length lc)).setCell (p := ⟨w.heap.size + 1 + 1, 1, none⟩) (.inl rfl) (.slice WA d.waits.length wcap)).setCell (p := ⟨w.heap.size + 1 + 1, 2, none⟩) (.inl rfl) (.int .i64 d.steps)).setCell (p := ⟨w.heap.size + 1 + 1, 3, none⟩) (.inl rfl) (.int .i64 d.armed))
    have hsF := hkF.size
    have hrF := RefV.kpA (hr.below hbwX) hkF (fun k _ ht hM => by have := htl k ht; omega)
    have hdF := (hd.below hbwX).move hkF (fun k h hM => by have := hSw _ h; omega) (fun k h hM => by have := hRw k h; omega)
    have hsX := hbwX.size
    refine bodyPost_ret (v := .tuple #[rv LA d.lasts.length lc WA d.waits.length wcap d.steps d.armed, .bool true]) (by rw [results_cell_tmp rfl]; simp [go_sem, asAddr, rv, q0, q1, q2, q3]) rfl
      ⟨_, rfl, { dsk := hdF, tl := fun k h => Nat.lt_of_lt_of_le (htl k h) (Nat.le_trans hbwX.size hkF.size), ref := hrF, ap := hap, now := hnow }, (Kp.of_below hbwX S).trans hkF (fun b hb hM => by omega)⟩
  · go_enter Try.func27, Try.ntmps27
    go_wp2_with (go_at_call 21; refine R.mono ?_; rintro e w' ⟨rfl, rfl⟩)
    rw [← HW.out]
    refine wp_region_noPanic ?_
    refine mix [(0, true), (1, true), (2, true), (3, true), (4, true), (5, true), (6, false), (7, true), (8, true), (9, false), (10, false)] [0, 1, 2, 3, 4, 5, 6, 7, 8, 9] (fun W => Box4 W w.heap.size (.slice LA d.lasts.length lc) (.slice WA d.waits.length wcap) (.int .i64 d.steps) (.int .i64 d.armed)) (by kernel_rfl) (by kernel_rfl) (fun _ _ _ _ _ h => h) B0 ?_
    refine st_rdg (.agg #[.slice LA d.lasts.length lc, .slice WA d.waits.length wcap, .int .i64 d.steps, .int .i64 d.armed]) rfl rfl (fun W hS => ?_) (fun K hK => ?_)
    · obtain ⟨q0, q1, q2, q3, qf⟩ := hS.cells
      simp [go_sem, q0, q1, q2, q3]
    go_simp
    refine hK _ ?_
    clear hK K
    refine st_pure rfl (fun K hK => ?_)
    go_simp
    refine hK _ ?_
    clear hK K
    refine st_pure rfl (fun K hK => ?_)
    go_simp
    refine hK _ ?_
    clear hK K
    refine st_pure rfl (fun K hK => ?_)
    go_simp
    refine hK _ ?_
    clear hK K
    refine st_pure rfl (fun K hK => ?_)
    go_simp
    refine hK _ ?_
    clear hK K
    refine st_pure rfl (fun K hK => ?_)
    go_simp
    refine hK _ ?_
    clear hK K
    refine st_effg rfl rfl (fun K hK => ?_)
    go_simp
    refine (num_any _ _).mono ?_
    rintro e w' ⟨rfl, rfl⟩
    refine hK _ _ (fun _ => B0) ?_
    clear hK K
    refine st_pure rfl (fun K hK => ?_)
    go_simp
    refine hK _ ?_
    clear hK K
    refine st_pure rfl (fun K hK => ?_)
    go_simp
    refine hK _ ?_
    clear hK K
    refine st_effg rfl rfl (fun K hK => ?_)
    go_simp
    refine hK _ _ (fun _ => B0.set4 (by omega) _ _ _ _) ?_
    clear hK K
    refine st_effg rfl rfl (fun K hK => ?_)
    go_simp
    refine hK _ _ (fun h => by cases h) ?_
    clear hK K
    refine st_nil ?_
    refine NoPanic.normal ?_
    go_wp2
    have hnow := HNO.out
    have hkF := (((((Kp.refl (fun b => b = w.heap.size + 1 + 1) W0.drew).setCell (p := ⟨w.heap.size + 1 + 1, 0, none⟩) (.inl rfl) (.slice LA d.lasts.length lc)).setCell (p := ⟨w.heap.size + 1 + 1, 1, none⟩) (.inl rfl) (.slice WA d.waits.length wcap)).setCell (p := ⟨w.heap.size + 1 + 1, 2, none⟩) (.inl rfl) (.int .i64 d.steps)).setCell (p := ⟨w.heap.size + 1 + 1, 3, none⟩) (.inl rfl) (.int .i64 d.armed))
    have hsF := hkF.size
    have hrF := RefV.kpA (hr.below hbwX) hkF (fun k _ ht hM => by have := htl k ht; omega)
    have hdF := (hd.below hbwX).move hkF (fun k h hM => by have := hSw _ h; omega) (fun k h hM => by have := hRw k h; omega)
    have hsX := hbwX.size
    refine bodyPost_ret (v := .tuple #[rv LA d.lasts.length lc WA d.waits.length wcap d.steps d.armed, .bool true]) (by rw [results_cell_tmp rfl]; simp [go_sem, asAddr, rv, q0, q1, q2, q3]) rfl
      ⟨_, rfl, { dsk := hdF, tl := fun k h => Nat.lt_of_lt_of_le (htl k h) (Nat.le_trans hbwX.size hkF.size), ref := hrF, ap := hap, now := hnow }, (Kp.of_below hbwX S).trans hkF (fun b hb hM => by omega)⟩
  · have k3 : wrap64 ((d.lasts.length : Int) - at_) < n := by
      have e : wrap64 ((d.lasts.length : Int) - at_) = (d.lasts.length : Int) - at_ := by
        have := HS.out
        unfold wrap64; omega
      rw [e]; exact k3
    go_enter Try.func27, Try.ntmps27
    go_wp2_with (go_at_call 21; refine R.mono ?_; rintro e w' ⟨rfl, rfl⟩)
    rw [← HW.out]
    refine wp_region_noPanic ?_
    refine mix [(0, true), (1, true), (2, true), (3, true), (4, true), (5, true), (6, false), (7, true), (8, true), (9, false), (10, false)] [0, 1, 2, 3, 4, 5, 6, 7, 8, 9] (fun W => Box4 W w.heap.size (.slice LA d.lasts.length lc) (.slice WA d.waits.length wcap) (.int .i64 d.steps) (.int .i64 d.armed)) (by kernel_rfl) (by kernel_rfl) (fun _ _ _ _ _ h => h) B0 ?_
    refine st_rdg (.agg #[.slice LA d.lasts.length lc, .slice WA d.waits.length wcap, .int .i64 d.steps, .int .i64 d.armed]) rfl rfl (fun W hS => ?_) (fun K hK => ?_)
    · obtain ⟨q0, q1, q2, q3, qf⟩ := hS.cells
      simp [go_sem, q0, q1, q2, q3]
    go_simp
    refine hK _ ?_
    clear hK K
    refine st_pure rfl (fun K hK => ?_)
    go_simp
    refine hK _ ?_
    clear hK K
    refine st_pure rfl (fun K hK => ?_)
    go_simp
    refine hK _ ?_
    clear hK K
    refine st_pure rfl (fun K hK => ?_)
    go_simp
    refine hK _ ?_
    clear hK K
    refine st_pure rfl (fun K hK => ?_)
    go_simp
    refine hK _ ?_
    clear hK K
    refine st_pure rfl (fun K hK => ?_)
    go_simp
    refine hK _ ?_
    clear hK K
    refine st_effg rfl rfl (fun K hK => ?_)
    go_simp
    refine (num_any _ _).mono ?_
    rintro e w' ⟨rfl, rfl⟩
    refine hK _ _ (fun _ => B0) ?_
    clear hK K
    refine st_pure rfl (fun K hK => ?_)
    go_simp
    refine hK _ ?_
    clear hK K
    refine st_pure rfl (fun K hK => ?_)
    go_simp
    refine hK _ ?_
    clear hK K
    refine st_effg rfl rfl (fun K hK => ?_)
    go_simp
    refine hK _ _ (fun _ => B0.set4 (by omega) _ _ _ _) ?_
    clear hK K
    refine st_effg rfl rfl (fun K hK => ?_)
    go_simp
    refine hK _ _ (fun h => by cases h) ?_
    clear hK K
    refine st_nil ?_
    refine NoPanic.normal ?_
    go_wp2
    have hnow := HNO.out
    have hkF := (((((Kp.refl (fun b => b = w.heap.size + 1 + 1) W0.drew).setCell (p := ⟨w.heap.size + 1 + 1, 0, none⟩) (.inl rfl) (.slice LA d.lasts.length lc)).setCell (p := ⟨w.heap.size + 1 + 1, 1, none⟩) (.inl rfl) (.slice WA d.waits.length wcap)).setCell (p := ⟨w.heap.size + 1 + 1, 2, none⟩) (.inl rfl) (.int .i64 d.steps)).setCell (p := ⟨w.heap.size + 1 + 1, 3, none⟩) (.inl rfl) (.int .i64 d.armed))
    have hsF := hkF.size
    have hrF := RefV.kpA (hr.below hbwX) hkF (fun k _ ht hM => by have := htl k ht; omega)
    have hdF := (hd.below hbwX).move hkF (fun k h hM => by have := hSw _ h; omega) (fun k h hM => by have := hRw k h; omega)
    have hsX := hbwX.size
    refine bodyPost_ret (v := .tuple #[rv LA d.lasts.length lc WA d.waits.length wcap d.steps d.armed, .bool true]) (by rw [results_cell_tmp rfl]; simp [go_sem, asAddr, rv, q0, q1, q2, q3]) rfl
      ⟨_, rfl, { dsk := hdF, tl := fun k h => Nat.lt_of_lt_of_le (htl k h) (Nat.le_trans hbwX.size hkF.size), ref := hrF, ap := hap, now := hnow }, (Kp.of_below hbwX S).trans hkF (fun b hb hM => by omega)⟩
end Go.Proofs.Ytmajfiljajbipaa
