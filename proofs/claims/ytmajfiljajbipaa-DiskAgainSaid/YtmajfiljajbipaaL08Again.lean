/- DiskAgain: the walk. -/
import Derived.Test.YtmajfiljajbipaaAct08f
import Derived.Test.YtmajfiljajbipaaSame08
set_option linter.unusedVariables false
set_option linter.unusedSimpArgs false
namespace Go.Proofs.Ytmajfiljajbipaa
open Go.RowKit

theorem crash_of (l : List UInt8) (keep torn : Int) : (Dk.of l).crash keep torn = Dk.of l := by
  simp [Dk.crash, Dk.of, tornOf, upto, layAll]
theorem field0 (W : World) (a b c d : Value) : (Instr.field 48 (.agg #[a, b, c, d]) 0).run Try.prog W = .ok a W := by kernel_rfl
theorem eqb_refl (d : Dk) : d.eqb d = true := by simp [Dk.eqb]

set_option maxRecDepth 100000 in
set_option maxHeartbeats 4000000 in
theorem again_main (w : World) (n : Nat) (h1 : 1 ≤ n) (h2 : n ≤ 400) (A : Option Addr) (c : Nat) (xs : List Act8) (hs : Script w A c xs) (k1 t1 k2 t2 : Int) (hl : xs.length ≤ 9223372036854775807) :
    Calls Try.prog 9 #[.int .i64 (n : Int), .slice A xs.length c, .agg #[.int .i64 k1, .int .i64 t1], .agg #[.int .i64 k2, .int .i64 t2]] w fun e w' => e = .returned (.bool true) ∧ Below w.heap.size w w' := by
  have g1 : ¬ (n : Int) < 1 := by omega
  have g2 : ¬ (400 : Int) < n := by omega
  obtain ⟨W0, hW0⟩ : ∃ W0, W0 = ((w.alloc (.cells #[.int .i64 k1, .int .i64 t1] 36)).alloc (.cells #[.int .i64 k2, .int .i64 t2] 36)) := ⟨_, rfl⟩
  have hb0 : Below w.heap.size w W0 := by rw [hW0]; exact ((Below.refl _ _).alloc (Nat.le_refl _) _).alloc (by simp) _
  have c0 : W0.cell? ⟨w.heap.size, 0, none⟩ = some (.int .i64 k1) := by rw [hW0]; simp [go_sem]
  have c1 : W0.cell? ⟨w.heap.size, 1, none⟩ = some (.int .i64 t1) := by rw [hW0]; simp [go_sem]
  have c2 : W0.cell? ⟨w.heap.size + 1, 0, none⟩ = some (.int .i64 k2) := by rw [hW0]; simp [go_sem]
  have c3 : W0.cell? ⟨w.heap.size + 1, 1, none⟩ = some (.int .i64 t2) := by rw [hW0]; simp [go_sem]
  have hz0 : W0.heap.size ≤ w.heap.size + 2 ∧ w.heap.size + 2 ≤ W0.heap.size := by rw [hW0]; simp
  have F := few_any W0 A c xs (hs.below hb0) hl
  go_enter Try.func9, Try.ntmps9
  go_wp2_with fail
  rw [← hW0]
  refine F.mono ?_
  rintro e w' ⟨rfl, r, rfl, hr⟩
  clear hW0
  cases r with
  | false =>
    go_wp2_with (go_at_call 12; refine (works_ok _).mono ?_; rintro e w1 ⟨rfl, hb⟩)
    go_ret
    exact ⟨rfl, hb0.trans (hb.mono hb0.size)⟩
  | true =>
    obtain ⟨h50, h3⟩ := hr rfl
    go_wp2_with fail
    refine (played_ok _ n h1 h2 A c xs (hs.below hb0) h50 h3).mono ?_
    rintro e w1 ⟨p, S, T, v, d, rfl, hbo, hde, hdw, hb1, hSx⟩
    clear hde
    have hz1 := hb1.size
    have hbw1 := hb0.trans (hb1.mono hb0.size)
    obtain ⟨LA, lc, WA, wc, wcs, rfl, _, _, _⟩ := id hbo.ref
    obtain ⟨W1, hW1⟩ : ∃ W1, W1 = w1.alloc (.cells #[.slice LA d.lasts.length lc, .slice WA d.waits.length wc, .int .i64 d.steps, .int .i64 d.armed] 48) := ⟨_, rfl⟩
    have hbW : Below w1.heap.size w1 W1 := by rw [hW1]; exact (Below.refl _ _).alloc (Nat.le_refl _) _
    have BW : Box4 W1 w1.heap.size (.slice LA d.lasts.length lc) (.slice WA d.waits.length wc) (.int .i64 d.steps) (.int .i64 d.armed) := by rw [hW1]; exact Box4.new _ _ _ _ _
    have hsW : W1.heap.size ≤ w1.heap.size + 1 ∧ w1.heap.size + 1 ≤ W1.heap.size := by rw [hW1]; simp
    have tr : ∀ (j : Nat) (b : Nat) (v : Value), b < w.heap.size + 2 → W0.cell? ⟨b, j, none⟩ = some v → W1.cell? ⟨b, j, none⟩ = some v := fun j b v hb h => (hbW.cell (p := ⟨b, j, none⟩) (by simp; omega)).trans ((hb1.cell (p := ⟨b, j, none⟩) (by simp; omega)).trans h)
    have e0 := tr 0 _ _ (by omega) c0
    have e1 := tr 1 _ _ (by omega) c1
    have e2 := tr 0 _ _ (by omega) c2
    have e3 := tr 1 _ _ (by omega) c3
    have hboW := hbo.below hbW
    clear tr c0 c1 c2 c3
    have hbwW := hbw1.trans (hbW.mono (by omega))
    obtain ⟨hp, hbig, hsame, hfit⟩ := hboW.dsk.props
    have HS := Lib.hid hsame; clear hsame
    have f0 := e0
    have f1 := e1
    rw [hW1] at f0 f1
    have HW := Lib.hid hW1; clear hW1
    go_wp2_with fail
    clear f0 f1
    rw [← HW.out]
    obtain ⟨dx, hdx⟩ : ∃ dx, dx = d.crash k1 t1 := ⟨_, rfl⟩
    have hdw0 : dx.waits.length = 0 := by rw [hdx]; rfl
    have hds0 : dx.steps = 0 := by rw [hdx]; rfl
    have hda0 : dx.armed = -1 := by rw [hdx]; rfl
    have hag : dx.crash k2 t2 = dx := by rw [hdx]; unfold Dk.crash; exact crash_of _ k2 t2
    have hof : Dk.of dx.lasts = dx := by rw [hdx]; rfl
    have hm1 := crash_S hboW.dsk k1 t1 (by omega)
    rw [← hdx] at hm1
    refine hm1.mono ?_
    rintro e w2 ⟨q, Sq, rfl, hdq, hSq, hb2⟩
    clear hm1
    have hz2 := hb2.size
    have e0 := (hb2.cell (p := ⟨w.heap.size, 0, none⟩) (by simp; omega)).trans e0
    have e1 := (hb2.cell (p := ⟨w.heap.size, 1, none⟩) (by simp; omega)).trans e1
    have e2 := (hb2.cell (p := ⟨w.heap.size + 1, 0, none⟩) (by simp; omega)).trans e2
    have e3 := (hb2.cell (p := ⟨w.heap.size + 1, 1, none⟩) (by simp; omega)).trans e3
    have B2 := BW.below hb2
    have hbo2 := hboW.below hb2
    have hm2 := crash_S hdq k2 t2 (by omega)
    rw [hag] at hm2
    have HAG := Lib.hid hag; clear hag
    have HOF := Lib.hid hof; clear hof
    have HDW := Lib.hid hdw0; clear hdw0
    have HDS := Lib.hid hds0; clear hds0
    have HDA := Lib.hid hda0; clear hda0
    have HDX := Lib.hid hdx; clear hdx
    go_wp2_with fail
    (with_reducible refine hm2.mono ?_)
    rintro e w3 ⟨s, Ss, rfl, hds, hSs, hb3⟩
    have hz3 := hb3.size
    have e0 := (hb3.cell (p := ⟨w.heap.size, 0, none⟩) (by simp; omega)).trans e0
    have e1 := (hb3.cell (p := ⟨w.heap.size, 1, none⟩) (by simp; omega)).trans e1
    have B3 := B2.below hb3
    have hbo3 := hbo2.below hb3
    have hdq3 := hdq.below hb3
    have CR := crash_ref w3 _ d hbo3.ref (by rw [HS.out]; omega) (by rw [HS.out]; omega) (by omega) (by rw [HS.out]; exact hfit) k1 t1
    rw [← HDX.out] at CR
    obtain ⟨b0, b1, b2, b3, bf⟩ := B3.cells
    go_wp2_with fail
    (with_reducible refine CR.mono ?_)
    rintro e w4 ⟨hb4, v4, rfl, hr4⟩
    obtain ⟨LB, lcb, WB, wcb, wcsb, rfl, hlb, _, _⟩ := id hr4
    have hz4 := hb4.size
    obtain ⟨hpq, hbq, hsq, _⟩ := hdq.props
    have hO := of_S w4 LB dx.lasts.length lcb dx.lasts hlb (by omega) (by omega)
    rw [HOF.out] at hO
    have HSQ := Lib.hid hsq; clear hsq
    have hfd : ∀ W, (Instr.field 48 (.agg #[.slice LB dx.lasts.length lcb, .slice WB dx.waits.length wcb, .int .i64 dx.steps, .int .i64 dx.armed]) 0).run Try.prog W = .ok (.slice LB dx.lasts.length lcb) W := fun W => field0 W _ _ _ _
    go_wp2_with fail
    clear hfd
    (with_reducible refine hO.mono ?_)
    rintro e w5 ⟨u, Su, rfl, hdu, hSu, hb5⟩
    have hz5 := hb5.size
    have hdq5 := (hdq3.below hb4).below hb5
    have hds5 := (hds.below hb4).below hb5
    have hbw5 : Below w.heap.size w w5 := (((hbwW.trans (hb2.mono (by omega))).trans (hb3.mono (by omega))).trans (hb4.mono (by omega))).trans (hb5.mono (by omega))
    have SM1 := same_disk hdq5 hds5 (by rw [HDW.out]; omega) (by rw [HDW.out]; omega)
    rw [eqb_refl] at SM1
    go_wp2_with (go_at_call 17; refine (num_any _ _).mono ?_; rintro e w' ⟨rfl, rfl⟩)
    (with_reducible refine SM1.mono ?_)
    rintro e w6 ⟨rfl, hb6⟩
    have hz6 := hb6.size
    have hdq6 := hdq5.below hb6
    have hds6 := hds5.below hb6
    have hdu6 := hdu.below hb6
    have SM2 := same_disk hds6 hdu6 (by rw [HDW.out]; omega) (by rw [HDW.out]; omega)
    rw [eqb_refl] at SM2
    go_wp2_with fail
    (with_reducible refine SM2.mono ?_)
    rintro e w7 ⟨rfl, hb7⟩
    have hz7 := hb7.size
    have hbw7 := (hbw5.trans (hb6.mono (by omega))).trans (hb7.mono (by omega))
    have hdq7 := hdq6.below hb7
    obtain ⟨fp, hfp, hdk⟩ := hdq7.2
    have WT := waits_disk hdk
    have ST := steps_disk hdk
    rw [HDW.out] at WT
    rw [HDS.out] at ST
    have FL := flush_S hdq7
    have hfl : dx.fl.2 = 0 := by unfold Dk.fl; rw [HDA.out]; rfl
    rw [hfl] at FL
    clear hfl
    go_wp2_with (first | (go_at_call 23; refine WT.mono ?_; rintro e w' ⟨rfl, rfl⟩) | (go_at_call 18; refine ST.mono ?_; rintro e w' ⟨rfl, rfl⟩))
    (with_reducible refine FL.mono ?_)
    rintro e w8 ⟨rfl, S8, hd8, hk8, hS8⟩
    have hbw8 := chg_below hbw7 hk8 hbw7.size (fun k h => by have := hSq k h; omega)
    go_wp2_with (first | (go_at_call 17; refine (num_any _ _).mono ?_; rintro e w' ⟨rfl, rfl⟩) | (go_at_call 12; refine (works_ok _).mono ?_; rintro e w9 ⟨rfl, hb9⟩))
    go_ret
    exact ⟨rfl, hbw8.trans (hb9.mono hbw8.size)⟩

theorem again_walk (w : World) (size : Int) (A : Option Addr) (c : Nat) (xs : List Act8) (hs : Script w A c xs) (k1 t1 k2 t2 : Int) (hl : xs.length ≤ 9223372036854775807) :
    Calls Try.prog 9 #[.int .i64 size, .slice A xs.length c, .agg #[.int .i64 k1, .int .i64 t1], .agg #[.int .i64 k2, .int .i64 t2]] w fun e w' => e = .returned (.bool true) ∧ Below w.heap.size w w' := by
  have hb0 : Below w.heap.size w ((w.alloc (.cells #[.int .i64 k1, .int .i64 t1] 36)).alloc (.cells #[.int .i64 k2, .int .i64 t2] 36)) := ((Below.refl _ _).alloc (Nat.le_refl _) _).alloc (by simp) _
  have hcase : size < 1 ∨ (¬ size < 1 ∧ 400 < size) ∨ (¬ size < 1 ∧ ¬ 400 < size) := by omega
  rcases hcase with g1 | ⟨g1, g2⟩ | ⟨g1, g2⟩
  · go_enter Try.func9, Try.ntmps9
    go_wp2_with (go_at_call 12; refine (works_ok _).mono ?_; rintro e w1 ⟨rfl, hb⟩)
    go_ret
    exact ⟨rfl, hb0.trans (hb.mono hb0.size)⟩
  · go_enter Try.func9, Try.ntmps9
    go_wp2_with (go_at_call 12; refine (works_ok _).mono ?_; rintro e w1 ⟨rfl, hb⟩)
    go_ret
    exact ⟨rfl, hb0.trans (hb.mono hb0.size)⟩
  · obtain ⟨n, rfl⟩ : ∃ n : Nat, size = n := ⟨size.toNat, by omega⟩
    exact again_main w n (by omega) (by omega) A c xs hs k1 t1 k2 t2 hl
end Go.Proofs.Ytmajfiljajbipaa
