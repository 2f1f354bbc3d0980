/- The law's helper played. -/
import Derived.Test.YtmajfiljajbipaaAct08e
set_option linter.unusedVariables false
set_option linter.unusedSimpArgs false
namespace Go.Proofs.Ytmajfiljajbipaa
open Go.RowKit

def Dk.acts (d : Dk) (xs : List Act8) : Dk := xs.foldl Dk.act d
theorem acts_snoc (d : Dk) (xs : List Act8) (x : Act8) : d.acts (xs ++ [x]) = (d.acts xs).act x := by simp [Dk.acts]

theorem Box4.put4 {w : World} {g : Nat} {a b c d : Value} (h : Box4 w g a b c d) (x y z u : Value) : Box4 ((((w.setCell ⟨g, 0, none⟩ x).setCell ⟨g, 1, none⟩ y).setCell ⟨g, 2, none⟩ z).setCell ⟨g, 3, none⟩ u) g x y z u := by
  unfold Box4 at *
  rw [heap_setCell_same _ _ _ _ _ _ (heap_setCell_same _ _ _ _ _ _ (heap_setCell_same _ _ _ _ _ _ (heap_setCell_same _ _ _ _ _ _ h)))]
  simp
theorem results_tct {fn : Func} {t p u : Tmp} {ty : TypeId} (h : fn.results = #[.tmp t, .cell p ty, .tmp u]) (tmps : Array Value) (P : Program) (w : World) :
    (results fn tmps).run P w = ((asAddr (tmps.getD p undef)).run P w).andThen fun a w₁ => ((loadVar ty a).run P w₁).andThen fun v w₂ => .ok (.tuple #[tmps.getD t undef, v, tmps.getD u undef]) w₂ := by
  simp only [results, h]
  simp [Sem.run_bind, Result.andThen]

set_option maxRecDepth 100000 in
set_option maxHeartbeats 2000000 in
theorem played_ok (w : World) (size : Nat) (h1 : 1 ≤ size) (h2 : size ≤ 400) (A : Option Addr) (c : Nat) (xs : List Act8) (hs : Script w A c xs) (hl : xs.length ≤ 50) (hb3 : ∀ x, x ∈ xs → x.b.length ≤ 3000) :
    Calls Try.prog 24 #[.int .i64 (size : Int), .slice A xs.length c] w fun e w' =>
      ∃ p S T v d, e = .returned (.tuple #[.pointer (some ⟨p, 0, none⟩), v, .bool true]) ∧ Both w' S T p v d ∧ d = (Dk.of (List.replicate size 0)).acts xs ∧ d.waits.length ≤ 50 ∧ Below w.heap.size w w' ∧ (∀ k, S k → w.heap.size ≤ k) := by
  go_enter Try.func24, Try.ntmps24
  go_wp2_with fail
  refine (new_S _ size h1 (by omega)).mono ?_
  rintro e w1 ⟨p, S, rfl, hd1, hS1, hb1⟩
  go_wp2_with fail
  refine (new_ref w1 size h1 (by omega)).mono ?_
  rintro e w2 ⟨hb2, v, rfl, hr2⟩
  obtain ⟨LA, lc, WA, wc, wcs, rfl, _, _, _⟩ := id hr2
  go_wp2_with (go_at_call 17; refine (num_any _ _).mono ?_; rintro e w' ⟨rfl, rfl⟩)
  obtain ⟨Z, hZ⟩ : ∃ Z, Z = w.alloc (.cells #[.slice none 0 0, .slice none 0 0, .int .i64 0, .int .i64 0] 48) := ⟨_, rfl⟩
  have hbZ : Below w.heap.size w Z := by rw [hZ]; exact (Below.refl _ _).alloc (Nat.le_refl _) _
  have BZ : Box4 Z w.heap.size (.slice none 0 0) (.slice none 0 0) (.int .i64 0) (.int .i64 0) := by rw [hZ]; exact Box4.new _ _ _ _ _
  have hsZ : Z.heap.size = w.heap.size + 1 := by rw [hZ]; simp
  rw [← hZ] at hb1 hS1
  clear hZ
  have hbw1 := hbZ.trans (hb1.mono hbZ.size)
  have hbw2 := hbw1.trans (hb2.mono hbw1.size)
  have hs1 := hb1.size
  have hs2 := hb2.size
  obtain ⟨d0, hd0⟩ : ∃ d0, d0 = Dk.of (List.replicate size 0) := ⟨_, rfl⟩
  rw [← hd0] at hd1 hr2 ⊢
  have hd0w : d0.waits.length = 0 := by rw [hd0]; rfl
  have hd0n : d0.now = layAll d0.lasts d0.waits := by rw [hd0]; rfl
  have HD0 := Lib.hid hd0; clear hd0
  obtain ⟨X, hX⟩ : ∃ X, X = w2.alloc (.cells #[.slice LA d0.lasts.length lc, .slice WA d0.waits.length wc, .int .i64 d0.steps, .int .i64 d0.armed] 48) := ⟨_, rfl⟩
  rw [← hX]
  have hbX : Below w2.heap.size w2 X := by rw [hX]; exact (Below.refl _ _).alloc (Nat.le_refl _) _
  have BX : Box4 X w2.heap.size (.slice LA d0.lasts.length lc) (.slice WA d0.waits.length wc) (.int .i64 d0.steps) (.int .i64 d0.armed) := by rw [hX]; exact Box4.new _ _ _ _ _
  have hsX : X.heap.size = w2.heap.size + 1 := by rw [hX]; simp
  clear hX
  have hbwX := hbw2.trans (hbX.mono hbw2.size)
  have CX := ((BZ.below hb1).below hb2).below hbX
  have hSl := hd1.1
  have hr2' := hr2.mono (T1 := fun k => w1.heap.size ≤ k ∧ k < w2.heap.size) (fun k hk ho => ⟨ho, hk⟩)
  have hboth : Both X S (fun k => w1.heap.size ≤ k ∧ k < w2.heap.size) p (rv LA d0.lasts.length lc WA d0.waits.length wc d0.steps d0.armed) d0 :=
    { dsk := (hd1.below hb2).below hbX, tl := fun k h => by omega, ref := hr2'.below hbX, ap := fun k h hs => by have := hSl k hs; omega, now := hd0n }
  have HDW := Lib.hid hd0w; clear hd0w
  have HDN := Lib.hid hd0n; clear hd0n
  go_loopw [11, 12] (fun fine i wr => ∃ (k : Nat) (d : Dk) (S T : Nat → Prop) (LA : Option Addr) (lc : Nat) (WA : Option Addr) (wc : Nat), k ≤ xs.length ∧ i = .int .i64 k ∧ fine = .bool true ∧ Both wr S T p (rv LA d.lasts.length lc WA d.waits.length wc d.steps d.armed) d ∧
      d = d0.acts (xs.take k) ∧ d.waits.length ≤ k ∧ Below w.heap.size w wr ∧ w2.heap.size < wr.heap.size ∧ (∀ k, S k → w.heap.size < k ∧ k ≠ w2.heap.size) ∧ (∀ k, T k → w.heap.size < k ∧ k ≠ w2.heap.size) ∧
      Box4 wr w2.heap.size (.slice LA d.lasts.length lc) (.slice WA d.waits.length wc) (.int .i64 d.steps) (.int .i64 d.armed) ∧ Box4 wr w.heap.size (.slice none 0 0) (.slice none 0 0) (.int .i64 0) (.int .i64 0))
    (fun fine i _ => xs.length - (intOf i).toNat)
  case atStart => exact ⟨0, d0, S, _, LA, lc, WA, wc, Nat.zero_le _, rfl, rfl, hboth, rfl, by rw [HDW.out]; exact Nat.le_refl _, hbwX, by omega, fun k h => by have := hS1 k h; have := hSl k h; omega, fun k h => by omega, BX, CX⟩
  case round =>
    clear BX CX hboth hr2 hr2' hd1
    obtain ⟨k, d, S, T, LA, lc, WA, wc, hk, rfl, rfl, hbo, hdk, hdw, hb, hlt2, hSx, hTx, hBX, hCX⟩ := hrel
    by_cases hlt : k < xs.length
    · have hlt' : (k : Int) < xs.length := by omega
      obtain ⟨a, B, bc, rfl, q0, q1, q2, q3, hby, _, _⟩ := hs.at_ hlt
      have ha := World.block_lt_of_cell? w _ q0
      have hbm := hb3 xs[k] (List.getElem_mem hlt)
      obtain ⟨x, hx⟩ : ∃ x, x = xs[k] := ⟨_, rfl⟩
      rw [← hx] at q0 q1 q2 q3 hby hbm
      have HX := Lib.hid hx; clear hx
      have HDK := Lib.hid hdk; clear hdk
      have hdr : Below w.heap.size w wr.drew := ⟨hb.os, hb.tape, hb.output, hb.size, hb.block⟩
      go_wp2_with fail
      refine wp_region_noPanic ?_
      refine mix [(0, true), (2, true), (3, true), (4, true), (5, true), (1, false), (6, false), (7, false), (8, true), (9, true), (10, false), (11, false)] [0, 1, 2, 3, 4, 5, 6, 7, 8, 9, 10] (fun W => Below w.heap.size w W) (by kernel_rfl) (by kernel_rfl) (fun _ _ _ _ _ h => h) hdr ?_
      refine st_pure rfl (fun K hK => ?_)
      go_simp
      refine hK _ ?_
      clear hK K
      refine st_pure rfl (fun K hK => ?_)
      go_simp
      refine hK _ ?_
      clear hK K
      refine st_pure rfl (fun K hK => ?_)
      go_simp
      refine hK _ ?_
      clear hK K
      refine st_pure rfl (fun K hK => ?_)
      go_simp
      refine hK _ ?_
      clear hK K
      refine st_rdg (.agg #[.int .i64 x.what, .int .i64 x.at_, .int .i64 x.n, .slice B x.b.length bc]) rfl rfl (fun W hS => ?_) (fun K hK => ?_)
      · have f0 := (hS.cell (p := a.add (k * 4)) ha).trans q0
        have f1 := (hS.cell (p := a.add (k * 4 + 1)) (by rw [add_block] at ha ⊢; exact ha)).trans q1
        have f2 := (hS.cell (p := a.add (k * 4 + 2)) (by rw [add_block] at ha ⊢; exact ha)).trans q2
        have f3 := (hS.cell (p := a.add (k * 4 + 3)) (by rw [add_block] at ha ⊢; exact ha)).trans q3
        have f1' := cell_fldn (by omega) f1
        have f2' := cell_fldn (by omega) f2
        have f3' := cell_fldn (by omega) f3
        simp [go_sem, f0, f1, f2, f3, f1', f2', f3']
      go_simp
      refine hK _ ?_
      clear hK K
      obtain ⟨b0, b1, b2, b3, bf⟩ := hBX.cells
      refine st_effg rfl rfl (fun K hK => ?_)
      go_simp
      refine hK _ _ (fun _ => hdr) ?_
      clear hK K
      clear b0 b1 b2 b3 bf
      have hbo' : Both wr.drew S T p (rv LA d.lasts.length lc WA d.waits.length wc d.steps d.armed) d := { dsk := hbo.dsk.below ⟨rfl, rfl, rfl, Nat.le_refl _, fun _ _ => rfl⟩, tl := hbo.tl, ref := RefV.below hbo.ref ⟨rfl, rfl, rfl, Nat.le_refl _, fun _ _ => rfl⟩, ap := hbo.ap, now := hbo.now }
      refine st_effg rfl rfl (fun K hK => ?_)
      go_simp
      refine (act_any (okb := fun k => k < w.heap.size) wr.drew p (rv LA d.lasts.length lc WA d.waits.length wc d.steps d.armed) d hbo' x B bc (Sl.mono (Sl.move (Sl.mono hby (ok1 := fun k => k < w.heap.size) (fun k hk _ => hk)) (Mv.of_below hdr _)) (fun _ _ h => h)) (by omega) (by omega) (fun k h1 _ hs => by have := (hSx k hs).1; omega)).mono ?_
      rintro e w4 ⟨S4, T4, v4, rfl, hbo4, hk4, hS4, hT4⟩
      have hk4 : Kp S wr w4 := ⟨hk4.os, hk4.tape, hk4.output, hk4.size, hk4.block⟩
      have hS4 : ∀ k, S4 k → S k ∨ wr.heap.size ≤ k := hS4
      have hT4 : ∀ k, T4 k → T k ∨ wr.heap.size ≤ k := hT4
      have hbw4 := chg_below hb hk4 hb.size (fun k h => by have := (hSx k h).1; omega)
      have hs4 := hk4.size
      have hbs := hb.size
      have B4 := hBX.keep hk4 (fun h => (hSx _ h).2 rfl)
      have C4 := hCX.keep hk4 (fun h => by have := (hSx _ h).1; omega)
      obtain ⟨LA4, lc4, WA4, wc4, wcs4, rfl, _, _, _⟩ := id hbo4.ref
      refine hK _ _ (fun _ => hbw4) ?_
      clear hK K
      refine st_effg rfl rfl (fun K hK => ?_)
      go_simp
      refine hK _ _ (fun _ => hbw4) ?_
      clear hK K
      refine st_pure rfl (fun K hK => ?_)
      go_simp
      refine hK _ ?_
      clear hK K
      refine st_pure rfl (fun K hK => ?_)
      go_simp
      refine hK _ ?_
      clear hK K
      obtain ⟨b0, b1, b2, b3, bf⟩ := B4.cells
      refine st_effg rfl rfl (fun K hK => ?_)
      go_simp
      refine hK _ _ (fun _ => below_set4 hbw4 w2.heap.size (by omega) _ _ _ _) ?_
      clear hK K
      refine st_effg rfl rfl (fun K hK => ?_)
      go_simp
      refine hK _ _ (fun h => by cases h) ?_
      clear hK K
      refine st_nil ?_
      refine NoPanic.normal ?_
      go_wp2
      have hkF := (((((Kp.refl (fun b => b = w2.heap.size) w4).setCell (p := ⟨w2.heap.size, 0, none⟩) (.inl rfl) (.slice LA4 (d.act x).lasts.length lc4)).setCell (p := ⟨w2.heap.size, 1, none⟩) (.inl rfl) (.slice WA4 (d.act x).waits.length wc4)).setCell (p := ⟨w2.heap.size, 2, none⟩) (.inl rfl) (.int .i64 (d.act x).steps)).setCell (p := ⟨w2.heap.size, 3, none⟩) (.inl rfl) (.int .i64 (d.act x).armed))
      have hSx4 : ∀ k, S4 k → w.heap.size < k ∧ k ≠ w2.heap.size := fun k h => by
        rcases hS4 k h with h1 | h1
        · exact hSx k h1
        · omega
      have hTx4 : ∀ k, T4 k → w.heap.size < k ∧ k ≠ w2.heap.size := fun k h => by
        rcases hT4 k h with h1 | h1
        · exact hTx k h1
        · omega
      have hw5 := act_waits d x
      refine ⟨⟨k + 1, d.act x, S4, T4, LA4, lc4, WA4, wc4, hlt, by simp, rfl, ?_, ?_, by omega, below_set4 hbw4 w2.heap.size (by omega) _ _ _ _, Nat.lt_of_lt_of_le hlt2 (Nat.le_trans hs4 hkF.size), hSx4, hTx4, B4.put4 _ _ _ _, C4.set4 (by omega) _ _ _ _⟩, by simp [intOf]; omega⟩
      · exact { dsk := hbo4.dsk.move hkF (fun k h hM => (hSx4 k h).2 hM), tl := fun k h => Nat.lt_of_lt_of_le (hbo4.tl k h) hkF.size, ref := RefV.kpA hbo4.ref hkF (fun k _ h hM => (hTx4 k h).2 hM), ap := hbo4.ap, now := hbo4.now }
      · rw [List.take_succ_eq_append_getElem hlt, acts_snoc, ← HDK.out, ← HX.out]
    · have hlt' : ¬ (k : Int) < xs.length := by omega
      obtain rfl : k = xs.length := by omega
      rw [List.take_length] at hdk
      have HDK := Lib.hid hdk; clear hdk
      go_wp2_with fail
      have hdr : Below wr.heap.size wr wr.drew := ⟨rfl, rfl, rfl, Nat.le_refl _, fun _ _ => rfl⟩
      refine wp_region_noPanic ?_
      refine mix [(0, true), (1, true), (2, true), (3, true), (4, true), (5, true), (6, false), (7, true), (8, true), (9, false), (10, false)] [0, 1, 2, 3, 4, 5, 6, 7, 8, 9] (fun W => Box4 W w2.heap.size (.slice LA d.lasts.length lc) (.slice WA d.waits.length wc) (.int .i64 d.steps) (.int .i64 d.armed)) (by kernel_rfl) (by kernel_rfl) (fun _ _ _ _ _ h => h) hBX ?_
      refine st_pure rfl (fun K hK => ?_)
      go_simp
      refine hK _ ?_
      clear hK K
      refine st_rdg (.agg #[.slice LA d.lasts.length lc, .slice WA d.waits.length wc, .int .i64 d.steps, .int .i64 d.armed]) rfl rfl (fun W hS => ?_) (fun K hK => ?_)
      · obtain ⟨q0, q1, q2, q3, qf⟩ := hS.cells
        simp [go_sem, q0, q1, q2, q3]
      go_simp
      refine hK _ ?_
      clear hK K
      refine st_pure rfl (fun K hK => ?_)
      go_simp
      refine hK _ ?_
      clear hK K
      refine st_pure rfl (fun K hK => ?_)
      go_simp
      refine hK _ ?_
      clear hK K
      refine st_pure rfl (fun K hK => ?_)
      go_simp
      refine hK _ ?_
      clear hK K
      refine st_rdg (.agg #[.slice LA d.lasts.length lc, .slice WA d.waits.length wc, .int .i64 d.steps, .int .i64 d.armed]) rfl rfl (fun W hS => ?_) (fun K hK => ?_)
      · obtain ⟨q0, q1, q2, q3, qf⟩ := hS.cells
        simp [go_sem, q0, q1, q2, q3]
      go_simp
      refine hK _ ?_
      clear hK K
      refine st_effg rfl rfl (fun K hK => ?_)
      go_simp
      refine (is_true wr.drew p (rv LA d.lasts.length lc WA d.waits.length wc d.steps d.armed) d (hbo.dsk.below hdr) (RefV.below hbo.ref hdr) (by omega) hbo.now).mono ?_
      rintro e w4 ⟨rfl, hb4⟩
      have hb4 : Below wr.heap.size wr w4 := hdr.trans hb4
      have B4 := hBX.below hb4
      have C4 := hCX.below hb4
      refine hK _ _ (fun _ => B4) ?_
      clear hK K
      refine st_pure rfl (fun K hK => ?_)
      go_simp
      refine hK _ ?_
      clear hK K
      refine st_pure rfl (fun K hK => ?_)
      go_simp
      refine hK _ ?_
      clear hK K
      obtain ⟨q0, q1, q2, q3, qf⟩ := C4.cells
      refine st_effg rfl rfl (fun K hK => ?_)
      go_simp
      refine hK _ _ (fun _ => B4.set4 (by omega) _ _ _ _) ?_
      clear hK K
      refine st_effg rfl rfl (fun K hK => ?_)
      go_simp
      refine hK _ _ (fun h => by cases h) ?_
      clear hK K
      refine st_nil ?_
      refine NoPanic.normal ?_
      go_wp2
      have hkF := (((((Kp.refl (fun b => b = w.heap.size) w4).setCell (p := ⟨w.heap.size, 0, none⟩) (.inl rfl) (.slice LA d.lasts.length lc)).setCell (p := ⟨w.heap.size, 1, none⟩) (.inl rfl) (.slice WA d.waits.length wc)).setCell (p := ⟨w.heap.size, 2, none⟩) (.inl rfl) (.int .i64 d.steps)).setCell (p := ⟨w.heap.size, 3, none⟩) (.inl rfl) (.int .i64 d.armed))
      have hbw4 := hb.trans (hb4.mono hb.size)
      refine bodyPost_ret (v := .tuple #[.pointer (some ⟨p, 0, none⟩), rv LA d.lasts.length lc WA d.waits.length wc d.steps d.armed, .bool true]) (by rw [results_tct rfl]; simp [go_sem, asAddr, rv, q0, q1, q2, q3]) rfl
        ⟨p, S, T, _, d, rfl, ?_, by rw [HDK.out, HD0.out], by omega, below_set4 hbw4 w.heap.size (Nat.le_refl _) _ _ _ _, fun k h => by have := (hSx k h).1; omega⟩
      exact { dsk := (hbo.dsk.below hb4).move hkF (fun k h hM => by have := (hSx k h).1; omega), tl := fun k h => Nat.lt_of_lt_of_le (hbo.tl k h) (Nat.le_trans hb4.size hkF.size), ref := RefV.kpA (RefV.below hbo.ref hb4) hkF (fun k _ h hM => by have := (hTx k h).1; omega), ap := hbo.ap, now := hbo.now }
end Go.Proofs.Ytmajfiljajbipaa
