/- The disk's Flush. -/
import Derived.Test.YtmajfiljajbipaaDsk2
set_option linter.unusedVariables false
namespace Go.Proofs.Ytmajfiljajbipaa
open Go.RowKit

set_option maxHeartbeats 400000 in
theorem flush1 {fp ok : Nat → Prop} (w : World) (p g2 : Nat) (d : Dk) (h : Disk w fp ok p d) (hg2 : w.heap[g2]? = some (.cells #[.pointer (some ⟨p, 0, none⟩)] 24 (0, 0))) :
    Calls Try.prog 42 #[.pointer (some ⟨g2, 0, none⟩)] w fun e w' => e = .returned (.tuple #[]) ∧ ∃ fp', Disk w' fp' (fun k => (ok k ∨ w.heap.size ≤ k) ∧ ¬ fp' k) p { d with lasts := d.now, waits := [] } ∧
      Kp fp w w' ∧ ∀ k, fp' k → fp k ∨ w.heap.size ≤ k := by
  obtain ⟨nb, nc, LA, lc, WA, wc, wcs, h⟩ := h
  obtain ⟨c0, c1, c2, c3, c4, cf⟩ := h.cells
  have cg2 : w.cell? ⟨g2, 0, none⟩ = some (.pointer (some ⟨p, 0, none⟩)) := by rw [cell_of_row w g2 _ _ _ _ hg2]; rfl
  obtain ⟨A0, n0, he0, hs0⟩ := Sl.of_own (ok := Any) h.now (fun _ _ _ => trivial)
  injection he0 with he1 he2 he3
  subst he1; subst he3
  have hg2l : g2 < w.heap.size := (Array.getElem?_eq_some_iff.1 hg2).1
  have hpl := h.fps p h.fpp
  have hpg : g2 ≠ p := blk_ne hg2 h.blk (by decide)
  clear c1 c2 c3 c4
  go_enter Try.func42, Try.ntmps42
  go_wp2
  refine wp_region_noPanic ?_
  refine mix_tail 7 11 (fun w' => w'.cell? ⟨g2, 0, none⟩ = some (.pointer (some ⟨p, 0, none⟩)) ∧ w'.cell? ⟨p, 0, none⟩ = some (.slice (some ⟨nb, 0, none⟩) d.now.length nc)) (by kernel_rfl) (by kernel_rfl) (fun _ _ _ _ _ h => h) ⟨cg2, c0⟩ ?_
  simp only [List.take_succ_cons, List.take_zero, List.drop_succ_cons, List.drop_zero]
  refine rd_step (.pointer (some ⟨p, 0, none⟩)) rfl (fun W ⟨h1, h2⟩ => by simp [go_sem, h1]) ?_
  refine rd_step (.pointer (some ⟨p, 0, none⟩)) rfl (fun W ⟨h1, h2⟩ => by simp [go_sem, h1]) ?_
  refine rd_step (.pointer (some ⟨p, 0, none⟩)) rfl (fun W ⟨h1, h2⟩ => by simp [go_sem, h1]) ?_
  refine rd_step (.pointer (some ⟨p, 0, none⟩)) rfl (fun W ⟨h1, h2⟩ => by simp [go_sem]) ?_
  refine rd_step (.pointer (some ⟨p, 0, none⟩)) rfl (fun W ⟨h1, h2⟩ => by simp [go_sem]) ?_
  refine rd_step (.pointer (some ⟨p, 0, none⟩)) rfl (fun W ⟨h1, h2⟩ => by simp [go_sem]) ?_
  refine rd_step (.slice (some ⟨nb, 0, none⟩) d.now.length nc) rfl (fun W ⟨h1, h2⟩ => by simp [go_sem, h2]) ?_
  refine rd_nil ?_
  refine tail_step rfl (fun K hK => ?_)
  go_simp
  refine (cloneB (ok := Any) w.drew _ _ _ d.now hs0.drew (by have := h.big; omega)).mono ?_
  rintro e w1 ⟨A', c', rfl, hown, hb1⟩
  have hb1' : Below w.heap.size w w1 := ⟨hb1.os, hb1.tape, hb1.output, hb1.size, hb1.block⟩
  have k2 : w1.cell? ⟨g2, 0, none⟩ = some (.pointer (some ⟨p, 0, none⟩)) := (hb1'.cell (p := ⟨g2, 0, none⟩) hg2l).trans cg2
  have k0 : w1.cell? ⟨p, 0, none⟩ = some (.slice (some ⟨nb, 0, none⟩) d.now.length nc) := (hb1'.cell (p := ⟨p, 0, none⟩) hpl).trans c0
  have kp1 : w1.heap[p]? = _ := (hb1'.block p hpl).trans h.blk
  have f1 := frozen_of_row w1 p 1 _ _ kp1
  have f2 := frozen_of_row w1 p 2 _ _ kp1
  have v1 := cell_of_row w1 p 1 _ _ _ kp1
  have v2 := cell_of_row w1 p 2 _ _ _ kp1
  simp only [List.getElem?_toArray, List.getElem?_cons_succ, List.getElem?_cons_zero] at v1 v2
  refine hK _ _ (fun _ => ⟨k2, k0⟩) ?_
  clear hK K
  refine tail_step rfl (fun K hK => ?_)
  go_simp
  refine hK _ _ (fun _ => ⟨k2, k0⟩) ?_
  clear hK K
  refine tail_step rfl (fun K hK => ?_)
  go_simp
  refine hK _ _ (fun _ => ⟨k2, k0⟩) ?_
  clear hK K
  refine tail_step rfl (fun K hK => ?_)
  go_simp
  refine hK _ _ (fun _ => ⟨by rw [World.cell?_setCell_other _ _ _ _ (by simp)]; exact k2, by rw [World.cell?_setCell_other _ _ _ _ (by simp)]; exact k0⟩) ?_
  clear hK K
  refine tail_late (k := 0) (by decide) ?_
  go_wp2
  refine NoPanic.normal ?_
  go_end0
  exact ⟨rfl, flush1_end h hb1' hown⟩

theorem flush_ok {w : World} {fp ok : Nat → Prop} {p : Nat} {d : Dk} (h : Disk w fp ok p d) :
    Calls Try.prog 16 #[.pointer (some ⟨p,0,none⟩)] w fun e w' => (d.armed = 0 ∧ e = .returned (.int .i64 180) ∧ Below w.heap.size w w') ∨
      (d.armed ≠ 0 ∧ e = .returned (.int .i64 0) ∧ ∃ fp', Disk w' fp' (fun k => (ok k ∨ w.heap.size ≤ k) ∧ ¬ fp' k) p { d.tick with lasts := d.now, waits := [] } ∧ Kp fp w w' ∧ ∀ k, fp' k → fp k ∨ w.heap.size ≤ k) := by
  have hb : Below w.heap.size w (w.alloc (.cells #[.pointer (some ⟨p, 0, none⟩)] 24)) := (Below.refl _ _).alloc (Nat.le_refl _) _
  have h1 := none_disk (h.below hb)
  have H1 := Lib.hid h1; clear h1
  have hmf : ∀ (fn : Fn) (first cap : Array Value) (w : World), (Instr.makeFunc fn first cap).run Try.prog w = .ok (.func fn first cap) w := fun _ _ _ _ => rfl
  go_enter Try.func16, Try.ntmps16
  go_wp2_with (go_at_call 36; refine H1.out.mono ?_; rintro e w' ⟨rfl, rfl⟩)
  obtain ⟨nb, nc, LA, lc, WA, wc, wcs, hd⟩ := h.below hb
  obtain ⟨W, hW⟩ : ∃ W, W = w.alloc (.cells #[.pointer (some ⟨p, 0, none⟩)] 24) := ⟨_, rfl⟩
  rw [← hW] at hd hb ⊢
  have hg1 : W.heap[w.heap.size]? = some (.cells #[.pointer (some ⟨p, 0, none⟩)] 24 (0, 0)) := by rw [hW]; exact heap_alloc_new _ _
  have HW := Lib.hid hW; clear hW
  have hfps : ∀ k, fp k → k < w.heap.size := by obtain ⟨nb, nc, LA, lc, WA, wc, wcs, h⟩ := h; exact h.fps
  have npg := hfps p hd.fpp
  by_cases ha : d.armed = 0
  · refine (step42_stop hd _ ha).mono ?_
    rintro e w' ⟨rfl, rfl⟩
    have HA := Lib.hid ha; clear ha
    go_wp2
    go_ret
    exact .inl ⟨HA.out, rfl, hb⟩
  · have hd2 := stepW_disk hd
    have hs2 := stepW_size W p d
    have hsz := hb.size
    have hbx : (stepW W p d).heap[w.heap.size]? = _ := (stepW_other W p d _ (by omega)).trans hg1
    have hK2 : Kp fp w (stepW W p d) := stepW_kp (Kp.of_below hb fp) hd.fpp
    refine (step42_ok hd _ ha (flush1 (stepW W p d) p w.heap.size d.tick ⟨nb, nc, LA, lc, WA, wc, wcs, hd2⟩ hbx)).mono ?_
    rintro e w2 ⟨rfl, fp', hD', hK', hsub'⟩
    have HA := Lib.hid ha; clear ha
    go_wp2
    go_ret
    exact .inr ⟨HA.out, rfl, fp', hD'.mono (fun k hk ho => ⟨ho.1.imp id (fun h => by omega), ho.2⟩) (fun k hk => hk.2), hK2.trans hK' (fun _ _ h => h), fun k hk => (hsub' k hk).imp id (fun h => by omega)⟩
end Go.Proofs.Ytmajfiljajbipaa
