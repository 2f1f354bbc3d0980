/- A copy of a disk: another one that stands alike and shares what it only reads. -/
import Derived.Test.YtmajfiljajbipaaAct08f
set_option linter.unusedVariables false
set_option linter.unusedSimpArgs false
namespace Go.Proofs.Ytmajfiljajbipaa
open Go.RowKit

theorem wr_one {w : World} {ok : Nat → Prop} {ws : List (Nat × List UInt8)} {cs : List Value} (h : Rws (WrR w ok) 2 ws cs) : ∀ u ∈ cs, u.oneCell' = true := by
  intro u hu
  obtain ⟨j, hj, rfl⟩ := List.getElem_of_mem hu
  have hl : cs.length = ws.length * 2 := h.len
  obtain ⟨c, ⟨A, cc, e, _⟩, hc⟩ := h.cell (i := j / 2) (by omega)
  have h2 := hc (j % 2) (by omega)
  rw [show j / 2 * 2 + j % 2 = j from by omega, List.getElem?_eq_getElem hj, e] at h2
  have h3 : j % 2 = 0 ∨ j % 2 = 1 := by omega
  rcases h3 with h3 | h3 <;> rw [h3] at h2 <;> simp at h2 <;> rw [h2] <;> rfl

theorem cloneW {ok ok' : Nat → Prop} (w : World) (A : Option Addr) (n c : Nat) (ws : List (Nat × List UInt8)) (cs : List Value) (h : Sl w ok 2 A n c cs) (hr : Rws (WrR w ok') 2 ws cs) (hn : n ≤ 1048576) :
    Calls Try.prog 53 #[.slice A n c] w fun e w' => ∃ A' c', e = .returned (.slice A' n c') ∧ w'.ownsRow w.heap.size 79 2 (.slice A' n c') n cs ∧ Below w.heap.size w w' := by
  have hnil := fun W => Lib.run_eql_slice_nil (P := Try.prog) W 73 79 A n c 0 0 Try.underlying73
  have h1 := wr_one hr
  cases A with
  | none =>
    have hc := h.2.2.2.1 rfl
    have hm : n = 0 := by have := h.2.1; omega
    subst hm; subst hc
    have hl : cs = [] := List.eq_nil_of_length_eq_zero (by simpa using h.1)
    have HL := Lib.hid hl; clear hl
    go_enter Try.func53, Try.ntmps53
    go_wp2
    go_ret
    exact ⟨none, 0, rfl, by rw [HL.out]; exact World.ownsRow_nil _ _ _ _, Below.refl _ _⟩
  | some a =>
    have h' := h.move (Mv.alloc ok w (.cells #[] 79))
    go_enter Try.func53, Try.ntmps53
    go_wp2_with (at_builtin; refine wpList_append_sl _ rfl (.tmp 5) (.tmp 6) _ rfl w.heap.size 79 _ 2 32 Try.underlying73 info_wr rfl (by omega) (by omega) (.slice (some ⟨w.heap.size, 0, none⟩) 0 0) 0 [] rfl (own_lit w 79 2 #[] 0 (by simp [maxLen]) rfl _ (Nat.le_refl _)) (some a) n c cs rfl h' h1 (by omega) (by simp) ?_; intro v1 w1 hown hg hat)
    go_ret
    obtain ⟨A', c', he⟩ := own_shape hown
    rw [Nat.zero_add] at he
    refine ⟨A', c', by rw [← he]; rfl, by rw [← he]; simpa using hown, ((Below.refl _ _).alloc (Nat.le_refl _) _).grown hg (by simp) (fun k hk => ?_)⟩
    simp [Value.ownBlock] at hk
    omega

/-- What a copy leaves: two disks alike, that share R. -/
def Copied (w : World) (S : Nat → Prop) (p : Nat) (d : Dk) (e : Ending) (w' : World) : Prop :=
  ∃ (q : Nat) (R S1 S2 : Nat → Prop), e = .returned (.pointer (some ⟨q, 0, none⟩)) ∧ DiskR R w' S1 p d ∧ DiskR R w' S2 q d ∧ (∀ k, S1 k → S k) ∧ (∀ k, R k → S k) ∧ (∀ k, S2 k → w.heap.size ≤ k) ∧ Below w.heap.size w w'

set_option maxRecDepth 100000 in
set_option maxHeartbeats 2000000 in
theorem copy_S {w : World} {S : Nat → Prop} {p : Nat} {d : Dk} (h : DiskS w S p d) (hw : d.waits.length ≤ 1048576) :
    Calls Try.prog 34 #[.pointer (some ⟨p, 0, none⟩)] w (Copied w S p d) := by
  obtain ⟨hSl, fp, ⟨hfS, _, _⟩, hd⟩ := h
  have N1 := none_disk hd
  obtain ⟨nb, nc, LA, lc, WA, wc, wcs, hd⟩ := hd
  obtain ⟨c0, c1, c2, c3, c4, cf⟩ := hd.cells
  have hbig := hd.big
  have hpos := hd.pos
  have hsame := hd.same
  have hsz : d.lasts.length ≤ 70368744177664 := by omega
  have HSM := Lib.hid hsame; clear hsame
  have hpl : p < w.heap.size := World.block_lt_of_cell? w _ c0
  have hdr : Below w.heap.size w w.drew := (Below.refl _ _).drew
  have hby0 : By w.drew Any (some ⟨nb, 0, none⟩) d.now.length nc d.now := by
    obtain ⟨A2, c2', he, hs⟩ := Sl.of_own (ok := Any) hd.now (fun _ _ _ => trivial)
    injection he with he1 he2 he3
    subst he1; subst he3
    exact hs
  have hwa : Sl w Any 2 WA d.waits.length wc wcs := by
    obtain ⟨A2, c2', he, hs⟩ := Sl.of_own (ok := Any) hd.waits (fun _ _ _ => trivial)
    injection he with he1 he2 he3
    subst he1; subst he3
    exact hs
  have C1 := cloneB w.drew _ _ nc d.now hby0 (by omega)
  go_enter Try.func34, Try.ntmps34
  go_wp2_with (go_at_call 36; (with_reducible refine N1.mono ?_); rintro r w' ⟨rfl, rfl⟩)
  refine wp_region_noPanic ?_
  refine plan (.rd 0 (.rd 1 (.rd 2 (.rd 3 (.rd 4 (.rd 7 (.rd 8 (.rd 9 (.rd 10 (.rd 12 (.rd 13 (.rd 14 (.rd 15 (.rd 17 (.rd 18 (.rd 19 (.rd 20 (.rd 21 (.rd 22 (.rd 23 (.rd 24 (.eff 5 (.rd 6 (.eff 11 (.eff 16 (.rd 25 (.eff 26 (.eff 27 .done)))))))))))))))))))))))))))) [0, 1, 2, 3, 4, 5, 6, 7, 8, 9, 10, 11, 12, 13, 14, 15, 16, 17, 18, 19, 20, 21, 22, 23, 24, 25, 26, 27] (fun W => Below w.heap.size w W) (by kernel_rfl) (by kernel_rfl) (fun _ _ _ _ _ h => h) hdr ?_
  repeat (refine pl_pure rfl (fun K hK => ?_); go_simp; refine hK _ ?_; clear hK K)
  refine pl_rd (.slice (some ⟨nb, 0, none⟩) d.now.length nc) rfl rfl (fun W hS => ?_) (fun K hK => ?_)
  · have f0 := (hS.cell (p := ⟨p, 0, none⟩) hpl).trans c0
    simp [go_sem, f0]
  go_simp
  refine hK _ ?_
  clear hK K
  repeat (refine pl_pure rfl (fun K hK => ?_); go_simp; refine hK _ ?_; clear hK K)
  refine pl_rd (.slice LA d.lasts.length lc) rfl rfl (fun W hS => ?_) (fun K hK => ?_)
  · have f0 := (hS.cell (p := ⟨p, 1, none⟩) hpl).trans c1
    simp [go_sem, f0]
  go_simp
  refine hK _ ?_
  clear hK K
  repeat (refine pl_pure rfl (fun K hK => ?_); go_simp; refine hK _ ?_; clear hK K)
  refine pl_rd (.slice WA d.waits.length wc) rfl rfl (fun W hS => ?_) (fun K hK => ?_)
  · have f0 := (hS.cell (p := ⟨p, 2, none⟩) hpl).trans c2
    simp [go_sem, f0]
  go_simp
  refine hK _ ?_
  clear hK K
  repeat (refine pl_pure rfl (fun K hK => ?_); go_simp; refine hK _ ?_; clear hK K)
  refine pl_rd (.int .i64 d.steps) rfl rfl (fun W hS => ?_) (fun K hK => ?_)
  · have f0 := (hS.cell (p := ⟨p, 3, none⟩) hpl).trans c3
    simp [go_sem, f0]
  go_simp
  refine hK _ ?_
  clear hK K
  repeat (refine pl_pure rfl (fun K hK => ?_); go_simp; refine hK _ ?_; clear hK K)
  refine pl_rd (.int .i64 d.armed) rfl rfl (fun W hS => ?_) (fun K hK => ?_)
  · have f0 := (hS.cell (p := ⟨p, 4, none⟩) hpl).trans c4
    simp [go_sem, f0]
  go_simp
  refine hK _ ?_
  clear hK K
  clear c0 c1 c2 c3 c4 cf
  refine pl_eff rfl rfl (fun K hK => ?_)
  go_simp
  (with_reducible refine C1.mono ?_)
  rintro e w1 ⟨A1, d1, rfl, hown1, hb1⟩
  have hb1 : Below w.heap.size w w1 := hdr.trans hb1
  have hz1 := hb1.size
  refine hK _ _ (fun _ => hb1) ?_
  clear hK K
  repeat (refine pl_pure rfl (fun K hK => ?_); go_simp; refine hK _ ?_; clear hK K)
  refine pl_eff rfl rfl (fun K hK => ?_)
  go_simp
  refine (cloneB w1 LA _ lc d.lasts (Sl.move hd.lasts (Mv.of_below hb1 _)) hsz).mono ?_
  rintro e w2 ⟨A2, d2, rfl, hown2, hb2⟩
  have hbw2 := hb1.trans (hb2.mono hz1)
  have hz2 := hb2.size
  refine hK _ _ (fun _ => hbw2) ?_
  clear hK K
  repeat (refine pl_pure rfl (fun K hK => ?_); go_simp; refine hK _ ?_; clear hK K)
  refine pl_eff rfl rfl (fun K hK => ?_)
  go_simp
  refine (cloneW (ok := Any) (ok' := fun k => S k ∧ ¬ fp k ∨ No k) w2 WA _ wc d.waits wcs (Sl.move hwa (Mv.of_below hbw2 _)) (hd.wrs.imp (fun _ _ h => h.move (Mv.of_below hbw2 _))) hw).mono ?_
  rintro e w3 ⟨A3, d3, rfl, hown3, hb3⟩
  have hbw3 := hbw2.trans (hb3.mono hbw2.size)
  have hz3 := hb3.size
  refine hK _ _ (fun _ => hbw3) ?_
  clear hK K
  repeat (refine pl_pure rfl (fun K hK => ?_); go_simp; refine hK _ ?_; clear hK K)
  refine pl_eff rfl rfl (fun K hK => ?_)
  go_simp
  refine hK _ _ (fun _ => hbw3.alloc hbw3.size _) ?_
  clear hK K
  refine pl_eff rfl rfl (fun K hK => ?_)
  go_simp
  refine hK _ _ (fun _ => hbw3.alloc hbw3.size _) ?_
  clear hK K
  refine pl_done ?_
  refine NoPanic.normal ?_
  go_wp2
  go_ret
  obtain ⟨n1, cc, he, hn1, hn1l⟩ := own_pos hown1 (by omega)
  injection he with he1 _ he3
  subst he1; subst he3
  have hn1 : w.heap.size ≤ n1 := hn1
  have hR : ∀ k, (S k ∧ ¬ fp k) → k < w.heap.size := fun k h => hSl k h.1
  have hBF := hbw3.alloc hbw3.size (.cells #[.slice (some ⟨n1, 0, none⟩) d.now.length d1, .slice A2 d.lasts.length d2, .slice A3 d.waits.length d3, .int .i64 d.steps, .int .i64 d.armed] 75)
  have hzF : (w3.alloc (.cells #[.slice (some ⟨n1, 0, none⟩) d.now.length d1, .slice A2 d.lasts.length d2, .slice A3 d.waits.length d3, .int .i64 d.steps, .int .i64 d.armed] 75)).heap.size = w3.heap.size + 1 := by simp
  refine ⟨w3.heap.size, fun k => S k ∧ ¬ fp k, fp, fun k => w.heap.size ≤ k ∧ k < w3.heap.size + 1, rfl, ?_, ?_, hfS, fun k h => h.1, fun k h => h.1, hBF⟩
  · refine ⟨fun k h => Nat.lt_of_lt_of_le (hSl k (hfS k h)) hBF.size, fp, ⟨fun k h => h, fun k h h2 => h2.2 h, fun k h => Nat.lt_of_lt_of_le (hR k h) hBF.size⟩, ?_⟩
    exact Disk.mono (Disk.below ⟨nb, nc, LA, lc, WA, wc, wcs, hd⟩ hBF) (fun k _ ho => .inr (ho.resolve_right (fun h => h))) (fun k ho => by rcases ho with ho | ho <;> exact ho.2)
  · refine ⟨fun k h => by rw [hzF]; exact h.2, fun k => k = w3.heap.size ∨ k = n1 ∨ (Value.slice A3 d.waits.length d3).ownBlock = some k, ⟨?_, fun k h hr => by have := hR k hr; omega, fun k h => Nat.lt_of_lt_of_le (hR k h) hBF.size⟩, n1, d1, A2, d2, A3, d3, wcs, ?_⟩
    · rintro k (rfl | rfl | hk)
      · omega
      · omega
      · have := hown3.lt k hk; omega
    · refine { blk := heap_alloc_new _ _, now := ?_, lasts := ?_, waits := ?_, wrs := ?_, fpp := .inl rfl, fpn := .inr (.inl rfl), fpw := fun k hk => .inr (.inr hk), fps := ?_, dis := ?_, pos := hpos, big := hbig, same := HSM.out, fits := hd.fits }
      · exact own_move (own_base hown1 (Nat.zero_le _)) (fun k hk hlt => ((Below.heap_alloc _ _ _ (by omega)).trans (hb3.block k (by omega))).trans (hb2.block k hlt))
      · obtain ⟨A4, c4, he, hs⟩ := Sl.of_own (ok := fun k => w1.heap.size ≤ k ∧ k < w2.heap.size) hown2 (fun k hk hlt => ⟨(hown2.lt k hk).1, hlt⟩)
        injection he with he1 he2 he3
        subst he1; subst he3
        refine Sl.mono (Sl.move (Sl.move hs (Mv.of_below hb3 _)) (Mv.alloc _ _ _)) (fun k _ ho => .inl ⟨by omega, fun hf => ?_⟩)
        rcases hf with hf | hf | hf
        · omega
        · omega
        · have := hown3.lt k hf; omega
      · exact own_move (own_base hown3 (Nat.zero_le _)) (fun k hk hlt => Below.heap_alloc _ _ _ (by omega))
      · exact hd.wrs.imp (fun _ _ h => (h.mono (fun k _ ho => .inr (ho.resolve_right (fun h => h)))).move (Mv.of_below hBF _))
      · rintro k (rfl | rfl | hk)
        · rw [hzF]; omega
        · rw [hzF]; omega
        · have := hown3.lt k hk; rw [hzF]; omega
      · rintro k (⟨_, hk⟩ | hk)
        · exact hk
        · have := hR k hk
          rintro (hf | hf | hf)
          · omega
          · omega
          · have := hown3.lt k hf; omega
end Go.Proofs.Ytmajfiljajbipaa
