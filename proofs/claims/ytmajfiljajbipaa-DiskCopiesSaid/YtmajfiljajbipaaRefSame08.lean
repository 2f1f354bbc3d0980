/- The document's disk: which are the same. -/
import Derived.Test.YtmajfiljajbipaaSame08
set_option linter.unusedVariables false
set_option linter.unusedSimpArgs false
namespace Go.Proofs.Ytmajfiljajbipaa
open Go.RowKit

theorem str_bne (l m : List UInt8) : ((⟨l.toArray⟩ : ByteArray).toList != (⟨m.toArray⟩ : ByteArray).toList) = !decide (l = m) := by
  rw [← str_beq]; rfl

def refEq (l1 l2 : List UInt8) (xs ys : List (Nat × List UInt8)) (s1 s2 r1 r2 : Int) : Bool := decide (l1 = l2 ∧ xs = ys ∧ s1 = s2 ∧ r1 = r2)

set_option maxRecDepth 100000 in
set_option maxHeartbeats 4000000 in
theorem sameR {T1 T2 : Nat → Prop} (w : World) (LA1 : Option Addr) (lc1 : Nat) (l1 : List UInt8) (WA1 : Option Addr) (wc1 : Nat) (xs : List (Nat × List UInt8)) (cs : List Value) (s1 r1 : Int) (n1 m1 n2 m2 : Nat)
    (LA2 : Option Addr) (lc2 : Nat) (l2 : List UInt8) (WA2 : Option Addr) (wc2 : Nat) (ys : List (Nat × List UInt8)) (ds : List Value) (s2 r2 : Int)
    (hl1 : By w T1 LA1 m1 lc1 l1) (hw1 : Sl w T1 2 WA1 n1 wc1 cs) (hr1 : Rws (WrR w T1) 2 xs cs) (hl2 : By w T2 LA2 m2 lc2 l2) (hw2 : Sl w T2 2 WA2 n2 wc2 ds) (hr2 : Rws (WrR w T2) 2 ys ds)
    (hm1 : n1 ≤ 1048576) (hm2 : n2 ≤ 1048576) (en1 : xs.length = n1) (en2 : ys.length = n2) :
    Calls Try.prog 35 #[.agg #[.slice LA1 m1 lc1, .slice WA1 n1 wc1, .int .i64 s1, .int .i64 r1], .agg #[.slice LA2 m2 lc2, .slice WA2 n2 wc2, .int .i64 s2, .int .i64 r2]] w fun e w' =>
      e = .returned (.bool (refEq l1 l2 xs ys s1 s2 r1 r2)) ∧ Below w.heap.size w w' := by
  have hw1' : Sl w T1 2 WA1 xs.length wc1 cs := by rw [en1]; exact hw1
  have hw2' : Sl w T2 2 WA2 ys.length wc2 ds := by rw [en2]; exact hw2
  have EN1 := Lib.hid en1; clear en1
  have EN2 := Lib.hid en2; clear en2
  obtain ⟨W0, hW0⟩ : ∃ W0, W0 = ((w.alloc (.cells #[.slice LA1 m1 lc1, .slice WA1 n1 wc1, .int .i64 s1, .int .i64 r1] 48)).alloc (.cells #[.slice LA2 m2 lc2, .slice WA2 n2 wc2, .int .i64 s2, .int .i64 r2] 48)) := ⟨_, rfl⟩
  have hb0 : Below w.heap.size w W0 := by rw [hW0]; exact ((Below.refl _ _).alloc (Nat.le_refl _) _).alloc (by simp) _
  have B1 : Box4 W0 w.heap.size (.slice LA1 m1 lc1) (.slice WA1 n1 wc1) (.int .i64 s1) (.int .i64 r1) := by rw [hW0]; exact (Box4.new _ _ _ _ _).alloc _
  have B2 : Box4 W0 (w.heap.size + 1) (.slice LA2 m2 lc2) (.slice WA2 n2 wc2) (.int .i64 s2) (.int .i64 r2) := by
    rw [hW0]
    have := Box4.new (w.alloc (.cells #[.slice LA1 m1 lc1, .slice WA1 n1 wc1, .int .i64 s1, .int .i64 r1] 48)) (.slice LA2 m2 lc2) (.slice WA2 n2 wc2) (.int .i64 s2) (.int .i64 r2)
    rwa [World.size_alloc] at this
  have k1 := conv_by 38 9 5 Try.underlying38 Try.underlying5 Try.underlying9 W0 LA1 _ lc1 l1 (Sl.move hl1 (Mv.of_below hb0 _))
  have k2 := conv_by 38 9 5 Try.underlying38 Try.underlying5 Try.underlying9 W0 LA2 _ lc2 l2 (Sl.move hl2 (Mv.of_below hb0 _))
  rw [hW0] at k1 k2
  obtain ⟨g1, hg1⟩ : ∃ b : ByteArray, b = ⟨l1.toArray⟩ := ⟨_, rfl⟩
  obtain ⟨g2, hg2⟩ : ∃ b : ByteArray, b = ⟨l2.toArray⟩ := ⟨_, rfl⟩
  have G12 : (g1.toList != g2.toList) = !decide (l1 = l2) := by rw [hg1, hg2]; exact str_bne l1 l2
  rw [← hg1] at k1
  rw [← hg2] at k2
  have HG1 := Lib.hid hg1; clear hg1
  have HG2 := Lib.hid hg2; clear hg2
  have G12 := Lib.hid G12
  have HW := Lib.hid hW0; clear hW0
  by_cases hL : l1 = l2
  · obtain rfl : g1 = g2 := by rw [HG1.out, HG2.out, hL]
    by_cases hN : n1 = n2
    · subst hN
      by_cases hT : s1 = s2
      · subst hT
        by_cases hM : r1 = r2
        · subst hM
          have HE := Lib.hid (show refEq l1 l2 xs ys s1 s1 r1 r1 = decide (xs = ys) from by simp [refEq, hL])
          have HL := Lib.hid hL; clear hL
          have HN := Lib.hid (show xs.length = ys.length from EN1.out.trans EN2.out.symm)
          go_enter Try.func35, Try.ntmps35
          go_wp2
          rw [← HW.out]
          clear k1 k2
          go_loopw [5] (fun i wr => ∃ j : Nat, j ≤ n1 ∧ i = .int .i64 j ∧ xs.take j = ys.take j ∧ Below W0.heap.size W0 wr) (fun i _ => n1 - (intOf i).toNat)
          case atStart => exact ⟨0, Nat.zero_le _, rfl, rfl, Below.refl _ _⟩
          case round =>
            obtain ⟨j, hj, rfl, hEq, hb⟩ := hrel
            have HQ := Lib.hid hEq; clear hEq
            have hbw := hb0.trans (hb.mono hb0.size)
            have D1 := B1.below hb
            have D2 := B2.below hb
            obtain ⟨z0, z1, z2, z3, zf⟩ := D1.cells
            by_cases hlt1 : j < n1
            · have hlt : j < xs.length := by rw [EN1.out]; exact hlt1
              have hlt' : (j : Int) < n1 := by omega
              have hlty : j < ys.length := by rw [← HN.out]; exact hlt
              obtain ⟨a, A1, c1, rfl, _, ha, p0, p1, hbx⟩ := RefV.wr_at hw1' hr1 hlt
              obtain ⟨b, B1', d1, rfl, _, hb', q0, q1, hby⟩ := RefV.wr_at hw2' hr2 hlty
              obtain ⟨x, hxx⟩ : ∃ x, x = xs[j] := ⟨_, rfl⟩
              obtain ⟨y, hyy⟩ : ∃ y, y = ys[j] := ⟨_, rfl⟩
              rw [← hxx] at p0 p1 hbx
              rw [← hyy] at q0 q1 hby
              have HX := Lib.hid hxx; clear hxx
              have HY := Lib.hid hyy; clear hyy
              have hzw := hbw.size
              have p0 := (hbw.cell (p := a.add (j * 2)) (by rw [add_block]; exact ha)).trans p0
              have p1 := (hbw.cell (p := a.add (j * 2 + 1)) (by rw [add_block]; exact ha)).trans p1
              have q0 := (hbw.cell (p := b.add (j * 2)) (by rw [add_block]; exact hb')).trans q0
              have q1 := (hbw.cell (p := b.add (j * 2 + 1)) (by rw [add_block]; exact hb')).trans q1
              have hbx : By wr Any A1 x.2.length c1 x.2 := Sl.mono (Sl.move hbx (Mv.of_below hbw _)) (fun _ _ _ => trivial)
              have hby : By wr Any B1' y.2.length d1 y.2 := Sl.mono (Sl.move hby (Mv.of_below hbw _)) (fun _ _ _ => trivial)
              have ha : a.block < wr.heap.size := by omega
              have hb' : b.block < wr.heap.size := by omega
              have hdr : Below wr.heap.size wr wr.drew := (Below.refl _ _).drew
              have hbd : Below W0.heap.size W0 wr.drew := hb.drew
              obtain ⟨gx, hgx⟩ : ∃ b : ByteArray, b = ⟨x.2.toArray⟩ := ⟨_, rfl⟩
              obtain ⟨gy, hgy⟩ : ∃ b : ByteArray, b = ⟨y.2.toArray⟩ := ⟨_, rfl⟩
              have GXY := Lib.hid (show (gx.toList != gy.toList) = !decide (x.2 = y.2) from by rw [hgx, hgy]; exact str_bne x.2 y.2)
              have GX := Lib.hid hgx; clear hgx
              have GY := Lib.hid hgy; clear hgy
              by_cases hA : x.1 = y.1
              · have hat : ((x.1 : Int) != (y.1 : Int)) = false := by simp [hA]
                have hat3 : ((x.1 : Int) == (y.1 : Int)) = true := by simp [hA]
                by_cases hB : x.2 = y.2
                · obtain rfl : gx = gy := by rw [GX.out, GY.out, hB]
                  have HXY := Lib.hid (show x = y from Prod.ext hA hB)
                  clear hA hB
                  go_wp2_with fail
                  refine wp_region_noPanic ?_
                  refine plan (.rd 0 (.rd 1 (.rd 2 (.rd 3 (.rd 4 (.rd 5 (.rd 6 (.rd 7 (.rd 8 (.rd 9 (.rd 10 (.rd 11 (.rd 12 (.rd 13 (.rd 14 (.rd 15 (.rd 16 (.rd 17 (.rd 18 (.rd 19 (.rd 20 (.rd 21 (.rd 22 (.rd 23 (.rd 24 (.rd 25 (.rd 26 (.rd 27 (.rd 28 (.rd 29 .done)))))))))))))))))))))))))))))) [0, 1, 2, 3, 4, 5, 6, 7, 8, 9, 10, 11, 12, 13, 14, 15, 16, 17, 18, 19, 20, 21, 22, 23, 24, 25, 26, 27, 28, 29] (fun W => Below wr.heap.size wr W) (by kernel_rfl) (by kernel_rfl) (fun _ _ _ _ _ h => h) hdr ?_
                  repeat (refine pl_pure rfl (fun K hK => ?_); go_simp; refine hK _ ?_; clear hK K)
                  refine pl_rd (.slice (some a) n1 wc1) rfl rfl (fun W hS => ?_) (fun K hK => ?_)
                  · obtain ⟨q0, q1, q2, q3, qf⟩ := (D1.below hS).cells
                    simp [go_sem, q1]
                  go_simp
                  refine hK _ ?_
                  clear hK K
                  repeat (refine pl_pure rfl (fun K hK => ?_); go_simp; refine hK _ ?_; clear hK K)
                  refine pl_rd (.int .i64 (x.1 : Int)) rfl rfl (fun W hS => ?_) (fun K hK => ?_)
                  · have f0 := (hS.cell (p := a.add (j * 2)) (by rw [add_block]; exact ha)).trans p0
                    simp [go_sem, f0]
                  go_simp
                  refine hK _ ?_
                  clear hK K
                  repeat (refine pl_pure rfl (fun K hK => ?_); go_simp; refine hK _ ?_; clear hK K)
                  refine pl_rd (.slice (some b) n1 wc2) rfl rfl (fun W hS => ?_) (fun K hK => ?_)
                  · obtain ⟨q0, q1, q2, q3, qf⟩ := (D2.below hS).cells
                    simp [go_sem, q1]
                  go_simp
                  refine hK _ ?_
                  clear hK K
                  repeat (refine pl_pure rfl (fun K hK => ?_); go_simp; refine hK _ ?_; clear hK K)
                  refine pl_rd (.int .i64 (y.1 : Int)) rfl rfl (fun W hS => ?_) (fun K hK => ?_)
                  · have f0 := (hS.cell (p := b.add (j * 2)) (by rw [add_block]; exact hb')).trans q0
                    simp [go_sem, f0]
                  go_simp
                  refine hK _ ?_
                  clear hK K
                  repeat (refine pl_pure rfl (fun K hK => ?_); go_simp; refine hK _ ?_; clear hK K)
                  repeat (refine pl_pure rfl (fun K hK => ?_); go_simp; refine hK _ ?_; clear hK K)
                  refine pl_rd (.slice (some a) n1 wc1) rfl rfl (fun W hS => ?_) (fun K hK => ?_)
                  · obtain ⟨q0, q1, q2, q3, qf⟩ := (D1.below hS).cells
                    simp [go_sem, q1]
                  go_simp
                  refine hK _ ?_
                  clear hK K
                  repeat (refine pl_pure rfl (fun K hK => ?_); go_simp; refine hK _ ?_; clear hK K)
                  refine pl_rd (.slice A1 x.2.length c1) rfl rfl (fun W hS => ?_) (fun K hK => ?_)
                  · have f0 := cell_fld ((hS.cell (p := a.add (j * 2 + 1)) (by rw [add_block]; exact ha)).trans p1)
                    simp [go_sem, f0]
                  go_simp
                  refine hK _ ?_
                  clear hK K
                  repeat (refine pl_pure rfl (fun K hK => ?_); go_simp; refine hK _ ?_; clear hK K)
                  refine pl_rd (.string gx) rfl rfl (fun W hS => ?_) (fun K hK => ?_)
                  · have h5 := conv_by 38 9 5 Try.underlying38 Try.underlying5 Try.underlying9 W A1 _ c1 x.2 (Sl.move hbx (Mv.of_below hS _))
                    rw [← GX.out] at h5
                    simp [go_sem, h5]
                  go_simp
                  refine hK _ ?_
                  clear hK K
                  repeat (refine pl_pure rfl (fun K hK => ?_); go_simp; refine hK _ ?_; clear hK K)
                  refine pl_rd (.slice (some b) n1 wc2) rfl rfl (fun W hS => ?_) (fun K hK => ?_)
                  · obtain ⟨q0, q1, q2, q3, qf⟩ := (D2.below hS).cells
                    simp [go_sem, q1]
                  go_simp
                  refine hK _ ?_
                  clear hK K
                  repeat (refine pl_pure rfl (fun K hK => ?_); go_simp; refine hK _ ?_; clear hK K)
                  refine pl_rd (.slice B1' y.2.length d1) rfl rfl (fun W hS => ?_) (fun K hK => ?_)
                  · have f0 := cell_fld ((hS.cell (p := b.add (j * 2 + 1)) (by rw [add_block]; exact hb')).trans q1)
                    simp [go_sem, f0]
                  go_simp
                  refine hK _ ?_
                  clear hK K
                  repeat (refine pl_pure rfl (fun K hK => ?_); go_simp; refine hK _ ?_; clear hK K)
                  refine pl_rd (.string gx) rfl rfl (fun W hS => ?_) (fun K hK => ?_)
                  · have h5 := conv_by 38 9 5 Try.underlying38 Try.underlying5 Try.underlying9 W B1' _ d1 y.2 (Sl.move hby (Mv.of_below hS _))
                    rw [← GY.out] at h5
                    simp [go_sem, h5]
                  go_simp
                  refine hK _ ?_
                  clear hK K
                  repeat (refine pl_pure rfl (fun K hK => ?_); go_simp; refine hK _ ?_; clear hK K)
                  refine pl_done ?_
                  refine NoPanic.normal ?_
                  go_wp2
                  exact ⟨⟨j + 1, hlt1, by simp, take_ext HQ.out hlt hlty (by rw [← HX.out, ← HY.out, HXY.out]), hbd⟩, by simp [intOf]; omega⟩
                · have hbt : (gx.toList != gy.toList) = true := by rw [GXY.out]; simp [hB]
                  have hbt2 : ¬ gx.toList = gy.toList := by simpa using hbt
                  have hbt3 : (gx.toList == gy.toList) = false := by simpa using hbt2
                  have HF := Lib.hid (show decide (xs = ys) = false from by
                    simp only [decide_eq_false_iff_not]
                    intro h
                    subst h
                    exact hB (by rw [HX.out, HY.out]))
                  clear hA hB
                  go_wp2_with fail
                  refine wp_region_noPanic ?_
                  refine plan (.rd 0 (.rd 1 (.rd 2 (.rd 3 (.rd 4 (.rd 5 (.rd 6 (.rd 7 (.rd 8 (.rd 9 (.rd 10 (.rd 11 (.rd 12 (.rd 13 (.rd 14 (.rd 15 (.rd 16 (.rd 17 (.rd 18 (.rd 19 (.rd 20 (.rd 21 (.rd 22 (.rd 23 (.rd 24 (.rd 25 (.rd 26 (.rd 27 (.rd 28 (.rd 29 .done)))))))))))))))))))))))))))))) [0, 1, 2, 3, 4, 5, 6, 7, 8, 9, 10, 11, 12, 13, 14, 15, 16, 17, 18, 19, 20, 21, 22, 23, 24, 25, 26, 27, 28, 29] (fun W => Below wr.heap.size wr W) (by kernel_rfl) (by kernel_rfl) (fun _ _ _ _ _ h => h) hdr ?_
                  repeat (refine pl_pure rfl (fun K hK => ?_); go_simp; refine hK _ ?_; clear hK K)
                  refine pl_rd (.slice (some a) n1 wc1) rfl rfl (fun W hS => ?_) (fun K hK => ?_)
                  · obtain ⟨q0, q1, q2, q3, qf⟩ := (D1.below hS).cells
                    simp [go_sem, q1]
                  go_simp
                  refine hK _ ?_
                  clear hK K
                  repeat (refine pl_pure rfl (fun K hK => ?_); go_simp; refine hK _ ?_; clear hK K)
                  refine pl_rd (.int .i64 (x.1 : Int)) rfl rfl (fun W hS => ?_) (fun K hK => ?_)
                  · have f0 := (hS.cell (p := a.add (j * 2)) (by rw [add_block]; exact ha)).trans p0
                    simp [go_sem, f0]
                  go_simp
                  refine hK _ ?_
                  clear hK K
                  repeat (refine pl_pure rfl (fun K hK => ?_); go_simp; refine hK _ ?_; clear hK K)
                  refine pl_rd (.slice (some b) n1 wc2) rfl rfl (fun W hS => ?_) (fun K hK => ?_)
                  · obtain ⟨q0, q1, q2, q3, qf⟩ := (D2.below hS).cells
                    simp [go_sem, q1]
                  go_simp
                  refine hK _ ?_
                  clear hK K
                  repeat (refine pl_pure rfl (fun K hK => ?_); go_simp; refine hK _ ?_; clear hK K)
                  refine pl_rd (.int .i64 (y.1 : Int)) rfl rfl (fun W hS => ?_) (fun K hK => ?_)
                  · have f0 := (hS.cell (p := b.add (j * 2)) (by rw [add_block]; exact hb')).trans q0
                    simp [go_sem, f0]
                  go_simp
                  refine hK _ ?_
                  clear hK K
                  repeat (refine pl_pure rfl (fun K hK => ?_); go_simp; refine hK _ ?_; clear hK K)
                  repeat (refine pl_pure rfl (fun K hK => ?_); go_simp; refine hK _ ?_; clear hK K)
                  refine pl_rd (.slice (some a) n1 wc1) rfl rfl (fun W hS => ?_) (fun K hK => ?_)
                  · obtain ⟨q0, q1, q2, q3, qf⟩ := (D1.below hS).cells
                    simp [go_sem, q1]
                  go_simp
                  refine hK _ ?_
                  clear hK K
                  repeat (refine pl_pure rfl (fun K hK => ?_); go_simp; refine hK _ ?_; clear hK K)
                  refine pl_rd (.slice A1 x.2.length c1) rfl rfl (fun W hS => ?_) (fun K hK => ?_)
                  · have f0 := cell_fld ((hS.cell (p := a.add (j * 2 + 1)) (by rw [add_block]; exact ha)).trans p1)
                    simp [go_sem, f0]
                  go_simp
                  refine hK _ ?_
                  clear hK K
                  repeat (refine pl_pure rfl (fun K hK => ?_); go_simp; refine hK _ ?_; clear hK K)
                  refine pl_rd (.string gx) rfl rfl (fun W hS => ?_) (fun K hK => ?_)
                  · have h5 := conv_by 38 9 5 Try.underlying38 Try.underlying5 Try.underlying9 W A1 _ c1 x.2 (Sl.move hbx (Mv.of_below hS _))
                    rw [← GX.out] at h5
                    simp [go_sem, h5]
                  go_simp
                  refine hK _ ?_
                  clear hK K
                  repeat (refine pl_pure rfl (fun K hK => ?_); go_simp; refine hK _ ?_; clear hK K)
                  refine pl_rd (.slice (some b) n1 wc2) rfl rfl (fun W hS => ?_) (fun K hK => ?_)
                  · obtain ⟨q0, q1, q2, q3, qf⟩ := (D2.below hS).cells
                    simp [go_sem, q1]
                  go_simp
                  refine hK _ ?_
                  clear hK K
                  repeat (refine pl_pure rfl (fun K hK => ?_); go_simp; refine hK _ ?_; clear hK K)
                  refine pl_rd (.slice B1' y.2.length d1) rfl rfl (fun W hS => ?_) (fun K hK => ?_)
                  · have f0 := cell_fld ((hS.cell (p := b.add (j * 2 + 1)) (by rw [add_block]; exact hb')).trans q1)
                    simp [go_sem, f0]
                  go_simp
                  refine hK _ ?_
                  clear hK K
                  repeat (refine pl_pure rfl (fun K hK => ?_); go_simp; refine hK _ ?_; clear hK K)
                  refine pl_rd (.string gy) rfl rfl (fun W hS => ?_) (fun K hK => ?_)
                  · have h5 := conv_by 38 9 5 Try.underlying38 Try.underlying5 Try.underlying9 W B1' _ d1 y.2 (Sl.move hby (Mv.of_below hS _))
                    rw [← GY.out] at h5
                    simp [go_sem, h5]
                  go_simp
                  refine hK _ ?_
                  clear hK K
                  repeat (refine pl_pure rfl (fun K hK => ?_); go_simp; refine hK _ ?_; clear hK K)
                  refine pl_done ?_
                  refine NoPanic.normal ?_
                  go_wp2
                  go_ret
                  exact ⟨by rw [HE.out, HF.out]; rfl, hb0.trans (hbd.mono hb0.size)⟩
              · have hat : ((x.1 : Int) != (y.1 : Int)) = true := by simp; omega
                have hat2 : ¬ ((x.1 : Int) = (y.1 : Int)) := by omega
                have HF := Lib.hid (show decide (xs = ys) = false from by
                  simp only [decide_eq_false_iff_not]
                  intro h
                  subst h
                  exact hA (by rw [HX.out, HY.out]))
                clear hA
                go_wp2_with fail
                refine wp_region_noPanic ?_
                refine plan (.rd 0 (.rd 1 (.rd 2 (.rd 3 (.rd 4 (.rd 5 (.rd 6 (.rd 7 (.rd 8 (.rd 9 (.rd 10 (.rd 11 (.rd 12 (.rd 13 (.rd 14 (.rd 15 (.rd 16 (.rd 17 (.rd 18 (.rd 19 (.rd 20 (.rd 21 (.rd 22 (.rd 23 (.rd 24 (.rd 25 (.rd 26 (.rd 27 (.rd 28 (.rd 29 .done)))))))))))))))))))))))))))))) [0, 1, 2, 3, 4, 5, 6, 7, 8, 9, 10, 11, 12, 13, 14, 15, 16, 17, 18, 19, 20, 21, 22, 23, 24, 25, 26, 27, 28, 29] (fun W => Below wr.heap.size wr W) (by kernel_rfl) (by kernel_rfl) (fun _ _ _ _ _ h => h) hdr ?_
                repeat (refine pl_pure rfl (fun K hK => ?_); go_simp; refine hK _ ?_; clear hK K)
                refine pl_rd (.slice (some a) n1 wc1) rfl rfl (fun W hS => ?_) (fun K hK => ?_)
                · obtain ⟨q0, q1, q2, q3, qf⟩ := (D1.below hS).cells
                  simp [go_sem, q1]
                go_simp
                refine hK _ ?_
                clear hK K
                repeat (refine pl_pure rfl (fun K hK => ?_); go_simp; refine hK _ ?_; clear hK K)
                refine pl_rd (.int .i64 (x.1 : Int)) rfl rfl (fun W hS => ?_) (fun K hK => ?_)
                · have f0 := (hS.cell (p := a.add (j * 2)) (by rw [add_block]; exact ha)).trans p0
                  simp [go_sem, f0]
                go_simp
                refine hK _ ?_
                clear hK K
                repeat (refine pl_pure rfl (fun K hK => ?_); go_simp; refine hK _ ?_; clear hK K)
                refine pl_rd (.slice (some b) n1 wc2) rfl rfl (fun W hS => ?_) (fun K hK => ?_)
                · obtain ⟨q0, q1, q2, q3, qf⟩ := (D2.below hS).cells
                  simp [go_sem, q1]
                go_simp
                refine hK _ ?_
                clear hK K
                repeat (refine pl_pure rfl (fun K hK => ?_); go_simp; refine hK _ ?_; clear hK K)
                refine pl_rd (.int .i64 (y.1 : Int)) rfl rfl (fun W hS => ?_) (fun K hK => ?_)
                · have f0 := (hS.cell (p := b.add (j * 2)) (by rw [add_block]; exact hb')).trans q0
                  simp [go_sem, f0]
                go_simp
                refine hK _ ?_
                clear hK K
                repeat (refine pl_pure rfl (fun K hK => ?_); go_simp; refine hK _ ?_; clear hK K)
                refine pl_done ?_
                refine NoPanic.normal ?_
                go_wp2
                go_ret
                exact ⟨by rw [HE.out, HF.out]; rfl, hb0.trans (hbd.mono hb0.size)⟩
            · have hlt' : ¬ (j : Int) < n1 := by omega
              have HF := Lib.hid (show decide (xs = ys) = true from by
                have h := HQ.out
                rw [List.take_of_length_le (by rw [EN1.out]; omega), List.take_of_length_le (by rw [EN2.out]; omega)] at h
                simp [h])
              go_wp2
              go_ret
              exact ⟨by rw [HE.out, HF.out]; rfl, hbw⟩
        · have hm : (r1 != r2) = true := by simp [hM]
          have hm2 : ¬ r1 = r2 := hM
          have hm3 : (r1 == r2) = false := by simp [hM]
          have HE := Lib.hid (show refEq l1 l2 xs ys s1 s1 r1 r2 = false from by simp [refEq, hM])
          clear hM hL
          go_enter Try.func35, Try.ntmps35
          go_wp2
          go_ret
          exact ⟨by rw [HE.out]; rfl, by rw [← HW.out]; exact hb0⟩
      · have ht : (s1 != s2) = true := by simp [hT]
        have ht2 : ¬ s1 = s2 := hT
        have ht3 : (s1 == s2) = false := by simp [hT]
        have HE := Lib.hid (show refEq l1 l2 xs ys s1 s2 r1 r2 = false from by simp [refEq, hT])
        clear hT hL
        go_enter Try.func35, Try.ntmps35
        go_wp2
        go_ret
        exact ⟨by rw [HE.out]; rfl, by rw [← HW.out]; exact hb0⟩
    · have hn : ((n1 : Int) != (n2 : Int)) = true := by simp; omega
      have hn2 : ¬ ((n1 : Int) = (n2 : Int)) := by omega
      have hn3 : ((n1 : Int) == (n2 : Int)) = false := by simp; omega
      have HE := Lib.hid (show refEq l1 l2 xs ys s1 s2 r1 r2 = false from by
        simp only [refEq, decide_eq_false_iff_not]; intro h; exact hN (by rw [← EN1.out, ← EN2.out, h.2.1]))
      clear hN hL
      go_enter Try.func35, Try.ntmps35
      go_wp2
      go_ret
      exact ⟨by rw [HE.out]; rfl, by rw [← HW.out]; exact hb0⟩
  · have hl : (g1.toList != g2.toList) = true := by rw [G12.out]; simp [hL]
    have hl2 : ¬ g1.toList = g2.toList := by simpa using hl
    have hl3 : (g1.toList == g2.toList) = false := by simpa using hl2
    have HE := Lib.hid (show refEq l1 l2 xs ys s1 s2 r1 r2 = false from by simp [refEq, hL])
    clear hL
    go_enter Try.func35, Try.ntmps35
    go_wp2
    go_ret
    exact ⟨by rw [HE.out]; rfl, by rw [← HW.out]; exact hb0⟩

theorem same_ref {T1 T2 : Nat → Prop} (w : World) (v1 v2 : Value) (d1 d2 : Dk) (h1 : RefV w T1 v1 d1) (h2 : RefV w T2 v2 d2) (hm1 : d1.waits.length ≤ 1048576) (hm2 : d2.waits.length ≤ 1048576) :
    Calls Try.prog 35 #[v1, v2] w fun e w' => e = .returned (.bool (d1.eqb d2)) ∧ Below w.heap.size w w' := by
  obtain ⟨LA1, lc1, WA1, wc1, cs1, rfl, a1, a2, a3⟩ := h1
  obtain ⟨LA2, lc2, WA2, wc2, cs2, rfl, b1, b2, b3⟩ := h2
  exact sameR w LA1 lc1 d1.lasts WA1 wc1 d1.waits cs1 d1.steps d1.armed _ _ _ _ LA2 lc2 d2.lasts WA2 wc2 d2.waits cs2 d2.steps d2.armed a1 a2 a3 b1 b2 b3 hm1 hm2 rfl rfl
end Go.Proofs.Ytmajfiljajbipaa
