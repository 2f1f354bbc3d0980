/- The law's helpers: is, few. -/
import Derived.Test.YtmajfiljajbipaaRef5
import Derived.Test.YtmajfiljajbipaaDsk8
set_option linter.unusedVariables false
set_option linter.unusedSimpArgs false
namespace Go.Proofs.Ytmajfiljajbipaa
open Go.RowKit

set_option maxRecDepth 100000 in
set_option maxHeartbeats 2000000 in
theorem is_true {R T S : Nat → Prop} (w : World) (p : Nat) (v : Value) (d : Dk) (hd : DiskR R w S p d) (hr : RefV w T v d) (hm : d.waits.length ≤ 1048576) (hnow : d.now = layAll d.lasts d.waits) :
    Calls Try.prog 26 #[.pointer (some ⟨p, 0, none⟩), v] w fun e w' => e = .returned (.bool true) ∧ Below w.heap.size w w' := by
  obtain ⟨hp, hbig, hsame, hfit'⟩ := hd.props
  have hfit : ∀ x, x ∈ d.waits → x.1 + x.2.length ≤ d.lasts.length := by rw [hsame]; exact hfit'
  have h0 : 0 < d.lasts.length := by omega
  have hN : d.lasts.length ≤ 1048576 := by omega
  have hll := layAll_length d.waits d.lasts hfit
  obtain ⟨LA, lc, WA, wc, wcs, rfl, h1, h2, h3⟩ := id hr
  have hb0 : Below w.heap.size w (w.alloc (.cells #[.slice LA d.lasts.length lc, .slice WA d.waits.length wc, .int .i64 d.steps, .int .i64 d.armed] 48)) := (Below.refl _ _).alloc (Nat.le_refl _) _
  have B0 := Box4.new w (.slice LA d.lasts.length lc) (.slice WA d.waits.length wc) (.int .i64 d.steps) (.int .i64 d.armed)
  obtain ⟨fp, hfp, hdk⟩ := (hd.below hb0).2
  have R := read_disk hdk 0 d.lasts.length (by omega)
  have e0 : (d.now.take (0 + d.lasts.length)).drop 0 = d.now := by rw [Nat.zero_add, List.drop_zero, List.take_of_length_le (by omega)]
  rw [e0] at R
  have HS := Lib.hid hsame; clear hsame
  have HL := Lib.hid hll; clear hll
  have HN := Lib.hid hnow; clear hnow
  clear hdk e0
  go_enter Try.func26, Try.ntmps26
  go_wp2_with (go_at_call 21; refine R.mono ?_; rintro e w1 ⟨A1, c1, rfl, hown1, hb1⟩)
  have hby1 : By w1 Any A1 d.lasts.length c1 d.now := by_own hown1
  have B1 := B0.below hb1
  have hr1 := (hr.below hb0).below hb1
  have hd1 := (hd.below hb0).below hb1
  have hlast1 : By w1 T LA d.lasts.length lc d.lasts := Sl.move (Sl.move h1 (Mv.of_below hb0 _)) (Mv.of_below hb1 _)
  have hbw1 := hb0.trans (hb1.mono hb0.size)
  clear hr hd h1 h2 h3 R B0 hb0 hb1
  have hdr : Below w1.heap.size w1 w1.drew := ⟨rfl, rfl, rfl, Nat.le_refl _, fun _ _ => rfl⟩
  refine wp_region_noPanic ?_
  refine mix [(0, true), (1, false), (2, true), (3, true), (4, true), (5, true), (6, true), (7, false), (8, false), (9, true), (10, true), (11, true), (12, true), (15, true), (16, true), (17, true), (13, false), (14, false), (18, true), (19, true), (20, true), (21, true), (23, true), (24, true), (25, true), (22, false), (26, true), (27, true), (28, true), (29, true), (31, true), (32, true), (33, true), (30, false), (34, true), (35, true), (36, true), (37, true), (39, true), (40, true), (38, false), (41, true), (42, true), (43, true)] [0, 1, 2, 3, 4, 5, 6, 7, 8, 9, 10, 11, 12, 13, 14, 15, 16, 17, 18, 19, 20, 21, 22, 23, 24, 25, 26, 27, 28, 29, 30, 31, 32, 33, 34, 35, 36, 37, 38, 39, 40, 41, 42, 43] (fun W => Below w1.heap.size w1 W) (by kernel_rfl) (by kernel_rfl) (fun _ _ _ _ _ h => h) ⟨rfl, rfl, rfl, Nat.le_refl _, fun _ _ => rfl⟩ ?_
  refine st_pure rfl (fun K hK => ?_)
  go_simp
  refine hK _ ?_
  clear hK K
  refine st_effg rfl rfl (fun K hK => ?_)
  go_simp
  refine (num_any _ _).mono ?_
  rintro e w' ⟨rfl, rfl⟩
  refine hK _ _ (fun _ => ?_) ?_
  · exact hdr
  clear hK K
  refine st_pure rfl (fun K hK => ?_)
  go_simp
  refine hK _ ?_
  clear hK K
  refine st_pure rfl (fun K hK => ?_)
  go_simp
  refine hK _ ?_
  clear hK K
  refine st_pure rfl (fun K hK => ?_)
  go_simp
  refine hK _ ?_
  clear hK K
  refine st_rdg (.string ⟨d.now.toArray⟩) rfl rfl (fun W hS => ?_) (fun K hK => ?_)
  · have h5 := conv_by 38 9 5 Try.underlying38 Try.underlying5 Try.underlying9 W A1 d.lasts.length c1 d.now (Sl.move hby1 (Mv.of_below hS _))
    simp [go_sem, h5]
  go_simp
  refine hK _ ?_
  clear hK K
  refine st_rdg (.agg #[.slice LA d.lasts.length lc, .slice WA d.waits.length wc, .int .i64 d.steps, .int .i64 d.armed]) rfl rfl (fun W hS => ?_) (fun K hK => ?_)
  · obtain ⟨q0, q1, q2, q3, qf⟩ := (B1.below hS).cells
    simp [go_sem, q0, q1, q2, q3]
  go_simp
  refine hK _ ?_
  clear hK K
  refine st_effg rfl rfl (fun K hK => ?_)
  go_simp
  refine (stands_ref _ _ d (RefV.below hr1 hdr) h0 hN hm hfit).mono ?_
  rintro e w2 ⟨A2, c2, rfl, hown2, hb2⟩
  rw [HL.out] at hown2 ⊢
  have hb2 : Below w1.heap.size w1 w2 := ⟨hb2.os, hb2.tape, hb2.output, hb2.size, hb2.block⟩
  refine hK _ _ (fun _ => ?_) ?_
  · exact hb2
  clear hK K
  have k8 := conv_by 38 9 5 Try.underlying38 Try.underlying5 Try.underlying9 w2 A2 d.lasts.length c2 d.now (by rw [HN.out]; exact by_own hown2)
  refine st_effg rfl rfl (fun K hK => ?_)
  go_simp
  refine hK _ _ (fun _ => ?_) ?_
  · exact hb2
  clear hK K
  refine st_pure rfl (fun K hK => ?_)
  go_simp
  refine hK _ ?_
  clear hK K
  refine st_pure rfl (fun K hK => ?_)
  go_simp
  refine hK _ ?_
  clear hK K
  refine st_pure rfl (fun K hK => ?_)
  go_simp
  refine hK _ ?_
  clear hK K
  refine st_pure rfl (fun K hK => ?_)
  go_simp
  refine hK _ ?_
  clear hK K
  refine st_pure rfl (fun K hK => ?_)
  go_simp
  refine hK _ ?_
  clear hK K
  refine st_rdg (.slice LA d.lasts.length lc) rfl rfl (fun W hS => ?_) (fun K hK => ?_)
  · obtain ⟨q0, q1, q2, q3, qf⟩ := (B1.below hS).cells
    simp [go_sem, q0]
  go_simp
  refine hK _ ?_
  clear hK K
  refine st_rdg (.string ⟨d.lasts.toArray⟩) rfl rfl (fun W hS => ?_) (fun K hK => ?_)
  · have h5 := conv_by 38 9 5 Try.underlying38 Try.underlying5 Try.underlying9 W LA d.lasts.length lc d.lasts (Sl.move hlast1 (Mv.of_below hS _))
    simp [go_sem, h5]
  go_simp
  refine hK _ ?_
  clear hK K
  obtain ⟨fp2, hfp2, hdk2⟩ := (hd1.below hb2).2
  refine st_effg rfl rfl (fun K hK => ?_)
  go_simp
  refine (lasts_disk hdk2).mono ?_
  rintro e w3 ⟨A3, c3, rfl, hown3, hb3⟩
  have hb3 := hb2.trans (hb3.mono hb2.size)
  refine hK _ _ (fun _ => ?_) ?_
  · exact hb3
  clear hK K
  have k14 := conv_by 38 9 5 Try.underlying38 Try.underlying5 Try.underlying9 w3 A3 d.lasts.length c3 d.lasts (by_own hown3)
  refine st_effg rfl rfl (fun K hK => ?_)
  go_simp
  refine hK _ _ (fun _ => ?_) ?_
  · exact hb3
  clear hK K
  refine st_pure rfl (fun K hK => ?_)
  go_simp
  refine hK _ ?_
  clear hK K
  refine st_pure rfl (fun K hK => ?_)
  go_simp
  refine hK _ ?_
  clear hK K
  refine st_pure rfl (fun K hK => ?_)
  go_simp
  refine hK _ ?_
  clear hK K
  refine st_pure rfl (fun K hK => ?_)
  go_simp
  refine hK _ ?_
  clear hK K
  refine st_pure rfl (fun K hK => ?_)
  go_simp
  refine hK _ ?_
  clear hK K
  refine st_rdg (.slice LA d.lasts.length lc) rfl rfl (fun W hS => ?_) (fun K hK => ?_)
  · obtain ⟨q0, q1, q2, q3, qf⟩ := (B1.below hS).cells
    simp [go_sem, q0]
  go_simp
  refine hK _ ?_
  clear hK K
  refine st_pure rfl (fun K hK => ?_)
  go_simp
  refine hK _ ?_
  clear hK K
  obtain ⟨fp3, hfp3, hdk3⟩ := (hd1.below hb3).2
  have SZ := size_disk hdk3
  rw [← HS.out] at SZ
  refine st_effg rfl rfl (fun K hK => ?_)
  go_simp
  refine (SZ).mono ?_
  rintro e w' ⟨rfl, rfl⟩
  refine hK _ _ (fun _ => ?_) ?_
  · exact hb3
  clear hK K
  refine st_pure rfl (fun K hK => ?_)
  go_simp
  refine hK _ ?_
  clear hK K
  refine st_pure rfl (fun K hK => ?_)
  go_simp
  refine hK _ ?_
  clear hK K
  refine st_pure rfl (fun K hK => ?_)
  go_simp
  refine hK _ ?_
  clear hK K
  refine st_pure rfl (fun K hK => ?_)
  go_simp
  refine hK _ ?_
  clear hK K
  refine st_pure rfl (fun K hK => ?_)
  go_simp
  refine hK _ ?_
  clear hK K
  refine st_rdg (.slice WA d.waits.length wc) rfl rfl (fun W hS => ?_) (fun K hK => ?_)
  · obtain ⟨q0, q1, q2, q3, qf⟩ := (B1.below hS).cells
    simp [go_sem, q1]
  go_simp
  refine hK _ ?_
  clear hK K
  refine st_pure rfl (fun K hK => ?_)
  go_simp
  refine hK _ ?_
  clear hK K
  refine st_effg rfl rfl (fun K hK => ?_)
  go_simp
  refine (waits_disk hdk3).mono ?_
  rintro e w' ⟨rfl, rfl⟩
  refine hK _ _ (fun _ => ?_) ?_
  · exact hb3
  clear hK K
  refine st_pure rfl (fun K hK => ?_)
  go_simp
  refine hK _ ?_
  clear hK K
  refine st_pure rfl (fun K hK => ?_)
  go_simp
  refine hK _ ?_
  clear hK K
  refine st_pure rfl (fun K hK => ?_)
  go_simp
  refine hK _ ?_
  clear hK K
  refine st_pure rfl (fun K hK => ?_)
  go_simp
  refine hK _ ?_
  clear hK K
  refine st_pure rfl (fun K hK => ?_)
  go_simp
  refine hK _ ?_
  clear hK K
  refine st_rdg (.int .i64 d.steps) rfl rfl (fun W hS => ?_) (fun K hK => ?_)
  · obtain ⟨q0, q1, q2, q3, qf⟩ := (B1.below hS).cells
    simp [go_sem, q2]
  go_simp
  refine hK _ ?_
  clear hK K
  refine st_effg rfl rfl (fun K hK => ?_)
  go_simp
  refine (steps_disk hdk3).mono ?_
  rintro e w' ⟨rfl, rfl⟩
  refine hK _ _ (fun _ => ?_) ?_
  · exact hb3
  clear hK K
  refine st_pure rfl (fun K hK => ?_)
  go_simp
  refine hK _ ?_
  clear hK K
  refine st_pure rfl (fun K hK => ?_)
  go_simp
  refine hK _ ?_
  clear hK K
  refine st_pure rfl (fun K hK => ?_)
  go_simp
  refine hK _ ?_
  clear hK K
  refine st_nil ?_
  refine NoPanic.normal ?_
  go_wp2
  go_ret
  exact ⟨rfl, hbw1.trans (hb3.mono hbw1.size)⟩
end Go.Proofs.Ytmajfiljajbipaa
