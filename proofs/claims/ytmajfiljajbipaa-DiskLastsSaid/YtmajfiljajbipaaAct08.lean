/- The law's helper act: a call by both. -/
import Derived.Test.YtmajfiljajbipaaIs08
import Derived.Test.YtmajfiljajbipaaFew08
import Derived.Test.YtmajfiljajbipaaRef6
import Derived.Test.YtmajfiljajbipaaPlan
import Derived.Deep.CutRange
set_option linter.unusedVariables false
set_option linter.unusedSimpArgs false
namespace Go.Proofs.Ytmajfiljajbipaa
open Go.RowKit

/-- A disk and the document's, alike and apart. -/
structure BothR (R : Nat → Prop) (w : World) (S T : Nat → Prop) (p : Nat) (v : Value) (d : Dk) : Prop where
  dsk : DiskR R w S p d
  tl : ∀ k, T k → k < w.heap.size
  ref : RefV w T v d
  ap : ∀ k, T k → ¬ S k
  now : d.now = layAll d.lasts d.waits

abbrev Both (w : World) (S T : Nat → Prop) (p : Nat) (v : Value) (d : Dk) : Prop := BothR No w S T p v d

theorem RefV.kpA {w w1 : World} {T M : Nat → Prop} {v : Value} {d : Dk} (h : RefV w T v d) (hk : Kp M w w1) (hM : ∀ k, k < w.heap.size → T k → ¬ M k) : RefV w1 T v d := h.move (Mv.of_kp hk hM)
theorem wr_good (d : Dk) (x : Int) (b : List UInt8) (h : d.now = layAll d.lasts d.waits) : (d.wr x b).1.now = layAll (d.wr x b).1.lasts (d.wr x b).1.waits := by
  unfold Dk.wr
  split
  · split
    · exact h
    · simp only [Dk.write, Dk.tick]
      rw [layAll_snoc, ← h]
  · exact h
theorem fl_good (d : Dk) (h : d.now = layAll d.lasts d.waits) : d.fl.1.now = layAll d.fl.1.lasts d.fl.1.waits := by
  unfold Dk.fl
  split
  · exact h
  · rfl

def cutB (W0 : World) (m : Nat) (l : List UInt8) (b : Value) (wc : World) : Prop := ∃ nb nc, b = .slice (some ⟨nb, 0, none⟩) m nc ∧ wc.ownsRow W0.heap.size 5 1 (.slice (some ⟨nb, 0, none⟩) (m + 1) nc) (m + 1) (bv (l ++ [77])) ∧ Below W0.heap.size W0 wc

set_option maxRecDepth 100000 in
set_option maxHeartbeats 2000000 in
theorem act0 {R S T okb : Nat → Prop} (w : World) (p : Nat) (v : Value) (d : Dk) (h : BothR R w S T p v d) (at_ n : Int) (B : Option Addr) (m bc : Nat) (l : List UInt8) (hby : By w okb B m bc l) (hm : d.waits.length ≤ 1048575) (hml : m ≤ 1048576) (hoS : ∀ k, okb k → k < w.heap.size → ¬ S k) :
    Calls Try.prog 27 #[.pointer (some ⟨p, 0, none⟩), v, .agg #[.int .i64 0, .int .i64 at_, .int .i64 n, .slice B m bc]] w fun e w' =>
      ∃ S' T' v', e = .returned (.tuple #[v', .bool true]) ∧ BothR R w' S' T' p v' (d.wr at_ l).1 ∧ Kp S w w' ∧ (∀ k, S' k → S k ∨ w.heap.size ≤ k) ∧ (∀ k, T' k → T k ∨ w.heap.size ≤ k) := by
  obtain ⟨hd, htl, hr, hap, hnow⟩ := h
  have hRw := hd.rl
  obtain ⟨LA, lc, WA, wcap, wcs, rfl, _, _, _⟩ := id hr
  go_enter Try.func27, Try.ntmps27
  go_upto_region 3 with fail
  obtain ⟨W0, hW0⟩ : ∃ W0, W0 = (((w.alloc (.cells #[.slice LA d.lasts.length lc, .slice WA d.waits.length wcap, .int .i64 d.steps, .int .i64 d.armed] 48)).alloc (.cells #[.int .i64 0, .int .i64 at_, .int .i64 n, .slice B m bc] 40)).alloc (.cells #[.slice none 0 0, .slice none 0 0, .int .i64 0, .int .i64 0] 48)) := ⟨_, rfl⟩
  have hsz0 : W0.heap.size = w.heap.size + 3 := by rw [hW0]; simp
  have hbw0 : Below w.heap.size w W0 := by rw [hW0]; exact (((Below.refl _ _).alloc (Nat.le_refl _) _).alloc (by simp) _).alloc (by simp; omega) _
  have c3 : W0.cell? ⟨w.heap.size + 1, 3, none⟩ = some (.slice B m bc) := by rw [hW0]; simp [go_sem]
  have hby0 : By W0 okb B m bc l := Sl.move hby (Mv.of_below hbw0 _)
  have hlt1 : w.heap.size + 1 < W0.heap.size := by omega
  have hlt2 : w.heap.size + 2 < W0.heap.size := by omega
  have c1 : W0.cell? ⟨w.heap.size + 1, 1, none⟩ = some (.int .i64 at_) := by rw [hW0]; simp [go_sem]
  have B0 : Box4 W0 w.heap.size (.slice LA d.lasts.length lc) (.slice WA d.waits.length wcap) (.int .i64 d.steps) (.int .i64 d.armed) := by rw [hW0]; exact ((Box4.new _ _ _ _ _).alloc _).alloc _
  have B1 : Box4 W0 (w.heap.size + 2) (.slice none 0 0) (.slice none 0 0) (.int .i64 0) (.int .i64 0) := by
    rw [hW0]
    have := Box4.new ((w.alloc (.cells #[.slice LA d.lasts.length lc, .slice WA d.waits.length wcap, .int .i64 d.steps, .int .i64 d.armed] 48)).alloc (.cells #[.int .i64 0, .int .i64 at_, .int .i64 n, .slice B m bc] 40)) (.slice none 0 0) (.slice none 0 0) (.int .i64 0) (.int .i64 0)
    rwa [World.size_alloc, World.size_alloc] at this
  clear hsz0
  rw [← hW0]
  have HW0 := Lib.hid hW0; clear hW0
  go_cut [8] from 24 to 33 (fun b wx => cutB W0 m l b wx)
  case first =>
    have hF0 : Below W0.heap.size W0 W0.drew := ⟨rfl, rfl, rfl, Nat.le_refl _, fun _ _ => rfl⟩
    refine wp_region_noPanic ?_
    refine plan (.rd 1 (.rd 2 (.rd 6 (.rd 7 (.rd 8 (.two 0 (.two 3 (.eff 4 (.eff 5 (.eff 9 (.eff 10 .done)))) 4 (.eff 3 (.eff 5 (.eff 9 (.eff 10 .done))))) 4 (.eff 0 (.eff 3 (.eff 5 (.eff 9 (.eff 10 .done))))))))))) [0, 1, 2, 3, 4, 5, 6, 7, 8, 9] (fun W => Below W0.heap.size W0 W) (by kernel_rfl) (by kernel_rfl) (fun _ _ _ _ _ h => h) hF0 ?_
    refine pl_pure rfl (fun K hK => ?_)
    go_simp
    refine hK _ ?_
    clear hK K
    refine pl_rd (.slice B m bc) rfl rfl (fun W hS => ?_) (fun K hK => ?_)
    · have := (hS.cell (p := ⟨w.heap.size + 1, 3, none⟩) hlt1).trans c3
      simp [go_sem, this]
    go_simp
    refine hK _ ?_
    clear hK K
    refine pl_pure rfl (fun K hK => ?_)
    go_simp
    refine hK _ ?_
    clear hK K
    refine pl_rd (.slice B m bc) rfl rfl (fun W hS => ?_) (fun K hK => ?_)
    · have := (hS.cell (p := ⟨w.heap.size + 1, 3, none⟩) hlt1).trans c3
      simp [go_sem, this]
    go_simp
    refine hK _ ?_
    clear hK K
    refine pl_pure rfl (fun K hK => ?_)
    go_simp
    refine hK _ ?_
    clear hK K
    refine pl_two ?_ ?_
    · refine pl_op rfl rfl (fun K hK => ?_)
      go_simp
      have hF1 := hF0.alloc hF0.size (.cells #[] 5)
      refine hK _ _ (fun _ => hF1) ?_
      clear hK K
      refine pl_two ?_ ?_
      · have R0 : ((W0.drew).alloc (.cells #[] 5)).ownsRow W0.heap.size 5 1 (.slice (some ⟨W0.heap.size, 0, none⟩) 0 0) 0 [] := by
          have := own_lit (W0.drew) 5 1 #[] 0 (by simp [maxLen]) rfl W0.heap.size hF0.size
          exact this
        refine pl_op rfl rfl (fun K hK => ?_)
        refine wp_append_sl ((W0.drew).alloc (.cells #[] 5)) (.tmp 24) (.tmp 26) 38 rfl W0.heap.size 5 (.int .u8 0) 1 1 Try.underlying38 info_u8 rfl (by omega) (by omega) (.slice (some ⟨W0.heap.size, 0, none⟩) 0 0) 0 [] rfl R0 B m bc (bv l) rfl (Sl.move hby0 (Mv.of_below hF1 _)) (bv_one l) (by omega) hF1.size ?_
        intro v3 w3 hown3 hg3 hat3
        rw [Nat.zero_add, List.nil_append] at hown3
        have hF2 := hF1.grown hg3 hF1.size (fun k hk => by simp [Value.ownBlock] at hk; omega)
        refine hK _ _ (fun _ => hF2) ?_
        clear hK K
        refine pl_eff rfl rfl (fun K hK => ?_)
        go_simp
        have hF3 := hF2.alloc hF2.size (.cells #[.int .u8 77] 5)
        refine hK _ _ (fun _ => hF3) ?_
        clear hK K
        have L4 : Sl ((w3).alloc (.cells #[.int .u8 77] 5)) (fun k => k = w3.heap.size) 1 (some ⟨w3.heap.size, 0, none⟩) 1 1 [.int .u8 77] := by
          obtain ⟨A2, c2, he, hs⟩ := Sl.of_own (ok := fun k => k = w3.heap.size) (own_lit (w3) 5 1 #[.int .u8 77] 1 (by simp [maxLen]) rfl 0 (Nat.zero_le _)) (fun k hk _ => by simp [Value.ownBlock] at hk; omega)
          injection he with he1 he2 he3
          subst he1; subst he3
          exact hs
        have hown3 := hown3.alloc (.cells #[.int .u8 77] 5)
        refine pl_eff rfl rfl (fun K hK => ?_)
        refine wp_append_sl ((w3).alloc (.cells #[.int .u8 77] 5)) (.tmp 27) (.tmp 28) 38 rfl W0.heap.size 5 (.int .u8 0) 1 1 Try.underlying38 info_u8 rfl (by omega) (by omega) v3 m (bv l) rfl hown3 (some ⟨w3.heap.size, 0, none⟩) 1 1 [.int .u8 77] rfl L4 (by intro u hu; simp at hu; subst hu; rfl) (by omega) hF3.size ?_
        intro v5 w5 hown5 hg5 hat5
        obtain ⟨A5, c5, rfl⟩ := own_shape hown5
        have hF4 := hF3.grown hg5 hF3.size (fun k hk => (hown3.lt k hk).1)
        refine hK _ _ (fun _ => hF4) ?_
        clear hK K
        obtain ⟨nb, rfl, hnb, cur, hgb⟩ := own_some hown5 (by omega)
        have hown5 : w5.ownsRow W0.heap.size 5 1 (.slice (some ⟨nb, 0, none⟩) (m + 1) c5) (m + 1) (bv (l ++ [77])) := by rw [bv_append]; exact hown5
        have hcap : m + 1 ≤ c5 := (by_own hown5).2.1
        have hcut := (cut_h (P := Try.prog) 38 5 1 Try.underlying38 size_u8 .i64 (some ⟨nb, 0, none⟩) (m + 1) c5 m (by omega)).1
        refine pl_eff rfl rfl (fun K hK => ?_)
        go_simp
        refine hK _ _ (fun _ => hF4) ?_
        clear hK K
        refine pl_eff rfl rfl (fun K hK => ?_)
        go_simp
        refine hK _ _ (fun h => by cases h) ?_
        clear hK K
        refine pl_done ?_
        refine NoPanic.normal ?_
        go_wp2
        go_meet
        case rel => exact ⟨nb, c5, rfl, hown5, hF4⟩
      · have R0 : ((W0.drew).alloc (.cells #[] 5)).ownsRow W0.heap.size 5 1 (.slice (some ⟨W0.heap.size, 0, none⟩) 0 0) 0 [] := by
          have := own_lit (W0.drew) 5 1 #[] 0 (by simp [maxLen]) rfl W0.heap.size hF0.size
          exact this
        refine pl_op rfl rfl (fun K hK => ?_)
        go_simp
        have hF2 := hF1.alloc hF1.size (.cells #[.int .u8 77] 5)
        refine hK _ _ (fun _ => hF2) ?_
        clear hK K
        have L4 : Sl (((W0.drew).alloc (.cells #[] 5)).alloc (.cells #[.int .u8 77] 5)) (fun k => k = W0.heap.size + 1) 1 (some ⟨W0.heap.size + 1, 0, none⟩) 1 1 [.int .u8 77] := by
          obtain ⟨A2, c2, he, hs⟩ := Sl.of_own (ok := fun k => k = W0.heap.size + 1) (own_lit ((W0.drew).alloc (.cells #[] 5)) 5 1 #[.int .u8 77] 1 (by simp [maxLen]) rfl 0 (Nat.zero_le _)) (fun k hk _ => by simp [Value.ownBlock] at hk; omega)
          injection he with he1 he2 he3
          subst he1; subst he3
          rw [World.size_alloc] at hs
          exact hs
        have R0 := R0.alloc (.cells #[.int .u8 77] 5)
        refine pl_eff rfl rfl (fun K hK => ?_)
        refine wp_append_sl (((W0.drew).alloc (.cells #[] 5)).alloc (.cells #[.int .u8 77] 5)) (.tmp 24) (.tmp 26) 38 rfl W0.heap.size 5 (.int .u8 0) 1 1 Try.underlying38 info_u8 rfl (by omega) (by omega) (.slice (some ⟨W0.heap.size, 0, none⟩) 0 0) 0 [] rfl R0 B m bc (bv l) rfl (Sl.move hby0 (Mv.of_below hF2 _)) (bv_one l) (by omega) hF2.size ?_
        intro v3 w3 hown3 hg3 hat3
        rw [Nat.zero_add, List.nil_append] at hown3
        have hF3 := hF2.grown hg3 hF2.size (fun k hk => by simp [Value.ownBlock] at hk; omega)
        refine hK _ _ (fun _ => hF3) ?_
        clear hK K
        have L4 := Sl.move L4 ⟨hg3.size, fun k hk ho => hg3.block k hk (fun e => by simp [Value.ownBlock] at e; omega)⟩
        refine pl_eff rfl rfl (fun K hK => ?_)
        refine wp_append_sl (w3) (.tmp 27) (.tmp 28) 38 rfl W0.heap.size 5 (.int .u8 0) 1 1 Try.underlying38 info_u8 rfl (by omega) (by omega) v3 m (bv l) rfl hown3 (some ⟨W0.heap.size + 1, 0, none⟩) 1 1 [.int .u8 77] rfl L4 (by intro u hu; simp at hu; subst hu; rfl) (by omega) hF3.size ?_
        intro v5 w5 hown5 hg5 hat5
        obtain ⟨A5, c5, rfl⟩ := own_shape hown5
        have hF4 := hF3.grown hg5 hF3.size (fun k hk => (hown3.lt k hk).1)
        refine hK _ _ (fun _ => hF4) ?_
        clear hK K
        obtain ⟨nb, rfl, hnb, cur, hgb⟩ := own_some hown5 (by omega)
        have hown5 : w5.ownsRow W0.heap.size 5 1 (.slice (some ⟨nb, 0, none⟩) (m + 1) c5) (m + 1) (bv (l ++ [77])) := by rw [bv_append]; exact hown5
        have hcap : m + 1 ≤ c5 := (by_own hown5).2.1
        have hcut := (cut_h (P := Try.prog) 38 5 1 Try.underlying38 size_u8 .i64 (some ⟨nb, 0, none⟩) (m + 1) c5 m (by omega)).1
        refine pl_eff rfl rfl (fun K hK => ?_)
        go_simp
        refine hK _ _ (fun _ => hF4) ?_
        clear hK K
        refine pl_eff rfl rfl (fun K hK => ?_)
        go_simp
        refine hK _ _ (fun h => by cases h) ?_
        clear hK K
        refine pl_done ?_
        refine NoPanic.normal ?_
        go_wp2
        go_meet
        case rel => exact ⟨nb, c5, rfl, hown5, hF4⟩
    · refine pl_op rfl rfl (fun K hK => ?_)
      go_simp
      have hF1 := hF0.alloc hF0.size (.cells #[.int .u8 77] 5)
      refine hK _ _ (fun _ => hF1) ?_
      clear hK K
      have L4 : Sl ((W0.drew).alloc (.cells #[.int .u8 77] 5)) (fun k => k = W0.heap.size) 1 (some ⟨W0.heap.size, 0, none⟩) 1 1 [.int .u8 77] := by
        obtain ⟨A2, c2, he, hs⟩ := Sl.of_own (ok := fun k => k = W0.heap.size) (own_lit (W0.drew) 5 1 #[.int .u8 77] 1 (by simp [maxLen]) rfl 0 (Nat.zero_le _)) (fun k hk _ => by simp [Value.ownBlock] at hk; omega)
        injection he with he1 he2 he3
        subst he1; subst he3
        exact hs
      refine pl_eff rfl rfl (fun K hK => ?_)
      go_simp
      have hF2 := hF1.alloc hF1.size (.cells #[] 5)
      refine hK _ _ (fun _ => hF2) ?_
      clear hK K
      have R0 : (((W0.drew).alloc (.cells #[.int .u8 77] 5)).alloc (.cells #[] 5)).ownsRow W0.heap.size 5 1 (.slice (some ⟨W0.heap.size + 1, 0, none⟩) 0 0) 0 [] := by
        have := own_lit ((W0.drew).alloc (.cells #[.int .u8 77] 5)) 5 1 #[] 0 (by simp [maxLen]) rfl W0.heap.size hF1.size
        rw [World.size_alloc] at this
        exact this
      have L4 := Sl.move L4 (Mv.alloc _ _ (.cells #[] 5))
      refine pl_eff rfl rfl (fun K hK => ?_)
      refine wp_append_sl (((W0.drew).alloc (.cells #[.int .u8 77] 5)).alloc (.cells #[] 5)) (.tmp 24) (.tmp 26) 38 rfl W0.heap.size 5 (.int .u8 0) 1 1 Try.underlying38 info_u8 rfl (by omega) (by omega) (.slice (some ⟨W0.heap.size + 1, 0, none⟩) 0 0) 0 [] rfl R0 B m bc (bv l) rfl (Sl.move hby0 (Mv.of_below hF2 _)) (bv_one l) (by omega) hF2.size ?_
      intro v3 w3 hown3 hg3 hat3
      rw [Nat.zero_add, List.nil_append] at hown3
      have hF3 := hF2.grown hg3 hF2.size (fun k hk => by simp [Value.ownBlock] at hk; omega)
      refine hK _ _ (fun _ => hF3) ?_
      clear hK K
      have L4 := Sl.move L4 ⟨hg3.size, fun k hk ho => hg3.block k hk (fun e => by simp [Value.ownBlock] at e; omega)⟩
      refine pl_eff rfl rfl (fun K hK => ?_)
      refine wp_append_sl (w3) (.tmp 27) (.tmp 28) 38 rfl W0.heap.size 5 (.int .u8 0) 1 1 Try.underlying38 info_u8 rfl (by omega) (by omega) v3 m (bv l) rfl hown3 (some ⟨W0.heap.size, 0, none⟩) 1 1 [.int .u8 77] rfl L4 (by intro u hu; simp at hu; subst hu; rfl) (by omega) hF3.size ?_
      intro v5 w5 hown5 hg5 hat5
      obtain ⟨A5, c5, rfl⟩ := own_shape hown5
      have hF4 := hF3.grown hg5 hF3.size (fun k hk => (hown3.lt k hk).1)
      refine hK _ _ (fun _ => hF4) ?_
      clear hK K
      obtain ⟨nb, rfl, hnb, cur, hgb⟩ := own_some hown5 (by omega)
      have hown5 : w5.ownsRow W0.heap.size 5 1 (.slice (some ⟨nb, 0, none⟩) (m + 1) c5) (m + 1) (bv (l ++ [77])) := by rw [bv_append]; exact hown5
      have hcap : m + 1 ≤ c5 := (by_own hown5).2.1
      have hcut := (cut_h (P := Try.prog) 38 5 1 Try.underlying38 size_u8 .i64 (some ⟨nb, 0, none⟩) (m + 1) c5 m (by omega)).1
      refine pl_eff rfl rfl (fun K hK => ?_)
      go_simp
      refine hK _ _ (fun _ => hF4) ?_
      clear hK K
      refine pl_eff rfl rfl (fun K hK => ?_)
      go_simp
      refine hK _ _ (fun h => by cases h) ?_
      clear hK K
      refine pl_done ?_
      refine NoPanic.normal ?_
      go_wp2
      go_meet
      case rel => exact ⟨nb, c5, rfl, hown5, hF4⟩
  case rest =>
    obtain ⟨nb, nc, rfl, hown, hbC⟩ := hcut
    have hbwc := hbw0.trans (hbC.mono hbw0.size)
    have C0 := B0.below hbC
    have C1 := B1.below hbC
    obtain ⟨q0, q1, q2, q3, qf⟩ := C0.cells
    have d1 := (hbC.cell (p := ⟨w.heap.size + 1, 1, none⟩) hlt1).trans c1
    have d3 := (hbC.cell (p := ⟨w.heap.size + 1, 3, none⟩) hlt1).trans c3
    clear B0 B1 c1 c3
    obtain ⟨hp, hbig, hsame, hfit⟩ := hd.props
    have WR := write_ref wc _ d (hr.below hbwc) hsame hbig (by omega) at_ B m bc l (Sl.move hby (Mv.of_below hbwc _))
    have hrowlt := hown.lt nb rfl
    obtain ⟨d', hd'e⟩ : ∃ d', d' = (d.wr at_ l).1 := ⟨_, rfl⟩
    obtain ⟨e1, he1⟩ : ∃ e1, e1 = (d.wr at_ l).2 := ⟨_, rfl⟩
    rw [← hd'e, ← he1] at WR
    have HD := Lib.hid hd'e; clear hd'e
    have HE := Lib.hid he1; clear he1
    have HSA := Lib.hid hsame; clear hsame
    have HNO := Lib.hid hnow; clear hnow
    go_wp2_with fail
    refine WR.mono ?_
    rintro e w3 ⟨hb3, v3, rfl, hr3⟩
    clear WR
    obtain ⟨LB, lc3, WB, wc3, wcs3, rfl, _, _, _⟩ := id hr3
    have hbw3 := hbwc.trans (hb3.mono hbwc.size)
    have d1 := (hb3.cell (p := ⟨w.heap.size + 1, 1, none⟩) (by have := hbC.size; simp; omega)).trans d1
    have d3 := (hb3.cell (p := ⟨w.heap.size + 1, 3, none⟩) (by have := hbC.size; simp; omega)).trans d3
    clear q0 q1 q2 q3 qf
    have hll : l.length = m := by have := hby.1; simpa [bv] using this
    have hbyb : By wc (fun k => k = nb) (some ⟨nb, 0, none⟩) m nc l := by
      obtain ⟨A2, c2, he, hs⟩ := Sl.of_own (ok := fun k => k = nb) hown (fun k hk _ => by simp [Value.ownBlock] at hk; omega)
      injection he with he1 he2 he3
      subst he1; subst he3
      have := (cut_h (P := Try.prog) 38 5 1 Try.underlying38 size_u8 .i64 (some ⟨nb, 0, none⟩) (m + 1) nc m (by have := hs.2.1; omega)).2 wc _ _ (by omega) hs
      have e : (bv (l ++ [77])).take (m * 1) = bv l := by rw [bv_append, Nat.mul_one, List.take_append_of_le_length (by rw [bv_length]; omega), List.take_of_length_le (by rw [bv_length]; omega)]
      rw [e] at this
      exact this
    have hbA := (Below.refl w3.heap.size w3).alloc (Nat.le_refl _) (.cells #[.slice LB d'.lasts.length lc3, .slice WB d'.waits.length wc3, .int .i64 d'.steps, .int .i64 d'.armed] 48)
    have hbwA := hbw3.trans (hbA.mono hbw3.size)
    have d1a := cell_al d1 (.cells #[.slice LB d'.lasts.length lc3, .slice WB d'.waits.length wc3, .int .i64 d'.steps, .int .i64 d'.armed] 48)
    have d3a := cell_al d3 (.cells #[.slice LB d'.lasts.length lc3, .slice WB d'.waits.length wc3, .int .i64 d'.steps, .int .i64 d'.armed] 48)
    have B9 := Box4.new w3 (.slice LB d'.lasts.length lc3) (.slice WB d'.waits.length wc3) (.int .i64 d'.steps) (.int .i64 d'.armed)
    have hbCA := hb3.trans (hbA.mono hb3.size)
    have hownA := own_move hown (fun k _ hlt => hbCA.block k hlt)
    have hbybA := Sl.move hbyb (Mv.of_below hbCA _)
    have CW := write_S (hd.below hbwA) at_ (some ⟨nb, 0, none⟩) m nc l hbybA (by omega)
    rw [← HD.out, ← HE.out] at CW
    go_wp2_with fail
    refine CW.mono ?_
    rintro e w4 ⟨rfl, S4, hd4, hk4, hS4⟩
    clear CW
    have hSw : ∀ k, S k → k < w.heap.size := hd.1
    have hW0w := hbw0.size
    have hnbw : w.heap.size ≤ nb := by omega
    have hown4 := own_move hownA (fun k hk hlt => hk4.block k hlt (fun hs => by simp [Value.ownBlock] at hk; have := hSw _ hs; omega))
    have hbyb4 := Sl.move hbybA (Mv.of_kp hk4 (fun k _ hk hs => by have := hSw _ hs; omega))
    have hby4 := Sl.move (Sl.mono hby (ok1 := fun k => okb k ∧ k < w.heap.size) (fun k hk ho => ⟨ho, hk⟩)) (Mv.of_below hbwA _)
    have hby4 := Sl.move hby4 (Mv.of_kp hk4 (fun k _ hk hs => hoS k hk.1 hk.2 hs))
    have d34 := hk4.cell d3a (fun hs => by have : w.heap.size + 1 < w.heap.size := hSw _ hs; omega)
    have B94 := B9.keep hk4 (fun hs => by have := hSw _ hs; have := hbw3.size; omega)
    have C14 := ((C1.below hbCA)).keep hk4 (fun hs => by have := hSw _ hs; omega)
    have kc1 := conv_by 38 9 5 Try.underlying38 Try.underlying5 Try.underlying9 w4 (some ⟨nb, 0, none⟩) m nc l hbyb4
    have kc2 := conv_by 38 9 5 Try.underlying38 Try.underlying5 Try.underlying9 w4 B m bc l hby4
    have hcap : m + 1 ≤ nc := (by_own hown4).2.1
    have hcut : ∀ W : World, (Instr.slice 38 (.slice (some ⟨nb, 0, none⟩) m nc) none (some (.int .i64 ((m : Int) + 1))) none).run Try.prog W = .ok (.slice (some ⟨nb, 0, none⟩) (m + 1) nc) W := by
      have := (cut_h (P := Try.prog) 38 5 1 Try.underlying38 size_u8 .i64 (some ⟨nb, 0, none⟩) m nc (m + 1) hcap).1
      rwa [show ((m + 1 : Nat) : Int) = (m : Int) + 1 from by simp] at this
    have h77 : w4.cell? ⟨nb, m, none⟩ = some (.int .u8 77) := by
      rw [hown4.cellAt m (by omega), bv_append, List.getElem?_append_right (by rw [bv_length]; omega), bv_length, hll]
      simp [bv]
    go_wp2_with (first
      | (go_at_call 17; refine (num_any _ _).mono ?_; rintro e w' ⟨rfl, rfl⟩))
    have hz4 : w4.ownsRow W0.heap.size 5 1 (.slice (some ⟨nb, 0, none⟩) (m + 1) nc) (m + 1) (((l ++ [77]).map (fun b : UInt8 => (b.toNat : Int))).map (Value.int .u8)) := by
      have : ((l ++ [77]).map (fun b : UInt8 => (b.toNat : Int))).map (Value.int .u8) = bv (l ++ [77]) := by rw [List.map_map]; rfl
      rw [this]; exact hown4
    clear kc1 kc2 hcut h77 hown4 hbyb4 hby4 hownA hbybA d1a d3a
    go_loopw [13] (fun i wr => ∃ (k : Nat) (zs : List Int), k ≤ m ∧ i = .int .i64 k ∧ wr.ownsRow W0.heap.size 5 1 (.slice (some ⟨nb, 0, none⟩) (m + 1) nc) (m + 1) (zs.map (Value.int .u8)) ∧ Kp (fun b => b = nb) w4 wr)
      (fun i _ => m - (intOf i).toNat)
    case atStart => exact ⟨0, _, Nat.zero_le _, rfl, hz4, Kp.refl _ _⟩
    case round =>
      obtain ⟨k, zs, hk, rfl, hz, hkp⟩ := hrel
      by_cases hlt : k < m
      · have hlt' : (k : Int) < m := by omega
        have hzl : zs.length = m + 1 := by have := hz.1; simpa using this
        have hzk : zs[k]? = some (zs[k]'(by omega)) := List.getElem?_eq_getElem (by omega)
        have hc : wr.cell? ⟨nb, k, none⟩ = some (.int .u8 (zs[k]'(by omega))) := by
          rw [hz.cellAt k (by omega), List.getElem?_map, hzk]; rfl
        have hf := hz.frozenAt k
        go_wp2
        have hst := (hz.stored k (.int .u8 ((zs[k]'(by omega) + 1) % 256))).1
        refine ⟨⟨k + 1, zs.set k ((zs[k]'(by omega) + 1) % 256), hlt, by simp, by rw [List.map_set]; exact hst, hkp.setCell (p := ⟨nb, k, none⟩) (.inl rfl) _⟩, by simp [intOf]; omega⟩
      · have hlt' : ¬ (k : Int) < m := by omega
        have C15 := C14.keep hkp (by omega)
        have B95 := B94.keep hkp (by have := hb3.size; have := hrowlt.2; omega)
        obtain ⟨q0, q1, q2, q3, qf⟩ := C15.cells
        obtain ⟨r0, r1, r2, r3, rf⟩ := B95.cells
        go_wp2
        have hkF := ((((hkp.mono (M1 := fun b => b = nb ∨ b = w.heap.size + 1 + 1) (fun _ _ h => .inl h)).setCell (p := ⟨w.heap.size + 1 + 1, 0, none⟩) (.inl (.inr rfl)) (.slice LB d'.lasts.length lc3)).setCell (p := ⟨w.heap.size + 1 + 1, 1, none⟩) (.inl (.inr rfl)) (.slice WB d'.waits.length wc3)).setCell (p := ⟨w.heap.size + 1 + 1, 2, none⟩) (.inl (.inr rfl)) (.int .i64 d'.steps)).setCell (p := ⟨w.heap.size + 1 + 1, 3, none⟩) (.inl (.inr rfl)) (.int .i64 d'.armed)
        have hs3 := hb3.size
        have hrl := hrowlt.2
        have hsC := hbC.size
        have hsA : (w3.alloc (.cells #[.slice LB d'.lasts.length lc3, .slice WB d'.waits.length wc3, .int .i64 d'.steps, .int .i64 d'.armed] 48)).heap.size = w3.heap.size + 1 := by simp
        have hs4 := hk4.size
        have hsF := hkF.size
        have hr3' := hr3.mono (T1 := fun k => (T k ∨ wc.heap.size ≤ k) ∧ k < w3.heap.size) (fun k hk ho => ⟨ho, hk⟩)
        have hr4 := RefV.kpA (hr3'.below hbA) hk4 (fun k _ ht hs => by
          rcases ht.1 with h1 | h1
          · exact hap k h1 hs
          · have := hSw _ hs; omega)
        have hrF := RefV.kpA hr4 hkF (fun k _ ht hM => by
          rcases ht.1 with h1 | h1
          · have := htl k h1; omega
          · omega)
        have hS4' : ∀ k, S4 k → S k ∨ w3.heap.size + 1 ≤ k := fun k h => by have := hS4 k h; rwa [hsA] at this
        have hdF := hd4.move hkF (fun k h hM => by
          rcases hS4' k h with h1 | h1
          · have := hSw _ h1; omega
          · omega) (fun k h hM => by have := hRw k h; omega)
        refine bodyPost_ret (v := .tuple #[rv LB d'.lasts.length lc3 WB d'.waits.length wc3 d'.steps d'.armed, .bool true]) (by rw [results_cell_tmp rfl]; simp [go_sem, asAddr, rv, q0, q1, q2, q3, r0, r1, r2, r3]) rfl
          ⟨S4, fun k => (T k ∨ wc.heap.size ≤ k) ∧ k < w3.heap.size, _, rfl, ?_, ?_, ?_, ?_⟩
        · rw [← HD.out]
          exact { dsk := hdF, tl := fun k h => by have := h.2; omega, ref := hrF, ap := fun k h hs => by
                    rcases hS4' k hs with h1 | h1
                    · rcases h.1 with h2 | h2
                      · exact hap k h2 h1
                      · have := hSw _ h1; omega
                    · have := h.2; omega
                  now := by rw [HD.out]; exact wr_good d at_ l HNO.out }
        · exact ((Kp.of_below hbwA S).trans hk4 (fun _ _ h => h)).trans hkF (fun b hb hM => by omega)
        · intro k h
          rcases hS4' k h with h1 | h1
          · exact .inl h1
          · exact .inr (by omega)
        · intro k h
          rcases h.1 with h1 | h1
          · exact .inl h1
          · exact .inr (by omega)
end Go.Proofs.Ytmajfiljajbipaa
