/- The law's helper act: Read. -/
import Derived.Test.YtmajfiljajbipaaAct08b
set_option linter.unusedVariables false
set_option linter.unusedSimpArgs false
namespace Go.Proofs.Ytmajfiljajbipaa
open Go.RowKit

set_option maxRecDepth 100000 in
set_option maxHeartbeats 4000000 in
theorem act3_ok {R S T : Nat → Prop} (w : World) (p : Nat) (v : Value) (d : Dk) (h : BothR R w S T p v d) (what : Int) (at_ n : Nat) (B : Option Addr) (m bc : Nat) (hw : what ≠ 0 ∧ what ≠ 1 ∧ what ≠ 2) (hx : at_ + n ≤ d.now.length) (hm : d.waits.length ≤ 1048576) :
    Calls Try.prog 27 #[.pointer (some ⟨p, 0, none⟩), v, .agg #[.int .i64 what, .int .i64 (at_ : Int), .int .i64 (n : Int), .slice B m bc]] w fun e w' =>
      ∃ v', e = .returned (.tuple #[v', .bool true]) ∧ BothR R w' S T p v' d ∧ Kp S w w' := by
  obtain ⟨hd, htl, hr, hap, hnow⟩ := h
  have hRw := hd.rl
  obtain ⟨LA, lc, WA, wcap, wcs, rfl, j1, j2, j3⟩ := id hr
  obtain ⟨hp, hbig, hsame, hfit⟩ := hd.props
  have hSw : ∀ k, S k → k < w.heap.size := hd.1
  have g0 : (what == 0) = false := by simp; exact hw.1
  have g1 : (what == 1) = false := by simp; exact hw.2.1
  have g2 : (what == 2) = false := by simp; exact hw.2.2
  have hfit2 : ∀ x, x ∈ d.waits → x.1 + x.2.length ≤ d.lasts.length := by rw [hsame]; exact hfit
  have hll := layAll_length d.waits d.lasts hfit2
  have h0 : 0 < d.lasts.length := by omega
  have hN : d.lasts.length ≤ 1048576 := by omega
  have hle : at_ + n ≤ d.lasts.length := by omega
  obtain ⟨W0, hW0⟩ : ∃ W0, W0 = (((w.alloc (.cells #[.slice LA d.lasts.length lc, .slice WA d.waits.length wcap, .int .i64 d.steps, .int .i64 d.armed] 48)).alloc (.cells #[.int .i64 what, .int .i64 (at_ : Int), .int .i64 (n : Int), .slice B m bc] 40)).alloc (.cells #[.slice none 0 0, .slice none 0 0, .int .i64 0, .int .i64 0] 48)) := ⟨_, rfl⟩
  have hsz0 : W0.heap.size = w.heap.size + 3 := by rw [hW0]; simp
  have hbw0 : Below w.heap.size w W0 := by rw [hW0]; exact (((Below.refl _ _).alloc (Nat.le_refl _) _).alloc (by simp) _).alloc (by simp; omega) _
  have c1 : W0.cell? ⟨w.heap.size + 1, 1, none⟩ = some (.int .i64 (at_ : Int)) := by rw [hW0]; simp [go_sem]
  have c2 : W0.cell? ⟨w.heap.size + 1, 2, none⟩ = some (.int .i64 (n : Int)) := by rw [hW0]; simp [go_sem]
  have B0 : Box4 W0 w.heap.size (.slice LA d.lasts.length lc) (.slice WA d.waits.length wcap) (.int .i64 d.steps) (.int .i64 d.armed) := by rw [hW0]; exact ((Box4.new _ _ _ _ _).alloc _).alloc _
  have B1 : Box4 W0 (w.heap.size + 1 + 1) (.slice none 0 0) (.slice none 0 0) (.int .i64 0) (.int .i64 0) := by
    rw [hW0]
    have := Box4.new ((w.alloc (.cells #[.slice LA d.lasts.length lc, .slice WA d.waits.length wcap, .int .i64 d.steps, .int .i64 d.armed] 48)).alloc (.cells #[.int .i64 what, .int .i64 (at_ : Int), .int .i64 (n : Int), .slice B m bc] 40)) (.slice none 0 0) (.slice none 0 0) (.int .i64 0) (.int .i64 0)
    rwa [World.size_alloc, World.size_alloc] at this
  obtain ⟨fp, hfp, hdk⟩ := (hd.below hbw0).2
  have R := read_disk hdk at_ n hx
  obtain ⟨rb, hrb⟩ : ∃ rb, rb = (d.now.take (at_ + n)).drop at_ := ⟨_, rfl⟩
  rw [← hrb] at R
  have HRB := Lib.hid hrb; clear hrb
  have k1 : ¬ (at_ : Int) < 0 := by omega
  have k2 : ¬ (d.lasts.length : Int) < at_ := by omega
  have k3 : ¬ wrap64 ((d.lasts.length : Int) - at_) < n := by unfold wrap64; omega
  have k4 : ¬ (n : Int) < 0 := by omega
  have hlt0 : w.heap.size + 1 < W0.heap.size := by omega
  have hlt2 : w.heap.size + 2 < W0.heap.size := by omega
  rw [hW0] at R
  have HW := Lib.hid hW0; clear hW0 hdk hsz0
  have HS := Lib.hid hsame; clear hsame
  have HN := Lib.hid hnow; clear hnow
  have HL := Lib.hid hll; clear hll
  obtain ⟨b0, b1, b2, b3, bf⟩ := B0.cells
  go_enter Try.func27, Try.ntmps27
  go_wp2_with fail
  refine R.mono ?_
  rintro e w1 ⟨A1, c1', rfl, hown1, hb1⟩
  rw [← HW.out] at hown1 hb1
  have hbw1 := hbw0.trans (hb1.mono hbw0.size)
  have C0 := B0.below hb1
  have C1 := B1.below hb1
  have d1 := (hb1.cell (p := ⟨w.heap.size + 1, 1, none⟩) hlt0).trans c1
  have d2 := (hb1.cell (p := ⟨w.heap.size + 1, 2, none⟩) hlt0).trans c2
  have hlt1 : w.heap.size + 1 < w1.heap.size := Nat.lt_of_lt_of_le hlt0 hb1.size
  have hby1 : By w1 Any A1 n c1' rb := by_own hown1
  have hr1 := hr.below hbw1
  clear b0 b1 b2 b3 bf R B0 B1 c1 c2
  obtain ⟨b0, b1, b2, b3, bf⟩ := C0.cells
  go_wp2_with fail
  clear b0 b1 b2 b3 bf
  have hdr : Below w1.heap.size w1 w1.drew := ⟨rfl, rfl, rfl, Nat.le_refl _, fun _ _ => rfl⟩
  refine wp_region_noPanic ?_
  refine mix [(0, true), (1, false), (2, true), (3, true), (4, true), (5, true), (6, true), (8, true), (9, true), (10, true), (11, true), (12, true), (13, true), (14, true), (7, false), (15, true), (16, false), (17, true), (18, true), (19, true)] [0, 1, 2, 3, 4, 5, 6, 7, 8, 9, 10, 11, 12, 13, 14, 15, 16, 17, 18, 19] (fun W => Below w1.heap.size w1 W) (by kernel_rfl) (by kernel_rfl) (fun _ _ _ _ _ h => h) hdr ?_
  refine st_pure rfl (fun K hK => ?_)
  go_simp
  refine hK _ ?_
  clear hK K
  refine st_effg rfl rfl (fun K hK => ?_)
  go_simp
  refine (num_any _ _).mono ?_
  rintro e w' ⟨rfl, rfl⟩
  refine hK _ _ (fun _ => ?_) ?_
  · exact hdr
  clear hK K
  refine st_pure rfl (fun K hK => ?_)
  go_simp
  refine hK _ ?_
  clear hK K
  refine st_pure rfl (fun K hK => ?_)
  go_simp
  refine hK _ ?_
  clear hK K
  refine st_pure rfl (fun K hK => ?_)
  go_simp
  refine hK _ ?_
  clear hK K
  refine st_rdg (.string ⟨rb.toArray⟩) rfl rfl (fun W hS => ?_) (fun K hK => ?_)
  · have h5 := conv_by 38 9 5 Try.underlying38 Try.underlying5 Try.underlying9 W A1 n c1' rb (Sl.move hby1 (Mv.of_below hS _))
    simp [go_sem, h5]
  go_simp
  refine hK _ ?_
  clear hK K
  refine st_rdg (.agg #[.slice LA d.lasts.length lc, .slice WA d.waits.length wcap, .int .i64 d.steps, .int .i64 d.armed]) rfl rfl (fun W hS => ?_) (fun K hK => ?_)
  · obtain ⟨q0, q1, q2, q3, qf⟩ := (C0.below hS).cells
    simp [go_sem, q0, q1, q2, q3]
  go_simp
  refine hK _ ?_
  clear hK K
  refine st_pure rfl (fun K hK => ?_)
  go_simp
  refine hK _ ?_
  clear hK K
  refine st_rdg (.int .i64 (at_ : Int)) rfl rfl (fun W hS => ?_) (fun K hK => ?_)
  · have := (hS.cell (p := ⟨w.heap.size + 1, 1, none⟩) hlt1).trans d1
    simp [go_sem, this]
  go_simp
  refine hK _ ?_
  clear hK K
  refine st_pure rfl (fun K hK => ?_)
  go_simp
  refine hK _ ?_
  clear hK K
  refine st_rdg (.int .i64 (at_ : Int)) rfl rfl (fun W hS => ?_) (fun K hK => ?_)
  · have := (hS.cell (p := ⟨w.heap.size + 1, 1, none⟩) hlt1).trans d1
    simp [go_sem, this]
  go_simp
  refine hK _ ?_
  clear hK K
  refine st_pure rfl (fun K hK => ?_)
  go_simp
  refine hK _ ?_
  clear hK K
  refine st_rdg (.int .i64 (n : Int)) rfl rfl (fun W hS => ?_) (fun K hK => ?_)
  · have := (hS.cell (p := ⟨w.heap.size + 1, 2, none⟩) hlt1).trans d2
    simp [go_sem, this]
  go_simp
  refine hK _ ?_
  clear hK K
  refine st_rdg (.int .i64 ((at_ + n : Nat) : Int)) rfl rfl (fun W hS => ?_) (fun K hK => ?_)
  · have e : IntKind.i64.wrap ((at_ : Int) + (n : Int)) = (at_ : Int) + n := by rw [IntKind.wrap_i64]; omega
    simp [go_sem, e]
  go_simp
  refine hK _ ?_
  clear hK K
  refine st_effg rfl rfl (fun K hK => ?_)
  go_simp
  refine (stands_ref _ _ d (RefV.below hr1 hdr) h0 hN (by omega) hfit2).mono ?_
  rintro e w2 ⟨A2, c2, rfl, hown2, hb2⟩
  rw [HL.out] at hown2 ⊢
  have hb2 : Below w1.heap.size w1 w2 := ⟨hb2.os, hb2.tape, hb2.output, hb2.size, hb2.block⟩
  have hbs2 : By w2 Any A2 d.lasts.length c2 d.now := by rw [HN.out]; exact by_own hown2
  have hc2 : d.lasts.length ≤ c2 := hbs2.2.1
  obtain ⟨A4, hcut, _, hS4⟩ := cut_lh (P := Try.prog) 38 5 1 Try.underlying38 size_u8 .i64 .i64 A2 d.lasts.length c2 at_ (at_ + n) (by omega) (by omega)
  have hs4 := hS4 w2 Any _ hle hbs2
  rw [Nat.add_sub_cancel_left] at hs4
  simp only [Nat.add_sub_cancel_left] at hcut
  have hby4 : By w2 Any A4 n (c2 - at_) rb := by rw [HRB.out]; simpa [By, bv, List.map_take, List.map_drop] using hs4
  refine hK _ _ (fun _ => ?_) ?_
  · exact hb2
  clear hK K
  refine st_rdg (.slice A4 n (c2 - at_)) rfl rfl (fun W hS => ?_) (fun K hK => ?_)
  · have := hcut W
    simp only [Int.natCast_add] at this
    simp [go_sem, this]
  go_simp
  refine hK _ ?_
  clear hK K
  have k16 := conv_by 38 9 5 Try.underlying38 Try.underlying5 Try.underlying9 w2 A4 n (c2 - at_) rb hby4
  refine st_effg rfl rfl (fun K hK => ?_)
  go_simp
  refine hK _ _ (fun _ => ?_) ?_
  · exact hb2
  clear hK K
  refine st_pure rfl (fun K hK => ?_)
  go_simp
  refine hK _ ?_
  clear hK K
  refine st_pure rfl (fun K hK => ?_)
  go_simp
  refine hK _ ?_
  clear hK K
  refine st_pure rfl (fun K hK => ?_)
  go_simp
  refine hK _ ?_
  clear hK K
  refine st_nil ?_
  refine NoPanic.normal ?_
  go_wp2
  have hown2' := own_move hown1 (w1 := w2) (fun k _ hlt => hb2.block k hlt)
  have hz : w2.ownsRow W0.heap.size 5 1 (.slice A1 n c1') n ((rb.map (fun b : UInt8 => (b.toNat : Int))).map (Value.int .u8)) := by
    have : (rb.map (fun b : UInt8 => (b.toNat : Int))).map (Value.int .u8) = bv rb := by rw [List.map_map]; rfl
    rw [this]; exact hown2'
  have hbw2 := hbw1.trans (hb2.mono hbw1.size)
  have D0 := C0.below hb2
  have D1 := C1.below hb2
  have hs2 := hb2.size
  clear hby1 hown1 hown2'
  go_loopw [19] (fun i wr => ∃ (k : Nat) (zs : List Int), k ≤ n ∧ i = .int .i64 k ∧ wr.ownsRow W0.heap.size 5 1 (.slice A1 n c1') n (zs.map (Value.int .u8)) ∧ Kp (fun b => W0.heap.size ≤ b) w2 wr)
    (fun i _ => n - (intOf i).toNat)
  case atStart => exact ⟨0, _, Nat.zero_le _, rfl, hz, ⟨rfl, rfl, rfl, Nat.le_refl _, fun _ _ _ => rfl⟩⟩
  case round =>
    obtain ⟨k, zs, hk, rfl, hz, hkp⟩ := hrel
    by_cases hlt : k < n
    · have hlt' : (k : Int) < n := by omega
      obtain ⟨nb, rfl, hnb, cur, hgb⟩ := own_some hz (by omega)
      have hzl : zs.length = n := by have := hz.1; simpa using this
      have hzk : zs[k]? = some (zs[k]'(by omega)) := List.getElem?_eq_getElem (by omega)
      have hc : wr.cell? ⟨nb, k, none⟩ = some (.int .u8 (zs[k]'(by omega))) := by
        rw [hz.cellAt k (by omega), List.getElem?_map, hzk]; rfl
      have hf := hz.frozenAt k
      go_wp2
      have hst := (hz.stored k (.int .u8 ((zs[k]'(by omega) + 1) % 256))).1
      refine ⟨⟨k + 1, zs.set k ((zs[k]'(by omega) + 1) % 256), hlt, by simp, by rw [List.map_set]; exact hst, hkp.setCell (p := ⟨nb, k, none⟩) (.inl hnb) _⟩, by simp [intOf]; omega⟩
    · have hlt' : ¬ (k : Int) < n := by omega
      have E0 := D0.keep hkp (by omega)
      have E1 := D1.keep hkp (by omega)
      obtain ⟨q0, q1, q2, q3, qf⟩ := E1.cells
      obtain ⟨r0, r1, r2, r3, rf⟩ := E0.cells
      go_wp2
      have hkF := ((((hkp.mono (M1 := fun b => W0.heap.size ≤ b ∨ b = w.heap.size + 1 + 1) (fun _ _ h => .inl h)).setCell (p := ⟨w.heap.size + 1 + 1, 0, none⟩) (.inl (.inr rfl)) (.slice LA d.lasts.length lc)).setCell (p := ⟨w.heap.size + 1 + 1, 1, none⟩) (.inl (.inr rfl)) (.slice WA d.waits.length wcap)).setCell (p := ⟨w.heap.size + 1 + 1, 2, none⟩) (.inl (.inr rfl)) (.int .i64 d.steps)).setCell (p := ⟨w.heap.size + 1 + 1, 3, none⟩) (.inl (.inr rfl)) (.int .i64 d.armed)
      have hrF := RefV.kpA (hr.below hbw2) hkF (fun k _ ht hM => by have := htl k ht; omega)
      have hdF := (hd.below hbw2).move hkF (fun k h hM => by have := hSw _ h; omega) (fun k h hM => by have := hRw k h; omega)
      refine bodyPost_ret (v := .tuple #[rv LA d.lasts.length lc WA d.waits.length wcap d.steps d.armed, .bool true]) (by rw [results_cell_tmp rfl]; simp [go_sem, asAddr, rv, q0, q1, q2, q3, r0, r1, r2, r3]) rfl
        ⟨_, rfl, { dsk := hdF, tl := fun k h => Nat.lt_of_lt_of_le (htl k h) (Nat.le_trans hbw2.size hkF.size), ref := hrF, ap := hap, now := HN.out }, (Kp.of_below hbw2 S).trans hkF (fun b hb hM => by omega)⟩
end Go.Proofs.Ytmajfiljajbipaa
