/- The document's disk: Crash. -/
import Derived.Test.YtmajfiljajbipaaRef5
set_option linter.unusedVariables false
set_option linter.unusedSimpArgs false
namespace Go.Proofs.Ytmajfiljajbipaa
open Go.RowKit

theorem upto_get {α : Type} (f : Nat → α) (k j : Nat) : (upto f k)[j]? = if j < k then some (f j) else none := by
  unfold upto
  rw [List.getElem?_map]
  by_cases h : j < k
  · rw [if_pos h, List.getElem?_range h]; rfl
  · rw [if_neg h, List.getElem?_eq_none (by simpa using h)]; rfl
theorem torn_lt (ws : List (Nat × List UInt8)) (keep torn : Int) (k : Nat) (hk : k = pick keep ws.length) (h : k < ws.length) : tornOf ws keep torn = ws.take k ++ [(ws[k].1, ws[k].2.take (pick torn ws[k].2.length))] := by
  unfold tornOf
  rw [← hk, Nat.min_eq_left (by omega)]
  apply List.ext_getElem?
  intro j
  rw [upto_get]
  by_cases hj : j < k
  · rw [if_pos (by omega), List.getElem?_append_left (by rw [List.length_take]; omega), List.getElem?_take_of_lt hj, List.getElem?_eq_getElem (by omega)]
    simp [List.getD, List.getElem?_eq_getElem (show j < ws.length by omega), Nat.ne_of_lt hj]
  · by_cases hj2 : j = k
    · subst hj2
      rw [if_pos (by omega), List.getElem?_append_right (by rw [List.length_take]; omega)]
      rw [show (ws.take j).length = j from by rw [List.length_take]; omega]
      simp [List.getD, List.getElem?_eq_getElem h]
    · rw [if_neg (by omega), List.getElem?_eq_none]
      rw [List.length_append, List.length_take, List.length_singleton]; omega
theorem torn_all (ws : List (Nat × List UInt8)) (keep torn : Int) (k : Nat) (hk : k = pick keep ws.length) (h : ¬ k < ws.length) : tornOf ws keep torn = ws.take k := by
  have hle := pick_le keep ws.length
  unfold tornOf
  rw [← hk] at hle ⊢
  rw [Nat.min_eq_right (by omega)]
  apply List.ext_getElem?
  intro j
  rw [upto_get]
  by_cases hj : j < ws.length
  · rw [if_pos hj, List.getElem?_take_of_lt (by omega), List.getElem?_eq_getElem hj]
    have : j ≠ k := by omega
    simp [List.getD, List.getElem?_eq_getElem hj, this]
  · rw [if_neg hj, List.getElem?_eq_none]
    rw [List.length_take]; omega

theorem size_rw : (Try.prog.info? 87).map (·.size) = some 2 := by kernel_rfl

set_option maxRecDepth 100000 in
set_option maxHeartbeats 2000000 in
theorem crash_ref {T : Nat → Prop} (w : World) (v : Value) (d : Dk) (h : RefV w T v d) (h0 : 0 < d.lasts.length) (hN : d.lasts.length ≤ 1048576) (hm : d.waits.length ≤ 1048576) (hfit : ∀ x, x ∈ d.waits → x.1 + x.2.length ≤ d.lasts.length) (keep torn : Int) :
    Calls Try.prog 25 #[v, .int .i64 keep, .int .i64 torn] w fun e w' => Below w.heap.size w w' ∧ ∃ v', e = .returned v' ∧ RefV w' (fun k => w.heap.size ≤ k) v' (d.crash keep torn) := by
  obtain ⟨k, hk⟩ : ∃ k, k = pick keep d.waits.length := ⟨_, rfl⟩
  have hkm := pick_le keep d.waits.length
  have P1 := fun W => pick_ref W keep d.waits.length (by omega)
  rw [← hk] at P1 hkm
  obtain ⟨LA, lc, WA, wc, wcs, rfl, h1, h2, h3⟩ := h
  obtain ⟨K0, hK0⟩ : ∃ K0, K0 = ((w.alloc (.cells #[.slice LA d.lasts.length lc, .slice WA d.waits.length wc, .int .i64 d.steps, .int .i64 d.armed] 48)).alloc (.cells #[.slice none 0 0, .slice none 0 0, .int .i64 0, .int .i64 0] 48)) := ⟨_, rfl⟩
  have hb0 : Below w.heap.size w K0 := by rw [hK0]; exact ((Below.refl _ _).alloc (Nat.le_refl _) _).alloc (by simp) _
  have B0 : Box4 K0 w.heap.size (.slice LA d.lasts.length lc) (.slice WA d.waits.length wc) (.int .i64 d.steps) (.int .i64 d.armed) := by rw [hK0]; exact (Box4.new _ _ _ _ _).alloc _
  have B1 : Box4 K0 (w.heap.size + 1) (.slice none 0 0) (.slice none 0 0) (.int .i64 0) (.int .i64 0) := by
    rw [hK0]
    have := Box4.new (w.alloc (.cells #[.slice LA d.lasts.length lc, .slice WA d.waits.length wc, .int .i64 d.steps, .int .i64 d.armed] 48)) (.slice none 0 0) (.slice none 0 0) (.int .i64 0) (.int .i64 0)
    rwa [World.size_alloc] at this
  have hsK : K0.heap.size = w.heap.size + 2 := by rw [hK0]; simp
  have hwc : d.waits.length ≤ wc := h2.2.1
  obtain ⟨hcut, hS2⟩ := cut_h (P := Try.prog) 46 87 2 Try.underlying46 size_rw .i64 WA d.waits.length wc k (by omega)
  have HK := Lib.hid hk; clear hk
  rw [hK0] at hb0 B0 B1 hsK
  clear hK0
  go_enter Try.func25, Try.ntmps25
  go_wp2_with (go_at_call 44; refine (P1 _).mono ?_; rintro e w' ⟨rfl, rfl⟩)
  obtain ⟨W, hW⟩ : ∃ W, W = ((w.alloc (.cells #[.slice LA d.lasts.length lc, .slice WA d.waits.length wc, .int .i64 d.steps, .int .i64 d.armed] 48)).alloc (.cells #[.slice none 0 0, .slice none 0 0, .int .i64 0, .int .i64 0] 48)) := ⟨_, rfl⟩
  rw [← hW] at hb0 B0 B1 hsK ⊢
  clear hW
  obtain ⟨q0, q1, q2, q3, qf⟩ := B0.cells
  refine still_tail 7 (by kernel_rfl) (by kernel_rfl) ?_
  simp only [List.take_succ_cons, List.take_zero, List.drop_succ_cons, List.drop_zero]
  repeat still_step
  refine wpStill_nil ?_
  go_wp2_with fail
  have hdr : Below W.heap.size W W.drew := ⟨rfl, rfl, rfl, Nat.le_refl _, fun _ _ => rfl⟩
  have hbW := hb0.trans (hdr.mono hb0.size)
  have hl1 : (d.waits.take k).length = k := by rw [List.length_take]; omega
  have hr1 : RefV W.drew T (.agg #[.slice LA d.lasts.length lc, .slice WA k wc, .int .i64 0, .int .i64 0]) { d with waits := d.waits.take k, steps := 0, armed := 0 } := by
    refine ⟨LA, lc, WA, wc, wcs.take (k * 2), by simp only [hl1], Sl.move h1 (Mv.of_below hbW _), ?_, ?_⟩
    · simp only [hl1]; exact Sl.move (hS2 w T wcs hkm h2) (Mv.of_below hbW _)
    · exact (h3.take k hkm).imp (fun _ _ h => h.move (Mv.of_below hbW _))
  have hft : ∀ x, x ∈ d.waits.take k → x.1 + x.2.length ≤ d.lasts.length := fun x hx => hfit x (List.mem_of_mem_take hx)
  have hll := layAll_length (d.waits.take k) d.lasts hft
  refine (stands_ref _ _ _ hr1 h0 hN (by simp only [hl1]; omega) hft).mono ?_
  rintro e w2 ⟨A2, c2, rfl, hown2, hb2⟩
  simp only [hll] at hown2 ⊢
  have hb2 : Below W.heap.size W w2 := hdr.trans hb2
  have hbw2 := hb0.trans (hb2.mono hb0.size)
  have C0 := B0.below hb2
  have C1 := B1.below hb2
  obtain ⟨r0, r1, r2, r3, rf⟩ := C0.cells
  clear q0 q1 q2 q3 qf B0 B1 hr1 hbW hdr
  have hs2 := hb2.size
  have hby2 : By w2 (fun k => W.heap.size ≤ k) A2 d.lasts.length c2 (layAll d.lasts (d.waits.take k)) := Sl.from_own hown2
  by_cases hlt : k < d.waits.length
  · have hlt' : (k : Int) < d.waits.length := by omega
    obtain ⟨a, B, bc, rfl, hT, hal, e1, e2, hby⟩ := RefV.wr_at h2 h3 hlt
    have f1 := (hbw2.cell (p := a.add (k * 2)) (by rw [add_block]; exact hal)).trans e1
    have f2 := (hbw2.cell (p := a.add (k * 2 + 1)) (by rw [add_block]; exact hal)).trans e2
    have f2' := cell_fld f2
    obtain ⟨at_, hat⟩ : ∃ at_, at_ = d.waits[k].1 := ⟨_, rfl⟩
    obtain ⟨b, hbe⟩ : ∃ b, b = d.waits[k].2 := ⟨_, rfl⟩
    have hf := hfit _ (List.getElem_mem hlt)
    rw [← hat] at f1 hf
    rw [← hbe] at f2 f2' hby hf
    obtain ⟨t, ht⟩ : ∃ t, t = pick torn b.length := ⟨_, rfl⟩
    have htb := pick_le torn b.length
    have P2 := fun W => pick_ref W torn b.length (by omega)
    rw [← ht] at htb P2
    have hbc : b.length ≤ bc := hby.2.1
    obtain ⟨hcut5, hS5⟩ := cut_h (P := Try.prog) 38 5 1 Try.underlying38 size_u8 .i64 B b.length bc t (by omega)
    have HAT := Lib.hid hat; clear hat
    have HBE := Lib.hid hbe; clear hbe
    have HT := Lib.hid ht; clear ht
    clear e1 e2
    go_wp2_with fail
    obtain ⟨V, hV⟩ : ∃ V, V = w2.alloc (.cells #[.int .i64 (at_ : Int), .slice B b.length bc] 87) := ⟨_, rfl⟩
    rw [← hV]
    have v0 : V.cell? ⟨w2.heap.size, 0, none⟩ = some (.int .i64 (at_ : Int)) := by rw [hV]; simp [go_sem]
    have v1 : V.cell? ⟨w2.heap.size, 1, none⟩ = some (.slice B b.length bc) := by rw [hV]; simp [go_sem]
    have vf : V.frozen? ⟨w2.heap.size, 1, none⟩ = false := by rw [hV]; simp [go_sem]
    have hbV : Below w2.heap.size w2 V := by rw [hV]; exact (Below.refl _ _).alloc (Nat.le_refl _) _
    have hsV : V.heap.size = w2.heap.size + 1 := by rw [hV]; simp
    clear hV
    refine wp_region_noPanic ?_
    refine mix_tail 6 8 (fun w' => w'.cell? ⟨w2.heap.size, 1, none⟩ = some (.slice B b.length bc)) (by kernel_rfl) (by kernel_rfl) (fun _ _ _ _ _ h => h) v1 ?_
    simp only [List.take_succ_cons, List.take_zero, List.drop_succ_cons, List.drop_zero]
    refine rd_step (.pointer (some ⟨w2.heap.size, 1, none⟩)) rfl (fun W h1 => by simp [go_sem]) ?_
    refine rd_step (.slice B b.length bc) rfl (fun W h1 => by simp [go_sem, h1]) ?_
    refine rd_step (.int .i64 torn) rfl (fun W h1 => by simp [go_sem]) ?_
    refine rd_step (.pointer (some ⟨w2.heap.size, 1, none⟩)) rfl (fun W h1 => by simp [go_sem]) ?_
    refine rd_step (.slice B b.length bc) rfl (fun W h1 => by simp [go_sem, h1]) ?_
    refine rd_step (.int .i64 (b.length : Int)) rfl (fun W h1 => by simp [go_sem]) ?_
    refine rd_nil ?_
    refine tail_step rfl (fun K hK => ?_)
    go_simp
    refine (P2 _).mono ?_
    rintro e w' ⟨rfl, rfl⟩
    refine hK _ _ (fun _ => v1) ?_
    clear hK K
    refine tail_step rfl (fun K hK => ?_)
    go_simp
    refine hK _ _ (fun _ => v1) ?_
    clear hK K
    refine tail_late (k := 0) (by decide) ?_
    go_wp2
    refine NoPanic.normal ?_
    go_wp2_with fail
    have hbX : Below w2.heap.size w2 (V.setCell ⟨w2.heap.size, 1, none⟩ (.slice B t bc)).drew := (hbV.setCell (p := ⟨w2.heap.size, 1, none⟩) (Nat.le_refl _) _).drew
    have hbwX := hbw2.trans (hbX.mono hbw2.size)
    have hbyX := Sl.move (hS5 w T (bv b) htb hby) (Mv.of_below hbwX _)
    have hbyX' : By (V.setCell ⟨w2.heap.size, 1, none⟩ (.slice B t bc)).drew T B t bc (b.take t) := by simpa [By, bv, List.map_take] using hbyX
    refine (laid_ref _ A2 d.lasts.length c2 _ at_ B t bc _ (Sl.move hby2 (Mv.of_below hbX _)) hbyX' h0 hN (by omega)).mono ?_
    rintro e w3 ⟨A3, c3, rfl, hown3, hb3⟩
    have hbw3 := hbwX.trans (hb3.mono hbwX.size)
    obtain ⟨s0, s1, s2, s3, sf⟩ := ((C1.below hbX).below hb3).cells
    have hsX : (V.setCell ⟨w2.heap.size, 1, none⟩ (.slice B t bc)).drew.heap.size = V.heap.size := by simp [World.setCell]
    rw [hsX] at hown3
    clear r0 r1 r2 r3 rf f1 f2 f2' v0 v1 vf
    go_wp2
    have hbe := below_set4 hbw3 (w.heap.size + 1) (by omega) (.slice A3 d.lasts.length c3) (.slice none 0 0) (.int .i64 0) (.int .i64 (-1))
    have hcr : layAll d.lasts (tornOf d.waits keep torn) = lay (layAll d.lasts (d.waits.take k)) at_ (b.take t) := by
      rw [torn_lt _ keep torn k HK.out hlt, layAll_snoc, HAT.out, HBE.out, HT.out, HBE.out]
    have hlc : (lay (layAll d.lasts (d.waits.take k)) at_ (b.take t)).length = d.lasts.length := by
      rw [lay_length _ _ _ (by rw [hll, List.length_take]; omega), hll]
    refine bodyPost_ret (v := rv A3 d.lasts.length c3 none 0 0 0 (-1)) (by rw [results_cell1 rfl]; simp [go_sem, asAddr, rv, s0, s1, s2, s3]) rfl ⟨hbe, _, rfl, A3, c3, none, 0, [], ?_, ?_, Sl.nil _ _ _, Rws.nil _ _⟩
    · simp [rv, Dk.crash, Dk.of, hcr, hlc]
    · simp only [Dk.crash, Dk.of, hcr, hlc]
      have h3 : By w3 (fun k => V.heap.size ≤ k) A3 d.lasts.length c3 (lay (layAll d.lasts (d.waits.take k)) at_ (b.take t)) := Sl.from_own hown3
      exact Sl.mono (Sl.move h3 (Mv.setCell4 _ (w.heap.size + 1) (by omega) _ _ _ _)) (fun k _ h => by omega)
  · have hlt' : ¬ (k : Int) < d.waits.length := by omega
    obtain ⟨s0, s1, s2, s3, sf⟩ := C1.cells
    go_wp2
    have hbe := below_set4 hbw2 (w.heap.size + 1) (by omega) (.slice A2 d.lasts.length c2) (.slice none 0 0) (.int .i64 0) (.int .i64 (-1))
    refine bodyPost_ret (v := rv A2 d.lasts.length c2 none 0 0 0 (-1)) (by rw [results_cell1 rfl]; simp [go_sem, asAddr, rv, s0, s1, s2, s3]) rfl ⟨hbe, _, rfl, A2, c2, none, 0, [], ?_, ?_, Sl.nil _ _ _, Rws.nil _ _⟩
    · simp [rv, Dk.crash, Dk.of, torn_all _ keep torn k HK.out hlt, hll]
    · simp only [Dk.crash, Dk.of, torn_all _ keep torn k HK.out hlt, hll]
      exact Sl.mono (Sl.move hby2 (Mv.setCell4 _ (w.heap.size + 1) (by omega) _ _ _ _)) (fun k _ h => by omega)
end Go.Proofs.Ytmajfiljajbipaa
