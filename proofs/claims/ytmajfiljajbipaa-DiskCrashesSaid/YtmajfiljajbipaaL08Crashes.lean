/- DiskCrashes: the walk. -/
import Derived.Test.YtmajfiljajbipaaPlayed08
import Derived.Test.YtmajfiljajbipaaRef6
import Derived.Deep.CutRange
set_option linter.unusedVariables false
set_option linter.unusedSimpArgs false
namespace Go.Proofs.Ytmajfiljajbipaa
open Go.RowKit

theorem Both.kp {w w1 : World} {S T M : Nat → Prop} {p : Nat} {v : Value} {d : Dk} (h : Both w S T p v d) (hk : Kp M w w1) (hS : ∀ k, S k → ¬ M k) (hT : ∀ k, T k → ¬ M k) : Both w1 S T p v d :=
  { dsk := h.dsk.move hk hS, tl := fun k ht => Nat.lt_of_lt_of_le (h.tl k ht) hk.size, ref := RefV.kpA h.ref hk (fun k _ ht => hT k ht), ap := h.ap, now := h.now }
theorem Both.below {w w1 : World} {S T : Nat → Prop} {p : Nat} {v : Value} {d : Dk} (h : Both w S T p v d) (hb : Below w.heap.size w w1) : Both w1 S T p v d := h.kp (Kp.of_below hb No) (fun _ _ h => h) (fun _ _ h => h)

/-- What a call of act leaves, with its answer in a box of its own. -/
def ActPost (wr : World) (U V : Nat → Prop) (q : Nat) (d : Dk) (s16 s17 : Value) (wx : World) : Prop :=
  ∃ (U' V' : Nat → Prop) (LA : Option Addr) (lc : Nat) (WA : Option Addr) (wc : Nat) (B : Nat), s16 = .pointer (some ⟨B, 0, none⟩) ∧ s17 = .bool true ∧ Both wx U' V' q (rv LA d.lasts.length lc WA d.waits.length wc d.steps d.armed) d ∧ Kp U wr wx ∧
    (∀ k, U' k → U k ∨ wr.heap.size ≤ k) ∧ (∀ k, V' k → V k ∨ wr.heap.size ≤ k) ∧ Box4 wx B (.slice LA d.lasts.length lc) (.slice WA d.waits.length wc) (.int .i64 d.steps) (.int .i64 d.armed) ∧ wr.heap.size ≤ B
theorem actPost_alloc {wr w5 : World} {U V U5 V5 : Nat → Prop} {q : Nat} {d : Dk} {LA WA : Option Addr} {lc wc : Nat} (hbo : Both w5 U5 V5 q (rv LA d.lasts.length lc WA d.waits.length wc d.steps d.armed) d) (hk : Kp U wr w5) (hU : ∀ k, U5 k → U k ∨ wr.heap.size ≤ k) (hV : ∀ k, V5 k → V k ∨ wr.heap.size ≤ k) :
    ActPost wr U V q d (.pointer (some ⟨w5.heap.size, 0, none⟩)) (.bool true) (w5.alloc (.cells #[.slice LA d.lasts.length lc, .slice WA d.waits.length wc, .int .i64 d.steps, .int .i64 d.armed] 48)) :=
  ⟨U5, V5, LA, lc, WA, wc, w5.heap.size, rfl, rfl, hbo.below ((Below.refl _ _).alloc (Nat.le_refl _) _), hk.alloc _, hU, hV, Box4.new _ _ _ _ _, hk.size⟩
theorem actPost_store {wr w5 : World} {U V U5 V5 : Nat → Prop} {q B : Nat} {d : Dk} {LA WA : Option Addr} {lc wc : Nat} {a b c e : Value} (hbo : Both w5 U5 V5 q (rv LA d.lasts.length lc WA d.waits.length wc d.steps d.armed) d) (hk : Kp U wr w5) (hU : ∀ k, U5 k → U k ∨ B < k) (hV : ∀ k, V5 k → V k ∨ B < k)
    (hB : wr.heap.size ≤ B) (hUB : ¬ U B) (hVB : ¬ V B) (hb4 : Box4 w5 B a b c e) :
    ActPost wr U V q d (.pointer (some ⟨B, 0, none⟩)) (.bool true) ((((w5.setCell ⟨B, 0, none⟩ (.slice LA d.lasts.length lc)).setCell ⟨B, 1, none⟩ (.slice WA d.waits.length wc)).setCell ⟨B, 2, none⟩ (.int .i64 d.steps)).setCell ⟨B, 3, none⟩ (.int .i64 d.armed)) := by
  have hkF := (((((Kp.refl (fun b => b = B) w5).setCell (p := ⟨B, 0, none⟩) (.inl rfl) (.slice LA d.lasts.length lc)).setCell (p := ⟨B, 1, none⟩) (.inl rfl) (.slice WA d.waits.length wc)).setCell (p := ⟨B, 2, none⟩) (.inl rfl) (.int .i64 d.steps)).setCell (p := ⟨B, 3, none⟩) (.inl rfl) (.int .i64 d.armed))
  refine ⟨U5, V5, LA, lc, WA, wc, B, rfl, rfl, hbo.kp hkF (fun k h e => ?_) (fun k h e => ?_), ((((hk.setCell (.inr hB) _).setCell (.inr hB) _).setCell (.inr hB) _).setCell (.inr hB) _), fun k h => (hU k h).imp id (fun h => by omega), fun k h => (hV k h).imp id (fun h => by omega), hb4.put4 _ _ _ _, hB⟩
  · subst e; exact (hU _ h).elim hUB (Nat.lt_irrefl _)
  · subst e; exact (hV _ h).elim hVB (Nat.lt_irrefl _)

set_option maxRecDepth 100000 in
set_option maxHeartbeats 4000000 in
/-- The law's main way: size in range, both scripts few. -/
theorem crashes_main (w : World) (n : Nat) (h1 : 1 ≤ n) (h2 : n ≤ 400) (A : Option Addr) (c : Nat) (xs : List Act8) (hs : Script w A c xs) (keep torn : Int) (A2 : Option Addr) (c2 : Nat) (ys : List Act8) (hs2 : Script w A2 c2 ys)
    (hl : xs.length ≤ 9223372036854775807) (hl2 : ys.length ≤ 9223372036854775807) :
    Calls Try.prog 6 #[.int .i64 (n : Int), .slice A xs.length c, .agg #[.int .i64 keep, .int .i64 torn], .slice A2 ys.length c2] w fun e w' => e = .returned (.bool true) ∧ Below w.heap.size w w' := by
  have g1 : ¬ (n : Int) < 1 := by omega
  have g2 : ¬ (400 : Int) < n := by omega
  have hb0 : Below w.heap.size w (w.alloc (.cells #[.int .i64 keep, .int .i64 torn] 36)) := (Below.refl _ _).alloc (Nat.le_refl _) _
  have F := few_any _ A c xs (hs.below hb0) hl
  have F2 := few_any _ A2 c2 ys (hs2.below hb0) hl2
  go_enter Try.func6, Try.ntmps6
  go_wp2_with fail
  refine F.mono ?_
  rintro e w' ⟨rfl, r, rfl, hr⟩
  cases r with
  | false =>
    go_wp2_with (go_at_call 12; refine (works_ok _).mono ?_; rintro e w1 ⟨rfl, hb⟩)
    go_ret
    exact ⟨rfl, hb0.trans (hb.mono hb0.size)⟩
  | true =>
    obtain ⟨h50, h3⟩ := hr rfl
    go_wp2_with fail
    refine F2.mono ?_
    rintro e w' ⟨rfl, r, rfl, hr2⟩
    cases r with
    | false =>
      go_wp2_with (go_at_call 12; refine (works_ok _).mono ?_; rintro e w1 ⟨rfl, hb⟩)
      go_ret
      exact ⟨rfl, hb0.trans (hb.mono hb0.size)⟩
    | true =>
      obtain ⟨h502, h32⟩ := hr2 rfl
      go_wp2_with fail
      refine (played_ok _ n h1 h2 A c xs (hs.below hb0) h50 h3).mono ?_
      rintro e w1 ⟨p, S, T, v, d, rfl, hbo, hde, hdw, hb1, hSx⟩
      clear hde
      have c0 : (w.alloc (.cells #[.int .i64 keep, .int .i64 torn] 36)).cell? ⟨w.heap.size, 0, none⟩ = some (.int .i64 keep) := by simp [go_sem]
      have c1 : (w.alloc (.cells #[.int .i64 keep, .int .i64 torn] 36)).cell? ⟨w.heap.size, 1, none⟩ = some (.int .i64 torn) := by simp [go_sem]
      have hs0 : (w.alloc (.cells #[.int .i64 keep, .int .i64 torn] 36)).heap.size = w.heap.size + 1 := by simp
      rw [hs0] at hSx
      have hs1 : w.heap.size + 1 ≤ w1.heap.size := by have := hb1.size; omega
      have hbw1 := hb0.trans (hb1.mono hb0.size)
      obtain ⟨LA, lc, WA, wc, wcs, rfl, _, _, _⟩ := id hbo.ref
      obtain ⟨W1, hW1⟩ : ∃ W1, W1 = w1.alloc (.cells #[.slice LA d.lasts.length lc, .slice WA d.waits.length wc, .int .i64 d.steps, .int .i64 d.armed] 48) := ⟨_, rfl⟩
      have hbW : Below w1.heap.size w1 W1 := by rw [hW1]; exact (Below.refl _ _).alloc (Nat.le_refl _) _
      have BW : Box4 W1 w1.heap.size (.slice LA d.lasts.length lc) (.slice WA d.waits.length wc) (.int .i64 d.steps) (.int .i64 d.armed) := by rw [hW1]; exact Box4.new _ _ _ _ _
      have hsW : W1.heap.size = w1.heap.size + 1 := by rw [hW1]; simp
      have e0 := (hbW.cell (p := ⟨w.heap.size, 0, none⟩) (by simp; omega)).trans ((hb1.cell (p := ⟨w.heap.size, 0, none⟩) (by simp)).trans c0)
      have e1 := (hbW.cell (p := ⟨w.heap.size, 1, none⟩) (by simp; omega)).trans ((hb1.cell (p := ⟨w.heap.size, 1, none⟩) (by simp)).trans c1)
      have hboW := hbo.below hbW
      rw [hW1] at e0 e1
      have HW := Lib.hid hW1; clear hW1
      go_wp2_with fail
      rw [← HW.out] at e0 e1 ⊢
      refine (crash_S hboW.dsk keep torn (by omega)).mono ?_
      rintro e w2 ⟨q, Sq, rfl, hdq, hSq, hb2⟩
      have e0 := (hb2.cell (p := ⟨w.heap.size, 0, none⟩) (by simp; omega)).trans e0
      have e1 := (hb2.cell (p := ⟨w.heap.size, 1, none⟩) (by simp; omega)).trans e1
      have hbo2 := hboW.below hb2
      obtain ⟨hp, hbig, hsame, hfit⟩ := hbo2.dsk.props
      have CR := crash_ref w2 _ d hbo2.ref (by omega) (by omega) (by omega) (by rw [hsame]; exact hfit) keep torn
      have B2 := BW.below hb2
      obtain ⟨q0, q1, q2, q3, qf⟩ := B2.cells
      have HS := Lib.hid hsame; clear hsame
      go_wp2_with fail
      refine CR.mono ?_
      rintro e w3 ⟨hb3, v3, rfl, hr3⟩
      obtain ⟨LB, lcb, WB, wcb, wcsb, rfl, _, _, _⟩ := id hr3
      clear q0 q1 q2 q3 qf
      obtain ⟨dx, hdx⟩ : ∃ dx, dx = d.crash keep torn := ⟨_, rfl⟩
      have hdxn : dx.now = layAll dx.lasts dx.waits := by rw [hdx]; rfl
      have hdxw : dx.waits.length = 0 := by rw [hdx]; rfl
      rw [← hdx] at hdq hr3 ⊢
      have HDX := Lib.hid hdx; clear hdx
      obtain ⟨W3, hW3⟩ : ∃ W3, W3 = w3.alloc (.cells #[.slice LB dx.lasts.length lcb, .slice WB dx.waits.length wcb, .int .i64 dx.steps, .int .i64 dx.armed] 48) := ⟨_, rfl⟩
      have hbW3 : Below w3.heap.size w3 W3 := by rw [hW3]; exact (Below.refl _ _).alloc (Nat.le_refl _) _
      have B14 : Box4 W3 w3.heap.size (.slice LB dx.lasts.length lcb) (.slice WB dx.waits.length wcb) (.int .i64 dx.steps) (.int .i64 dx.armed) := by rw [hW3]; exact Box4.new _ _ _ _ _
      have hsW3 : W3.heap.size = w3.heap.size + 1 := by rw [hW3]; simp
      have hz2 := hb2.size
      have hz3 := hb3.size
      have hql := hdq.1
      have hbx : Both W3 Sq (fun k => w2.heap.size ≤ k ∧ k < w3.heap.size) q (rv LB dx.lasts.length lcb WB dx.waits.length wcb dx.steps dx.armed) dx :=
        { dsk := (hdq.below hb3).below hbW3, tl := fun k h => by omega, ref := RefV.below (hr3.mono (T1 := fun k => w2.heap.size ≤ k ∧ k < w3.heap.size) (fun k hk ho => ⟨ho, hk⟩)) hbW3, ap := fun k h hs => by have := hql k hs; omega, now := hdxn }
      have hboW3 := (hbo2.below hb3).below hbW3
      have HXW := Lib.hid hdxw; clear hdxw
      have HXN := Lib.hid hdxn; clear hdxn
      have IS := is_true W3 q _ dx hbx.dsk hbx.ref (by rw [HXW.out]; omega) HXN.out
      rw [hW3] at IS
      have HW3 := Lib.hid hW3; clear hW3
      go_wp2_with (first | (go_at_call 17; refine (num_any _ _).mono ?_; rintro e w' ⟨rfl, rfl⟩) | (go_at_call 26; refine IS.mono ?_; rintro e w4 ⟨rfl, hb4⟩))
      clear e0 e1 IS
      rw [← HW3.out] at hb4
      have hz4 := hb4.size
      have hbw2 := (hbw1.trans (hbW.mono hbw1.size)).trans (hb2.mono (by omega))
      have hbw3 := (hbw2.trans (hb3.mono hbw2.size)).trans (hbW3.mono (by omega))
      have hbw4 := hbw3.trans (hb4.mono hbw3.size)
      have hbx4 := hbx.below hb4
      have hboD := hboW3.below hb4
      have B10 := ((B2.below hb3).below hbW3).below hb4
      have B14 := B14.below hb4
      have hSd := hbo.dsk.1
      have hTd := hbo.tl
      go_loopw [15] (fun i wr => ∃ (k : Nat) (d2 : Dk) (U V : Nat → Prop) (LA2 : Option Addr) (lc2 : Nat) (WA2 : Option Addr) (wc2 : Nat), k ≤ ys.length ∧ i = .int .i64 k ∧ Both wr U V q (rv LA2 d2.lasts.length lc2 WA2 d2.waits.length wc2 d2.steps d2.armed) d2 ∧
          d2.waits.length ≤ k ∧ Below w.heap.size w wr ∧ w3.heap.size < wr.heap.size ∧ (∀ k, U k → w1.heap.size < k ∧ k ≠ w3.heap.size) ∧ (∀ k, V k → k ≠ w3.heap.size) ∧
          Both wr S T p (rv LA d.lasts.length lc WA d.waits.length wc d.steps d.armed) d ∧ Box4 wr w1.heap.size (.slice LA d.lasts.length lc) (.slice WA d.waits.length wc) (.int .i64 d.steps) (.int .i64 d.armed) ∧
          Box4 wr w3.heap.size (.slice LA2 d2.lasts.length lc2) (.slice WA2 d2.waits.length wc2) (.int .i64 d2.steps) (.int .i64 d2.armed))
        (fun i _ => ys.length - (intOf i).toNat)
      case atStart => exact ⟨0, dx, Sq, _, LB, lcb, WB, wcb, Nat.zero_le _, rfl, hbx4, by rw [HXW.out]; exact Nat.le_refl _, hbw4, by omega, fun k h => by have := hSq k h; have := hql k h; omega, fun k h => by omega, hboD, B10, B14⟩
      case round =>
        clear B10 B14 hboD hbx4
        obtain ⟨k, d2, U, V, LA2, lc2, WA2, wc2, hk, rfl, hbo2, hdw2, hb, hlt3, hU, hV, hboD, hB10, hB14⟩ := hrel
        by_cases hlt : k < ys.length
        · have hlt' : (k : Int) < ys.length := by omega
          go_upto_region 11 with fail
          obtain ⟨a, B, bc, rfl, q0, q1, q2, q3, hby, _, _⟩ := hs2.at_ hlt
          have ha := World.block_lt_of_cell? w _ q0
          have hbm := h32 ys[k] (List.getElem_mem hlt)
          obtain ⟨x, hx⟩ : ∃ x, x = ys[k] := ⟨_, rfl⟩
          rw [← hx] at q0 q1 q2 q3 hby hbm
          clear hx
          have hdr : Below w.heap.size w wr.drew := ⟨hb.os, hb.tape, hb.output, hb.size, hb.block⟩
          have hdr0 : Below wr.heap.size wr wr.drew := ⟨rfl, rfl, rfl, Nat.le_refl _, fun _ _ => rfl⟩
          have hbd := hbo2.below hdr0
          have hUl := hbo2.dsk.1
          have hVl := hbo2.tl
          have hbz := hb.size
          go_cut [16, 17] from 67 to 85 (fun s16 s17 wx => ActPost wr U V q (d2.act x) s16 s17 wx)
          case first =>
            refine wp_region_noPanic ?_
            refine plan (.rd 0 (.rd 1 (.rd 2 (.rd 3 (.rd 4 (.rd 5 (.two 6 (.rd 7 (.rd 8 (.rd 9 (.eff 10 (.eff 11 (.eff 12 .done)))))) 10 (.eff 6 (.rd 7 (.rd 8 (.rd 9 (.eff 11 (.eff 12 .done))))))))))))) [0, 1, 2, 3, 4, 5, 6, 7, 8, 9, 10, 11, 12] (fun W => Below w.heap.size w W ∧ Box4 W w3.heap.size (.slice LA2 d2.lasts.length lc2) (.slice WA2 d2.waits.length wc2) (.int .i64 d2.steps) (.int .i64 d2.armed)) (by kernel_rfl) (by kernel_rfl) (fun _ _ _ _ _ h => h) ⟨hdr, hB14⟩ ?_
            repeat (refine pl_pure rfl (fun K hK => ?_); go_simp; refine hK _ ?_; clear hK K)
            refine pl_rd (rv LA2 d2.lasts.length lc2 WA2 d2.waits.length wc2 d2.steps d2.armed) rfl rfl (fun W hS => ?_) (fun K hK => ?_)
            · obtain ⟨b0, b1, b2, b3, bf⟩ := hS.2.cells
              simp [go_sem, rv, b0, b1, b2, b3]
            go_simp
            refine hK _ ?_
            clear hK K
            repeat (refine pl_pure rfl (fun K hK => ?_); go_simp; refine hK _ ?_; clear hK K)
            refine pl_rd (.agg #[.int .i64 x.what, .int .i64 x.at_, .int .i64 x.n, .slice B x.b.length bc]) rfl rfl (fun W hS => ?_) (fun K hK => ?_)
            · have f0 := (hS.1.cell (p := a.add (k * 4)) ha).trans q0
              have f1 := (hS.1.cell (p := a.add (k * 4 + 1)) (by rw [add_block] at ha ⊢; exact ha)).trans q1
              have f2 := (hS.1.cell (p := a.add (k * 4 + 2)) (by rw [add_block] at ha ⊢; exact ha)).trans q2
              have f3 := (hS.1.cell (p := a.add (k * 4 + 3)) (by rw [add_block] at ha ⊢; exact ha)).trans q3
              have f1' := cell_fldn (by omega) f1
              have f2' := cell_fldn (by omega) f2
              have f3' := cell_fldn (by omega) f3
              simp [go_sem, f0, f1, f2, f3, f1', f2', f3']
            go_simp
            refine hK _ ?_
            clear hK K
            have hUo : ∀ k, k < w.heap.size → k < wr.heap.size → ¬ U k := fun k h1 _ h => by have := (hU k h).1; omega
            have hbyd : By wr.drew (fun k => k < w.heap.size) B x.b.length bc x.b := Sl.mono (Sl.move (Sl.mono hby (ok1 := fun k => k < w.heap.size) (fun k hk _ => hk)) (Mv.of_below hdr _)) (fun _ _ h => h)
            refine pl_two (pl_op rfl rfl (fun K hK => ?_)) (pl_op rfl rfl (fun K hK => ?_))
            · go_simp
              refine (act_any (okb := fun k => k < w.heap.size) wr.drew q (rv LA2 d2.lasts.length lc2 WA2 d2.waits.length wc2 d2.steps d2.armed) d2 hbd x B bc hbyd (by omega) (by omega) hUo).mono ?_
              rintro e w5 ⟨U5, V5, v5, rfl, hbo5, hk5, hU5, hV5⟩
              have hk5 : Kp U wr w5 := ⟨hk5.os, hk5.tape, hk5.output, hk5.size, hk5.block⟩
              have hU5 : ∀ k, U5 k → U k ∨ wr.heap.size ≤ k := hU5
              have hV5 : ∀ k, V5 k → V k ∨ wr.heap.size ≤ k := hV5
              have hbw5 := chg_below hb hk5 hb.size (fun k h => by have := (hU k h).1; omega)
              have B5 := hB14.keep hk5 (fun h => (hU _ h).2 rfl)
              obtain ⟨LA5, lc5, WA5, wc5, wcs5, rfl, _, _, _⟩ := id hbo5.ref
              refine hK _ _ (fun _ => ⟨hbw5, B5⟩) ?_
              clear hK K
              repeat (refine pl_pure rfl (fun K hK => ?_); go_simp; refine hK _ ?_; clear hK K)
              refine pl_eff rfl rfl (fun K hK => ?_)
              go_simp
              refine hK _ _ (fun _ => ⟨hbw5.alloc hbw5.size _, B5.alloc _⟩) ?_
              clear hK K
              refine pl_eff rfl rfl (fun K hK => ?_)
              go_simp
              refine hK _ _ (fun _ => ⟨hbw5.alloc hbw5.size _, B5.alloc _⟩) ?_
              clear hK K
              refine pl_eff rfl rfl (fun K hK => ?_)
              go_simp
              refine hK _ _ (fun _ => ⟨hbw5.alloc hbw5.size _, B5.alloc _⟩) ?_
              clear hK K
              refine pl_done ?_
              refine NoPanic.normal ?_
              go_wp2_with fail
              go_meet
              exact actPost_alloc hbo5 hk5 hU5 hV5
            · go_simp
              obtain ⟨Y, hY⟩ : ∃ Y, Y = wr.alloc (.cells #[.slice none 0 0, .slice none 0 0, .int .i64 0, .int .i64 0] 48) := ⟨_, rfl⟩
              have hYd : Y.drew = wr.drew.alloc (.cells #[.slice none 0 0, .slice none 0 0, .int .i64 0, .int .i64 0] 48) := by rw [hY]; rfl
              have hbY : Below wr.heap.size wr Y := by rw [hY]; exact (Below.refl _ _).alloc (Nat.le_refl _) _
              have BY : Box4 Y wr.heap.size (.slice none 0 0) (.slice none 0 0) (.int .i64 0) (.int .i64 0) := by rw [hY]; exact Box4.new _ _ _ _ _
              have hsY : Y.heap.size = wr.heap.size + 1 := by rw [hY]; simp
              have hbYd : Below wr.heap.size wr Y.drew := ⟨hbY.os, hbY.tape, hbY.output, hbY.size, hbY.block⟩
              have hbwY : Below w.heap.size w Y.drew := hb.trans (hbYd.mono hb.size)
              have B14Y := hB14.below hbYd
              rw [← hY]
              refine hK _ _ (fun _ => ⟨hbwY, B14Y⟩) ?_
              clear hK K hY hYd
              refine pl_eff rfl rfl (fun K hK => ?_)
              go_simp
              refine (act_any (okb := fun k => k < w.heap.size) Y.drew q (rv LA2 d2.lasts.length lc2 WA2 d2.waits.length wc2 d2.steps d2.armed) d2 (hbo2.below hbYd) x B bc (Sl.mono (Sl.move (Sl.mono hby (ok1 := fun k => k < w.heap.size) (fun k hk _ => hk)) (Mv.of_below hbwY _)) (fun _ _ h => h)) (by omega) (by omega) (fun k h1 _ h => by have := (hU k h).1; omega)).mono ?_
              rintro e w5 ⟨U5, V5, v5, rfl, hbo5, hk5, hU5, hV5⟩
              have hk5' : Kp U wr w5 := ((Kp.of_below hbYd U).trans hk5 (fun _ _ h => h))
              have hU6 : ∀ k, U5 k → U k ∨ wr.heap.size < k := fun k h => (hU5 k h).imp id (fun h => by have : Y.heap.size ≤ k := h; omega)
              have hV6 : ∀ k, V5 k → V k ∨ wr.heap.size < k := fun k h => (hV5 k h).imp id (fun h => by have : Y.heap.size ≤ k := h; omega)
              have hbw5 := chg_below hb hk5' hb.size (fun k h => by have := (hU k h).1; omega)
              have B5 := hB14.keep hk5' (fun h => (hU _ h).2 rfl)
              have hUn : ¬ U wr.heap.size := fun h => Nat.lt_irrefl _ (hUl _ h)
              have hVn : ¬ V wr.heap.size := fun h => Nat.lt_irrefl _ (hVl _ h)
              have C5 : Box4 w5 wr.heap.size (.slice none 0 0) (.slice none 0 0) (.int .i64 0) (.int .i64 0) := Box4.keep (w := Y.drew) BY hk5 hUn
              obtain ⟨LA5, lc5, WA5, wc5, wcs5, rfl, _, _, _⟩ := id hbo5.ref
              refine hK _ _ (fun _ => ⟨hbw5, B5⟩) ?_
              clear hK K
              repeat (refine pl_pure rfl (fun K hK => ?_); go_simp; refine hK _ ?_; clear hK K)
              obtain ⟨b0, b1, b2, b3, bf⟩ := C5.cells
              have hs5 := hk5'.size
              refine pl_eff rfl rfl (fun K hK => ?_)
              go_simp
              refine hK _ _ (fun _ => ⟨below_set4 hbw5 wr.heap.size (by omega) _ _ _ _, B5.set4 (by omega) _ _ _ _⟩) ?_
              clear hK K
              refine pl_eff rfl rfl (fun K hK => ?_)
              go_simp
              refine hK _ _ (fun _ => ⟨below_set4 hbw5 wr.heap.size (by omega) _ _ _ _, B5.set4 (by omega) _ _ _ _⟩) ?_
              clear hK K
              refine pl_done ?_
              refine NoPanic.normal ?_
              go_wp2_with fail
              go_meet
              exact actPost_store hbo5 hk5' hU6 hV6 (Nat.le_refl _) hUn hVn C5
          case rest =>
            obtain ⟨U5, V5, LA5, lc5, WA5, wc5, B16, rfl, rfl, hbo5, hk5, hU5, hV5, hB16, hB16l⟩ := hcut
            have hbw5 := chg_below hb hk5 hb.size (fun k h => by have := (hU k h).1; omega)
            have B14c := hB14.keep hk5 (fun h => (hU _ h).2 rfl)
            have B10c := hB10.keep hk5 (fun h => Nat.lt_irrefl _ (hU _ h).1)
            have hboc := hboD.kp hk5 (fun k h e => by have := hSd k h; have := (hU k e).1; omega) (fun k h e => by have := hTd k h; have := (hU k e).1; omega)
            have hs5 := hk5.size
            obtain ⟨b0, b1, b2, b3, bf⟩ := hB16.cells
            obtain ⟨c0, c1, c2, c3, cf⟩ := B14c.cells
            have hw5 := act_waits d2 x
            have hkF := (((((Kp.refl (fun b => b = w3.heap.size) wc).setCell (p := ⟨w3.heap.size, 0, none⟩) (.inl rfl) (.slice LA5 (d2.act x).lasts.length lc5)).setCell (p := ⟨w3.heap.size, 1, none⟩) (.inl rfl) (.slice WA5 (d2.act x).waits.length wc5)).setCell (p := ⟨w3.heap.size, 2, none⟩) (.inl rfl) (.int .i64 (d2.act x).steps)).setCell (p := ⟨w3.heap.size, 3, none⟩) (.inl rfl) (.int .i64 (d2.act x).armed))
            go_wp2
            have hU6 : ∀ k, U5 k → w1.heap.size < k ∧ k ≠ w3.heap.size := fun k h => by
              rcases hU5 k h with h1 | h1
              · exact hU k h1
              · omega
            have hV6 : ∀ k, V5 k → k ≠ w3.heap.size := fun k h => by
              rcases hV5 k h with h1 | h1
              · exact hV k h1
              · omega
            refine ⟨⟨k + 1, d2.act x, U5, V5, LA5, lc5, WA5, wc5, hlt, by simp, hbo5.kp hkF (fun k h e => (hU6 k h).2 e) (fun k h e => hV6 k h e), by omega, below_set4 hbw5 w3.heap.size (by omega) _ _ _ _, Nat.lt_of_lt_of_le hlt3 (Nat.le_trans hs5 hkF.size), hU6, hV6, hboc.kp hkF (fun k h e => by have := hSd k h; omega) (fun k h e => by have := hTd k h; omega), B10c.set4 (by omega) _ _ _ _, B14c.put4 _ _ _ _⟩, by simp [intOf]; omega⟩
        · have hlt' : ¬ (k : Int) < ys.length := by omega
          have IS2 := is_true wr q _ d2 hbo2.dsk hbo2.ref (by omega) hbo2.now
          obtain ⟨c0, c1, c2, c3, cf⟩ := hB14.cells
          obtain ⟨b0, b1, b2, b3, bf⟩ := hB10.cells
          go_wp2_with fail
          refine IS2.mono ?_
          rintro e w5 ⟨rfl, hb5⟩
          have hz5 := hb5.size
          have hbw5 := hb.trans (hb5.mono hb.size)
          have IS3 := is_true w5 p _ d (hboD.dsk.below hb5) (RefV.below hboD.ref hb5) (by omega) hboD.now
          obtain ⟨b0, b1, b2, b3, bf⟩ := (hB10.below hb5).cells
          go_wp2_with (first | (go_at_call 26; refine IS3.mono ?_; rintro e w6 ⟨rfl, hb6⟩) | (go_at_call 12; refine (works_ok _).mono ?_; rintro e w7 ⟨rfl, hb7⟩))
          go_ret
          have hbw6 := hbw5.trans (hb6.mono hbw5.size)
          exact ⟨rfl, hbw6.trans (hb7.mono hbw6.size)⟩

theorem crashes_walk (w : World) (size : Int) (A : Option Addr) (c : Nat) (xs : List Act8) (hs : Script w A c xs) (keep torn : Int) (A2 : Option Addr) (c2 : Nat) (ys : List Act8) (hs2 : Script w A2 c2 ys)
    (hl : xs.length ≤ 9223372036854775807) (hl2 : ys.length ≤ 9223372036854775807) :
    Calls Try.prog 6 #[.int .i64 size, .slice A xs.length c, .agg #[.int .i64 keep, .int .i64 torn], .slice A2 ys.length c2] w fun e w' => e = .returned (.bool true) ∧ Below w.heap.size w w' := by
  have hb0 : Below w.heap.size w (w.alloc (.cells #[.int .i64 keep, .int .i64 torn] 36)) := (Below.refl _ _).alloc (Nat.le_refl _) _
  have hcase : size < 1 ∨ (¬ size < 1 ∧ 400 < size) ∨ (¬ size < 1 ∧ ¬ 400 < size) := by omega
  rcases hcase with g1 | ⟨g1, g2⟩ | ⟨g1, g2⟩
  · go_enter Try.func6, Try.ntmps6
    go_wp2_with (go_at_call 12; refine (works_ok _).mono ?_; rintro e w1 ⟨rfl, hb⟩)
    go_ret
    exact ⟨rfl, hb0.trans (hb.mono hb0.size)⟩
  · go_enter Try.func6, Try.ntmps6
    go_wp2_with (go_at_call 12; refine (works_ok _).mono ?_; rintro e w1 ⟨rfl, hb⟩)
    go_ret
    exact ⟨rfl, hb0.trans (hb.mono hb0.size)⟩
  · obtain ⟨n, rfl⟩ : ∃ n : Nat, size = n := ⟨size.toNat, by omega⟩
    exact crashes_main w n (by omega) (by omega) A c xs hs keep torn A2 c2 ys hs2 hl hl2
end Go.Proofs.Ytmajfiljajbipaa
