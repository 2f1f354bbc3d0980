/- The document's disk: laid, Stands. -/
import Derived.Test.YtmajfiljajbipaaRef3
set_option linter.unusedVariables false
set_option linter.unusedSimpArgs false
namespace Go.Proofs.Ytmajfiljajbipaa
open Go.RowKit

theorem lay_step (l : List UInt8) (at_ : Nat) (b : List UInt8) (k : Nat) (hk : k < b.length) (h : at_ + b.length ≤ l.length) : (bv (lay l at_ (b.take k))).set (at_ + k) (.int .u8 (b[k].toNat : Int)) = bv (lay l at_ (b.take (k + 1))) := by
  have e : (lay l at_ (b.take k)).set (at_ + k) b[k] = lay l at_ (b.take (k + 1)) := by
    apply List.ext_getElem?
    intro j
    have h1 : (l.take at_).length = at_ := by rw [List.length_take]; omega
    have h2 : (b.take k).length = k := by rw [List.length_take]; omega
    have h3 : (b.take (k + 1)).length = k + 1 := by rw [List.length_take]; omega
    have hl : (lay l at_ (b.take k)).length = l.length := lay_length _ _ _ (by rw [h2]; omega)
    have hl' := hl
    unfold lay at hl'
    rw [h2] at hl'
    rw [List.getElem?_set]
    unfold lay
    rw [get3 _ _ _ at_ k j h1 h2, get3 _ _ _ at_ (k + 1) j h1 h3, List.getElem?_drop, List.getElem?_drop, h2, h3]
    by_cases c1 : at_ + k = j
    · subst c1
      rw [if_pos rfl, if_pos (by rw [hl']; omega), if_neg (by omega), if_pos (by omega)]
      rw [show at_ + k - at_ = k from by omega, List.getElem?_take_of_lt (by omega), List.getElem?_eq_getElem hk]
    · rw [if_neg c1]
      by_cases c2 : j < at_
      · rw [if_pos c2, if_pos c2]
      · rw [if_neg c2, if_neg c2]
        by_cases c3 : j < at_ + k
        · rw [if_pos c3, if_pos (by omega), List.getElem?_take_of_lt (by omega), List.getElem?_take_of_lt (by omega)]
        · rw [if_neg c3, if_neg (by omega)]
          congr 1
          omega
  rw [← e]
  simp [bv, List.map_set]

set_option maxHeartbeats 1000000 in
theorem laid_ref {ok1 ok2 : Nat → Prop} (w : World) (A : Option Addr) (N c : Nat) (l : List UInt8) (at_ : Nat) (B : Option Addr) (m bc : Nat) (bs : List UInt8) (h1 : By w ok1 A N c l) (h2 : By w ok2 B m bc bs) (hN0 : 0 < N) (hN : N ≤ 1048576) (hx : at_ + m ≤ N) :
    Calls Try.prog 46 #[.slice A N c, .agg #[.int .i64 (at_ : Int), .slice B m bc]] w fun e w' => ∃ A' c', e = .returned (.slice A' N c') ∧ w'.ownsRow w.heap.size 5 1 (.slice A' N c') N (bv (lay l at_ bs)) ∧ Below w.heap.size w w' := by
  have hl1 : l.length = N := by have := h1.1; simpa [bv] using this
  have hl2 : bs.length = m := by have := h2.1; simpa [bv] using this
  have hb0 : Below w.heap.size w ((w.alloc (.cells #[.int .i64 (at_ : Int), .slice B m bc] 87)).alloc (.cells #[] 5)) := ((Below.refl _ _).alloc (Nat.le_refl _) _).alloc (by simp) _
  have h1' : By ((w.alloc (.cells #[.int .i64 (at_ : Int), .slice B m bc] 87)).alloc (.cells #[] 5)) ok1 A N c l := Sl.move h1 (Mv.of_below hb0 _)
  have O : ((w.alloc (.cells #[.int .i64 (at_ : Int), .slice B m bc] 87)).alloc (.cells #[] 5)).ownsRow (w.heap.size + 1) 5 1 (.slice (some ⟨w.heap.size + 1, 0, none⟩) 0 0) 0 [] := by
    have := own_lit (w.alloc (.cells #[.int .i64 (at_ : Int), .slice B m bc] 87)) 5 1 #[] 0 (by simp [maxLen]) rfl (w.heap.size + 1) (by simp)
    rwa [World.size_alloc] at this
  have cw0 : ((w.alloc (.cells #[.int .i64 (at_ : Int), .slice B m bc] 87)).alloc (.cells #[] 5)).cell? ⟨w.heap.size, 0, none⟩ = some (.int .i64 (at_ : Int)) := by simp [go_sem]
  have cw1 : ((w.alloc (.cells #[.int .i64 (at_ : Int), .slice B m bc] 87)).alloc (.cells #[] 5)).cell? ⟨w.heap.size, 1, none⟩ = some (.slice B m bc) := by simp [go_sem]
  obtain ⟨K0, hK0⟩ : ∃ K0, K0 = ((w.alloc (.cells #[.int .i64 (at_ : Int), .slice B m bc] 87)).alloc (.cells #[] 5)) := ⟨_, rfl⟩
  rw [← hK0] at hb0 h1' O cw0 cw1
  have HK := Lib.hid hK0; clear hK0
  go_enter Try.func46, Try.ntmps46
  go_wp2_with (at_builtin; rw [← HK.out]; refine wpList_append_sl _ rfl (.tmp 7) (.tmp 8) 38 rfl (w.heap.size + 1) 5 (.int .u8 0) 1 1 Try.underlying38 info_u8 rfl (by omega) (by omega) (.slice (some ⟨w.heap.size + 1, 0, none⟩) 0 0) 0 [] rfl O A N c (bv l) rfl h1' (bv_one l) (by omega) (by rw [HK.out]; simp) ?_; intro v1 w1 hown hg hat; rw [Nat.zero_add, List.nil_append] at hown; obtain ⟨A1, c1, rfl⟩ := own_shape hown; obtain ⟨nb, rfl, hnb, cur, hgb⟩ := own_some hown hN0)
  have hrow : ∀ k, (Value.slice (some ⟨w.heap.size + 1, 0, none⟩) 0 0).ownBlock = some k → w.heap.size + 1 ≤ k := fun k hk => by simp [Value.ownBlock] at hk; omega
  have hbw1 : Below w.heap.size w w1 := hb0.grown hg hb0.size (fun k hk => by have := hrow k hk; omega)
  have d0 : w1.cell? ⟨w.heap.size, 0, none⟩ = some (.int .i64 (at_ : Int)) := hg.cell cw0 (fun e => by have := hrow _ e.symm; simp at this; omega)
  have d1 : w1.cell? ⟨w.heap.size, 1, none⟩ = some (.slice B m bc) := hg.cell cw1 (fun e => by have := hrow _ e.symm; simp at this; omega)
  have hown0 : w1.ownsRow (w.heap.size + 1) 5 1 (.slice (some ⟨nb, 0, none⟩) N c1) N (bv (lay l at_ (bs.take 0))) := by
    have : lay l at_ (bs.take 0) = l := by simp [lay]
    rw [this]; exact hown
  clear hown hg hat hgb cw0 cw1 O h1' hb0
  go_loopw [6] (fun i wr => ∃ k : Nat, k ≤ m ∧ i = .int .i64 k ∧ wr.ownsRow (w.heap.size + 1) 5 1 (.slice (some ⟨nb, 0, none⟩) N c1) N (bv (lay l at_ (bs.take k))) ∧ wr.cell? ⟨w.heap.size, 0, none⟩ = some (.int .i64 (at_ : Int)) ∧ wr.cell? ⟨w.heap.size, 1, none⟩ = some (.slice B m bc) ∧ Below w.heap.size w wr)
    (fun i _ => m - (intOf i).toNat)
  case atStart => exact ⟨0, Nat.zero_le _, rfl, hown0, d0, d1, hbw1⟩
  case round =>
    obtain ⟨k, hk, rfl, hown, d0, d1, hb⟩ := hrel
    by_cases hlt : k < m
    · have hlt' : (k : Int) < m := by omega
      have h2w : By wr ok2 B m bc bs := Sl.move h2 (Mv.of_below hb _)
      obtain ⟨a, rfl, _, _, hcs⟩ := h2w.at_ (j := k) (by omega)
      have q1 := hcs k (.int .u8 (bs[k].toNat : Int)) (by simp [bv, List.getElem?_eq_getElem (show k < bs.length by omega)])
      obtain ⟨u0, hca⟩ : ∃ u0, wr.cell? ⟨nb, at_ + k, none⟩ = some u0 := ⟨_, (hown.cellAt (at_ + k) (by omega)).trans (List.getElem?_eq_getElem (by rw [hown.1]; omega))⟩
      have hfa := hown.frozenAt (at_ + k)
      have hlb : at_ + k < N := by omega
      go_wp2_with fail
      refine still_tail 10 (by kernel_rfl) (by kernel_rfl) ?_
      simp only [List.take_succ_cons, List.take_zero, List.drop_succ_cons, List.drop_zero]
      repeat still_step
      refine wpStill_nil ?_
      have hw : IntKind.i64.wrap ((at_ : Int) + (k : Int)) = ((at_ + k : Nat) : Int) := by
        rw [IntKind.wrap_i64]; omega
      rw [hw]
      have hlb' : ((at_ + k : Nat) : Int) < N := by omega
      go_wp2
      have hst := (hown.stored (at_ + k) (.int .u8 (bs[k].toNat : Int))).1
      rw [lay_step l at_ bs k (by omega) (by omega)] at hst
      refine ⟨⟨k + 1, hlt, by simp, hst, ?_, ?_, ?_⟩, by simp [intOf]; omega⟩
      · exact (World.cell?_setCell_other _ _ _ _ (by simp <;> omega)).trans d0
      · exact (World.cell?_setCell_other _ _ _ _ (by simp <;> omega)).trans d1
      · exact (hb.setCell (p := ⟨nb, at_ + k, none⟩) (by simp; omega) _).drew
    · have hlt' : ¬ (k : Int) < m := by omega
      obtain rfl : k = m := by omega
      go_wp2
      go_ret
      refine ⟨_, _, rfl, ?_, hb⟩
      rw [List.take_of_length_le (by omega)] at hown
      exact own_base hown (by omega)

theorem fld1 (a : Addr) (i : Nat) : (⟨(a.add i).block, (a.add i).off + 1, none⟩ : Addr) = a.add (i + 1) ∨ (a.add (i + 1)).spot ≠ none := by
  obtain ⟨b, o, s⟩ := a
  unfold Addr.add
  by_cases hi : i = 0
  · subst hi; cases s <;> simp
  · cases s <;> simp [hi] <;> omega
theorem cell_fld {w : World} {a : Addr} {i : Nat} {v : Value} (h : w.cell? (a.add (i + 1)) = some v) : w.cell? ⟨(a.add i).block, (a.add i).off + 1, none⟩ = some v := by
  rcases fld1 a i with e | e
  · rw [e]; exact h
  · exact absurd (World.cell?_spot h) e
/-- The cells of the i-th write. -/
theorem RefV.wr_at {w : World} {T : Nat → Prop} {ws : List (Nat × List UInt8)} {WA : Option Addr} {wc : Nat} {wcs : List Value} (hs : Sl w T 2 WA ws.length wc wcs) (hr : Rws (WrR w T) 2 ws wcs) {i : Nat} (hi : i < ws.length) :
    ∃ a A c, WA = some a ∧ T a.block ∧ a.block < w.heap.size ∧ w.cell? (a.add (i * 2)) = some (.int .i64 (ws[i].1 : Int)) ∧ w.cell? (a.add (i * 2 + 1)) = some (.slice A ws[i].2.length c) ∧ By w T A ws[i].2.length c ws[i].2 := by
  obtain ⟨c, ⟨A, cc, e, hby⟩, hc⟩ := hr.cell hi
  obtain ⟨a, rfl, hT, hlt, hcs⟩ := hs.at_ (j := i * 2) (by omega)
  refine ⟨a, A, cc, rfl, hT, hlt, hcs _ _ ?_, hcs _ _ ?_, hby⟩
  · have := hc 0 (by omega); rw [e] at this; simpa using this
  · have := hc 1 (by omega); rw [e] at this; simpa using this

set_option maxRecDepth 100000 in
set_option maxHeartbeats 2000000 in
theorem stands_ref {T : Nat → Prop} (w : World) (v : Value) (d : Dk) (h : RefV w T v d) (h0 : 0 < d.lasts.length) (hN : d.lasts.length ≤ 1048576) (hm : d.waits.length ≤ 1048576) (hfit : ∀ x, x ∈ d.waits → x.1 + x.2.length ≤ d.lasts.length) :
    Calls Try.prog 45 #[v] w (Fresh w (layAll d.lasts d.waits)) := by
  have hll : ∀ ws, (∀ x, x ∈ ws → x.1 + x.2.length ≤ d.lasts.length) → (layAll d.lasts ws).length = d.lasts.length := by
    intro ws
    suffices H : ∀ (ws : List (Nat × List UInt8)) (l : List UInt8), l.length = d.lasts.length → (∀ x, x ∈ ws → x.1 + x.2.length ≤ d.lasts.length) → (layAll l ws).length = d.lasts.length from H ws _ rfl
    intro ws
    induction ws with
    | nil => intro l hl _; exact hl
    | cons x ws ih => intro l hl hf; exact ih _ (by rw [lay_length _ _ _ (by rw [hl]; exact hf x (by simp))]; exact hl) (fun y hy => hf y (by simp [hy]))
  obtain ⟨LA, lc, WA, wc, wcs, rfl, h1, h2, h3⟩ := h
  obtain ⟨K0, hK0⟩ : ∃ K0, K0 = ((w.alloc (.cells #[.slice LA d.lasts.length lc, .slice WA d.waits.length wc, .int .i64 d.steps, .int .i64 d.armed] 48)).alloc (.cells #[] 5)) := ⟨_, rfl⟩
  have hb0 : Below w.heap.size w K0 := by rw [hK0]; exact ((Below.refl _ _).alloc (Nat.le_refl _) _).alloc (by simp) _
  have B0 : Box4 K0 w.heap.size (.slice LA d.lasts.length lc) (.slice WA d.waits.length wc) (.int .i64 d.steps) (.int .i64 d.armed) := by rw [hK0]; exact (Box4.new _ _ _ _ _).alloc _
  have O : K0.ownsRow (w.heap.size + 1) 5 1 (.slice (some ⟨w.heap.size + 1, 0, none⟩) 0 0) 0 [] := by
    rw [hK0]
    have := own_lit (w.alloc (.cells #[.slice LA d.lasts.length lc, .slice WA d.waits.length wc, .int .i64 d.steps, .int .i64 d.armed] 48)) 5 1 #[] 0 (by simp [maxLen]) rfl (w.heap.size + 1) (by simp)
    rwa [World.size_alloc] at this
  have hsK : K0.heap.size = w.heap.size + 2 := by rw [hK0]; simp
  have h1' : By K0 T LA d.lasts.length lc d.lasts := Sl.move h1 (Mv.of_below hb0 _)
  have HK := Lib.hid hK0; clear hK0
  go_enter Try.func45, Try.ntmps45
  go_wp2_with (at_builtin; rw [← HK.out]; refine wpList_append_sl _ rfl (.tmp 6) (.tmp 8) 38 rfl (w.heap.size + 1) 5 (.int .u8 0) 1 1 Try.underlying38 info_u8 rfl (by omega) (by omega) (.slice (some ⟨w.heap.size + 1, 0, none⟩) 0 0) 0 [] rfl O LA d.lasts.length lc (bv d.lasts) rfl h1' (bv_one d.lasts) (by omega) (by omega) ?_; intro v1 w1 hown hg hat; rw [Nat.zero_add, List.nil_append] at hown; obtain ⟨A1, c1, rfl⟩ := own_shape hown; obtain ⟨nb, rfl, hnb, cur, hgb⟩ := own_some hown h0)
  have hrow : ∀ k, (Value.slice (some ⟨w.heap.size + 1, 0, none⟩) 0 0).ownBlock = some k → w.heap.size + 1 ≤ k := fun k hk => by simp [Value.ownBlock] at hk; omega
  have hbw1 : Below w.heap.size w w1 := hb0.grown hg hb0.size (fun k hk => by have := hrow k hk; omega)
  have B1 := B0.grown hg (fun e => by have := hrow _ e.symm; omega)
  have hown0 : w1.ownsRow (w.heap.size + 1) 5 1 (.slice (some ⟨nb, 0, none⟩) d.lasts.length c1) d.lasts.length (bv (layAll d.lasts (d.waits.take 0))) := hown
  clear hown hg hat hgb O h1' hb0 B0
  go_loopw [4] (fun i wr => ∃ k : Nat, k ≤ d.waits.length ∧ i = .int .i64 k ∧ wr.ownsRow (w.heap.size + 1) 5 1 (.slice (some ⟨nb, 0, none⟩) d.lasts.length c1) d.lasts.length (bv (layAll d.lasts (d.waits.take k))) ∧ Box4 wr w.heap.size (.slice LA d.lasts.length lc) (.slice WA d.waits.length wc) (.int .i64 d.steps) (.int .i64 d.armed) ∧ Below w.heap.size w wr)
    (fun i _ => d.waits.length - (intOf i).toNat)
  case atStart => exact ⟨0, Nat.zero_le _, rfl, hown0, B1, hbw1⟩
  case round =>
    obtain ⟨i, hi, rfl, hown, hB, hb⟩ := hrel
    by_cases hlt : i < d.waits.length
    · have hlt' : (i : Int) < d.waits.length := by omega
      obtain ⟨q0, q1, q2, q3, qf⟩ := hB.cells
      go_wp2
      clear q0 q1 q2 q3 qf
      obtain ⟨at_, hat⟩ : ∃ at_, at_ = d.waits[i].1 := ⟨_, rfl⟩
      obtain ⟨b, hbe⟩ : ∃ b, b = d.waits[i].2 := ⟨_, rfl⟩
      have hf := hfit _ (List.getElem_mem hlt)
      obtain ⟨L, hL⟩ : ∃ L, L = layAll d.lasts (d.waits.take i) := ⟨_, rfl⟩
      have hLl : L.length = d.lasts.length := by rw [hL]; exact hll _ (fun x hx => hfit x (List.mem_of_mem_take hx))
      have hnext : layAll d.lasts (d.waits.take (i + 1)) = lay L at_ b := by
        rw [List.take_succ_eq_append_getElem hlt, layAll_snoc, ← hL, ← hat, ← hbe]
      obtain ⟨a, A, cc, rfl, hT, hal, e1, e2, hby⟩ := RefV.wr_at h2 h3 hlt
      rw [← hat] at e1 hf
      rw [← hbe] at e2 hby hf
      have hown1 : wr.ownsRow (w.heap.size + 1) 5 1 (.slice (some ⟨nb, 0, none⟩) d.lasts.length c1) d.lasts.length (bv (lay L at_ (b.take 0))) := by
        have : lay L at_ (b.take 0) = L := by simp [lay]
        rw [this, hL]; exact hown
      have HL := Lib.hid hL; clear hL
      have HA := Lib.hid hat; clear hat
      have HB := Lib.hid hbe; clear hbe
      clear hown
      go_loopw [5] (fun j wr2 => ∃ k : Nat, k ≤ b.length ∧ j = .int .i64 k ∧ wr2.ownsRow (w.heap.size + 1) 5 1 (.slice (some ⟨nb, 0, none⟩) d.lasts.length c1) d.lasts.length (bv (lay L at_ (b.take k))) ∧ Box4 wr2 w.heap.size (.slice LA d.lasts.length lc) (.slice (some a) d.waits.length wc) (.int .i64 d.steps) (.int .i64 d.armed) ∧ Below w.heap.size w wr2)
        (fun j _ => b.length - (intOf j).toNat)
      case atStart => exact ⟨0, Nat.zero_le _, rfl, hown1, hB, hb⟩
      case round =>
        obtain ⟨k, hk, rfl, hown, hB2, hb2⟩ := hrel
        obtain ⟨q0, q1, q2, q3, qf⟩ := hB2.cells
        have f1 := (hb2.cell (p := a.add (i * 2)) (by rw [add_block]; exact hal)).trans e1
        have f2 := cell_fld ((hb2.cell (p := a.add (i * 2 + 1)) (by rw [add_block]; exact hal)).trans e2)
        by_cases hlk : k < b.length
        · have hlk' : (k : Int) < b.length := by omega
          have h2w : By _ T A b.length cc b := Sl.move hby (Mv.of_below hb2 _)
          obtain ⟨a2, rfl, _, _, hcs⟩ := h2w.at_ (j := k) (by omega)
          have g1 := hcs k (.int .u8 (b[k].toNat : Int)) (by simp [bv, List.getElem?_eq_getElem hlk])
          obtain ⟨u0, hca⟩ : ∃ u0, wr.cell? ⟨nb, at_ + k, none⟩ = some u0 := ⟨_, (hown.cellAt (at_ + k) (by omega)).trans (List.getElem?_eq_getElem (by rw [hown.1]; omega))⟩
          have hfa := hown.frozenAt (at_ + k)
          go_wp2
          refine still_tail 18 (by kernel_rfl) (by kernel_rfl) ?_
          simp only [List.take_succ_cons, List.take_zero, List.drop_succ_cons, List.drop_zero]
          repeat still_step
          refine wpStill_nil ?_
          have hw : IntKind.i64.wrap ((at_ : Int) + (k : Int)) = ((at_ + k : Nat) : Int) := by
            rw [IntKind.wrap_i64]; omega
          rw [hw]
          have hlb' : ((at_ + k : Nat) : Int) < d.lasts.length := by omega
          go_wp2
          have hst := (hown.stored (at_ + k) (.int .u8 (b[k].toNat : Int))).1
          rw [lay_step L at_ b k (by omega) (by omega)] at hst
          refine ⟨⟨k + 1, hlk, by simp, hst, ?_, ?_⟩, by simp [intOf]; omega⟩
          · exact (heap_setCell_other _ _ _ _ (by simp; omega)).trans hB2
          · exact (hb2.setCell (p := ⟨nb, at_ + k, none⟩) (by simp; omega) _).drew
        · have hlk' : ¬ (k : Int) < b.length := by omega
          obtain rfl : k = b.length := by omega
          go_wp2
          rw [List.take_length, ← hnext] at hown
          exact ⟨⟨i + 1, hlt, by simp, hown, hB2, hb2⟩, by simp [intOf]; omega⟩
    · have hlt' : ¬ (i : Int) < d.waits.length := by omega
      obtain rfl : i = d.waits.length := by omega
      obtain ⟨q0, q1, q2, q3, qf⟩ := hB.cells
      go_wp2
      go_ret
      rw [List.take_length] at hown
      refine ⟨_, _, by rw [hll _ hfit]; rfl, ?_, hb⟩
      rw [hll _ hfit]
      exact own_base hown (by omega)
end Go.Proofs.Ytmajfiljajbipaa
