/- The document's disk: Write. -/
import Derived.Test.YtmajfiljajbipaaRef2
set_option linter.unusedVariables false
set_option linter.unusedSimpArgs false
namespace Go.Proofs.Ytmajfiljajbipaa
open Go.RowKit

theorem info_rw : (Try.prog.info? 87).map (fun i => (i.zero, i.size, i.bytes)) = some (some (.agg #[.int .i64 0, .slice none 0 0]), 2, 32) := by kernel_rfl

theorem write_ref_range (w : World) (LA : Option Addr) (N lc : Nat) (WA : Option Addr) (m wc : Nat) (s r x : Int) (A : Option Addr) (n c : Nat) (hN : N ≤ 1048576) (hx : ¬ (0 ≤ x ∧ x ≤ N ∧ (n : Int) ≤ N - x)) :
    Calls Try.prog 30 #[rv LA N lc WA m wc s r, .int .i64 x, .slice A n c] w fun e w' => Below w.heap.size w w' ∧ e = .returned (.tuple #[rv LA N lc WA m wc s r, .int .i64 4]) := by
  unfold rv
  have hcase : x < 0 ∨ (0 ≤ x ∧ (N : Int) < x) ∨ (0 ≤ x ∧ x ≤ N ∧ (N : Int) - x < n) := by omega
  rcases hcase with h1 | ⟨h1, h2⟩ | ⟨h1, h2, h3⟩
  · clear hx
    go_enter Try.func30, Try.ntmps30
    go_wp2
    refine bodyPost_ret (v := .tuple #[rv LA N lc WA m wc s r, .int .i64 4]) (by rw [results_cell_tmp rfl]; simp [go_sem, asAddr, rv]) rfl ⟨((Below.refl _ _).alloc (Nat.le_refl _) _).alloc (by simp) _, rfl⟩
  · clear hx
    go_enter Try.func30, Try.ntmps30
    go_wp2
    refine bodyPost_ret (v := .tuple #[rv LA N lc WA m wc s r, .int .i64 4]) (by rw [results_cell_tmp rfl]; simp [go_sem, asAddr, rv]) rfl ⟨((Below.refl _ _).alloc (Nat.le_refl _) _).alloc (by simp) _, rfl⟩
  · clear hx
    go_enter Try.func30, Try.ntmps30
    go_wp2
    refine bodyPost_ret (v := .tuple #[rv LA N lc WA m wc s r, .int .i64 4]) (by rw [results_cell_tmp rfl]; simp [go_sem, asAddr, rv]) rfl ⟨((Below.refl _ _).alloc (Nat.le_refl _) _).alloc (by simp) _, rfl⟩

theorem write_ref_ok {T okb : Nat → Prop} (w : World) (LA : Option Addr) (N lc : Nat) (WA : Option Addr) (m wc : Nat) (s r : Int) (at_ : Nat) (A : Option Addr) (n c : Nat) (b : List UInt8) (wcs : List Value) (hby : By w okb A n c b) (hws : Sl w T 2 WA m wc wcs) (h1c : ∀ u ∈ wcs, u.oneCell' = true)
    (hN : N ≤ 1048576) (hm : m ≤ 1048576) (hx : at_ + n ≤ N) (hr : r ≠ 0) :
    Calls Try.prog 30 #[rv LA N lc WA m wc s r, .int .i64 (at_ : Int), .slice A n c] w fun e w' => Below w.heap.size w w' ∧
      ∃ WA' wc' A' c', e = .returned (.tuple #[rv LA N lc WA' (m + 1) wc' (wrap64 (s + 1)) (if 0 < r then wrap64 (r - 1) else r), .int .i64 0]) ∧
        Sl w' (fun k => w.heap.size ≤ k) 2 WA' (m + 1) wc' (wcs ++ [.int .i64 (at_ : Int), .slice A' n c']) ∧ By w' (fun k => w.heap.size ≤ k) A' n c' b := by
  have hlen : b.length = n := by have := hby.1; simpa [bv] using this
  have S := step_ref ((w.alloc (.cells #[.slice LA N lc, .slice WA m wc, .int .i64 s, .int .i64 r] 48)).alloc (.cells #[.slice none 0 0, .slice none 0 0, .int .i64 0, .int .i64 0] 48)) LA N lc WA m wc s r
  rw [if_neg hr] at S
  obtain ⟨r', hr'⟩ : ∃ r', r' = (if 0 < r then wrap64 (r - 1) else r) := ⟨_, rfl⟩
  rw [← hr'] at S ⊢
  clear hr' hr
  unfold rv at S ⊢
  have B0 := (Box4.new w (.slice LA N lc) (.slice WA m wc) (.int .i64 s) (.int .i64 r)).alloc (.cells #[.slice none 0 0, .slice none 0 0, .int .i64 0, .int .i64 0] 48)
  have B1 := Box4.new (w.alloc (.cells #[.slice LA N lc, .slice WA m wc, .int .i64 s, .int .i64 r] 48)) (.slice none 0 0) (.slice none 0 0) (.int .i64 0) (.int .i64 0)
  rw [World.size_alloc] at B1
  have hb0 : Below w.heap.size w ((w.alloc (.cells #[.slice LA N lc, .slice WA m wc, .int .i64 s, .int .i64 r] 48)).alloc (.cells #[.slice none 0 0, .slice none 0 0, .int .i64 0, .int .i64 0] 48)) := ((Below.refl _ _).alloc (Nat.le_refl _) _).alloc (by simp) _
  go_enter Try.func30, Try.ntmps30
  go_wp2_with fail
  refine S.mono ?_
  rintro e w1 ⟨hb1, rfl⟩
  clear S
  have hs1 : w.heap.size + 2 ≤ w1.heap.size := by have := hb1.size; simp at this; omega
  obtain ⟨W, hW⟩ : ∃ W, W = w1.alloc (.cells #[.slice LA N lc, .slice WA m wc, .int .i64 (wrap64 (s + 1)), .int .i64 r'] 48) := ⟨_, rfl⟩
  have C0 : Box4 W w.heap.size (.slice LA N lc) (.slice WA m wc) (.int .i64 s) (.int .i64 r) := by rw [hW]; exact (B0.below hb1).alloc _
  have C1 : Box4 W (w.heap.size + 1) (.slice none 0 0) (.slice none 0 0) (.int .i64 0) (.int .i64 0) := by rw [hW]; exact (B1.below hb1).alloc _
  have C2 : Box4 W w1.heap.size (.slice LA N lc) (.slice WA m wc) (.int .i64 (wrap64 (s + 1))) (.int .i64 r') := by rw [hW]; exact Box4.new _ _ _ _ _
  have hbW : Below w.heap.size w W := by rw [hW]; exact (hb0.trans (hb1.mono hb0.size)).alloc (by omega) _
  have hsW : W.heap.size = w1.heap.size + 1 := by rw [hW]; simp
  have D0 := (C0.alloc (.cells #[] 87)).cells
  rw [hW] at D0
  obtain ⟨p0, p1, p2, p3, pf⟩ := D0
  have HW := Lib.hid hW; clear hW hb1 B0 B1 hb0
  have hws' : Sl (W.alloc (.cells #[] 87)) T 2 WA m wc wcs := Sl.move hws (Mv.of_below (hbW.alloc hbW.size _) _)
  have O : (W.alloc (.cells #[] 87)).ownsRow W.heap.size 87 2 (.slice (some ⟨w1.heap.size + 1, 0, none⟩) 0 0) 0 [] := by
    have := own_lit W 87 2 #[] 0 (by simp [maxLen]) rfl W.heap.size (Nat.le_refl _)
    rwa [show (some (⟨W.heap.size, 0, none⟩ : Addr)) = some ⟨w1.heap.size + 1, 0, none⟩ from by rw [hsW]] at this
  go_wp2_with (first
    | (at_builtin; rw [← HW.out]; refine wpList_append_sl _ rfl (.tmp 39) (.tmp 41) 46 rfl W.heap.size 87 (.agg #[.int .i64 0, .slice none 0 0]) 2 32 Try.underlying46 info_rw rfl (by omega) (by omega) (.slice (some ⟨w1.heap.size + 1, 0, none⟩) 0 0) 0 [] rfl O WA m wc wcs rfl hws' h1c (by omega) (by simp) ?_; intro v1 w2 hown1 hg1 hat1; rw [Nat.zero_add, List.nil_append] at hown1
       have hv1 : ∀ k, v1.ownBlock = some k → k < w2.heap.size := fun k e => (hown1.lt k e).2
       have hbw2 : Below w.heap.size w w2 := (hbW.alloc hbW.size _).grown hg1 (by simp; omega) (fun k hk => by simp [Value.ownBlock] at hk; omega)
       have C1 := (C1.alloc (.cells #[] 87)).grown hg1 (by simp [Value.ownBlock]; omega)
       have C2 := (C2.alloc (.cells #[] 87)).grown hg1 (by simp [Value.ownBlock])
       have hs2 : w1.heap.size + 2 ≤ w2.heap.size := by have := hg1.size; simp at this; omega
       have hby2 : By (w2.alloc (.cells #[] 5)) okb A n c b := Sl.move hby (Mv.of_below (hbw2.alloc hbw2.size _) _))
    | (at_builtin; refine wpList_append_sl _ rfl (.tmp 44) (.tmp 45) 38 rfl w2.heap.size 5 (.int .u8 0) 1 1 Try.underlying38 info_u8 rfl (by omega) (by omega) (.slice (some ⟨w2.heap.size, 0, none⟩) 0 0) 0 [] rfl (own_lit w2 5 1 #[] 0 (by simp [maxLen]) rfl _ (Nat.le_refl _)) A n c (bv b) rfl hby2 (bv_one b) (by omega) (by simp) ?_; intro v2 w3 hown2 hg2 hat2; rw [Nat.zero_add, List.nil_append] at hown2; obtain ⟨A2, c2, rfl⟩ := own_shape hown2
       have hbw3 : Below w.heap.size w w3 := (hbw2.alloc hbw2.size _).grown hg2 (by simp; omega) (fun k hk => by simp [Value.ownBlock] at hk; omega)
       have C1 := (C1.alloc (.cells #[] 5)).grown hg2 (by simp [Value.ownBlock]; omega)
       have C2 := (C2.alloc (.cells #[] 5)).grown hg2 (by simp [Value.ownBlock]; omega)
       have hs3 : w2.heap.size + 1 ≤ w3.heap.size := by have := hg2.size; simpa using this
       have hown1 := own_move hown1 (w1 := w3) (fun k hk hlt => (hg2.block k (by simp; omega) (by simp [Value.ownBlock]; omega)).trans (Below.heap_alloc w2 _ k hlt)))
    | (at_builtin; refine wpList_append_sl _ rfl (.tmp 42) (.tmp 48) 46 rfl W.heap.size 87 (.agg #[.int .i64 0, .slice none 0 0]) 2 32 Try.underlying46 info_rw rfl (by omega) (by omega) v1 m wcs rfl (hown1.alloc _) (some ⟨w3.heap.size, 0, none⟩) 1 1 [.int .i64 (at_ : Int), .slice A2 n c2] rfl (Sl.lit w3 _ 2 #[.int .i64 (at_ : Int), .slice A2 n c2] 1 (by simp [maxLen]) rfl) (by intro u hu; simp at hu; rcases hu with rfl | rfl <;> rfl) (by omega) (by simp; omega) ?_; intro v3 w4 hown3 hg3 hat3; obtain ⟨A3, c3, rfl⟩ := own_shape hown3
       have hrow : ∀ k, v1.ownBlock = some k → W.heap.size ≤ k := fun k e => (hown1.lt k e).1
       have hbw4 : Below w.heap.size w w4 := (hbw3.alloc hbw3.size _).grown hg3 (by simp; omega) (fun k hk => by have := hrow k hk; omega)
       obtain ⟨q0, q1, q2, q3, qf⟩ := ((C1.alloc (.cells #[.int .i64 (at_ : Int), .slice A2 n c2] 87)).grown hg3 (fun e => by have := hrow _ e.symm; omega)).cells
       obtain ⟨r0, r1, r2, r3, rf⟩ := ((C2.alloc (.cells #[.int .i64 (at_ : Int), .slice A2 n c2] 87)).grown hg3 (fun e => by have := hrow _ e.symm; omega)).cells))
  have hne : w.heap.size + 1 ≠ w1.heap.size := by omega
  refine bodyPost_ret (v := .tuple #[rv LA N lc A3 (m + 1) c3 (wrap64 (s + 1)) r', .int .i64 0]) (by rw [results_cell_tmp rfl]; simp [go_sem, asAddr, rv, q0, q1, q2, q3, r0, r1, r2, r3]) rfl ?_
  refine ⟨below_set4 (hbw4.setCell (p := ⟨w1.heap.size, 1, none⟩) (by simp; omega) (.slice A3 (m + 1) c3)) (w.heap.size + 1) (by omega) _ _ _ _, A3, c3, A2, c2, rfl, ?_, ?_⟩
  · exact Sl.mono (Sl.move (Sl.move (Sl.from_own hown3) (Mv.setCell w4 (p := ⟨w1.heap.size, 1, none⟩) (by simp; omega) _)) (Mv.setCell4 _ (w.heap.size + 1) (by simp; omega) _ _ _ _)) (fun k _ h => by omega)
  · have h3 : By w3 (fun k => w2.heap.size ≤ k) A2 n c2 b := Sl.from_own hown2
    have h4 : By w4 (fun k => w2.heap.size ≤ k) A2 n c2 b := Sl.move (Sl.move h3 (Mv.alloc _ _ _)) ⟨hg3.size, fun k hk ho => hg3.block k hk (fun e => by have := hv1 k e.symm; omega)⟩
    exact Sl.mono (Sl.move (Sl.move h4 (Mv.setCell w4 (p := ⟨w1.heap.size, 1, none⟩) (by simp; omega) _)) (Mv.setCell4 _ (w.heap.size + 1) (by simp; omega) _ _ _ _)) (fun k _ h => by omega)

theorem write_ref_stop (w : World) (LA : Option Addr) (N lc : Nat) (WA : Option Addr) (m wc : Nat) (s : Int) (at_ : Nat) (A : Option Addr) (n c : Nat) (hN : N ≤ 1048576) (hx : at_ + n ≤ N) :
    Calls Try.prog 30 #[rv LA N lc WA m wc s 0, .int .i64 (at_ : Int), .slice A n c] w fun e w' => Below w.heap.size w w' ∧ e = .returned (.tuple #[rv LA N lc WA m wc s 0, .int .i64 180]) := by
  have S := step_ref ((w.alloc (.cells #[.slice LA N lc, .slice WA m wc, .int .i64 s, .int .i64 0] 48)).alloc (.cells #[.slice none 0 0, .slice none 0 0, .int .i64 0, .int .i64 0] 48)) LA N lc WA m wc s 0
  rw [if_pos rfl] at S
  unfold rv at S ⊢
  have B0 := (Box4.new w (.slice LA N lc) (.slice WA m wc) (.int .i64 s) (.int .i64 0)).alloc (.cells #[.slice none 0 0, .slice none 0 0, .int .i64 0, .int .i64 0] 48)
  have B1 := Box4.new (w.alloc (.cells #[.slice LA N lc, .slice WA m wc, .int .i64 s, .int .i64 0] 48)) (.slice none 0 0) (.slice none 0 0) (.int .i64 0) (.int .i64 0)
  rw [World.size_alloc] at B1
  have hb0 : Below w.heap.size w ((w.alloc (.cells #[.slice LA N lc, .slice WA m wc, .int .i64 s, .int .i64 0] 48)).alloc (.cells #[.slice none 0 0, .slice none 0 0, .int .i64 0, .int .i64 0] 48)) := ((Below.refl _ _).alloc (Nat.le_refl _) _).alloc (by simp) _
  go_enter Try.func30, Try.ntmps30
  go_wp2_with (go_at_call 49; refine S.mono ?_; rintro e w1 ⟨hb1, rfl⟩
               have hs1 : w.heap.size + 2 ≤ w1.heap.size := (by have := hb1.size; simp at this; omega)
               obtain ⟨p0, p1, p2, p3, pf⟩ := ((B0.below hb1).alloc (.cells #[.slice LA N lc, .slice WA m wc, .int .i64 s, .int .i64 0] 48)).cells
               obtain ⟨q0, q1, q2, q3, qf⟩ := ((B1.below hb1).alloc (.cells #[.slice LA N lc, .slice WA m wc, .int .i64 s, .int .i64 0] 48)).cells)
  refine bodyPost_ret (v := .tuple #[rv LA N lc WA m wc s 0, .int .i64 180]) (by rw [results_cell_tmp rfl]; simp [go_sem, asAddr, rv, q0, q1, q2, q3]) rfl ⟨below_set4 ((hb0.trans (hb1.mono hb0.size)).alloc (by omega) _) (w.heap.size + 1) (by omega) _ _ _ _, rfl⟩

/-- 'Write', whatever it comes to. -/
theorem write_ref {T okb : Nat → Prop} (w : World) (v : Value) (d : Dk) (h : RefV w T v d) (hs : d.lasts.length = d.now.length) (hN : d.now.length ≤ 1048576) (hm : d.waits.length ≤ 1048576) (x : Int) (A : Option Addr) (n c : Nat) (b : List UInt8) (hby : By w okb A n c b) :
    Calls Try.prog 30 #[v, .int .i64 x, .slice A n c] w fun e w' => Below w.heap.size w w' ∧ ∃ v', e = .returned (.tuple #[v', .int .i64 (d.wr x b).2]) ∧ RefV w' (fun k => T k ∨ w.heap.size ≤ k) v' (d.wr x b).1 := by
  have hlen : b.length = n := by have := hby.1; simpa [bv] using this
  have h0 := h
  obtain ⟨LA, lc, WA, wc, wcs, rfl, h1, h2, h3⟩ := h
  unfold Dk.wr
  rw [hlen]
  by_cases hx : 0 ≤ x ∧ x ≤ d.now.length ∧ (n : Int) ≤ d.now.length - x
  · rw [if_pos hx]
    obtain ⟨at_, rfl⟩ : ∃ at_ : Nat, x = at_ := ⟨x.toNat, by omega⟩
    by_cases ha : d.armed = 0
    · rw [if_pos ha]
      have C := write_ref_stop w LA d.lasts.length lc WA d.waits.length wc d.steps at_ A n c (by omega) (by omega)
      rw [← ha] at C
      refine C.mono ?_
      rintro e w' ⟨hb, rfl⟩
      exact ⟨hb, _, rfl, (h0.below hb).mono (fun k _ h => .inl h)⟩
    · rw [if_neg ha]
      have h1c : ∀ u ∈ wcs, u.oneCell' = true := by
        intro u hu
        obtain ⟨j, hj⟩ := List.mem_iff_getElem?.1 hu
        have hjl := (List.getElem?_eq_some_iff.1 hj).1
        have hi : j / 2 < d.waits.length := by rw [h3.len] at hjl; omega
        obtain ⟨c, ⟨A, cc, e, _⟩, hc⟩ := h3.cell hi
        have := hc (j % 2) (by omega)
        rw [show j / 2 * 2 + j % 2 = j from by omega, hj, e] at this
        rcases (by omega : j % 2 = 0 ∨ j % 2 = 1) with e2 | e2
        · rw [e2] at this; simp at this; subst this; rfl
        · rw [e2] at this; simp at this; subst this; rfl
      refine (write_ref_ok w LA d.lasts.length lc WA d.waits.length wc d.steps d.armed at_ A n c b wcs hby h2 h1c (by omega) hm (by omega) ha).mono ?_
      rintro e w' ⟨hb, WA', wc', A', c', rfl, k1, k2⟩
      refine ⟨hb, _, rfl, LA, lc, WA', wc', wcs ++ [.int .i64 (at_ : Int), .slice A' n c'], ?_, ?_, ?_, ?_⟩
      · simp [rv, Dk.write, Dk.tick]
      · exact Sl.mono (Sl.move h1 (Mv.of_below hb _)) (fun k _ h => .inl h)
      · have := Sl.mono k1 (ok1 := fun k => T k ∨ w.heap.size ≤ k) (fun k _ h => .inr h)
        simpa [Dk.write] using this
      · refine Rws.append (h3.imp (fun x cs hx => (hx.move (Mv.of_below hb _)).mono (fun k _ h => .inl h))) (Rws.one rfl ⟨A', c', ?_, ?_⟩)
        · simp [hlen]
        · have := Sl.mono k2 (ok1 := fun k => T k ∨ w.heap.size ≤ k) (fun k _ h => .inr h)
          simpa [By, hlen] using this
  · rw [if_neg hx]
    refine (write_ref_range w LA d.lasts.length lc WA d.waits.length wc d.steps d.armed x A n c (by omega) (by rw [hs]; exact hx)).mono ?_
    rintro e w' ⟨hb, rfl⟩
    exact ⟨hb, _, rfl, (h0.below hb).mono (fun k _ h => .inl h)⟩
end Go.Proofs.Ytmajfiljajbipaa
