/- The disk's methods. -/
import Derived.Test.YtmajfiljajbipaaDsk1
set_option linter.unusedVariables false
namespace Go.Proofs.Ytmajfiljajbipaa
open Go.RowKit

theorem none_disk {w : World} {fp ok : Nat → Prop} {p : Nat} {d : Dk} (h : Disk w fp ok p d) : Calls Try.prog 36 #[.pointer (some ⟨p,0,none⟩)] w fun e w' => e = .returned (.bool false) ∧ w = w' := by
  obtain ⟨nb, nc, LA, lc, WA, wc, wcs, h⟩ := h
  exact none_cell w p _ _ _ h.pos h.cells.1
theorem there_disk {w : World} {fp ok : Nat → Prop} {p : Nat} {d : Dk} (h : Disk w fp ok p d) (x k : Int) :
    Calls Try.prog 37 #[.pointer (some ⟨p,0,none⟩), .int .i64 x, .int .i64 k] w fun e w' => e = .returned (.bool (decide (0 ≤ x ∧ x ≤ d.now.length ∧ k ≤ d.now.length - x))) ∧ w = w' := by
  obtain ⟨nb, nc, LA, lc, WA, wc, wcs, h⟩ := h
  exact there_cell w p _ _ _ x k h.cells.1 h.big

theorem write_range {w : World} {fp ok : Nat → Prop} {p : Nat} {d : Dk} (h : Disk w fp ok p d) (x : Int) (A : Option Addr) (n c : Nat) (hx : ¬ (0 ≤ x ∧ x ≤ d.now.length ∧ (n : Int) ≤ d.now.length - x)) :
    Calls Try.prog 15 #[.pointer (some ⟨p,0,none⟩), .int .i64 x, .slice A n c] w fun e w' => e = .returned (.int .i64 4) ∧ Below w.heap.size w w' := by
  have hb : Below w.heap.size w (w.alloc (.cells #[.pointer (some ⟨p, 0, none⟩)] 24)) := (Below.refl _ _).alloc (Nat.le_refl _) _
  have h1 := none_disk (h.below hb)
  have h2 := there_disk (h.below hb) x n
  rw [decide_eq_false hx] at h2
  have H1 := Lib.hid h1; clear h1
  have H2 := Lib.hid h2; clear h2
  have HX := Lib.hid hx; clear hx
  go_enter Try.func15, Try.ntmps15
  go_wp2_with (first | (go_at_call 36; refine H1.out.mono ?_; rintro e w' ⟨rfl, rfl⟩) | (go_at_call 37; refine H2.out.mono ?_; rintro e w' ⟨rfl, rfl⟩))
  go_ret
  exact ⟨rfl, hb⟩


theorem step40_ok {W : World} {fp ok : Nat → Prop} {p : Nat} {d : Dk} {nb nc : Nat} {LA : Option Addr} {lc : Nat} {WA : Option Addr} {wc : Nat} {wcs : List Value} (h : DiskAt W fp ok p d nb nc LA lc WA wc wcs) (caps : Array Value) (ha : d.armed ≠ 0) {R : World → Prop}
    (hc : Calls Try.prog 40 caps (stepW W p d) fun e w' => e = .returned (.tuple #[]) ∧ R w') :
    Calls Try.prog 39 #[.pointer (some ⟨p, 0, none⟩), .func (.func 40) #[] caps] W fun e w' => e = .returned (.int .i64 0) ∧ R w' := by
  obtain ⟨c0, c1, c2, c3, c4, cf⟩ := h.cells
  have f3 := cf 3
  have f4 := cf 4
  have ha0 : (d.armed == 0) = false := by simp; exact ha
  by_cases hp : 0 < d.armed
  · have e : stepW W p d = (W.setCell ⟨p, 4, none⟩ (.int .i64 (wrap64 (d.armed - 1)))).setCell ⟨p, 3, none⟩ (.int .i64 (wrap64 (d.steps + 1))) := by unfold stepW; rw [if_pos hp]
    rw [e] at hc
    have HC := Lib.hid hc; clear hc e
    go_enter Try.func39, Try.ntmps39
    go_wp2_with (go_at_call 40; refine HC.out.mono ?_; rintro e w2 ⟨rfl, hr⟩)
    go_ret
    exact ⟨rfl, hr⟩
  · have e : stepW W p d = W.setCell ⟨p, 3, none⟩ (.int .i64 (wrap64 (d.steps + 1))) := by unfold stepW; rw [if_neg hp]
    rw [e] at hc
    have HC := Lib.hid hc; clear hc e
    go_enter Try.func39, Try.ntmps39
    go_wp2_with (go_at_call 40; refine HC.out.mono ?_; rintro e w2 ⟨rfl, hr⟩)
    go_ret
    exact ⟨rfl, hr⟩
theorem step40_stop {W : World} {fp ok : Nat → Prop} {p : Nat} {d : Dk} {nb nc : Nat} {LA : Option Addr} {lc : Nat} {WA : Option Addr} {wc : Nat} {wcs : List Value} (h : DiskAt W fp ok p d nb nc LA lc WA wc wcs) (caps : Array Value) (ha : d.armed = 0) :
    Calls Try.prog 39 #[.pointer (some ⟨p, 0, none⟩), .func (.func 40) #[] caps] W fun e w' => e = .returned (.int .i64 180) ∧ W = w' := by
  obtain ⟨c0, c1, c2, c3, c4, cf⟩ := h.cells
  rw [ha] at c4
  have HA := Lib.hid ha; clear ha
  go_enter Try.func39, Try.ntmps39
  go_wp2
  go_ret
  exact ⟨rfl, rfl⟩

theorem step42_ok {W : World} {fp ok : Nat → Prop} {p : Nat} {d : Dk} {nb nc : Nat} {LA : Option Addr} {lc : Nat} {WA : Option Addr} {wc : Nat} {wcs : List Value} (h : DiskAt W fp ok p d nb nc LA lc WA wc wcs) (caps : Array Value) (ha : d.armed ≠ 0) {R : World → Prop}
    (hc : Calls Try.prog 42 caps (stepW W p d) fun e w' => e = .returned (.tuple #[]) ∧ R w') :
    Calls Try.prog 39 #[.pointer (some ⟨p, 0, none⟩), .func (.func 42) #[] caps] W fun e w' => e = .returned (.int .i64 0) ∧ R w' := by
  obtain ⟨c0, c1, c2, c3, c4, cf⟩ := h.cells
  have f3 := cf 3
  have f4 := cf 4
  have ha0 : (d.armed == 0) = false := by simp; exact ha
  by_cases hp : 0 < d.armed
  · have e : stepW W p d = (W.setCell ⟨p, 4, none⟩ (.int .i64 (wrap64 (d.armed - 1)))).setCell ⟨p, 3, none⟩ (.int .i64 (wrap64 (d.steps + 1))) := by unfold stepW; rw [if_pos hp]
    rw [e] at hc
    have HC := Lib.hid hc; clear hc e
    go_enter Try.func39, Try.ntmps39
    go_wp2_with (go_at_call 42; refine HC.out.mono ?_; rintro e w2 ⟨rfl, hr⟩)
    go_ret
    exact ⟨rfl, hr⟩
  · have e : stepW W p d = W.setCell ⟨p, 3, none⟩ (.int .i64 (wrap64 (d.steps + 1))) := by unfold stepW; rw [if_neg hp]
    rw [e] at hc
    have HC := Lib.hid hc; clear hc e
    go_enter Try.func39, Try.ntmps39
    go_wp2_with (go_at_call 42; refine HC.out.mono ?_; rintro e w2 ⟨rfl, hr⟩)
    go_ret
    exact ⟨rfl, hr⟩
theorem step42_stop {W : World} {fp ok : Nat → Prop} {p : Nat} {d : Dk} {nb nc : Nat} {LA : Option Addr} {lc : Nat} {WA : Option Addr} {wc : Nat} {wcs : List Value} (h : DiskAt W fp ok p d nb nc LA lc WA wc wcs) (caps : Array Value) (ha : d.armed = 0) :
    Calls Try.prog 39 #[.pointer (some ⟨p, 0, none⟩), .func (.func 42) #[] caps] W fun e w' => e = .returned (.int .i64 180) ∧ W = w' := by
  obtain ⟨c0, c1, c2, c3, c4, cf⟩ := h.cells
  rw [ha] at c4
  have HA := Lib.hid ha; clear ha
  go_enter Try.func39, Try.ntmps39
  go_wp2
  go_ret
  exact ⟨rfl, rfl⟩

def Dk.write (d : Dk) (at_ : Nat) (b : List UInt8) : Dk := { d.tick with now := lay d.now at_ b, waits := d.waits ++ [(at_, b)] }
theorem write_ok {w : World} {fp ok : Nat → Prop} {p : Nat} {d : Dk} (h : Disk w fp ok p d) (at_ : Nat) (A : Option Addr) (n c : Nat) (b : List UInt8) {okb : Nat → Prop} (hby : By w okb A n c b) (hx : at_ + n ≤ d.now.length) (hw : d.waits.length ≤ 1048576) :
    Calls Try.prog 15 #[.pointer (some ⟨p,0,none⟩), .int .i64 (at_ : Int), .slice A n c] w fun e w' => (d.armed = 0 ∧ e = .returned (.int .i64 180) ∧ Below w.heap.size w w') ∨
      (d.armed ≠ 0 ∧ e = .returned (.int .i64 0) ∧ ∃ fp', Disk w' fp' (fun k => (ok k ∨ w.heap.size ≤ k) ∧ ¬ fp' k) p (d.write at_ b) ∧ Kp fp w w' ∧ ∀ k, fp' k → fp k ∨ w.heap.size ≤ k) := by
  have hb : Below w.heap.size w (w.alloc (.cells #[.pointer (some ⟨p, 0, none⟩)] 24)) := (Below.refl _ _).alloc (Nat.le_refl _) _
  have hbl := (by obtain ⟨nb, nc, LA, lc, WA, wc, wcs, h⟩ := h; exact h.big : d.now.length ≤ 1048576)
  have h1 := none_disk (h.below hb)
  have h2 := there_disk (h.below hb) at_ n
  rw [decide_eq_true (by omega)] at h2
  have H1 := Lib.hid h1; clear h1
  have H2 := Lib.hid h2; clear h2
  have hmf : ∀ (fn : Fn) (first cap : Array Value) (w : World), (Instr.makeFunc fn first cap).run Try.prog w = .ok (.func fn first cap) w := fun _ _ _ _ => rfl
  have hby1 : By (w.alloc (.cells #[.pointer (some ⟨p, 0, none⟩)] 24)) okb A n c b := Sl.move hby (Mv.alloc _ _ _)
  go_enter Try.func15, Try.ntmps15
  go_wp2_with (first | (go_at_call 36; refine H1.out.mono ?_; rintro e w' ⟨rfl, rfl⟩) | (go_at_call 37; refine H2.out.mono ?_; rintro e w' ⟨rfl, rfl⟩) | (go_at_call 38; refine (cloneB _ A n c b hby1 (by omega)).mono ?_; rintro e w1 ⟨A', c', rfl, hown, hb1⟩; have hz : w.heap.size + 1 ≤ w1.heap.size := (by have := hb1.size; simpa using this); have cb : w1.cell? ⟨w.heap.size, 0, none⟩ = some (.pointer (some ⟨p, 0, none⟩)) := (hb1.cell (p := ⟨w.heap.size, 0, none⟩) (by simp)).trans (by simp [go_sem]); have cb' := cell_al cb (.cells #[.int .i64 (at_ : Int), .slice A' n c'] 79)))
  obtain ⟨nb, nc, LA, lc, WA, wc, wcs, hd⟩ := (h.below hb).below hb1
  obtain ⟨W, hW⟩ : ∃ W, W = w1.alloc (.cells #[.int .i64 (at_ : Int), .slice A' n c'] 79) := ⟨_, rfl⟩
  have hbW : Below w1.heap.size w1 W := by rw [hW]; exact (Below.refl _ _).alloc (Nat.le_refl _) _
  have hdW := hd.below hbW
  have hg1 : W.heap[w1.heap.size]? = some (.cells #[.int .i64 (at_ : Int), .slice A' n c'] 79 (0, 0)) := by rw [hW]; exact heap_alloc_new _ _
  rw [← hW]
  have HW := Lib.hid hW; clear hW cb cb'
  have hsW : w1.heap.size < W.heap.size := (Array.getElem?_eq_some_iff.1 hg1).1
  by_cases ha : d.armed = 0
  · refine (step40_stop hdW _ ha).mono ?_
    rintro e w' ⟨rfl, rfl⟩
    have HA := Lib.hid ha; clear ha
    go_wp2
    go_ret
    exact .inl ⟨HA.out, rfl, hb.trans ((hb1.mono (by simp)).trans (hbW.mono (by omega)))⟩
  · have hK1 : Kp fp w W := ((((Kp.refl fp w).alloc _).thenB hb1).thenB hbW)
    have hd2 := stepW_disk hdW
    have hs2 := stepW_size W p d
    have npg : p < w.heap.size := by obtain ⟨nb, nc, LA, lc, WA, wc, wcs, h⟩ := h; exact h.fps p h.fpp
    have hoth := stepW_other W p d
    have hg2 : (stepW W p d).heap[w1.heap.size]? = _ := (hoth _ (by omega)).trans hg1
    have hbx : (stepW W p d).heap[w.heap.size]? = some (.cells #[.pointer (some ⟨p, 0, none⟩)] 24 (0, 0)) := (hoth _ (by omega)).trans ((hbW.block _ (by omega)).trans ((hb1.block _ (by simp)).trans (heap_alloc_new _ _)))
    have hbyW : By (stepW W p d) (fun k => w.heap.size + 1 ≤ k ∧ k ≠ p) A' n c' b := by
      obtain ⟨A2, c2, he, hs⟩ := Sl.of_own (ok := fun k => w.heap.size + 1 ≤ k ∧ k ≠ p) hown (fun k hk _ => by have := (hown.lt k hk).1; simp at this; exact ⟨this, by omega⟩)
      injection he with he1 he2 he3
      subst he1; subst he3
      exact Sl.move hs ⟨by omega, fun k hk ho => (hoth k ho.2).trans (hbW.block k hk)⟩
    have hlen : b.length = n := by have := hby.1; simpa [bv] using this
    subst hlen
    have hfps : ∀ k, fp k → k < w.heap.size := by obtain ⟨nb, nc, LA, lc, WA, wc, wcs, h⟩ := h; exact h.fps
    have hd3 : DiskAt (stepW W p d) fp (fun k => (ok k ∨ w.heap.size + 1 ≤ k) ∧ ¬ fp k) p d.tick nb nc LA lc WA wc wcs := hd2.mono (fun k _ ho => ⟨.inl ho, hd2.dis k ho⟩) (fun k hk => hk.2)
    have hbyW3 : By (stepW W p d) _ A' b.length c' b := Sl.mono hbyW (ok1 := fun k => (ok k ∨ w.heap.size + 1 ≤ k) ∧ ¬ fp k) (fun k _ ho => ⟨.inr ho.1, fun hf => by have := hfps k hf; omega⟩)
    have hK2 : Kp fp w (stepW W p d) := stepW_kp hK1 hd.fpp
    refine (step40_ok hdW _ ha (write1 (stepW W p d) p w1.heap.size w.heap.size at_ d.tick b A' c' ⟨nb, nc, LA, lc, WA, wc, wcs, hd3⟩ hg2 hbx hbyW3 (by simpa [Dk.tick] using hx) (by simpa [Dk.tick] using hw) (fun hf => by have := hd.fps _ hf; omega))).mono ?_
    rintro e w2 ⟨rfl, fp', hD', hK', hsub'⟩
    have HA := Lib.hid ha; clear ha
    go_wp2
    go_ret
    exact .inr ⟨HA.out, rfl, fp', hD'.mono (fun k hk ho => ⟨ho.1.elim (fun h => h.1.imp id (fun h => by omega)) (fun h => .inr (by omega)), ho.2⟩) (fun k hk => hk.2), hK2.trans hK' (fun _ _ h => h), fun k hk => (hsub' k hk).imp id (fun h => by omega)⟩
end Go.Proofs.Ytmajfiljajbipaa
