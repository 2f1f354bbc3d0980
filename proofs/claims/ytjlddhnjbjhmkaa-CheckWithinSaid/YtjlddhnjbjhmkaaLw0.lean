/- Layer 6: a word of a range. -/
import Derived.Test.YtjlddhnjbjhmkaaLb1
import Derived.BigQuiet
set_option linter.unusedVariables false
set_option linter.unusedSimpArgs false
namespace Go.Proofs.Ytjlddhnjbjhmkaa
open Go.RowKit
def wordN (r : Rg) (n : Nat) : Nat := r.l + n % (r.g - r.l + 1)
set_option maxRecDepth 100000 in
set_option maxHeartbeats 1000000 in
theorem word_ok (w : World) (r : Rg) (n : Nat) (hg : r.g < 4294967296) (hlg : r.l ≤ r.g) (hn : n < 4294967296) : Calls Try.prog 16 #[.agg #[.bool r.s, .int .u32 (r.l : Int), .int .u32 (r.g : Int)], .int .u32 (n : Int)] w fun e w' => e = .returned (.int .u32 (wordN r n : Int)) ∧ Below w.heap.size w w' := by
  obtain ⟨s, l, g⟩ := r
  have hlg' : (l : Int) ≤ (g : Int) := Int.ofNat_le.2 hlg
  have hgi : (g : Int) < 4294967296 := by have : g < 4294967296 := hg; omega
  have hni : (n : Int) < 4294967296 := by omega
  have hw : ((wordN ⟨s, l, g⟩ n : Nat) : Int) = (l : Int) + (n : Int) % ((g : Int) - (l : Int) + 1) := by
    show ((l + n % (g - l + 1) : Nat) : Int) = _
    have e : ((g - l + 1 : Nat) : Int) = (g : Int) - (l : Int) + 1 := by have : l ≤ g := hlg; omega
    rw [← e]; push_cast; rfl
  have hm0 : 0 ≤ (n : Int) % ((g : Int) - (l : Int) + 1) := Int.emod_nonneg _ (by omega)
  have hm1 : (n : Int) % ((g : Int) - (l : Int) + 1) < (g : Int) - (l : Int) + 1 := Int.emod_lt_of_pos _ (by omega)
  have HW := Lib.hid hw; clear hw
  go_enter Try.func16, Try.ntmps16
  go_upto_region 1 with fail
  go_quiet (fail)
  all_goals (go_wp2_with fail)
  go_ret
  exact ⟨by rw [HW.out]; rfl, ((Below.refl w.heap.size w).alloc (Nat.le_refl _) _).trans ⟨rfl, rfl, rfl, Nat.le_refl _, fun _ _ => rfl⟩⟩
theorem word_in (r : Rg) (n : Nat) (hlg : r.l ≤ r.g) : r.l ≤ wordN r n ∧ wordN r n ≤ r.g := by
  unfold wordN
  have := Nat.mod_lt n (show 0 < r.g - r.l + 1 by omega)
  omega
/-- Two blocks that are made in any order. -/
structure AlJ (z k1 k2 : Nat) (ty : TypeId) (m : Nat) (F : Nat → Value) (l : Nat → Bool) (v : Nat → Value) (W : World) : Prop where
  a : l k1 = true → ∃ b, v k1 = .pointer (some ⟨b, 0, none⟩) ∧ z ≤ b ∧ Blk W b ty m F
  b : l k2 = true → ∃ b, v k2 = .pointer (some ⟨b, 0, none⟩) ∧ z ≤ b ∧ Blk W b ty m F
  e : l k1 = true → l k2 = true → v k1 ≠ v k2
theorem AlJ.zero (z k1 k2 : Nat) (ty : TypeId) (m : Nat) (F : Nat → Value) (W : World) : AlJ z k1 k2 ty m F (fun _ => false) (fun _ => undef) W := by
  constructor <;> intro h <;> cases h
theorem AlJ.up1 {z k1 k2 : Nat} {ty : TypeId} {m : Nat} {F : Nat → Value} {l : Nat → Bool} {v : Nat → Value} {W : World} (h : AlJ z k1 k2 ty m F l v W) (hk : k1 ≠ k2) (hz : z ≤ W.heap.size) (cs : List Value) (hm : cs.length = m) (hF : F = fun j => cs.getD j undef) : AlJ z k1 k2 ty m F (upd l k1 true) (upd v k1 (.pointer (some ⟨W.heap.size, 0, none⟩))) (W.alloc (.cells cs.toArray ty)) := by
  have hb := (Below.refl W.heap.size W).alloc (Nat.le_refl _) (.cells cs.toArray ty)
  have hn : Blk (W.alloc (.cells cs.toArray ty)) W.heap.size ty m F := by rw [hF, ← hm]; exact Blk.litL W ty cs
  obtain ⟨a, b, e⟩ := h
  constructor <;> simp only [upd_at, upd_ne _ _ _ (Ne.symm hk)]
  · intro _; exact ⟨_, rfl, hz, hn⟩
  · intro q; obtain ⟨b1, c1, c2, c3⟩ := b q; exact ⟨b1, c1, c2, c3.below hb⟩
  · intro _ q
    obtain ⟨b1, c1, c2, c3⟩ := b q
    rw [c1]
    exact ptr_ne (by have := c3.lt; omega)
theorem AlJ.up2 {z k1 k2 : Nat} {ty : TypeId} {m : Nat} {F : Nat → Value} {l : Nat → Bool} {v : Nat → Value} {W : World} (h : AlJ z k1 k2 ty m F l v W) (hk : k1 ≠ k2) (hz : z ≤ W.heap.size) (cs : List Value) (hm : cs.length = m) (hF : F = fun j => cs.getD j undef) : AlJ z k1 k2 ty m F (upd l k2 true) (upd v k2 (.pointer (some ⟨W.heap.size, 0, none⟩))) (W.alloc (.cells cs.toArray ty)) := by
  have hb := (Below.refl W.heap.size W).alloc (Nat.le_refl _) (.cells cs.toArray ty)
  have hn : Blk (W.alloc (.cells cs.toArray ty)) W.heap.size ty m F := by rw [hF, ← hm]; exact Blk.litL W ty cs
  obtain ⟨a, b, e⟩ := h
  constructor <;> simp only [upd_at, upd_ne _ _ _ hk]
  · intro q; obtain ⟨b1, c1, c2, c3⟩ := a q; exact ⟨b1, c1, c2, c3.below hb⟩
  · intro _; exact ⟨_, rfl, hz, hn⟩
  · intro q _
    obtain ⟨b1, c1, c2, c3⟩ := a q
    rw [c1]
    exact ptr_ne (by have := c3.lt; omega)
/-- What jumps make of two ranges. -/
theorem jumps_b (dl dg sl sg a b imm : Nat) (op s : Nat) (tk : Bool) (im : Nat) (had : dl ≤ a ∧ a ≤ dg) (hbs : sl ≤ b ∧ b ≤ sg)
    (h : op = 20 ∧ s = 0 ∧ im = imm ∧ tk = decide (a = imm) ∨ op = 21 ∧ s = 0 ∧ im = imm ∧ tk = decide (a < imm) ∨ op = 22 ∧ s = 4 ∧ im = 0 ∧ tk = decide (a < b) ∨ op = 22 ∧ s = 3 ∧ im = 0 ∧ tk = false) {nx jx : Kn} {ev : Nat}
    (hb : (ev = 0 ∧ behindB 0 ⟨op, 3, s, 1, im⟩ ⟨true, upd (upd (fun _ => rg0) 3 ⟨true, dl, dg⟩) 4 ⟨true, sl, sg⟩⟩ = .ok nx jx) ∨ (ev ≠ 0 ∧ behindB 0 ⟨op, 3, s, 1, im⟩ ⟨true, upd (upd (fun _ => rg0) 3 ⟨true, dl, dg⟩) 4 ⟨true, sl, sg⟩⟩ = .no ev)) :
    ev = 0 ∧ (if tk then jx else nx).come = true ∧ (((if tk then jx else nx).r 3).l ≤ a ∧ a ≤ ((if tk then jx else nx).r 3).g) ∧ (((if tk then jx else nx).r 4).l ≤ b ∧ b ≤ ((if tk then jx else nx).r 4).g) := by
  obtain ⟨kk, hkk⟩ : ∃ kk : Kn, kk = ⟨true, upd (upd (fun _ => rg0) 3 ⟨true, dl, dg⟩) 4 ⟨true, sl, sg⟩⟩ := ⟨_, rfl⟩
  have k3 : kk.r 3 = ⟨true, dl, dg⟩ := by rw [hkk]; rfl
  have k4 : kk.r 4 = ⟨true, sl, sg⟩ := by rw [hkk]; rfl
  have kc : kk.come = true := by rw [hkk]
  have p33 : ∀ x : Sp, (kk.put 3 x).r 3 = ⟨true, x.l, x.g⟩ := fun x => rfl
  have p34 : ∀ x : Sp, (kk.put 3 x).r 4 = kk.r 4 := fun x => rfl
  have p43 : ∀ x y : Sp, ((kk.put 3 x).put 4 y).r 3 = ⟨true, x.l, x.g⟩ := fun x y => rfl
  have p44 : ∀ x y : Sp, ((kk.put 3 x).put 4 y).r 4 = ⟨true, y.l, y.g⟩ := fun x y => rfl
  have pc : ∀ (n : Nat) (x : Sp), (kk.put n x).come = true := fun n x => kc
  have pc2 : ∀ (n m : Nat) (x y : Sp), ((kk.put n x).put m y).come = true := fun n m x y => kc
  rw [← hkk] at hb
  rcases h with ⟨rfl, rfl, rfl, ht⟩ | ⟨rfl, rfl, rfl, ht⟩ | ⟨rfl, rfl, rfl, ht⟩ | ⟨rfl, rfl, rfl, ht⟩
  · have e : behindB 0 ⟨20, 3, 0, 1, im⟩ kk = .ok (if dl = im ∧ dg = im then kn0 else kk.put 3 (if im = dl then ⟨dl + 1, dg⟩ else if im = dg then ⟨dl, dg - 1⟩ else ⟨dl, dg⟩)) (if dl ≤ im ∧ im ≤ dg then kk.put 3 ⟨im, im⟩ else kn0) := by rw [hkk]; rfl
    rw [e] at hb
    rcases hb with ⟨h0, hb⟩ | ⟨_, hb⟩
    · injection hb with h1 h2
      refine ⟨h0, ?_⟩
      by_cases q : a = im
      · have t1 : tk = true := by rw [ht]; exact decide_eq_true q
        rw [t1, if_pos rfl, ← h2, if_pos (by omega), p33, p34, k4]
        exact ⟨pc _ _, ⟨by show im ≤ a; omega, by show a ≤ im; omega⟩, hbs⟩
      · have t1 : tk = false := by rw [ht]; exact decide_eq_false q
        rw [t1, if_neg (by simp), ← h1, if_neg (by omega), p33, p34, k4]
        refine ⟨pc _ _, ?_, hbs⟩
        split
        · exact ⟨by show dl + 1 ≤ a; omega, had.2⟩
        · split
          · exact ⟨had.1, by show a ≤ dg - 1; omega⟩
          · exact had
    · cases hb
  · have e : behindB 0 ⟨21, 3, 0, 1, im⟩ kk = .ok (if im ≤ dg then kk.put 3 ⟨max dl im, dg⟩ else kn0) (if dl < im then kk.put 3 ⟨dl, min dg (im - 1)⟩ else kn0) := by rw [hkk]; rfl
    rw [e] at hb
    rcases hb with ⟨h0, hb⟩ | ⟨_, hb⟩
    · injection hb with h1 h2
      refine ⟨h0, ?_⟩
      by_cases q : a < im
      · have t1 : tk = true := by rw [ht]; exact decide_eq_true q
        rw [t1, if_pos rfl, ← h2, if_pos (by omega), p33, p34, k4]
        exact ⟨pc _ _, ⟨had.1, by show a ≤ min dg (im - 1); omega⟩, hbs⟩
      · have t1 : tk = false := by rw [ht]; exact decide_eq_false q
        rw [t1, if_neg (by simp), ← h1, if_pos (by omega), p33, p34, k4]
        exact ⟨pc _ _, ⟨by show max dl im ≤ a; omega, had.2⟩, hbs⟩
    · cases hb
  · have e : behindB 0 ⟨22, 3, 4, 1, 0⟩ kk = .ok (if sl ≤ dg then (kk.put 3 ⟨max dl sl, dg⟩).put 4 ⟨sl, min sg dg⟩ else kn0) (if dl < sg then (kk.put 3 ⟨dl, min dg (sg - 1)⟩).put 4 ⟨max sl (dl + 1), sg⟩ else kn0) := by rw [hkk]; rfl
    rw [e] at hb
    rcases hb with ⟨h0, hb⟩ | ⟨_, hb⟩
    · injection hb with h1 h2
      refine ⟨h0, ?_⟩
      by_cases q : a < b
      · have t1 : tk = true := by rw [ht]; exact decide_eq_true q
        rw [t1, if_pos rfl, ← h2, if_pos (by omega), p43, p44]
        exact ⟨pc2 _ _ _ _, ⟨had.1, by show a ≤ min dg (sg - 1); omega⟩, by show max sl (dl + 1) ≤ b; omega, hbs.2⟩
      · have t1 : tk = false := by rw [ht]; exact decide_eq_false q
        rw [t1, if_neg (by simp), ← h1, if_pos (by omega), p43, p44]
        exact ⟨pc2 _ _ _ _, ⟨by show max dl sl ≤ a; omega, had.2⟩, hbs.1, by show b ≤ min sg dg; omega⟩
    · cases hb
  · have e : behindB 0 ⟨22, 3, 3, 1, 0⟩ kk = .ok kk kn0 := by rw [hkk]; rfl
    rw [e] at hb
    rcases hb with ⟨h0, hb⟩ | ⟨_, hb⟩
    · injection hb with h1 h2
      rw [ht, if_neg (by simp), ← h1, k3, k4]
      exact ⟨h0, kc, had, hbs⟩
    · cases hb
end Go.Proofs.Ytjlddhnjbjhmkaa
