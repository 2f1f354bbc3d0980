/- Layer 6: the document's Right. -/
import Derived.Test.YtjlddhnjbjhmkaaLw0
set_option linter.unusedVariables false
set_option linter.unusedSimpArgs false
namespace Go.Proofs.Ytjlddhnjbjhmkaa
open Go.RowKit

def rgOkB (r : Rg) : Bool := !(decide (r.g < r.l)) && (r.s || (r.l == 0 && r.g == 0))
def rightB (k : Kn) : Bool := (List.range 10).all fun n => rgOkB (k.r n)
theorem rightB_true {k : Kn} (h : ∀ n, n < 10 → rgOkB (k.r n) = true) : rightB k = true := List.all_eq_true.2 fun n hn => h n (List.mem_range.1 hn)
theorem rightB_false {k : Kn} {n : Nat} (hn : n < 10) (h : rgOkB (k.r n) = false) : rightB k = false := by
  unfold rightB
  rw [List.all_eq_false]
  exact ⟨n, List.mem_range.2 hn, by rw [h]; simp⟩
set_option maxRecDepth 100000 in
set_option maxHeartbeats 1500000 in
theorem refright_ok (w : World) (k : Kn) : Calls Try.prog 20 #[.agg (knL k).toArray] w fun e w' => e = .returned (.bool (rightB k)) ∧ Below w.heap.size w w' := by
  obtain ⟨L, hL⟩ : ∃ L, L = (knL k).toArray := ⟨_, rfl⟩
  obtain ⟨W1, hW1⟩ : ∃ W1, W1 = w.alloc (.cells L 42) := ⟨_, rfl⟩
  have hb1 : Below w.heap.size w W1 := by rw [hW1]; exact ((Below.refl _ _).alloc (Nat.le_refl _) _)
  have hk1 : Blk W1 w.heap.size 42 31 (knF k) := by rw [hW1, hL]; exact Blk.boxed w _ 31 _
  have HB1 := Lib.hid hb1; have HK1 := Lib.hid hk1; clear hb1 hk1
  rw [← hL]; clear hL
  have HW1 := Lib.hid hW1; clear hW1
  go_enter Try.func20, Try.ntmps20
  go_upto_region 1 with fail
  rw [← HW1.out]
  go_wp2
  go_loopw [3] (fun i wr => ∃ n : Nat, n ≤ 10 ∧ i = .int .i64 (n : Int) ∧ (∀ m, m < n → rgOkB (k.r m) = true) ∧ Below W1.heap.size W1 wr) (fun i _ => 10 - (intOf i).toNat)
  case atStart => exact ⟨0, by omega, rfl, fun m h => absurd h (Nat.not_lt_zero _), Below.refl _ _⟩
  case round =>
    obtain ⟨n, hn, rfl, hal, hb⟩ := hrel
    have HAL := Lib.hid hal; have HB := Lib.hid hb; clear hal hb
    have HBw := Lib.hid (HB1.out.trans (HB.out.mono HB1.out.size))
    by_cases hlt : n < 10
    · have hlt' : (n : Int) < 10 := by omega
      have hk := HK1.out.below HB.out
      have hz2 : w.heap.size < wr.heap.size := Blk.lt hk
      have e0 := hk.cell (1 + n * 3) (by omega)
      have e1 := hk.cell (1 + n * 3 + 1) (by omega)
      have e2 := hk.cell (1 + n * 3 + 2) (by omega)
      rw [knF_s] at e0
      rw [knF_l] at e1
      rw [knF_g] at e2
      obtain ⟨r, hr⟩ : ∃ r, r = k.r n := ⟨_, rfl⟩
      rw [← hr] at e0 e1 e2
      have HR := Lib.hid hr; clear hr hk
      obtain ⟨s, l, g⟩ := r
      have hal1 : Below wr.heap.size wr (wr.alloc (.cells #[.bool s, .int .u32 (l : Int), .int .u32 (g : Int)] 37)) := (Below.refl _ _).alloc (Nat.le_refl _) _
      have HX := Lib.hid (HB.out.trans (hal1.mono HB.out.size))
      have HXw := Lib.hid (HBw.out.trans (hal1.mono HBw.out.size))
      clear hal1
      by_cases hgl : g < l
      · have hf : Hid (rightB k = false) := Lib.hid (rightB_false hlt (by rw [← HR.out]; simp [rgOkB, hgl]))
        go_wp2
        go_ret
        exact ⟨by rw [hf.out]; rfl, HXw.out⟩
      · cases s
        · by_cases hl0 : l = 0
          · by_cases hg0 : g = 0
            · have HOK : Hid (rgOkB (k.r n) = true) := Lib.hid (by rw [← HR.out, hl0, hg0]; rfl)
              have q1 : ((l : Int) != 0) = false := by rw [hl0]; rfl
              have q2 : ((g : Int) != 0) = false := by rw [hg0]; rfl
              clear hl0 hg0
              go_wp2
              go_roundw
              case rel =>
                refine ⟨n + 1, by omega, by go_num, fun m hm => ?_, HX.out⟩
                by_cases e : m = n
                · rw [e]; exact HOK.out
                · exact HAL.out m (by omega)
              case measure => simp [intOf]; omega
            · have hf : Hid (rightB k = false) := Lib.hid (rightB_false hlt (by rw [← HR.out]; simp [rgOkB, hg0]))
              have q1 : ((l : Int) != 0) = false := by rw [hl0]; rfl
              have q2 : ((g : Int) != 0) = true := by simp; omega
              clear hl0 hg0
              go_wp2
              go_ret
              exact ⟨by rw [hf.out]; rfl, HXw.out⟩
          · have hf : Hid (rightB k = false) := Lib.hid (rightB_false hlt (by rw [← HR.out]; simp [rgOkB, hl0]))
            have q1 : ((l : Int) != 0) = true := by simp; omega
            clear hl0
            go_wp2
            go_ret
            exact ⟨by rw [hf.out]; rfl, HXw.out⟩
        · have HOK : Hid (rgOkB (k.r n) = true) := Lib.hid (by rw [← HR.out]; simp [rgOkB, hgl])
          go_wp2
          go_roundw
          case rel =>
            refine ⟨n + 1, by omega, by go_num, fun m hm => ?_, HX.out⟩
            by_cases e : m = n
            · rw [e]; exact HOK.out
            · exact HAL.out m (by omega)
          case measure => simp [intOf]; omega
    · obtain rfl : n = 10 := by omega
      have hf : Hid (rightB k = true) := Lib.hid (rightB_true HAL.out)
      go_wp2
      go_ret
      exact ⟨by rw [hf.out]; rfl, HBw.out⟩
end Go.Proofs.Ytjlddhnjbjhmkaa
