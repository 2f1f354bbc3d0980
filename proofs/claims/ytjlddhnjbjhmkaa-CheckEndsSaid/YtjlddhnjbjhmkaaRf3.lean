/- Layer 6, the document's answer: the product of two spans. -/
import Derived.Test.YtjlddhnjbjhmkaaRf2
import Derived.BigQuiet
set_option linter.unusedVariables false
set_option linter.unusedSimpArgs false
namespace Go.Proofs.Ytjlddhnjbjhmkaa
open Go.RowKit

theorem span3_world (w : World) (a b c e : Int) : ∃ W1, Hid (W1 = ((w.alloc (.cells #[.int .i64 a, .int .i64 b] 83)).alloc (.cells #[.int .i64 c, .int .i64 e] 83)).alloc (.cells #[.int .i64 0, .int .i64 0] 83)) ∧ Hid (Below w.heap.size w W1) ∧ Hid (Blk W1 w.heap.size 83 2 (fun j => [.int .i64 a, .int .i64 b].getD j undef)) ∧ Hid (Blk W1 (w.heap.size + 1) 83 2 (fun j => [.int .i64 c, .int .i64 e].getD j undef)) ∧ Hid (Blk W1 (w.heap.size + 2) 83 2 (fun j => [.int .i64 0, .int .i64 0].getD j undef)) := by
  have h1 : Blk (w.alloc (.cells #[.int .i64 a, .int .i64 b] 83)) w.heap.size 83 2 (fun j => [.int .i64 a, .int .i64 b].getD j undef) := Blk.litL w 83 [.int .i64 a, .int .i64 b]
  obtain ⟨Wa, hWa⟩ : ∃ Wa, Wa = w.alloc (.cells #[.int .i64 a, .int .i64 b] 83) := ⟨_, rfl⟩
  have ba : Below w.heap.size w Wa := by rw [hWa]; exact (Below.refl _ _).alloc (Nat.le_refl _) _
  have za : Wa.heap.size = w.heap.size + 1 := by rw [hWa]; simp
  rw [← hWa] at h1 ⊢
  have h2 : Blk (Wa.alloc (.cells #[.int .i64 c, .int .i64 e] 83)) Wa.heap.size 83 2 (fun j => [.int .i64 c, .int .i64 e].getD j undef) := Blk.litL Wa 83 [.int .i64 c, .int .i64 e]
  obtain ⟨Wb, hWb⟩ : ∃ Wb, Wb = Wa.alloc (.cells #[.int .i64 c, .int .i64 e] 83) := ⟨_, rfl⟩
  have bb : Below Wa.heap.size Wa Wb := by rw [hWb]; exact (Below.refl _ _).alloc (Nat.le_refl _) _
  have zb : Wb.heap.size = w.heap.size + 2 := by rw [hWb]; simp [za]
  rw [← hWb] at h2 ⊢
  have h3 : Blk (Wb.alloc (.cells #[.int .i64 0, .int .i64 0] 83)) Wb.heap.size 83 2 (fun j => [.int .i64 0, .int .i64 0].getD j undef) := Blk.litL Wb 83 [.int .i64 0, .int .i64 0]
  have bc : Below Wb.heap.size Wb (Wb.alloc (.cells #[.int .i64 0, .int .i64 0] 83)) := (Below.refl _ _).alloc (Nat.le_refl _) _
  rw [za] at h2
  rw [zb] at h3
  have bab := ba.trans (bb.mono ba.size)
  exact ⟨_, Lib.hid rfl, Lib.hid (bab.trans (bc.mono bab.size)), Lib.hid ((h1.below bb).below bc), Lib.hid (h2.below bc), Lib.hid h3⟩
theorem times_iff (dg sg : Nat) (hd : 0 < dg) : 4294967295 / dg < sg ↔ 4294967295 < dg * sg := by
  rw [Nat.div_lt_iff_lt_mul hd, Nat.mul_comm]
end Go.Proofs.Ytjlddhnjbjhmkaa
