/- May an instruction be: words. -/
import Derived.Test.YtpnkbpjhbmacaaaVm14
set_option linter.unusedVariables false
set_option linter.unusedSimpArgs false
namespace Go.Proofs.Ytpnkbpjhbmacaaa
open Go.RowKit

theorem bcell {W w1 : World} (hb : Below W.heap.size W w1) : (∀ b o, b < W.heap.size → w1.cell? ⟨b, o, none⟩ = W.cell? ⟨b, o, none⟩) ∧ (∀ b o, b < W.heap.size → w1.frozen? ⟨b, o, none⟩ = W.frozen? ⟨b, o, none⟩) :=
  ⟨fun b o h => hb.cell (p := ⟨b, o, none⟩) h, fun b o h => hb.frozen (p := ⟨b, o, none⟩) h⟩
theorem may_below {w w1 : World} {o : Obj} {o2 : Obj} (h : Below (w.alloc o).heap.size (w.alloc o) w1) : Below w.heap.size w (w1.alloc o2) :=
  (((Below.refl _ _).alloc (Nat.le_refl _) _).trans (h.mono (by simp))).alloc (by have := h.size; simp at this; omega) _
end Go.Proofs.Ytpnkbpjhbmacaaa
