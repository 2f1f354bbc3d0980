/- Bytes as a string. -/
import Derived.Test.YtmajfiljajbipaaApp
import Derived.Laws.IdiomStrings
set_option linter.unusedVariables false
namespace Go.Proofs.Ytmajfiljajbipaa
open Go.RowKit
theorem conv_by {P : Program} {ok : Nat → Prop} (src dst e : TypeId) (hs : P.underlying src = some (.slice e)) (he : P.underlying e = some (.int .u8)) (hd : P.underlying dst = some .string) (w : World) (A : Option Addr) (n c : Nat) (l : List UInt8) (h : By w ok A n c l) :
    (convert src dst (.slice A n c)).run P w = .ok (.string ⟨l.toArray⟩) w := by
  have hlen : l.length = n := by have := h.1; simpa [bv] using this
  cases A with
  | none =>
    have hc : c = 0 := h.2.2.2.1 rfl
    have hn := h.2.1
    have : l = [] := List.eq_nil_of_length_eq_zero (by omega)
    subst this
    exact run_convert_bytes_nil w src e hs he n c dst hd
  | some a =>
    subst hlen
    refine run_convert_bytes_back w src dst e a c l hs he hd (fun j hj => ?_)
    exact h.cells j _ (by simp [bv, List.getElem?_eq_getElem hj])
theorem str_beq (l m : List UInt8) : ((⟨l.toArray⟩ : ByteArray).toList == (⟨m.toArray⟩ : ByteArray).toList) = decide (l = m) := by
  rw [ByteArray.toList_eq, ByteArray.toList_eq]
  by_cases h : l = m
  · subst h; simp
  · simp [h]
end Go.Proofs.Ytmajfiljajbipaa
