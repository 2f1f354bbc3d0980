/- Whole numbers that came in. -/
import Derived.Test.YtmajfiljajbipaaRow08
namespace Go.Proofs.Ytmajfiljajbipaa
open Go.ChangeShapes Go.WideShapes Go.ChangeAt Go.RowKit
set_option linter.unusedVariables false

theorem ints_in {H : Type} {enc : TypeId × Value → H} {W : World} {v : Value} {d : DataW H} {p : List MemPlace} (hv : Value.okWide Try.prog W .any 0 62 v) (h : DataW.Trod enc Try.prog W 0 (fun _ => true) true 62 v d p) :
    ∃ (A : Option Addr) (xs : List Int) (c : Nat), v = .slice A xs.length c ∧ Sl W Any 1 A xs.length c (xs.map (Value.int .i64)) := by
  obtain ⟨a0, len0, cap0, rfl⟩ := okWide_slice Try.underlying62 hv
  obtain ⟨fuel, h⟩ := h
  rcases open_ints Try.underlying62 Try.underlying3 (by kernel_rfl) h with ⟨hcs, _⟩ | ⟨a, len, cap, zs, hcs, _, hl, hm, hz, hx, hcell, hwf⟩
  · simp [Value.cells] at hcs
    obtain ⟨rfl, rfl, rfl⟩ := hcs
    exact ⟨none, [], 0, rfl, Sl.nil _ _ _⟩
  · simp [Value.cells] at hcs
    obtain ⟨rfl, rfl, rfl⟩ := hcs
    simp only [if_true] at hz
    have e : (zs.take len0).length = len0 := by simp; omega
    refine ⟨some a, zs.take len0, cap0, by rw [e], ?_⟩
    rw [e]
    refine ⟨by simp; omega, hl, hm, fun h => (by cases h), fun a' ha hn => ?_⟩
    injection ha with ha
    subst ha
    refine ⟨trivial, ?_, fun j u hu => ?_⟩
    · have := World.block_lt_of_cell? W _ (hcell 0 (by omega))
      rwa [add_block] at this
    · have hj : j < len0 := by have := (List.getElem?_eq_some_iff.1 hu).1; simp at this; omega
      rw [hcell j (by omega)]
      have hzj : zs[j]? = some (zs[j]'(by omega)) := List.getElem?_eq_getElem (by omega)
      simp only [List.getElem?_map, List.getElem?_take_of_lt hj, hzj, Option.map_some, Option.some.injEq] at hu
      rw [← hu]
      simp only [List.getD, hzj, Option.getD_some]
end Go.Proofs.Ytmajfiljajbipaa
