/- A law's arguments, opened. -/
import Derived.Test.YtmajfiljajbipaaRows
import Derived.Test.YtmajfiljajbipaaFew08
import Derived.WalkKit
import Derived.ProofKit
import Derived.OpenShut
import Derived.ShutString
import Derived.ChangeOld
import Derived.Below
import Derived.Carry
import Derived.Deep.Grids
import Derived.Lib.SmallJoins
namespace Go.Proofs.Ytmajfiljajbipaa
open Go.ChangeShapes Go.WideShapes Go.ChangeAt Go.RowKit
set_option linter.unusedVariables false

theorem own08 : ownKnob Try.prog.godebug = none := by kernel_rfl
theorem laidOut08 : laidOutB Try.prog = true := by kernel_rfl
theorem wf_i64 {x : Int} (h : (Lit.int .i64 x).wf = true) : -9223372036854775808 ≤ x ∧ x ≤ 9223372036854775807 := by
  simp only [Lit.wf, Bool.and_eq_true, decide_eq_true_eq] at h
  have e1 : IntKind.min .i64 = -9223372036854775808 := by decide
  have e2 : IntKind.max .i64 = 9223372036854775807 := by decide
  omega
theorem wf_u8 {x : Int} (h : (Lit.int .u8 x).wf = true) : 0 ≤ x ∧ x ≤ 255 := by
  simp only [Lit.wf, Bool.and_eq_true, decide_eq_true_eq] at h
  have e1 : IntKind.min .u8 = 0 := by decide
  have e2 : IntKind.max .u8 = 255 := by decide
  omega

/-- Bytes that came in, in a cell. -/
theorem bytes_cell {H : Type} {enc : TypeId × Value → H} {W : World} {held : Bool} {fuel : Nat} {v : Value} {x : DataW H × List MemPlace} (h : DataW.trod enc Try.prog W 0 (fun _ => true) held fuel 38 [v] = some x) :
    ∃ (A : Option Addr) (l : List UInt8) (c : Nat), v = .slice A l.length c ∧ By W Any A l.length c l := by
  rcases open_ints Try.underlying38 Try.underlying5 (by kernel_rfl) h with ⟨hcs, _⟩ | ⟨a, len, cap, zs, hcs, _, hl, hm, hz, hx, hcell, hwf⟩
  · simp at hcs
    exact ⟨none, [], 0, hcs, Sl.nil _ _ _⟩
  · simp at hcs
    simp only [if_true] at hz
    have e : (((zs.take len)).map (fun z => UInt8.ofNat z.toNat)).length = len := by simp; omega
    refine ⟨some a, (zs.take len).map (fun z => UInt8.ofNat z.toNat), cap, by rw [e]; exact hcs, ?_⟩
    rw [e]
    refine ⟨by simp [bv]; omega, hl, hm, fun h => (by cases h), fun a' ha hn => ?_⟩
    injection ha with ha
    subst ha
    refine ⟨trivial, ?_, fun j u hu => ?_⟩
    · have := World.block_lt_of_cell? W _ (hcell 0 (by omega))
      rwa [add_block] at this
    · have hj : j < len := by have := (List.getElem?_eq_some_iff.1 hu).1; simp [bv] at this; omega
      rw [hcell j (by omega)]
      have hzj : zs[j]? = some (zs[j]'(by omega)) := List.getElem?_eq_getElem (by omega)
      have hw := wf_u8 (hwf _ (List.getElem_mem (show j < zs.length by omega)))
      simp only [bv, List.getElem?_map, List.getElem?_take_of_lt hj, hzj, Option.map_some, Option.some.injEq] at hu
      rw [← hu]
      simp only [List.getD, hzj, Option.getD_some]
      congr 2
      rw [UInt8.toNat_ofNat']
      omega
theorem bytes_in {H : Type} {enc : TypeId × Value → H} {W : World} {v : Value} {d : DataW H} {p : List MemPlace} (hv : Value.okWide Try.prog W .any 0 38 v) (h : DataW.Trod enc Try.prog W 0 (fun _ => true) true 38 v d p) :
    ∃ (A : Option Addr) (l : List UInt8) (c : Nat), v = .slice A l.length c ∧ By W Any A l.length c l := by
  obtain ⟨a0, len0, cap0, rfl⟩ := okWide_slice Try.underlying38 hv
  obtain ⟨fuel, hf⟩ := h
  exact bytes_cell hf
theorem crash_arg {H : Type} {enc : TypeId × Value → H} {W : World} {v : Value} {d : DataW H} {p : List MemPlace} (hv : Value.okWide Try.prog W .any 0 36 v) (h : DataW.Trod enc Try.prog W 0 (fun _ => true) true 36 v d p) :
    ∃ keep torn : Int, v = .agg #[.int .i64 keep, .int .i64 torn] := by
  obtain ⟨v0, v1, y0, y1, n, rfl, _, _, h0, h1⟩ := Joins.open_agg2 Try.underlying36 (by kernel_rfl) (by kernel_rfl) hv h
  obtain ⟨a, e0, _⟩ := DataW.trod_int Try.underlying3 h0
  obtain ⟨b, e1, _⟩ := DataW.trod_int Try.underlying3 h1
  simp at e0 e1
  subst e0; subst e1
  exact ⟨a, b, rfl⟩
end Go.Proofs.Ytmajfiljajbipaa
