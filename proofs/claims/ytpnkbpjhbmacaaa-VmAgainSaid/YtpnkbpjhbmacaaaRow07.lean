/- A law's arguments, opened. -/
import Derived.Test.YtpnkbpjhbmacaaaRows
import Derived.Test.YtpnkbpjhbmacaaaVm14d
import Derived.WalkKit
import Derived.ProofKit
import Derived.OpenShut
import Derived.ShutString
import Derived.ChangeOld
import Derived.ChangeSame
import Derived.Below
import Derived.Carry
import Derived.Deep.Grids
import Derived.Deep.Slices
import Derived.Deep.Fields
import Derived.Lib.SmallJoins
namespace Go.Proofs.Ytpnkbpjhbmacaaa
open Go.ChangeShapes Go.WideShapes Go.ChangeAt Go.RowKit Go.Deep
set_option linter.unusedVariables false
set_option linter.unusedSimpArgs false
set_option maxRecDepth 100000

theorem own08 : ownKnob Try.prog.godebug = none := by kernel_rfl
theorem laidOut08 : laidOutB Try.prog = true := by kernel_rfl
theorem wf_i64 {x : Int} (h : (Lit.int .i64 x).wf = true) : -9223372036854775808 ≤ x ∧ x ≤ 9223372036854775807 := by
  simp only [Lit.wf, Bool.and_eq_true, decide_eq_true_eq] at h
  have e1 : IntKind.min .i64 = -9223372036854775808 := by decide
  have e2 : IntKind.max .i64 = 9223372036854775807 := by decide
  omega
theorem wf_u8 {x : Int} (h : (Lit.int .u8 x).wf = true) : 0 ≤ x ∧ x ≤ 255 := by
  simp only [Lit.wf, Bool.and_eq_true, decide_eq_true_eq] at h
  have e1 : IntKind.min .u8 = 0 := by decide
  have e2 : IntKind.max .u8 = 255 := by decide
  omega
theorem wf_u32 {x : Int} (h : (Lit.int .u32 x).wf = true) : 0 ≤ x ∧ x ≤ 4294967295 := by
  simp only [Lit.wf, Bool.and_eq_true, decide_eq_true_eq] at h
  have e1 : IntKind.min .u32 = 0 := by decide
  have e2 : IntKind.max .u32 = 4294967295 := by decide
  omega

/-- Bytes that came in, in a cell. -/
theorem bytes_cell {H : Type} {enc : TypeId × Value → H} {W : World} {held : Bool} {fuel : Nat} {v : Value} {x : DataW H × List MemPlace} (h : DataW.trod enc Try.prog W 0 (fun _ => true) held fuel 25 [v] = some x) :
    ∃ (A : Option Addr) (l : List UInt8) (c : Nat), v = .slice A l.length c ∧ By W Any A l.length c l := by
  rcases open_ints Try.underlying25 Try.underlying5 (by kernel_rfl) h with ⟨hcs, _⟩ | ⟨a, len, cap, zs, hcs, _, hl, hm, hz, hx, hcell, hwf⟩
  · simp at hcs
    exact ⟨none, [], 0, hcs, Sl.nil _ _ _⟩
  · simp at hcs
    simp only [if_true] at hz
    have e : (((zs.take len)).map (fun z => UInt8.ofNat z.toNat)).length = len := by simp; omega
    refine ⟨some a, (zs.take len).map (fun z => UInt8.ofNat z.toNat), cap, by rw [e]; exact hcs, ?_⟩
    rw [e]
    refine ⟨by simp [bv]; omega, hl, hm, fun h => (by cases h), fun a' ha hn => ?_⟩
    injection ha with ha
    subst ha
    refine ⟨trivial, ?_, fun j u hu => ?_⟩
    · have := World.block_lt_of_cell? W _ (hcell 0 (by omega))
      rwa [add_block] at this
    · have hj : j < len := by have := (List.getElem?_eq_some_iff.1 hu).1; simp [bv] at this; omega
      rw [hcell j (by omega)]
      have hzj : zs[j]? = some (zs[j]'(by omega)) := List.getElem?_eq_getElem (by omega)
      have hw := wf_u8 (hwf _ (List.getElem_mem (show j < zs.length by omega)))
      simp only [bv, List.getElem?_map, List.getElem?_take_of_lt hj, hzj, Option.map_some, Option.some.injEq] at hu
      rw [← hu]
      simp only [List.getD, hzj, Option.getD_some]
      congr 2
      rw [UInt8.toNat_ofNat']
      omega
theorem bytes_in {H : Type} {enc : TypeId × Value → H} {W : World} {v : Value} {d : DataW H} {p : List MemPlace} (hv : Value.okWide Try.prog W .any 0 25 v) (h : DataW.Trod enc Try.prog W 0 (fun _ => true) true 25 v d p) :
    ∃ (A : Option Addr) (l : List UInt8) (c : Nat), v = .slice A l.length c ∧ By W Any A l.length c l := by
  obtain ⟨a0, len0, cap0, rfl⟩ := okWide_slice Try.underlying25 hv
  obtain ⟨fuel, hf⟩ := h
  exact bytes_cell hf

/-- Words that came in, in a cell. -/
theorem words_cell {H : Type} {enc : TypeId × Value → H} {W : World} {held : Bool} {fuel : Nat} {v : Value} {x : DataW H × List MemPlace} (h : DataW.trod enc Try.prog W 0 (fun _ => true) held fuel 26 [v] = some x) :
    ∃ (A : Option Addr) (l : List Nat) (c : Nat), v = .slice A l.length c ∧ Sl W Any 1 A l.length c (l.map fun v : Nat => Value.int .u32 (v : Int)) ∧ ∀ v, v ∈ l → v < 4294967296 := by
  rcases open_ints Try.underlying26 Try.underlying30 (by kernel_rfl) h with ⟨hcs, _⟩ | ⟨a, len, cap, zs, hcs, _, hl, hm, hz, hx, hcell, hwf⟩
  · simp at hcs
    exact ⟨none, [], 0, hcs, Sl.nil _ _ _, fun _ h => by simp at h⟩
  · simp at hcs
    simp only [if_true] at hz
    have e : (((zs.take len)).map (fun z => z.toNat)).length = len := by simp; omega
    refine ⟨some a, (zs.take len).map (fun z => z.toNat), cap, by rw [e]; exact hcs, ?_, fun u hu => ?_⟩
    · rw [e]
      refine ⟨by simp; omega, hl, hm, fun h => (by cases h), fun a' ha hn => ?_⟩
      injection ha with ha
      subst ha
      refine ⟨trivial, ?_, fun j u hu => ?_⟩
      · have := World.block_lt_of_cell? W _ (hcell 0 (by omega))
        rwa [add_block] at this
      · have hj : j < len := by have := (List.getElem?_eq_some_iff.1 hu).1; simp at this; omega
        rw [hcell j (by omega)]
        have hzj : zs[j]? = some (zs[j]'(by omega)) := List.getElem?_eq_getElem (by omega)
        have hw := wf_u32 (hwf _ (List.getElem_mem (show j < zs.length by omega)))
        simp only [List.getElem?_map, List.getElem?_take_of_lt hj, hzj, Option.map_some, Option.some.injEq] at hu
        rw [← hu]
        simp only [List.getD, hzj, Option.getD_some]
        congr 2
        omega
    · obtain ⟨z, hz1, rfl⟩ := List.mem_map.1 hu
      have hw := wf_u32 (hwf z (List.mem_of_mem_take hz1))
      omega
theorem words_in {H : Type} {enc : TypeId × Value → H} {W : World} {v : Value} {d : DataW H} {p : List MemPlace} (hv : Value.okWide Try.prog W .any 0 26 v) (h : DataW.Trod enc Try.prog W 0 (fun _ => true) true 26 v d p) :
    ∃ (A : Option Addr) (l : List Nat) (c : Nat), v = .slice A l.length c ∧ Sl W Any 1 A l.length c (l.map fun v : Nat => Value.int .u32 (v : Int)) ∧ ∀ v, v ∈ l → v < 4294967296 := by
  obtain ⟨a0, len0, cap0, rfl⟩ := okWide_slice Try.underlying26 hv
  obtain ⟨fuel, hf⟩ := h
  exact words_cell hf

theorem ins_cell {H : Type} {enc : TypeId × Value → H} {W : World} {held : Bool} {fuel : Nat} {cs : List Value} {x : DataW H × List MemPlace} (hl : cs.length = 5) (h : DataW.trod enc Try.prog W 0 (fun _ => true) held fuel 50 cs = some x) :
    ∃ i : InsZ, cs = insZC i ∧ i.imm < 4294967296 := by
  match cs, hl with
  | [v0, v1, v2, v3, v4], _ =>
    obtain ⟨ys, n', hn', hy, hlen, hyl, hf⟩ := DataW.trod_struct Try.underlying50 h
    have e3 : Try.prog.cellsOf 3 = 1 := by kernel_rfl
    have e48 : Try.prog.cellsOf 48 = 1 := by kernel_rfl
    have e30 : Try.prog.cellsOf 30 = 1 := by kernel_rfl
    have hy5 : ys.length = 5 := hyl
    have g : ∀ j, j < 5 → ∃ y, ys[j]? = some y := fun j hj => ⟨_, List.getElem?_eq_getElem (by omega)⟩
    obtain ⟨y0, h0⟩ := g 0 (by omega)
    obtain ⟨y1, h1⟩ := g 1 (by omega)
    obtain ⟨y2, h2⟩ := g 2 (by omega)
    obtain ⟨y3, h3⟩ := g 3 (by omega)
    obtain ⟨y4, h4⟩ := g 4 (by omega)
    have f0 : DataW.trod enc Try.prog W 0 (fun _ => true) held n' 48 [v0] = some y0 := by have q := hf 0 _ rfl; rw [h0] at q; simpa [e48] using q
    have f1 : DataW.trod enc Try.prog W 0 (fun _ => true) held n' 3 [v1] = some y1 := by have q := hf 1 _ rfl; rw [h1] at q; simpa [e3] using q
    have f2 : DataW.trod enc Try.prog W 0 (fun _ => true) held n' 3 [v2] = some y2 := by have q := hf 2 _ rfl; rw [h2] at q; simpa [e3] using q
    have f3 : DataW.trod enc Try.prog W 0 (fun _ => true) held n' 3 [v3] = some y3 := by have q := hf 3 _ rfl; rw [h3] at q; simpa [e3] using q
    have f4 : DataW.trod enc Try.prog W 0 (fun _ => true) held n' 30 [v4] = some y4 := by have q := hf 4 _ rfl; rw [h4] at q; simpa [e30] using q
    obtain ⟨a0, ea0, _, wa0⟩ := DataW.trod_int Try.underlying48 f0
    obtain ⟨a1, ea1, _, wa1⟩ := DataW.trod_int Try.underlying3 f1
    obtain ⟨a2, ea2, _, wa2⟩ := DataW.trod_int Try.underlying3 f2
    obtain ⟨a3, ea3, _, wa3⟩ := DataW.trod_int Try.underlying3 f3
    obtain ⟨a4, ea4, _, wa4⟩ := DataW.trod_int Try.underlying30 f4
    simp at ea0 ea1 ea2 ea3 ea4
    subst ea0; subst ea1; subst ea2; subst ea3; subst ea4
    have hw := wf_u32 wa4
    obtain ⟨m, rfl⟩ := Int.eq_ofNat_of_zero_le hw.1
    exact ⟨⟨a0, a1, a2, a3, m⟩, rfl, by show m < 4294967296; omega⟩
theorem ins_build {C : Nat → Value → Prop} : ∀ len, (∀ i, i < len → ∃ x : InsZ, x.imm < 4294967296 ∧ ∀ j u, (insZC x)[j]? = some u → C (i * 5 + j) u) →
    ∃ xs : List InsZ, xs.length = len ∧ (∀ i, i ∈ xs → i.imm < 4294967296) ∧ ∀ j u, (xs.flatMap insZC)[j]? = some u → C j u
  | 0, _ => ⟨[], rfl, fun _ h => by simp at h, fun j u h => by simp at h⟩
  | len + 1, h => by
    obtain ⟨xs, h1, h2, h3⟩ := ins_build len (fun i hi => h i (by omega))
    obtain ⟨x, k1, k3⟩ := h len (by omega)
    have hl : (xs.flatMap insZC).length = len * 5 := by
      rw [← h1]
      clear h1 h2 h3 h k3
      induction xs with
      | nil => rfl
      | cons y ys ih => rw [List.flatMap_cons, List.length_append, ih, List.length_cons]; simp [insZC]; omega
    refine ⟨xs ++ [x], by simp [h1], fun i hi => ?_, fun j u hu => ?_⟩
    · rcases List.mem_append.1 hi with h | h
      · exact h2 i h
      · rw [List.mem_singleton.1 h]; exact k1
    · rw [List.flatMap_append, List.flatMap_singleton] at hu
      by_cases hj : j < (xs.flatMap insZC).length
      · rw [List.getElem?_append_left hj] at hu
        exact h3 j u hu
      · rw [List.getElem?_append_right (by omega)] at hu
        have := k3 _ u hu
        rw [hl] at this
        rwa [show len * 5 + (j - len * 5) = j from by rw [hl] at hj; omega] at this
theorem inss_cell {H : Type} {enc : TypeId × Value → H} {W : World} {held : Bool} {fuel : Nat} {v : Value} {x : DataW H × List MemPlace} (h : DataW.trod enc Try.prog W 0 (fun _ => true) held fuel 22 [v] = some x) :
    ∃ (A : Option Addr) (xs : List InsZ) (c : Nat), v = .slice A xs.length c ∧ Sl W Any 5 A xs.length c (xs.flatMap insZC) ∧ ∀ i, i ∈ xs → i.imm < 4294967296 := by
  have hC : Try.prog.cellsOf 50 = 5 := by kernel_rfl
  rcases Deep.open_slice Try.underlying22 h with ⟨hcs, _⟩ | ⟨a, len, cap, m, n, D, Pl, hcs, _, hl, hm, hmm, _, hi⟩
  · simp [Value.cells] at hcs
    subst hcs
    exact ⟨none, [], 0, rfl, Sl.nil _ _ _, fun _ h => by simp at h⟩
  · simp [Value.cells] at hcs
    subst hcs
    have hlm : len ≤ m := by
      split at hmm <;> omega
    rw [hC] at hi
    obtain ⟨xs, hxl, him, hcell⟩ := ins_build (C := fun j u => W.cell? (a.add j) = some u) len (fun i hil => by
      obtain ⟨cs', hc, ht⟩ := hi i (by omega)
      obtain ⟨_, hcl, hat⟩ := World.cells?_some hc
      obtain ⟨x, rfl, hx⟩ := ins_cell hcl ht
      refine ⟨x, hx, fun j u hu => ?_⟩
      have hj : j < 5 := by have := (List.getElem?_eq_some_iff.1 hu).1; simp [insZC] at this; omega
      rw [← Go.Deep.add_add, hat j hj, hu])
    refine ⟨some a, xs, cap, by rw [hxl], ?_, him⟩
    have hlen : (xs.flatMap insZC).length = xs.length * 5 := by
      clear hxl him hcell
      induction xs with
      | nil => rfl
      | cons y ys ih => rw [List.flatMap_cons, List.length_append, ih, List.length_cons]; simp [insZC]; omega
    refine ⟨hlen, by rw [hxl]; exact hl, hm, fun h => (by cases h), fun a' ha hn => ?_⟩
    injection ha with ha
    subst ha
    refine ⟨trivial, ?_, hcell⟩
    have hc0 : 0 < (xs.flatMap insZC).length := by rw [hlen]; omega
    have := World.block_lt_of_cell? W _ (hcell 0 _ (List.getElem?_eq_getElem hc0))
    rwa [add_block] at this
theorem prog_in {H : Type} {enc : TypeId × Value → H} {W : World} {v : Value} {d : DataW H} {p : List MemPlace} (hv : Value.okWide Try.prog W .any 0 24 v) (h : DataW.Trod enc Try.prog W 0 (fun _ => true) true 24 v d p) :
    ∃ (ctx : Int) (A : Option Addr) (xs : List InsZ) (c : Nat), v = .agg #[.int .i64 ctx, .slice A xs.length c] ∧ Sl W Any 5 A xs.length c (xs.flatMap insZC) ∧ (∀ i, i ∈ xs → i.imm < 4294967296) ∧ -9223372036854775808 ≤ ctx ∧ ctx ≤ 9223372036854775807 := by
  obtain ⟨v0, v1, y0, y1, n, rfl, _, _, h0, h1⟩ := Joins.open_agg2 Try.underlying24 (by kernel_rfl) (by kernel_rfl) hv h
  obtain ⟨a, e0, _, w0⟩ := DataW.trod_int Try.underlying3 h0
  obtain ⟨A, xs, c, rfl, h2, h3⟩ := inss_cell h1
  simp at e0
  subst e0
  exact ⟨a, A, xs, c, rfl, h2, h3, wf_i64 w0⟩
end Go.Proofs.Ytpnkbpjhbmacaaa
