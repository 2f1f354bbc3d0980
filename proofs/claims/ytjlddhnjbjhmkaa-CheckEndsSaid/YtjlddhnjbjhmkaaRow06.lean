/- The laws' arguments, opened. -/
import Derived.Test.YtjlddhnjbjhmkaaRows
import Derived.Test.YtjlddhnjbjhmkaaGv
import Derived.WalkKit
import Derived.ProofKit
import Derived.OpenShut
import Derived.ShutString
import Derived.ChangeOld
import Derived.ChangeSame
import Derived.Below
import Derived.Carry
import Derived.Deep.Grids
import Derived.Deep.Slices
import Derived.Deep.Fields
import Derived.Lib.SmallJoins
namespace Go.Proofs.Ytjlddhnjbjhmkaa
open Go.ChangeShapes Go.WideShapes Go.ChangeAt Go.RowKit Go.Deep
set_option linter.unusedVariables false
set_option linter.unusedSimpArgs false
set_option maxRecDepth 100000

theorem own08 : ownKnob Try.prog.godebug = none := by kernel_rfl
theorem laidOut08 : laidOutB Try.prog = true := by kernel_rfl
theorem wf_i64 {x : Int} (h : (Lit.int .i64 x).wf = true) : -9223372036854775808 ≤ x ∧ x ≤ 9223372036854775807 := by
  simp only [Lit.wf, Bool.and_eq_true, decide_eq_true_eq] at h
  have e1 : IntKind.min .i64 = -9223372036854775808 := by decide
  have e2 : IntKind.max .i64 = 9223372036854775807 := by decide
  omega
theorem wf_u8 {x : Int} (h : (Lit.int .u8 x).wf = true) : 0 ≤ x ∧ x ≤ 255 := by
  simp only [Lit.wf, Bool.and_eq_true, decide_eq_true_eq] at h
  have e1 : IntKind.min .u8 = 0 := by decide
  have e2 : IntKind.max .u8 = 255 := by decide
  omega
theorem wf_u32 {x : Int} (h : (Lit.int .u32 x).wf = true) : 0 ≤ x ∧ x ≤ 4294967295 := by
  simp only [Lit.wf, Bool.and_eq_true, decide_eq_true_eq] at h
  have e1 : IntKind.min .u32 = 0 := by decide
  have e2 : IntKind.max .u32 = 4294967295 := by decide
  omega

theorem ins_cell {H : Type} {enc : TypeId × Value → H} {W : World} {held : Bool} {fuel : Nat} {cs : List Value} {x : DataW H × List MemPlace} (hl : cs.length = 5) (h : DataW.trod enc Try.prog W 0 (fun _ => true) held fuel 45 cs = some x) :
    ∃ i : InsZ, cs = insZC i ∧ i.imm < 4294967296 := by
  match cs, hl with
  | [v0, v1, v2, v3, v4], _ =>
    obtain ⟨ys, n', hn', hy, hlen, hyl, hf⟩ := DataW.trod_struct Try.underlying45 h
    have e3 : Try.prog.cellsOf 3 = 1 := by kernel_rfl
    have e48 : Try.prog.cellsOf 43 = 1 := by kernel_rfl
    have e30 : Try.prog.cellsOf 35 = 1 := by kernel_rfl
    have hy5 : ys.length = 5 := hyl
    have g : ∀ j, j < 5 → ∃ y, ys[j]? = some y := fun j hj => ⟨_, List.getElem?_eq_getElem (by omega)⟩
    obtain ⟨y0, h0⟩ := g 0 (by omega)
    obtain ⟨y1, h1⟩ := g 1 (by omega)
    obtain ⟨y2, h2⟩ := g 2 (by omega)
    obtain ⟨y3, h3⟩ := g 3 (by omega)
    obtain ⟨y4, h4⟩ := g 4 (by omega)
    have f0 : DataW.trod enc Try.prog W 0 (fun _ => true) held n' 43 [v0] = some y0 := by have q := hf 0 _ rfl; rw [h0] at q; simpa [e48] using q
    have f1 : DataW.trod enc Try.prog W 0 (fun _ => true) held n' 3 [v1] = some y1 := by have q := hf 1 _ rfl; rw [h1] at q; simpa [e3] using q
    have f2 : DataW.trod enc Try.prog W 0 (fun _ => true) held n' 3 [v2] = some y2 := by have q := hf 2 _ rfl; rw [h2] at q; simpa [e3] using q
    have f3 : DataW.trod enc Try.prog W 0 (fun _ => true) held n' 3 [v3] = some y3 := by have q := hf 3 _ rfl; rw [h3] at q; simpa [e3] using q
    have f4 : DataW.trod enc Try.prog W 0 (fun _ => true) held n' 35 [v4] = some y4 := by have q := hf 4 _ rfl; rw [h4] at q; simpa [e30] using q
    obtain ⟨a0, ea0, _, wa0⟩ := DataW.trod_int Try.underlying43 f0
    obtain ⟨a1, ea1, _, wa1⟩ := DataW.trod_int Try.underlying3 f1
    obtain ⟨a2, ea2, _, wa2⟩ := DataW.trod_int Try.underlying3 f2
    obtain ⟨a3, ea3, _, wa3⟩ := DataW.trod_int Try.underlying3 f3
    obtain ⟨a4, ea4, _, wa4⟩ := DataW.trod_int Try.underlying35 f4
    simp at ea0 ea1 ea2 ea3 ea4
    subst ea0; subst ea1; subst ea2; subst ea3; subst ea4
    have hw := wf_u32 wa4
    obtain ⟨m, rfl⟩ := Int.eq_ofNat_of_zero_le hw.1
    exact ⟨⟨a0, a1, a2, a3, m⟩, rfl, by show m < 4294967296; omega⟩
theorem ins_build {C : Nat → Value → Prop} : ∀ len, (∀ i, i < len → ∃ x : InsZ, x.imm < 4294967296 ∧ ∀ j u, (insZC x)[j]? = some u → C (i * 5 + j) u) →
    ∃ xs : List InsZ, xs.length = len ∧ (∀ i, i ∈ xs → i.imm < 4294967296) ∧ ∀ j u, (xs.flatMap insZC)[j]? = some u → C j u
  | 0, _ => ⟨[], rfl, fun _ h => by simp at h, fun j u h => by simp at h⟩
  | len + 1, h => by
    obtain ⟨xs, h1, h2, h3⟩ := ins_build len (fun i hi => h i (by omega))
    obtain ⟨x, k1, k3⟩ := h len (by omega)
    have hl : (xs.flatMap insZC).length = len * 5 := by
      rw [← h1]
      clear h1 h2 h3 h k3
      induction xs with
      | nil => rfl
      | cons y ys ih => rw [List.flatMap_cons, List.length_append, ih, List.length_cons]; simp [insZC]; omega
    refine ⟨xs ++ [x], by simp [h1], fun i hi => ?_, fun j u hu => ?_⟩
    · rcases List.mem_append.1 hi with h | h
      · exact h2 i h
      · rw [List.mem_singleton.1 h]; exact k1
    · rw [List.flatMap_append, List.flatMap_singleton] at hu
      by_cases hj : j < (xs.flatMap insZC).length
      · rw [List.getElem?_append_left hj] at hu
        exact h3 j u hu
      · rw [List.getElem?_append_right (by omega)] at hu
        have := k3 _ u hu
        rw [hl] at this
        rwa [show len * 5 + (j - len * 5) = j from by rw [hl] at hj; omega] at this
theorem inss_cell {H : Type} {enc : TypeId × Value → H} {W : World} {held : Bool} {fuel : Nat} {v : Value} {x : DataW H × List MemPlace} (h : DataW.trod enc Try.prog W 0 (fun _ => true) held fuel 22 [v] = some x) :
    ∃ (A : Option Addr) (xs : List InsZ) (c : Nat), v = .slice A xs.length c ∧ Sl W Any 5 A xs.length c (xs.flatMap insZC) ∧ ∀ i, i ∈ xs → i.imm < 4294967296 := by
  have hC : Try.prog.cellsOf 45 = 5 := by kernel_rfl
  rcases Deep.open_slice Try.underlying22 h with ⟨hcs, _⟩ | ⟨a, len, cap, m, n, D, Pl, hcs, _, hl, hm, hmm, _, hi⟩
  · simp [Value.cells] at hcs
    subst hcs
    exact ⟨none, [], 0, rfl, Sl.nil _ _ _, fun _ h => by simp at h⟩
  · simp [Value.cells] at hcs
    subst hcs
    have hlm : len ≤ m := by
      split at hmm <;> omega
    rw [hC] at hi
    obtain ⟨xs, hxl, him, hcell⟩ := ins_build (C := fun j u => W.cell? (a.add j) = some u) len (fun i hil => by
      obtain ⟨cs', hc, ht⟩ := hi i (by omega)
      obtain ⟨_, hcl, hat⟩ := World.cells?_some hc
      obtain ⟨x, rfl, hx⟩ := ins_cell hcl ht
      refine ⟨x, hx, fun j u hu => ?_⟩
      have hj : j < 5 := by have := (List.getElem?_eq_some_iff.1 hu).1; simp [insZC] at this; omega
      rw [← Go.Deep.add_add, hat j hj, hu])
    refine ⟨some a, xs, cap, by rw [hxl], ?_, him⟩
    have hlen : (xs.flatMap insZC).length = xs.length * 5 := by
      clear hxl him hcell
      induction xs with
      | nil => rfl
      | cons y ys ih => rw [List.flatMap_cons, List.length_append, ih, List.length_cons]; simp [insZC]; omega
    refine ⟨hlen, by rw [hxl]; exact hl, hm, fun h => (by cases h), fun a' ha hn => ?_⟩
    injection ha with ha
    subst ha
    refine ⟨trivial, ?_, hcell⟩
    have hc0 : 0 < (xs.flatMap insZC).length := by rw [hlen]; omega
    have := World.block_lt_of_cell? W _ (hcell 0 _ (List.getElem?_eq_getElem hc0))
    rwa [add_block] at this
theorem prog_in {H : Type} {enc : TypeId × Value → H} {W : World} {v : Value} {d : DataW H} {p : List MemPlace} (hv : Value.okWide Try.prog W .any 0 24 v) (h : DataW.Trod enc Try.prog W 0 (fun _ => true) true 24 v d p) :
    ∃ (ctx : Int) (A : Option Addr) (xs : List InsZ) (c : Nat), v = .agg #[.int .i64 ctx, .slice A xs.length c] ∧ Sl W Any 5 A xs.length c (xs.flatMap insZC) ∧ (∀ i, i ∈ xs → i.imm < 4294967296) ∧ -9223372036854775808 ≤ ctx ∧ ctx ≤ 9223372036854775807 := by
  obtain ⟨v0, v1, y0, y1, n, rfl, _, _, h0, h1⟩ := Joins.open_agg2 Try.underlying24 (by kernel_rfl) (by kernel_rfl) hv h
  obtain ⟨a, e0, _, w0⟩ := DataW.trod_int Try.underlying3 h0
  obtain ⟨A, xs, c, rfl, h2, h3⟩ := inss_cell h1
  simp at e0
  subst e0
  exact ⟨a, A, xs, c, rfl, h2, h3, wf_i64 w0⟩
section
theorem okWide_arrs {P : Program} {w : World} {r : Reach} {b0 : Nat} {t e : TypeId} {n : Nat} {v : Value} (ht : P.underlying t = some (.array n e)) (h : Value.okWide P w r b0 t v) : ∃ cs : Array Value, v = .agg cs ∧ cs.size = P.cellsOf t := by
  simp only [Value.okWide, ht] at h
  obtain ⟨cs, h1, h2, _⟩ := h
  exact ⟨cs, h1, h2⟩
theorem ins_in {H : Type} {enc : TypeId × Value → H} {W : World} {v : Value} {d : DataW H} {p : List MemPlace} (hv : Value.okWide Try.prog W .any 0 45 v) (h : DataW.Trod enc Try.prog W 0 (fun _ => true) true 45 v d p) :
    ∃ i : InsZ, v = insZV i ∧ i.imm < 4294967296 := by
  obtain ⟨cs, rfl, hsz⟩ := okWide_struct Try.underlying45 hv
  have hC : Try.prog.cellsOf 45 = 5 := by kernel_rfl
  obtain ⟨fuel, hf⟩ := h
  obtain ⟨i, hi, hm⟩ := ins_cell (by simp [Value.cells]; omega) hf
  refine ⟨i, ?_, hm⟩
  have : cs.toList = insZC i := hi
  unfold insZV
  congr 1
  apply Array.toList_inj.1
  rw [this]; rfl
theorem word_cell {H : Type} {enc : TypeId × Value → H} {W : World} {held : Bool} {fuel : Nat} {v : Value} {x : DataW H × List MemPlace} (h : DataW.trod enc Try.prog W 0 (fun _ => true) held fuel 35 [v] = some x) : ∃ a : Nat, v = .int .u32 (a : Int) ∧ a < 4294967296 := by
  obtain ⟨a, e, _, wa⟩ := DataW.trod_int Try.underlying35 h
  simp at e
  subst e
  have hw := wf_u32 wa
  obtain ⟨m, rfl⟩ := Int.eq_ofNat_of_zero_le hw.1
  exact ⟨m, rfl, by omega⟩
def pairC (x : Nat × Nat) : List Value := [.int .u32 (x.1 : Int), .int .u32 (x.2 : Int)]
theorem pair_cell {H : Type} {enc : TypeId × Value → H} {W : World} {held : Bool} {fuel : Nat} {cs : List Value} {x : DataW H × List MemPlace} (hl : cs.length = 2) (h : DataW.trod enc Try.prog W 0 (fun _ => true) held fuel 38 cs = some x) :
    ∃ y : Nat × Nat, cs = pairC y ∧ y.1 < 4294967296 ∧ y.2 < 4294967296 := by
  match cs, hl with
  | [v0, v1], _ =>
    obtain ⟨xs, m, _, _, _, hx, hi⟩ := DataW.trod_array Try.underlying38 h
    have hC : Try.prog.cellsOf 35 = 1 := by kernel_rfl
    have f0 := hi 0 (by omega)
    have f1 := hi 1 (by omega)
    rw [hC] at f0 f1
    rw [List.getElem?_eq_getElem (by omega)] at f0 f1
    obtain ⟨a, rfl, ha⟩ := word_cell f0
    obtain ⟨b, rfl, hb⟩ := word_cell f1
    exact ⟨(a, b), rfl, ha, hb⟩
theorem two_in {H : Type} {enc : TypeId × Value → H} {W : World} {v : Value} {d : DataW H} {p : List MemPlace} (hv : Value.okWide Try.prog W .any 0 38 v) (h : DataW.Trod enc Try.prog W 0 (fun _ => true) true 38 v d p) :
    ∃ a b : Nat, v = .agg #[.int .u32 (a : Int), .int .u32 (b : Int)] ∧ a < 4294967296 ∧ b < 4294967296 := by
  obtain ⟨cs, rfl, hsz⟩ := okWide_arrs Try.underlying38 hv
  have hC : Try.prog.cellsOf 38 = 2 := by kernel_rfl
  obtain ⟨fuel, hf⟩ := h
  obtain ⟨y, hy, h1, h2⟩ := pair_cell (by simp [Value.cells]; omega) hf
  refine ⟨y.1, y.2, ?_, h1, h2⟩
  congr 1
  apply Array.toList_inj.1
  have : cs.toList = pairC y := hy
  rw [this]; rfl

def rgC (r : Rg) : List Value := [.bool r.s, .int .u32 (r.l : Int), .int .u32 (r.g : Int)]
theorem rg_cell {H : Type} {enc : TypeId × Value → H} {W : World} {held : Bool} {fuel : Nat} {cs : List Value} {x : DataW H × List MemPlace} (hl : cs.length = 3) (h : DataW.trod enc Try.prog W 0 (fun _ => true) held fuel 37 cs = some x) :
    ∃ r : Rg, cs = rgC r ∧ r.l < 4294967296 ∧ r.g < 4294967296 := by
  match cs, hl with
  | [v0, v1, v2], _ =>
    obtain ⟨y0, y1, y2, n, _, _, f0, f1, f2⟩ := trod_struct3 Try.underlying37 h
    have e4 : Try.prog.cellsOf 4 = 1 := by kernel_rfl
    have e35 : Try.prog.cellsOf 35 = 1 := by kernel_rfl
    simp [e4, e35] at f0 f1 f2
    obtain ⟨b, eb, _⟩ := DataW.trod_bool Try.underlying4 f0
    obtain ⟨l, rfl, hl⟩ := word_cell f1
    obtain ⟨g, rfl, hg⟩ := word_cell f2
    simp at eb
    subst eb
    exact ⟨⟨b, l, g⟩, rfl, hl, hg⟩
theorem range_in {H : Type} {enc : TypeId × Value → H} {W : World} {v : Value} {d : DataW H} {p : List MemPlace} (hv : Value.okWide Try.prog W .any 0 37 v) (h : DataW.Trod enc Try.prog W 0 (fun _ => true) true 37 v d p) :
    ∃ r : Rg, v = .agg #[.bool r.s, .int .u32 (r.l : Int), .int .u32 (r.g : Int)] ∧ r.l < 4294967296 ∧ r.g < 4294967296 := by
  obtain ⟨cs, rfl, hsz⟩ := okWide_struct Try.underlying37 hv
  have hC : Try.prog.cellsOf 37 = 3 := by kernel_rfl
  obtain ⟨fuel, hf⟩ := h
  obtain ⟨r, hr, h1, h2⟩ := rg_cell (by simp [Value.cells]; omega) hf
  refine ⟨r, ?_, h1, h2⟩
  congr 1
  apply Array.toList_inj.1
  have : cs.toList = rgC r := hr
  rw [this]; rfl
theorem bools2_in {H : Type} {enc : TypeId × Value → H} {W : World} {v : Value} {d : DataW H} {p : List MemPlace} (hv : Value.okWide Try.prog W .any 0 68 v) (h : DataW.Trod enc Try.prog W 0 (fun _ => true) true 68 v d p) :
    ∃ a b : Bool, v = .agg #[.bool a, .bool b] := by
  obtain ⟨cs, rfl, hsz⟩ := okWide_arrs Try.underlying68 hv
  have hC : Try.prog.cellsOf 68 = 2 := by kernel_rfl
  obtain ⟨fuel, hf⟩ := h
  obtain ⟨c0, c1, rfl⟩ := Joins.array2 (hsz.trans hC)
  obtain ⟨xs, m, _, _, _, hx, hi⟩ := DataW.trod_array Try.underlying68 hf
  have e4 : Try.prog.cellsOf 4 = 1 := by kernel_rfl
  have f0 := hi 0 (by omega)
  have f1 := hi 1 (by omega)
  rw [e4] at f0 f1
  rw [List.getElem?_eq_getElem (by omega)] at f0 f1
  obtain ⟨a, ea, _⟩ := DataW.trod_bool Try.underlying4 f0
  obtain ⟨b, eb, _⟩ := DataW.trod_bool Try.underlying4 f1
  simp [Value.cells] at ea eb
  subst ea; subst eb
  exact ⟨a, b, rfl⟩
theorem spot_in {H : Type} {enc : TypeId × Value → H} {W : World} {v : Value} {d : DataW H} {p : List MemPlace} (hv : Value.okWide Try.prog W .any 0 52 v) (h : DataW.Trod enc Try.prog W 0 (fun _ => true) true 52 v d p) :
    ∃ a b c : Nat, v = .agg #[.int .u32 (a : Int), .int .u32 (b : Int), .int .u32 (c : Int)] ∧ a < 4294967296 ∧ b < 4294967296 ∧ c < 4294967296 := by
  obtain ⟨v0, v1, v2, y0, y1, y2, n, rfl, _, _, h0, h1, h2⟩ := Joins.open_agg3 Try.underlying52 (by kernel_rfl) (by kernel_rfl) hv h
  obtain ⟨a, rfl, ha⟩ := word_cell h0
  obtain ⟨b, rfl, hb⟩ := word_cell h1
  obtain ⟨c, rfl, hc⟩ := word_cell h2
  exact ⟨a, b, c, rfl, ha, hb, hc⟩
end
end Go.Proofs.Ytjlddhnjbjhmkaa
