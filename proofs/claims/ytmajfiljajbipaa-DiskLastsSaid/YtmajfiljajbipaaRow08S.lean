/- A law's script, opened. -/
import Derived.Test.YtmajfiljajbipaaRow08
import Derived.Deep.Slices
import Derived.Deep.Fields
import Derived.ChangeSame
namespace Go.Proofs.Ytmajfiljajbipaa
open Go.ChangeShapes Go.WideShapes Go.ChangeAt Go.RowKit Go.Deep
set_option linter.unusedVariables false
set_option linter.unusedSimpArgs false

theorem act_cell {H : Type} {enc : TypeId × Value → H} {W : World} {held : Bool} {fuel : Nat} {cs : List Value} {x : DataW H × List MemPlace} (hl : cs.length = 4) (h : DataW.trod enc Try.prog W 0 (fun _ => true) held fuel 40 cs = some x) :
    ∃ a : Act8, ActR W Any a cs := by
  match cs, hl with
  | [v0, v1, v2, v3], _ =>
    obtain ⟨ys, n', hn', hy, hlen, hyl, hf⟩ := DataW.trod_struct Try.underlying40 h
    have e3 : Try.prog.cellsOf 3 = 1 := by kernel_rfl
    have e38 : Try.prog.cellsOf 38 = 1 := by kernel_rfl
    have hy4 : ys.length = 4 := hyl
    have g : ∀ j, j < 4 → ∃ y, ys[j]? = some y := fun j hj => ⟨_, List.getElem?_eq_getElem (by omega)⟩
    obtain ⟨y0, h0⟩ := g 0 (by omega)
    obtain ⟨y1, h1⟩ := g 1 (by omega)
    obtain ⟨y2, h2⟩ := g 2 (by omega)
    obtain ⟨y3, h3⟩ := g 3 (by omega)
    have f0 : DataW.trod enc Try.prog W 0 (fun _ => true) held n' 3 [v0] = some y0 := by have q := hf 0 _ rfl; rw [h0] at q; simpa [e3] using q
    have f1 : DataW.trod enc Try.prog W 0 (fun _ => true) held n' 3 [v1] = some y1 := by have q := hf 1 _ rfl; rw [h1] at q; simpa [e3] using q
    have f2 : DataW.trod enc Try.prog W 0 (fun _ => true) held n' 3 [v2] = some y2 := by have q := hf 2 _ rfl; rw [h2] at q; simpa [e3] using q
    have f3 : DataW.trod enc Try.prog W 0 (fun _ => true) held n' 38 [v3] = some y3 := by have q := hf 3 _ rfl; rw [h3] at q; simpa [e38] using q
    obtain ⟨a, ea, _, wa⟩ := DataW.trod_int Try.underlying3 f0
    obtain ⟨b, eb, _, wb⟩ := DataW.trod_int Try.underlying3 f1
    obtain ⟨c, ec, _, wc⟩ := DataW.trod_int Try.underlying3 f2
    obtain ⟨A, l, cc, ed, hby⟩ := bytes_cell f3
    simp at ea eb ec
    subst ea; subst eb; subst ec; subst ed
    exact ⟨⟨a, b, c, l⟩, A, cc, rfl, hby, wf_i64 wb, wf_i64 wc⟩

theorem act_in {H : Type} {enc : TypeId × Value → H} {W : World} {v : Value} {d : DataW H} {p : List MemPlace} (hv : Value.okWide Try.prog W .any 0 40 v) (h : DataW.Trod enc Try.prog W 0 (fun _ => true) true 40 v d p) :
    ∃ (A : Option Addr) (x : Act8) (c : Nat), v = .agg #[.int .i64 x.what, .int .i64 x.at_, .int .i64 x.n, .slice A x.b.length c] ∧ By W Any A x.b.length c x.b ∧ Act8.I64 x.at_ ∧ Act8.I64 x.n := by
  obtain ⟨v0, v1, v2, v3, y0, y1, y2, y3, n, rfl, _, _, h0, h1, h2, h3⟩ := Joins.open_agg4 Try.underlying40 (by kernel_rfl) (by kernel_rfl) hv h
  obtain ⟨a, ea, _, wa⟩ := DataW.trod_int Try.underlying3 h0
  obtain ⟨b, eb, _, wb⟩ := DataW.trod_int Try.underlying3 h1
  obtain ⟨c, ec, _, wc⟩ := DataW.trod_int Try.underlying3 h2
  obtain ⟨A, l, cc, ed, hby⟩ := bytes_cell h3
  simp at ea eb ec
  subst ea; subst eb; subst ec; subst ed
  exact ⟨A, ⟨a, b, c, l⟩, cc, rfl, hby, wf_i64 wb, wf_i64 wc⟩

theorem rows_build {α : Type} {R : α → List Value → Prop} {C : Nat → Value → Prop} (sz : Nat) : ∀ len, (∀ i, i < len → ∃ x cs, cs.length = sz ∧ R x cs ∧ ∀ j u, cs[j]? = some u → C (i * sz + j) u) →
    ∃ xs cells, xs.length = len ∧ Rws R sz xs cells ∧ ∀ j u, cells[j]? = some u → C j u
  | 0, _ => ⟨[], [], rfl, Rws.nil _ _, fun j u h => by simp at h⟩
  | len + 1, h => by
    obtain ⟨xs, cells, h1, h2, h3⟩ := rows_build sz len (fun i hi => h i (by omega))
    obtain ⟨x, cs, k1, k2, k3⟩ := h len (by omega)
    refine ⟨xs ++ [x], cells ++ cs, by simp [h1], h2.append (Rws.one k1 k2), fun j u hu => ?_⟩
    have hl := h2.len
    by_cases hj : j < cells.length
    · rw [List.getElem?_append_left hj] at hu
      exact h3 j u hu
    · rw [List.getElem?_append_right (by omega)] at hu
      have := k3 _ u hu
      rw [hl, h1] at this
      rwa [show len * sz + (j - len * sz) = j from by rw [hl, h1] at hj; omega] at this

theorem script_in {H : Type} {enc : TypeId × Value → H} {W : World} {v : Value} {d : DataW H} {p : List MemPlace} (hv : Value.okWide Try.prog W .any 0 34 v) (h : DataW.Trod enc Try.prog W 0 (fun _ => true) true 34 v d p) :
    ∃ (A : Option Addr) (xs : List Act8) (c : Nat), v = .slice A xs.length c ∧ c ≤ maxLen ∧ xs.length ≤ c ∧ Script W A c xs := by
  obtain ⟨a0, len0, cap0, rfl⟩ := okWide_slice Try.underlying34 hv
  obtain ⟨fuel, hf⟩ := h
  have hC : Try.prog.cellsOf 40 = 4 := by kernel_rfl
  rcases Deep.open_slice Try.underlying34 hf with ⟨hcs, _⟩ | ⟨a, len, cap, m, n, D, Pl, hcs, _, hl, hm, hmm, _, hi⟩
  · simp [Value.cells] at hcs
    obtain ⟨rfl, rfl, rfl⟩ := hcs
    exact ⟨none, [], 0, rfl, by simp [maxLen], Nat.le_refl _, [], Sl.nil _ _ _, Rws.nil _ _⟩
  · simp [Value.cells] at hcs
    obtain ⟨rfl, rfl, rfl⟩ := hcs
    simp only [if_true] at hmm
    subst hmm
    rw [hC] at hi
    obtain ⟨xs, cells, hxl, hrw, hcell⟩ := rows_build (R := ActR W Any) (C := fun j u => W.cell? (a.add j) = some u) 4 len0 (fun i hil => by
      obtain ⟨cs', hc, ht⟩ := hi i (by omega)
      obtain ⟨_, hcl, hat⟩ := World.cells?_some hc
      obtain ⟨x, hx⟩ := act_cell hcl ht
      refine ⟨x, cs', hcl, hx, fun j u hu => ?_⟩
      have hj : j < 4 := by have := (List.getElem?_eq_some_iff.1 hu).1; omega
      rw [← Go.Deep.add_add, hat j hj, hu])
    refine ⟨some a, xs, m, by rw [hxl], hm, by rw [hxl]; exact hl, cells, ?_, hrw⟩
    refine ⟨hrw.len, by rw [hxl]; exact hl, hm, fun h => (by cases h), fun a' ha hn => ?_⟩
    injection ha with ha
    subst ha
    refine ⟨trivial, ?_, hcell⟩
    have hc0 : 0 < cells.length := by rw [hrw.len]; omega
    have := World.block_lt_of_cell? W _ (hcell 0 _ (List.getElem?_eq_getElem hc0))
    rwa [add_block] at this
end Go.Proofs.Ytmajfiljajbipaa
