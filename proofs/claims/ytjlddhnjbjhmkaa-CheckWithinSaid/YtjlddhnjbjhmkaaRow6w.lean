/- The arguments of CheckWithin, opened. -/
import Derived.Test.YtjlddhnjbjhmkaaRow06
import Derived.Test.YtjlddhnjbjhmkaaLn3
import Derived.Deep.Strs
set_option linter.unusedVariables false
set_option linter.unusedSimpArgs false
namespace Go.Proofs.Ytjlddhnjbjhmkaa
open Go.ChangeShapes Go.WideShapes Go.ChangeAt Go.RowKit Go.Deep
set_option maxRecDepth 100000
theorem words10_cell {H : Type} {enc : TypeId × Value → H} {W : World} {held : Bool} {fuel : Nat} {cs : List Value} {x : DataW H × List MemPlace} (hl : cs.length = 10) (h : DataW.trod enc Try.prog W 0 (fun _ => true) held fuel 57 cs = some x) :
    ∃ u : Nat → Nat, (∀ n, n < 10 → cs[n]? = some (.int .u32 (u n : Int))) ∧ ∀ n, u n < 4294967296 := by
  obtain ⟨xs, m, _, _, _, hx, hi⟩ := DataW.trod_array Try.underlying57 h
  have hC : Try.prog.cellsOf 35 = 1 := by kernel_rfl
  obtain ⟨u, hu⟩ := choose_lt (α := Nat) (n := 10) (p := fun n y => cs[n]? = some (.int .u32 (y : Int)) ∧ y < 4294967296) (fun n hn => by
    have q := hi n hn
    rw [hC, Nat.mul_one, List.drop_eq_getElem_cons (by omega), List.take_succ_cons, List.take_zero, List.getElem?_eq_getElem (by omega)] at q
    obtain ⟨y, hy, hb⟩ := word_cell q
    exact ⟨y, by rw [List.getElem?_eq_getElem (by omega), hy], hb⟩)
  refine ⟨fun n => if n < 10 then u n else 0, fun n hn => ?_, fun n => ?_⟩
  · show _ = some (Value.int .u32 ((if n < 10 then u n else 0 : Nat) : Int))
    rw [if_pos hn]; exact (hu n hn).1
  · show (if n < 10 then u n else 0) < _
    split
    · rename_i hn; exact (hu n hn).2
    · decide
theorem kn_cell {H : Type} {enc : TypeId × Value → H} {W : World} {held : Bool} {fuel : Nat} {cs : List Value} {x : DataW H × List MemPlace} (hl : cs.length = 31) (h : DataW.trod enc Try.prog W 0 (fun _ => true) held fuel 42 cs = some x) :
    ∃ k : Kn, cs = knL k ∧ (∀ n, n < 10 → (k.r n).g < 4294967296) ∧ ∀ n, 10 ≤ n → k.r n = rg0 := by
  obtain ⟨y0, y1, n0, _, _, f0, f1⟩ := trod_struct2 Try.underlying42 h
  have e4 : Try.prog.cellsOf 4 = 1 := by kernel_rfl
  have e40 : Try.prog.cellsOf 40 = 30 := by kernel_rfl
  have e37 : Try.prog.cellsOf 37 = 3 := by kernel_rfl
  simp only [e4, e40, List.drop_zero] at f0 f1
  match cs, hl with
  | c :: rest, hl =>
    simp only [List.take_succ_cons, List.take_zero, List.drop_succ_cons, List.drop_zero] at f0 f1
    obtain ⟨b, eb, _⟩ := DataW.trod_bool Try.underlying4 f0
    simp at eb
    subst eb
    have hr : rest.length = 30 := by simpa using hl
    rw [List.take_of_length_le (by omega)] at f1
    obtain ⟨xs, m, _, _, _, hx, hi⟩ := DataW.trod_array Try.underlying40 f1
    rw [e37] at hi
    haveI : Inhabited Rg := ⟨rg0⟩
    obtain ⟨u, hu⟩ := choose_lt (α := Rg) (n := 10) (p := fun n y => (rest.drop (n * 3)).take 3 = rgC y ∧ y.g < 4294967296) (fun n hn => by
      have q := hi n hn
      rw [List.getElem?_eq_getElem (by omega)] at q
      obtain ⟨y, hy, h1, h2⟩ := rg_cell (by rw [List.length_take, List.length_drop]; omega) q
      exact ⟨y, hy, h2⟩)
    refine ⟨⟨b, fun n => if n < 10 then u n else rg0⟩, ?_, fun n hn => ?_, fun n hn => ?_⟩
    · apply List.ext_getElem?
      intro j
      unfold knL
      by_cases hj : j < 31
      · rw [rowF_get 31 _ j hj]
        cases j with
        | zero => rfl
        | succ j =>
          rw [List.getElem?_cons_succ]
          have hn : j / 3 < 10 := by omega
          have h3 := (hu (j / 3) hn).1
          have h4 : ((rest.drop (j / 3 * 3)).take 3)[j % 3]? = rest[j]? := by
            rw [List.getElem?_take_of_lt (by omega), List.getElem?_drop]
            congr 1; omega
          rw [← h4, h3]
          have hc : j % 3 = 0 ∨ j % 3 = 1 ∨ j % 3 = 2 := by omega
          have hj1 : j + 1 = 1 + j / 3 * 3 + j % 3 := by omega
          rw [hj1]
          rcases hc with e | e | e <;> rw [e]
          · rw [Nat.add_zero, knF_s]; show _ = some (Value.bool (if j / 3 < 10 then u (j / 3) else rg0).s); rw [if_pos hn]; rfl
          · rw [knF_l]; show _ = some (Value.int .u32 ((if j / 3 < 10 then u (j / 3) else rg0).l : Int)); rw [if_pos hn]; rfl
          · rw [knF_g]; show _ = some (Value.int .u32 ((if j / 3 < 10 then u (j / 3) else rg0).g : Int)); rw [if_pos hn]; rfl
      · rw [List.getElem?_eq_none (by simp; omega), List.getElem?_eq_none (by rw [rowF_length]; omega)]
    · show (if n < 10 then u n else rg0).g < _; rw [if_pos hn]; exact (hu n hn).2
    · show (if n < 10 then u n else rg0) = rg0; rw [if_neg (by omega)]
theorem lessarg_in {H : Type} {enc : TypeId × Value → H} {W : World} {v : Value} {d : DataW H} {p : List MemPlace} (hv : Value.okWide Try.prog W .any 0 59 v) (h : DataW.Trod enc Try.prog W 0 (fun _ => true) true 59 v d p) :
    ∃ (k : Kn) (up dn : Nat → Nat), v = .agg (rowF 51 (lsF k up dn)).toArray ∧ (∀ n, n < 10 → (k.r n).g < 4294967296) ∧ (∀ n, 10 ≤ n → k.r n = rg0) ∧ (∀ n, up n < 4294967296) ∧ ∀ n, dn n < 4294967296 := by
  obtain ⟨cs, rfl, hsz⟩ := okWide_struct Try.underlying59 hv
  have hC : Try.prog.cellsOf 59 = 51 := by kernel_rfl
  have e42 : Try.prog.cellsOf 42 = 31 := by kernel_rfl
  have e57 : Try.prog.cellsOf 57 = 10 := by kernel_rfl
  obtain ⟨fuel, hf⟩ := h
  have hl : cs.toList.length = 51 := by rw [Array.length_toList]; omega
  have hcs : (Value.agg cs).cells.toList = cs.toList := rfl
  obtain ⟨y0, y1, y2, n, _, _, f0, f1, f2⟩ := trod_struct3 Try.underlying59 hf
  rw [hcs] at f0 f1 f2
  simp only [e42, e57, List.drop_zero] at f0 f1 f2
  obtain ⟨k, hk, hg, hz⟩ := kn_cell (by rw [List.length_take]; omega) f0
  obtain ⟨up, hu, hub⟩ := words10_cell (by rw [List.length_take, List.length_drop]; omega) f1
  obtain ⟨dn, hd, hdb⟩ := words10_cell (by rw [List.length_take, List.length_drop]; omega) f2
  refine ⟨k, up, dn, ?_, hg, hz, hub, hdb⟩
  congr 1
  apply Array.toList_inj.1
  apply List.ext_getElem?
  intro j
  by_cases hj : j < 51
  · show _ = (rowF 51 (lsF k up dn))[j]?
    rw [rowF_get 51 _ j hj]
    unfold lsF
    by_cases h1 : j < 31
    · rw [if_pos h1]
      have : (cs.toList.take 31)[j]? = some (knF k j) := by rw [hk]; exact rowF_get 31 _ j h1
      rwa [List.getElem?_take_of_lt h1] at this
    · rw [if_neg h1]
      by_cases h2 : j < 41
      · rw [if_pos h2]
        have := hu (j - 31) (by omega)
        rw [List.getElem?_take_of_lt (by omega), List.getElem?_drop, show 31 + (j - 31) = j from by omega] at this
        exact this
      · rw [if_neg h2]
        have := hd (j - 41) (by omega)
        rw [List.getElem?_take_of_lt (by omega), List.getElem?_drop, show 41 + (j - 41) = j from by omega] at this
        exact this
  · show _ = (rowF 51 (lsF k up dn))[j]?
    rw [List.getElem?_eq_none (by omega), List.getElem?_eq_none (by rw [rowF_length]; omega)]
end Go.Proofs.Ytjlddhnjbjhmkaa
