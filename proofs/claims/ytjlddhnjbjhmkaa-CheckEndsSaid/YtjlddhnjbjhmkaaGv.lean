/- Layer 6: code.Check. -/
import Derived.Test.YtjlddhnjbjhmkaaGa
import Derived.Deep.WholeRow
import Derived.Laws.Rows
import Derived.Laws.ResultCell
import Derived.ScopeJumps
import Derived.WalkMore
set_option linter.unusedVariables false
set_option linter.unusedSimpArgs false
namespace Go.Proofs.Ytjlddhnjbjhmkaa
open Go.RowKit

def withinB (u : Bool) (n l g : Int) : Bool := (!u && decide (n = 0)) || (u && decide (l ≤ n) && decide (n ≤ g))
theorem within_ok (w : World) (u : Bool) (n l g : Int) :
    Calls Try.prog 50 #[.bool u, .int .i64 n, .int .i64 l, .int .i64 g] w fun e w' => e = .returned (.bool (withinB u n l g)) ∧ w = w' := by
  cases u
  · by_cases h1 : n = 0
    · have e : (n == 0) = true := by simp [h1]
      have H := Lib.hid h1; clear h1
      go_enter Try.func50, Try.ntmps50
      go_wp2
      go_ret
      exact ⟨by simp [withinB, H.out], rfl⟩
    · have e : (n == 0) = false := by simp [h1]
      go_enter Try.func50, Try.ntmps50
      go_wp2
      go_ret
      exact ⟨by simp [withinB, h1], rfl⟩
  · by_cases h2 : l ≤ n
    · by_cases h3 : n ≤ g
      · go_enter Try.func50, Try.ntmps50
        go_wp2
        go_ret
        exact ⟨by simp [withinB, h2, h3], rfl⟩
      · go_enter Try.func50, Try.ntmps50
        go_wp2
        go_ret
        exact ⟨by simp [withinB, h2, h3], rfl⟩
    · go_enter Try.func50, Try.ntmps50
      go_wp2
      go_ret
      exact ⟨by simp [withinB]; omega, rfl⟩
end Go.Proofs.Ytjlddhnjbjhmkaa
namespace Go.Proofs.Ytjlddhnjbjhmkaa
open Go.RowKit

def rowsC : Array Value := #[.string ⟨#[]⟩, .int .i64 0, .string ⟨#[109, 111, 118, 105]⟩, .int .i64 9, .string ⟨#[109, 111, 118]⟩, .int .i64 3, .string ⟨#[97, 100, 100, 105]⟩, .int .i64 9, .string ⟨#[97, 100, 100]⟩, .int .i64 3, .string ⟨#[115, 117, 98]⟩, .int .i64 3, .string ⟨#[109, 117, 108, 105]⟩, .int .i64 9, .string ⟨#[109, 117, 108]⟩, .int .i64 3, .string ⟨#[97, 110, 100, 105]⟩, .int .i64 9, .string ⟨#[97, 110, 100]⟩, .int .i64 3, .string ⟨#[111, 114]⟩, .int .i64 3, .string ⟨#[120, 111, 114]⟩, .int .i64 3, .string ⟨#[115, 104, 108, 105]⟩, .int .i64 9, .string ⟨#[115, 104, 114, 105]⟩, .int .i64 9, .string ⟨#[100, 105, 118]⟩, .int .i64 3, .string ⟨#[109, 111, 100]⟩, .int .i64 3, .string ⟨#[108, 100, 99]⟩, .int .i64 7, .string ⟨#[108, 100, 115]⟩, .int .i64 7, .string ⟨#[115, 116, 115]⟩, .int .i64 7, .string ⟨#[106, 97]⟩, .int .i64 4, .string ⟨#[106, 101, 113, 105]⟩, .int .i64 13, .string ⟨#[106, 108, 116, 105]⟩, .int .i64 13, .string ⟨#[106, 108, 116]⟩, .int .i64 7, .string ⟨#[99, 97, 108, 108]⟩, .int .i64 8, .string ⟨#[101, 120, 105, 116]⟩, .int .i64 0]
def rowsV : Value := .agg rowsC
def rowsZ : Array Value := #[.string ⟨#[]⟩, .int .i64 0, .string ⟨#[]⟩, .int .i64 0, .string ⟨#[]⟩, .int .i64 0, .string ⟨#[]⟩, .int .i64 0, .string ⟨#[]⟩, .int .i64 0, .string ⟨#[]⟩, .int .i64 0, .string ⟨#[]⟩, .int .i64 0, .string ⟨#[]⟩, .int .i64 0, .string ⟨#[]⟩, .int .i64 0, .string ⟨#[]⟩, .int .i64 0, .string ⟨#[]⟩, .int .i64 0, .string ⟨#[]⟩, .int .i64 0, .string ⟨#[]⟩, .int .i64 0, .string ⟨#[]⟩, .int .i64 0, .string ⟨#[]⟩, .int .i64 0, .string ⟨#[]⟩, .int .i64 0, .string ⟨#[]⟩, .int .i64 0, .string ⟨#[]⟩, .int .i64 0, .string ⟨#[]⟩, .int .i64 0, .string ⟨#[]⟩, .int .i64 0, .string ⟨#[]⟩, .int .i64 0, .string ⟨#[]⟩, .int .i64 0, .string ⟨#[]⟩, .int .i64 0, .string ⟨#[]⟩, .int .i64 0, .string ⟨#[]⟩, .int .i64 0]

theorem info_rows : (Try.prog.info? 113).map (·.size) = some 50 := by kernel_rfl
theorem one_rows : rowsC.all (·.oneCell') = true := by kernel_rfl
set_option maxRecDepth 100000 in
theorem rows_ok (w : World) : Calls Try.prog 58 #[] w fun e w' => e = .returned rowsV ∧ Below w.heap.size w w' := by
  go_enter Try.func58, Try.ntmps58
  go_upto_region 1 with fail
  refine wp_region_list ?_
  refine wpList_value (w' := w.alloc (.cells rowsZ 113)) (.agg #[.string ⟨#[109, 111, 118, 105]⟩, .int .i64 9]) rfl (by kernel_rfl) ?_
  refine wpList_value (w' := w.alloc (.cells rowsZ 113)) (.agg #[.string ⟨#[109, 111, 118]⟩, .int .i64 3]) rfl (by kernel_rfl) ?_
  refine wpList_value (w' := w.alloc (.cells rowsZ 113)) (.agg #[.string ⟨#[97, 100, 100, 105]⟩, .int .i64 9]) rfl (by kernel_rfl) ?_
  refine wpList_value (w' := w.alloc (.cells rowsZ 113)) (.agg #[.string ⟨#[97, 100, 100]⟩, .int .i64 3]) rfl (by kernel_rfl) ?_
  refine wpList_value (w' := w.alloc (.cells rowsZ 113)) (.agg #[.string ⟨#[115, 117, 98]⟩, .int .i64 3]) rfl (by kernel_rfl) ?_
  refine wpList_value (w' := w.alloc (.cells rowsZ 113)) (.agg #[.string ⟨#[109, 117, 108, 105]⟩, .int .i64 9]) rfl (by kernel_rfl) ?_
  refine wpList_value (w' := w.alloc (.cells rowsZ 113)) (.agg #[.string ⟨#[109, 117, 108]⟩, .int .i64 3]) rfl (by kernel_rfl) ?_
  refine wpList_value (w' := w.alloc (.cells rowsZ 113)) (.agg #[.string ⟨#[97, 110, 100, 105]⟩, .int .i64 9]) rfl (by kernel_rfl) ?_
  refine wpList_value (w' := w.alloc (.cells rowsZ 113)) (.agg #[.string ⟨#[97, 110, 100]⟩, .int .i64 3]) rfl (by kernel_rfl) ?_
  refine wpList_value (w' := w.alloc (.cells rowsZ 113)) (.agg #[.string ⟨#[111, 114]⟩, .int .i64 3]) rfl (by kernel_rfl) ?_
  refine wpList_value (w' := w.alloc (.cells rowsZ 113)) (.agg #[.string ⟨#[120, 111, 114]⟩, .int .i64 3]) rfl (by kernel_rfl) ?_
  refine wpList_value (w' := w.alloc (.cells rowsZ 113)) (.agg #[.string ⟨#[115, 104, 108, 105]⟩, .int .i64 9]) rfl (by kernel_rfl) ?_
  refine wpList_value (w' := w.alloc (.cells rowsZ 113)) (.agg #[.string ⟨#[115, 104, 114, 105]⟩, .int .i64 9]) rfl (by kernel_rfl) ?_
  refine wpList_value (w' := w.alloc (.cells rowsZ 113)) (.agg #[.string ⟨#[100, 105, 118]⟩, .int .i64 3]) rfl (by kernel_rfl) ?_
  refine wpList_value (w' := w.alloc (.cells rowsZ 113)) (.agg #[.string ⟨#[109, 111, 100]⟩, .int .i64 3]) rfl (by kernel_rfl) ?_
  refine wpList_value (w' := w.alloc (.cells rowsZ 113)) (.agg #[.string ⟨#[108, 100, 99]⟩, .int .i64 7]) rfl (by kernel_rfl) ?_
  refine wpList_value (w' := w.alloc (.cells rowsZ 113)) (.agg #[.string ⟨#[108, 100, 115]⟩, .int .i64 7]) rfl (by kernel_rfl) ?_
  refine wpList_value (w' := w.alloc (.cells rowsZ 113)) (.agg #[.string ⟨#[115, 116, 115]⟩, .int .i64 7]) rfl (by kernel_rfl) ?_
  refine wpList_value (w' := w.alloc (.cells rowsZ 113)) (.agg #[.string ⟨#[106, 97]⟩, .int .i64 4]) rfl (by kernel_rfl) ?_
  refine wpList_value (w' := w.alloc (.cells rowsZ 113)) (.agg #[.string ⟨#[106, 101, 113, 105]⟩, .int .i64 13]) rfl (by kernel_rfl) ?_
  refine wpList_value (w' := w.alloc (.cells rowsZ 113)) (.agg #[.string ⟨#[106, 108, 116, 105]⟩, .int .i64 13]) rfl (by kernel_rfl) ?_
  refine wpList_value (w' := w.alloc (.cells rowsZ 113)) (.agg #[.string ⟨#[106, 108, 116]⟩, .int .i64 7]) rfl (by kernel_rfl) ?_
  refine wpList_value (w' := w.alloc (.cells rowsZ 113)) (.agg #[.string ⟨#[99, 97, 108, 108]⟩, .int .i64 8]) rfl (by kernel_rfl) ?_
  refine wpList_value (w' := w.alloc (.cells rowsZ 113)) (.agg #[.string ⟨#[101, 120, 105, 116]⟩, .int .i64 0]) rfl (by kernel_rfl) ?_
  refine wpList_value (w' := w.alloc (.cells rowsZ 113)) rowsV rfl (by kernel_rfl) ?_
  refine wpList_store_new rfl 113 (.tmp 0) (.tmp 25) rfl rowsZ rowsC (by kernel_rfl) (by kernel_rfl) info_rows (by kernel_rfl) one_rows ?_
  refine wpList_nil ?_
  rename_i Q K hK
  refine hK _ _ (wp_ret ?_)
  refine bodyPost_ret (v := rowsV) (results_cell_row Try.results58 _ _ w.heap.size 113 rowsC (0, 0) _ (by kernel_rfl) (heap_alloc_new _ _) Try.underlying113 rfl info_rows) (by kernel_rfl) ⟨rfl, (Below.refl _ _).alloc (Nat.le_refl _) _⟩

end Go.Proofs.Ytjlddhnjbjhmkaa
namespace Go.Proofs.Ytjlddhnjbjhmkaa
open Go.RowKit

/-- What an Op uses, as bits. -/
def usesN (op : Nat) : Nat :=
  if op = 1 ∨ op = 3 ∨ op = 6 ∨ op = 8 ∨ op = 12 ∨ op = 13 then 9 else if op ≤ 15 then 3 else if op ≤ 18 then 7 else if op = 19 then 4 else if op ≤ 21 then 13 else if op = 22 then 7 else if op = 23 then 8 else 0

theorem index_rows1 (W : World) : (Instr.index 113 rowsV (.int .i64 1)).run Try.prog W = .ok (.agg #[.string ⟨#[109, 111, 118, 105]⟩, .int .i64 9]) W := by kernel_rfl
theorem index_rows2 (W : World) : (Instr.index 113 rowsV (.int .i64 2)).run Try.prog W = .ok (.agg #[.string ⟨#[109, 111, 118]⟩, .int .i64 3]) W := by kernel_rfl
theorem index_rows3 (W : World) : (Instr.index 113 rowsV (.int .i64 3)).run Try.prog W = .ok (.agg #[.string ⟨#[97, 100, 100, 105]⟩, .int .i64 9]) W := by kernel_rfl
theorem index_rows4 (W : World) : (Instr.index 113 rowsV (.int .i64 4)).run Try.prog W = .ok (.agg #[.string ⟨#[97, 100, 100]⟩, .int .i64 3]) W := by kernel_rfl
theorem index_rows5 (W : World) : (Instr.index 113 rowsV (.int .i64 5)).run Try.prog W = .ok (.agg #[.string ⟨#[115, 117, 98]⟩, .int .i64 3]) W := by kernel_rfl
theorem index_rows6 (W : World) : (Instr.index 113 rowsV (.int .i64 6)).run Try.prog W = .ok (.agg #[.string ⟨#[109, 117, 108, 105]⟩, .int .i64 9]) W := by kernel_rfl
theorem index_rows7 (W : World) : (Instr.index 113 rowsV (.int .i64 7)).run Try.prog W = .ok (.agg #[.string ⟨#[109, 117, 108]⟩, .int .i64 3]) W := by kernel_rfl
theorem index_rows8 (W : World) : (Instr.index 113 rowsV (.int .i64 8)).run Try.prog W = .ok (.agg #[.string ⟨#[97, 110, 100, 105]⟩, .int .i64 9]) W := by kernel_rfl
theorem index_rows9 (W : World) : (Instr.index 113 rowsV (.int .i64 9)).run Try.prog W = .ok (.agg #[.string ⟨#[97, 110, 100]⟩, .int .i64 3]) W := by kernel_rfl
theorem index_rows10 (W : World) : (Instr.index 113 rowsV (.int .i64 10)).run Try.prog W = .ok (.agg #[.string ⟨#[111, 114]⟩, .int .i64 3]) W := by kernel_rfl
theorem index_rows11 (W : World) : (Instr.index 113 rowsV (.int .i64 11)).run Try.prog W = .ok (.agg #[.string ⟨#[120, 111, 114]⟩, .int .i64 3]) W := by kernel_rfl
theorem index_rows12 (W : World) : (Instr.index 113 rowsV (.int .i64 12)).run Try.prog W = .ok (.agg #[.string ⟨#[115, 104, 108, 105]⟩, .int .i64 9]) W := by kernel_rfl
theorem index_rows13 (W : World) : (Instr.index 113 rowsV (.int .i64 13)).run Try.prog W = .ok (.agg #[.string ⟨#[115, 104, 114, 105]⟩, .int .i64 9]) W := by kernel_rfl
theorem index_rows14 (W : World) : (Instr.index 113 rowsV (.int .i64 14)).run Try.prog W = .ok (.agg #[.string ⟨#[100, 105, 118]⟩, .int .i64 3]) W := by kernel_rfl
theorem index_rows15 (W : World) : (Instr.index 113 rowsV (.int .i64 15)).run Try.prog W = .ok (.agg #[.string ⟨#[109, 111, 100]⟩, .int .i64 3]) W := by kernel_rfl
theorem index_rows16 (W : World) : (Instr.index 113 rowsV (.int .i64 16)).run Try.prog W = .ok (.agg #[.string ⟨#[108, 100, 99]⟩, .int .i64 7]) W := by kernel_rfl
theorem index_rows17 (W : World) : (Instr.index 113 rowsV (.int .i64 17)).run Try.prog W = .ok (.agg #[.string ⟨#[108, 100, 115]⟩, .int .i64 7]) W := by kernel_rfl
theorem index_rows18 (W : World) : (Instr.index 113 rowsV (.int .i64 18)).run Try.prog W = .ok (.agg #[.string ⟨#[115, 116, 115]⟩, .int .i64 7]) W := by kernel_rfl
theorem index_rows19 (W : World) : (Instr.index 113 rowsV (.int .i64 19)).run Try.prog W = .ok (.agg #[.string ⟨#[106, 97]⟩, .int .i64 4]) W := by kernel_rfl
theorem index_rows20 (W : World) : (Instr.index 113 rowsV (.int .i64 20)).run Try.prog W = .ok (.agg #[.string ⟨#[106, 101, 113, 105]⟩, .int .i64 13]) W := by kernel_rfl
theorem index_rows21 (W : World) : (Instr.index 113 rowsV (.int .i64 21)).run Try.prog W = .ok (.agg #[.string ⟨#[106, 108, 116, 105]⟩, .int .i64 13]) W := by kernel_rfl
theorem index_rows22 (W : World) : (Instr.index 113 rowsV (.int .i64 22)).run Try.prog W = .ok (.agg #[.string ⟨#[106, 108, 116]⟩, .int .i64 7]) W := by kernel_rfl
theorem index_rows23 (W : World) : (Instr.index 113 rowsV (.int .i64 23)).run Try.prog W = .ok (.agg #[.string ⟨#[99, 97, 108, 108]⟩, .int .i64 8]) W := by kernel_rfl
theorem index_rows24 (W : World) : (Instr.index 113 rowsV (.int .i64 24)).run Try.prog W = .ok (.agg #[.string ⟨#[101, 120, 105, 116]⟩, .int .i64 0]) W := by kernel_rfl
theorem index_rows (op : Nat) (h1 : 1 ≤ op) (h2 : op ≤ 24) : ∃ s : ByteArray, ∀ W : World, (Instr.index 113 rowsV (.int .i64 (op : Int))).run Try.prog W = .ok (.agg #[.string s, .int .i64 (usesN op : Int)]) W := by
  have hc : op = 1 ∨ op = 2 ∨ op = 3 ∨ op = 4 ∨ op = 5 ∨ op = 6 ∨ op = 7 ∨ op = 8 ∨ op = 9 ∨ op = 10 ∨ op = 11 ∨ op = 12 ∨ op = 13 ∨ op = 14 ∨ op = 15 ∨ op = 16 ∨ op = 17 ∨ op = 18 ∨ op = 19 ∨ op = 20 ∨ op = 21 ∨ op = 22 ∨ op = 23 ∨ op = 24 := by omega
  rcases hc with rfl | rfl | rfl | rfl | rfl | rfl | rfl | rfl | rfl | rfl | rfl | rfl | rfl | rfl | rfl | rfl | rfl | rfl | rfl | rfl | rfl | rfl | rfl | rfl
  · exact ⟨_, index_rows1⟩
  · exact ⟨_, index_rows2⟩
  · exact ⟨_, index_rows3⟩
  · exact ⟨_, index_rows4⟩
  · exact ⟨_, index_rows5⟩
  · exact ⟨_, index_rows6⟩
  · exact ⟨_, index_rows7⟩
  · exact ⟨_, index_rows8⟩
  · exact ⟨_, index_rows9⟩
  · exact ⟨_, index_rows10⟩
  · exact ⟨_, index_rows11⟩
  · exact ⟨_, index_rows12⟩
  · exact ⟨_, index_rows13⟩
  · exact ⟨_, index_rows14⟩
  · exact ⟨_, index_rows15⟩
  · exact ⟨_, index_rows16⟩
  · exact ⟨_, index_rows17⟩
  · exact ⟨_, index_rows18⟩
  · exact ⟨_, index_rows19⟩
  · exact ⟨_, index_rows20⟩
  · exact ⟨_, index_rows21⟩
  · exact ⟨_, index_rows22⟩
  · exact ⟨_, index_rows23⟩
  · exact ⟨_, index_rows24⟩
theorem of_ok (w : World) (op : Nat) (h1 : 1 ≤ op) (h2 : op ≤ 24) : Calls Try.prog 49 #[.int .i64 (op : Int)] w fun e w' => (∃ s : ByteArray, e = .returned (.tuple #[.agg #[.string s, .int .i64 (usesN op : Int)], .bool true])) ∧ Below w.heap.size w w' := by
  obtain ⟨s, hs⟩ := index_rows op h1 h2
  have h3 : decide ((op : Int) < 1) = false := by simp; omega
  have h4 : decide ((op : Int) > 24) = false := by simp; omega
  have h5 : 1 ≤ (op : Int) := by omega
  have h6 : (op : Int) ≤ 24 := by omega
  have hrows := rows_ok w
  go_enter Try.func49, Try.ntmps49
  go_wp2_with (go_at_call 58; refine (rows_ok _).mono ?_; rintro e w1 ⟨rfl, hb⟩; have hz : w.heap.size < w1.heap.size := (by have := hb.size; simp at this; omega); have c0 : w1.cell? ⟨w.heap.size, 0, none⟩ = some (.string ⟨#[]⟩) := (hb.cell (p := ⟨w.heap.size, 0, none⟩) (by simp)).trans (by simp [go_sem]); have c1 : w1.cell? ⟨w.heap.size, 1, none⟩ = some (.int .i64 0) := (hb.cell (p := ⟨w.heap.size, 1, none⟩) (by simp)).trans (by simp [go_sem]); have f0 : w1.frozen? ⟨w.heap.size, 0, none⟩ = false := (hb.frozen (p := ⟨w.heap.size, 0, none⟩) (by simp)).trans (by simp [go_sem]); have f1 : w1.frozen? ⟨w.heap.size, 1, none⟩ = false := (hb.frozen (p := ⟨w.heap.size, 1, none⟩) (by simp)).trans (by simp [go_sem]); have HB := Lib.hid hb; clear hb)
  exact bodyPost_ret (v := .tuple #[.agg #[.string s, .int .i64 (usesN op : Int)], .bool true]) (by simp [results, Try.results49, go_sem, c0, c1, f0, f1, hz]) rfl ⟨⟨s, rfl⟩, ((((Below.refl _ _).alloc (Nat.le_refl _) _).trans (HB.out.mono (by simp))).setCell (by simp) _).setCell (by simp) _⟩
theorem of_not (w : World) (op : Int) (h : op < 1 ∨ 24 < op) : Calls Try.prog 49 #[.int .i64 op] w fun e w' => e = .returned (.tuple #[.agg #[.string ⟨#[]⟩, .int .i64 0], .bool false]) ∧ Below w.heap.size w w' := by
  by_cases h0 : op < 1
  · go_enter Try.func49, Try.ntmps49
    go_wp2
    exact bodyPost_ret (v := .tuple #[.agg #[.string ⟨#[]⟩, .int .i64 0], .bool false]) (by simp [results, Try.results49, go_sem]) rfl ⟨rfl, (Below.refl _ _).alloc (Nat.le_refl _) _⟩
  · have h1 : 24 < op := by omega
    go_enter Try.func49, Try.ntmps49
    go_wp2
    exact bodyPost_ret (v := .tuple #[.agg #[.string ⟨#[]⟩, .int .i64 0], .bool false]) (by simp [results, Try.results49, go_sem]) rfl ⟨rfl, (Below.refl _ _).alloc (Nat.le_refl _) _⟩

end Go.Proofs.Ytjlddhnjbjhmkaa
namespace Go.Proofs.Ytjlddhnjbjhmkaa
open Go.RowKit

theorem may_below {w w1 : World} {o : Obj} {o2 : Obj} (h : Below (w.alloc o).heap.size (w.alloc o) w1) : Below w.heap.size w (w1.alloc o2) :=
  (((Below.refl _ _).alloc (Nat.le_refl _) _).trans (h.mono (by simp))).alloc (by have := h.size; simp at this; omega) _
end Go.Proofs.Ytjlddhnjbjhmkaa
namespace Go.Proofs.Ytjlddhnjbjhmkaa
open Go.RowKit

set_option maxHeartbeats 4000000 in
theorem may_A (w : World) (op : Nat) (hop : op = 1 ∨ op = 3 ∨ op = 6 ∨ op = 8) (dst src off : Int) (imm : Nat) :
    Calls Try.prog 37 #[.agg #[.int .i64 (op : Int), .int .i64 dst, .int .i64 src, .int .i64 off, .int .u32 (imm : Int)]] w fun e w' => e = .returned (.bool (withinB true dst 0 9 && (withinB false src 0 9 && (withinB false off (-32768) 32767 && decide (imm ≤ 4294967295))))) ∧ Below w.heap.size w w' := by
  have hof : ∀ W : World, Calls Try.prog 49 #[.int .i64 (op : Int)] W fun e W' => (∃ s : ByteArray, e = .returned (.tuple #[.agg #[.string s, .int .i64 9], .bool true])) ∧ Below W.heap.size W W' := fun W => by
    have hu : usesN op = 9 := by rcases hop with rfl | rfl | rfl | rfl <;> rfl
    have := of_ok W op (by omega) (by omega)
    rw [hu] at this
    exact this
  have hge : decide ((op : Int) ≥ 19) = false := by simp; omega
  have hge2 : decide (19 ≤ (op : Int)) = false := by simp; omega
  have h12 : ((op : Int) == 12) = false := by simp; omega
  have h13 : ((op : Int) == 13) = false := by simp; omega
  have h23 : ((op : Int) == 23) = false := by simp; omega
  clear hop
  obtain ⟨x, hx⟩ : ∃ x, withinB true dst 0 9 = x := ⟨_, rfl⟩
  obtain ⟨y, hy⟩ : ∃ x, withinB false src 0 9 = x := ⟨_, rfl⟩
  obtain ⟨z, hz⟩ : ∃ x, withinB false off (-32768) 32767 = x := ⟨_, rfl⟩
  obtain ⟨v, hv⟩ : ∃ x, decide (imm ≤ 4294967295) = x := ⟨_, rfl⟩
  rw [hx, hy, hz, hv]
  have hv2 : decide ((imm : Int) ≤ 4294967295) = v := by rw [← hv]; congr 1; exact propext (by omega)
  clear hv
  have b1 : bits BinOp.and IntKind.i64 9 1 = 1 := by kernel_rfl
  have b2 : bits BinOp.and IntKind.i64 9 2 = 0 := by kernel_rfl
  have b4 : bits BinOp.and IntKind.i64 9 4 = 0 := by kernel_rfl
  have b8 : bits BinOp.and IntKind.i64 9 8 = 8 := by kernel_rfl
  have HOF := Lib.hid hof; clear hof
  cases x
  · clear hy hz hv2
    go_enter Try.func37, Try.ntmps37
    go_wp2_with (first | (go_at_call 49; refine (HOF.out _).mono ?_; rintro e w1 ⟨⟨s, rfl⟩, hb⟩; obtain ⟨hc1, hf1⟩ := bcell hb; have hz1 : w.heap.size < w1.heap.size := (by have := hb.size; simp at this; omega); have HB1 := Lib.hid hb; clear hb) | (go_at_call 50; with_reducible refine (within_ok _ _ _ _ _).mono ?_; rintro e w' ⟨rfl, rfl⟩))
    go_ret
    exact ⟨rfl, may_below HB1.out⟩
  cases y
  · clear hz hv2
    go_enter Try.func37, Try.ntmps37
    go_wp2_with (first | (go_at_call 49; refine (HOF.out _).mono ?_; rintro e w1 ⟨⟨s, rfl⟩, hb⟩; obtain ⟨hc1, hf1⟩ := bcell hb; have hz1 : w.heap.size < w1.heap.size := (by have := hb.size; simp at this; omega); have HB1 := Lib.hid hb; clear hb) | (go_at_call 50; with_reducible refine (within_ok _ _ _ _ _).mono ?_; rintro e w' ⟨rfl, rfl⟩))
    go_ret
    exact ⟨rfl, may_below HB1.out⟩
  cases z
  · clear hv2
    go_enter Try.func37, Try.ntmps37
    go_wp2_with (first | (go_at_call 49; refine (HOF.out _).mono ?_; rintro e w1 ⟨⟨s, rfl⟩, hb⟩; obtain ⟨hc1, hf1⟩ := bcell hb; have hz1 : w.heap.size < w1.heap.size := (by have := hb.size; simp at this; omega); have HB1 := Lib.hid hb; clear hb) | (go_at_call 50; with_reducible refine (within_ok _ _ _ _ _).mono ?_; rintro e w' ⟨rfl, rfl⟩))
    go_ret
    exact ⟨rfl, may_below HB1.out⟩
  cases v
  · skip
    go_enter Try.func37, Try.ntmps37
    go_wp2_with (first | (go_at_call 49; refine (HOF.out _).mono ?_; rintro e w1 ⟨⟨s, rfl⟩, hb⟩; obtain ⟨hc1, hf1⟩ := bcell hb; have hz1 : w.heap.size < w1.heap.size := (by have := hb.size; simp at this; omega); have HB1 := Lib.hid hb; clear hb) | (go_at_call 50; with_reducible refine (within_ok _ _ _ _ _).mono ?_; rintro e w' ⟨rfl, rfl⟩))
    go_ret
    exact ⟨rfl, may_below HB1.out⟩
  · skip
    go_enter Try.func37, Try.ntmps37
    go_wp2_with (first | (go_at_call 49; refine (HOF.out _).mono ?_; rintro e w1 ⟨⟨s, rfl⟩, hb⟩; obtain ⟨hc1, hf1⟩ := bcell hb; have hz1 : w.heap.size < w1.heap.size := (by have := hb.size; simp at this; omega); have HB1 := Lib.hid hb; clear hb) | (go_at_call 50; with_reducible refine (within_ok _ _ _ _ _).mono ?_; rintro e w' ⟨rfl, rfl⟩))
    go_ret
    exact ⟨rfl, may_below HB1.out⟩

set_option maxHeartbeats 4000000 in
theorem may_B (w : World) (dst src off : Int) (imm : Nat) :
    Calls Try.prog 37 #[.agg #[.int .i64 12, .int .i64 dst, .int .i64 src, .int .i64 off, .int .u32 (imm : Int)]] w fun e w' => e = .returned (.bool (withinB true dst 0 9 && (withinB false src 0 9 && (withinB false off (-32768) 32767 && decide (imm ≤ 31))))) ∧ Below w.heap.size w w' := by
  have hof : ∀ W : World, Calls Try.prog 49 #[.int .i64 12] W fun e W' => (∃ s : ByteArray, e = .returned (.tuple #[.agg #[.string s, .int .i64 9], .bool true])) ∧ Below W.heap.size W W' := fun W => of_ok W 12 (by omega) (by omega)
  obtain ⟨x, hx⟩ : ∃ x, withinB true dst 0 9 = x := ⟨_, rfl⟩
  obtain ⟨y, hy⟩ : ∃ x, withinB false src 0 9 = x := ⟨_, rfl⟩
  obtain ⟨z, hz⟩ : ∃ x, withinB false off (-32768) 32767 = x := ⟨_, rfl⟩
  obtain ⟨v, hv⟩ : ∃ x, decide (imm ≤ 31) = x := ⟨_, rfl⟩
  rw [hx, hy, hz, hv]
  have hv2 : decide ((imm : Int) ≤ 31) = v := by rw [← hv]; congr 1; exact propext (by omega)
  clear hv
  have b1 : bits BinOp.and IntKind.i64 9 1 = 1 := by kernel_rfl
  have b2 : bits BinOp.and IntKind.i64 9 2 = 0 := by kernel_rfl
  have b4 : bits BinOp.and IntKind.i64 9 4 = 0 := by kernel_rfl
  have b8 : bits BinOp.and IntKind.i64 9 8 = 8 := by kernel_rfl
  have HOF := Lib.hid hof; clear hof
  cases x
  · clear hy hz hv2
    go_enter Try.func37, Try.ntmps37
    go_wp2_with (first | (go_at_call 49; refine (HOF.out _).mono ?_; rintro e w1 ⟨⟨s, rfl⟩, hb⟩; obtain ⟨hc1, hf1⟩ := bcell hb; have hz1 : w.heap.size < w1.heap.size := (by have := hb.size; simp at this; omega); have HB1 := Lib.hid hb; clear hb) | (go_at_call 50; with_reducible refine (within_ok _ _ _ _ _).mono ?_; rintro e w' ⟨rfl, rfl⟩))
    go_ret
    exact ⟨rfl, may_below HB1.out⟩
  cases y
  · clear hz hv2
    go_enter Try.func37, Try.ntmps37
    go_wp2_with (first | (go_at_call 49; refine (HOF.out _).mono ?_; rintro e w1 ⟨⟨s, rfl⟩, hb⟩; obtain ⟨hc1, hf1⟩ := bcell hb; have hz1 : w.heap.size < w1.heap.size := (by have := hb.size; simp at this; omega); have HB1 := Lib.hid hb; clear hb) | (go_at_call 50; with_reducible refine (within_ok _ _ _ _ _).mono ?_; rintro e w' ⟨rfl, rfl⟩))
    go_ret
    exact ⟨rfl, may_below HB1.out⟩
  cases z
  · clear hv2
    go_enter Try.func37, Try.ntmps37
    go_wp2_with (first | (go_at_call 49; refine (HOF.out _).mono ?_; rintro e w1 ⟨⟨s, rfl⟩, hb⟩; obtain ⟨hc1, hf1⟩ := bcell hb; have hz1 : w.heap.size < w1.heap.size := (by have := hb.size; simp at this; omega); have HB1 := Lib.hid hb; clear hb) | (go_at_call 50; with_reducible refine (within_ok _ _ _ _ _).mono ?_; rintro e w' ⟨rfl, rfl⟩))
    go_ret
    exact ⟨rfl, may_below HB1.out⟩
  cases v
  · skip
    go_enter Try.func37, Try.ntmps37
    go_wp2_with (first | (go_at_call 49; refine (HOF.out _).mono ?_; rintro e w1 ⟨⟨s, rfl⟩, hb⟩; obtain ⟨hc1, hf1⟩ := bcell hb; have hz1 : w.heap.size < w1.heap.size := (by have := hb.size; simp at this; omega); have HB1 := Lib.hid hb; clear hb) | (go_at_call 50; with_reducible refine (within_ok _ _ _ _ _).mono ?_; rintro e w' ⟨rfl, rfl⟩))
    go_ret
    exact ⟨rfl, may_below HB1.out⟩
  · skip
    go_enter Try.func37, Try.ntmps37
    go_wp2_with (first | (go_at_call 49; refine (HOF.out _).mono ?_; rintro e w1 ⟨⟨s, rfl⟩, hb⟩; obtain ⟨hc1, hf1⟩ := bcell hb; have hz1 : w.heap.size < w1.heap.size := (by have := hb.size; simp at this; omega); have HB1 := Lib.hid hb; clear hb) | (go_at_call 50; with_reducible refine (within_ok _ _ _ _ _).mono ?_; rintro e w' ⟨rfl, rfl⟩))
    go_ret
    exact ⟨rfl, may_below HB1.out⟩

set_option maxHeartbeats 4000000 in
theorem may_C (w : World) (dst src off : Int) (imm : Nat) :
    Calls Try.prog 37 #[.agg #[.int .i64 13, .int .i64 dst, .int .i64 src, .int .i64 off, .int .u32 (imm : Int)]] w fun e w' => e = .returned (.bool (withinB true dst 0 9 && (withinB false src 0 9 && (withinB false off (-32768) 32767 && decide (imm ≤ 31))))) ∧ Below w.heap.size w w' := by
  have hof : ∀ W : World, Calls Try.prog 49 #[.int .i64 13] W fun e W' => (∃ s : ByteArray, e = .returned (.tuple #[.agg #[.string s, .int .i64 9], .bool true])) ∧ Below W.heap.size W W' := fun W => of_ok W 13 (by omega) (by omega)
  obtain ⟨x, hx⟩ : ∃ x, withinB true dst 0 9 = x := ⟨_, rfl⟩
  obtain ⟨y, hy⟩ : ∃ x, withinB false src 0 9 = x := ⟨_, rfl⟩
  obtain ⟨z, hz⟩ : ∃ x, withinB false off (-32768) 32767 = x := ⟨_, rfl⟩
  obtain ⟨v, hv⟩ : ∃ x, decide (imm ≤ 31) = x := ⟨_, rfl⟩
  rw [hx, hy, hz, hv]
  have hv2 : decide ((imm : Int) ≤ 31) = v := by rw [← hv]; congr 1; exact propext (by omega)
  clear hv
  have b1 : bits BinOp.and IntKind.i64 9 1 = 1 := by kernel_rfl
  have b2 : bits BinOp.and IntKind.i64 9 2 = 0 := by kernel_rfl
  have b4 : bits BinOp.and IntKind.i64 9 4 = 0 := by kernel_rfl
  have b8 : bits BinOp.and IntKind.i64 9 8 = 8 := by kernel_rfl
  have HOF := Lib.hid hof; clear hof
  cases x
  · clear hy hz hv2
    go_enter Try.func37, Try.ntmps37
    go_wp2_with (first | (go_at_call 49; refine (HOF.out _).mono ?_; rintro e w1 ⟨⟨s, rfl⟩, hb⟩; obtain ⟨hc1, hf1⟩ := bcell hb; have hz1 : w.heap.size < w1.heap.size := (by have := hb.size; simp at this; omega); have HB1 := Lib.hid hb; clear hb) | (go_at_call 50; with_reducible refine (within_ok _ _ _ _ _).mono ?_; rintro e w' ⟨rfl, rfl⟩))
    go_ret
    exact ⟨rfl, may_below HB1.out⟩
  cases y
  · clear hz hv2
    go_enter Try.func37, Try.ntmps37
    go_wp2_with (first | (go_at_call 49; refine (HOF.out _).mono ?_; rintro e w1 ⟨⟨s, rfl⟩, hb⟩; obtain ⟨hc1, hf1⟩ := bcell hb; have hz1 : w.heap.size < w1.heap.size := (by have := hb.size; simp at this; omega); have HB1 := Lib.hid hb; clear hb) | (go_at_call 50; with_reducible refine (within_ok _ _ _ _ _).mono ?_; rintro e w' ⟨rfl, rfl⟩))
    go_ret
    exact ⟨rfl, may_below HB1.out⟩
  cases z
  · clear hv2
    go_enter Try.func37, Try.ntmps37
    go_wp2_with (first | (go_at_call 49; refine (HOF.out _).mono ?_; rintro e w1 ⟨⟨s, rfl⟩, hb⟩; obtain ⟨hc1, hf1⟩ := bcell hb; have hz1 : w.heap.size < w1.heap.size := (by have := hb.size; simp at this; omega); have HB1 := Lib.hid hb; clear hb) | (go_at_call 50; with_reducible refine (within_ok _ _ _ _ _).mono ?_; rintro e w' ⟨rfl, rfl⟩))
    go_ret
    exact ⟨rfl, may_below HB1.out⟩
  cases v
  · skip
    go_enter Try.func37, Try.ntmps37
    go_wp2_with (first | (go_at_call 49; refine (HOF.out _).mono ?_; rintro e w1 ⟨⟨s, rfl⟩, hb⟩; obtain ⟨hc1, hf1⟩ := bcell hb; have hz1 : w.heap.size < w1.heap.size := (by have := hb.size; simp at this; omega); have HB1 := Lib.hid hb; clear hb) | (go_at_call 50; with_reducible refine (within_ok _ _ _ _ _).mono ?_; rintro e w' ⟨rfl, rfl⟩))
    go_ret
    exact ⟨rfl, may_below HB1.out⟩
  · skip
    go_enter Try.func37, Try.ntmps37
    go_wp2_with (first | (go_at_call 49; refine (HOF.out _).mono ?_; rintro e w1 ⟨⟨s, rfl⟩, hb⟩; obtain ⟨hc1, hf1⟩ := bcell hb; have hz1 : w.heap.size < w1.heap.size := (by have := hb.size; simp at this; omega); have HB1 := Lib.hid hb; clear hb) | (go_at_call 50; with_reducible refine (within_ok _ _ _ _ _).mono ?_; rintro e w' ⟨rfl, rfl⟩))
    go_ret
    exact ⟨rfl, may_below HB1.out⟩

set_option maxHeartbeats 4000000 in
theorem may_D (w : World) (op : Nat) (hop : op = 2 ∨ op = 4 ∨ op = 5 ∨ op = 7 ∨ op = 9 ∨ op = 10 ∨ op = 11 ∨ op = 14 ∨ op = 15) (dst src off : Int) (imm : Nat) :
    Calls Try.prog 37 #[.agg #[.int .i64 (op : Int), .int .i64 dst, .int .i64 src, .int .i64 off, .int .u32 (imm : Int)]] w fun e w' => e = .returned (.bool (withinB true dst 0 9 && (withinB true src 0 9 && (withinB false off (-32768) 32767 && decide (imm ≤ 0))))) ∧ Below w.heap.size w w' := by
  have hof : ∀ W : World, Calls Try.prog 49 #[.int .i64 (op : Int)] W fun e W' => (∃ s : ByteArray, e = .returned (.tuple #[.agg #[.string s, .int .i64 3], .bool true])) ∧ Below W.heap.size W W' := fun W => by
    have hu : usesN op = 3 := by rcases hop with rfl | rfl | rfl | rfl | rfl | rfl | rfl | rfl | rfl <;> rfl
    have := of_ok W op (by omega) (by omega)
    rw [hu] at this
    exact this
  have hge : decide ((op : Int) ≥ 19) = false := by simp; omega
  have hge2 : decide (19 ≤ (op : Int)) = false := by simp; omega
  clear hop
  obtain ⟨x, hx⟩ : ∃ x, withinB true dst 0 9 = x := ⟨_, rfl⟩
  obtain ⟨y, hy⟩ : ∃ x, withinB true src 0 9 = x := ⟨_, rfl⟩
  obtain ⟨z, hz⟩ : ∃ x, withinB false off (-32768) 32767 = x := ⟨_, rfl⟩
  obtain ⟨v, hv⟩ : ∃ x, decide (imm ≤ 0) = x := ⟨_, rfl⟩
  rw [hx, hy, hz, hv]
  have hv2 : decide (imm = 0) = v := by rw [← hv]; congr 1; exact propext (by omega)
  clear hv
  have b1 : bits BinOp.and IntKind.i64 3 1 = 1 := by kernel_rfl
  have b2 : bits BinOp.and IntKind.i64 3 2 = 2 := by kernel_rfl
  have b4 : bits BinOp.and IntKind.i64 3 4 = 0 := by kernel_rfl
  have b8 : bits BinOp.and IntKind.i64 3 8 = 0 := by kernel_rfl
  have HOF := Lib.hid hof; clear hof
  cases x
  · clear hy hz hv2
    go_enter Try.func37, Try.ntmps37
    go_wp2_with (first | (go_at_call 49; refine (HOF.out _).mono ?_; rintro e w1 ⟨⟨s, rfl⟩, hb⟩; obtain ⟨hc1, hf1⟩ := bcell hb; have hz1 : w.heap.size < w1.heap.size := (by have := hb.size; simp at this; omega); have HB1 := Lib.hid hb; clear hb) | (go_at_call 50; with_reducible refine (within_ok _ _ _ _ _).mono ?_; rintro e w' ⟨rfl, rfl⟩))
    go_ret
    exact ⟨rfl, may_below HB1.out⟩
  cases y
  · clear hz hv2
    go_enter Try.func37, Try.ntmps37
    go_wp2_with (first | (go_at_call 49; refine (HOF.out _).mono ?_; rintro e w1 ⟨⟨s, rfl⟩, hb⟩; obtain ⟨hc1, hf1⟩ := bcell hb; have hz1 : w.heap.size < w1.heap.size := (by have := hb.size; simp at this; omega); have HB1 := Lib.hid hb; clear hb) | (go_at_call 50; with_reducible refine (within_ok _ _ _ _ _).mono ?_; rintro e w' ⟨rfl, rfl⟩))
    go_ret
    exact ⟨rfl, may_below HB1.out⟩
  cases z
  · clear hv2
    go_enter Try.func37, Try.ntmps37
    go_wp2_with (first | (go_at_call 49; refine (HOF.out _).mono ?_; rintro e w1 ⟨⟨s, rfl⟩, hb⟩; obtain ⟨hc1, hf1⟩ := bcell hb; have hz1 : w.heap.size < w1.heap.size := (by have := hb.size; simp at this; omega); have HB1 := Lib.hid hb; clear hb) | (go_at_call 50; with_reducible refine (within_ok _ _ _ _ _).mono ?_; rintro e w' ⟨rfl, rfl⟩))
    go_ret
    exact ⟨rfl, may_below HB1.out⟩
  cases v
  · skip
    go_enter Try.func37, Try.ntmps37
    go_wp2_with (first | (go_at_call 49; refine (HOF.out _).mono ?_; rintro e w1 ⟨⟨s, rfl⟩, hb⟩; obtain ⟨hc1, hf1⟩ := bcell hb; have hz1 : w.heap.size < w1.heap.size := (by have := hb.size; simp at this; omega); have HB1 := Lib.hid hb; clear hb) | (go_at_call 50; with_reducible refine (within_ok _ _ _ _ _).mono ?_; rintro e w' ⟨rfl, rfl⟩))
    go_ret
    exact ⟨rfl, may_below HB1.out⟩
  · skip
    go_enter Try.func37, Try.ntmps37
    go_wp2_with (first | (go_at_call 49; refine (HOF.out _).mono ?_; rintro e w1 ⟨⟨s, rfl⟩, hb⟩; obtain ⟨hc1, hf1⟩ := bcell hb; have hz1 : w.heap.size < w1.heap.size := (by have := hb.size; simp at this; omega); have HB1 := Lib.hid hb; clear hb) | (go_at_call 50; with_reducible refine (within_ok _ _ _ _ _).mono ?_; rintro e w' ⟨rfl, rfl⟩))
    go_ret
    exact ⟨rfl, may_below HB1.out⟩

set_option maxHeartbeats 4000000 in
theorem may_E (w : World) (op : Nat) (hop : op = 16 ∨ op = 17 ∨ op = 18) (dst src off : Int) (imm : Nat) :
    Calls Try.prog 37 #[.agg #[.int .i64 (op : Int), .int .i64 dst, .int .i64 src, .int .i64 off, .int .u32 (imm : Int)]] w fun e w' => e = .returned (.bool (withinB true dst 0 9 && (withinB true src 0 9 && (withinB true off (-32768) 32767 && decide (imm ≤ 0))))) ∧ Below w.heap.size w w' := by
  have hof : ∀ W : World, Calls Try.prog 49 #[.int .i64 (op : Int)] W fun e W' => (∃ s : ByteArray, e = .returned (.tuple #[.agg #[.string s, .int .i64 7], .bool true])) ∧ Below W.heap.size W W' := fun W => by
    have hu : usesN op = 7 := by rcases hop with rfl | rfl | rfl <;> rfl
    have := of_ok W op (by omega) (by omega)
    rw [hu] at this
    exact this
  have hge : decide ((op : Int) ≥ 19) = false := by simp; omega
  have hge2 : decide (19 ≤ (op : Int)) = false := by simp; omega
  clear hop
  obtain ⟨x, hx⟩ : ∃ x, withinB true dst 0 9 = x := ⟨_, rfl⟩
  obtain ⟨y, hy⟩ : ∃ x, withinB true src 0 9 = x := ⟨_, rfl⟩
  obtain ⟨z, hz⟩ : ∃ x, withinB true off (-32768) 32767 = x := ⟨_, rfl⟩
  obtain ⟨v, hv⟩ : ∃ x, decide (imm ≤ 0) = x := ⟨_, rfl⟩
  rw [hx, hy, hz, hv]
  have hv2 : decide (imm = 0) = v := by rw [← hv]; congr 1; exact propext (by omega)
  clear hv
  have b1 : bits BinOp.and IntKind.i64 7 1 = 1 := by kernel_rfl
  have b2 : bits BinOp.and IntKind.i64 7 2 = 2 := by kernel_rfl
  have b4 : bits BinOp.and IntKind.i64 7 4 = 4 := by kernel_rfl
  have b8 : bits BinOp.and IntKind.i64 7 8 = 0 := by kernel_rfl
  have HOF := Lib.hid hof; clear hof
  cases x
  · clear hy hz hv2
    go_enter Try.func37, Try.ntmps37
    go_wp2_with (first | (go_at_call 49; refine (HOF.out _).mono ?_; rintro e w1 ⟨⟨s, rfl⟩, hb⟩; obtain ⟨hc1, hf1⟩ := bcell hb; have hz1 : w.heap.size < w1.heap.size := (by have := hb.size; simp at this; omega); have HB1 := Lib.hid hb; clear hb) | (go_at_call 50; with_reducible refine (within_ok _ _ _ _ _).mono ?_; rintro e w' ⟨rfl, rfl⟩))
    go_ret
    exact ⟨rfl, may_below HB1.out⟩
  cases y
  · clear hz hv2
    go_enter Try.func37, Try.ntmps37
    go_wp2_with (first | (go_at_call 49; refine (HOF.out _).mono ?_; rintro e w1 ⟨⟨s, rfl⟩, hb⟩; obtain ⟨hc1, hf1⟩ := bcell hb; have hz1 : w.heap.size < w1.heap.size := (by have := hb.size; simp at this; omega); have HB1 := Lib.hid hb; clear hb) | (go_at_call 50; with_reducible refine (within_ok _ _ _ _ _).mono ?_; rintro e w' ⟨rfl, rfl⟩))
    go_ret
    exact ⟨rfl, may_below HB1.out⟩
  cases z
  · clear hv2
    go_enter Try.func37, Try.ntmps37
    go_wp2_with (first | (go_at_call 49; refine (HOF.out _).mono ?_; rintro e w1 ⟨⟨s, rfl⟩, hb⟩; obtain ⟨hc1, hf1⟩ := bcell hb; have hz1 : w.heap.size < w1.heap.size := (by have := hb.size; simp at this; omega); have HB1 := Lib.hid hb; clear hb) | (go_at_call 50; with_reducible refine (within_ok _ _ _ _ _).mono ?_; rintro e w' ⟨rfl, rfl⟩))
    go_ret
    exact ⟨rfl, may_below HB1.out⟩
  cases v
  · skip
    go_enter Try.func37, Try.ntmps37
    go_wp2_with (first | (go_at_call 49; refine (HOF.out _).mono ?_; rintro e w1 ⟨⟨s, rfl⟩, hb⟩; obtain ⟨hc1, hf1⟩ := bcell hb; have hz1 : w.heap.size < w1.heap.size := (by have := hb.size; simp at this; omega); have HB1 := Lib.hid hb; clear hb) | (go_at_call 50; with_reducible refine (within_ok _ _ _ _ _).mono ?_; rintro e w' ⟨rfl, rfl⟩))
    go_ret
    exact ⟨rfl, may_below HB1.out⟩
  · skip
    go_enter Try.func37, Try.ntmps37
    go_wp2_with (first | (go_at_call 49; refine (HOF.out _).mono ?_; rintro e w1 ⟨⟨s, rfl⟩, hb⟩; obtain ⟨hc1, hf1⟩ := bcell hb; have hz1 : w.heap.size < w1.heap.size := (by have := hb.size; simp at this; omega); have HB1 := Lib.hid hb; clear hb) | (go_at_call 50; with_reducible refine (within_ok _ _ _ _ _).mono ?_; rintro e w' ⟨rfl, rfl⟩))
    go_ret
    exact ⟨rfl, may_below HB1.out⟩

end Go.Proofs.Ytjlddhnjbjhmkaa
namespace Go.Proofs.Ytjlddhnjbjhmkaa
open Go.RowKit

set_option maxHeartbeats 4000000 in
theorem may_F (w : World) (dst src off : Int) (imm : Nat) :
    Calls Try.prog 37 #[.agg #[.int .i64 19, .int .i64 dst, .int .i64 src, .int .i64 off, .int .u32 (imm : Int)]] w fun e w' => e = .returned (.bool (withinB false dst 0 9 && (withinB false src 0 9 && (withinB true off 0 255 && decide (imm ≤ 0))))) ∧ Below w.heap.size w w' := by
  have hof : ∀ W : World, Calls Try.prog 49 #[.int .i64 19] W fun e W' => (∃ s : ByteArray, e = .returned (.tuple #[.agg #[.string s, .int .i64 4], .bool true])) ∧ Below W.heap.size W W' := fun W => of_ok W 19 (by omega) (by omega)
  obtain ⟨x, hx⟩ : ∃ x, withinB false dst 0 9 = x := ⟨_, rfl⟩
  obtain ⟨y, hy⟩ : ∃ x, withinB false src 0 9 = x := ⟨_, rfl⟩
  obtain ⟨z, hz⟩ : ∃ x, withinB true off 0 255 = x := ⟨_, rfl⟩
  obtain ⟨v, hv⟩ : ∃ x, decide (imm ≤ 0) = x := ⟨_, rfl⟩
  rw [hx, hy, hz, hv]
  have hv2 : decide (imm = 0) = v := by rw [← hv]; congr 1; exact propext (by omega)
  clear hv
  have b1 : bits BinOp.and IntKind.i64 4 1 = 0 := by kernel_rfl
  have b2 : bits BinOp.and IntKind.i64 4 2 = 0 := by kernel_rfl
  have b4 : bits BinOp.and IntKind.i64 4 4 = 4 := by kernel_rfl
  have b8 : bits BinOp.and IntKind.i64 4 8 = 0 := by kernel_rfl
  have HOF := Lib.hid hof; clear hof
  cases x
  · clear hy hz hv2
    go_enter Try.func37, Try.ntmps37
    go_wp2_with (first | (go_at_call 49; refine (HOF.out _).mono ?_; rintro e w1 ⟨⟨s, rfl⟩, hb⟩; obtain ⟨hc1, hf1⟩ := bcell hb; have hz1 : w.heap.size < w1.heap.size := (by have := hb.size; simp at this; omega); have HB1 := Lib.hid hb; clear hb) | (go_at_call 50; with_reducible refine (within_ok _ _ _ _ _).mono ?_; rintro e w' ⟨rfl, rfl⟩))
    go_ret
    exact ⟨rfl, may_below HB1.out⟩
  cases y
  · clear hz hv2
    go_enter Try.func37, Try.ntmps37
    go_wp2_with (first | (go_at_call 49; refine (HOF.out _).mono ?_; rintro e w1 ⟨⟨s, rfl⟩, hb⟩; obtain ⟨hc1, hf1⟩ := bcell hb; have hz1 : w.heap.size < w1.heap.size := (by have := hb.size; simp at this; omega); have HB1 := Lib.hid hb; clear hb) | (go_at_call 50; with_reducible refine (within_ok _ _ _ _ _).mono ?_; rintro e w' ⟨rfl, rfl⟩))
    go_ret
    exact ⟨rfl, may_below HB1.out⟩
  cases z
  · clear hv2
    go_enter Try.func37, Try.ntmps37
    go_wp2_with (first | (go_at_call 49; refine (HOF.out _).mono ?_; rintro e w1 ⟨⟨s, rfl⟩, hb⟩; obtain ⟨hc1, hf1⟩ := bcell hb; have hz1 : w.heap.size < w1.heap.size := (by have := hb.size; simp at this; omega); have HB1 := Lib.hid hb; clear hb) | (go_at_call 50; with_reducible refine (within_ok _ _ _ _ _).mono ?_; rintro e w' ⟨rfl, rfl⟩))
    go_ret
    exact ⟨rfl, may_below HB1.out⟩
  cases v
  · skip
    go_enter Try.func37, Try.ntmps37
    go_wp2_with (first | (go_at_call 49; refine (HOF.out _).mono ?_; rintro e w1 ⟨⟨s, rfl⟩, hb⟩; obtain ⟨hc1, hf1⟩ := bcell hb; have hz1 : w.heap.size < w1.heap.size := (by have := hb.size; simp at this; omega); have HB1 := Lib.hid hb; clear hb) | (go_at_call 50; with_reducible refine (within_ok _ _ _ _ _).mono ?_; rintro e w' ⟨rfl, rfl⟩))
    go_ret
    exact ⟨rfl, may_below HB1.out⟩
  · skip
    go_enter Try.func37, Try.ntmps37
    go_wp2_with (first | (go_at_call 49; refine (HOF.out _).mono ?_; rintro e w1 ⟨⟨s, rfl⟩, hb⟩; obtain ⟨hc1, hf1⟩ := bcell hb; have hz1 : w.heap.size < w1.heap.size := (by have := hb.size; simp at this; omega); have HB1 := Lib.hid hb; clear hb) | (go_at_call 50; with_reducible refine (within_ok _ _ _ _ _).mono ?_; rintro e w' ⟨rfl, rfl⟩))
    go_ret
    exact ⟨rfl, may_below HB1.out⟩

set_option maxHeartbeats 4000000 in
theorem may_G (w : World) (op : Nat) (hop : op = 20 ∨ op = 21) (dst src off : Int) (imm : Nat) :
    Calls Try.prog 37 #[.agg #[.int .i64 (op : Int), .int .i64 dst, .int .i64 src, .int .i64 off, .int .u32 (imm : Int)]] w fun e w' => e = .returned (.bool (withinB true dst 0 9 && (withinB false src 0 9 && (withinB true off 0 255 && decide (imm ≤ 4294967295))))) ∧ Below w.heap.size w w' := by
  have hof : ∀ W : World, Calls Try.prog 49 #[.int .i64 (op : Int)] W fun e W' => (∃ s : ByteArray, e = .returned (.tuple #[.agg #[.string s, .int .i64 13], .bool true])) ∧ Below W.heap.size W W' := fun W => by
    have hu : usesN op = 13 := by rcases hop with rfl | rfl <;> rfl
    have := of_ok W op (by omega) (by omega)
    rw [hu] at this
    exact this
  have hge : decide ((op : Int) ≥ 19) = true := by simp; omega
  have hge2 : decide (19 ≤ (op : Int)) = true := by simp; omega
  have h12 : ((op : Int) == 12) = false := by simp; omega
  have h13 : ((op : Int) == 13) = false := by simp; omega
  have h23 : ((op : Int) == 23) = false := by simp; omega
  clear hop
  obtain ⟨x, hx⟩ : ∃ x, withinB true dst 0 9 = x := ⟨_, rfl⟩
  obtain ⟨y, hy⟩ : ∃ x, withinB false src 0 9 = x := ⟨_, rfl⟩
  obtain ⟨z, hz⟩ : ∃ x, withinB true off 0 255 = x := ⟨_, rfl⟩
  obtain ⟨v, hv⟩ : ∃ x, decide (imm ≤ 4294967295) = x := ⟨_, rfl⟩
  rw [hx, hy, hz, hv]
  have hv2 : decide ((imm : Int) ≤ 4294967295) = v := by rw [← hv]; congr 1; exact propext (by omega)
  clear hv
  have b1 : bits BinOp.and IntKind.i64 13 1 = 1 := by kernel_rfl
  have b2 : bits BinOp.and IntKind.i64 13 2 = 0 := by kernel_rfl
  have b4 : bits BinOp.and IntKind.i64 13 4 = 4 := by kernel_rfl
  have b8 : bits BinOp.and IntKind.i64 13 8 = 8 := by kernel_rfl
  have HOF := Lib.hid hof; clear hof
  cases x
  · clear hy hz hv2
    go_enter Try.func37, Try.ntmps37
    go_wp2_with (first | (go_at_call 49; refine (HOF.out _).mono ?_; rintro e w1 ⟨⟨s, rfl⟩, hb⟩; obtain ⟨hc1, hf1⟩ := bcell hb; have hz1 : w.heap.size < w1.heap.size := (by have := hb.size; simp at this; omega); have HB1 := Lib.hid hb; clear hb) | (go_at_call 50; with_reducible refine (within_ok _ _ _ _ _).mono ?_; rintro e w' ⟨rfl, rfl⟩))
    go_ret
    exact ⟨rfl, may_below HB1.out⟩
  cases y
  · clear hz hv2
    go_enter Try.func37, Try.ntmps37
    go_wp2_with (first | (go_at_call 49; refine (HOF.out _).mono ?_; rintro e w1 ⟨⟨s, rfl⟩, hb⟩; obtain ⟨hc1, hf1⟩ := bcell hb; have hz1 : w.heap.size < w1.heap.size := (by have := hb.size; simp at this; omega); have HB1 := Lib.hid hb; clear hb) | (go_at_call 50; with_reducible refine (within_ok _ _ _ _ _).mono ?_; rintro e w' ⟨rfl, rfl⟩))
    go_ret
    exact ⟨rfl, may_below HB1.out⟩
  cases z
  · clear hv2
    go_enter Try.func37, Try.ntmps37
    go_wp2_with (first | (go_at_call 49; refine (HOF.out _).mono ?_; rintro e w1 ⟨⟨s, rfl⟩, hb⟩; obtain ⟨hc1, hf1⟩ := bcell hb; have hz1 : w.heap.size < w1.heap.size := (by have := hb.size; simp at this; omega); have HB1 := Lib.hid hb; clear hb) | (go_at_call 50; with_reducible refine (within_ok _ _ _ _ _).mono ?_; rintro e w' ⟨rfl, rfl⟩))
    go_ret
    exact ⟨rfl, may_below HB1.out⟩
  cases v
  · skip
    go_enter Try.func37, Try.ntmps37
    go_wp2_with (first | (go_at_call 49; refine (HOF.out _).mono ?_; rintro e w1 ⟨⟨s, rfl⟩, hb⟩; obtain ⟨hc1, hf1⟩ := bcell hb; have hz1 : w.heap.size < w1.heap.size := (by have := hb.size; simp at this; omega); have HB1 := Lib.hid hb; clear hb) | (go_at_call 50; with_reducible refine (within_ok _ _ _ _ _).mono ?_; rintro e w' ⟨rfl, rfl⟩))
    go_ret
    exact ⟨rfl, may_below HB1.out⟩
  · skip
    go_enter Try.func37, Try.ntmps37
    go_wp2_with (first | (go_at_call 49; refine (HOF.out _).mono ?_; rintro e w1 ⟨⟨s, rfl⟩, hb⟩; obtain ⟨hc1, hf1⟩ := bcell hb; have hz1 : w.heap.size < w1.heap.size := (by have := hb.size; simp at this; omega); have HB1 := Lib.hid hb; clear hb) | (go_at_call 50; with_reducible refine (within_ok _ _ _ _ _).mono ?_; rintro e w' ⟨rfl, rfl⟩))
    go_ret
    exact ⟨rfl, may_below HB1.out⟩

set_option maxHeartbeats 4000000 in
theorem may_H (w : World) (dst src off : Int) (imm : Nat) :
    Calls Try.prog 37 #[.agg #[.int .i64 22, .int .i64 dst, .int .i64 src, .int .i64 off, .int .u32 (imm : Int)]] w fun e w' => e = .returned (.bool (withinB true dst 0 9 && (withinB true src 0 9 && (withinB true off 0 255 && decide (imm ≤ 0))))) ∧ Below w.heap.size w w' := by
  have hof : ∀ W : World, Calls Try.prog 49 #[.int .i64 22] W fun e W' => (∃ s : ByteArray, e = .returned (.tuple #[.agg #[.string s, .int .i64 7], .bool true])) ∧ Below W.heap.size W W' := fun W => of_ok W 22 (by omega) (by omega)
  obtain ⟨x, hx⟩ : ∃ x, withinB true dst 0 9 = x := ⟨_, rfl⟩
  obtain ⟨y, hy⟩ : ∃ x, withinB true src 0 9 = x := ⟨_, rfl⟩
  obtain ⟨z, hz⟩ : ∃ x, withinB true off 0 255 = x := ⟨_, rfl⟩
  obtain ⟨v, hv⟩ : ∃ x, decide (imm ≤ 0) = x := ⟨_, rfl⟩
  rw [hx, hy, hz, hv]
  have hv2 : decide (imm = 0) = v := by rw [← hv]; congr 1; exact propext (by omega)
  clear hv
  have b1 : bits BinOp.and IntKind.i64 7 1 = 1 := by kernel_rfl
  have b2 : bits BinOp.and IntKind.i64 7 2 = 2 := by kernel_rfl
  have b4 : bits BinOp.and IntKind.i64 7 4 = 4 := by kernel_rfl
  have b8 : bits BinOp.and IntKind.i64 7 8 = 0 := by kernel_rfl
  have HOF := Lib.hid hof; clear hof
  cases x
  · clear hy hz hv2
    go_enter Try.func37, Try.ntmps37
    go_wp2_with (first | (go_at_call 49; refine (HOF.out _).mono ?_; rintro e w1 ⟨⟨s, rfl⟩, hb⟩; obtain ⟨hc1, hf1⟩ := bcell hb; have hz1 : w.heap.size < w1.heap.size := (by have := hb.size; simp at this; omega); have HB1 := Lib.hid hb; clear hb) | (go_at_call 50; with_reducible refine (within_ok _ _ _ _ _).mono ?_; rintro e w' ⟨rfl, rfl⟩))
    go_ret
    exact ⟨rfl, may_below HB1.out⟩
  cases y
  · clear hz hv2
    go_enter Try.func37, Try.ntmps37
    go_wp2_with (first | (go_at_call 49; refine (HOF.out _).mono ?_; rintro e w1 ⟨⟨s, rfl⟩, hb⟩; obtain ⟨hc1, hf1⟩ := bcell hb; have hz1 : w.heap.size < w1.heap.size := (by have := hb.size; simp at this; omega); have HB1 := Lib.hid hb; clear hb) | (go_at_call 50; with_reducible refine (within_ok _ _ _ _ _).mono ?_; rintro e w' ⟨rfl, rfl⟩))
    go_ret
    exact ⟨rfl, may_below HB1.out⟩
  cases z
  · clear hv2
    go_enter Try.func37, Try.ntmps37
    go_wp2_with (first | (go_at_call 49; refine (HOF.out _).mono ?_; rintro e w1 ⟨⟨s, rfl⟩, hb⟩; obtain ⟨hc1, hf1⟩ := bcell hb; have hz1 : w.heap.size < w1.heap.size := (by have := hb.size; simp at this; omega); have HB1 := Lib.hid hb; clear hb) | (go_at_call 50; with_reducible refine (within_ok _ _ _ _ _).mono ?_; rintro e w' ⟨rfl, rfl⟩))
    go_ret
    exact ⟨rfl, may_below HB1.out⟩
  cases v
  · skip
    go_enter Try.func37, Try.ntmps37
    go_wp2_with (first | (go_at_call 49; refine (HOF.out _).mono ?_; rintro e w1 ⟨⟨s, rfl⟩, hb⟩; obtain ⟨hc1, hf1⟩ := bcell hb; have hz1 : w.heap.size < w1.heap.size := (by have := hb.size; simp at this; omega); have HB1 := Lib.hid hb; clear hb) | (go_at_call 50; with_reducible refine (within_ok _ _ _ _ _).mono ?_; rintro e w' ⟨rfl, rfl⟩))
    go_ret
    exact ⟨rfl, may_below HB1.out⟩
  · skip
    go_enter Try.func37, Try.ntmps37
    go_wp2_with (first | (go_at_call 49; refine (HOF.out _).mono ?_; rintro e w1 ⟨⟨s, rfl⟩, hb⟩; obtain ⟨hc1, hf1⟩ := bcell hb; have hz1 : w.heap.size < w1.heap.size := (by have := hb.size; simp at this; omega); have HB1 := Lib.hid hb; clear hb) | (go_at_call 50; with_reducible refine (within_ok _ _ _ _ _).mono ?_; rintro e w' ⟨rfl, rfl⟩))
    go_ret
    exact ⟨rfl, may_below HB1.out⟩

set_option maxHeartbeats 4000000 in
theorem may_I (w : World) (dst src off : Int) (imm : Nat) :
    Calls Try.prog 37 #[.agg #[.int .i64 23, .int .i64 dst, .int .i64 src, .int .i64 off, .int .u32 (imm : Int)]] w fun e w' => e = .returned (.bool (withinB false dst 0 9 && (withinB false src 0 9 && (withinB false off 0 255 && decide (imm ≤ 7))))) ∧ Below w.heap.size w w' := by
  have hof : ∀ W : World, Calls Try.prog 49 #[.int .i64 23] W fun e W' => (∃ s : ByteArray, e = .returned (.tuple #[.agg #[.string s, .int .i64 8], .bool true])) ∧ Below W.heap.size W W' := fun W => of_ok W 23 (by omega) (by omega)
  obtain ⟨x, hx⟩ : ∃ x, withinB false dst 0 9 = x := ⟨_, rfl⟩
  obtain ⟨y, hy⟩ : ∃ x, withinB false src 0 9 = x := ⟨_, rfl⟩
  obtain ⟨z, hz⟩ : ∃ x, withinB false off 0 255 = x := ⟨_, rfl⟩
  obtain ⟨v, hv⟩ : ∃ x, decide (imm ≤ 7) = x := ⟨_, rfl⟩
  rw [hx, hy, hz, hv]
  have hv2 : decide ((imm : Int) ≤ 7) = v := by rw [← hv]; congr 1; exact propext (by omega)
  clear hv
  have b1 : bits BinOp.and IntKind.i64 8 1 = 0 := by kernel_rfl
  have b2 : bits BinOp.and IntKind.i64 8 2 = 0 := by kernel_rfl
  have b4 : bits BinOp.and IntKind.i64 8 4 = 0 := by kernel_rfl
  have b8 : bits BinOp.and IntKind.i64 8 8 = 8 := by kernel_rfl
  have HOF := Lib.hid hof; clear hof
  cases x
  · clear hy hz hv2
    go_enter Try.func37, Try.ntmps37
    go_wp2_with (first | (go_at_call 49; refine (HOF.out _).mono ?_; rintro e w1 ⟨⟨s, rfl⟩, hb⟩; obtain ⟨hc1, hf1⟩ := bcell hb; have hz1 : w.heap.size < w1.heap.size := (by have := hb.size; simp at this; omega); have HB1 := Lib.hid hb; clear hb) | (go_at_call 50; with_reducible refine (within_ok _ _ _ _ _).mono ?_; rintro e w' ⟨rfl, rfl⟩))
    go_ret
    exact ⟨rfl, may_below HB1.out⟩
  cases y
  · clear hz hv2
    go_enter Try.func37, Try.ntmps37
    go_wp2_with (first | (go_at_call 49; refine (HOF.out _).mono ?_; rintro e w1 ⟨⟨s, rfl⟩, hb⟩; obtain ⟨hc1, hf1⟩ := bcell hb; have hz1 : w.heap.size < w1.heap.size := (by have := hb.size; simp at this; omega); have HB1 := Lib.hid hb; clear hb) | (go_at_call 50; with_reducible refine (within_ok _ _ _ _ _).mono ?_; rintro e w' ⟨rfl, rfl⟩))
    go_ret
    exact ⟨rfl, may_below HB1.out⟩
  cases z
  · clear hv2
    go_enter Try.func37, Try.ntmps37
    go_wp2_with (first | (go_at_call 49; refine (HOF.out _).mono ?_; rintro e w1 ⟨⟨s, rfl⟩, hb⟩; obtain ⟨hc1, hf1⟩ := bcell hb; have hz1 : w.heap.size < w1.heap.size := (by have := hb.size; simp at this; omega); have HB1 := Lib.hid hb; clear hb) | (go_at_call 50; with_reducible refine (within_ok _ _ _ _ _).mono ?_; rintro e w' ⟨rfl, rfl⟩))
    go_ret
    exact ⟨rfl, may_below HB1.out⟩
  cases v
  · skip
    go_enter Try.func37, Try.ntmps37
    go_wp2_with (first | (go_at_call 49; refine (HOF.out _).mono ?_; rintro e w1 ⟨⟨s, rfl⟩, hb⟩; obtain ⟨hc1, hf1⟩ := bcell hb; have hz1 : w.heap.size < w1.heap.size := (by have := hb.size; simp at this; omega); have HB1 := Lib.hid hb; clear hb) | (go_at_call 50; with_reducible refine (within_ok _ _ _ _ _).mono ?_; rintro e w' ⟨rfl, rfl⟩))
    go_ret
    exact ⟨rfl, may_below HB1.out⟩
  · skip
    go_enter Try.func37, Try.ntmps37
    go_wp2_with (first | (go_at_call 49; refine (HOF.out _).mono ?_; rintro e w1 ⟨⟨s, rfl⟩, hb⟩; obtain ⟨hc1, hf1⟩ := bcell hb; have hz1 : w.heap.size < w1.heap.size := (by have := hb.size; simp at this; omega); have HB1 := Lib.hid hb; clear hb) | (go_at_call 50; with_reducible refine (within_ok _ _ _ _ _).mono ?_; rintro e w' ⟨rfl, rfl⟩))
    go_ret
    exact ⟨rfl, may_below HB1.out⟩

set_option maxHeartbeats 4000000 in
theorem may_J (w : World) (dst src off : Int) (imm : Nat) :
    Calls Try.prog 37 #[.agg #[.int .i64 24, .int .i64 dst, .int .i64 src, .int .i64 off, .int .u32 (imm : Int)]] w fun e w' => e = .returned (.bool (withinB false dst 0 9 && (withinB false src 0 9 && (withinB false off 0 255 && decide (imm ≤ 0))))) ∧ Below w.heap.size w w' := by
  have hof : ∀ W : World, Calls Try.prog 49 #[.int .i64 24] W fun e W' => (∃ s : ByteArray, e = .returned (.tuple #[.agg #[.string s, .int .i64 0], .bool true])) ∧ Below W.heap.size W W' := fun W => of_ok W 24 (by omega) (by omega)
  obtain ⟨x, hx⟩ : ∃ x, withinB false dst 0 9 = x := ⟨_, rfl⟩
  obtain ⟨y, hy⟩ : ∃ x, withinB false src 0 9 = x := ⟨_, rfl⟩
  obtain ⟨z, hz⟩ : ∃ x, withinB false off 0 255 = x := ⟨_, rfl⟩
  obtain ⟨v, hv⟩ : ∃ x, decide (imm ≤ 0) = x := ⟨_, rfl⟩
  rw [hx, hy, hz, hv]
  have hv2 : decide (imm = 0) = v := by rw [← hv]; congr 1; exact propext (by omega)
  clear hv
  have b1 : bits BinOp.and IntKind.i64 0 1 = 0 := by kernel_rfl
  have b2 : bits BinOp.and IntKind.i64 0 2 = 0 := by kernel_rfl
  have b4 : bits BinOp.and IntKind.i64 0 4 = 0 := by kernel_rfl
  have b8 : bits BinOp.and IntKind.i64 0 8 = 0 := by kernel_rfl
  have HOF := Lib.hid hof; clear hof
  cases x
  · clear hy hz hv2
    go_enter Try.func37, Try.ntmps37
    go_wp2_with (first | (go_at_call 49; refine (HOF.out _).mono ?_; rintro e w1 ⟨⟨s, rfl⟩, hb⟩; obtain ⟨hc1, hf1⟩ := bcell hb; have hz1 : w.heap.size < w1.heap.size := (by have := hb.size; simp at this; omega); have HB1 := Lib.hid hb; clear hb) | (go_at_call 50; with_reducible refine (within_ok _ _ _ _ _).mono ?_; rintro e w' ⟨rfl, rfl⟩))
    go_ret
    exact ⟨rfl, may_below HB1.out⟩
  cases y
  · clear hz hv2
    go_enter Try.func37, Try.ntmps37
    go_wp2_with (first | (go_at_call 49; refine (HOF.out _).mono ?_; rintro e w1 ⟨⟨s, rfl⟩, hb⟩; obtain ⟨hc1, hf1⟩ := bcell hb; have hz1 : w.heap.size < w1.heap.size := (by have := hb.size; simp at this; omega); have HB1 := Lib.hid hb; clear hb) | (go_at_call 50; with_reducible refine (within_ok _ _ _ _ _).mono ?_; rintro e w' ⟨rfl, rfl⟩))
    go_ret
    exact ⟨rfl, may_below HB1.out⟩
  cases z
  · clear hv2
    go_enter Try.func37, Try.ntmps37
    go_wp2_with (first | (go_at_call 49; refine (HOF.out _).mono ?_; rintro e w1 ⟨⟨s, rfl⟩, hb⟩; obtain ⟨hc1, hf1⟩ := bcell hb; have hz1 : w.heap.size < w1.heap.size := (by have := hb.size; simp at this; omega); have HB1 := Lib.hid hb; clear hb) | (go_at_call 50; with_reducible refine (within_ok _ _ _ _ _).mono ?_; rintro e w' ⟨rfl, rfl⟩))
    go_ret
    exact ⟨rfl, may_below HB1.out⟩
  cases v
  · skip
    go_enter Try.func37, Try.ntmps37
    go_wp2_with (first | (go_at_call 49; refine (HOF.out _).mono ?_; rintro e w1 ⟨⟨s, rfl⟩, hb⟩; obtain ⟨hc1, hf1⟩ := bcell hb; have hz1 : w.heap.size < w1.heap.size := (by have := hb.size; simp at this; omega); have HB1 := Lib.hid hb; clear hb) | (go_at_call 50; with_reducible refine (within_ok _ _ _ _ _).mono ?_; rintro e w' ⟨rfl, rfl⟩))
    go_ret
    exact ⟨rfl, may_below HB1.out⟩
  · skip
    go_enter Try.func37, Try.ntmps37
    go_wp2_with (first | (go_at_call 49; refine (HOF.out _).mono ?_; rintro e w1 ⟨⟨s, rfl⟩, hb⟩; obtain ⟨hc1, hf1⟩ := bcell hb; have hz1 : w.heap.size < w1.heap.size := (by have := hb.size; simp at this; omega); have HB1 := Lib.hid hb; clear hb) | (go_at_call 50; with_reducible refine (within_ok _ _ _ _ _).mono ?_; rintro e w' ⟨rfl, rfl⟩))
    go_ret
    exact ⟨rfl, may_below HB1.out⟩

end Go.Proofs.Ytjlddhnjbjhmkaa
namespace Go.Proofs.Ytjlddhnjbjhmkaa
open Go.RowKit

/-- Any instruction. -/
structure InsZ where
  op : Int
  dst : Int
  src : Int
  off : Int
  imm : Nat
def insZC (i : InsZ) : List Value := [.int .i64 i.op, .int .i64 i.dst, .int .i64 i.src, .int .i64 i.off, .int .u32 (i.imm : Int)]
def insZV (i : InsZ) : Value := .agg #[.int .i64 i.op, .int .i64 i.dst, .int .i64 i.src, .int .i64 i.off, .int .u32 (i.imm : Int)]
def Ins8.z (i : Ins8) : InsZ := ⟨(i.op : Int), (i.dst : Int), (i.src : Int), i.off, i.imm⟩
def uD (op : Nat) : Bool := decide (op ≤ 18) || (decide (20 ≤ op) && decide (op ≤ 22))
def uS (op : Nat) : Bool := op == 2 || op == 4 || op == 5 || op == 7 || op == 9 || op == 10 || op == 11 || (decide (14 ≤ op) && decide (op ≤ 18)) || op == 22
def uO (op : Nat) : Bool := decide (16 ≤ op) && decide (op ≤ 22)
def uI (op : Nat) : Bool := op == 1 || op == 3 || op == 6 || op == 8 || op == 12 || op == 13 || op == 20 || op == 21 || op == 23
def mostN (op : Nat) : Nat := if uI op then (if op == 12 || op == 13 then 31 else if op == 23 then 7 else 4294967295) else 0
def mayN (op : Nat) (dst src off : Int) (imm : Nat) : Bool :=
  withinB (uD op) dst 0 9 && (withinB (uS op) src 0 9 && (withinB (uO op) off (if 19 ≤ op then 0 else -32768) (if 19 ≤ op then 255 else 32767) && decide (imm ≤ mostN op)))
def mayB (i : InsZ) : Bool := decide (1 ≤ i.op) && (decide (i.op ≤ 24) && mayN i.op.toNat i.dst i.src i.off i.imm)

theorem may_in (w : World) (op : Nat) (h1 : 1 ≤ op) (h2 : op ≤ 24) (dst src off : Int) (imm : Nat) :
    Calls Try.prog 37 #[.agg #[.int .i64 (op : Int), .int .i64 dst, .int .i64 src, .int .i64 off, .int .u32 (imm : Int)]] w fun e w' => e = .returned (.bool (mayN op dst src off imm)) ∧ Below w.heap.size w w' := by
  have hc : op = 1 ∨ op = 2 ∨ op = 3 ∨ op = 4 ∨ op = 5 ∨ op = 6 ∨ op = 7 ∨ op = 8 ∨ op = 9 ∨ op = 10 ∨ op = 11 ∨ op = 12 ∨ op = 13 ∨ op = 14 ∨ op = 15 ∨ op = 16 ∨ op = 17 ∨ op = 18 ∨ op = 19 ∨ op = 20 ∨ op = 21 ∨ op = 22 ∨ op = 23 ∨ op = 24 := by omega
  rcases hc with rfl | rfl | rfl | rfl | rfl | rfl | rfl | rfl | rfl | rfl | rfl | rfl | rfl | rfl | rfl | rfl | rfl | rfl | rfl | rfl | rfl | rfl | rfl | rfl
  · exact may_A w 1 (by omega) dst src off imm
  · exact may_D w 2 (by omega) dst src off imm
  · exact may_A w 3 (by omega) dst src off imm
  · exact may_D w 4 (by omega) dst src off imm
  · exact may_D w 5 (by omega) dst src off imm
  · exact may_A w 6 (by omega) dst src off imm
  · exact may_D w 7 (by omega) dst src off imm
  · exact may_A w 8 (by omega) dst src off imm
  · exact may_D w 9 (by omega) dst src off imm
  · exact may_D w 10 (by omega) dst src off imm
  · exact may_D w 11 (by omega) dst src off imm
  · exact may_B w dst src off imm
  · exact may_C w dst src off imm
  · exact may_D w 14 (by omega) dst src off imm
  · exact may_D w 15 (by omega) dst src off imm
  · exact may_E w 16 (by omega) dst src off imm
  · exact may_E w 17 (by omega) dst src off imm
  · exact may_E w 18 (by omega) dst src off imm
  · exact may_F w dst src off imm
  · exact may_G w 20 (by omega) dst src off imm
  · exact may_G w 21 (by omega) dst src off imm
  · exact may_H w dst src off imm
  · exact may_I w dst src off imm
  · exact may_J w dst src off imm
theorem may_any (w : World) (i : InsZ) : Calls Try.prog 37 #[insZV i] w fun e w' => e = .returned (.bool (mayB i)) ∧ Below w.heap.size w w' := by
  obtain ⟨op, dst, src, off, imm⟩ := i
  by_cases h : 1 ≤ op ∧ op ≤ 24
  · obtain ⟨n, rfl⟩ := Int.eq_ofNat_of_zero_le (show 0 ≤ op by omega)
    have e : mayB ⟨(n : Int), dst, src, off, imm⟩ = mayN n dst src off imm := by
      unfold mayB
      simp only [Int.toNat_natCast]
      rw [decide_eq_true h.1, decide_eq_true h.2]
      simp
    rw [e]
    exact may_in w n (by omega) (by omega) dst src off imm
  · have e : mayB ⟨op, dst, src, off, imm⟩ = false := by
      unfold mayB
      by_cases h1 : 1 ≤ op
      · rw [decide_eq_false (show ¬ op ≤ 24 by omega)]; simp
      · rw [decide_eq_false h1]; simp
    rw [e]
    have H := Lib.hid h; clear h e
    unfold insZV
    go_enter Try.func37, Try.ntmps37
    go_wp2_with (go_at_call 49; refine (of_not _ _ (by have := H.out; omega)).mono ?_; rintro e w1 ⟨rfl, hb⟩; obtain ⟨hc1, hf1⟩ := bcell hb; have hz1 : w.heap.size < w1.heap.size := (by have := hb.size; simp at this; omega); have HB1 := Lib.hid hb; clear hb)
    go_ret
    exact ⟨rfl, may_below HB1.out⟩

theorem within_yes {u : Bool} {n l g : Int} (h : withinB u n l g = true) : (u = false ∧ n = 0) ∨ (u = true ∧ l ≤ n ∧ n ≤ g) := by
  unfold withinB at h
  cases u <;> simp at h
  · exact .inl ⟨rfl, h⟩
  · exact .inr ⟨rfl, h⟩
/-- What may be is an instruction. -/
theorem may_ins {i : InsZ} (h : mayB i = true) : ∃ j : Ins8, i = j.z ∧ j.May := by
  obtain ⟨op, dst, src, off, imm⟩ := i
  simp only [mayB, mayN, Bool.and_eq_true, decide_eq_true_eq] at h
  obtain ⟨h1, h2, h3, h4, h5, h6⟩ := h
  have k3 := within_yes h3
  have k4 := within_yes h4
  have k5 := within_yes h5
  have e1 : ((op.toNat : Nat) : Int) = op := by omega
  have k6 : mostN op.toNat ≤ 4294967295 := by
    unfold mostN
    split
    · split
      · omega
      · split <;> omega
    · omega
  refine ⟨⟨op.toNat, dst.toNat, src.toNat, off, imm⟩, ?_, ⟨?_, ?_, ?_, ?_, ?_, ?_, ?_, ?_⟩⟩
  · simp only [Ins8.z, InsZ.mk.injEq, and_true, true_and]
    refine ⟨by omega, by omega, by omega⟩
  · show 1 ≤ op.toNat; omega
  · show op.toNat ≤ 24; omega
  · show dst.toNat < 10; omega
  · show src.toNat < 10; omega
  · show -32768 ≤ off
    rcases k5 with ⟨_, k⟩ | ⟨_, k, _⟩
    · omega
    · split at k <;> omega
  · show off ≤ 32767
    rcases k5 with ⟨_, k⟩ | ⟨_, _, k⟩
    · omega
    · split at k <;> omega
  · intro h19
    have h19' : 19 ≤ op.toNat := h19
    show 0 ≤ off ∧ off ≤ 255
    rcases k5 with ⟨_, k⟩ | ⟨_, k, k'⟩
    · omega
    · rw [if_pos h19'] at k k'; exact ⟨k, k'⟩
  · show imm < 4294967296; omega
end Go.Proofs.Ytjlddhnjbjhmkaa
namespace Go.Proofs.Ytjlddhnjbjhmkaa
open Go.RowKit

/-- What Check tells. -/
def checkN (ctx : Int) (pr : List InsZ) : Int := if ctx < 0 ∨ 256 < ctx then 2 else if pr.all mayB = false then 2 else if 256 < pr.length then 3 else 0

theorem insZ_cells : ∀ (pr : List InsZ) (n j : Nat) (i : InsZ), pr[n]? = some i → j < 5 → (pr.flatMap insZC)[n * 5 + j]? = (insZC i)[j]?
  | [], n, j, i, h, _ => by simp at h
  | p :: pr, 0, j, i, h, hj => by
    simp only [List.getElem?_cons_zero, Option.some.injEq] at h
    subst h
    rw [List.flatMap_cons, List.getElem?_append_left (by simp [insZC]; omega)]
    congr 1; omega
  | p :: pr, n + 1, j, i, h, hj => by
    rw [List.getElem?_cons_succ] at h
    have e := insZ_cells pr n j i h hj
    rw [List.flatMap_cons, List.getElem?_append_right (by simp [insZC]; omega), ← e]
    congr 1
    simp [insZC]; omega
theorem take_all {pr : List InsZ} {k : Nat} {i : InsZ} (h : (pr.take k).all mayB = true) (hi : pr[k]? = some i) (hm : mayB i = true) : (pr.take (k + 1)).all mayB = true := by
  obtain ⟨hk, he⟩ := List.getElem?_eq_some_iff.1 hi
  rw [List.take_succ_eq_append_getElem hk, List.all_append, h, he]
  simp [hm]
theorem not_all {pr : List InsZ} {k : Nat} {i : InsZ} (hi : pr[k]? = some i) (hm : mayB i = false) : pr.all mayB = false := by
  rw [List.all_eq_false]
  exact ⟨i, List.mem_of_getElem? hi, by simp [hm]⟩
theorem jump_ret {l : Nat} {J : Act → World → Prop} {Q : Exit → Act → World → Prop} {a : Act} {w : World} : Exit.jump l J Q .ret a w = Q .ret a w := rfl
def CR (w : World) (ctx : Int) (pr : List InsZ) (A : Option Addr) (c : Nat) (i : Value) (wr : World) : Prop :=
  ∃ k : Nat, k ≤ pr.length ∧ i = .int .i64 (k : Int) ∧ (pr.take k).all mayB = true ∧ Below (w.heap.size + 1) (w.alloc (.cells #[.int .i64 ctx, .slice A pr.length c] 24)) wr
def CJ (w : World) (ctx : Int) (pr : List InsZ) (a : Act) (w' : World) : Prop :=
  ∃ v0 v1 v3 v4 v5 v6 v7 v8 v9 v10 v11 v12 v13 v14 v15 v16 v17 v18 v19 v20 v21 v22 v23 v24 v25 v26 v27 v28, a = { tmps := #[v0, v1, .int .i64 (checkN ctx pr), v3, v4, v5, v6, v7, v8, v9, v10, v11, v12, v13, v14, v15, v16, v17, v18, v19, v20, v21, v22, v23, v24, v25, v26, v27, v28], defers := [] } ∧ Below w.heap.size w w'

set_option maxRecDepth 100000 in
set_option maxHeartbeats 1000000 in
theorem check_ok (w : World) (ctx : Int) (A : Option Addr) (c : Nat) (pr : List InsZ) {ok : Nat → Prop} (h : Sl w ok 5 A pr.length c (pr.flatMap insZC)) (hpl : pr.length ≤ 1000000) :
    Calls Try.prog 24 #[.agg #[.int .i64 ctx, .slice A pr.length c]] w fun e w' => e = .returned (.int .i64 (checkN ctx pr)) ∧ Below w.heap.size w w' := by
  go_enter Try.func24, Try.ntmps24
  go_wp2
  refine wp_scope_jumps 0 (CJ w ctx pr) (fun _ _ => 0) rfl ?_ ?_
  · have hgo : ∀ (Q : Exit → Act → World → Prop) (a : Act) (W : World), CJ w ctx pr a W → Exit.jump 0 (CJ w ctx pr) Q (.goto 0) a W := fun Q a W hJ => ⟨rfl, hJ⟩
    by_cases hc : ctx < 0
    · have hcn : checkN ctx pr = 2 := by unfold checkN; rw [if_pos (.inl hc)]
      have HC := Lib.hid hcn; clear hcn
      have HGO := Lib.hid hgo; clear hgo
      go_wp2
      go_step3
      refine And.intro rfl ⟨_, _, _, _, _, _, _, _, _, _, _, _, _, _, _, _, _, _, _, _, _, _, _, _, _, _, _, _, by rw [HC.out]; try rfl, (Below.refl _ _).alloc (Nat.le_refl _) _⟩
    by_cases hc2 : 256 < ctx
    · have hcn : checkN ctx pr = 2 := by unfold checkN; rw [if_pos (.inr hc2)]
      have HC := Lib.hid hcn; clear hcn
      have HGO := Lib.hid hgo; clear hgo
      go_wp2
      go_step3
      refine And.intro rfl ⟨_, _, _, _, _, _, _, _, _, _, _, _, _, _, _, _, _, _, _, _, _, _, _, _, _, _, _, _, by rw [HC.out]; try rfl, (Below.refl _ _).alloc (Nat.le_refl _) _⟩
    have HGO := Lib.hid hgo; clear hgo
    go_wp2
    go_loopw [16] (fun i wr => CR w ctx pr A c i wr) (fun i _ => pr.length - (intOf i).toNat)
    case atStart => exact ⟨0, Nat.zero_le _, rfl, rfl, Below.refl _ _⟩
    case round =>
      obtain ⟨k, hk, rfl, hal, hb⟩ := hrel
      have c1 : wr.cell? ⟨w.heap.size, 1, none⟩ = some (.slice A pr.length c) := (hb.cell (p := ⟨w.heap.size, 1, none⟩) (by simp)).trans (by simp [go_sem])
      have hz : w.heap.size < wr.heap.size := (by have := hb.size; simp at this; omega)
      have hbw : Below w.heap.size w wr := ((Below.refl _ _).alloc (Nat.le_refl _) _).trans (hb.mono (by omega))
      by_cases hlt : k < pr.length
      · obtain ⟨i, hi⟩ : ∃ i, pr[k]? = some i := ⟨_, List.getElem?_eq_getElem hlt⟩
        obtain ⟨a, rfl, _, hab, hcl⟩ := h.at_ (j := k * 5) (by omega)
        have hld : ∀ j v, (insZC i)[j]? = some v → wr.cell? ((a.add (k * 5)).add j) = some v := fun j v hv => by
          have hj : j < 5 := by
            rcases Nat.lt_or_ge j 5 with h | h
            · exact h
            · rw [List.getElem?_eq_none (by simpa [insZC] using h)] at hv; cases hv
          rw [add_add]
          have := hcl (k * 5 + j) v (by rw [insZ_cells pr k j i hi hj]; exact hv)
          exact (World.cell?_of_block (hbw.block _ (by rw [add_block]; exact hab))).trans this
        have HL := Lib.hid hld; clear hld
        have hmay := fun W => may_any W i
        have HB := Lib.hid hb; clear hb
        have HI := Lib.hid hi; clear hi
        have HA := Lib.hid hal; clear hal
        have HW := Lib.hid hbw; clear hbw
        have HCL := Lib.hid hcl; clear hcl
        by_cases hm : mayB i = true
        · have hmay' : ∀ W : World, Calls Try.prog 37 #[.agg #[.int .i64 i.op, .int .i64 i.dst, .int .i64 i.src, .int .i64 i.off, .int .u32 (i.imm : Int)]] W fun e w' => e = .returned (.bool true) ∧ Below W.heap.size W w' := fun W => by
            have := hmay W
            rw [hm] at this
            exact this
          clear hmay
          have HM := Lib.hid hmay'; clear hmay'
          have Hm := Lib.hid hm; clear hm
          go_wp2_with (first | (refine wpList_value (.agg #[.int .i64 i.op, .int .i64 i.dst, .int .i64 i.src, .int .i64 i.off, .int .u32 (i.imm : Int)]) rfl (exec_load_at 45 (.tmp 18) rfl (a.add (k * 5)) rfl (insZC i) _ HL.out Try.underlying45 rfl size_ins) ?_) | (go_at_call 37; refine (HM.out _).mono ?_; rintro e w1 ⟨rfl, hb1⟩; obtain ⟨hc1, hf1⟩ := bcell hb1; have HB1 := Lib.hid hb1; clear hb1))
          go_roundw
          case rel => exact ⟨k + 1, by omega, by go_num, take_all HA.out HI.out Hm.out, HB.out.trans (((Below.refl _ _).alloc (by have := HB.out.size; simp at this; omega) _).trans (HB1.out.mono (by have := HB.out.size; simp at this ⊢; omega)))⟩
          case measure => simp [intOf]; omega
        · have hmf : mayB i = false := by simpa using hm
          have hmay' : ∀ W : World, Calls Try.prog 37 #[.agg #[.int .i64 i.op, .int .i64 i.dst, .int .i64 i.src, .int .i64 i.off, .int .u32 (i.imm : Int)]] W fun e w' => e = .returned (.bool false) ∧ Below W.heap.size W w' := fun W => by
            have := hmay W
            rw [hmf] at this
            exact this
          clear hmay hm
          have HM := Lib.hid hmay'; clear hmay'
          have hcn : checkN ctx pr = 2 := by unfold checkN; rw [if_neg (by omega), not_all HI.out hmf, if_pos rfl]
          have HC := Lib.hid hcn; clear hcn hmf
          go_wp2_with (first | (refine wpList_value (.agg #[.int .i64 i.op, .int .i64 i.dst, .int .i64 i.src, .int .i64 i.off, .int .u32 (i.imm : Int)]) rfl (exec_load_at 45 (.tmp 18) rfl (a.add (k * 5)) rfl (insZC i) _ HL.out Try.underlying45 rfl size_ins) ?_) | (go_at_call 37; refine (HM.out _).mono ?_; rintro e w1 ⟨rfl, hb1⟩; obtain ⟨hc1, hf1⟩ := bcell hb1; have HB1 := Lib.hid hb1; clear hb1))
          go_step3
          refine And.intro rfl ⟨_, _, _, _, _, _, _, _, _, _, _, _, _, _, _, _, _, _, _, _, _, _, _, _, _, _, _, _, by rw [HC.out]; try rfl, HW.out.trans (((Below.refl _ _).alloc (by have := HW.out.size; omega) _).trans (HB1.out.mono (by have := HW.out.size; simp; omega)))⟩
      · obtain rfl : k = pr.length := by omega
        have hal' : pr.all mayB = true := by rw [List.take_length] at hal; exact hal
        have HA := Lib.hid hal'; clear hal hal'
        have HB := Lib.hid hb; clear hb
        have HW := Lib.hid hbw; clear hbw
        by_cases hlen : 256 < pr.length
        · have hcn : checkN ctx pr = 3 := by unfold checkN; rw [if_neg (by omega), HA.out, if_neg (by simp), if_pos hlen]
          have HC := Lib.hid hcn; clear hcn
          go_wp2
          go_step3
          refine And.intro rfl ⟨_, _, _, _, _, _, _, _, _, _, _, _, _, _, _, _, _, _, _, _, _, _, _, _, _, _, _, _, by rw [HC.out]; try rfl, HW.out⟩
        · have hcn : checkN ctx pr = 0 := by unfold checkN; rw [if_neg (by omega), HA.out, if_neg (by simp), if_neg hlen]
          have HC := Lib.hid hcn; clear hcn
          go_wp2
          rw [jump_ret]
          go_ret
          exact ⟨by rw [HC.out]; try rfl, HW.out⟩
  · rintro a W ⟨v0, v1, v3, v4, v5, v6, v7, v8, v9, v10, v11, v12, v13, v14, v15, v16, v17, v18, v19, v20, v21, v22, v23, v24, v25, v26, v27, v28, rfl, hb⟩
    go_wp2
    rw [jump_ret]
    go_ret
    exact ⟨rfl, hb⟩
end Go.Proofs.Ytjlddhnjbjhmkaa
