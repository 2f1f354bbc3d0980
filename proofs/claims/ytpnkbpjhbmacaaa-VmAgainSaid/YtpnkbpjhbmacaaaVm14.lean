/- What an Op uses: code.of. -/
import Derived.Test.YtpnkbpjhbmacaaaVm13
set_option linter.unusedVariables false
set_option linter.unusedSimpArgs false
namespace Go.Proofs.Ytpnkbpjhbmacaaa
open Go.RowKit

/-- What an Op uses, as bits. -/
def usesN (op : Nat) : Nat :=
  if op = 1 ∨ op = 3 ∨ op = 6 ∨ op = 8 ∨ op = 12 ∨ op = 13 then 9 else if op ≤ 15 then 3 else if op ≤ 18 then 7 else if op = 19 then 4 else if op ≤ 21 then 13 else if op = 22 then 7 else if op = 23 then 8 else 0

theorem index_rows1 (W : World) : (Instr.index 137 rowsV (.int .i64 1)).run Try.prog W = .ok (.agg #[.string ⟨#[109, 111, 118, 105]⟩, .int .i64 9]) W := by kernel_rfl
theorem index_rows2 (W : World) : (Instr.index 137 rowsV (.int .i64 2)).run Try.prog W = .ok (.agg #[.string ⟨#[109, 111, 118]⟩, .int .i64 3]) W := by kernel_rfl
theorem index_rows3 (W : World) : (Instr.index 137 rowsV (.int .i64 3)).run Try.prog W = .ok (.agg #[.string ⟨#[97, 100, 100, 105]⟩, .int .i64 9]) W := by kernel_rfl
theorem index_rows4 (W : World) : (Instr.index 137 rowsV (.int .i64 4)).run Try.prog W = .ok (.agg #[.string ⟨#[97, 100, 100]⟩, .int .i64 3]) W := by kernel_rfl
theorem index_rows5 (W : World) : (Instr.index 137 rowsV (.int .i64 5)).run Try.prog W = .ok (.agg #[.string ⟨#[115, 117, 98]⟩, .int .i64 3]) W := by kernel_rfl
theorem index_rows6 (W : World) : (Instr.index 137 rowsV (.int .i64 6)).run Try.prog W = .ok (.agg #[.string ⟨#[109, 117, 108, 105]⟩, .int .i64 9]) W := by kernel_rfl
theorem index_rows7 (W : World) : (Instr.index 137 rowsV (.int .i64 7)).run Try.prog W = .ok (.agg #[.string ⟨#[109, 117, 108]⟩, .int .i64 3]) W := by kernel_rfl
theorem index_rows8 (W : World) : (Instr.index 137 rowsV (.int .i64 8)).run Try.prog W = .ok (.agg #[.string ⟨#[97, 110, 100, 105]⟩, .int .i64 9]) W := by kernel_rfl
theorem index_rows9 (W : World) : (Instr.index 137 rowsV (.int .i64 9)).run Try.prog W = .ok (.agg #[.string ⟨#[97, 110, 100]⟩, .int .i64 3]) W := by kernel_rfl
theorem index_rows10 (W : World) : (Instr.index 137 rowsV (.int .i64 10)).run Try.prog W = .ok (.agg #[.string ⟨#[111, 114]⟩, .int .i64 3]) W := by kernel_rfl
theorem index_rows11 (W : World) : (Instr.index 137 rowsV (.int .i64 11)).run Try.prog W = .ok (.agg #[.string ⟨#[120, 111, 114]⟩, .int .i64 3]) W := by kernel_rfl
theorem index_rows12 (W : World) : (Instr.index 137 rowsV (.int .i64 12)).run Try.prog W = .ok (.agg #[.string ⟨#[115, 104, 108, 105]⟩, .int .i64 9]) W := by kernel_rfl
theorem index_rows13 (W : World) : (Instr.index 137 rowsV (.int .i64 13)).run Try.prog W = .ok (.agg #[.string ⟨#[115, 104, 114, 105]⟩, .int .i64 9]) W := by kernel_rfl
theorem index_rows14 (W : World) : (Instr.index 137 rowsV (.int .i64 14)).run Try.prog W = .ok (.agg #[.string ⟨#[100, 105, 118]⟩, .int .i64 3]) W := by kernel_rfl
theorem index_rows15 (W : World) : (Instr.index 137 rowsV (.int .i64 15)).run Try.prog W = .ok (.agg #[.string ⟨#[109, 111, 100]⟩, .int .i64 3]) W := by kernel_rfl
theorem index_rows16 (W : World) : (Instr.index 137 rowsV (.int .i64 16)).run Try.prog W = .ok (.agg #[.string ⟨#[108, 100, 99]⟩, .int .i64 7]) W := by kernel_rfl
theorem index_rows17 (W : World) : (Instr.index 137 rowsV (.int .i64 17)).run Try.prog W = .ok (.agg #[.string ⟨#[108, 100, 115]⟩, .int .i64 7]) W := by kernel_rfl
theorem index_rows18 (W : World) : (Instr.index 137 rowsV (.int .i64 18)).run Try.prog W = .ok (.agg #[.string ⟨#[115, 116, 115]⟩, .int .i64 7]) W := by kernel_rfl
theorem index_rows19 (W : World) : (Instr.index 137 rowsV (.int .i64 19)).run Try.prog W = .ok (.agg #[.string ⟨#[106, 97]⟩, .int .i64 4]) W := by kernel_rfl
theorem index_rows20 (W : World) : (Instr.index 137 rowsV (.int .i64 20)).run Try.prog W = .ok (.agg #[.string ⟨#[106, 101, 113, 105]⟩, .int .i64 13]) W := by kernel_rfl
theorem index_rows21 (W : World) : (Instr.index 137 rowsV (.int .i64 21)).run Try.prog W = .ok (.agg #[.string ⟨#[106, 108, 116, 105]⟩, .int .i64 13]) W := by kernel_rfl
theorem index_rows22 (W : World) : (Instr.index 137 rowsV (.int .i64 22)).run Try.prog W = .ok (.agg #[.string ⟨#[106, 108, 116]⟩, .int .i64 7]) W := by kernel_rfl
theorem index_rows23 (W : World) : (Instr.index 137 rowsV (.int .i64 23)).run Try.prog W = .ok (.agg #[.string ⟨#[99, 97, 108, 108]⟩, .int .i64 8]) W := by kernel_rfl
theorem index_rows24 (W : World) : (Instr.index 137 rowsV (.int .i64 24)).run Try.prog W = .ok (.agg #[.string ⟨#[101, 120, 105, 116]⟩, .int .i64 0]) W := by kernel_rfl
theorem index_rows (op : Nat) (h1 : 1 ≤ op) (h2 : op ≤ 24) : ∃ s : ByteArray, ∀ W : World, (Instr.index 137 rowsV (.int .i64 (op : Int))).run Try.prog W = .ok (.agg #[.string s, .int .i64 (usesN op : Int)]) W := by
  have hc : op = 1 ∨ op = 2 ∨ op = 3 ∨ op = 4 ∨ op = 5 ∨ op = 6 ∨ op = 7 ∨ op = 8 ∨ op = 9 ∨ op = 10 ∨ op = 11 ∨ op = 12 ∨ op = 13 ∨ op = 14 ∨ op = 15 ∨ op = 16 ∨ op = 17 ∨ op = 18 ∨ op = 19 ∨ op = 20 ∨ op = 21 ∨ op = 22 ∨ op = 23 ∨ op = 24 := by omega
  rcases hc with rfl | rfl | rfl | rfl | rfl | rfl | rfl | rfl | rfl | rfl | rfl | rfl | rfl | rfl | rfl | rfl | rfl | rfl | rfl | rfl | rfl | rfl | rfl | rfl
  · exact ⟨_, index_rows1⟩
  · exact ⟨_, index_rows2⟩
  · exact ⟨_, index_rows3⟩
  · exact ⟨_, index_rows4⟩
  · exact ⟨_, index_rows5⟩
  · exact ⟨_, index_rows6⟩
  · exact ⟨_, index_rows7⟩
  · exact ⟨_, index_rows8⟩
  · exact ⟨_, index_rows9⟩
  · exact ⟨_, index_rows10⟩
  · exact ⟨_, index_rows11⟩
  · exact ⟨_, index_rows12⟩
  · exact ⟨_, index_rows13⟩
  · exact ⟨_, index_rows14⟩
  · exact ⟨_, index_rows15⟩
  · exact ⟨_, index_rows16⟩
  · exact ⟨_, index_rows17⟩
  · exact ⟨_, index_rows18⟩
  · exact ⟨_, index_rows19⟩
  · exact ⟨_, index_rows20⟩
  · exact ⟨_, index_rows21⟩
  · exact ⟨_, index_rows22⟩
  · exact ⟨_, index_rows23⟩
  · exact ⟨_, index_rows24⟩
theorem of_ok (w : World) (op : Nat) (h1 : 1 ≤ op) (h2 : op ≤ 24) : Calls Try.prog 47 #[.int .i64 (op : Int)] w fun e w' => (∃ s : ByteArray, e = .returned (.tuple #[.agg #[.string s, .int .i64 (usesN op : Int)], .bool true])) ∧ Below w.heap.size w w' := by
  obtain ⟨s, hs⟩ := index_rows op h1 h2
  have h3 : decide ((op : Int) < 1) = false := by simp; omega
  have h4 : decide ((op : Int) > 24) = false := by simp; omega
  have h5 : 1 ≤ (op : Int) := by omega
  have h6 : (op : Int) ≤ 24 := by omega
  have hrows := rows_ok w
  go_enter Try.func47, Try.ntmps47
  go_wp2_with (go_at_call 63; refine (rows_ok _).mono ?_; rintro e w1 ⟨rfl, hb⟩; have hz : w.heap.size < w1.heap.size := (by have := hb.size; simp at this; omega); have c0 : w1.cell? ⟨w.heap.size, 0, none⟩ = some (.string ⟨#[]⟩) := (hb.cell (p := ⟨w.heap.size, 0, none⟩) (by simp)).trans (by simp [go_sem]); have c1 : w1.cell? ⟨w.heap.size, 1, none⟩ = some (.int .i64 0) := (hb.cell (p := ⟨w.heap.size, 1, none⟩) (by simp)).trans (by simp [go_sem]); have f0 : w1.frozen? ⟨w.heap.size, 0, none⟩ = false := (hb.frozen (p := ⟨w.heap.size, 0, none⟩) (by simp)).trans (by simp [go_sem]); have f1 : w1.frozen? ⟨w.heap.size, 1, none⟩ = false := (hb.frozen (p := ⟨w.heap.size, 1, none⟩) (by simp)).trans (by simp [go_sem]); have HB := Lib.hid hb; clear hb)
  exact bodyPost_ret (v := .tuple #[.agg #[.string s, .int .i64 (usesN op : Int)], .bool true]) (by simp [results, Try.results47, go_sem, c0, c1, f0, f1, hz]) rfl ⟨⟨s, rfl⟩, ((((Below.refl _ _).alloc (Nat.le_refl _) _).trans (HB.out.mono (by simp))).setCell (by simp) _).setCell (by simp) _⟩
theorem of_not (w : World) (op : Int) (h : op < 1 ∨ 24 < op) : Calls Try.prog 47 #[.int .i64 op] w fun e w' => e = .returned (.tuple #[.agg #[.string ⟨#[]⟩, .int .i64 0], .bool false]) ∧ Below w.heap.size w w' := by
  by_cases h0 : op < 1
  · go_enter Try.func47, Try.ntmps47
    go_wp2
    exact bodyPost_ret (v := .tuple #[.agg #[.string ⟨#[]⟩, .int .i64 0], .bool false]) (by simp [results, Try.results47, go_sem]) rfl ⟨rfl, (Below.refl _ _).alloc (Nat.le_refl _) _⟩
  · have h1 : 24 < op := by omega
    go_enter Try.func47, Try.ntmps47
    go_wp2
    exact bodyPost_ret (v := .tuple #[.agg #[.string ⟨#[]⟩, .int .i64 0], .bool false]) (by simp [results, Try.results47, go_sem]) rfl ⟨rfl, (Below.refl _ _).alloc (Nat.le_refl _) _⟩

end Go.Proofs.Ytpnkbpjhbmacaaa
