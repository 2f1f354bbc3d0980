/- The table of Ops: code.rows, code.of. -/
import Derived.Test.YtpnkbpjhbmacaaaVm12
import Derived.Deep.WholeRow
import Derived.Laws.Rows
import Derived.Laws.ResultCell
set_option linter.unusedVariables false
set_option linter.unusedSimpArgs false
namespace Go.Proofs.Ytpnkbpjhbmacaaa
open Go.RowKit

def rowsC : Array Value := #[.string ⟨#[]⟩, .int .i64 0, .string ⟨#[109, 111, 118, 105]⟩, .int .i64 9, .string ⟨#[109, 111, 118]⟩, .int .i64 3, .string ⟨#[97, 100, 100, 105]⟩, .int .i64 9, .string ⟨#[97, 100, 100]⟩, .int .i64 3, .string ⟨#[115, 117, 98]⟩, .int .i64 3, .string ⟨#[109, 117, 108, 105]⟩, .int .i64 9, .string ⟨#[109, 117, 108]⟩, .int .i64 3, .string ⟨#[97, 110, 100, 105]⟩, .int .i64 9, .string ⟨#[97, 110, 100]⟩, .int .i64 3, .string ⟨#[111, 114]⟩, .int .i64 3, .string ⟨#[120, 111, 114]⟩, .int .i64 3, .string ⟨#[115, 104, 108, 105]⟩, .int .i64 9, .string ⟨#[115, 104, 114, 105]⟩, .int .i64 9, .string ⟨#[100, 105, 118]⟩, .int .i64 3, .string ⟨#[109, 111, 100]⟩, .int .i64 3, .string ⟨#[108, 100, 99]⟩, .int .i64 7, .string ⟨#[108, 100, 115]⟩, .int .i64 7, .string ⟨#[115, 116, 115]⟩, .int .i64 7, .string ⟨#[106, 97]⟩, .int .i64 4, .string ⟨#[106, 101, 113, 105]⟩, .int .i64 13, .string ⟨#[106, 108, 116, 105]⟩, .int .i64 13, .string ⟨#[106, 108, 116]⟩, .int .i64 7, .string ⟨#[99, 97, 108, 108]⟩, .int .i64 8, .string ⟨#[101, 120, 105, 116]⟩, .int .i64 0]
def rowsV : Value := .agg rowsC
def rowsZ : Array Value := #[.string ⟨#[]⟩, .int .i64 0, .string ⟨#[]⟩, .int .i64 0, .string ⟨#[]⟩, .int .i64 0, .string ⟨#[]⟩, .int .i64 0, .string ⟨#[]⟩, .int .i64 0, .string ⟨#[]⟩, .int .i64 0, .string ⟨#[]⟩, .int .i64 0, .string ⟨#[]⟩, .int .i64 0, .string ⟨#[]⟩, .int .i64 0, .string ⟨#[]⟩, .int .i64 0, .string ⟨#[]⟩, .int .i64 0, .string ⟨#[]⟩, .int .i64 0, .string ⟨#[]⟩, .int .i64 0, .string ⟨#[]⟩, .int .i64 0, .string ⟨#[]⟩, .int .i64 0, .string ⟨#[]⟩, .int .i64 0, .string ⟨#[]⟩, .int .i64 0, .string ⟨#[]⟩, .int .i64 0, .string ⟨#[]⟩, .int .i64 0, .string ⟨#[]⟩, .int .i64 0, .string ⟨#[]⟩, .int .i64 0, .string ⟨#[]⟩, .int .i64 0, .string ⟨#[]⟩, .int .i64 0, .string ⟨#[]⟩, .int .i64 0, .string ⟨#[]⟩, .int .i64 0]

theorem wpList_store_new {P : Program} {ops : Array Oper} {rest : List Oper} {o : Oper} {a : Act} {w : World} {Q : Exit → Act → World → Prop} (hgd : o.guard = none) (ty : TypeId) (x y : Operand) (ho : o.op = .store ty x y) (c c' : Array Value)
    (hx : a.eval x = .pointer (some ⟨w.heap.size, 0, none⟩)) (hy : a.eval y = .agg c') (hi : (P.info? ty).map (·.size) = some c'.size) (hs : c.size = c'.size) (h1 : c'.all (·.oneCell') = true)
    (h : wpList P ops Q rest (a.put o.dst undef) (w.alloc (.cells c' ty))) : wpList P ops Q (o :: rest) a (w.alloc (.cells c ty)) :=
  wpList_plain hgd fun K hK => by
    unfold Oper.wp execOp
    simp only [ho, hx, hy, Sem.run_bind, Sem.run_pure, Result.andThen_ok, run_storeAt_new w ty c c' hi hs h1]
    exact hK _ _ h
theorem info_rows : (Try.prog.info? 137).map (·.size) = some 50 := by kernel_rfl
theorem one_rows : rowsC.all (·.oneCell') = true := by kernel_rfl
set_option maxRecDepth 100000 in
theorem rows_ok (w : World) : Calls Try.prog 63 #[] w fun e w' => e = .returned rowsV ∧ Below w.heap.size w w' := by
  go_enter Try.func63, Try.ntmps63
  go_upto_region 1 with fail
  refine wp_region_list ?_
  refine wpList_value (w' := w.alloc (.cells rowsZ 137)) (.agg #[.string ⟨#[109, 111, 118, 105]⟩, .int .i64 9]) rfl (by kernel_rfl) ?_
  refine wpList_value (w' := w.alloc (.cells rowsZ 137)) (.agg #[.string ⟨#[109, 111, 118]⟩, .int .i64 3]) rfl (by kernel_rfl) ?_
  refine wpList_value (w' := w.alloc (.cells rowsZ 137)) (.agg #[.string ⟨#[97, 100, 100, 105]⟩, .int .i64 9]) rfl (by kernel_rfl) ?_
  refine wpList_value (w' := w.alloc (.cells rowsZ 137)) (.agg #[.string ⟨#[97, 100, 100]⟩, .int .i64 3]) rfl (by kernel_rfl) ?_
  refine wpList_value (w' := w.alloc (.cells rowsZ 137)) (.agg #[.string ⟨#[115, 117, 98]⟩, .int .i64 3]) rfl (by kernel_rfl) ?_
  refine wpList_value (w' := w.alloc (.cells rowsZ 137)) (.agg #[.string ⟨#[109, 117, 108, 105]⟩, .int .i64 9]) rfl (by kernel_rfl) ?_
  refine wpList_value (w' := w.alloc (.cells rowsZ 137)) (.agg #[.string ⟨#[109, 117, 108]⟩, .int .i64 3]) rfl (by kernel_rfl) ?_
  refine wpList_value (w' := w.alloc (.cells rowsZ 137)) (.agg #[.string ⟨#[97, 110, 100, 105]⟩, .int .i64 9]) rfl (by kernel_rfl) ?_
  refine wpList_value (w' := w.alloc (.cells rowsZ 137)) (.agg #[.string ⟨#[97, 110, 100]⟩, .int .i64 3]) rfl (by kernel_rfl) ?_
  refine wpList_value (w' := w.alloc (.cells rowsZ 137)) (.agg #[.string ⟨#[111, 114]⟩, .int .i64 3]) rfl (by kernel_rfl) ?_
  refine wpList_value (w' := w.alloc (.cells rowsZ 137)) (.agg #[.string ⟨#[120, 111, 114]⟩, .int .i64 3]) rfl (by kernel_rfl) ?_
  refine wpList_value (w' := w.alloc (.cells rowsZ 137)) (.agg #[.string ⟨#[115, 104, 108, 105]⟩, .int .i64 9]) rfl (by kernel_rfl) ?_
  refine wpList_value (w' := w.alloc (.cells rowsZ 137)) (.agg #[.string ⟨#[115, 104, 114, 105]⟩, .int .i64 9]) rfl (by kernel_rfl) ?_
  refine wpList_value (w' := w.alloc (.cells rowsZ 137)) (.agg #[.string ⟨#[100, 105, 118]⟩, .int .i64 3]) rfl (by kernel_rfl) ?_
  refine wpList_value (w' := w.alloc (.cells rowsZ 137)) (.agg #[.string ⟨#[109, 111, 100]⟩, .int .i64 3]) rfl (by kernel_rfl) ?_
  refine wpList_value (w' := w.alloc (.cells rowsZ 137)) (.agg #[.string ⟨#[108, 100, 99]⟩, .int .i64 7]) rfl (by kernel_rfl) ?_
  refine wpList_value (w' := w.alloc (.cells rowsZ 137)) (.agg #[.string ⟨#[108, 100, 115]⟩, .int .i64 7]) rfl (by kernel_rfl) ?_
  refine wpList_value (w' := w.alloc (.cells rowsZ 137)) (.agg #[.string ⟨#[115, 116, 115]⟩, .int .i64 7]) rfl (by kernel_rfl) ?_
  refine wpList_value (w' := w.alloc (.cells rowsZ 137)) (.agg #[.string ⟨#[106, 97]⟩, .int .i64 4]) rfl (by kernel_rfl) ?_
  refine wpList_value (w' := w.alloc (.cells rowsZ 137)) (.agg #[.string ⟨#[106, 101, 113, 105]⟩, .int .i64 13]) rfl (by kernel_rfl) ?_
  refine wpList_value (w' := w.alloc (.cells rowsZ 137)) (.agg #[.string ⟨#[106, 108, 116, 105]⟩, .int .i64 13]) rfl (by kernel_rfl) ?_
  refine wpList_value (w' := w.alloc (.cells rowsZ 137)) (.agg #[.string ⟨#[106, 108, 116]⟩, .int .i64 7]) rfl (by kernel_rfl) ?_
  refine wpList_value (w' := w.alloc (.cells rowsZ 137)) (.agg #[.string ⟨#[99, 97, 108, 108]⟩, .int .i64 8]) rfl (by kernel_rfl) ?_
  refine wpList_value (w' := w.alloc (.cells rowsZ 137)) (.agg #[.string ⟨#[101, 120, 105, 116]⟩, .int .i64 0]) rfl (by kernel_rfl) ?_
  refine wpList_value (w' := w.alloc (.cells rowsZ 137)) rowsV rfl (by kernel_rfl) ?_
  refine wpList_store_new rfl 137 (.tmp 0) (.tmp 25) rfl rowsZ rowsC (by kernel_rfl) (by kernel_rfl) info_rows (by kernel_rfl) one_rows ?_
  refine wpList_nil ?_
  rename_i Q K hK
  refine hK _ _ (wp_ret ?_)
  refine bodyPost_ret (v := rowsV) (results_cell_row Try.results63 _ _ w.heap.size 137 rowsC (0, 0) _ (by kernel_rfl) (heap_alloc_new _ _) Try.underlying137 rfl info_rows) (by kernel_rfl) ⟨rfl, (Below.refl _ _).alloc (Nat.le_refl _) _⟩

end Go.Proofs.Ytpnkbpjhbmacaaa
