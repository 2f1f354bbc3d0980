/- The document's disk: Of, Write. -/
import Derived.Test.YtmajfiljajbipaaRef1
set_option linter.unusedVariables false
set_option linter.unusedSimpArgs false
namespace Go.Proofs.Ytmajfiljajbipaa
open Go.RowKit

/-- A block of four cells: the document's disk in a variable. -/
def Box4 (w : World) (g : Nat) (a b c d : Value) : Prop := w.heap[g]? = some (.cells #[a, b, c, d] 48 (0, 0))
theorem Box4.cells {w : World} {g : Nat} {a b c d : Value} (h : Box4 w g a b c d) : w.cell? ⟨g, 0, none⟩ = some a ∧ w.cell? ⟨g, 1, none⟩ = some b ∧ w.cell? ⟨g, 2, none⟩ = some c ∧ w.cell? ⟨g, 3, none⟩ = some d ∧ ∀ j, w.frozen? ⟨g, j, none⟩ = false := by
  have hb : w.heap[g]? = _ := h
  refine ⟨?_, ?_, ?_, ?_, fun j => frozen_of_row w g j _ _ hb⟩ <;> rw [cell_of_row w g _ _ _ _ hb] <;> rfl
theorem Box4.lt {w : World} {g : Nat} {a b c d : Value} (h : Box4 w g a b c d) : g < w.heap.size := (Array.getElem?_eq_some_iff.1 h).1
theorem Box4.new (w : World) (a b c d : Value) : Box4 (w.alloc (.cells #[a, b, c, d] 48)) w.heap.size a b c d := heap_alloc_new _ _
theorem Box4.keep {M : Nat → Prop} {w w1 : World} {g : Nat} {a b c d : Value} (h : Box4 w g a b c d) (hk : Kp M w w1) (hM : ¬ M g) : Box4 w1 g a b c d := (hk.block g h.lt hM).trans h
theorem Box4.below {w w1 : World} {g : Nat} {a b c d : Value} (h : Box4 w g a b c d) (hb : Below w.heap.size w w1) : Box4 w1 g a b c d := (hb.block g h.lt).trans h
theorem Box4.alloc {w : World} {g : Nat} {a b c d : Value} (h : Box4 w g a b c d) (o : Obj) : Box4 (w.alloc o) g a b c d := h.below ((Below.refl _ _).alloc (Nat.le_refl _) _)
theorem Box4.grown {w w1 : World} {row : Option Nat} {g : Nat} {a b c d : Value} (h : Box4 w g a b c d) (hg : w.grownBy w1 row) (hr : some g ≠ row) : Box4 w1 g a b c d := (hg.block g h.lt hr).trans h

theorem below_set4 {N : Nat} {w w1 : World} (h : Below N w w1) (g : Nat) (hg : N ≤ g) (a b c d : Value) :
    Below N w ((((w1.setCell ⟨g, 0, none⟩ a).setCell ⟨g, 1, none⟩ b).setCell ⟨g, 2, none⟩ c).setCell ⟨g, 3, none⟩ d) := (((h.setCell (p := ⟨g, 0, none⟩) hg _).setCell (p := ⟨g, 1, none⟩) hg _).setCell (p := ⟨g, 2, none⟩) hg _).setCell (p := ⟨g, 3, none⟩) hg _
theorem Mv.setCell4 {ok : Nat → Prop} (w1 : World) (g : Nat) (hg : ¬ ok g) (a b c d : Value) :
    Mv ok w1 ((((w1.setCell ⟨g, 0, none⟩ a).setCell ⟨g, 1, none⟩ b).setCell ⟨g, 2, none⟩ c).setCell ⟨g, 3, none⟩ d) :=
  (((Mv.setCell w1 (p := ⟨g, 0, none⟩) hg _).trans (Mv.setCell _ (p := ⟨g, 1, none⟩) hg _)).trans (Mv.setCell _ (p := ⟨g, 2, none⟩) hg _)).trans (Mv.setCell _ (p := ⟨g, 3, none⟩) hg _)
theorem of_ref_bad (w : World) (A : Option Addr) (n c : Nat) (hn : n < 1 ∨ 1048576 < n) : Calls Try.prog 29 #[.slice A n c] w fun e w' => Below w.heap.size w w' ∧ e = .returned (.tuple #[rv none 0 0 none 0 0 0 0, .int .i64 2]) := by
  have hb0 : Below w.heap.size w (w.alloc (.cells #[.slice none 0 0, .slice none 0 0, .int .i64 0, .int .i64 0] 48)) := (Below.refl _ _).alloc (Nat.le_refl _) _
  have B0 := Box4.new w (.slice none 0 0) (.slice none 0 0) (.int .i64 0) (.int .i64 0)
  have N := new_ref_bad (w.alloc (.cells #[.slice none 0 0, .slice none 0 0, .int .i64 0, .int .i64 0] 48)) n (by omega)
  unfold rv at N ⊢
  go_enter Try.func29, Try.ntmps29
  go_wp2_with (go_at_call 31; refine N.mono ?_; rintro e w1 ⟨hb1, rfl⟩; have B1 := (B0.below hb1).alloc (.cells #[.slice none 0 0, .slice none 0 0, .int .i64 0, .int .i64 0] 48); obtain ⟨q0, q1, q2, q3, qf⟩ := B1.cells)
  refine bodyPost_ret (v := .tuple #[.agg #[.slice none 0 0, .slice none 0 0, .int .i64 0, .int .i64 0], .int .i64 2]) (by rw [results_cell_tmp rfl]; simp [go_sem, asAddr, q0, q1, q2, q3]) rfl ⟨?_, rfl⟩
  have hbb := (hb0.trans (hb1.mono hb0.size)).alloc (by have := hb1.size; simp at this; omega) (.cells #[.slice none 0 0, .slice none 0 0, .int .i64 0, .int .i64 0] 48)
  exact (((hbb.setCell (p := ⟨w.heap.size, 0, none⟩) (Nat.le_refl _) _).setCell (p := ⟨w.heap.size, 1, none⟩) (Nat.le_refl _) _).setCell (p := ⟨w.heap.size, 2, none⟩) (Nat.le_refl _) _).setCell (p := ⟨w.heap.size, 3, none⟩) (Nat.le_refl _) _

theorem of_ref {ok : Nat → Prop} (w : World) (A : Option Addr) (n c : Nat) (b : List UInt8) (h : By w ok A n c b) (h1 : 1 ≤ n) (h2 : n ≤ 1048576) :
    Calls Try.prog 29 #[.slice A n c] w fun e w' => Below w.heap.size w w' ∧ ∃ v, e = .returned (.tuple #[v, .int .i64 0]) ∧ RefV w' (fun k => w.heap.size ≤ k) v (Dk.of b) := by
  have hlen : b.length = n := by have := h.1; simpa [bv] using this
  have hb0 : Below w.heap.size w (w.alloc (.cells #[.slice none 0 0, .slice none 0 0, .int .i64 0, .int .i64 0] 48)) := (Below.refl _ _).alloc (Nat.le_refl _) _
  have B0 := Box4.new w (.slice none 0 0) (.slice none 0 0) (.int .i64 0) (.int .i64 0)
  have N := new_ref_v (w.alloc (.cells #[.slice none 0 0, .slice none 0 0, .int .i64 0, .int .i64 0] 48)) n h1 h2
  unfold rv at N
  go_enter Try.func29, Try.ntmps29
  go_wp2_with fail
  refine N.mono ?_
  rintro e w1 ⟨hb1, LA, rfl, hLA⟩
  have hs1 : w.heap.size + 1 ≤ w1.heap.size := by have := hb1.size; simpa using this
  obtain ⟨W, hW⟩ : ∃ W, W = w1.alloc (.cells #[.slice LA n n, .slice none 0 0, .int .i64 0, .int .i64 (-1)] 48) := ⟨_, rfl⟩
  have B1 : Box4 W w.heap.size (.slice none 0 0) (.slice none 0 0) (.int .i64 0) (.int .i64 0) := by rw [hW]; exact (B0.below hb1).alloc _
  have B2 : Box4 W w1.heap.size (.slice LA n n) (.slice none 0 0) (.int .i64 0) (.int .i64 (-1)) := by rw [hW]; exact Box4.new _ _ _ _ _
  have hbW : Below w.heap.size w W := by rw [hW]; exact (hb0.trans (hb1.mono hb0.size)).alloc (by omega) _
  have hsW : W.heap.size = w1.heap.size + 1 := by rw [hW]; simp
  have HW := Lib.hid hW; clear hW
  have h' : By (W.alloc (.cells #[] 5)) ok A n c b := Sl.move h (Mv.of_below (hbW.alloc hbW.size _) _)
  have O : (W.alloc (.cells #[] 5)).ownsRow W.heap.size 5 1 (.slice (some ⟨w1.heap.size + 1, 0, none⟩) 0 0) 0 [] := by
    have := own_lit W 5 1 #[] 0 (by simp [maxLen]) rfl W.heap.size (Nat.le_refl _)
    rwa [show (some (⟨W.heap.size, 0, none⟩ : Addr)) = some ⟨w1.heap.size + 1, 0, none⟩ from by rw [hsW]] at this
  go_wp2_with (at_builtin; rw [← HW.out]; refine wpList_append_sl _ rfl (.tmp 14) (.tmp 15) _ rfl W.heap.size 5 _ 1 1 Try.underlying38 info_u8 rfl (by omega) (by omega) (.slice (some ⟨w1.heap.size + 1, 0, none⟩) 0 0) 0 [] rfl O A n c (bv b) rfl h' (bv_one b) (by omega) (by simp) ?_; intro v1 w2 hown hg hat; obtain ⟨A2, c2, rfl⟩ := own_shape hown; obtain ⟨q0, q1, q2, q3, qf⟩ := ((B1.alloc (.cells #[] 5)).grown hg (by simp [Value.ownBlock]; omega)).cells; obtain ⟨r0, r1, r2, r3, rf⟩ := ((B2.alloc (.cells #[] 5)).grown hg (by simp [Value.ownBlock])).cells)
  have hne : w.heap.size ≠ w1.heap.size := by omega
  rw [Nat.zero_add] at *
  refine bodyPost_ret (v := .tuple #[rv A2 n c2 none 0 0 0 (-1), .int .i64 0]) (by rw [results_cell_tmp rfl]; simp [go_sem, asAddr, rv, q0, q1, q2, q3, r0, r1, r2, r3]) rfl ?_
  have hbe := below_set4 ((((hbW.alloc hbW.size (.cells #[] 5)).grown hg (by simp; omega) (fun k hk => by simp [Value.ownBlock] at hk; omega)).setCell (p := ⟨w1.heap.size, 0, none⟩) (by simp; omega) (.slice A2 n c2))) w.heap.size (Nat.le_refl _) (.slice A2 n c2) (.slice none 0 0) (.int .i64 0) (.int .i64 (-1))
  refine ⟨hbe, _, rfl, A2, c2, none, 0, [], ?_, ?_, Sl.nil _ _ _, Rws.nil _ _⟩
  · simp [Dk.of, rv, hlen]
  · have hs := Sl.from_own hown
    rw [List.nil_append] at hs
    simp only [Dk.of, hlen]
    exact Sl.mono (Sl.move (Sl.move hs (Mv.setCell w2 (p := ⟨w1.heap.size, 0, none⟩) (by simp; omega) _)) (Mv.setCell4 _ w.heap.size (by simp; omega) _ _ _ _)) (fun k _ h => by omega)
end Go.Proofs.Ytmajfiljajbipaa
