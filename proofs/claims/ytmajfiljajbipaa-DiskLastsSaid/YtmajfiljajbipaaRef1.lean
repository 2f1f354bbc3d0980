/- The document's disk: its value, its steps. -/
import Derived.Test.YtmajfiljajbipaaDsk7
import Derived.Test.YtmajfiljajbipaaStr
set_option linter.unusedVariables false
namespace Go.Proofs.Ytmajfiljajbipaa
open Go.RowKit

/-- The document's disk as a value: what it leads to lies in T. -/
def RefV (w : World) (T : Nat → Prop) (v : Value) (d : Dk) : Prop := ∃ LA lc WA wc wcs, v = .agg #[.slice LA d.lasts.length lc, .slice WA d.waits.length wc, .int .i64 d.steps, .int .i64 d.armed] ∧
  By w T LA d.lasts.length lc d.lasts ∧ Sl w T 2 WA d.waits.length wc wcs ∧ Rws (WrR w T) 2 d.waits wcs
theorem RefV.move {w w1 : World} {T : Nat → Prop} {v : Value} {d : Dk} (h : RefV w T v d) (hm : Mv T w w1) : RefV w1 T v d := by
  obtain ⟨LA, lc, WA, wc, wcs, rfl, h1, h2, h3⟩ := h
  exact ⟨LA, lc, WA, wc, wcs, rfl, Sl.move h1 hm, Sl.move h2 hm, h3.imp (fun _ _ h => h.move hm)⟩
theorem RefV.mono {w : World} {T T1 : Nat → Prop} {v : Value} {d : Dk} (h : RefV w T v d) (ho : ∀ k, k < w.heap.size → T k → T1 k) : RefV w T1 v d := by
  obtain ⟨LA, lc, WA, wc, wcs, rfl, h1, h2, h3⟩ := h
  exact ⟨LA, lc, WA, wc, wcs, rfl, Sl.mono h1 ho, Sl.mono h2 ho, h3.imp (fun _ _ h => h.mono ho)⟩
theorem RefV.below {w w1 : World} {T : Nat → Prop} {v : Value} {d : Dk} (h : RefV w T v d) (hb : Below w.heap.size w w1) : RefV w1 T v d := h.move (Mv.of_below hb T)

theorem results_cell1 {fn : Func} {p : Tmp} {ty : TypeId} (h : fn.results = #[.cell p ty]) (tmps : Array Value) (P : Program) (w : World) :
    (results fn tmps).run P w = ((asAddr (tmps.getD p undef)).run P w).andThen fun a w₁ => (loadVar ty a).run P w₁ := by
  simp only [results, h]
  simp [Sem.run_bind, Result.andThen]
theorem Sl.from_own {w : World} {base sz n c : Nat} {e : TypeId} {A : Option Addr} {xs : List Value} (h : w.ownsRow base e sz (.slice A n c) n xs) : Sl w (fun k => base ≤ k) sz A n c xs := by
  obtain ⟨A2, c2, he, hs⟩ := Sl.of_own (ok := fun k => base ≤ k) h (fun k hk _ => (h.lt k hk).1)
  injection he with he1 he2 he3
  subst he1; subst he3
  exact hs
/-- The four cells of the document's disk. -/
def rv (LA : Option Addr) (n lc : Nat) (WA : Option Addr) (m wc : Nat) (s r : Int) : Value := .agg #[.slice LA n lc, .slice WA m wc, .int .i64 s, .int .i64 r]

theorem step_ref (w : World) (LA : Option Addr) (n lc : Nat) (WA : Option Addr) (m wc : Nat) (s r : Int) :
    Calls Try.prog 49 #[rv LA n lc WA m wc s r] w fun e w' => Below w.heap.size w w' ∧
      e = .returned (.tuple (if r = 0 then #[rv LA n lc WA m wc s r, .int .i64 180] else #[rv LA n lc WA m wc (wrap64 (s + 1)) (if 0 < r then wrap64 (r - 1) else r), .int .i64 0])) := by
  unfold rv
  by_cases h0 : r = 0
  · subst h0
    rw [if_pos rfl]
    go_enter Try.func49, Try.ntmps49
    go_wp2
    refine bodyPost_ret (v := .tuple #[rv LA n lc WA m wc s 0, .int .i64 180]) ?_ rfl ?_
    · rw [results_cell_tmp rfl]
      simp [go_sem, asAddr, rv]
    · exact ⟨((Below.refl _ _).alloc (Nat.le_refl _) _).alloc (by simp) _, rfl⟩
  · rw [if_neg h0]
    have h1 : (r == 0) = false := by simp; exact h0
    by_cases hp : 0 < r
    · rw [if_pos hp]
      go_enter Try.func49, Try.ntmps49
      go_wp2
      refine bodyPost_ret (v := .tuple #[rv LA n lc WA m wc (wrap64 (s + 1)) (wrap64 (r - 1)), .int .i64 0]) ?_ rfl ?_
      · rw [results_cell_tmp rfl]
        simp [go_sem, asAddr, rv]
      · exact ⟨((Below.refl _ _).alloc (Nat.le_refl _) _).alloc (by simp) _, rfl⟩
    · rw [if_neg hp]
      go_enter Try.func49, Try.ntmps49
      go_wp2
      refine bodyPost_ret (v := .tuple #[rv LA n lc WA m wc (wrap64 (s + 1)) r, .int .i64 0]) ?_ rfl ?_
      · rw [results_cell_tmp rfl]
        simp [go_sem, asAddr, rv]
      · exact ⟨((Below.refl _ _).alloc (Nat.le_refl _) _).alloc (by simp) _, rfl⟩

theorem arm_ref (w : World) (LA : Option Addr) (n lc : Nat) (WA : Option Addr) (m wc : Nat) (s r x : Int) :
    Calls Try.prog 48 #[rv LA n lc WA m wc s r, .int .i64 x] w fun e w' => Below w.heap.size w w' ∧ e = .returned (rv LA n lc WA m wc s (max x (-1))) := by
  unfold rv
  go_enter Try.func48, Try.ntmps48
  go_wp2
  all_goals
    refine bodyPost_ret (v := _) (by rw [results_cell1 rfl]; simp [go_sem, asAddr]; rfl) rfl ⟨((Below.refl _ _).alloc (Nat.le_refl _) _).alloc (by simp) _, ?_⟩
  all_goals first
    | (rw [show max x (-1) = x from by simp only [Int.max_def]; split <;> omega]; done)
    | (rw [show max x (-1) = -1 from by simp only [Int.max_def]; split <;> omega]; done)
theorem pick_ref (w : World) (k : Int) (n : Nat) (hn : n ≤ 70368744177664) :
    Calls Try.prog 44 #[.int .i64 k, .int .i64 (n : Int)] w fun e w' => e = .returned (.int .i64 ((pick k n : Nat) : Int)) ∧ w = w' := by
  have hp := pick_cast k n
  have h1 := Int.emod_nonneg k (show ((n : Int) + 1) ≠ 0 by omega)
  have h2 := Int.emod_lt_of_pos k (show (0 : Int) < (n : Int) + 1 by omega)
  have he : k.tmod ((n : Int) + 1) = if 0 ≤ k ∨ ((n : Int) + 1) ∣ k then k % ((n : Int) + 1) else k % ((n : Int) + 1) - ((n : Int) + 1) := by
    rw [Int.tmod_eq_emod]; split <;> simp <;> omega
  by_cases hc : 0 ≤ k ∨ ((n : Int) + 1) ∣ k
  · rw [if_pos hc] at he
    have hr : 0 ≤ k.tmod ((n : Int) + 1) := by omega
    have hv : k.tmod ((n : Int) + 1) = ((pick k n : Nat) : Int) := by omega
    have HV := Lib.hid hv
    clear hv hp he hc h1 h2
    go_enter Try.func44, Try.ntmps44
    go_wp2
    go_ret
    exact ⟨congrArg (fun z => Ending.returned (.int .i64 z)) HV.out, rfl⟩
  · rw [if_neg hc] at he
    have hr : k.tmod ((n : Int) + 1) < 0 := by omega
    have hr1 : -((n : Int) + 1) < k.tmod ((n : Int) + 1) := by
      have : ¬ (((n : Int) + 1) ∣ k) := fun h => hc (.inr h)
      have : k % ((n : Int) + 1) ≠ 0 := fun h => this (Int.dvd_of_emod_eq_zero h)
      omega
    have hv : k.tmod ((n : Int) + 1) + (n : Int) + 1 = ((pick k n : Nat) : Int) := by omega
    have HV := Lib.hid hv
    clear hv hp he hc h1 h2
    go_enter Try.func44, Try.ntmps44
    go_wp2
    go_ret
    exact ⟨congrArg (fun z => Ending.returned (.int .i64 z)) HV.out, rfl⟩
theorem new_ref_bad (w : World) (n : Int) (hn : n < 1 ∨ 1048576 < n) : Calls Try.prog 31 #[.int .i64 n] w fun e w' => Below w.heap.size w w' ∧ e = .returned (.tuple #[rv none 0 0 none 0 0 0 0, .int .i64 2]) := by
  rcases hn with hn | hn
  · go_enter Try.func31, Try.ntmps31
    go_wp2
    refine bodyPost_ret (v := .tuple #[rv none 0 0 none 0 0 0 0, .int .i64 2]) ?_ rfl ?_
    · rw [results_cell_tmp rfl]
      simp [go_sem, asAddr, rv]
    · exact ⟨(Below.refl _ _).alloc (Nat.le_refl _) _, rfl⟩
  · go_enter Try.func31, Try.ntmps31
    go_wp2
    refine bodyPost_ret (v := .tuple #[rv none 0 0 none 0 0 0 0, .int .i64 2]) ?_ rfl ?_
    · rw [results_cell_tmp rfl]
      simp [go_sem, asAddr, rv]
    · exact ⟨(Below.refl _ _).alloc (Nat.le_refl _) _, rfl⟩
theorem new_ref_v (w : World) (n : Nat) (h1 : 1 ≤ n) (h2 : n ≤ 1048576) : Calls Try.prog 31 #[.int .i64 (n : Int)] w fun e w' => Below w.heap.size w w' ∧ ∃ LA, e = .returned (.tuple #[rv LA n n none 0 0 0 (-1), .int .i64 0]) ∧ By w' (fun k => w.heap.size ≤ k) LA n n (List.replicate n 0) := by
  have hmk := run_makeB n (by omega)
  go_enter Try.func31, Try.ntmps31
  go_wp2
  refine bodyPost_ret (v := .tuple #[rv (some ⟨w.heap.size + 1, 0, none⟩) n n none 0 0 0 (-1), .int .i64 0]) (by rw [results_cell_tmp rfl]; simp [go_sem, asAddr, rv]) rfl ?_
  have ho := own_lit (w.alloc (.cells #[.slice (some ⟨w.heap.size + 1, 0, none⟩) n n, .slice none 0 0, .int .i64 0, .int .i64 (-1)] 48)) 5 1 (List.replicate n (Value.int .u8 0)).toArray n (by simp [maxLen]; omega) (by simp) w.heap.size (by simp)
  have hs := Sl.from_own ho
  have e1 : bv (List.replicate n 0) = List.replicate n (Value.int .u8 0) := by simp [bv]
  refine ⟨((Below.refl _ _).alloc (Nat.le_refl _) _).alloc (by simp) _, _, rfl, ?_⟩
  simp only [By, e1]
  simpa using hs
theorem new_ref (w : World) (n : Nat) (h1 : 1 ≤ n) (h2 : n ≤ 1048576) : Calls Try.prog 31 #[.int .i64 (n : Int)] w fun e w' => Below w.heap.size w w' ∧ ∃ v, e = .returned (.tuple #[v, .int .i64 0]) ∧ RefV w' (fun k => w.heap.size ≤ k) v (Dk.of (List.replicate n 0)) := by
  refine (new_ref_v w n h1 h2).mono ?_
  rintro e w' ⟨hb, LA, rfl, h⟩
  refine ⟨hb, _, rfl, LA, n, none, 0, [], ?_, ?_, Sl.nil _ _ _, Rws.nil _ _⟩
  · simp [Dk.of, rv]
  · simpa [Dk.of] using h
end Go.Proofs.Ytmajfiljajbipaa
