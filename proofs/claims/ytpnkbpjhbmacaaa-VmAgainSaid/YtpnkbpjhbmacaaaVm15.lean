/- What may be: code.Check. -/
import Derived.Test.YtpnkbpjhbmacaaaVm14d
import Derived.ScopeJumps
import Derived.WalkMore
set_option linter.unusedVariables false
set_option linter.unusedSimpArgs false
namespace Go.Proofs.Ytpnkbpjhbmacaaa
open Go.RowKit

/-- What Check tells. -/
def checkN (ctx : Int) (pr : List InsZ) : Int := if ctx < 0 ∨ 256 < ctx then 2 else if pr.all mayB = false then 2 else if 256 < pr.length then 3 else 0

theorem insZ_cells : ∀ (pr : List InsZ) (n j : Nat) (i : InsZ), pr[n]? = some i → j < 5 → (pr.flatMap insZC)[n * 5 + j]? = (insZC i)[j]?
  | [], n, j, i, h, _ => by simp at h
  | p :: pr, 0, j, i, h, hj => by
    simp only [List.getElem?_cons_zero, Option.some.injEq] at h
    subst h
    rw [List.flatMap_cons, List.getElem?_append_left (by simp [insZC]; omega)]
    congr 1; omega
  | p :: pr, n + 1, j, i, h, hj => by
    rw [List.getElem?_cons_succ] at h
    have e := insZ_cells pr n j i h hj
    rw [List.flatMap_cons, List.getElem?_append_right (by simp [insZC]; omega), ← e]
    congr 1
    simp [insZC]; omega
theorem take_all {pr : List InsZ} {k : Nat} {i : InsZ} (h : (pr.take k).all mayB = true) (hi : pr[k]? = some i) (hm : mayB i = true) : (pr.take (k + 1)).all mayB = true := by
  obtain ⟨hk, he⟩ := List.getElem?_eq_some_iff.1 hi
  rw [List.take_succ_eq_append_getElem hk, List.all_append, h, he]
  simp [hm]
theorem not_all {pr : List InsZ} {k : Nat} {i : InsZ} (hi : pr[k]? = some i) (hm : mayB i = false) : pr.all mayB = false := by
  rw [List.all_eq_false]
  exact ⟨i, List.mem_of_getElem? hi, by simp [hm]⟩
theorem jump_ret {l : Nat} {J : Act → World → Prop} {Q : Exit → Act → World → Prop} {a : Act} {w : World} : Exit.jump l J Q .ret a w = Q .ret a w := rfl
def CR (w : World) (ctx : Int) (pr : List InsZ) (A : Option Addr) (c : Nat) (i : Value) (wr : World) : Prop :=
  ∃ k : Nat, k ≤ pr.length ∧ i = .int .i64 (k : Int) ∧ (pr.take k).all mayB = true ∧ Below (w.heap.size + 1) (w.alloc (.cells #[.int .i64 ctx, .slice A pr.length c] 24)) wr
def CJ (w : World) (ctx : Int) (pr : List InsZ) (a : Act) (w' : World) : Prop :=
  ∃ v0 v1 v3 v4 v5 v6 v7 v8 v9 v10 v11 v12 v13 v14 v15 v16 v17 v18 v19 v20 v21 v22 v23 v24 v25 v26 v27 v28, a = { tmps := #[v0, v1, .int .i64 (checkN ctx pr), v3, v4, v5, v6, v7, v8, v9, v10, v11, v12, v13, v14, v15, v16, v17, v18, v19, v20, v21, v22, v23, v24, v25, v26, v27, v28], defers := [] } ∧ Below w.heap.size w w'

set_option maxRecDepth 100000 in
set_option maxHeartbeats 1000000 in
theorem check_ok (w : World) (ctx : Int) (A : Option Addr) (c : Nat) (pr : List InsZ) {ok : Nat → Prop} (h : Sl w ok 5 A pr.length c (pr.flatMap insZC)) (hpl : pr.length ≤ 1000000) :
    Calls Try.prog 28 #[.agg #[.int .i64 ctx, .slice A pr.length c]] w fun e w' => e = .returned (.int .i64 (checkN ctx pr)) ∧ Below w.heap.size w w' := by
  go_enter Try.func28, Try.ntmps28
  go_wp2
  refine wp_scope_jumps 0 (CJ w ctx pr) (fun _ _ => 0) rfl ?_ ?_
  · have hgo : ∀ (Q : Exit → Act → World → Prop) (a : Act) (W : World), CJ w ctx pr a W → Exit.jump 0 (CJ w ctx pr) Q (.goto 0) a W := fun Q a W hJ => ⟨rfl, hJ⟩
    by_cases hc : ctx < 0
    · have hcn : checkN ctx pr = 2 := by unfold checkN; rw [if_pos (.inl hc)]
      have HC := Lib.hid hcn; clear hcn
      have HGO := Lib.hid hgo; clear hgo
      go_wp2
      go_step3
      refine And.intro rfl ⟨_, _, _, _, _, _, _, _, _, _, _, _, _, _, _, _, _, _, _, _, _, _, _, _, _, _, _, _, by rw [HC.out]; try rfl, (Below.refl _ _).alloc (Nat.le_refl _) _⟩
    by_cases hc2 : 256 < ctx
    · have hcn : checkN ctx pr = 2 := by unfold checkN; rw [if_pos (.inr hc2)]
      have HC := Lib.hid hcn; clear hcn
      have HGO := Lib.hid hgo; clear hgo
      go_wp2
      go_step3
      refine And.intro rfl ⟨_, _, _, _, _, _, _, _, _, _, _, _, _, _, _, _, _, _, _, _, _, _, _, _, _, _, _, _, by rw [HC.out]; try rfl, (Below.refl _ _).alloc (Nat.le_refl _) _⟩
    have HGO := Lib.hid hgo; clear hgo
    go_wp2
    go_loopw [16] (fun i wr => CR w ctx pr A c i wr) (fun i _ => pr.length - (intOf i).toNat)
    case atStart => exact ⟨0, Nat.zero_le _, rfl, rfl, Below.refl _ _⟩
    case round =>
      obtain ⟨k, hk, rfl, hal, hb⟩ := hrel
      have c1 : wr.cell? ⟨w.heap.size, 1, none⟩ = some (.slice A pr.length c) := (hb.cell (p := ⟨w.heap.size, 1, none⟩) (by simp)).trans (by simp [go_sem])
      have hz : w.heap.size < wr.heap.size := (by have := hb.size; simp at this; omega)
      have hbw : Below w.heap.size w wr := ((Below.refl _ _).alloc (Nat.le_refl _) _).trans (hb.mono (by omega))
      by_cases hlt : k < pr.length
      · obtain ⟨i, hi⟩ : ∃ i, pr[k]? = some i := ⟨_, List.getElem?_eq_getElem hlt⟩
        obtain ⟨a, rfl, _, hab, hcl⟩ := h.at_ (j := k * 5) (by omega)
        have hld : ∀ j v, (insZC i)[j]? = some v → wr.cell? ((a.add (k * 5)).add j) = some v := fun j v hv => by
          have hj : j < 5 := by
            rcases Nat.lt_or_ge j 5 with h | h
            · exact h
            · rw [List.getElem?_eq_none (by simpa [insZC] using h)] at hv; cases hv
          rw [add_add]
          have := hcl (k * 5 + j) v (by rw [insZ_cells pr k j i hi hj]; exact hv)
          exact (World.cell?_of_block (hbw.block _ (by rw [add_block]; exact hab))).trans this
        have HL := Lib.hid hld; clear hld
        have hmay := fun W => may_any W i
        have HB := Lib.hid hb; clear hb
        have HI := Lib.hid hi; clear hi
        have HA := Lib.hid hal; clear hal
        have HW := Lib.hid hbw; clear hbw
        have HCL := Lib.hid hcl; clear hcl
        by_cases hm : mayB i = true
        · have hmay' : ∀ W : World, Calls Try.prog 37 #[.agg #[.int .i64 i.op, .int .i64 i.dst, .int .i64 i.src, .int .i64 i.off, .int .u32 (i.imm : Int)]] W fun e w' => e = .returned (.bool true) ∧ Below W.heap.size W w' := fun W => by
            have := hmay W
            rw [hm] at this
            exact this
          clear hmay
          have HM := Lib.hid hmay'; clear hmay'
          have Hm := Lib.hid hm; clear hm
          go_wp2_with (first | (refine wpList_value (.agg #[.int .i64 i.op, .int .i64 i.dst, .int .i64 i.src, .int .i64 i.off, .int .u32 (i.imm : Int)]) rfl (exec_load_at 50 (.tmp 18) rfl (a.add (k * 5)) rfl (insZC i) _ HL.out Try.underlying50 rfl size_ins) ?_) | (go_at_call 37; refine (HM.out _).mono ?_; rintro e w1 ⟨rfl, hb1⟩; obtain ⟨hc1, hf1⟩ := bcell hb1; have HB1 := Lib.hid hb1; clear hb1))
          go_roundw
          case rel => exact ⟨k + 1, by omega, by go_num, take_all HA.out HI.out Hm.out, HB.out.trans (((Below.refl _ _).alloc (by have := HB.out.size; simp at this; omega) _).trans (HB1.out.mono (by have := HB.out.size; simp at this ⊢; omega)))⟩
          case measure => simp [intOf]; omega
        · have hmf : mayB i = false := by simpa using hm
          have hmay' : ∀ W : World, Calls Try.prog 37 #[.agg #[.int .i64 i.op, .int .i64 i.dst, .int .i64 i.src, .int .i64 i.off, .int .u32 (i.imm : Int)]] W fun e w' => e = .returned (.bool false) ∧ Below W.heap.size W w' := fun W => by
            have := hmay W
            rw [hmf] at this
            exact this
          clear hmay hm
          have HM := Lib.hid hmay'; clear hmay'
          have hcn : checkN ctx pr = 2 := by unfold checkN; rw [if_neg (by omega), not_all HI.out hmf, if_pos rfl]
          have HC := Lib.hid hcn; clear hcn hmf
          go_wp2_with (first | (refine wpList_value (.agg #[.int .i64 i.op, .int .i64 i.dst, .int .i64 i.src, .int .i64 i.off, .int .u32 (i.imm : Int)]) rfl (exec_load_at 50 (.tmp 18) rfl (a.add (k * 5)) rfl (insZC i) _ HL.out Try.underlying50 rfl size_ins) ?_) | (go_at_call 37; refine (HM.out _).mono ?_; rintro e w1 ⟨rfl, hb1⟩; obtain ⟨hc1, hf1⟩ := bcell hb1; have HB1 := Lib.hid hb1; clear hb1))
          go_step3
          refine And.intro rfl ⟨_, _, _, _, _, _, _, _, _, _, _, _, _, _, _, _, _, _, _, _, _, _, _, _, _, _, _, _, by rw [HC.out]; try rfl, HW.out.trans (((Below.refl _ _).alloc (by have := HW.out.size; omega) _).trans (HB1.out.mono (by have := HW.out.size; simp; omega)))⟩
      · obtain rfl : k = pr.length := by omega
        have hal' : pr.all mayB = true := by rw [List.take_length] at hal; exact hal
        have HA := Lib.hid hal'; clear hal hal'
        have HB := Lib.hid hb; clear hb
        have HW := Lib.hid hbw; clear hbw
        by_cases hlen : 256 < pr.length
        · have hcn : checkN ctx pr = 3 := by unfold checkN; rw [if_neg (by omega), HA.out, if_neg (by simp), if_pos hlen]
          have HC := Lib.hid hcn; clear hcn
          go_wp2
          go_step3
          refine And.intro rfl ⟨_, _, _, _, _, _, _, _, _, _, _, _, _, _, _, _, _, _, _, _, _, _, _, _, _, _, _, _, by rw [HC.out]; try rfl, HW.out⟩
        · have hcn : checkN ctx pr = 0 := by unfold checkN; rw [if_neg (by omega), HA.out, if_neg (by simp), if_neg hlen]
          have HC := Lib.hid hcn; clear hcn
          go_wp2
          rw [jump_ret]
          go_ret
          exact ⟨by rw [HC.out]; try rfl, HW.out⟩
  · rintro a W ⟨v0, v1, v3, v4, v5, v6, v7, v8, v9, v10, v11, v12, v13, v14, v15, v16, v17, v18, v19, v20, v21, v22, v23, v24, v25, v26, v27, v28, rfl, hb⟩
    go_wp2
    rw [jump_ret]
    go_ret
    exact ⟨rfl, hb⟩
end Go.Proofs.Ytpnkbpjhbmacaaa
