/- Layer 6: the same runs of Knowns. -/
import Derived.Test.YtjlddhnjbjhmkaaGl
import Derived.BigQuiet
set_option linter.unusedVariables false
set_option linter.unusedSimpArgs false
namespace Go.Proofs.Ytjlddhnjbjhmkaa
open Go.RowKit

/-! ### a value of bools and integers is the same as itself -/
def fits (P : Program) : Nat → TypeId → List Value → Bool
  | 0, _, _ => false
  | d + 1, t, cs =>
    match P.underlying t with
    | some .bool => match cs with | [.bool _] => true | _ => false
    | some (.int _) => match cs with | [.int _ _] => true | _ => false
    | some (.array n e) => (P.info? e).isSome && (List.range n).all fun i => decide (((cs.drop (i * P.cellsOf e)).take (P.cellsOf e)).length = P.cellsOf e) && fits P d e ((cs.drop (i * P.cellsOf e)).take (P.cellsOf e))
    | some (.struct fs) => !P.stoodInHeld t && fs.toList.all fun f => (P.info? f.type).isSome && (decide (((cs.drop f.offset).take (P.cellsOf f.type)).length = P.cellsOf f.type) && fits P d f.type ((cs.drop f.offset).take (P.cellsOf f.type)))
    | _ => false
/-- The value of a type's cells. -/
def valOf (P : Program) (t : TypeId) (cs : List Value) : Value :=
  match P.underlying t with
  | some (.array _ _) | some (.struct _) => .agg cs.toArray
  | _ => cs.headD undef
section
variable {P : Program}
theorem part_val {d : Nat} {e : TypeId} {xs : Array Value} {off : Nat} (hi : (P.info? e).isSome = true) (hl : ((xs.toList.drop off).take (P.cellsOf e)).length = P.cellsOf e) (hf : fits P d e ((xs.toList.drop off).take (P.cellsOf e)) = true) (w : World) :
    (part e xs off).run P w = .ok (valOf P e ((xs.toList.drop off).take (P.cellsOf e))) w := by
  obtain ⟨i, hi⟩ := Option.isSome_iff_exists.1 hi
  have hex : xs.extract off (off + P.cellsOf e) = ((xs.toList.drop off).take (P.cellsOf e)).toArray := by
    apply Array.toList_inj.1
    rw [Array.toList_extract]
    simp [List.extract]
  have one : ∀ v, (xs.toList.drop off).take (P.cellsOf e) = [v] → xs[off]? = some v := fun v h => by
    have h1 : ((xs.toList.drop off).take (P.cellsOf e))[0]? = some v := by rw [h]; rfl
    rw [List.getElem?_take] at h1
    split at h1
    · rw [List.getElem?_drop] at h1
      simpa using h1
    · cases h1
  cases d with
  | zero => simp [fits] at hf
  | succ d =>
    unfold fits at hf
    unfold valOf
    cases hu : P.underlying e with
    | none => rw [hu] at hf; simp at hf
    | some kd =>
      rw [hu] at hf
      cases kd with
      | bool =>
        simp only at hf ⊢
        split at hf
        · rename_i b hb
          rw [hb]
          simp [part, isAgg, run_underlying hu, one _ hb]
        · cases hf
      | int q =>
        simp only at hf ⊢
        split at hf
        · rename_i k a hb
          rw [hb]
          simp [part, isAgg, run_underlying hu, one _ hb]
        · cases hf
      | array n e' => simp [part, isAgg, run_underlying hu, run_sizeOf w hi, hex]
      | struct fs => simp [part, isAgg, run_underlying hu, run_sizeOf w hi, hex]
      | _ => simp at hf
theorem eq_self : ∀ (d : Nat) (t : TypeId) (cs : List Value), fits P d t cs = true → ∀ (D : Nat) (w : World), (Op.equalIn (D + d) t (valOf P t cs) (valOf P t cs)).run P w = .ok true w
  | 0, _, _, h, _, _ => by simp [fits] at h
  | d + 1, t, cs, hf, D, w => by
    unfold fits at hf
    unfold valOf
    cases hu : P.underlying t with
    | none => rw [hu] at hf; simp at hf
    | some kd =>
      rw [hu] at hf
      cases kd with
      | bool =>
        simp only at hf ⊢
        split at hf
        · rename_i b
          show (Op.equalIn ((D + d) + 1) t (.bool b) (.bool b)).run P w = _
          rw [run_equalIn_bool' w (D + d) t b b hu]
          simp
        · cases hf
      | int q =>
        simp only at hf ⊢
        split at hf
        · rename_i k a
          show (Op.equalIn ((D + d) + 1) t (.int k a) (.int k a)).run P w = _
          rw [run_equalIn_int w (D + d) t k q a a hu]
          simp
        · cases hf
      | array n e =>
        simp only [Bool.and_eq_true, List.all_eq_true, decide_eq_true_eq] at hf ⊢
        obtain ⟨hi, hall⟩ := hf
        obtain ⟨i, hi'⟩ := Option.isSome_iff_exists.1 hi
        show (Op.equalIn ((D + d) + 1) t (.agg cs.toArray) (.agg cs.toArray)).run P w = _
        rw [run_equalIn_array w (D + d) cs.toArray cs.toArray hu hi']
        generalize List.range n = is at hall
        induction is with
        | nil => simp [Op.eqItems]
        | cons j is ih =>
          obtain ⟨h1, h2⟩ := hall j (by simp)
          have hp := part_val (d := d) (xs := cs.toArray) (off := j * P.cellsOf e) hi h1 h2 w
          have he := eq_self d e _ h2 D w
          simp only [Op.eqItems, Sem.run_bind, hp, Result.andThen_ok]
          rw [he]
          simp only [Result.andThen_ok, Bool.not_true, Bool.false_eq_true, if_false]
          exact ih (fun i hi => hall i (by simp [hi]))
      | struct fs =>
        simp only [Bool.and_eq_true, Bool.not_eq_true', List.all_eq_true, decide_eq_true_eq] at hf ⊢
        obtain ⟨hst, hall⟩ := hf
        have hfo : P.fieldsOf t = fs := by unfold Program.fieldsOf; rw [hu]
        show (Op.equalIn ((D + d) + 1) t (.agg cs.toArray) (.agg cs.toArray)).run P w = _
        rw [run_equalIn_struct w (D + d) t cs.toArray cs.toArray (by rw [hfo]; exact hu) hst, hfo]
        generalize fs.toList = l at hall
        induction l with
        | nil => simp [Op.eqFields]
        | cons f l ih =>
          obtain ⟨hi, h1, h2⟩ := hall f (by simp)
          have hp := part_val (d := d) (xs := cs.toArray) (off := f.offset) hi h1 h2 w
          have he := eq_self d f.type _ h2 D w
          have ih' := ih (fun i hi => hall i (by simp [hi]))
          simp only [Op.eqFields, Sem.run_ite]
          split
          · simp only [Sem.run_bind, hp, Result.andThen_ok]
            rw [he]
            simp only [Result.andThen_ok, Bool.not_true, Bool.false_eq_true, if_false]
            exact ih'
          · exact ih'
      | _ => simp at hf
theorem neq_self (w : World) {d : Nat} (hd : d ≤ 10000) {t : TypeId} {cs : List Value} (ha : valOf P t cs = .agg cs.toArray) (hx : fits P d t cs = true) : (binOp .neq t (.agg cs.toArray) (.agg cs.toArray)).run P w = .ok (.bool false) w := by
  have h := eq_self d t cs hx (10000 - d) w
  rw [ha, show 10000 - d + d = 10000 by omega] at h
  rw [run_neq_struct, h]
  rfl
end
theorem exec_neq {P : Program} {o : Oper} {ac : Act} {w : World} (ty ty2 : TypeId) (x y : Operand) (ho : o.op = .binOp .neq ty x y ty2) (cs cs2 : Array Value) (hx : ac.eval x = .agg cs) (hy : ac.eval y = .agg cs2) (hm : P.eqGuardType P.depth ty = false)
    (b : Bool) (h : (binOp .neq ty (.agg cs) (.agg cs2)).run P w = .ok (.bool b) w) : (execOp ac.eval o).run P w = .ok (.value (.bool b)) w := by
  unfold execOp
  simp only [ho, hx, hy, Sem.run_bind, Sem.run_pure, Result.andThen_ok, run_eqGuard_agg w .neq ty x y cs cs2 hm, h]

theorem kn_self (k : Kn) (W : World) : (binOp .neq 42 (.agg (knL k).toArray) (.agg (knL k).toArray)).run Try.prog W = .ok (.bool false) W :=
  neq_self W (d := 4) (by omega) (by kernel_rfl) (by kernel_rfl)
theorem same_nil (w : World) : Calls Try.prog 15 #[.slice none 0 0, .slice none 0 0] w fun e w' => e = .returned (.bool true) ∧ Below w.heap.size w w' := by
  go_enter Try.func15, Try.ntmps15
  go_wp2
  go_loopw [5] (fun i wr => i = .int .i64 0 ∧ wr = w) (fun _ _ => 0)
  case atStart => exact ⟨rfl, rfl⟩
  case round =>
    obtain ⟨rfl, rfl⟩ := hrel
    go_wp2
    go_ret
    exact ⟨rfl, Below.refl _ _⟩
set_option maxRecDepth 100000 in
set_option maxHeartbeats 1000000 in
theorem same_ok (w : World) (K : Nat → Kn) (N g1 g2 : Nat) (h1 : KsB w g1 N K) (h2 : KsB w g2 N K) (hN : N ≤ 1000000) : Calls Try.prog 15 #[.slice (some ⟨g1, 0, none⟩) N N, .slice (some ⟨g2, 0, none⟩) N N] w fun e w' => e = .returned (.bool true) ∧ Below w.heap.size w w' := by
  have H1 := Lib.hid h1; have H2 := Lib.hid h2; clear h1 h2
  have hNi : (N : Int) ≤ 1000000 := by omega
  go_enter Try.func15, Try.ntmps15
  go_wp2
  go_loopw [5] (fun i wr => ∃ n : Nat, n ≤ N ∧ i = .int .i64 (n : Int) ∧ Below w.heap.size w wr) (fun i _ => N - (intOf i).toNat)
  case atStart => exact ⟨0, Nat.zero_le _, rfl, Below.refl _ _⟩
  case round =>
    obtain ⟨n, hn, rfl, hb⟩ := hrel
    have HB := Lib.hid hb; clear hb
    by_cases hlt : n < N
    · have hlt' : (n : Int) < (N : Int) := by omega
      have HLT := Lib.hid hlt; clear hlt
      go_upto_region 6 with fail
      refine wp_region_noPanic ?_
      refine planM (.rd 0 (.rd 1 (.rd 2 (.rd 3 (.rd 4 (.rd 5 (.rd 6 (.rd 7 (.rd 8 .done))))))))) [0, 1, 2, 3, 4, 5, 6, 7, 8] (fun W => Below wr.heap.size wr W) (by kernel_rfl) (by kernel_rfl) (fun _ _ _ _ _ h => h) ((Below.refl _ _).drew) ?_
      refine pm_pure rfl (fun K hK => ?_); go_simp; refine hK _ ?_; clear hK K
      refine pm_pure rfl (fun K hK => ?_); go_simp; refine hK _ ?_; clear hK K
      refine pm_rdv 19 (.pointer (some ⟨g1, n * 31, none⟩)) rfl rfl rfl (fun W hS => exec_idx (.tmp 17) (.tmp 18) rfl (by kernel_rfl) (by kernel_rfl) HLT.out) ?_
      refine pm_rdv 20 (.agg (knL (K n)).toArray) rfl rfl rfl (fun W hS => exec_load_mid 42 (.tmp 19) rfl g1 (n * 31) (by kernel_rfl) (knL (K n)) _ (KsB.rg (Blk.below H1.out (HB.out.trans (hS.mono HB.out.size))) n HLT.out) Try.underlying42 rfl (by rw [knL_length]; exact info_kn)) ?_
      refine pm_pure rfl (fun K hK => ?_); go_simp; refine hK _ ?_; clear hK K
      refine pm_pure rfl (fun K hK => ?_); go_simp; refine hK _ ?_; clear hK K
      refine pm_rdv 23 (.pointer (some ⟨g2, n * 31, none⟩)) rfl rfl rfl (fun W hS => exec_idx (.tmp 21) (.tmp 22) rfl (by kernel_rfl) (by kernel_rfl) HLT.out) ?_
      refine pm_rdv 24 (.agg (knL (K n)).toArray) rfl rfl rfl (fun W hS => exec_load_mid 42 (.tmp 23) rfl g2 (n * 31) (by kernel_rfl) (knL (K n)) _ (KsB.rg (Blk.below H2.out (HB.out.trans (hS.mono HB.out.size))) n HLT.out) Try.underlying42 rfl (by rw [knL_length]; exact info_kn)) ?_
      refine pm_rdv 25 (.bool false) rfl rfl rfl (fun W hS => exec_neq 42 42 (.tmp 20) (.tmp 24) rfl (knL (K n)).toArray (knL (K n)).toArray (by kernel_rfl) (by kernel_rfl) (by kernel_rfl) false (kn_self (K n) W)) ?_
      refine pm_done ?_
      refine NoPanic.normal ?_
      have HBD : Hid (Below w.heap.size w wr.drew) := Lib.hid (HB.out.trans ((Below.refl w.heap.size wr).drew))
      go_wp2
      go_roundw
      case rel => exact ⟨n + 1, by have := HLT.out; omega, by go_num, HBD.out⟩
      case measure => have := HLT.out; simp [intOf]; omega
    · obtain rfl : n = N := by omega
      go_wp2
      go_ret
      exact ⟨rfl, HB.out⟩
end Go.Proofs.Ytjlddhnjbjhmkaa
