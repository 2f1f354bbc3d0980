/- Layer 6: what is known of fewer ways. -/
import Derived.Test.YtjlddhnjbjhmkaaLn2
import Derived.Test.YtjlddhnjbjhmkaaRm4
import Derived.BigQuiet
set_option linter.unusedVariables false
set_option linter.unusedSimpArgs false
namespace Go.Proofs.Ytjlddhnjbjhmkaa
open Go.RowKit

def lsF (k : Kn) (up dn : Nat → Nat) (j : Nat) : Value := if j < 31 then knF k j else if j < 41 then .int .u32 (up (j - 31) : Int) else .int .u32 (dn (j - 41) : Int)
def cutR (r : Rg) (u d : Nat) : Rg := if r.s = true then ⟨true, min r.g (r.l + u), max (min r.g (r.l + u)) (r.g - d)⟩ else r
def cutK (k : Kn) (up dn : Nat → Nat) (m : Nat) : Kn := ⟨k.come, fun n => if n < m then cutR (k.r n) (up n) (dn n) else k.r n⟩
theorem cutK_at (k : Kn) (up dn : Nat → Nat) (n : Nat) : (cutK k up dn n).r n = k.r n := by
  show (if n < n then _ else _) = _
  rw [if_neg (by omega)]
theorem cutK_zero (k : Kn) (up dn : Nat → Nat) : cutK k up dn 0 = k := by
  obtain ⟨c, r⟩ := k
  unfold cutK
  congr 1
theorem cutK_succ (k : Kn) (up dn : Nat → Nat) (m : Nat) : (⟨(cutK k up dn m).come, upd (cutK k up dn m).r m (cutR (k.r m) (up m) (dn m))⟩ : Kn) = cutK k up dn (m + 1) := by
  unfold cutK
  congr 1
  funext j
  unfold upd
  by_cases e : j = m
  · subst e; rw [if_pos rfl, if_pos (by omega)]
  · rw [if_neg e]
    show (if j < m then _ else _) = _
    by_cases e2 : j < m
    · rw [if_pos e2, if_pos (by omega)]
    · rw [if_neg e2, if_neg (by omega)]
theorem cutK_same (k : Kn) (up dn : Nat → Nat) (m : Nat) (h : (k.r m).s = false) : cutK k up dn m = cutK k up dn (m + 1) := by
  rw [← cutK_succ]
  have e : cutR (k.r m) (up m) (dn m) = (cutK k up dn m).r m := by rw [cutK_at]; unfold cutR; rw [if_neg (by rw [h]; simp)]
  rw [e]
  obtain ⟨c, r⟩ : Kn := cutK k up dn m
  congr 1
  funext j
  unfold upd
  split
  · rename_i q; rw [q]
  · rfl
theorem cutR_ok (r : Rg) (u d : Nat) (h : r.ok) : (cutR r u d).ok ∧ (cutR r u d).s = r.s ∧ (r.s = true → r.l ≤ (cutR r u d).l ∧ (cutR r u d).g ≤ r.g) := by
  obtain ⟨h1, h2, h3⟩ := h
  unfold cutR
  by_cases q : r.s = true
  · rw [if_pos q]
    refine ⟨⟨?_, ?_, fun h => by cases h⟩, q.symm, fun _ => ⟨?_, ?_⟩⟩
    · show min r.g (r.l + u) ≤ max (min r.g (r.l + u)) (r.g - d); omega
    · show max (min r.g (r.l + u)) (r.g - d) ≤ _; omega
    · show r.l ≤ min r.g (r.l + u); omega
    · show max (min r.g (r.l + u)) (r.g - d) ≤ r.g; omega
  · rw [if_neg q]
    exact ⟨⟨h1, h2, h3⟩, rfl, fun h => absurd h q⟩
theorem cutK_right (k : Kn) (up dn : Nat → Nat) (h : k.right) : (cutK k up dn 10).right := fun n => by
  show (if n < 10 then _ else _ : Rg).ok
  split
  · exact (cutR_ok _ _ _ (h n)).1
  · exact h n
theorem cut_le (ctx : Nat) (i : Ins8) (k : Kn) (up dn : Nat → Nat) (hm : i.May) (h : k.right) (hc : k.come = true) : (behindB ctx i (cutK k up dn 10)).le (behindB ctx i k) := by
  have hi := hm.imm
  have he : ∀ n, n < 10 → (cutK k up dn 10).r n = cutR (k.r n) (up n) (dn n) := fun n hn => by show (if n < 10 then _ else _) = _; rw [if_pos hn]
  refine behind_mono (by omega) hm.dst hm.src ⟨fun h => ?_, fun h => ?_, fun h => ?_⟩ h (cutK_right k up dn h) hc hc (fun n hn => ?_) (fun n hn hs => ?_)
  · unfold Ins8.useImm; rcases h with h | h <;> rw [h] <;> rfl
  · unfold Ins8.useImm; rw [h]; rfl
  · unfold Ins8.useImm; rw [h]; rfl
  · rw [he n hn]; exact (cutR_ok _ _ _ (h n)).2.1.symm
  · rw [he n hn]; exact (cutR_ok _ _ _ (h n)).2.2 hs
theorem rightB_right {k : Kn} (h : rightB k = true) (hg : ∀ n, n < 10 → (k.r n).g < 4294967296) (hz : ∀ n, 10 ≤ n → k.r n = rg0) : k.right := fun n => by
  by_cases hn : n < 10
  · have := List.all_eq_true.1 h n (List.mem_range.2 hn)
    unfold rgOkB at this
    simp only [Bool.and_eq_true, Bool.not_eq_true', decide_eq_false_iff_not, Bool.or_eq_true, beq_iff_eq] at this
    obtain ⟨h1, h2⟩ := this
    have := hg n hn
    refine ⟨by omega, by omega, fun hs => ?_⟩
    rcases h2 with h2 | h2
    · rw [h2] at hs; cases hs
    · exact h2
  · rw [hz n (by omega)]
    exact ⟨Nat.le_refl _, Nat.zero_le _, fun _ => ⟨rfl, rfl⟩⟩
theorem wpList_ldk {ops : Array Oper} {rest : List Oper} {ty : TypeId} {pos : String} {after : Array Edge} {gd : Option (Nat × Bool)} {a : Act} {w : World} {Q : Exit → Act → World → Prop} (d x : Tmp) (b o : Nat) (k : Kn)
    (hg : Region.wanted (Oper.mk (some d) (.load 42 (.tmp x)) ty pos after gd) (yielded ops a.tmps) = true) (hx : a.eval (.tmp x) = .pointer (some ⟨b, o, none⟩)) (hr : w.rangeAt b o (knL k))
    (hk : wpList Try.prog ops Q rest (a.put (some d) (.agg (knL k).toArray)) w) : wpList Try.prog ops Q (Oper.mk (some d) (.load 42 (.tmp x)) ty pos after gd :: rest) a w :=
  wpList_valueg (w' := w) (.agg (knL k).toArray) hg (exec_load_mid 42 (.tmp x) rfl b o hx (knL k) _ hr Try.underlying42 rfl (by rw [knL_length]; exact info_kn)) hk
theorem ls_known {W : World} {b : Nat} {t : TypeId} {k : Kn} {up dn : Nat → Nat} (h : Blk W b t 51 (lsF k up dn)) : W.rangeAt b 0 (knL k) := by
  have := Blk.rangeAt h 0 31 (by omega)
  have e : rowF 31 (fun j => lsF k up dn (0 + j)) = knL k := rowF_ext 31 (fun j hj => by show lsF k up dn (0 + j) = _; rw [Nat.zero_add]; unfold lsF; rw [if_pos hj])
  rw [e] at this; exact this
theorem ls_up {W : World} {b : Nat} {t : TypeId} {k : Kn} {up dn : Nat → Nat} (h : Blk W b t 51 (lsF k up dn)) (n : Nat) (hn : n < 10) : W.cell? ⟨b, 31 + n, none⟩ = some (.int .u32 (up n : Int)) := by
  have := h.cell (31 + n) (by omega)
  rw [this]; unfold lsF; rw [if_neg (by omega), if_pos (by omega), show 31 + n - 31 = n from by omega]
theorem ls_dn {W : World} {b : Nat} {t : TypeId} {k : Kn} {up dn : Nat → Nat} (h : Blk W b t 51 (lsF k up dn)) (n : Nat) (hn : n < 10) : W.cell? ⟨b, 41 + n, none⟩ = some (.int .u32 (dn n : Int)) := by
  have := h.cell (41 + n) (by omega)
  rw [this]; unfold lsF; rw [if_neg (by omega), if_neg (by omega), show 41 + n - 41 = n from by omega]
theorem ls_come {W : World} {b : Nat} {t : TypeId} {k : Kn} {up dn : Nat → Nat} (h : Blk W b t 51 (lsF k up dn)) : W.cell? ⟨b, 0, none⟩ = some (.bool k.come) := h.cell 0 (by omega)
/-- The worlds of CheckWithin at its start. -/
theorem within_world (w : World) (i : InsZ) (k : Kn) (up dn : Nat → Nat) (L : Array Value) (hL : L = (rowF 51 (lsF k up dn)).toArray) : ∃ W1, Hid (W1 = (w.alloc (.cells #[.int .i64 i.op, .int .i64 i.dst, .int .i64 i.src, .int .i64 i.off, .int .u32 (i.imm : Int)] 45)).alloc (.cells L 59)) ∧ Hid (Below w.heap.size w W1) ∧ Hid (Blk W1 w.heap.size 45 5 (fun j => [.int .i64 i.op, .int .i64 i.dst, .int .i64 i.src, .int .i64 i.off, .int .u32 (i.imm : Int)].getD j undef)) ∧ Hid (Blk W1 (w.heap.size + 1) 59 51 (lsF k up dn)) := by
  have h1 : Blk (w.alloc (.cells #[.int .i64 i.op, .int .i64 i.dst, .int .i64 i.src, .int .i64 i.off, .int .u32 (i.imm : Int)] 45)) w.heap.size 45 5 (fun j => [.int .i64 i.op, .int .i64 i.dst, .int .i64 i.src, .int .i64 i.off, .int .u32 (i.imm : Int)].getD j undef) := Blk.litL w 45 [.int .i64 i.op, .int .i64 i.dst, .int .i64 i.src, .int .i64 i.off, .int .u32 (i.imm : Int)]
  have h2 := Blk.boxed (w.alloc (.cells #[.int .i64 i.op, .int .i64 i.dst, .int .i64 i.src, .int .i64 i.off, .int .u32 (i.imm : Int)] 45)) 59 51 (lsF k up dn)
  have e : (w.alloc (.cells #[.int .i64 i.op, .int .i64 i.dst, .int .i64 i.src, .int .i64 i.off, .int .u32 (i.imm : Int)] 45)).heap.size = w.heap.size + 1 := by simp
  rw [e, ← hL] at h2
  have b1 : Below w.heap.size w (w.alloc (.cells #[.int .i64 i.op, .int .i64 i.dst, .int .i64 i.src, .int .i64 i.off, .int .u32 (i.imm : Int)] 45)) := (Below.refl _ _).alloc (Nat.le_refl _) _
  have b2 : Below (w.alloc (.cells #[.int .i64 i.op, .int .i64 i.dst, .int .i64 i.src, .int .i64 i.off, .int .u32 (i.imm : Int)] 45)).heap.size (w.alloc (.cells #[.int .i64 i.op, .int .i64 i.dst, .int .i64 i.src, .int .i64 i.off, .int .u32 (i.imm : Int)] 45)) ((w.alloc (.cells #[.int .i64 i.op, .int .i64 i.dst, .int .i64 i.src, .int .i64 i.off, .int .u32 (i.imm : Int)] 45)).alloc (.cells L 59)) := (Below.refl _ _).alloc (Nat.le_refl _) _
  exact ⟨_, Lib.hid rfl, Lib.hid (b1.trans (b2.mono b1.size)), Lib.hid (h1.below b2), Lib.hid h2⟩

set_option maxRecDepth 100000 in
set_option maxHeartbeats 2500000 in
theorem within_out (w : World) (i : InsZ) (ctx : Int) (k : Kn) (up dn : Nat → Nat) (hi : i.imm < 4294967296) (hcx : -9223372036854775808 ≤ ctx ∧ ctx ≤ 9223372036854775807) (hout : mayB i = false ∨ ctx < 0 ∨ 256 < ctx ∨ rightB k = false ∨ k.come = false) :
    Calls Try.prog 7 #[.agg #[.int .i64 i.op, .int .i64 i.dst, .int .i64 i.src, .int .i64 i.off, .int .u32 (i.imm : Int)], .int .i64 ctx, .agg (rowF 51 (lsF k up dn)).toArray] w fun e w' => e = .returned (.bool true) ∧ Below w.heap.size w w' := by
  have HKN := Lib.hid lawknown_ok
  obtain ⟨mb, hmb⟩ : ∃ mb, mb = mayB i := ⟨_, rfl⟩
  have hmy : ∀ W : World, Calls Try.prog 17 #[.agg #[.int .i64 i.op, .int .i64 i.dst, .int .i64 i.src, .int .i64 i.off, .int .u32 (i.imm : Int)]] W fun e w' => e = .returned (.bool mb) ∧ Below W.heap.size W w' := fun W => by rw [hmb]; exact mayr_any W i hi
  obtain ⟨rb, hrb⟩ : ∃ rb, rb = rightB k := ⟨_, rfl⟩
  have hrt : ∀ W : World, Calls Try.prog 20 #[.agg (knL k).toArray] W fun e w' => e = .returned (.bool rb) ∧ Below W.heap.size W w' := fun W => by rw [hrb]; exact refright_ok W k
  obtain ⟨L, hL⟩ : ∃ L, L = (rowF 51 (lsF k up dn)).toArray := ⟨_, rfl⟩
  obtain ⟨W1, HW1, HB1, HI1, HL1⟩ := within_world w i k up dn L hL
  rw [← hL]
  clear hL
  have HMY := Lib.hid hmy; have HRB := Lib.hid hrt; have HMB := Lib.hid hmb; have HRBE := Lib.hid hrb
  clear hmy hrt hmb hrb
  have i0 : W1.cell? ⟨w.heap.size, 0, none⟩ = some (.int .i64 i.op) := HI1.out.cell 0 (by simp)
  have i1 : W1.cell? ⟨w.heap.size, 1, none⟩ = some (.int .i64 i.dst) := HI1.out.cell 1 (by simp)
  have i2 : W1.cell? ⟨w.heap.size, 2, none⟩ = some (.int .i64 i.src) := HI1.out.cell 2 (by simp)
  have i3 : W1.cell? ⟨w.heap.size, 3, none⟩ = some (.int .i64 i.off) := HI1.out.cell 3 (by simp)
  have i4 : W1.cell? ⟨w.heap.size, 4, none⟩ = some (.int .u32 (i.imm : Int)) := HI1.out.cell 4 (by simp)
  go_enter Try.func7, Try.ntmps7
  go_upto_region 1 with fail
  rw [← HW1.out]
  clear HW1
  rcases hm : mb with _ | _
  · subst hm
    go_upto_region 2 with (go_at_call 17; (with_reducible refine (HMY.out _).mono ?_); rintro e' W2 ⟨rfl, hb2⟩; have HB2 := Lib.hid (HB1.out.trans (hb2.mono HB1.out.size)); have HL2 := Lib.hid (HL1.out.below hb2); have HI2 := Lib.hid (HI1.out.below hb2); clear hb2)
    go_wp2_with (go_at_call 11; (with_reducible refine (HKN.out _).mono ?_); rintro e' W9 ⟨rfl, hb9⟩; have HB9 := Lib.hid hb9; clear hb9)
    go_ret
    exact ⟨rfl, HB2.out.trans (HB9.out.mono HB2.out.size)⟩
  subst hm
  by_cases h1 : ctx < 0
  ·
    go_upto_region 2 with (go_at_call 17; (with_reducible refine (HMY.out _).mono ?_); rintro e' W2 ⟨rfl, hb2⟩; have HB2 := Lib.hid (HB1.out.trans (hb2.mono HB1.out.size)); have HL2 := Lib.hid (HL1.out.below hb2); have HI2 := Lib.hid (HI1.out.below hb2); clear hb2)
    go_wp2_with (go_at_call 11; (with_reducible refine (HKN.out _).mono ?_); rintro e' W9 ⟨rfl, hb9⟩; have HB9 := Lib.hid hb9; clear hb9)
    go_ret
    exact ⟨rfl, HB2.out.trans (HB9.out.mono HB2.out.size)⟩
  by_cases h2 : 256 < ctx
  ·
    go_upto_region 2 with (go_at_call 17; (with_reducible refine (HMY.out _).mono ?_); rintro e' W2 ⟨rfl, hb2⟩; have HB2 := Lib.hid (HB1.out.trans (hb2.mono HB1.out.size)); have HL2 := Lib.hid (HL1.out.below hb2); have HI2 := Lib.hid (HI1.out.below hb2); clear hb2)
    go_wp2_with (go_at_call 11; (with_reducible refine (HKN.out _).mono ?_); rintro e' W9 ⟨rfl, hb9⟩; have HB9 := Lib.hid hb9; clear hb9)
    go_ret
    exact ⟨rfl, HB2.out.trans (HB9.out.mono HB2.out.size)⟩
  have d1 : decide (ctx < 0) = false := decide_eq_false h1
  have d2 : decide (256 < ctx) = false := decide_eq_false h2
  rcases hr : rb with _ | _
  · subst hr
    go_upto_region 2 with (first | (go_at_call 17; (with_reducible refine (HMY.out _).mono ?_); rintro e' W2 ⟨rfl, hb2⟩; have HB2 := Lib.hid (HB1.out.trans (hb2.mono HB1.out.size)); have HL2 := Lib.hid (HL1.out.below hb2); have HI2 := Lib.hid (HI1.out.below hb2); clear hb2) | (refine wpList_ldk 31 30 (w.heap.size + 1) 0 k (by kernel_rfl) (by kernel_rfl) (ls_known HL2.out) ?_) | (go_at_call 20; (with_reducible refine (HRB.out _).mono ?_); rintro e' W3 ⟨rfl, hb3⟩; have HB3 := Lib.hid (HB2.out.trans (hb3.mono HB2.out.size)); have HL3 := Lib.hid (HL2.out.below hb3); have HI3 := Lib.hid (HI2.out.below hb3); have k0 := ls_come HL3.out; clear hb3))
    go_wp2_with (go_at_call 11; (with_reducible refine (HKN.out _).mono ?_); rintro e' W9 ⟨rfl, hb9⟩; have HB9 := Lib.hid hb9; clear hb9)
    go_ret
    exact ⟨rfl, HB3.out.trans (HB9.out.mono HB3.out.size)⟩
  subst hr
  have hc : k.come = false := by
    rcases hout with h | h | h | h | h
    · rw [← HMB.out] at h; cases h
    · exact absurd h h1
    · exact absurd h h2
    · rw [← HRBE.out] at h; cases h
    · exact h
  go_upto_region 2 with (first | (go_at_call 17; (with_reducible refine (HMY.out _).mono ?_); rintro e' W2 ⟨rfl, hb2⟩; have HB2 := Lib.hid (HB1.out.trans (hb2.mono HB1.out.size)); have HL2 := Lib.hid (HL1.out.below hb2); have HI2 := Lib.hid (HI1.out.below hb2); clear hb2) | (refine wpList_ldk 31 30 (w.heap.size + 1) 0 k (by kernel_rfl) (by kernel_rfl) (ls_known HL2.out) ?_) | (go_at_call 20; (with_reducible refine (HRB.out _).mono ?_); rintro e' W3 ⟨rfl, hb3⟩; have HB3 := Lib.hid (HB2.out.trans (hb3.mono HB2.out.size)); have HL3 := Lib.hid (HL2.out.below hb3); have HI3 := Lib.hid (HI2.out.below hb3); have k0 := ls_come HL3.out; clear hb3; rw [hc] at k0))
  go_wp2_with (go_at_call 11; (with_reducible refine (HKN.out _).mono ?_); rintro e' W9 ⟨rfl, hb9⟩; have HB9 := Lib.hid hb9; clear hb9)
  go_ret
  exact ⟨rfl, HB3.out.trans (HB9.out.mono HB3.out.size)⟩
end Go.Proofs.Ytjlddhnjbjhmkaa
