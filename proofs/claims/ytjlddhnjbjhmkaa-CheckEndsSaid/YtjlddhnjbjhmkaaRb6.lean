/- Layer 6, the document's answer: a register that is not set; nothing known. -/
import Derived.Test.YtjlddhnjbjhmkaaRb5
import Derived.BigQuiet
import Derived.IntWalk
set_option linter.unusedVariables false
set_option linter.unusedSimpArgs false
namespace Go.Proofs.Ytjlddhnjbjhmkaa
open Go.RowKit

set_option maxRecDepth 100000 in
set_option maxHeartbeats 4000000 in
theorem rb_unset (w : World) (i : Ins8) (ctx : Nat) (k : Kn) (hmb : mayB i.z = true) (hr : k.right) (hctx : ctx ≤ 256) (hco : k.come = true) (hun : unsB i k = true) : Calls Try.prog 22 #[.agg #[.int .i64 (i.op : Int), .int .i64 (i.dst : Int), .int .i64 (i.src : Int), .int .i64 i.off, .int .u32 (i.imm : Int)], .int .i64 (ctx : Int), .agg (knL k).toArray] w fun e w' => e = .returned (.agg (wayL kn0 kn0 161).toArray) ∧ Below w.heap.size w w' := by
  obtain ⟨L, hL⟩ : ∃ L, L = (knL k).toArray := ⟨_, rfl⟩
  obtain ⟨W1, HW1, HR1⟩ := rb_world w i k L hL
  rw [← hL]
  clear hL
  obtain ⟨hm, h31⟩ := may_of hmb
  have HM := Lib.hid hm; have H31 := Lib.hid h31; have HRT := Lib.hid hr; have HCX := Lib.hid hctx
  have HU := Lib.hid (fun W => uses_in W i.op hm.op1 hm.op2)
  clear hm h31 hr hctx hmb
  obtain ⟨us, hus⟩ : ∃ b, b = uS i.op := ⟨_, rfl⟩
  obtain ⟨ui, hui⟩ : ∃ b, b = uI i.op := ⟨_, rfl⟩
  have HUS := Lib.hid hus; have HUI := Lib.hid hui
  rw [← hus, ← hui] at HU
  clear hus hui
  go_enter Try.func22, Try.ntmps22
  go_upto_region 0 with fail
  refine wp_region_list ?_
  refine wpList_box 3 0 45 #[.int .i64 (i.op : Int), .int .i64 (i.dst : Int), .int .i64 (i.src : Int), .int .i64 i.off, .int .u32 (i.imm : Int)] w.heap.size rfl (by kernel_rfl) ?_
  refine wpList_box 5 2 42 L (w.heap.size + 1) (by simp) (by kernel_rfl) ?_
  refine wpList_alw2 6 (w.heap.size + 2) (by simp) ?_
  rw [← HW1.out]
  clear HW1
  have c0 : W1.cell? ⟨w.heap.size + 1, 0, none⟩ = some (.bool k.come) := HR1.out.kk.cell 0 (by omega)
  have hc1 : k.come = true := hco
  rw [hc1] at c0
  have i0 : W1.cell? ⟨w.heap.size, 0, none⟩ = some (.int .i64 (i.op : Int)) := HR1.out.ii.cell 0 (by omega)
  have HUN := Lib.hid hun; clear hun
  go_upto_region 5 with (go_at_call 28; (with_reducible refine (HU.out _).mono ?_); rintro e w9 ⟨rfl, rfl⟩)
  obtain ⟨nb, hnb⟩ : ∃ b, b = needB i.op := ⟨_, rfl⟩
  go_cut [13] from 33 to 50 (fun sv wx => sv = .bool nb ∧ wx = W1)
  case first =>
    have ho1 := HM.out.op1
    have ho2 := HM.out.op2
    have hcs : i.op < 3 ∨ (3 ≤ i.op ∧ i.op ≤ 22 ∧ i.op ≠ 16 ∧ i.op ≠ 17 ∧ i.op ≠ 19) ∨ i.op = 16 ∨ i.op = 17 ∨ i.op = 19 ∨ 22 < i.op := by omega
    rcases hcs with h | ⟨h, h2, h3, h4, h5⟩ | h | h | h | h
    · skip
      have q : ¬ (3 : Int) ≤ (i.op : Int) := by omega
      have hq : needB i.op = false := by simp [needB]; omega
      clear ho1 ho2 h
      go_wp2_with fail
      go_meet
      exact ⟨by rw [hnb, hq]; try (first | rfl | simp [q3, q4, q5]), rfl⟩
    · skip
      have q : (3 : Int) ≤ (i.op : Int) := by omega
      have q2 : (i.op : Int) ≤ 22 := by omega
      have q3 : ¬ (i.op : Int) = 16 := by omega
      have q4 : ¬ (i.op : Int) = 17 := by omega
      have q5 : ¬ (i.op : Int) = 19 := by omega
      have hq : needB i.op = true := by simp [needB]; omega
      clear ho1 ho2 h h2 h3 h4 h5
      go_wp2_with fail
      go_meet
      exact ⟨by rw [hnb, hq]; try (first | rfl | simp [q3, q4, q5]), rfl⟩
    · skip
      have q : (i.op : Int) = 16 := by omega
      have hq : needB i.op = false := by rw [h]; rfl
      clear ho1 ho2 h
      go_wp2_with fail
      go_meet
      exact ⟨by rw [hnb, hq]; try (first | rfl | simp [q3, q4, q5]), rfl⟩
    · skip
      have q : (i.op : Int) = 17 := by omega
      have hq : needB i.op = false := by rw [h]; rfl
      clear ho1 ho2 h
      go_wp2_with fail
      go_meet
      exact ⟨by rw [hnb, hq]; try (first | rfl | simp [q3, q4, q5]), rfl⟩
    · skip
      have q : (i.op : Int) = 19 := by omega
      have hq : needB i.op = false := by rw [h]; rfl
      clear ho1 ho2 h
      go_wp2_with fail
      go_meet
      exact ⟨by rw [hnb, hq]; try (first | rfl | simp [q3, q4, q5]), rfl⟩
    · skip
      have q : (3 : Int) ≤ (i.op : Int) := by omega
      have q2 : ¬ (i.op : Int) ≤ 22 := by omega
      have hq : needB i.op = false := by simp [needB]; omega
      clear ho1 ho2 h
      go_wp2_with fail
      go_meet
      exact ⟨by rw [hnb, hq]; try (first | rfl | simp [q3, q4, q5]), rfl⟩
  case rest =>
    obtain ⟨rfl, hwc⟩ := hcut
    rw [hwc]
    clear hwc
    have HNB := Lib.hid hnb; clear hnb
    obtain ⟨ub, hub⟩ : ∃ b, b = unsB i k := ⟨_, rfl⟩
    obtain ⟨ds, hds⟩ : ∃ b, b = (k.r i.dst).s := ⟨_, rfl⟩
    obtain ⟨ss, hss⟩ : ∃ b, b = (k.r i.src).s := ⟨_, rfl⟩
    obtain ⟨rs, hrs⟩ : ∃ b, b = (k.r 0).s := ⟨_, rfl⟩
    have i1 : W1.cell? ⟨w.heap.size, 1, none⟩ = some (.int .i64 (i.dst : Int)) := HR1.out.ii.cell 1 (by omega)
    have i2 : W1.cell? ⟨w.heap.size, 2, none⟩ = some (.int .i64 (i.src : Int)) := HR1.out.ii.cell 2 (by omega)
    have e0 : W1.cell? ⟨w.heap.size + 1, 1 + i.dst * 3, none⟩ = some (.bool ds) := by have := HR1.out.kk.cell (1 + i.dst * 3) (by have := HM.out.dst; omega); rw [knF_s, ← hds] at this; exact this
    have e1 : W1.cell? ⟨w.heap.size + 1, 1 + i.src * 3, none⟩ = some (.bool ss) := by have := HR1.out.kk.cell (1 + i.src * 3) (by have := HM.out.src; omega); rw [knF_s, ← hss] at this; exact this
    have e2 : W1.cell? ⟨w.heap.size + 1, 1, none⟩ = some (.bool rs) := by have := HR1.out.kk.cell (1 + 0 * 3) (by omega); rw [knF_s, ← hrs] at this; exact this
    have hb1 : (i.dst : Int) < 10 := by have := HM.out.dst; omega
    have hb2 : (i.src : Int) < 10 := by have := HM.out.src; omega
    have heq : ub = ((nb && !ds) || (us && !ss) || (i.op == 24 && !rs)) := by rw [hub, hds, hss, hrs, HNB.out, HUS.out]; rfl
    have HEQ := Lib.hid heq; have HUB := Lib.hid hub; have HDS := Lib.hid hds; have HSS := Lib.hid hss; have HRS := Lib.hid hrs
    clear heq hub hds hss hrs
    go_upto_region 6 with fail
    go_cut [83] from 51 to 83 (fun sv wx => sv = .bool ub ∧ wx = W1)
    case first =>
      cases nb
      · skip
        cases us
        · skip
          by_cases q : i.op = 24
          · have q24 : (i.op : Int) = 24 := by omega
            have HQ := Lib.hid q; clear q
            cases rs
            · go_wp2_with fail
              go_meet
              exact ⟨by rw [HEQ.out]; first | rfl | simp [HQ.out], rfl⟩
            · go_wp2_with fail
              go_meet
              exact ⟨by rw [HEQ.out]; first | rfl | simp [HQ.out], rfl⟩
          · have q24 : ¬ (i.op : Int) = 24 := by omega
            have HQ : Hid ((i.op == 24) = false) := Lib.hid (by simpa using q); clear q
            go_wp2_with fail
            go_meet
            exact ⟨by rw [HEQ.out]; first | rfl | simp [HQ.out], rfl⟩
        · cases ss
          · have HQ : Hid True := Lib.hid trivial
            go_wp2_with fail
            go_meet
            exact ⟨by rw [HEQ.out]; first | rfl | simp [HQ.out], rfl⟩
          · skip
            by_cases q : i.op = 24
            · have q24 : (i.op : Int) = 24 := by omega
              have HQ := Lib.hid q; clear q
              cases rs
              · go_wp2_with fail
                go_meet
                exact ⟨by rw [HEQ.out]; first | rfl | simp [HQ.out], rfl⟩
              · go_wp2_with fail
                go_meet
                exact ⟨by rw [HEQ.out]; first | rfl | simp [HQ.out], rfl⟩
            · have q24 : ¬ (i.op : Int) = 24 := by omega
              have HQ : Hid ((i.op == 24) = false) := Lib.hid (by simpa using q); clear q
              go_wp2_with fail
              go_meet
              exact ⟨by rw [HEQ.out]; first | rfl | simp [HQ.out], rfl⟩
      · cases ds
        · have HQ : Hid True := Lib.hid trivial
          go_wp2_with fail
          go_meet
          exact ⟨by rw [HEQ.out]; first | rfl | simp [HQ.out], rfl⟩
        · skip
          cases us
          · skip
            by_cases q : i.op = 24
            · have q24 : (i.op : Int) = 24 := by omega
              have HQ := Lib.hid q; clear q
              cases rs
              · go_wp2_with fail
                go_meet
                exact ⟨by rw [HEQ.out]; first | rfl | simp [HQ.out], rfl⟩
              · go_wp2_with fail
                go_meet
                exact ⟨by rw [HEQ.out]; first | rfl | simp [HQ.out], rfl⟩
            · have q24 : ¬ (i.op : Int) = 24 := by omega
              have HQ : Hid ((i.op == 24) = false) := Lib.hid (by simpa using q); clear q
              go_wp2_with fail
              go_meet
              exact ⟨by rw [HEQ.out]; first | rfl | simp [HQ.out], rfl⟩
          · cases ss
            · have HQ : Hid True := Lib.hid trivial
              go_wp2_with fail
              go_meet
              exact ⟨by rw [HEQ.out]; first | rfl | simp [HQ.out], rfl⟩
            · skip
              by_cases q : i.op = 24
              · have q24 : (i.op : Int) = 24 := by omega
                have HQ := Lib.hid q; clear q
                cases rs
                · go_wp2_with fail
                  go_meet
                  exact ⟨by rw [HEQ.out]; first | rfl | simp [HQ.out], rfl⟩
                · go_wp2_with fail
                  go_meet
                  exact ⟨by rw [HEQ.out]; first | rfl | simp [HQ.out], rfl⟩
              · have q24 : ¬ (i.op : Int) = 24 := by omega
                have HQ : Hid ((i.op == 24) = false) := Lib.hid (by simpa using q); clear q
                go_wp2_with fail
                go_meet
                exact ⟨by rw [HEQ.out]; first | rfl | simp [HQ.out], rfl⟩
    case rest =>
      obtain ⟨rfl, hwc⟩ := hcut
      rw [hwc]
      clear hwc
      clear i1 i2 e0 e1 e2 hb1 hb2
      obtain rfl : ub = true := HUB.out.trans HUN.out
      go_upto_region 7 with fail
      refine wp_region_list ?_
      refine wpList_val0 (.agg (wayL kn0 kn0 161).toArray) rfl (exec_build1 64 2 (.const (.int .i64 161)) rfl (.int .i64 161) rfl _ (bw_e _ _)) ?_
      refine wpList_stw 6 84 (w.heap.size + 2) (kn0) (kn0) 161 (by kernel_rfl) (by kernel_rfl) HR1.out.rr ?_
      obtain ⟨W9, HW9, HR9, HE9, HK9⟩ := fin_store HR1.out.b HR1.out.rr (by omega) (wayL (kn0) (kn0) 161) (wayL_length _ _ _)
      rw [← HW9.out]
      go_wp2
      refine bodyPost_ret (v := .agg (wayL (kn0) (kn0) 161).toArray) (results_cell1_range Try.results22 _ _ (w.heap.size + 2) 0 (wayL (kn0) (kn0) 161) _ (by kernel_rfl) HR9.out Try.underlying64 rfl (by rw [wayL_length]; exact info_way)) ?_ ⟨rfl, HE9.out⟩
      rfl

set_option maxRecDepth 100000 in
set_option maxHeartbeats 4000000 in
theorem rb_not (w : World) (i : Ins8) (ctx : Nat) (k : Kn) (hmb : mayB i.z = true) (hr : k.right) (hctx : ctx ≤ 256) (hco : k.come = false) : Calls Try.prog 22 #[.agg #[.int .i64 (i.op : Int), .int .i64 (i.dst : Int), .int .i64 (i.src : Int), .int .i64 i.off, .int .u32 (i.imm : Int)], .int .i64 (ctx : Int), .agg (knL k).toArray] w fun e w' => e = .returned (.agg (wayL kn0 kn0 0).toArray) ∧ Below w.heap.size w w' := by
  obtain ⟨L, hL⟩ : ∃ L, L = (knL k).toArray := ⟨_, rfl⟩
  obtain ⟨W1, HW1, HR1⟩ := rb_world w i k L hL
  rw [← hL]
  clear hL
  obtain ⟨hm, h31⟩ := may_of hmb
  have HM := Lib.hid hm; have H31 := Lib.hid h31; have HRT := Lib.hid hr; have HCX := Lib.hid hctx
  have HU := Lib.hid (fun W => uses_in W i.op hm.op1 hm.op2)
  clear hm h31 hr hctx hmb
  obtain ⟨us, hus⟩ : ∃ b, b = uS i.op := ⟨_, rfl⟩
  obtain ⟨ui, hui⟩ : ∃ b, b = uI i.op := ⟨_, rfl⟩
  have HUS := Lib.hid hus; have HUI := Lib.hid hui
  rw [← hus, ← hui] at HU
  clear hus hui
  go_enter Try.func22, Try.ntmps22
  go_upto_region 0 with fail
  refine wp_region_list ?_
  refine wpList_box 3 0 45 #[.int .i64 (i.op : Int), .int .i64 (i.dst : Int), .int .i64 (i.src : Int), .int .i64 i.off, .int .u32 (i.imm : Int)] w.heap.size rfl (by kernel_rfl) ?_
  refine wpList_box 5 2 42 L (w.heap.size + 1) (by simp) (by kernel_rfl) ?_
  refine wpList_alw2 6 (w.heap.size + 2) (by simp) ?_
  rw [← HW1.out]
  clear HW1
  have c0 : W1.cell? ⟨w.heap.size + 1, 0, none⟩ = some (.bool k.come) := HR1.out.kk.cell 0 (by omega)
  have hc1 : k.come = false := hco
  rw [hc1] at c0
  go_upto_region 2 with fail
  refine wp_region_list ?_
  refine wpList_val0 (.agg (wayL kn0 kn0 0).toArray) rfl (exec_build0 64 rfl _ (bw_0 _)) ?_
  refine wpList_stw 6 22 (w.heap.size + 2) (kn0) (kn0) 0 (by kernel_rfl) (by kernel_rfl) HR1.out.rr ?_
  obtain ⟨W9, HW9, HR9, HE9, HK9⟩ := fin_store HR1.out.b HR1.out.rr (by omega) (wayL (kn0) (kn0) 0) (wayL_length _ _ _)
  rw [← HW9.out]
  go_wp2
  refine bodyPost_ret (v := .agg (wayL (kn0) (kn0) 0).toArray) (results_cell1_range Try.results22 _ _ (w.heap.size + 2) 0 (wayL (kn0) (kn0) 0) _ (by kernel_rfl) HR9.out Try.underlying64 rfl (by rw [wayL_length]; exact info_way)) ?_ ⟨rfl, HE9.out⟩
  rfl
end Go.Proofs.Ytjlddhnjbjhmkaa
