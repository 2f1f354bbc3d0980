/- The disk's crash. -/
import Derived.Test.YtmajfiljajbipaaDsk4
import Derived.RangeFuncNested
import Derived.RangeFuncBound
import Derived.RangeFuncCalls
import Derived.RangeFuncLeaves
import Derived.Shelf.Abstract
import Derived.Shelf.RegionOpen
import Derived.OwnWalkIn
import Derived.TacticsInMore
import Derived.LoopNIn
import Derived.LoopIn
set_option linter.unusedVariables false
namespace Go.Proofs.Ytmajfiljajbipaa
open Go.RowKit Go.Shelf
attribute [local go_sem] Oper.semAt_some

/-- A number among 0 to n. -/
def pick (k : Int) (n : Nat) : Nat := (k % ((n : Int) + 1)).toNat
theorem pick_le (k : Int) (n : Nat) : pick k n ≤ n := by
  unfold pick
  have h1 := Int.emod_nonneg k (show ((n : Int) + 1) ≠ 0 by omega)
  have h2 := Int.emod_lt_of_pos k (show (0 : Int) < (n : Int) + 1 by omega)
  omega
theorem pick_cast (k : Int) (n : Nat) : ((pick k n : Nat) : Int) = k % ((n : Int) + 1) := by
  unfold pick
  have h1 := Int.emod_nonneg k (show ((n : Int) + 1) ≠ 0 by omega)
  omega
theorem among_any (w : World) (k : Int) (n : Nat) (hn : n ≤ 70368744177664) :
    Calls Try.prog 55 #[.int .i64 k, .int .i64 (n : Int)] w fun e w' => e = .returned (.int .i64 ((pick k n : Nat) : Int)) ∧ w = w' := by
  have hp := pick_cast k n
  have h1 := Int.emod_nonneg k (show ((n : Int) + 1) ≠ 0 by omega)
  have h2 := Int.emod_lt_of_pos k (show (0 : Int) < (n : Int) + 1 by omega)
  have ht := Int.tmod_def k ((n : Int) + 1)
  have he : k.tmod ((n : Int) + 1) = if 0 ≤ k ∨ ((n : Int) + 1) ∣ k then k % ((n : Int) + 1) else k % ((n : Int) + 1) - ((n : Int) + 1) := by
    rw [Int.tmod_eq_emod]; split <;> simp <;> omega
  by_cases hc : 0 ≤ k ∨ ((n : Int) + 1) ∣ k
  · rw [if_pos hc] at he
    have hr : 0 ≤ k.tmod ((n : Int) + 1) := by omega
    have hr2 : k.tmod ((n : Int) + 1) ≤ n := by omega
    have hv : k.tmod ((n : Int) + 1) = ((pick k n : Nat) : Int) := by omega
    have HV := Lib.hid hv
    clear hv hp he ht hc h1 h2
    go_enter Try.func55, Try.ntmps55
    go_wp2
    go_ret
    exact ⟨congrArg (fun z => Ending.returned (.int .i64 z)) HV.out, rfl⟩
  · rw [if_neg hc] at he
    have hr : k.tmod ((n : Int) + 1) < 0 := by omega
    have hr1 : -((n : Int) + 1) < k.tmod ((n : Int) + 1) := by
      have : ¬ (((n : Int) + 1) ∣ k) := fun h => hc (.inr h)
      have : k % ((n : Int) + 1) ≠ 0 := fun h => this (Int.dvd_of_emod_eq_zero h)
      omega
    have hv : k.tmod ((n : Int) + 1) + ((n : Int) + 1) = ((pick k n : Nat) : Int) := by omega
    have HV := Lib.hid hv
    clear hv hp he ht hc h1 h2
    go_enter Try.func55, Try.ntmps55
    go_wp2
    go_ret
    exact ⟨congrArg (fun z => Ending.returned (.int .i64 z)) HV.out, rfl⟩

theorem add_at (g i : Nat) : (⟨g, 0, none⟩ : Addr).add i = ⟨g, i, none⟩ := by unfold Addr.add; by_cases h : i = 0 <;> simp [h]
theorem Kp.cell {M : Nat → Prop} {w w1 : World} (h : Kp M w w1) {a : Addr} {v : Value} (hc : w.cell? a = some v) (hM : ¬ M a.block) : w1.cell? a = some v :=
  (World.cell?_of_block (h.block a.block (World.block_lt_of_cell? w a hc) hM)).trans hc
/-- What is handed on of a write that a crash keeps. -/
structure KW where
  n : Nat
  at_ : Nat
  b : List UInt8
  A : Option Addr
  c : Nat
def KW.encs (x : KW) : Array Value := #[.int .i64 (x.n : Int), .agg #[.int .i64 (x.at_ : Int), .slice x.A x.b.length x.c]]
def upto {α : Type} (f : Nat → α) (k : Nat) : List α := (List.range k).map f
theorem upto_succ {α : Type} (f : Nat → α) (k : Nat) : upto f (k + 1) = upto f k ++ [f k] := by simp [upto, List.range_succ]
theorem upto_length {α : Type} (f : Nat → α) (k : Nat) : (upto f k).length = k := by simp [upto]

def KW.of (ws : List (Nat × List UInt8)) (fs : Nat → Option Addr × Nat) (keep : Nat) (torn : Int) (i : Nat) : KW :=
  let x := ws.getD i (0, [])
  ⟨if i = keep then pick torn x.2.length else x.2.length, x.1, x.2, (fs i).1, (fs i).2⟩

set_option maxHeartbeats 1000000 in
theorem kept1_in (n l p g2 gc : Nat) {fp ok : Nat → Prop} {d : Dk} {nb nc : Nat} {LA : Option Addr} {lc : Nat} {WA : Option Addr} {wc : Nat} {wcs : List Value} (keepI torn : Int) (w0 : World) (h : DiskAt w0 fp ok p d nb nc LA lc WA wc wcs) (fs : Nat → Option Addr × Nat)
    (hfs : ∀ i x, d.waits[i]? = some x → wcs[i * 2]? = some (.int .i64 (x.1 : Int)) ∧ wcs[i * 2 + 1]? = some (.slice (fs i).1 x.2.length (fs i).2)) (hw : d.waits.length ≤ 1048576)
    (hg2 : w0.cell? ⟨g2, 0, none⟩ = some (.pointer (some ⟨p, 0, none⟩))) (hc0 : w0.cell? ⟨gc, 0, none⟩ = some (.int .i64 keepI)) (hc1 : w0.cell? ⟨gc, 1, none⟩ = some (.int .i64 torn)) (M : Nat → Prop) (hM : ∀ k, k < w0.heap.size → (fp k ∨ k = gc ∨ k = g2) → ¬ M k) (Good : KW → Prop) (hGood : ∀ i, i < d.waits.length → Good (KW.of d.waits fs (pick keepI d.waits.length) torn i)) (J Jx : List KW → World → Prop) (W : World) (hJ : AbidesFrom W.heap.size J)
    (hY : ∀ pre x W, Good x → J pre W → pre.length < d.waits.length + 1 → YieldAt Fence.wide (n - 1) Try.prog l x.encs W fun e W' =>
      (e = .returned (.bool true) ∧ J (pre ++ [x]) W' ∧ Kp M W W') ∨ (e = .returned (.bool false) ∧ Jx (pre ++ [x]) W'))
    (hW : Below w0.heap.size w0 W) (h0 : J [] W) :
    CallsIn Fence.wide n Try.prog 54 #[.func (.yield l) #[] #[], .pointer (some ⟨gc, 0, none⟩), .pointer (some ⟨g2, 0, none⟩)] W fun e W' => (∃ v, e = .returned v) ∧
      ((∃ ys, ys = upto (KW.of d.waits fs (pick keepI d.waits.length) torn) (min (pick keepI d.waits.length + 1) d.waits.length) ∧ J ys W') ∨ (∃ pre, True ∧ Jx pre W')) := by
  refine callsIn_wide.2 ?_
  have hlg2 := World.block_lt_of_cell? w0 _ hg2
  have hlgc := World.block_lt_of_cell? w0 _ hc0
  have hpl := h.fps p h.fpp
  obtain ⟨c0, c1, c2, c3, c4, cf⟩ := h.cells
  have k1 : W.cell? ⟨g2, 0, none⟩ = _ := (hW.cell (p := ⟨g2, 0, none⟩) hlg2).trans hg2
  have k2 : W.cell? ⟨gc, 0, none⟩ = _ := (hW.cell (p := ⟨gc, 0, none⟩) hlgc).trans hc0
  have k3 : W.cell? ⟨p, 2, none⟩ = _ := (hW.cell (p := ⟨p, 2, none⟩) hpl).trans c2
  go_enter Try.func54, Try.ntmps54
  go_step3
  go_wp2
  refine wp_region_noPanic ?_
  refine mix_tail 7 9 (fun w' => w'.cell? ⟨g2, 0, none⟩ = some (.pointer (some ⟨p, 0, none⟩)) ∧ w'.cell? ⟨gc, 0, none⟩ = some (.int .i64 keepI) ∧ w'.cell? ⟨p, 2, none⟩ = some (.slice WA d.waits.length wc)) (by kernel_rfl) (by kernel_rfl) (fun _ _ _ _ _ h => h) ⟨k1, k2, k3⟩ ?_
  simp only [List.take_succ_cons, List.take_zero, List.drop_succ_cons, List.drop_zero]
  refine rd_step (.pointer (some ⟨gc, 0, none⟩)) rfl (fun W ⟨h1, h2, h3⟩ => by simp [go_sem]) ?_
  refine rd_step (.int .i64 keepI) rfl (fun W ⟨h1, h2, h3⟩ => by simp [go_sem, h2]) ?_
  refine rd_step (.pointer (some ⟨p, 0, none⟩)) rfl (fun W ⟨h1, h2, h3⟩ => by simp [go_sem, h1]) ?_
  refine rd_step (.pointer (some ⟨p, 0, none⟩)) rfl (fun W ⟨h1, h2, h3⟩ => by simp [go_sem]) ?_
  refine rd_step (.pointer (some ⟨p, 2, none⟩)) rfl (fun W ⟨h1, h2, h3⟩ => by simp [go_sem]) ?_
  refine rd_step (.slice WA d.waits.length wc) rfl (fun W ⟨h1, h2, h3⟩ => by simp [go_sem, h3]) ?_
  refine rd_step (.int .i64 (d.waits.length : Int)) rfl (fun W ⟨h1, h2, h3⟩ => by simp [go_sem]) ?_
  refine rd_nil ?_
  refine tail_step rfl (fun K hK => ?_)
  go_simp
  refine (among_any _ keepI d.waits.length (by omega)).mono ?_
  rintro e w1 ⟨rfl, rfl⟩
  refine hK _ _ (fun _ => ⟨k1, k2, k3⟩) ?_
  clear hK K
  refine tail_step rfl (fun K hK => ?_)
  go_simp
  refine hK _ _ (fun _ => ⟨k1, k2, k3⟩) ?_
  clear hK K
  refine NoPanic.normal ?_
  go_wp2
  have hpk := pick_le keepI d.waits.length
  obtain ⟨kp, hkp⟩ : ∃ kp, kp = pick keepI d.waits.length := ⟨_, rfl⟩
  rw [← hkp] at hpk ⊢
  have HKP := Lib.hid hkp; clear hkp
  clear c0 c1 c2 c3 c4 cf hg2 hc0
  have hwl := h.wrs.len
  have HW := Lib.hid h; clear h
  go_step3
  go_wp2
  clear k1 k2 k3
  go_loopw [21] (fun i wr => ∃ k : Nat, k ≤ d.waits.length ∧ k ≤ kp ∧ i = .int .i64 k ∧ J (upto (KW.of d.waits fs kp torn) k) wr ∧ Kp M w0 wr)
    (fun i _ => d.waits.length - (intOf i).toNat)
  case atStart => exact ⟨0, Nat.zero_le _, Nat.zero_le _, rfl, hJ _ _ _ none h0 ⟨rfl, rfl, rfl, Nat.le_refl _, fun _ _ _ => rfl⟩ (fun r e => by cases e), ⟨hW.os, hW.tape, hW.output, hW.size, fun k hk _ => hW.block k hk⟩⟩
  case round =>
    obtain ⟨k, hk, hkk, rfl, hJs, hnx⟩ := hrel
    by_cases hlt : k < d.waits.length
    · obtain ⟨x, hx⟩ : ∃ x, d.waits[k]? = some x := ⟨_, List.getElem?_eq_getElem hlt⟩
      have hwg : ∃ g, WA = some ⟨g, 0, none⟩ ∧ ∃ cur, w0.heap[g]? = some (.cells cur 79 (0, 0)) := by
        rcases HW.out.waits.2 with ⟨e1, e2⟩ | ⟨g, cap, cur, e1, _, hg, _⟩
        · injection e1 with _ e3; omega
        · injection e1 with e3; exact ⟨g, e3, cur, hg⟩
      obtain ⟨g, rfl, cur, hgb⟩ := hwg
      have hgl : g < w0.heap.size := (Array.getElem?_eq_some_iff.1 hgb).1
      have hcs := HW.out.waits.cells (g := g) rfl
      obtain ⟨f1, f2⟩ := hfs k x hx
      have a1 := hcs _ _ f1
      have a2 := hcs _ _ f2
      rw [add_at] at a1 a2
      have q1 := hnx.cell a1 (hM g hgl (.inl (HW.out.fpw g rfl)))
      have q2 := hnx.cell a2 (hM g hgl (.inl (HW.out.fpw g rfl)))
      clear a1 a2
      have hlt' : (k : Int) < d.waits.length := by omega
      have q3 := cell_al (hnx.cell hc1 (hM gc hlgc (.inr (.inl rfl)))) (.cells #[.int .i64 (x.1 : Int), .slice (fs k).1 x.2.length (fs k).2] 79)
      clear hcs f1 f2 hgb
      have hxl : x.2.length ≤ 1048576 := by
        have := HW.out.fits x (List.mem_of_getElem? hx); have := HW.out.big; omega
      have hJa := hJ _ _ (wr.alloc (.cells #[.int .i64 (x.1 : Int), .slice (fs k).1 x.2.length (fs k).2] 79)) none hJs (World.grownBy_alloc _ _ _) (fun r e => by cases e)
      have hba : Kp M w0 (wr.alloc (.cells #[.int .i64 (x.1 : Int), .slice (fs k).1 x.2.length (fs k).2] 79)) := hnx.alloc _
      have hY' := hY _ (KW.of d.waits fs kp torn k) _ (by rw [HKP.out]; exact hGood k hlt) hJa (by rw [upto_length]; omega)
      rw [← upto_succ] at hY'
      by_cases hkp : k = kp
      · have hb : ((k : Int) == (kp : Int)) = true := by simp [hkp]
        have hen : (KW.of d.waits fs kp torn k).encs = #[.int .i64 ((pick torn x.2.length : Nat) : Int), .agg #[.int .i64 (x.1 : Int), .slice (fs k).1 x.2.length (fs k).2]] := by simp [KW.of, KW.encs, hkp, List.getD, hkp ▸ hx]
        rw [hen] at hY'
        obtain ⟨fn, tmps, assign, body, hy, hR⟩ := hY'
        have HKK := Lib.hid hkp
        clear hkp hen
        refine (wpIn_wide (n := n)).1 ?_
        gi_wp2_with (refine ⟨trivial, fun h => (by cases h), ?_⟩; gi_at_call 55; refine (callsIn_wide.2 (among_any _ torn x.2.length (by omega))).mono ?_; rintro e w' ⟨rfl, rfl⟩)
        refine ⟨fun h => (by cases h), ?_⟩
        refine hR.mono ?_
        rintro e W3 (⟨rfl, hJ3, hk3⟩ | ⟨rfl, hJx3⟩)
        · gi_wp2
          first | rw [Exit.noGoto_normal] | simp only [Exit.noGoto]
          go_end0
          refine ⟨⟨_, rfl⟩, .inl ?_⟩
          rw [← HKP.out, Nat.min_eq_left (by have := HKK.out; omega), ← HKK.out]
          rw [← HKK.out] at hJ3
          first | exact hJ3 | exact ⟨_, rfl, hJ3⟩
        · gi_wp2
          first | rw [Exit.noGoto_normal] | simp only [Exit.noGoto]
          go_end0
          exact ⟨⟨_, rfl⟩, .inr ⟨_, trivial, hJx3⟩⟩
      · have hb : ((k : Int) == (kp : Int)) = false := by simp; omega
        have hen : (KW.of d.waits fs kp torn k).encs = #[.int .i64 (x.2.length : Int), .agg #[.int .i64 (x.1 : Int), .slice (fs k).1 x.2.length (fs k).2]] := by simp [KW.of, KW.encs, hkp, List.getD, hx]
        rw [hen] at hY'
        obtain ⟨fn, tmps, assign, body, hy, hR⟩ := hY'
        have HKK := Lib.hid hkp
        clear hkp hen
        refine (wpIn_wide (n := n)).1 ?_
        gi_wp2
        refine ⟨fun h => (by cases h), ?_⟩
        refine hR.mono ?_
        rintro e W3 (⟨rfl, hJ3, hk3⟩ | ⟨rfl, hJx3⟩)
        · gi_wp2
          exact ⟨⟨k + 1, hlt, by have := HKK.out; omega, by simp, hJ3, hba.trans hk3 (fun _ _ h => h)⟩, by simp [intOf]; omega⟩
        · gi_wp2
          first | rw [Exit.noGoto_normal] | simp only [Exit.noGoto]
          go_end0
          exact ⟨⟨_, rfl⟩, .inr ⟨_, trivial, hJx3⟩⟩
    · have hlt' : ¬ (k : Int) < d.waits.length := by omega
      have hkl : k = d.waits.length := by omega
      go_wp2
      try rw [Exit.noGoto_normal]
      go_end0
      refine ⟨⟨_, rfl⟩, .inl ?_⟩
      rw [← HKP.out, Nat.min_eq_right (by omega), ← hkl]
      exact hJs

theorem kept_stops (n p g2 gc : Nat) {fp ok : Nat → Prop} {d : Dk} {nb nc : Nat} {LA : Option Addr} {lc : Nat} {WA : Option Addr} {wc : Nat} {wcs : List Value} (keepI torn : Int) (w0 : World) (h : DiskAt w0 fp ok p d nb nc LA lc WA wc wcs) (fs : Nat → Option Addr × Nat)
    (hfs : ∀ i x, d.waits[i]? = some x → wcs[i * 2]? = some (.int .i64 (x.1 : Int)) ∧ wcs[i * 2 + 1]? = some (.slice (fs i).1 x.2.length (fs i).2)) (hw : d.waits.length ≤ 1048576)
    (hg2 : w0.cell? ⟨g2, 0, none⟩ = some (.pointer (some ⟨p, 0, none⟩))) (hc0 : w0.cell? ⟨gc, 0, none⟩ = some (.int .i64 keepI)) (hc1 : w0.cell? ⟨gc, 1, none⟩ = some (.int .i64 torn))
    (M : Nat → Prop) (hM : ∀ k, k < w0.heap.size → (fp k ∨ k = gc ∨ k = g2) → ¬ M k) (Good : KW → Prop) (hGood : ∀ i, i < d.waits.length → Good (KW.of d.waits fs (pick keepI d.waits.length) torn i)) :
    SeqStopsK Fence.wide n Try.prog 54 #[.pointer (some ⟨gc, 0, none⟩), .pointer (some ⟨g2, 0, none⟩)] (fun x : {x : KW // Good x} => x.1.encs) (Kp M)
      (fun ys => ys.map (·.1) = upto (KW.of d.waits fs (pick keepI d.waits.length) torn) (min (pick keepI d.waits.length + 1) d.waits.length)) (fun _ => True) (d.waits.length + 1) w0 := fun l J Jx W hW hJ hJx hY h0 => by
  refine (kept1_in n l p g2 gc keepI torn w0 h fs hfs hw hg2 hc0 hc1 M hM Good hGood (fun pre W => ∃ pre', pre'.map (·.1) = pre ∧ J pre' W) (fun pre W => ∃ pre', pre'.map (·.1) = pre ∧ Jx pre' W) W ?_ ?_ hW ⟨[], rfl, h0⟩).mono ?_
  · rintro s A B row ⟨s', e, hs⟩ hg hr
    exact ⟨s', e, hJ _ _ _ _ hs hg hr⟩
  · rintro pre x W1 hx ⟨pre', rfl, hp⟩ hlt
    refine (hY pre' ⟨x, hx⟩ W1 hp (by simpa using hlt)).mono ?_
    rintro e W' (⟨rfl, h1, h2⟩ | ⟨rfl, h1⟩)
    · exact .inl ⟨rfl, ⟨_, by simp, h1⟩, h2⟩
    · exact .inr ⟨rfl, ⟨_, by simp, h1⟩⟩
  · rintro e W' ⟨hv, (⟨ys, rfl, ys', e1, h1⟩ | ⟨pre, _, pre', e1, h1⟩)⟩
    · exact ⟨hv, .inl ⟨ys', e1, h1⟩⟩
    · exact ⟨hv, .inr ⟨pre', trivial, h1⟩⟩

theorem kept_any (w : World) (a' : Option Addr) (a c : Value) (ha : a.oneCell' = true) (hc : c.oneCell' = true) : Calls Try.prog 43 #[.pointer a', .agg #[a, c]] w fun e w' =>
    e = .returned (.func (.func 54) #[] #[.pointer (some ⟨w.heap.size + 1, 0, none⟩), .pointer (some ⟨w.heap.size, 0, none⟩)]) ∧ w' = (w.alloc (.cells #[.pointer a'] 24)).alloc (.cells #[a, c] 36) := by
  have hmf : ∀ (fn : Fn) (first cap : Array Value) (w : World), (Instr.makeFunc fn first cap).run Try.prog w = .ok (.func fn first cap) w := fun _ _ _ _ => rfl
  go_enter Try.func43, Try.ntmps43
  go_wp2
  go_ret
  exact ⟨rfl, rfl⟩
end Go.Proofs.Ytmajfiljajbipaa
