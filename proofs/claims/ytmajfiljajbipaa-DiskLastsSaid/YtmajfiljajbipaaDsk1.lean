/- The disk's functions: each call, and what it makes of the disk. -/
import Derived.Test.YtmajfiljajbipaaDskW
import Derived.Test.YtmajfiljajbipaaReg
import Derived.BigQuiet
import Derived.Deep.QuietTactic
import Derived.RegionTactic
import Derived.StillTailTactics
import Derived.Deep.RegionHeld3
import Derived.Deep.RegionLaw
import Derived.WalkLawsBesides
set_option linter.unusedVariables false
namespace Go.Proofs.Ytmajfiljajbipaa
open Go.RowKit

theorem none_nil (w : World) : Calls Try.prog 36 #[.pointer none] w fun e w' => e = .returned (.bool true) ∧ w = w' := by
  go_enter Try.func36, Try.ntmps36
  go_wp2
  go_ret
  exact ⟨rfl, rfl⟩
theorem none_cell (w : World) (p : Nat) (a : Option Addr) (n c : Nat) (hn : 0 < n) (h0 : w.cell? ⟨p, 0, none⟩ = some (.slice a n c)) :
    Calls Try.prog 36 #[.pointer (some ⟨p,0,none⟩)] w fun e w' => e = .returned (.bool false) ∧ w = w' := by
  have hn : ((n:Int) == 0) = false := by simp; omega
  go_enter Try.func36, Try.ntmps36
  go_wp2
  go_ret
  exact ⟨rfl, rfl⟩
theorem there_cell (w : World) (p : Nat) (a : Option Addr) (n c : Nat) (x k : Int) (h0 : w.cell? ⟨p, 0, none⟩ = some (.slice a n c)) (hn : n ≤ 1048576) :
    Calls Try.prog 37 #[.pointer (some ⟨p,0,none⟩), .int .i64 x, .int .i64 k] w fun e w' => e = .returned (.bool (decide (0 ≤ x ∧ x ≤ n ∧ k ≤ n - x))) ∧ w = w' := by
  go_enter Try.func37, Try.ntmps37
  go_wp2
  all_goals go_ret
  all_goals
    refine ⟨congrArg Ending.returned (congrArg Value.bool ?_), rfl⟩
    simp_all
  all_goals (intros; omega)

section
variable (w : World) (p : Nat) (a : Option Addr) (n c : Nat)
/-- The disk's own facts, in the form that a walk takes. -/
theorem DiskAt.cells {w : World} {fp ok : Nat → Prop} {p : Nat} {d : Dk} {nb nc : Nat} {LA : Option Addr} {lc : Nat} {WA : Option Addr} {wc : Nat} {wcs : List Value} (h : DiskAt w fp ok p d nb nc LA lc WA wc wcs) :
    w.cell? ⟨p, 0, none⟩ = some (.slice (some ⟨nb, 0, none⟩) d.now.length nc) ∧ w.cell? ⟨p, 1, none⟩ = some (.slice LA d.lasts.length lc) ∧ w.cell? ⟨p, 2, none⟩ = some (.slice WA d.waits.length wc) ∧
    w.cell? ⟨p, 3, none⟩ = some (.int .i64 d.steps) ∧ w.cell? ⟨p, 4, none⟩ = some (.int .i64 d.armed) ∧ ∀ j, w.frozen? ⟨p, j, none⟩ = false := by
  have hb := h.blk
  refine ⟨?_, ?_, ?_, ?_, ?_, fun j => frozen_of_row w p j _ _ hb⟩ <;> rw [cell_of_row w p _ _ _ _ hb] <;> rfl
end

/-- 'onto': as many of its bytes as are asked for, laid over others. -/
theorem onto_any {ok : Nat → Prop} (w : World) (at_ m n nb N nc : Nat) (A : Option Addr) (c : Nat) (l b : List UInt8) (hb : By w ok A m c b) (hl : w.ownsRow 0 5 1 (.slice (some ⟨nb, 0, none⟩) N nc) N (bv l))
    (hn : n ≤ m) (hN : at_ + n ≤ N) (hbig : N ≤ 1048576) :
    Calls Try.prog 41 #[.agg #[.int .i64 (at_ : Int), .slice A m c], .slice (some ⟨nb, 0, none⟩) N nc, .int .i64 (n : Int)] w fun e w' => e = .returned (.tuple #[]) ∧
      w'.ownsRow 0 5 1 (.slice (some ⟨nb, 0, none⟩) N nc) N (bv (lay l at_ (b.take n))) ∧ Kp (· = nb) w w' := by
  obtain ⟨A1, hcut1, hA1, _⟩ := cut_l (P := Try.prog) 38 5 1 Try.underlying38 size_u8 .i64 (some ⟨nb, 0, none⟩) N nc at_ (by omega)
  have hmc : m ≤ c := hb.2.1
  obtain ⟨hcut2, hS2⟩ := cut_h (P := Try.prog) 38 5 1 Try.underlying38 size_u8 .i64 A m c n (by omega)
  have HA1 := Lib.hid hA1; clear hA1
  go_enter Try.func41, Try.ntmps41
  go_wp2
  refine still_tail 8 (by kernel_rfl) (by kernel_rfl) ?_
  simp only [List.take_succ_cons, List.take_zero, List.drop_succ_cons, List.drop_zero]
  repeat still_step
  refine wpStill_nil ?_
  have hb' : Sl (w.alloc (.cells #[.int .i64 (at_ : Int), .slice A m c] 79)).drew ok 1 A n c ((bv b).take (n * 1)) := hS2 _ _ _ hn (Sl.move hb (Mv.alloc ok w _).drew)
  have hl' : (w.alloc (.cells #[.int .i64 (at_ : Int), .slice A m c] 79)).drew.ownsRow 0 5 1 (.slice (some ⟨nb, 0, none⟩) N nc) N (bv l) := hl.alloc _
  refine wpList_copy_in rfl (.tmp 9) (.tmp 13) _ _ rfl 5 Try.underlying38 size_u8 0 nb N nc at_ (bv l) hl' A1 (N - at_) (nc - at_) rfl (fun h => ?_) (by omega) A n c _ rfl hb' (fun u hu => bv_one b u (List.mem_of_mem_take hu)) n (by omega) ?_
  · have hle : N ≤ nc := (Sl.of_own (ok := Any) hl (fun _ _ _ => trivial)).elim (fun A h => h.elim fun c h => by injection h.1 with _ _ h1; rw [h1]; exact h.2.2.1)
    rw [HA1.out (by omega)]
    simp [Addr.add]
    omega
  · intro w1 hown1 hk1
    go_wp2
    go_end0
    refine ⟨rfl, ?_, ?_⟩
    · have e : splice (bv l) at_ (((bv b).take (n * 1)).take n) = bv (lay l at_ (b.take n)) := by
        rw [← bv_lay]; simp [bv, List.map_take, List.take_take]
      rw [← e]; exact hown1
    · exact (((Kp.refl _ w).alloc _).drew).trans hk1 (fun _ _ h => h)

theorem info_wr : (Try.prog.info? 79).map (fun i => (i.zero, i.size, i.bytes)) = some (some (.agg #[.int .i64 0, .slice none 0 0]), 2, 32) := by kernel_rfl
theorem size_wr : (Try.prog.info? 79).map (·.size) = some 2 := by kernel_rfl

set_option maxHeartbeats 400000 in
/-- What a step of Write does. -/
theorem write1 {fp ok : Nat → Prop} (w : World) (p g g2 at_ : Nat) (d : Dk) (b : List UInt8) (A : Option Addr) (c : Nat) (h : Disk w fp ok p d) (hg : w.heap[g]? = some (.cells #[.int .i64 (at_ : Int), .slice A b.length c] 79 (0, 0)))
    (hg2 : w.heap[g2]? = some (.cells #[.pointer (some ⟨p, 0, none⟩)] 24 (0, 0))) (hb : By w ok A b.length c b) (hfit : at_ + b.length ≤ d.now.length) (hw : d.waits.length ≤ 1048576) (hfg : ¬ fp g) :
    Calls Try.prog 40 #[.pointer (some ⟨g, 0, none⟩), .pointer (some ⟨g2, 0, none⟩)] w fun e w' => e = .returned (.tuple #[]) ∧ ∃ fp', Disk w' fp' (fun k => (ok k ∨ w.heap.size ≤ k) ∧ ¬ fp' k) p { d with now := lay d.now at_ b, waits := d.waits ++ [(at_, b)] } ∧
      Kp fp w w' ∧ ∀ k, fp' k → fp k ∨ w.heap.size ≤ k := by
  obtain ⟨nb, nc, LA, lc, WA, wc, wcs, h⟩ := h
  obtain ⟨c0, c1, c2, c3, c4, cf⟩ := h.cells
  have cg0 : w.cell? ⟨g, 0, none⟩ = some (.int .i64 (at_ : Int)) := by rw [cell_of_row w g _ _ _ _ hg]; rfl
  have cg1 : w.cell? ⟨g, 1, none⟩ = some (.slice A b.length c) := by rw [cell_of_row w g _ _ _ _ hg]; rfl
  have cg2 : w.cell? ⟨g2, 0, none⟩ = some (.pointer (some ⟨p, 0, none⟩)) := by rw [cell_of_row w g2 _ _ _ _ hg2]; rfl
  go_enter Try.func40, Try.ntmps40
  go_wp2
  refine still_tail 9 (by kernel_rfl) (by kernel_rfl) ?_
  simp only [List.take_succ_cons, List.take_zero, List.drop_succ_cons, List.drop_zero]
  repeat still_step
  refine wpStill_nil ?_
  go_wp2_with (go_at_call 41; refine (onto_any (ok := ok) w.drew at_ b.length b.length nb d.now.length nc A c d.now b hb h.now (Nat.le_refl _) hfit h.big).mono ?_; rintro e w1 ⟨rfl, hown1, hk1⟩)
  obtain ⟨cur, hnb⟩ := own_blk h.now (k := nb) rfl
  have npn : p ≠ nb := blk_ne h.blk hnb (by decide)
  have ngn : g ≠ nb := blk_ne hg hnb (by decide)
  have ng2n : g2 ≠ nb := blk_ne hg2 hnb (by decide)
  have hkeep : ∀ k, k < w.heap.size → k ≠ nb → w1.heap[k]? = w.heap[k]? := fun k hk hn => hk1.block k hk hn
  have hp1 := (hkeep p (h.fps p h.fpp) npn).trans h.blk
  have hg1 := (hkeep g (Array.getElem?_eq_some_iff.1 hg).1 ngn).trans hg
  have hgg1 := (hkeep g2 (Array.getElem?_eq_some_iff.1 hg2).1 ng2n).trans hg2
  have hwo1 : w1.ownsRow 0 79 2 (.slice WA d.waits.length wc) d.waits.length wcs := own_move h.waits (fun k hk hlt => hkeep k hlt (by rintro rfl; obtain ⟨cs', h'⟩ := own_blk h.waits hk; exact blk_ne h' hnb (by decide) rfl))
  have d0 : w1.cell? ⟨g, 0, none⟩ = some (.int .i64 (at_ : Int)) := by rw [cell_of_row w1 g _ _ _ _ hg1]; rfl
  have d1 : w1.cell? ⟨g, 1, none⟩ = some (.slice A b.length c) := by rw [cell_of_row w1 g _ _ _ _ hg1]; rfl
  have d2 : w1.cell? ⟨g2, 0, none⟩ = some (.pointer (some ⟨p, 0, none⟩)) := by rw [cell_of_row w1 g2 _ _ _ _ hgg1]; rfl
  have d3 : w1.cell? ⟨p, 2, none⟩ = some (.slice WA d.waits.length wc) := by rw [cell_of_row w1 p _ _ _ _ hp1]; rfl
  have d4 : w1.frozen? ⟨p, 2, none⟩ = false := frozen_of_row w1 p 2 _ _ hp1
  clear cg0 cg1 cg2 c0 c1 c2 c3 c4 cf
  have nr : ∀ k cs t fr, w1.heap[k]? = some (.cells cs t fr) → t ≠ 79 → some k ≠ (Value.slice WA d.waits.length wc).ownBlock := fun k cs t fr hk ht e => by
    obtain ⟨cs', h'⟩ := own_blk hwo1 e.symm; exact blk_ne hk h' ht rfl
  have n1 := nr _ _ _ _ hgg1 (by decide)
  have n2 := nr _ _ _ _ hp1 (by decide)
  have n3 : some g ≠ (Value.slice WA d.waits.length wc).ownBlock := fun e => hfg (h.fpw g e.symm)
  have NR := Lib.hid nr; clear nr
  have hplt : p < w1.heap.size := (Array.getElem?_eq_some_iff.1 hp1).1
  have hplt2 : p < (w1.alloc (.cells #[.int .i64 (at_ : Int), .slice A b.length c] 79)).heap.size := by simp; omega
  have hpX : (w1.alloc (.cells #[.int .i64 (at_ : Int), .slice A b.length c] 79)).drew.heap[p]? = _ := (Below.heap_alloc w1 _ p hplt).trans hp1
  have d0' := cell_al_drew d0 (.cells #[.int .i64 (at_ : Int), .slice A b.length c] 79)
  have d1' := cell_al_drew d1 (.cells #[.int .i64 (at_ : Int), .slice A b.length c] 79)
  have d2' := cell_al_drew d2 (.cells #[.int .i64 (at_ : Int), .slice A b.length c] 79)
  have d3' := cell_al_drew d3 (.cells #[.int .i64 (at_ : Int), .slice A b.length c] 79)
  refine wp_region_noPanic ?_
  refine mix_tail 6 8 (fun w' => w'.cell? ⟨g2, 0, none⟩ = some (.pointer (some ⟨p, 0, none⟩)) ∧ w'.cell? ⟨p, 2, none⟩ = some (.slice WA d.waits.length wc) ∧ w'.cell? ⟨g, 0, none⟩ = some (.int .i64 (at_ : Int)) ∧ w'.cell? ⟨g, 1, none⟩ = some (.slice A b.length c)) (by kernel_rfl) (by kernel_rfl) (fun _ _ _ _ _ h => h) ⟨d2, d3, d0, d1⟩ ?_
  simp only [List.take_succ_cons, List.take_zero, List.drop_succ_cons, List.drop_zero]
  refine rd_step (.pointer (some ⟨p, 0, none⟩)) rfl (fun W ⟨h1, h2, h3, h4⟩ => by simp [go_sem, h1]) ?_
  refine rd_step (.pointer (some ⟨p, 0, none⟩)) rfl (fun W ⟨h1, h2, h3, h4⟩ => by simp [go_sem, h1]) ?_
  refine rd_step (.pointer (some ⟨p, 0, none⟩)) rfl (fun W ⟨h1, h2, h3, h4⟩ => by simp [go_sem]) ?_
  refine rd_step (.pointer (some ⟨p, 2, none⟩)) rfl (fun W ⟨h1, h2, h3, h4⟩ => by simp [go_sem]) ?_
  refine rd_step (.slice WA d.waits.length wc) rfl (fun W ⟨h1, h2, h3, h4⟩ => by simp [go_sem, h2]) ?_
  refine rd_step (.agg #[.int .i64 (at_ : Int), .slice A b.length c]) rfl (fun W ⟨h1, h2, h3, h4⟩ => by simp [go_sem, h3, h4]) ?_
  refine rd_nil ?_
  refine tail_step rfl (fun K hK => ?_)
  go_simp
  refine hK _ _ (fun _ => ⟨d2', d3', d0', d1'⟩) ?_
  clear hK K
  refine tail_step rfl (fun K hK => ?_)
  refine wp_append_sl ((w1.alloc (.cells #[.int .i64 (at_ : Int), .slice A b.length c] 79)).drew) (.tmp 16) (.tmp 18) 73 rfl 0 79 (.agg #[.int .i64 0, .slice none 0 0]) 2 32 Try.underlying73 info_wr rfl (by omega) (by omega) (.slice WA d.waits.length wc) d.waits.length wcs rfl (hwo1.alloc _).drew (some ⟨w1.heap.size, 0, none⟩) 1 1 [.int .i64 (at_ : Int), .slice A b.length c] rfl (Sl.lit w1 _ 2 #[.int .i64 (at_ : Int), .slice A b.length c] 1 (by simp [maxLen]) rfl).drew (by intro u hu; simp at hu; rcases hu with rfl | rfl <;> rfl) (by omega) (by omega) ?_
  intro v2 w2 hown2 hg2' hat2
  obtain ⟨A2, c2, rfl⟩ := own_shape hown2
  refine hK _ _ (fun _ => ⟨hg2'.cell d2' n1, hg2'.cell d3' n2, hg2'.cell d0' n3, hg2'.cell d1' n3⟩) ?_
  clear hK K
  have hp2 := (hg2'.block p hplt2 n2).trans hpX
  have f2 := frozen_of_row w2 p 2 _ _ hp2
  have e2 : w2.cell? ⟨p, 2, none⟩ = some (.slice WA d.waits.length wc) := hg2'.cell d3' n2
  refine tail_late (k := 0) (by decide) ?_
  go_wp2
  refine NoPanic.normal ?_
  go_wp2
  go_end0
  exact ⟨rfl, write1_end h hb hfit hown1 ⟨hk1.os, hk1.tape, hk1.output, hk1.size, hk1.block⟩ hg2' hown2 hat2⟩
end Go.Proofs.Ytmajfiljajbipaa
