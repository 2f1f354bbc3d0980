/- The disk's crash: the function itself. -/
import Derived.Test.YtmajfiljajbipaaDsk5
set_option linter.unusedVariables false
namespace Go.Proofs.Ytmajfiljajbipaa
open Go.RowKit Go.Shelf
attribute [local go_sem] Oper.semAt_some

def layAll (l : List UInt8) (xs : List (Nat × List UInt8)) : List UInt8 := xs.foldl (fun l x => lay l x.1 x.2) l
theorem layAll_snoc (l : List UInt8) (xs : List (Nat × List UInt8)) (x : Nat × List UInt8) : layAll l (xs ++ [x]) = lay (layAll l xs) x.1 x.2 := by simp [layAll]
def tornOf (ws : List (Nat × List UInt8)) (keep torn : Int) : List (Nat × List UInt8) :=
  upto (fun i => ((ws.getD i (0, [])).1, (ws.getD i (0, [])).2.take (if i = pick keep ws.length then pick torn (ws.getD i (0, [])).2.length else (ws.getD i (0, [])).2.length))) (min (pick keep ws.length + 1) ws.length)
def KW.wr (x : KW) : Nat × List UInt8 := (x.at_, x.b.take x.n)
theorem tornOf_eq (ws : List (Nat × List UInt8)) (fs : Nat → Option Addr × Nat) (keep torn : Int) : (upto (KW.of ws fs (pick keep ws.length) torn) (min (pick keep ws.length + 1) ws.length)).map KW.wr = tornOf ws keep torn := by
  unfold tornOf upto
  rw [List.map_map]
  rfl
def Dk.crash (d : Dk) (keep torn : Int) : Dk := Dk.of (layAll d.lasts (tornOf d.waits keep torn))

def KGood (w : World) (ok : Nat → Prop) (N : Nat) (x : KW) : Prop := x.n ≤ x.b.length ∧ x.at_ + x.b.length ≤ N ∧ By w ok x.A x.b.length x.c x.b

theorem DiskAt.slices {w : World} {fp ok : Nat → Prop} {p : Nat} {d : Dk} {nb nc : Nat} {LA : Option Addr} {lc : Nat} {WA : Option Addr} {wc : Nat} {wcs : List Value} (h : DiskAt w fp ok p d nb nc LA lc WA wc wcs) :
    ∃ fs : Nat → Option Addr × Nat, (∀ i x, d.waits[i]? = some x → wcs[i * 2]? = some (.int .i64 (x.1 : Int)) ∧ wcs[i * 2 + 1]? = some (.slice (fs i).1 x.2.length (fs i).2)) ∧
      ∀ i x, d.waits[i]? = some x → By w ok (fs i).1 x.2.length (fs i).2 x.2 := by
  have hex : ∀ i, ∃ f : Option Addr × Nat, ∀ x, d.waits[i]? = some x → (wcs[i * 2]? = some (.int .i64 (x.1 : Int)) ∧ wcs[i * 2 + 1]? = some (.slice f.1 x.2.length f.2)) ∧ By w ok f.1 x.2.length f.2 x.2 := by
    intro i
    by_cases hi : i < d.waits.length
    · obtain ⟨c, ⟨A, cc, e, hby⟩, hc⟩ := h.wrs.cell hi
      refine ⟨(A, cc), fun x hx => ?_⟩
      rw [List.getElem?_eq_getElem hi] at hx
      injection hx with hx
      subst hx
      refine ⟨⟨?_, ?_⟩, hby⟩
      · have := hc 0 (by omega); rw [e] at this; simpa using this
      · have := hc 1 (by omega); rw [e] at this; simpa using this
    · exact ⟨(none, 0), fun x hx => by rw [List.getElem?_eq_none (by omega)] at hx; cases hx⟩
  exact ⟨fun i => Classical.choose (hex i), fun i x hx => (Classical.choose_spec (hex i) x hx).1, fun i x hx => (Classical.choose_spec (hex i) x hx).2⟩

theorem own_some {w : World} {base sz n c : Nat} {e : TypeId} {A : Option Addr} {m : Nat} {xs : List Value} (h : w.ownsRow base e sz (.slice A n c) m xs) (hm : 0 < m) :
    ∃ g, A = some ⟨g, 0, none⟩ ∧ base ≤ g ∧ ∃ cur, w.heap[g]? = some (.cells cur e (0, 0)) := by
  rcases h.2 with ⟨e1, e2⟩ | ⟨g, cap, cur, e1, hb, hg, _⟩
  · omega
  · injection e1 with e3; exact ⟨g, e3, hb, cur, hg⟩

set_option maxHeartbeats 1000000 in
theorem crash_in (n : Nat) (hn : 3 ≤ n) {w : World} {fp ok : Nat → Prop} {p : Nat} {d : Dk} (h : Disk w fp ok p d) (keep torn : Int) (hw : d.waits.length ≤ 1048576) :
    CallsIn Fence.wide n Try.prog 22 #[.pointer (some ⟨p, 0, none⟩), .agg #[.int .i64 keep, .int .i64 torn]] w (Made w (d.crash keep torn)) := by
  have h1 : 1 ≤ n := by omega
  have hb : Below w.heap.size w (w.alloc (.cells #[.int .i64 keep, .int .i64 torn] 36)) := (Below.refl _ _).alloc (Nat.le_refl _) _
  have hN := none_disk (h.below hb)
  obtain ⟨nb0, nc, LA, lc, WA, wc, wcs, h⟩ := h
  have hd1 := h.below hb
  obtain ⟨c0, c1, c2, c3, c4, cf⟩ := hd1.cells
  have hsz : d.lasts.length ≤ 1048576 := by have := h.same; have := h.big; omega
  refine callsIn_of_wp_marks Try.func22 rfl trivial ?_ rfl
  simp only [Try.ntmps22, List.size_toArray, List.length_cons, List.length_nil, Nat.reduceAdd, Nat.reduceSub, Array.replicate_succ, Array.replicate_zero, List.push_toArray, List.append_toArray, List.nil_append, List.cons_append]
  have hpos : 0 < d.lasts.length := by have := h.same; have := h.pos; omega
  have Q0 : ∀ (_ : Unit), (w.alloc (.cells #[.int .i64 keep, .int .i64 torn] 36)).cell? ⟨w.heap.size, 0, none⟩ = some (.int .i64 keep) := fun _ => by simp [go_sem]
  have Q1 : ∀ (_ : Unit), (w.alloc (.cells #[.int .i64 keep, .int .i64 torn] 36)).cell? ⟨w.heap.size, 1, none⟩ = some (.int .i64 torn) := fun _ => by simp [go_sem]
  gi_wp2_with (first | (refine ⟨trivial, ?_⟩; gi_at_call 36; refine (callsIn_wide.2 hN).mono ?_; rintro e w' ⟨rfl, rfl⟩) | (refine ⟨trivial, ?_⟩; gi_at_call 38; refine (callsIn_wide.2 (cloneB _ LA _ lc d.lasts hd1.lasts (by omega))).mono ?_; rintro e w1 ⟨A', c', rfl, hown, hb1⟩; obtain ⟨nb, rfl, hnb, cur, hgb⟩ := own_some hown hpos; have q0 := cell_al ((hb1.cell (p := ⟨w.heap.size, 0, none⟩) (by simp)).trans (Q0 ())) (.cells #[.slice (some ⟨nb, 0, none⟩) d.lasts.length c'] 38); have q1 := cell_al ((hb1.cell (p := ⟨w.heap.size, 1, none⟩) (by simp)).trans (Q1 ())) (.cells #[.slice (some ⟨nb, 0, none⟩) d.lasts.length c'] 38)) | (refine ⟨trivial, ?_⟩; gi_at_call 43; refine (callsIn_wide.2 (kept_any _ _ _ _ rfl rfl)).mono ?_; rintro e w' ⟨rfl, rfl⟩))
  obtain ⟨W0, hW0⟩ : ∃ W0, (((w1.alloc (.cells #[.slice (some ⟨nb, 0, none⟩) d.lasts.length c'] 38)).alloc (.cells #[.pointer (some ⟨p, 0, none⟩)] 24)).alloc (.cells #[.int .i64 keep, .int .i64 torn] 36)) = W0 := ⟨_, rfl⟩
  have hs1 : w.heap.size + 1 ≤ w1.heap.size := by have := hb1.size; simpa using this
  have hn1 : nb < w1.heap.size := (Array.getElem?_eq_some_iff.1 hgb).1
  have hnbw : w.heap.size + 1 ≤ nb := by simpa using hnb
  have hb01 : Below w.heap.size w w1 := hb.trans (hb1.mono (by simp))
  have hb10 : Below w1.heap.size w1 W0 := by rw [← hW0]; exact (((Below.refl _ w1).alloc (Nat.le_refl _) _).alloc (by simp) _).alloc (by simp; omega) _
  have hb00 : Below w.heap.size w W0 := hb01.trans (hb10.mono (by omega))
  have hsz0 : W0.heap.size = w1.heap.size + 3 := by rw [← hW0]; simp
  have bB : Boxed W0 w1.heap.size 38 (.slice (some ⟨nb, 0, none⟩) d.lasts.length c') := by rw [← hW0]; exact ((Boxed.new w1 _ _).alloc _).alloc _
  have k2 : W0.cell? ⟨w1.heap.size + 1, 0, none⟩ = some (.pointer (some ⟨p, 0, none⟩)) := by rw [← hW0]; simp [go_sem]
  have k3 : W0.cell? ⟨w1.heap.size + 1 + 1, 0, none⟩ = some (.int .i64 keep) := by rw [← hW0]; simp [go_sem]
  have k4 : W0.cell? ⟨w1.heap.size + 1 + 1, 1, none⟩ = some (.int .i64 torn) := by rw [← hW0]; simp [go_sem]
  have hrow : W0.ownsRow 0 5 1 (.slice (some ⟨nb, 0, none⟩) d.lasts.length c') d.lasts.length (bv d.lasts) := own_base (own_move hown (fun k _ hlt => hb10.block k hlt)) (Nat.zero_le _)
  rw [hW0]
  have HW0 := Lib.hid hW0; clear hW0 q0 q1 Q0 Q1 c0 c1 c2 c3 c4 cf hN
  have hd0 := h.below hb00
  obtain ⟨fs, hfs, hby⟩ := h.slices
  refine wpIn_rangeFunc_ownH rfl h1 (gf := 54) (lb := #[.pointer (some ⟨w1.heap.size + 1 + 1, 0, none⟩), .pointer (some ⟨w1.heap.size + 1, 0, none⟩)]) rfl trivial (enters_of Try.func54 (by kernel_rfl) rfl)
    (kept_stops (n - 1) p (w1.heap.size + 1) (w1.heap.size + 1 + 1) keep torn W0 hd0 fs hfs hw k2 k3 k4 (fun k => k = nb ∨ W0.heap.size ≤ k) ?hM (KGood w ok d.lasts.length) ?hG) (fun h k => h.trans k (fun _ _ h => h)) ?hKb (Below.refl _ _) (fun _ => rfl)
    (fun pre W => (Boxed W w1.heap.size 38 (.slice (some ⟨nb, 0, none⟩) d.lasts.length c') ∧ W.ownsRow 0 5 1 (.slice (some ⟨nb, 0, none⟩) d.lasts.length c') d.lasts.length (bv (layAll d.lasts (pre.map (fun x => x.1.wr))))) ∧ Below w.heap.size w W)
    (fun _ _ _ => False)
    (OwnFrom.and (Own.from ?own _) (ownFrom_below (Nat.le_refl _) (by omega)))
    (fun _ _ _ _ _ hs _ _ => hs)
    ⟨⟨bB, hrow⟩, hb00⟩
    (fun x a' W => ∃ Bx, W.heap[Bx]? = some (.cells #[.int .i64 (x.1.at_ : Int), .slice x.1.A x.1.b.length x.1.c] 79 (0, 0)) ∧ a' = { tmps := #[.pointer (some ⟨p, 0, none⟩), .agg #[.int .i64 keep, .int .i64 torn], undef, .pointer (some ⟨w.heap.size, 0, none⟩), .pointer none, .int .i64 0, .pointer (some ⟨w1.heap.size, 0, none⟩), .int .i64 (x.1.n : Int), .pointer (some ⟨Bx, 0, none⟩), .pointer (some ⟨p, 0, none⟩), .bool false, .pointer (some ⟨p, 0, none⟩), .pointer (some ⟨p, 0, none⟩), .pointer (some ⟨p, 1, none⟩), .slice LA d.lasts.length lc, .slice (some ⟨nb, 0, none⟩) d.lasts.length c', .pointer (some ⟨p, 0, none⟩), .agg #[.int .i64 keep, .int .i64 torn], .func (.func 54) #[] #[.pointer (some ⟨w1.heap.size + 1 + 1, 0, none⟩), .pointer (some ⟨w1.heap.size + 1, 0, none⟩)], .int .i64 (x.1.n : Int), .agg #[.int .i64 (x.1.at_ : Int), .slice x.1.A x.1.b.length x.1.c], undef, undef, undef, undef, undef, undef, undef, undef], defers := [] })
    (fun x a' _ X Y row hs hg hr => by
      obtain ⟨Bx, h2, h3⟩ := hs
      exact ⟨Bx, (grownBy_keeps_cells hg (fun r e => (hr r e).2) h2 rfl).trans h2, h3⟩)
    ?assign ?body ?done ?stop
  case hM =>
    rintro k hk (hf | rfl | rfl) (h1 | h1)
    · have := h.fps k hf; omega
    · omega
    · omega
    · omega
    · omega
    · omega
  case hG =>
    intro i hi
    have hx := List.getElem?_eq_getElem hi
    have hm := h.fits _ (List.getElem_mem hi)
    have hsm := h.same
    refine ⟨?_, ?_, ?_⟩
    · simp only [KW.of]
      split
      · exact pick_le _ _
      · exact Nat.le_refl _
    · simp only [KW.of, List.getD, hx, Option.getD_some]; omega
    · have := hby i _ hx
      simpa [KW.of, List.getD, hx] using this
  case hKb =>
    intro W l o o' hl ho hc hk
    exact (Kp.refl _ W).grown (grownBy_putObj' W l o') (fun k e => by cases e; exact .inl (.inr hl))
  case own =>
    rintro s X Y row ⟨hv, hr⟩ hg hrow
    refine ⟨hv.kept hg (fun e' => ?_), hr.kept hg ?_⟩
    · obtain ⟨o, ho, hc⟩ := hrow _ e'.symm
      rw [show X.heap[w1.heap.size]? = _ from hv] at ho; cases ho; cases hc
    · refine .inr fun e' => ?_
      obtain ⟨o, ho, hc⟩ := hrow nb (by simpa [Value.ownBlock] using e'.symm)
      obtain ⟨cs, hcs⟩ := own_blk hr (k := nb) rfl
      rw [hcs] at ho; cases ho; cases hc
  case assign =>
    rintro l pre x W K ⟨⟨bB1, hr1⟩, hB1⟩ hK
    simp only [KW.encs]
    gi_wp2
    refine hK _ _ ((KeepsOthers.alloc _ _).from _) ((Kp.refl _ W).alloc _) ⟨⟨bB1.alloc _, hr1.alloc _⟩, hB1.alloc hB1.size _⟩ ⟨W.heap.size, heap_alloc_new _ _, rfl⟩
  case body =>
    rintro l pre x a' W hl ⟨r, hr⟩ ⟨⟨bB1, hr1⟩, hB1⟩ ⟨Bx, bX, rfl⟩ hlt
    have cB := bB1.cell
    have cx0 : W.cell? ⟨Bx, 0, none⟩ = some (.int .i64 (x.1.at_ : Int)) := by rw [cell_of_row W Bx _ _ _ _ bX]; rfl
    have cx1 : W.cell? ⟨Bx, 1, none⟩ = some (.slice x.1.A x.1.b.length x.1.c) := by rw [cell_of_row W Bx _ _ _ _ bX]; rfl
    have h1' : 1 ≤ n - 1 - 1 := by omega
    obtain ⟨g1, g2, g3⟩ := x.2
    have g4 : By W ok x.1.A x.1.b.length x.1.c x.1.b := Sl.move g3 (Mv.of_below hB1 _)
    gi_wp2_with (refine ⟨trivial, ?_⟩; gi_at_call 41; refine (CallsIn.inRound l (callsIn_wide.2 (onto_any (ok := ok) W x.1.at_ x.1.b.length x.1.n nb d.lasts.length c' x.1.A x.1.c _ x.1.b g4 hr1 g1 (by omega) hsz))).mono ?_; rintro e w2 ⟨rfl, hown2, hk2⟩)
    refine ⟨⟨hk2.size, fun k o hBk hk _ => (hk2.block k (Array.getElem?_eq_some_iff.1 hk).1 (by omega)).trans hk⟩, hk2.mono (fun k _ h => .inl h), ⟨?_, ?_⟩, ?_⟩
    · exact (hk2.block _ bB1.lt (by omega)).trans bB1
    · rw [List.map_append, List.map_singleton, layAll_snoc]; exact hown2
    · exact hB1.trans ⟨hk2.os, hk2.tape, hk2.output, hk2.size, fun k hk => hk2.block k (by have := hB1.size; omega) (by omega)⟩
  case done =>
    rintro D ys W hD hys ⟨⟨bB1, hr1⟩, hB1⟩ hK
    have cB := bB1.cell
    have hby2 : By W Any (some ⟨nb, 0, none⟩) d.lasts.length c' (layAll d.lasts (ys.map (fun x => x.1.wr))) := by
      obtain ⟨A2, c2, he, hs⟩ := Sl.of_own (ok := Any) hr1 (fun _ _ _ => trivial)
      injection he with he1 he2 he3
      subst he1; subst he3
      exact hs
    have hcr : Dk.of (layAll d.lasts (ys.map (fun x => x.1.wr))) = d.crash keep torn := by
      unfold Dk.crash
      rw [← tornOf_eq _ fs, ← hys, List.map_map]
      rfl
    rw [← hcr]
    have HC := Lib.hid hcr; clear hcr hys
    have hDl : D < W.heap.size := (Array.getElem?_eq_some_iff.1 hK).1
    gi_wp2_with (refine ⟨trivial, ?_⟩; gi_at_call 28; refine (callsIn_wide.2 (of_ok W _ _ c' _ hby2 hpos hsz)).mono ?_; rintro e w3 ⟨p3, fp3, rfl, hd3, hf3, hb3⟩; have hK3 := (hb3.block D hDl).trans hK)
    refine ⟨by simp, .inl ⟨_, _, rfl, run_takeDeferred hK3, ?_⟩⟩
    have hoth : ∀ k, k ≠ D → (w3.putObj D (Obj.deferred none)).heap[k]? = w3.heap[k]? := fun k hk => World.putObj_heap_other hk
    have hWw := hB1.size
    have hwD : w.heap.size ≤ D := by have := hb00.size; omega
    refine ⟨_, results_tmp2 rfl _ _ _, p3, fp3, rfl, ?_, fun k hk => Nat.le_trans hWw (hf3 k hk), ?_⟩
    · rw [← HC.out]
      refine Disk.mono (Disk.move hd3 ⟨by simp, fun k _ hk => hoth k ?_⟩) (fun k _ ho => ⟨Nat.le_trans hWw ho.1, ho.2⟩) (fun k hk => hk.2)
      rintro rfl
      rcases hk with hk | hk
      · have := hf3 _ hk; omega
      · have := hk.1; omega
    · exact (hB1.trans (hb3.mono hWw)).trans (belowK_b (w := w) (Nat.le_refl _) w3 D _ _ hwD hK3 rfl rfl)
  case stop =>
    rintro D c pre W _ _ h _
    exact h.elim

theorem crash_disk {w : World} {fp ok : Nat → Prop} {p : Nat} {d : Dk} (h : Disk w fp ok p d) (keep torn : Int) (hw : d.waits.length ≤ 1048576) :
    Calls Try.prog 22 #[.pointer (some ⟨p, 0, none⟩), .agg #[.int .i64 keep, .int .i64 torn]] w (Made w (d.crash keep torn)) := callsIn_wide.1 (crash_in 3 (by omega) h keep torn hw)
theorem nil_crash (w : World) (keep torn : Int) :
    Calls Try.prog 22 #[.pointer none, .agg #[.int .i64 keep, .int .i64 torn]] w fun e w' => e = .returned (.tuple #[.pointer none, .int .i64 1]) ∧ Below w.heap.size w w' := by
  refine (callsIn_wide (n := 3)).1 ?_
  refine callsIn_of_wp_marks Try.func22 rfl trivial ?_ rfl
  simp only [Try.ntmps22, List.size_toArray, List.length_cons, List.length_nil, Nat.reduceAdd, Nat.reduceSub, Array.replicate_succ, Array.replicate_zero, List.push_toArray, List.append_toArray, List.nil_append, List.cons_append]
  gi_wp2_with (refine ⟨trivial, ?_⟩; gi_at_call 36; refine (callsIn_wide.2 (none_nil _)).mono ?_; rintro e w' ⟨rfl, rfl⟩)
  exact ⟨_, results_tmp2 rfl _ _ _, rfl, (Below.refl _ _).alloc (Nat.le_refl _) _⟩
end Go.Proofs.Ytmajfiljajbipaa
