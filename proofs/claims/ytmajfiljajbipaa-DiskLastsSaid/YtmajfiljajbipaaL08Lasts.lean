/- DiskLasts: the walk. -/
import Derived.Test.YtmajfiljajbipaaAct08
import Derived.Test.YtmajfiljajbipaaLastP08
set_option linter.unusedVariables false
set_option linter.unusedSimpArgs false
namespace Go.Proofs.Ytmajfiljajbipaa
open Go.RowKit

theorem info_bool : (Try.prog.info? 4).map (fun i => (i.zero, i.size, i.bytes)) = some (some (.bool false), 1, 1) := by kernel_rfl
theorem run_makeBool (n : Nat) (hn : n ≤ 281474976710656) (W : World) : (Instr.makeSlice 22 (.int .i64 (n : Int)) (.int .i64 (n : Int))).run Try.prog W = .ok (.slice (some ⟨W.heap.size, 0, none⟩) n n) (W.alloc (.cells (Array.replicate n (Value.bool false)) 4)) := by
  obtain ⟨i, hi, hzz⟩ := Option.map_eq_some_iff.1 info_bool
  simp only [Prod.mk.injEq] at hzz
  obtain ⟨hz0, hz1, hz2⟩ := hzz
  have := run_make (P := Try.prog) W 22 4 i (.bool false) Try.underlying22 hi hz0 .i64 .i64 n n (by omega) (by omega) (by rw [hz2]; omega) (by omega)
  rw [this]
  simp only [Int.toNat_natCast, hz1, Nat.mul_one]
  have e : madeCells (Value.bool false).cells n = Array.replicate n (Value.bool false) := by
    apply Array.toList_inj.1
    rw [Array.toList_replicate]
    exact toList_madeCells_one _ n
  rw [e]

/-- A call in a variable; a crash in one. -/
def BoxX (w : World) (g : Nat) (x : Act8) (B : Option Addr) (bc : Nat) : Prop := w.heap[g]? = some (.cells #[.int .i64 x.what, .int .i64 x.at_, .int .i64 x.n, .slice B x.b.length bc] 40 (0, 0))
theorem BoxX.cells {w : World} {g : Nat} {x : Act8} {B : Option Addr} {bc : Nat} (h : BoxX w g x B bc) : w.cell? ⟨g, 0, none⟩ = some (.int .i64 x.what) ∧ w.cell? ⟨g, 1, none⟩ = some (.int .i64 x.at_) ∧ w.cell? ⟨g, 2, none⟩ = some (.int .i64 x.n) ∧ w.cell? ⟨g, 3, none⟩ = some (.slice B x.b.length bc) := by
  have hb : w.heap[g]? = _ := h
  refine ⟨?_, ?_, ?_, ?_⟩ <;> rw [cell_of_row w g _ _ _ _ hb] <;> rfl
theorem BoxX.lt {w : World} {g : Nat} {x : Act8} {B : Option Addr} {bc : Nat} (h : BoxX w g x B bc) : g < w.heap.size := (Array.getElem?_eq_some_iff.1 h).1
theorem BoxX.keep {M : Nat → Prop} {w w1 : World} {g : Nat} {x : Act8} {B : Option Addr} {bc : Nat} (h : BoxX w g x B bc) (hk : Kp M w w1) (hM : ¬ M g) : BoxX w1 g x B bc := (hk.block g h.lt hM).trans h
theorem BoxX.below {w w1 : World} {g : Nat} {x : Act8} {B : Option Addr} {bc : Nat} (h : BoxX w g x B bc) (hb : Below w.heap.size w w1) : BoxX w1 g x B bc := (hb.block g h.lt).trans h
def BoxC (w : World) (g : Nat) (keep torn : Int) : Prop := w.heap[g]? = some (.cells #[.int .i64 keep, .int .i64 torn] 36 (0, 0))
theorem BoxC.cells {w : World} {g : Nat} {keep torn : Int} (h : BoxC w g keep torn) : w.cell? ⟨g, 0, none⟩ = some (.int .i64 keep) ∧ w.cell? ⟨g, 1, none⟩ = some (.int .i64 torn) := by
  have hb : w.heap[g]? = _ := h
  refine ⟨?_, ?_⟩ <;> rw [cell_of_row w g _ _ _ _ hb] <;> rfl
theorem BoxC.lt {w : World} {g : Nat} {keep torn : Int} (h : BoxC w g keep torn) : g < w.heap.size := (Array.getElem?_eq_some_iff.1 h).1
theorem BoxC.keep {M : Nat → Prop} {w w1 : World} {g : Nat} {keep torn : Int} (h : BoxC w g keep torn) (hk : Kp M w w1) (hM : ¬ M g) : BoxC w1 g keep torn := (hk.block g h.lt hM).trans h
theorem BoxC.below {w w1 : World} {g : Nat} {keep torn : Int} (h : BoxC w g keep torn) (hb : Below w.heap.size w w1) : BoxC w1 g keep torn := (hb.block g h.lt).trans h

theorem wr_zero {d : Dk} {x : Int} {b : List UInt8} (h : (d.wr x b).2 = 0) : ∃ a : Nat, x = a ∧ a + b.length ≤ d.now.length ∧ (d.wr x b).1.waits = d.waits ++ [(a, b)] ∧ (d.wr x b).1.now.length = d.now.length := by
  unfold Dk.wr at h ⊢
  split at h
  · rename_i h1
    split at h
    · cases h
    · rename_i h2
      rw [if_pos h1, if_neg h2]
      have hf : x.toNat + b.length ≤ d.now.length := by omega
      exact ⟨x.toNat, by omega, hf, rfl, lay_length _ _ _ hf⟩
  · cases h
theorem wr_same {d : Dk} {x : Int} {b : List UInt8} (h : (d.wr x b).2 ≠ 0) : (d.wr x b).1 = d := by
  unfold Dk.wr at h ⊢
  split
  · rename_i h1
    rw [if_pos h1] at h
    split
    · rfl
    · rename_i h2
      rw [if_neg h2] at h
      exact absurd rfl h
  · rfl
theorem fl_zero {d : Dk} (h : d.fl.2 = 0) : d.fl.1.waits = [] ∧ d.fl.1.now = d.now := by
  unfold Dk.fl at h ⊢
  split
  · rename_i h1
    rw [if_pos h1] at h
    cases h
  · exact ⟨rfl, rfl⟩
theorem fl_same {d : Dk} (h : d.fl.2 ≠ 0) : d.fl.1 = d := by
  unfold Dk.fl at h ⊢
  split
  · rfl
  · rename_i h1
    rw [if_neg h1] at h
    exact absurd rfl h

/-- How it stands behind k calls. -/
structure LI (w wr : World) (p n k : Nat) (keep torn : Int) (d : Dk) (S : Nat → Prop) (tb : Nat) (ts : List Bool) : Prop where
  dsk : DiskS wr S p d
  wl : d.waits.length ≤ k
  now : d.now = layAll d.lasts d.waits
  len : d.now.length = n
  unt : Unt ts d.waits
  tl : ts.length = n
  row : wr.ownsRow (w.heap.size + 1) 4 1 (.slice (some ⟨tb, 0, none⟩) n n) n (ts.map Value.bool)
  stb : ¬ S tb
  sw : ∀ j, S j → w.heap.size + 1 ≤ j
  bel : Below w.heap.size w wr
  box : BoxC wr w.heap.size keep torn

/-- How it stands behind some bytes of a write that are told to be touched. -/
structure LJ (w w5 wz : World) (n a j tb : Nat) (ts ts' : List Bool) : Prop where
  tl : ts'.length = n
  mark : ∀ q, ts'[q]? = some false → ts[q]? = some false ∧ ¬ (a ≤ q ∧ q < a + j)
  row : wz.ownsRow (w.heap.size + 1) 4 1 (.slice (some ⟨tb, 0, none⟩) n n) n (ts'.map Value.bool)
  kp : Kp (fun b => b = tb) w5 wz

theorem s5t {S S5 : Nat → Prop} {N tb : Nat} (h : ∀ k, S5 k → S k ∨ N ≤ k) (hs : ¬ S tb) (hN : tb < N) : ¬ S5 tb := fun h5 => by
  rcases h _ h5 with h1 | h1
  · exact hs h1
  · omega
theorem s5w {S S5 : Nat → Prop} {N M : Nat} (h : ∀ k, S5 k → S k ∨ N ≤ k) (hs : ∀ j, S j → M ≤ j) (hN : M ≤ N) : ∀ j, S5 j → M ≤ j := fun j h5 => by
  rcases h _ h5 with h1 | h1
  · exact hs _ h1
  · omega

set_option maxRecDepth 100000 in
set_option maxHeartbeats 4000000 in
theorem lasts_main (w : World) (n : Nat) (h1 : 1 ≤ n) (h2 : n ≤ 400) (A : Option Addr) (c : Nat) (xs : List Act8) (hs : Script w A c xs) (keep torn : Int) (hl : xs.length ≤ 9223372036854775807) :
    Calls Try.prog 4 #[.int .i64 (n : Int), .slice A xs.length c, .agg #[.int .i64 keep, .int .i64 torn]] w fun e w' => e = .returned (.bool true) ∧ Below w.heap.size w w' := by
  have g1 : ¬ (n : Int) < 1 := by omega
  have g2 : ¬ (400 : Int) < n := by omega
  obtain ⟨W0, hW0⟩ : ∃ W0, W0 = w.alloc (.cells #[.int .i64 keep, .int .i64 torn] 36) := ⟨_, rfl⟩
  have hb0 : Below w.heap.size w W0 := by rw [hW0]; exact (Below.refl _ _).alloc (Nat.le_refl _) _
  have C0 : BoxC W0 w.heap.size keep torn := by rw [hW0]; exact heap_alloc_new _ _
  have hz0 : W0.heap.size ≤ w.heap.size + 1 ∧ w.heap.size + 1 ≤ W0.heap.size := by rw [hW0]; simp
  have F := few_any W0 A c xs (hs.below hb0) hl
  have hmk := run_makeBool n (by omega)
  rw [hW0] at F
  have HW0 := Lib.hid hW0; clear hW0
  go_enter Try.func4, Try.ntmps4
  go_wp2_with fail
  (with_reducible refine F.mono ?_)
  rintro e w' ⟨rfl, r, rfl, hr⟩
  cases r with
  | false =>
    go_wp2_with (go_at_call 12; refine (works_ok _).mono ?_; rintro e w1 ⟨rfl, hb⟩)
    go_ret
    rw [← HW0.out] at hb
    exact ⟨rfl, hb0.trans (hb.mono hb0.size)⟩
  | true =>
    obtain ⟨h50, h3⟩ := hr rfl
    clear hr
    go_wp2_with fail
    rw [← HW0.out]
    refine (new_S W0 n h1 (by omega)).mono ?_
    rintro e w1 ⟨p, S, rfl, hd1, hS1, hb1⟩
    have hz1 := hb1.size
    have hbw1 := hb0.trans (hb1.mono hb0.size)
    obtain ⟨d0, hd0⟩ : ∃ d0, d0 = Dk.of (List.replicate n 0) := ⟨_, rfl⟩
    rw [← hd0] at hd1
    have hd0w : d0.waits = [] := by rw [hd0]; rfl
    have hd0n : d0.now = layAll d0.lasts d0.waits := by rw [hd0]; rfl
    have hd0l : d0.now.length = n := by rw [hd0]; simp [Dk.of]
    clear hd0
    obtain ⟨W2, hW2⟩ : ∃ W2, W2 = w1.alloc (.cells (Array.replicate n (Value.bool false)) 4) := ⟨_, rfl⟩
    have hb2 : Below w1.heap.size w1 W2 := by rw [hW2]; exact (Below.refl _ _).alloc (Nat.le_refl _) _
    have hbw2 := hbw1.trans (hb2.mono hbw1.size)
    have hrow : W2.ownsRow (w.heap.size + 1) 4 1 (.slice (some ⟨w1.heap.size, 0, none⟩) n n) n ((List.replicate n false).map Value.bool) := by
      rw [hW2]
      have := own_lit w1 4 1 (Array.replicate n (Value.bool false)) n (by simp [maxLen]; omega) (by simp) (w.heap.size + 1) (by omega)
      rw [Array.toList_replicate] at this
      rw [List.map_replicate]; exact this
    have hSl := hd1.1
    have LI0 : LI w W2 p n 0 keep torn d0 S w1.heap.size (List.replicate n false) :=
      { dsk := hd1.below hb2, wl := by rw [hd0w]; exact Nat.le_refl _, now := hd0n, len := hd0l, unt := by rw [hd0w]; exact Unt.nil _, tl := by simp, row := hrow, stb := fun h => Nat.lt_irrefl _ (hSl _ h), sw := fun j h => by have := hS1 j h; omega, bel := hbw2, box := (C0.below hb1).below hb2 }
    have HD0 := Lib.hid hd0n; clear hd0n hd0l hd0w hrow
    go_wp2_with fail
    rw [← hW2]
    clear hW2
    go_loopw [10, 9] (fun i tv wr => ∃ (k : Nat) (d : Dk) (S : Nat → Prop) (tb : Nat) (ts : List Bool), k ≤ xs.length ∧ i = .int .i64 k ∧ tv = .slice (some ⟨tb, 0, none⟩) n n ∧ LI w wr p n k keep torn d S tb ts)
      (fun i tv wr => xs.length - (intOf i).toNat)
    case atStart => exact ⟨0, d0, S, w1.heap.size, _, Nat.zero_le _, rfl, rfl, LI0⟩
    case round =>
      clear LI0 hd1
      obtain ⟨k, d, S, tb, ts, hk, rfl, rfl, I⟩ := hrel
      have hb := I.bel
      by_cases hlt : k < xs.length
      · have hlt' : (k : Int) < xs.length := by omega
        obtain ⟨a, B, bc, rfl, q0, q1, q2, q3, hby, _, _⟩ := hs.at_ hlt
        have ha := World.block_lt_of_cell? w _ q0
        have hbm := h3 xs[k] (List.getElem_mem hlt)
        obtain ⟨x, hx⟩ : ∃ x, x = xs[k] := ⟨_, rfl⟩
        rw [← hx] at q0 q1 q2 q3 hby hbm
        clear hx
        have q0 := (hb.cell (p := a.add (k * 4)) ha).trans q0
        have q1 := (hb.cell (p := a.add (k * 4 + 1)) (by rw [add_block] at ha ⊢; exact ha)).trans q1
        have q2 := (hb.cell (p := a.add (k * 4 + 2)) (by rw [add_block] at ha ⊢; exact ha)).trans q2
        have q3 := (hb.cell (p := a.add (k * 4 + 3)) (by rw [add_block] at ha ⊢; exact ha)).trans q3
        have f1' := cell_fldn (by omega) q1
        have f2' := cell_fldn (by omega) q2
        have f3' := cell_fldn (by omega) q3
        obtain ⟨wo, rfl⟩ : ∃ wo : World, wo = wr := ⟨_, rfl⟩
        obtain ⟨W3, hW3⟩ : ∃ W3, W3 = wo.alloc (.cells #[.int .i64 x.what, .int .i64 x.at_, .int .i64 x.n, .slice B x.b.length bc] 40) := ⟨_, rfl⟩
        have hb3 : Below wo.heap.size wo W3 := by rw [hW3]; exact (Below.refl _ _).alloc (Nat.le_refl _) _
        have X3 : BoxX W3 wo.heap.size x B bc := by rw [hW3]; exact heap_alloc_new _ _
        have hz3 : W3.heap.size ≤ wo.heap.size + 1 ∧ wo.heap.size + 1 ≤ W3.heap.size := by rw [hW3]; simp
        have hbw3 := hb.trans (hb3.mono hb.size)
        have HW3 := Lib.hid hW3; clear hW3
        have hd3 := I.dsk.below hb3
        have hSl := I.dsk.1
        have hrlt := I.row.lt tb (by simp [Value.ownBlock])
        have hby3 : By W3 Any B x.b.length bc x.b := Sl.move hby (Mv.of_below hbw3 _)
        obtain ⟨x0, x1, x2, x3⟩ := X3.cells
        have htb : tb < wo.heap.size := hrlt.2
        have htw : w.heap.size + 1 ≤ tb := hrlt.1
        have hsw := I.sw
        have hstb := I.stb
        have C3 := I.box.below hb3
        have hCS : ¬ S w.heap.size := fun h => by have := hsw _ h; omega
        have hXS : ¬ S wo.heap.size := fun h => Nat.lt_irrefl _ (hSl _ h)
        have hrow3 := own_move I.row (fun j _ hlt => hb3.block j hlt)
        have hwl := I.wl
        have hzw := hb.size
        by_cases hw0 : x.what = 0
        · have hw0b : (x.what == 0) = true := by simp [hw0]
          have HW := Lib.hid hw0; clear hw0
          have WR := write_S hd3 x.at_ B x.b.length bc x.b hby3 (by omega)
          obtain ⟨code, hcode⟩ : ∃ code, code = (d.wr x.at_ x.b).2 := ⟨_, rfl⟩
          obtain ⟨d5, hd5⟩ : ∃ d5, d5 = (d.wr x.at_ x.b).1 := ⟨_, rfl⟩
          have hzero : code = 0 → ∃ a : Nat, x.at_ = a ∧ a + x.b.length ≤ d.now.length ∧ d5.waits = d.waits ++ [(a, x.b)] ∧ d5.now.length = d.now.length := fun h => by rw [hd5]; exact wr_zero (by rw [← hcode]; exact h)
          have hsame : code ≠ 0 → d5 = d := fun h => by rw [hd5]; exact wr_same (by rw [← hcode]; exact h)
          have hgood : d5.now = layAll d5.lasts d5.waits := by rw [hd5]; exact wr_good d x.at_ x.b I.now
          rw [← hcode, ← hd5] at WR
          clear hcode hd5
          have HG := Lib.hid hgood; clear hgood
          have HS := Lib.hid hsame; clear hsame
          by_cases hc0 : code = 0
          · subst hc0
            obtain ⟨a0, hxa, hfit, hdw, hdl⟩ := hzero rfl
            clear hzero
            have hfit : a0 + x.b.length ≤ n := by rw [← I.len]; exact hfit
            rw [hxa] at x1
            rw [hxa] at WR
            have HXA := Lib.hid hxa; clear hxa
            have HDW := Lib.hid hdw; clear hdw
            have HDL := Lib.hid hdl; clear hdl
            go_upto_region 11 with fail
            rw [← HW3.out]
            go_wp2_with fail
            (with_reducible refine WR.mono ?_)
            rintro e w5 ⟨rfl, S5, hd5, hk5, hS5⟩
            have hz5 := hk5.size
            have hbw5 := chg_below hbw3 hk5 hbw3.size (fun j h => by have := hsw j h; omega)
            have X5 := X3.keep hk5 hXS
            have C5 := C3.keep hk5 hCS
            have hrow5 := own_move hrow3 (fun j hj hlt => hk5.block j hlt (fun h => by simp [Value.ownBlock] at hj; subst hj; exact hstb h))
            have hS5t : ¬ S5 tb := fun h => by
              rcases hS5 _ h with h1 | h1
              · exact hstb h1
              · omega
            have hS5w : ∀ j, S5 j → w.heap.size + 1 ≤ j := fun j h => by
              rcases hS5 j h with h1 | h1
              · exact hsw j h1
              · omega
            go_wp2_with (go_at_call 17; refine (num_any _ _).mono ?_; rintro e w' ⟨rfl, rfl⟩)
            go_loopw [12] (fun i wz => ∃ (j : Nat) (ts' : List Bool), j ≤ x.b.length ∧ i = .int .i64 j ∧ LJ w w5 wz n a0 j tb ts ts') (fun i _ => x.b.length - (intOf i).toNat)
            case atStart => exact ⟨0, ts, Nat.zero_le _, rfl, { tl := I.tl, mark := fun q h => ⟨h, by omega⟩, row := hrow5, kp := Kp.refl _ _ }⟩
            case round =>
              obtain ⟨j, ts', hj, rfl, J⟩ := hrel
              have Xz := X5.keep J.kp (fun h => by have h : wo.heap.size = tb := h; omega)
              obtain ⟨x0, x1, x2, x3⟩ := Xz.cells
              rw [HXA.out] at x1
              by_cases hlj : j < x.b.length
              · have hlj' : (j : Int) < x.b.length := by omega
                have htl := J.tl
                have hlt2 : a0 + j < ts'.length := by omega
                have hc : wr.cell? ⟨tb, a0 + j, none⟩ = some (.bool (ts'[a0 + j]'hlt2)) := by
                  rw [J.row.cellAt (a0 + j) (by omega), List.getElem?_map, List.getElem?_eq_getElem hlt2]; rfl
                have hf := J.row.frozenAt (a0 + j)
                have HTL := Lib.hid htl; clear htl
                go_wp2
                have hst := (J.row.stored (a0 + j) (.bool true)).1
                exact ⟨⟨j + 1, ts'.set (a0 + j) true, hlj, by simp, { tl := by rw [List.length_set]; exact HTL.out, mark := mark_set J.mark HTL.out (by omega), row := by rw [List.map_set]; exact hst, kp := J.kp.setCell (p := ⟨tb, a0 + j, none⟩) (.inl rfl) _ }⟩, by simp [intOf]; omega⟩
              · have hlj' : ¬ (j : Int) < x.b.length := by omega
                obtain rfl : j = x.b.length := by omega
                go_wp2
                have hzk := J.kp.size
                refine ⟨⟨k + 1, d5, S5, tb, ts', hlt, by simp, rfl, { dsk := hd5.move J.kp (fun q h e => hS5t (by have e : q = tb := e; subst e; exact h)), wl := by rw [HDW.out]; simp; omega, now := HG.out, len := by rw [HDL.out]; exact I.len, unt := by rw [HDW.out]; exact Unt.write I.unt J.mark, tl := J.tl, row := J.row, stb := hS5t, sw := hS5w, bel := chg_below hbw5 J.kp (by omega) (fun q e => by have e : q = tb := e; omega), box := C5.keep J.kp (fun e => by have e : w.heap.size = tb := e; omega) }⟩, by simp [intOf]; omega⟩
          · have hcb : (code == 0) = false := by simp [hc0]
            have hdd : d5 = d := HS.out hc0
            subst hdd
            clear hzero hc0
            go_upto_region 11 with fail
            rw [← HW3.out]
            go_wp2_with fail
            (with_reducible refine WR.mono ?_)
            rintro e w5 ⟨rfl, S5, hd5, hk5, hS5⟩
            go_wp2_with (go_at_call 17; refine (num_any _ _).mono ?_; rintro e w' ⟨rfl, rfl⟩)
            have hz5 := hk5.size
            have hbw5 := chg_below hbw3 hk5 hbw3.size (fun j h => by have := hsw j h; omega)
            have C5 := C3.keep hk5 hCS
            have hrow5 := own_move hrow3 (fun j hj hlt => hk5.block j hlt (fun h => by simp [Value.ownBlock] at hj; subst hj; exact hstb h))
            exact ⟨⟨k + 1, d5, S5, tb, ts, hlt, by simp, rfl, { dsk := hd5, wl := by omega, now := I.now, len := I.len, unt := I.unt, tl := I.tl, row := hrow5, stb := s5t hS5 hstb (by omega), sw := s5w hS5 hsw (by omega), bel := hbw5, box := C5 }⟩, by simp [intOf]; omega⟩
        · have hw0b : (x.what == 0) = false := by simp [hw0]
          by_cases hw1 : x.what = 1
          · have hw1b : (x.what == 1) = true := by simp [hw1]
            have HW := Lib.hid hw1; clear hw1 hw0
            have WR := flush_S hd3
            obtain ⟨code, hcode⟩ : ∃ code, code = d.fl.2 := ⟨_, rfl⟩
            obtain ⟨d5, hd5⟩ : ∃ d5, d5 = d.fl.1 := ⟨_, rfl⟩
            have hzero : code = 0 → d5.waits = [] ∧ d5.now = d.now := fun h => by rw [hd5]; exact fl_zero (by rw [← hcode]; exact h)
            have hsame : code ≠ 0 → d5 = d := fun h => by rw [hd5]; exact fl_same (by rw [← hcode]; exact h)
            have hgood : d5.now = layAll d5.lasts d5.waits := by rw [hd5]; exact fl_good d I.now
            rw [← hcode, ← hd5] at WR
            clear hcode hd5
            have HG := Lib.hid hgood; clear hgood
            have HS := Lib.hid hsame; clear hsame
            by_cases hc0 : code = 0
            · subst hc0
              have HZ := Lib.hid (hzero rfl)
              clear hzero
              go_upto_region 17 with fail
              rw [← HW3.out]
              go_wp2_with fail
              (with_reducible refine WR.mono ?_)
              rintro e w5 ⟨rfl, S5, hd5, hk5, hS5⟩
              go_wp2_with (go_at_call 17; refine (num_any _ _).mono ?_; rintro e w' ⟨rfl, rfl⟩)
              have hz5 := hk5.size
              have hbw5 := chg_below hbw3 hk5 hbw3.size (fun j h => by have := hsw j h; omega)
              have C5 := C3.keep hk5 hCS
              have hb6 : Below w5.heap.size w5 (w5.alloc (.cells (Array.replicate n (Value.bool false)) 4)) := (Below.refl _ _).alloc (Nat.le_refl _) _
              have hS5l := hd5.1
              have hrow6 : (w5.alloc (.cells (Array.replicate n (Value.bool false)) 4)).ownsRow (w.heap.size + 1) 4 1 (.slice (some ⟨w5.heap.size, 0, none⟩) n n) n ((List.replicate n false).map Value.bool) := by
                have := own_lit w5 4 1 (Array.replicate n (Value.bool false)) n (by simp [maxLen]; omega) (by simp) (w.heap.size + 1) (by omega)
                rw [Array.toList_replicate] at this
                rw [List.map_replicate]; exact this
              exact ⟨⟨k + 1, d5, S5, w5.heap.size, List.replicate n false, hlt, by simp, rfl, { dsk := hd5.below hb6, wl := by rw [HZ.out.1]; simp, now := HG.out, len := by rw [HZ.out.2]; exact I.len, unt := by rw [HZ.out.1]; exact Unt.nil _, tl := by simp, row := hrow6, stb := fun h => Nat.lt_irrefl _ (hS5l _ h), sw := s5w hS5 hsw (by omega), bel := hbw5.trans (hb6.mono hbw5.size), box := C5.below hb6 }⟩, by simp [intOf]; omega⟩
            · have hcb : (code == 0) = false := by simp [hc0]
              have hdd : d5 = d := HS.out hc0
              subst hdd
              clear hzero hc0
              go_upto_region 17 with fail
              rw [← HW3.out]
              go_wp2_with fail
              (with_reducible refine WR.mono ?_)
              rintro e w5 ⟨rfl, S5, hd5, hk5, hS5⟩
              go_wp2_with (go_at_call 17; refine (num_any _ _).mono ?_; rintro e w' ⟨rfl, rfl⟩)
              have hz5 := hk5.size
              have hbw5 := chg_below hbw3 hk5 hbw3.size (fun j h => by have := hsw j h; omega)
              have C5 := C3.keep hk5 hCS
              have hrow5 := own_move hrow3 (fun j hj hlt => hk5.block j hlt (fun h => by simp [Value.ownBlock] at hj; subst hj; exact hstb h))
              exact ⟨⟨k + 1, d5, S5, tb, ts, hlt, by simp, rfl, { dsk := hd5, wl := by omega, now := I.now, len := I.len, unt := I.unt, tl := I.tl, row := hrow5, stb := s5t hS5 hstb (by omega), sw := s5w hS5 hsw (by omega), bel := hbw5, box := C5 }⟩, by simp [intOf]; omega⟩
          · have hw1b : (x.what == 1) = false := by simp [hw1]
            by_cases hw2 : x.what = 2
            · have hw2b : (x.what == 2) = true := by simp [hw2]
              have HW := Lib.hid hw2; clear hw2 hw1 hw0
              have WR := arm_S hd3 x.at_
              obtain ⟨d5, hd5⟩ : ∃ d5, d5 = d.arm x.at_ := ⟨_, rfl⟩
              have hdw : d5.waits = d.waits ∧ d5.now = d.now ∧ d5.lasts = d.lasts := by rw [hd5]; exact ⟨rfl, rfl, rfl⟩
              rw [← hd5] at WR
              clear hd5
              have HDW := Lib.hid hdw; clear hdw
              go_upto_region 20 with fail
              rw [← HW3.out]
              go_wp2_with fail
              (with_reducible refine WR.mono ?_)
              rintro e w5 ⟨rfl, S5, hd5, hk5, hS5⟩
              go_wp2
              have hz5 := hk5.size
              have hbw5 := chg_below hbw3 hk5 hbw3.size (fun j h => by have := hsw j h; omega)
              have C5 := C3.keep hk5 hCS
              have hrow5 := own_move hrow3 (fun j hj hlt => hk5.block j hlt (fun h => by simp [Value.ownBlock] at hj; subst hj; exact hstb h))
              exact ⟨⟨k + 1, d5, S5, tb, ts, hlt, by simp, rfl, { dsk := hd5, wl := by rw [HDW.out.1]; omega, now := by rw [HDW.out.1, HDW.out.2.1, HDW.out.2.2]; exact I.now, len := by rw [HDW.out.2.1]; exact I.len, unt := by rw [HDW.out.1]; exact I.unt, tl := I.tl, row := hrow5, stb := s5t hS5 hstb (by omega), sw := s5w hS5 hsw (by omega), bel := hbw5, box := C5 }⟩, by simp [intOf]; omega⟩
            · have hw2b : (x.what == 2) = false := by simp [hw2]
              clear hw0 hw1 hw2
              go_wp2
              rw [← HW3.out]
              exact ⟨⟨k + 1, d, S, tb, ts, hlt, by simp, rfl, { dsk := hd3, wl := by omega, now := I.now, len := I.len, unt := I.unt, tl := I.tl, row := hrow3, stb := hstb, sw := hsw, bel := hbw3, box := C3 }⟩, by simp [intOf]; omega⟩
      · have hlt' : ¬ (k : Int) < xs.length := by omega
        obtain ⟨hp, hbig, hsm, hfit⟩ := I.dsk.props
        have hlen := I.len
        have hll : d.lasts.length = n := hsm.trans hlen
        have hfl : ∀ x, x ∈ d.waits → x.1 + x.2.length ≤ d.lasts.length := by rw [hsm]; exact hfit
        have hwl := I.wl
        have hsw := I.sw
        have hSl := I.dsk.1
        have hrow := I.row
        have htl := I.tl
        have htw := hrow.lt tb (by simp [Value.ownBlock])
        have hCA := crash_none d hfl
        have hCB : (d.crash (d.waits.length : Int) 0).lasts = d.now := (crash_all d).trans I.now.symm
        have hCX : ∀ k, ts[k]? = some false → (d.crash keep torn).lasts[k]? = d.lasts[k]? := fun k hk => crash_off I.unt hfl keep torn k hk
        have hCL := crash_len hfl keep torn
        obtain ⟨dA, hdA⟩ : ∃ dA, dA = d.crash 0 0 := ⟨_, rfl⟩
        obtain ⟨dB, hdB⟩ : ∃ dB, dB = d.crash (d.waits.length : Int) 0 := ⟨_, rfl⟩
        obtain ⟨dX, hdX⟩ : ∃ dX, dX = d.crash keep torn := ⟨_, rfl⟩
        have K1 := fun (W : World) (h : DiskS W S p d) => crash_S h 0 0 (by omega)
        have K2 := fun (W : World) (h : DiskS W S p d) => crash_S h (d.waits.length : Int) 0 (by omega)
        have K3 := fun (W : World) (h : DiskS W S p d) => crash_S h keep torn (by omega)
        rw [← hdA] at hCA
        rw [← hdB] at hCB
        rw [← hdX] at hCX hCL
        simp only [← hdA] at K1
        simp only [← hdB] at K2
        simp only [← hdX] at K3
        clear hdA hdB hdX
        have hCL := hCL.trans hll
        have HCA := Lib.hid hCA; clear hCA
        have HCB := Lib.hid hCB; clear hCB
        have HCX := Lib.hid hCX; clear hCX
        have HCL := Lib.hid hCL; clear hCL
        have HLL := Lib.hid hll; clear hll
        have HSM := Lib.hid hsm; clear hsm
        have HLE := Lib.hid hlen; clear hlen
        have HTL := Lib.hid htl; clear htl
        have HFL := Lib.hid hfl; clear hfl
        have HFT := Lib.hid hfit; clear hfit
        obtain ⟨fp, _, hdk⟩ := I.dsk.2
        have L1 := lasts_disk hdk
        go_wp2_with fail
        (with_reducible refine L1.mono ?_)
        rintro e w1 ⟨A1, c1, rfl, hown1, hb1⟩
        have hz1 := hb1.size
        have hd1 := I.dsk.below hb1
        obtain ⟨fp1, _, hdk1⟩ := hd1.2
        have R1 := read_disk hdk1 0 n (by rw [HLE.out]; omega)
        have e0 : (d.now.take (0 + n)).drop 0 = d.now := by rw [Nat.zero_add, List.drop_zero, List.take_of_length_le (by rw [HLE.out]; exact Nat.le_refl _)]
        rw [e0] at R1
        clear e0 L1
        go_wp2_with fail
        refine R1.mono ?_
        rintro e w2 ⟨A2, c2, rfl, hown2, hb2⟩
        have hz2 := hb2.size
        have hd2 := hd1.below hb2
        go_wp2_with fail
        (with_reducible refine (K1 _ hd2).mono ?_)
        rintro e w3 ⟨pa, Sa, rfl, hda, hSa, hb3⟩
        have hz3 := hb3.size
        have hd3 := hd2.below hb3
        obtain ⟨fp3, _, hdk3⟩ := hd3.2
        have WD := waits_disk hdk3
        clear R1
        go_wp2_with (go_at_call 23; (with_reducible refine WD.mono ?_); rintro e w' ⟨rfl, rfl⟩)
        (with_reducible refine (K2 _ hd3).mono ?_)
        rintro e w4 ⟨pb, Sb, rfl, hdb, hSb, hb4⟩
        have hz4 := hb4.size
        have hd4 := hd3.below hb4
        have C4 := (((I.box.below hb1).below hb2).below hb3).below hb4
        obtain ⟨k0, k1⟩ := C4.cells
        go_wp2_with fail
        (with_reducible refine (K3 _ hd4).mono ?_)
        rintro e w5 ⟨px, Sx, rfl, hdx, hSx, hb5⟩
        have hz5 := hb5.size
        clear k0 k1 WD K1 K2 K3
        have hb25 : Below w2.heap.size w2 w5 := (hb3.trans (hb4.mono hz3)).trans (hb5.mono (by omega))
        have hb15 : Below w1.heap.size w1 w5 := hb2.trans (hb25.mono hz2)
        have hbr5 : Below wr.heap.size wr w5 := hb1.trans (hb15.mono hz1)
        have hbw5 : Below w.heap.size w w5 := I.bel.trans (hbr5.mono I.bel.size)
        have hW : By w5 (fun k => wr.heap.size ≤ k) A1 d.lasts.length c1 d.lasts := Sl.move (Sl.from_own hown1) (Mv.of_below hb15 _)
        have hN : By w5 (fun k => w1.heap.size ≤ k) A2 n c2 d.now := Sl.move (Sl.from_own hown2) (Mv.of_below hb25 _)
        have hda5 := (hda.below hb4).below hb5
        have hdb5 := hdb.below hb5
        have hdr5 : Below w5.heap.size w5 w5.drew := (Below.refl _ _).drew
        go_upto_region 26 with fail
        refine wp_region_noPanic ?_
        refine plan (.rd 0 (.rd 2 (.rd 5 (.rd 8 (.rd 11 (.eff 1 (.eff 3 (.rd 4 (.eff 6 (.rd 7 (.eff 9 (.rd 10 (.eff 12 (.rd 13 (.rd 14 (.rd 15 (.rd 16 (.rd 19 (.rd 20 (.eff 17 (.eff 18 (.rd 21 (.rd 22 (.rd 23 (.rd 24 (.rd 27 (.rd 28 (.eff 25 (.eff 26 (.rd 29 (.rd 30 .done))))))))))))))))))))))))))))))) [0, 1, 2, 3, 4, 5, 6, 7, 8, 9, 10, 11, 12, 13, 14, 15, 16, 17, 18, 19, 20, 21, 22, 23, 24, 25, 26, 27, 28, 29, 30] (fun W => Below w5.heap.size w5 W) (by kernel_rfl) (by kernel_rfl) (fun _ _ _ _ _ h => h) hdr5 ?_
        repeat (refine pl_pure rfl (fun K hK => ?_); go_simp; refine hK _ ?_; clear hK K)
        refine pl_eff rfl rfl (fun K hK => ?_)
        go_simp
        refine (num_any _ _).mono ?_
        rintro e w' ⟨rfl, rfl⟩
        refine hK _ _ (fun _ => hdr5) ?_
        clear hK K
        repeat (refine pl_pure rfl (fun K hK => ?_); go_simp; refine hK _ ?_; clear hK K)
        refine pl_eff rfl rfl (fun K hK => ?_)
        go_simp
        refine (num_any _ _).mono ?_
        rintro e w' ⟨rfl, rfl⟩
        refine hK _ _ (fun _ => hdr5) ?_
        clear hK K
        repeat (refine pl_pure rfl (fun K hK => ?_); go_simp; refine hK _ ?_; clear hK K)
        refine pl_eff rfl rfl (fun K hK => ?_)
        go_simp
        refine (num_any _ _).mono ?_
        rintro e w' ⟨rfl, rfl⟩
        refine hK _ _ (fun _ => hdr5) ?_
        clear hK K
        repeat (refine pl_pure rfl (fun K hK => ?_); go_simp; refine hK _ ?_; clear hK K)
        refine pl_eff rfl rfl (fun K hK => ?_)
        go_simp
        refine (num_any _ _).mono ?_
        rintro e w' ⟨rfl, rfl⟩
        refine hK _ _ (fun _ => hdr5) ?_
        clear hK K
        repeat (refine pl_pure rfl (fun K hK => ?_); go_simp; refine hK _ ?_; clear hK K)
        refine pl_eff rfl rfl (fun K hK => ?_)
        go_simp
        refine (num_any _ _).mono ?_
        rintro e w' ⟨rfl, rfl⟩
        refine hK _ _ (fun _ => hdr5) ?_
        clear hK K
        repeat (refine pl_pure rfl (fun K hK => ?_); go_simp; refine hK _ ?_; clear hK K)
        obtain ⟨g1, hg1⟩ : ∃ g : ByteArray, g = ⟨d.lasts.toArray⟩ := ⟨_, rfl⟩
        obtain ⟨g2, hg2⟩ : ∃ g : ByteArray, g = ⟨d.now.toArray⟩ := ⟨_, rfl⟩
        have HG1 := Lib.hid hg1; clear hg1
        have HG2 := Lib.hid hg2; clear hg2
        refine pl_rd (.string g1) rfl rfl (fun W hS => ?_) (fun K hK => ?_)
        · have h5 := conv_by 38 9 5 Try.underlying38 Try.underlying5 Try.underlying9 W A1 _ c1 d.lasts (Sl.move hW (Mv.of_below hS _))
          rw [← HG1.out] at h5
          simp [go_sem, h5]
        go_simp
        refine hK _ ?_
        clear hK K
        repeat (refine pl_pure rfl (fun K hK => ?_); go_simp; refine hK _ ?_; clear hK K)
        obtain ⟨fpa, _, hdka⟩ := (hda5.below hdr5).2
        have L6 := lasts_disk hdka
        rw [HCA.out] at L6
        refine pl_eff rfl rfl (fun K hK => ?_)
        go_simp
        (with_reducible refine L6.mono ?_)
        rintro e w6 ⟨A6, c6, rfl, hown6, hb6⟩
        have hb6 : Below w5.heap.size w5 w6 := hdr5.trans hb6
        have hz6 := hb6.size
        have hby6 : By w6 (fun k => w5.heap.size ≤ k) A6 d.lasts.length c6 d.lasts := Sl.from_own hown6
        refine hK _ _ (fun _ => hb6) ?_
        clear hK K
        have k6 := conv_by 38 9 5 Try.underlying38 Try.underlying5 Try.underlying9 w6 A6 _ c6 d.lasts hby6
        rw [← HG1.out] at k6
        refine pl_eff rfl rfl (fun K hK => ?_)
        go_simp
        refine hK _ _ (fun _ => hb6) ?_
        clear hK K k6
        repeat (refine pl_pure rfl (fun K hK => ?_); go_simp; refine hK _ ?_; clear hK K)
        refine pl_rd (.string g2) rfl rfl (fun W hS => ?_) (fun K hK => ?_)
        · have h5 := conv_by 38 9 5 Try.underlying38 Try.underlying5 Try.underlying9 W A2 _ c2 d.now (Sl.move hN (Mv.of_below hS _))
          rw [← HG2.out] at h5
          simp [go_sem, h5]
        go_simp
        refine hK _ ?_
        clear hK K
        repeat (refine pl_pure rfl (fun K hK => ?_); go_simp; refine hK _ ?_; clear hK K)
        obtain ⟨fpb, _, hdkb⟩ := (hdb5.below hb6).2
        have L7 := lasts_disk hdkb
        rw [HCB.out] at L7
        unfold Fresh at L7
        simp only [HLE.out] at L7
        refine pl_eff rfl rfl (fun K hK => ?_)
        go_simp
        (with_reducible refine L7.mono ?_)
        rintro e w7 ⟨A7, c7, rfl, hown7, hb7⟩
        have hbw7 : Below w5.heap.size w5 w7 := hb6.trans (hb7.mono hz6)
        have hz7 := hb7.size
        have hby7 : By w7 (fun k => w6.heap.size ≤ k) A7 n c7 d.now := Sl.from_own hown7
        refine hK _ _ (fun _ => hbw7) ?_
        clear hK K
        have k7 := conv_by 38 9 5 Try.underlying38 Try.underlying5 Try.underlying9 w7 A7 _ c7 d.now hby7
        rw [← HG2.out] at k7
        refine pl_eff rfl rfl (fun K hK => ?_)
        go_simp
        refine hK _ _ (fun _ => hbw7) ?_
        clear hK K k7
        repeat (refine pl_pure rfl (fun K hK => ?_); go_simp; refine hK _ ?_; clear hK K)
        refine pl_done ?_
        refine NoPanic.normal ?_
        obtain ⟨fpx, _, hdkx⟩ := (hdx.below hbw7).2
        have L8 := lasts_disk hdkx
        go_wp2_with fail
        (with_reducible refine L8.mono ?_)
        rintro e w8 ⟨A8, c8, rfl, hown8, hb8⟩
        have hz8 := hb8.size
        have hbr8 : Below wr.heap.size wr w8 := hbr5.trans ((hbw7.trans (hb8.mono (by omega))).mono (by omega))
        have hbw8 : Below w.heap.size w w8 := I.bel.trans (hbr8.mono I.bel.size)
        have hleft : By w8 (fun k => w7.heap.size ≤ k) A8 dX.lasts.length c8 dX.lasts := Sl.from_own hown8
        have hwas : By w8 (fun k => wr.heap.size ≤ k) A1 d.lasts.length c1 d.lasts := Sl.move hW (Mv.of_below (hbw7.trans (hb8.mono (by omega))) _)
        have htou : ∀ j (hj : j < n), w8.cell? ⟨tb, j, none⟩ = some (.bool (ts[j]'(by rw [HTL.out]; exact hj))) := fun j hj => by
          rw [hbr8.cell (p := ⟨tb, j, none⟩) htw.2, hrow.cellAt j (by omega), List.getElem?_map, List.getElem?_eq_getElem (by rw [HTL.out]; exact hj)]; rfl
        have htb8 : tb < w8.heap.size := by have := hbr8.size; omega
        go_wp2_with fail
        go_loopw [23] (fun i wz => ∃ j : Nat, j ≤ n ∧ i = .int .i64 j ∧ Below w8.heap.size w8 wz) (fun i _ => n - (intOf i).toNat)
        case atStart => exact ⟨0, Nat.zero_le _, rfl, Below.refl _ _⟩
        case round =>
          obtain ⟨j, hj, rfl, hbz⟩ := hrel
          by_cases hjn : j < n
          · have hjn' : (j : Int) < n := by omega
            have hj1 : (j : Int) < d.lasts.length := by rw [HLL.out]; exact hjn'
            have hj2 : (j : Int) < dX.lasts.length := by rw [HCL.out]; exact hjn'
            have dj1 : decide (d.lasts.length ≤ j) = false := by simp; omega
            have dj2 : decide (dX.lasts.length ≤ j) = false := by simp; omega
            have dj3 : decide ((d.lasts.length : Int) ≤ (j : Int)) = false := by simp; omega
            have dj4 : decide ((dX.lasts.length : Int) ≤ (j : Int)) = false := by simp; omega
            have htj := htou j hjn
            have hdz : Below w8.heap.size w8 wr.drew := hbz.drew
            cases hb : ts[j]'(by rw [HTL.out]; exact hjn) with
            | true =>
              rw [hb] at htj
              have HB := Lib.hid hb; clear hb
              go_wp2_with fail
              refine wp_region_noPanic ?_
              refine plan (.rd 0 (.rd 1 (.rd 2 (.rd 3 (.rd 4 (.rd 5 (.rd 6 (.rd 7 (.rd 8 (.rd 9 (.rd 10 (.rd 11 (.rd 12 (.rd 13 (.rd 14 (.rd 15 (.rd 16 (.rd 17 (.rd 18 (.rd 19 (.rd 20 (.rd 21 (.rd 22 (.rd 23 (.rd 24 (.rd 25 (.rd 26 (.rd 27 .done)))))))))))))))))))))))))))) [0, 1, 2, 3, 4, 5, 6, 7, 8, 9, 10, 11, 12, 13, 14, 15, 16, 17, 18, 19, 20, 21, 22, 23, 24, 25, 26, 27] (fun W => Below w8.heap.size w8 W) (by kernel_rfl) (by kernel_rfl) (fun _ _ _ _ _ h => h) hdz ?_
              repeat (refine pl_pure rfl (fun K hK => ?_); go_simp; refine hK _ ?_; clear hK K)
              refine pl_rd (.bool true) rfl rfl (fun W hS => ?_) (fun K hK => ?_)
              · have f0 := (hS.cell (p := ⟨tb, j, none⟩) htb8).trans htj
                simp [go_sem, f0]
              go_simp
              refine hK _ ?_
              clear hK K
              repeat (refine pl_pure rfl (fun K hK => ?_); go_simp; refine hK _ ?_; clear hK K)
              refine pl_done ?_
              refine NoPanic.normal ?_
              go_wp2
              exact ⟨⟨j + 1, hjn, by simp, hdz⟩, by simp [intOf]; omega⟩
            | false =>
              rw [hb] at htj
              have hk : ts[j]? = some false := by rw [List.getElem?_eq_getElem (by rw [HTL.out]; exact hjn), hb]
              have hxx := HCX.out j hk
              have HB := Lib.hid hb; clear hb hk
              have hjx : j < dX.lasts.length := by omega
              have hjl : j < d.lasts.length := by omega
              obtain ⟨a8, rfl, _, ha8, hc8⟩ := hleft.at_ (j := j) (by omega)
              obtain ⟨a1, rfl, _, ha1, hc1⟩ := hwas.at_ (j := j) (by omega)
              have p0 := hc8 j (.int .u8 ((dX.lasts[j]).toNat : Int)) (by simp [bv, hjx])
              have q0 := hc1 j (.int .u8 ((d.lasts[j]).toNat : Int)) (by simp [bv, hjl])
              have hyy : dX.lasts[j] = d.lasts[j] := by
                rw [List.getElem?_eq_getElem hjx, List.getElem?_eq_getElem hjl] at hxx
                exact Option.some.inj hxx
              rw [hyy] at p0
              obtain ⟨y, hy⟩ : ∃ y, y = d.lasts[j] := ⟨_, rfl⟩
              rw [← hy] at p0 q0
              clear hyy hxx hy
              go_wp2_with fail
              refine wp_region_noPanic ?_
              refine plan (.rd 0 (.rd 1 (.rd 2 (.rd 3 (.rd 4 (.rd 5 (.rd 6 (.rd 7 (.rd 8 (.rd 9 (.rd 10 (.rd 11 (.rd 12 (.rd 13 (.rd 14 (.rd 15 (.rd 16 (.rd 17 (.rd 18 (.rd 19 (.rd 20 (.rd 21 (.rd 22 (.rd 23 (.rd 24 (.rd 25 (.rd 26 (.rd 27 .done)))))))))))))))))))))))))))) [0, 1, 2, 3, 4, 5, 6, 7, 8, 9, 10, 11, 12, 13, 14, 15, 16, 17, 18, 19, 20, 21, 22, 23, 24, 25, 26, 27] (fun W => Below w8.heap.size w8 W) (by kernel_rfl) (by kernel_rfl) (fun _ _ _ _ _ h => h) hdz ?_
              repeat (refine pl_pure rfl (fun K hK => ?_); go_simp; refine hK _ ?_; clear hK K)
              refine pl_rd (.bool false) rfl rfl (fun W hS => ?_) (fun K hK => ?_)
              · have f0 := (hS.cell (p := ⟨tb, j, none⟩) htb8).trans htj
                simp [go_sem, f0]
              go_simp
              refine hK _ ?_
              clear hK K
              repeat (refine pl_pure rfl (fun K hK => ?_); go_simp; refine hK _ ?_; clear hK K)
              refine pl_rd (.int .u8 (y.toNat : Int)) rfl rfl (fun W hS => ?_) (fun K hK => ?_)
              · have f0 := (hS.cell (p := a8.add j) (by rw [add_block]; exact ha8)).trans p0
                simp [go_sem, f0]
              go_simp
              refine hK _ ?_
              clear hK K
              repeat (refine pl_pure rfl (fun K hK => ?_); go_simp; refine hK _ ?_; clear hK K)
              refine pl_rd (.int .u8 (y.toNat : Int)) rfl rfl (fun W hS => ?_) (fun K hK => ?_)
              · have f0 := (hS.cell (p := a1.add j) (by rw [add_block]; exact ha1)).trans q0
                simp [go_sem, f0]
              go_simp
              refine hK _ ?_
              clear hK K
              repeat (refine pl_pure rfl (fun K hK => ?_); go_simp; refine hK _ ?_; clear hK K)
              refine pl_done ?_
              refine NoPanic.normal ?_
              go_wp2
              exact ⟨⟨j + 1, hjn, by simp, hdz⟩, by simp [intOf]; omega⟩
          · have hjn' : ¬ (j : Int) < n := by omega
            have hbwz := hbw8.trans (hbz.mono hbw8.size)
            go_wp2_with (go_at_call 12; refine (works_ok _).mono ?_; rintro e w9 ⟨rfl, hb9⟩)
            go_ret
            exact ⟨rfl, hbwz.trans (hb9.mono hbwz.size)⟩

set_option maxRecDepth 100000 in
theorem lasts_out (w : World) (size : Int) (A : Option Addr) (c m : Nat) (h : size < 1 ∨ 400 < size) (keep torn : Int) :
    Calls Try.prog 4 #[.int .i64 size, .slice A m c, .agg #[.int .i64 keep, .int .i64 torn]] w fun e w' => e = .returned (.bool true) ∧ Below w.heap.size w w' := by
  have hb0 : Below w.heap.size w (w.alloc (.cells #[.int .i64 keep, .int .i64 torn] 36)) := (Below.refl _ _).alloc (Nat.le_refl _) _
  have hcase : size < 1 ∨ (¬ size < 1 ∧ 400 < size) := by omega
  clear h
  rcases hcase with g1 | ⟨g1, g2⟩
  · go_enter Try.func4, Try.ntmps4
    go_wp2_with (go_at_call 12; refine (works_ok _).mono ?_; rintro e w1 ⟨rfl, hb⟩)
    go_ret
    exact ⟨rfl, hb0.trans (hb.mono hb0.size)⟩
  · go_enter Try.func4, Try.ntmps4
    go_wp2_with (go_at_call 12; refine (works_ok _).mono ?_; rintro e w1 ⟨rfl, hb⟩)
    go_ret
    exact ⟨rfl, hb0.trans (hb.mono hb0.size)⟩

theorem lasts_walk (w : World) (size : Int) (A : Option Addr) (c : Nat) (xs : List Act8) (hs : Script w A c xs) (keep torn : Int) (hl : xs.length ≤ 9223372036854775807) :
    Calls Try.prog 4 #[.int .i64 size, .slice A xs.length c, .agg #[.int .i64 keep, .int .i64 torn]] w fun e w' => e = .returned (.bool true) ∧ Below w.heap.size w w' := by
  have hb0 : Below w.heap.size w (w.alloc (.cells #[.int .i64 keep, .int .i64 torn] 36)) := (Below.refl _ _).alloc (Nat.le_refl _) _
  have hcase : size < 1 ∨ (¬ size < 1 ∧ 400 < size) ∨ (¬ size < 1 ∧ ¬ 400 < size) := by omega
  rcases hcase with g1 | ⟨g1, g2⟩ | ⟨g1, g2⟩
  · exact lasts_out w size A c xs.length (.inl g1) keep torn
  · exact lasts_out w size A c xs.length (.inr g2) keep torn
  · obtain ⟨n, rfl⟩ : ∃ n : Nat, size = n := ⟨size.toNat, by omega⟩
    exact lasts_main w n (by omega) (by omega) A c xs hs keep torn hl
end Go.Proofs.Ytmajfiljajbipaa
