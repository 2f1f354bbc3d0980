/- DiskCopies: the walk. -/
import Derived.Test.YtmajfiljajbipaaCopy08
import Derived.Test.YtmajfiljajbipaaRefSame08
set_option linter.unusedVariables false
set_option linter.unusedSimpArgs false
namespace Go.Proofs.Ytmajfiljajbipaa
open Go.RowKit

/-- A call in a variable. -/
def BoxX (w : World) (g : Nat) (x : Act8) (B : Option Addr) (bc : Nat) : Prop := w.heap[g]? = some (.cells #[.int .i64 x.what, .int .i64 x.at_, .int .i64 x.n, .slice B x.b.length bc] 40 (0, 0))
theorem BoxX.cells {w : World} {g : Nat} {x : Act8} {B : Option Addr} {bc : Nat} (h : BoxX w g x B bc) : w.cell? ⟨g, 0, none⟩ = some (.int .i64 x.what) ∧ w.cell? ⟨g, 1, none⟩ = some (.int .i64 x.at_) ∧ w.cell? ⟨g, 2, none⟩ = some (.int .i64 x.n) ∧ w.cell? ⟨g, 3, none⟩ = some (.slice B x.b.length bc) := by
  have hb : w.heap[g]? = _ := h
  refine ⟨?_, ?_, ?_, ?_⟩ <;> rw [cell_of_row w g _ _ _ _ hb] <;> rfl
theorem BoxX.lt {w : World} {g : Nat} {x : Act8} {B : Option Addr} {bc : Nat} (h : BoxX w g x B bc) : g < w.heap.size := (Array.getElem?_eq_some_iff.1 h).1
theorem BoxX.keep {M : Nat → Prop} {w w1 : World} {g : Nat} {x : Act8} {B : Option Addr} {bc : Nat} (h : BoxX w g x B bc) (hk : Kp M w w1) (hM : ¬ M g) : BoxX w1 g x B bc := (hk.block g h.lt hM).trans h
theorem BoxX.below {w w1 : World} {g : Nat} {x : Act8} {B : Option Addr} {bc : Nat} (h : BoxX w g x B bc) (hb : Below w.heap.size w w1) : BoxX w1 g x B bc := (hb.block g h.lt).trans h
theorem eqb_symm (a b : Dk) : a.eqb b = b.eqb a := by
  simp only [Dk.eqb]
  congr 1
  apply propext
  constructor <;> rintro ⟨h1, h2, h3, h4⟩ <;> exact ⟨h1.symm, h2.symm, h3.symm, h4.symm⟩
theorem eqb_self (d : Dk) : d.eqb d = true := by simp [Dk.eqb]
theorem script_one {w : World} {g : Nat} {x : Act8} {B : Option Addr} {bc : Nat} (h : BoxX w g x B bc) (hx : By w Any B x.b.length bc x.b) (hI : Act8.I64 x.at_ ∧ Act8.I64 x.n) : Script w (some ⟨g, 0, none⟩) 1 [x] := by
  refine ⟨[.int .i64 x.what, .int .i64 x.at_, .int .i64 x.n, .slice B x.b.length bc], ⟨rfl, by simp, by simp [maxLen], fun h => (by cases h), fun a ha _ => ?_⟩, Rws.one rfl ⟨B, bc, rfl, hx, hI.1, hI.2⟩⟩
  injection ha with ha
  subst ha
  refine ⟨trivial, h.lt, fun j u hu => ?_⟩
  have hb : w.heap[g]? = _ := h
  have hj : j < 4 := by have := (List.getElem?_eq_some_iff.1 hu).1; simpa using this
  have e : (⟨g, 0, none⟩ : Addr).add j = ⟨g, j, none⟩ := by unfold Addr.add; split <;> simp_all
  rw [e, cell_of_row w g _ _ _ _ hb]
  simpa using hu

set_option maxRecDepth 100000 in
set_option maxHeartbeats 4000000 in
theorem copies_main (w : World) (n : Nat) (h1 : 1 ≤ n) (h2 : n ≤ 400) (A : Option Addr) (c : Nat) (xs : List Act8) (hs : Script w A c xs) (x : Act8) (B : Option Addr) (bc : Nat) (hx : By w Any B x.b.length bc x.b) (hI : Act8.I64 x.at_ ∧ Act8.I64 x.n) (hl : xs.length ≤ 9223372036854775807) :
    Calls Try.prog 11 #[.int .i64 (n : Int), .slice A xs.length c, .agg #[.int .i64 x.what, .int .i64 x.at_, .int .i64 x.n, .slice B x.b.length bc]] w fun e w' => e = .returned (.bool true) ∧ Below w.heap.size w w' := by
  have g1 : ¬ (n : Int) < 1 := by omega
  have g2 : ¬ (400 : Int) < n := by omega
  obtain ⟨W0, hW0⟩ : ∃ W0, W0 = (w.alloc (.cells #[.int .i64 x.what, .int .i64 x.at_, .int .i64 x.n, .slice B x.b.length bc] 40)) := ⟨_, rfl⟩
  have hb0 : Below w.heap.size w W0 := by rw [hW0]; exact (Below.refl _ _).alloc (Nat.le_refl _) _
  have X0 : BoxX W0 w.heap.size x B bc := by rw [hW0]; exact heap_alloc_new _ _
  have hz0 : W0.heap.size ≤ w.heap.size + 1 ∧ w.heap.size + 1 ≤ W0.heap.size := by rw [hW0]; simp
  obtain ⟨W1, hW1⟩ : ∃ W1, W1 = (W0.alloc (.cells #[.int .i64 x.what, .int .i64 x.at_, .int .i64 x.n, .slice B x.b.length bc] 40)) := ⟨_, rfl⟩
  have hb01 : Below W0.heap.size W0 W1 := by rw [hW1]; exact (Below.refl _ _).alloc (Nat.le_refl _) _
  have hbw1 : Below w.heap.size w W1 := hb0.trans (hb01.mono hb0.size)
  have X1 : BoxX W1 (w.heap.size + 1) x B bc := by
    have e : W0.heap.size = w.heap.size + 1 := by rw [hW0]; simp
    rw [hW1, ← e]; exact heap_alloc_new _ _
  have hz1 : W1.heap.size ≤ W0.heap.size + 1 ∧ W0.heap.size + 1 ≤ W1.heap.size := by rw [hW1]; simp
  have F := few_any W0 A c xs (hs.below hb0) hl
  have F1 := few_any W1 (some ⟨w.heap.size + 1, 0, none⟩) 1 [x] (script_one X1 (Sl.move hx (Mv.of_below hbw1 _)) hI) (by simp)
  obtain ⟨x0, x1, x2, x3⟩ := X0.cells
  rw [hW0] at F x0 x1 x2 x3
  rw [hW1, hW0, List.length_singleton] at F1
  have HW0 := Lib.hid hW0; clear hW0
  have HW1 := Lib.hid hW1; clear hW1
  go_enter Try.func11, Try.ntmps11
  go_wp2_with fail
  (with_reducible refine F.mono ?_)
  rintro e w' ⟨rfl, r, rfl, hr⟩
  cases r with
  | false =>
    go_wp2_with (go_at_call 12; refine (works_ok _).mono ?_; rintro e w1 ⟨rfl, hb⟩)
    go_ret
    rw [← HW0.out] at hb
    exact ⟨rfl, hb0.trans (hb.mono hb0.size)⟩
  | true =>
    obtain ⟨h50, h3⟩ := hr rfl
    go_wp2_with fail
    (with_reducible refine F1.mono ?_)
    rintro e w' ⟨rfl, r, rfl, hr1⟩
    cases r with
    | false =>
      go_wp2_with (go_at_call 12; refine (works_ok _).mono ?_; rintro e w1 ⟨rfl, hb⟩)
      go_ret
      rw [← HW0.out, ← HW1.out] at hb
      exact ⟨rfl, hbw1.trans (hb.mono hbw1.size)⟩
    | true =>
      obtain ⟨_, hx3⟩ := hr1 rfl
      have hbl : x.b.length ≤ 3000 := hx3 x (by simp)
      clear hx3 hr1 hr x0 x1 x2 x3
      have PL := played_ok W1 n h1 h2 A c xs (hs.below hbw1) h50 h3
      rw [HW1.out, HW0.out] at PL
      go_wp2_with fail
      (with_reducible refine PL.mono ?_)
      rw [← HW0.out, ← HW1.out]
      rintro e w1 ⟨p, S, T, v, d, rfl, hbo, hde, hdw, hb1, hSx⟩
      clear hde PL
      obtain ⟨LA, lc, WA, wc, wcs, rfl, _, _, _⟩ := id hbo.ref
      have hz2 := hb1.size
      have hbww := hbw1.trans (hb1.mono hbw1.size)
      obtain ⟨W2, hW2⟩ : ∃ W2, W2 = w1.alloc (.cells #[.slice LA d.lasts.length lc, .slice WA d.waits.length wc, .int .i64 d.steps, .int .i64 d.armed] 48) := ⟨_, rfl⟩
      have hbW : Below w1.heap.size w1 W2 := by rw [hW2]; exact (Below.refl _ _).alloc (Nat.le_refl _) _
      have B8 : Box4 W2 w1.heap.size (.slice LA d.lasts.length lc) (.slice WA d.waits.length wc) (.int .i64 d.steps) (.int .i64 d.armed) := by rw [hW2]; exact Box4.new _ _ _ _ _
      have hsW : W2.heap.size ≤ w1.heap.size + 1 ∧ w1.heap.size + 1 ≤ W2.heap.size := by rw [hW2]; simp
      have X2 := ((X0.below hb01).below hb1).below hbW
      have hboW := hbo.below hbW
      have hbw2 := hbww.trans (hbW.mono (by omega))
      have HW2 := Lib.hid hW2; clear hW2
      go_wp2_with fail
      rw [← HW2.out]
      refine (copy_S hboW.dsk (by omega)).mono ?_
      rintro e w3 ⟨q, R, S1, S2, rfl, hd3, hc3, hS1, hR, hS2, hb3⟩
      have hz3 := hb3.size
      have hbw3 := hbw2.trans (hb3.mono (by omega))
      have hbo3 := hboW.below hb3
      have hSl := hboW.dsk.1
      have hTl := hbo.tl
      have hR3 := hd3.rl
      have hS1l : ∀ k, S1 k → k < W2.heap.size := fun k h => hSl k (hS1 k h)
      have hS1s : ∀ k, S1 k → W1.heap.size ≤ k := fun k h => hSx k (hS1 k h)
      have hbd : BothR R w3 S1 T p (rv LA d.lasts.length lc WA d.waits.length wc d.steps d.armed) d := { dsk := hd3, tl := hbo3.tl, ref := hbo3.ref, ap := fun k ht hs => hbo3.ap k ht (hS1 k hs), now := hbo3.now }
      have hbc : BothR R w3 S2 T q (rv LA d.lasts.length lc WA d.waits.length wc d.steps d.armed) d := { dsk := hc3, tl := hbo3.tl, ref := hbo3.ref, ap := fun k ht hs => by have := hS2 k hs; have := hTl k ht; omega, now := hbo3.now }
      have hRs : ∀ k, R k → ¬ S1 k := fun k h hs => by obtain ⟨_, fp, h2, _⟩ := hd3; exact h2.2.1 k hs h
      have hRc : ∀ k, R k → ¬ S2 k := fun k h hs => by obtain ⟨_, fp, h2, _⟩ := hc3; exact h2.2.1 k hs h
      have hRW : ∀ k, R k → k < W2.heap.size := fun k h => hSl k (hR k h)
      have SM := same_disk hd3 hc3 (by omega) (by omega)
      rw [eqb_self] at SM
      have B8a := B8.below hb3
      have X3 := X2.below hb3
      clear hd3 hc3 hbo3 hboW B8 X2
      go_wp2_with fail
      (with_reducible refine SM.mono ?_)
      rintro e w4 ⟨rfl, hb4⟩
      have hz4 := hb4.size
      have hbw4 := hbw3.trans (hb4.mono hbw3.size)
      obtain ⟨fq, _, hdq⟩ := (hbc.below hb4).dsk.2
      have LS := lasts_disk hdq
      obtain ⟨hp, hbig, hsame, hfit⟩ := hbd.dsk.props
      have HSA := Lib.hid hsame; clear hsame
      go_wp2_with fail
      (with_reducible refine LS.mono ?_)
      rintro e w5 ⟨A5, c5, rfl, hown5, hb5⟩
      obtain ⟨lb, cc, he, hlb, hlbl⟩ := own_pos hown5 (by rw [HSA.out]; omega)
      injection he with he1 _ he3
      subst he1; subst he3
      have hz5 := hb5.size
      have hbw5 := hbw4.trans (hb5.mono hbw4.size)
      have hbd5 := (hbd.below hb4).below hb5
      have hbc5 := (hbc.below hb4).below hb5
      have B85 := (B8a.below hb4).below hb5
      have X5 := (X3.below hb4).below hb5
      have hll : d.lasts.length ≤ 1048576 := by rw [HSA.out]; exact hbig
      have hz : w5.ownsRow w4.heap.size 5 1 (.slice (some ⟨lb, 0, none⟩) d.lasts.length c5) d.lasts.length ((d.lasts.map (fun b : UInt8 => (b.toNat : Int))).map (Value.int .u8)) := by
        have : (d.lasts.map (fun b : UInt8 => (b.toNat : Int))).map (Value.int .u8) = bv d.lasts := by rw [List.map_map]; rfl
        rw [this]; exact hown5
      clear hown5 LS SM
      have hfit' := Lib.hid hfit; clear hfit
      go_wp2_with fail
      go_loopw [12] (fun i wr => ∃ (k : Nat) (zs : List Int), k ≤ d.lasts.length ∧ i = .int .i64 k ∧ wr.ownsRow w4.heap.size 5 1 (.slice (some ⟨lb, 0, none⟩) d.lasts.length c5) d.lasts.length (zs.map (Value.int .u8)) ∧ Kp (fun b => b = lb) w5 wr)
        (fun i _ => d.lasts.length - (intOf i).toNat)
      case atStart => exact ⟨0, _, Nat.zero_le _, rfl, hz, Kp.refl _ _⟩
      case round =>
        obtain ⟨k, zs, hk, rfl, hz, hkp⟩ := hrel
        by_cases hlt : k < d.lasts.length
        · have hlt' : (k : Int) < d.lasts.length := by omega
          have hzl : zs.length = d.lasts.length := by have := hz.1; simpa using this
          have hzk : zs[k]? = some (zs[k]'(by omega)) := List.getElem?_eq_getElem (by omega)
          have hc : wr.cell? ⟨lb, k, none⟩ = some (.int .u8 (zs[k]'(by omega))) := by
            rw [hz.cellAt k (by omega), List.getElem?_map, hzk]; rfl
          have hf := hz.frozenAt k
          go_wp2
          have hst := (hz.stored k (.int .u8 ((zs[k]'(by omega) + 1) % 256))).1
          exact ⟨⟨k + 1, zs.set k ((zs[k]'(by omega) + 1) % 256), hlt, by simp, by rw [List.map_set]; exact hst, hkp.setCell (p := ⟨lb, k, none⟩) (.inl rfl) _⟩, by simp [intOf]; omega⟩
        · have hlt' : ¬ (k : Int) < d.lasts.length := by omega
          have hzk := hkp.size
          have hbwr : Below w.heap.size w wr := chg_below hbw5 hkp hbw5.size (fun k h => by have := hbw4.size; have h : k = lb := h; omega)
          have hbdr := hbd5.kp hkp (fun k h e => by have := hS1l k h; omega) (fun k h e => by have := hTl k h; omega) (fun k h e => by have := hRW k h; omega)
          have hS2l := hbc.dsk.1
          have hbcr := hbc5.kp hkp (fun k h e => by have := hS2l k h; omega) (fun k h e => by have := hTl k h; omega) (fun k h e => by have := hRW k h; omega)
          have B8r := B85.keep hkp (by omega)
          have Xr := X5.keep hkp (by omega)
          clear hbd5 hbc5 B85 X5 hz
          obtain ⟨x0, x1, x2, x3⟩ := Xr.cells
          obtain ⟨b0, b1, b2, b3, bf⟩ := B8r.cells
          have hbyx : By wr (fun k => k < w.heap.size) B x.b.length bc x.b := Sl.move (Sl.mono hx (ok1 := fun k => k < w.heap.size) (fun k hk _ => hk)) (Mv.of_below hbwr _)
          have AC := act_any (okb := fun k => k < w.heap.size) wr p (rv LA d.lasts.length lc WA d.waits.length wc d.steps d.armed) d hbdr x B bc hbyx (by omega) (by omega) (fun k h1 _ hs => by have := hS1s k hs; omega)
          obtain ⟨dn, hdn⟩ : ∃ dn, dn = d.act x := ⟨_, rfl⟩
          have hdnw : dn.waits.length ≤ d.waits.length + 1 := by rw [hdn]; exact act_waits d x
          rw [← hdn] at AC
          have HDN := Lib.hid hdn; clear hdn
          unfold rv at AC
          go_wp2_with fail
          (with_reducible refine AC.mono ?_)
          rintro e w6 ⟨U, V, v6, rfl, hbd6, hk6, hU, hV⟩
          clear AC
          have hzr : w5.heap.size ≤ wr.heap.size := hkp.size
          have hz6 := hk6.size
          obtain ⟨LN, ln, WN, wn, wcn, rfl, _, _, _⟩ := id hbd6.ref
          have hbw6 := chg_below hbwr hk6 hbwr.size (fun k h => by have := hS1s k h; omega)
          have hbc6 := hbcr.kp hk6 (fun k h e => by have := hS2 k h; have := hS1l k e; omega) (fun k h e => hbdr.ap k h e) (fun k h e => hRs k h e)
          have hSl1 := hbo.dsk.1
          have hzw1 : w1.heap.size ≤ wr.heap.size := by omega
          have B86 := B8r.keep hk6 (fun h => Nat.lt_irrefl _ (hSl1 _ (hS1 _ h)))
          have X6 := Xr.keep hk6 (fun h => by have := hS1s _ h; omega)
          have hrw6 := hbcr.ref
          have hTr := hbcr.tl
          have hr6 : RefV w6 T (rv LA d.lasts.length lc WA d.waits.length wc d.steps d.armed) d := hbc6.ref
          clear hbcr hbdr B8r Xr b0 b1 b2 b3 bf x0 x1 x2 x3
          obtain ⟨b0, b1, b2, b3, bf⟩ := B86.cells
          have a0 := cell_al b0 (.cells #[.slice LN dn.lasts.length ln, .slice WN dn.waits.length wn, .int .i64 dn.steps, .int .i64 dn.armed] 48)
          have a1 := cell_al b1 (.cells #[.slice LN dn.lasts.length ln, .slice WN dn.waits.length wn, .int .i64 dn.steps, .int .i64 dn.armed] 48)
          have a2 := cell_al b2 (.cells #[.slice LN dn.lasts.length ln, .slice WN dn.waits.length wn, .int .i64 dn.steps, .int .i64 dn.armed] 48)
          have a3 := cell_al b3 (.cells #[.slice LN dn.lasts.length ln, .slice WN dn.waits.length wn, .int .i64 dn.steps, .int .i64 dn.armed] 48)
          clear b0 b1 b2 b3 bf
          obtain ⟨W7, hW7⟩ : ∃ W7, W7 = w6.alloc (.cells #[.slice LN dn.lasts.length ln, .slice WN dn.waits.length wn, .int .i64 dn.steps, .int .i64 dn.armed] 48) := ⟨_, rfl⟩
          have hb7 : Below w6.heap.size w6 W7 := by rw [hW7]; exact (Below.refl _ _).alloc (Nat.le_refl _) _
          have B137 : Box4 W7 w6.heap.size (.slice LN dn.lasts.length ln) (.slice WN dn.waits.length wn) (.int .i64 dn.steps) (.int .i64 dn.armed) := by rw [hW7]; exact Box4.new _ _ _ _ _
          have hz7 : W7.heap.size ≤ w6.heap.size + 1 ∧ w6.heap.size + 1 ≤ W7.heap.size := by rw [hW7]; simp
          have HW7 := Lib.hid hW7; clear hW7
          have hbd7 := hbd6.below hb7
          have hbc7 := hbc6.below hb7
          have B87 := B86.below hb7
          have hbw7 := hbw6.trans (hb7.mono hbw6.size)
          have RS := same_ref W7 _ _ d dn hbc7.ref hbd7.ref (by omega) (by omega)
          obtain ⟨r, hr⟩ : ∃ r, r = d.eqb dn := ⟨_, rfl⟩
          rw [← hr] at RS
          unfold rv at RS
          have HR := Lib.hid hr; clear hr
          go_wp2_with fail
          rw [← HW7.out]
          clear a0 a1 a2 a3
          (with_reducible refine RS.mono ?_)
          rintro e w8 ⟨rfl, hb8⟩
          have hbw8 := hbw7.trans (hb8.mono hbw7.size)
          have hbd8 := hbd7.below hb8
          have hbc8 := hbc7.below hb8
          have SD := same_disk hbd8.dsk hbc8.dsk (by omega) (by omega)
          rw [eqb_symm, ← HR.out] at SD
          go_wp2_with fail
          (with_reducible refine SD.mono ?_)
          rintro e w9 ⟨rfl, hb9⟩
          have hbw9 := hbw8.trans (hb9.mono hbw8.size)
          have hbd9 := hbd8.below hb9
          have hbc9 := hbc8.below hb9
          have SC := same_disk hbc9.dsk hbd9.dsk (by omega) (by omega)
          rw [← HR.out] at SC
          have hrr : (r != r) = false := by simp
          go_wp2_with fail
          (with_reducible refine SC.mono ?_)
          rintro e w10 ⟨rfl, hb10⟩
          have hbw10 := hbw9.trans (hb10.mono hbw9.size)
          have hbd10 := hbd9.below hb10
          have hbc10 := hbc9.below hb10
          have B810 := ((B87.below hb8).below hb9).below hb10
          have B1310 := ((B137.below hb8).below hb9).below hb10
          have hz8 := hb8.size
          have hz9 := hb9.size
          have hz10 := hb10.size
          obtain ⟨b0, b1, b2, b3, bf⟩ := B810.cells
          have AF := act_any (okb := fun k => k < w.heap.size) w10 q (rv LA d.lasts.length lc WA d.waits.length wc d.steps d.armed) d hbc10 ⟨1, 0, 0, []⟩ none 0 (Sl.nil _ _ _) (by omega) (by simp) (fun k h1 _ hs => by have := hS2 k hs; have := hbw2.size; omega)
          obtain ⟨dl, hdl⟩ : ∃ dl, dl = d.act ⟨1, 0, 0, []⟩ := ⟨_, rfl⟩
          have hdlw : dl.waits.length ≤ d.waits.length + 1 := by rw [hdl]; exact act_waits d _
          rw [← hdl] at AF
          have HDL := Lib.hid hdl; clear hdl
          unfold rv at AF
          simp only [List.length_nil] at AF
          go_wp2_with fail
          (with_reducible refine AF.mono ?_)
          rintro e w11 ⟨U2, V2, v11, rfl, hbc11, hk11, hU2, hV2⟩
          clear AF b0 b1 b2 b3 bf
          obtain ⟨LL, ll, WL, wl, wcl, rfl, _, _, _⟩ := id hbc11.ref
          have hz11 := hk11.size
          have hS2w : ∀ k, S2 k → k < w3.heap.size := hbc.dsk.1
          have hbw11 := chg_below hbw10 hk11 hbw10.size (fun k h => by have := hS2 k h; have := hbw2.size; omega)
          have hbd11 := hbd10.kp hk11 (fun k h e => by
            have := hS2 k e
            have := hS2w k e
            rcases hU k h with h1 | h1
            · have := hS1l k h1; omega
            · omega) (fun k h e => by
            have := hS2 k e
            have := hS2w k e
            rcases hV k h with h1 | h1
            · have := hTl k h1; omega
            · omega) (fun k h e => hRc k h e)
          have B1311 := B1310.keep hk11 (fun h => by have := hS2w _ h; omega)
          obtain ⟨W12, hW12⟩ : ∃ W12, W12 = w11.alloc (.cells #[.slice LL dl.lasts.length ll, .slice WL dl.waits.length wl, .int .i64 dl.steps, .int .i64 dl.armed] 48) := ⟨_, rfl⟩
          have hb12 : Below w11.heap.size w11 W12 := by rw [hW12]; exact (Below.refl _ _).alloc (Nat.le_refl _) _
          have hbc12 := hbc11.below hb12
          have hbd12 := hbd11.below hb12
          have B1312 := B1311.below hb12
          have hbw12 := hbw11.trans (hb12.mono hbw11.size)
          have IS1 := is_true W12 q _ dl hbc12.dsk hbc12.ref (by omega) hbc12.now
          unfold rv at IS1
          rw [hW12] at IS1
          have HW12 := Lib.hid hW12; clear hW12
          go_wp2_with fail
          (with_reducible refine IS1.mono ?_)
          rw [← HW12.out]
          rintro e w13 ⟨rfl, hb13⟩
          have hbw13 := hbw12.trans (hb13.mono hbw12.size)
          obtain ⟨b0, b1, b2, b3, bf⟩ := (B1312.below hb13).cells
          have hbd13 := hbd12.below hb13
          have IS2 := is_true w13 p _ dn hbd13.dsk hbd13.ref (by omega) hbd13.now
          go_wp2_with (first | (go_at_call 26; refine IS2.mono ?_; rintro e w14 ⟨rfl, hb14⟩) | (go_at_call 12; refine (works_ok _).mono ?_; rintro e w15 ⟨rfl, hb15⟩))
          go_ret
          have hbw14 := hbw13.trans (hb14.mono hbw13.size)
          exact ⟨rfl, hbw14.trans (hb15.mono hbw14.size)⟩

theorem copies_walk (w : World) (size : Int) (A : Option Addr) (c : Nat) (xs : List Act8) (hs : Script w A c xs) (x : Act8) (B : Option Addr) (bc : Nat) (hx : By w Any B x.b.length bc x.b) (hI : Act8.I64 x.at_ ∧ Act8.I64 x.n) (hl : xs.length ≤ 9223372036854775807) :
    Calls Try.prog 11 #[.int .i64 size, .slice A xs.length c, .agg #[.int .i64 x.what, .int .i64 x.at_, .int .i64 x.n, .slice B x.b.length bc]] w fun e w' => e = .returned (.bool true) ∧ Below w.heap.size w w' := by
  have hb0 : Below w.heap.size w (w.alloc (.cells #[.int .i64 x.what, .int .i64 x.at_, .int .i64 x.n, .slice B x.b.length bc] 40)) := (Below.refl _ _).alloc (Nat.le_refl _) _
  have hcase : size < 1 ∨ (¬ size < 1 ∧ 400 < size) ∨ (¬ size < 1 ∧ ¬ 400 < size) := by omega
  rcases hcase with g1 | ⟨g1, g2⟩ | ⟨g1, g2⟩
  · go_enter Try.func11, Try.ntmps11
    go_wp2_with (go_at_call 12; refine (works_ok _).mono ?_; rintro e w1 ⟨rfl, hb⟩)
    go_ret
    exact ⟨rfl, hb0.trans (hb.mono hb0.size)⟩
  · go_enter Try.func11, Try.ntmps11
    go_wp2_with (go_at_call 12; refine (works_ok _).mono ?_; rintro e w1 ⟨rfl, hb⟩)
    go_ret
    exact ⟨rfl, hb0.trans (hb.mono hb0.size)⟩
  · obtain ⟨n, rfl⟩ : ∃ n : Nat, size = n := ⟨size.toNat, by omega⟩
    exact copies_main w n (by omega) (by omega) A c xs hs x B bc hx hI hl
end Go.Proofs.Ytmajfiljajbipaa
